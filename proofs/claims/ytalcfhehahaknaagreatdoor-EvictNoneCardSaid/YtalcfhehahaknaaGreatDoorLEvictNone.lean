/- scrollbacklaw37.EvictNone returns true for all arguments, as the statement EvictNoneCardSaid says; there are no conditions beyond those that the statement itself bears. -/
import Derived.Test.YtalcfhehahaknaaGreatDoorHEvictNone
import Derived.Test.YtalcfhehahaknaaGreatDoorKeEvictNone
import Derived.Test.YtalcfhehahaknaaGreatDoorTie
import Derived.Test.YtalcfhehahaknaaGreatDoorCards
import Derived.SevenTiedAt
namespace Go.Proofs.YtalcfhehahaknaaGreatDoor
open Go.RowKit Go.Abs Go.ChangeShapes Go.WideShapes
set_option maxRecDepth 100000
theorem evictNone_goesBy : false = Rows.evictNoneRow.goesBy Tryz.prog := by
  have h : Tryz.prog.goesAt .entering "scrollback/scrollbacklaw37.EvictNone" = false := by
    simp only [Program.goesAt, Program.goesFrom, j_named_EvictNone, Option.any_some, j_goes_EvictNone, Bool.or_false]
  exact h.symm
theorem evictNone_card_holds : Rows.EvictNoneCardSaid :=
  Claim7.holds_tied_plain_at .later [] [.data, .data, .data, .data, .widerDeep, .widerDeep, .widerDeep, .widerDeep, .sentinel, .sentinel, .widerDeep, .widerDeep, .data, .pinned] true (true, "87d2da0211d833dc0a98699cb7bb0f1bf7086a70933968935023901b73dea218") true
    evictNone_holds (fun _ h => by cases h) (by kernel_rfl) (fun _ h => by cases h) evictNone_row_tie rfl ⟨rfl, rfl⟩ (by kernel_rfl) rfl
    (fun f fn hf hfn => by
      obtain rfl : f = 3 := Option.some.inj (j_named_EvictNone.symm.trans hf) |>.symm
      obtain rfl : fn = Tryz.f3 := (Option.some.inj (Tryz.func3.symm.trans hfn)).symm
      exact ⟨Eq.trans j_looks_EvictNone (by kernel_rfl), fun j t ht => by
        rw [Tryz.params3] at ht
        have hm : t ∈ ([3, 23] : List TypeId) := by simpa using Array.mem_of_getElem? ht
        have hall : (([3, 23] : List TypeId).all fun u => !Tryz.prog.wantsStandIn u) = true := by kernel_rfl
        exact (show Tryz.prog.wantsStandIn t = false by simpa using List.all_eq_true.1 hall t hm)⟩)
    (Eq.trans evictNone_goesBy (by kernel_rfl))
#print axioms evictNone_card_holds
end Go.Proofs.YtalcfhehahaknaaGreatDoor
