/- scrollback/scrollbacklaw33.ScreenReplies returns true for all arguments, as the statement ScreenRepliesCardSaid says; there are no conditions beyond those that the statement itself bears. -/
import Derived.Test.YtmoeainaojbiiaaGreatDoorHScreenReplies
import Derived.Test.YtmoeainaojbiiaaGreatDoorKeScreenReplies
import Derived.Test.YtmoeainaojbiiaaGreatDoorTie
import Derived.Test.YtmoeainaojbiiaaGreatDoorCards
import Derived.SevenTiedAt
namespace Go.Proofs.YtmoeainaojbiiaaGreatDoor
open Go.RowKit Go.Abs Go.ChangeShapes Go.WideShapes
set_option maxRecDepth 100000
theorem screenReplies_goesBy : false = Rows.screenRepliesRow.goesBy Tryz.prog := by
  have h : Tryz.prog.goesAt .entering "scrollback/scrollbacklaw33.ScreenReplies" = false := by
    simp only [Program.goesAt, Program.goesFrom, j_named_ScreenReplies, Option.any_some, j_goes_ScreenReplies, Bool.or_false]
  exact h.symm
theorem screenReplies_card_holds : Rows.ScreenRepliesCardSaid :=
  Claim7.holds_tied_plain_at .later [] [.data, .data, .data, .data, .widerDeep, .widerDeep, .widerDeep, .widerDeep, .sentinel, .sentinel, .widerDeep, .widerDeep, .data, .pinned] true (true, "07a61348050ac19c27bd4fd55839f64e3202878f1e9ce09aeb020d27a3a00670") true
    screenReplies_holds (fun _ h => by cases h) (by kernel_rfl) (fun _ h => by cases h) screenReplies_row_tie rfl ⟨rfl, rfl⟩ (by kernel_rfl) rfl
    (fun f fn hf hfn => by
      obtain rfl : f = 3 := Option.some.inj (j_named_ScreenReplies.symm.trans hf) |>.symm
      obtain rfl : fn = Tryz.f3 := (Option.some.inj (Tryz.func3.symm.trans hfn)).symm
      exact ⟨Eq.trans j_looks_ScreenReplies (by kernel_rfl), fun j t ht => by
        rw [Tryz.params3] at ht
        have hm : t ∈ ([22] : List TypeId) := by simpa using Array.mem_of_getElem? ht
        have hall : (([22] : List TypeId).all fun u => !Tryz.prog.wantsStandIn u) = true := by kernel_rfl
        exact (show Tryz.prog.wantsStandIn t = false by simpa using List.all_eq_true.1 hall t hm)⟩)
    (Eq.trans screenReplies_goesBy (by kernel_rfl))
#print axioms screenReplies_card_holds
end Go.Proofs.YtmoeainaojbiiaaGreatDoor
