/- scrollbacklaw34.TermNew returns true for all arguments, as the statement TermNewCardSaid says; there are no conditions beyond those that the statement itself bears. -/
import Derived.Test.YtbnnnmohggladabGreatDoorHTermNew
import Derived.Test.YtbnnnmohggladabGreatDoorKeTermNew
import Derived.Test.YtbnnnmohggladabGreatDoorTie
import Derived.Test.YtbnnnmohggladabGreatDoorCards
import Derived.SevenTiedAt
namespace Go.Proofs.YtbnnnmohggladabGreatDoor
open Go.RowKit Go.Abs Go.ChangeShapes Go.WideShapes
set_option maxRecDepth 100000
theorem termNew_goesBy : false = Rows.termNewRow.goesBy Tryz.prog := by
  have h : Tryz.prog.goesAt .entering "scrollback/scrollbacklaw34.TermNew" = false := by
    simp only [Program.goesAt, Program.goesFrom, j_named_TermNew, Option.any_some, j_goes_TermNew, Bool.or_false]
  exact h.symm
theorem termNew_card_holds : Rows.TermNewCardSaid :=
  Claim7.holds_tied_plain_at .later [] [.data, .data, .data, .data, .widerDeep, .widerDeep, .widerDeep, .widerDeep, .sentinel, .sentinel, .widerDeep, .widerDeep, .data, .pinned] true (true, "f338e4c9a88f3054f9457d75bccd6bfda206168c663cd3b7c31c880b249218d4") true
    termNew_holds (fun _ h => by cases h) (by kernel_rfl) (fun _ h => by cases h) termNew_row_tie rfl ⟨rfl, rfl⟩ (by kernel_rfl) rfl
    (fun f fn hf hfn => by
      obtain rfl : f = 3 := Option.some.inj (j_named_TermNew.symm.trans hf) |>.symm
      obtain rfl : fn = Tryz.f3 := (Option.some.inj (Tryz.func3.symm.trans hfn)).symm
      exact ⟨Eq.trans j_looks_TermNew (by kernel_rfl), fun j t ht => by
        rw [Tryz.params3] at ht
        have hm : t ∈ ([23] : List TypeId) := by simpa using Array.mem_of_getElem? ht
        have hall : (([23] : List TypeId).all fun u => !Tryz.prog.wantsStandIn u) = true := by kernel_rfl
        exact (show Tryz.prog.wantsStandIn t = false by simpa using List.all_eq_true.1 hall t hm)⟩)
    (Eq.trans termNew_goesBy (by kernel_rfl))
#print axioms termNew_card_holds
end Go.Proofs.YtbnnnmohggladabGreatDoor
