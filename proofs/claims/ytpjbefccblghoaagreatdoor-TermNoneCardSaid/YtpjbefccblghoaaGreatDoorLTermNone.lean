/- scrollback/scrollbacklaw34.TermNone returns true for all arguments, as the statement TermNoneCardSaid says; there are no conditions beyond those that the statement itself bears. -/
import Derived.Test.YtpjbefccblghoaaGreatDoorHTermNone
import Derived.Test.YtpjbefccblghoaaGreatDoorKeTermNone
import Derived.Test.YtpjbefccblghoaaGreatDoorTie
import Derived.Test.YtpjbefccblghoaaGreatDoorCards
import Derived.SevenTiedAt
namespace Go.Proofs.YtpjbefccblghoaaGreatDoor
open Go.RowKit Go.Abs Go.ChangeShapes Go.WideShapes
set_option maxRecDepth 100000
theorem termNone_goesBy : false = Rows.termNoneRow.goesBy Tryz.prog := by
  have h : Tryz.prog.goesAt .entering "scrollback/scrollbacklaw34.TermNone" = false := by
    simp only [Program.goesAt, Program.goesFrom, j_named_TermNone, Option.any_some, j_goes_TermNone, Bool.or_false]
  exact h.symm
theorem termNone_card_holds : Rows.TermNoneCardSaid :=
  Claim7.holds_tied_plain_at .later [] [.data, .data, .data, .data, .widerDeep, .widerDeep, .widerDeep, .widerDeep, .sentinel, .sentinel, .widerDeep, .widerDeep, .data, .pinned] true (true, "e0f71a922cb11e5ed7380d0064981a197fa3c329e3abaf56a0938b84a1903213") true
    termNone_holds (fun _ h => by cases h) (by kernel_rfl) (fun _ h => by cases h) termNone_row_tie rfl ⟨rfl, rfl⟩ (by kernel_rfl) rfl
    (fun f fn hf hfn => by
      obtain rfl : f = 3 := Option.some.inj (j_named_TermNone.symm.trans hf) |>.symm
      obtain rfl : fn = Tryz.f3 := (Option.some.inj (Tryz.func3.symm.trans hfn)).symm
      exact ⟨Eq.trans j_looks_TermNone (by kernel_rfl), fun j t ht => by
        rw [Tryz.params3] at ht
        have hm : t ∈ ([3, 3] : List TypeId) := by simpa using Array.mem_of_getElem? ht
        have hall : (([3, 3] : List TypeId).all fun u => !Tryz.prog.wantsStandIn u) = true := by kernel_rfl
        exact (show Tryz.prog.wantsStandIn t = false by simpa using List.all_eq_true.1 hall t hm)⟩)
    (Eq.trans termNone_goesBy (by kernel_rfl))
#print axioms termNone_card_holds
end Go.Proofs.YtpjbefccblghoaaGreatDoor
