/- scrollbacklaw47.RecordMany returns true for all arguments, as the statement RecordManyCardSaid says; there are no conditions beyond those that the statement itself bears. -/
import Derived.Test.YtemodjeooieehaaGreatDoorHRecordMany
import Derived.Test.YtemodjeooieehaaGreatDoorKeRecordMany
import Derived.Test.YtemodjeooieehaaGreatDoorTie
import Derived.Test.YtemodjeooieehaaGreatDoorCards
import Derived.SevenTiedAt
namespace Go.Proofs.YtemodjeooieehaaGreatDoor
open Go.RowKit Go.Abs Go.ChangeShapes Go.WideShapes
set_option maxRecDepth 100000
theorem recordMany_goesBy : false = Rows.recordManyRow.goesBy Tryz.prog := by
  have h : Tryz.prog.goesAt .entering "scrollback/scrollbacklaw47.RecordMany" = false := by
    simp only [Program.goesAt, Program.goesFrom, j_named_RecordMany, Option.any_some, j_goes_RecordMany, Bool.or_false]
  exact h.symm
theorem recordMany_card_holds : Rows.RecordManyCardSaid :=
  Claim7.holds_tied_plain_at .later [] [.data, .data, .data, .data, .widerDeep, .widerDeep, .widerDeep, .widerDeep, .sentinel, .sentinel, .widerDeep, .widerDeep, .data, .pinned] true (true, "035a0789158de95dedb66008ba3982eb60691df373a1d615606ef58db4a794c5") true
    recordMany_holds (fun _ h => by cases h) (by kernel_rfl) (fun _ h => by cases h) recordMany_row_tie rfl ⟨rfl, rfl⟩ (by kernel_rfl) rfl
    (fun f fn hf hfn => by
      obtain rfl : f = 3 := Option.some.inj (j_named_RecordMany.symm.trans hf) |>.symm
      obtain rfl : fn = Tryz.f3 := (Option.some.inj (Tryz.func3.symm.trans hfn)).symm
      exact ⟨Eq.trans j_looks_RecordMany (by kernel_rfl), fun j t ht => by
        rw [Tryz.params3] at ht
        have hm : t ∈ ([3, 3] : List TypeId) := by simpa using Array.mem_of_getElem? ht
        have hall : (([3, 3] : List TypeId).all fun u => !Tryz.prog.wantsStandIn u) = true := by kernel_rfl
        exact (show Tryz.prog.wantsStandIn t = false by simpa using List.all_eq_true.1 hall t hm)⟩)
    (Eq.trans recordMany_goesBy (by kernel_rfl))
#print axioms recordMany_card_holds
end Go.Proofs.YtemodjeooieehaaGreatDoor
