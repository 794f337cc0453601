/- scrollbacklaw47.RecordReads returns true for all arguments, as the statement RecordReadsCardSaid says; there are no conditions beyond those that the statement itself bears. -/
import Derived.Test.YtiglllddgikeiabGreatDoorHRecordReads
import Derived.Test.YtiglllddgikeiabGreatDoorKeRecordReads
import Derived.Test.YtiglllddgikeiabGreatDoorTie
import Derived.Test.YtiglllddgikeiabGreatDoorCards
import Derived.SevenTiedAt
namespace Go.Proofs.YtiglllddgikeiabGreatDoor
open Go.RowKit Go.Abs Go.ChangeShapes Go.WideShapes
set_option maxRecDepth 100000
theorem recordReads_goesBy : false = Rows.recordReadsRow.goesBy Tryz.prog := by
  have h : Tryz.prog.goesAt .entering "scrollback/scrollbacklaw47.RecordReads" = false := by
    simp only [Program.goesAt, Program.goesFrom, j_named_RecordReads, Option.any_some, j_goes_RecordReads, Bool.or_false]
  exact h.symm
theorem recordReads_card_holds : Rows.RecordReadsCardSaid :=
  Claim7.holds_tied_plain_at .later [] [.data, .data, .data, .data, .widerDeep, .widerDeep, .widerDeep, .widerDeep, .sentinel, .sentinel, .widerDeep, .widerDeep, .data, .pinned] true (true, "d477981c32b95c48587830682c4eff7c656251c632b33990a80f5eec56226172") true
    recordReads_holds (fun _ h => by cases h) (by kernel_rfl) (fun _ h => by cases h) recordReads_row_tie rfl ⟨rfl, rfl⟩ (by kernel_rfl) rfl
    (fun f fn hf hfn => by
      obtain rfl : f = 3 := Option.some.inj (j_named_RecordReads.symm.trans hf) |>.symm
      obtain rfl : fn = Tryz.f3 := (Option.some.inj (Tryz.func3.symm.trans hfn)).symm
      exact ⟨Eq.trans j_looks_RecordReads (by kernel_rfl), fun j t ht => by
        rw [Tryz.params3] at ht
        have hm : t ∈ ([26, 27, 5, 9] : List TypeId) := by simpa using Array.mem_of_getElem? ht
        have hall : (([26, 27, 5, 9] : List TypeId).all fun u => !Tryz.prog.wantsStandIn u) = true := by kernel_rfl
        exact (show Tryz.prog.wantsStandIn t = false by simpa using List.all_eq_true.1 hall t hm)⟩)
    (Eq.trans recordReads_goesBy (by kernel_rfl))
#print axioms recordReads_card_holds
end Go.Proofs.YtiglllddgikeiabGreatDoor
