/- scrollbacklaw47.RecordTexts returns true for all arguments, as the statement RecordTextsCardSaid says; there are no conditions beyond those that the statement itself bears. -/
import Derived.Test.YtiglllddgikeiaaGreatDoorHRecordTexts
import Derived.Test.YtiglllddgikeiaaGreatDoorKeRecordTexts
import Derived.Test.YtiglllddgikeiaaGreatDoorTie
import Derived.Test.YtiglllddgikeiaaGreatDoorCards
import Derived.SevenTiedAt
namespace Go.Proofs.YtiglllddgikeiaaGreatDoor
open Go.RowKit Go.Abs Go.ChangeShapes Go.WideShapes
set_option maxRecDepth 100000
theorem recordTexts_goesBy : false = Rows.recordTextsRow.goesBy Tryz.prog := by
  have h : Tryz.prog.goesAt .entering "scrollback/scrollbacklaw47.RecordTexts" = false := by
    simp only [Program.goesAt, Program.goesFrom, j_named_RecordTexts, Option.any_some, j_goes_RecordTexts, Bool.or_false]
  exact h.symm
theorem recordTexts_card_holds : Rows.RecordTextsCardSaid :=
  Claim7.holds_tied_plain_at .later [] [.data, .data, .data, .data, .widerDeep, .widerDeep, .widerDeep, .widerDeep, .sentinel, .sentinel, .widerDeep, .widerDeep, .data, .pinned] true (true, "9c0c2e14843406980959f199b33e630c1d52bab49866e581b206352461632d16") true
    recordTexts_holds (fun _ h => by cases h) (by kernel_rfl) (fun _ h => by cases h) recordTexts_row_tie rfl ⟨rfl, rfl⟩ (by kernel_rfl) rfl
    (fun f fn hf hfn => by
      obtain rfl : f = 3 := Option.some.inj (j_named_RecordTexts.symm.trans hf) |>.symm
      obtain rfl : fn = Tryz.f3 := (Option.some.inj (Tryz.func3.symm.trans hfn)).symm
      exact ⟨Eq.trans j_looks_RecordTexts (by kernel_rfl), fun j t ht => by
        rw [Tryz.params3] at ht
        have hm : t ∈ ([26] : List TypeId) := by simpa using Array.mem_of_getElem? ht
        have hall : (([26] : List TypeId).all fun u => !Tryz.prog.wantsStandIn u) = true := by kernel_rfl
        exact (show Tryz.prog.wantsStandIn t = false by simpa using List.all_eq_true.1 hall t hm)⟩)
    (Eq.trans recordTexts_goesBy (by kernel_rfl))
#print axioms recordTexts_card_holds
end Go.Proofs.YtiglllddgikeiaaGreatDoor
