/- The row of the law holds, without further conditions. -/
import Derived.Test.YtiglllddgikeiaaGreatDoorJ1
import Derived.Test.YtiglllddgikeiaaGreatDoorJ2
import Derived.Test.YtiglllddgikeiaaGreatDoorKaRecordTexts
import Derived.Test.YtiglllddgikeiaaGreatDoorKbRecordTexts
import Derived.Test.YtiglllddgikeiaaGreatDoorKcRecordTexts
import Derived.Test.YtiglllddgikeiaaGreatDoorKdRecordTexts
import Derived.Test.YtiglllddgikeiaaGreatDoorKfRecordTexts
import Derived.Test.YtiglllddgikeiaaGreatDoorFRecordTexts
import Derived.Test.YtiglllddgikeiaaGreatDoorAbsJ
namespace Go.Proofs.YtiglllddgikeiaaGreatDoor
open Go.RowKit Go.Abs Go.ChangeShapes Go.WideShapes
set_option maxRecDepth 100000
theorem recordTexts_holds : Rows.RecordTextsSaid :=
  OpenClaim.holds_of_wide 3 Tryz.f3 rfl rfl rfl rfl rfl rfl rfl ⟨rfl, rfl, rfl, rfl, rfl⟩ rfl rfl rfl rfl rfl j_named_RecordTexts Tryz.func3
    (joined_of (by kernel_rfl) j_laidOut j_mapsRowed (by kernel_rfl) (by kernel_rfl) (by kernel_rfl) (by kernel_rfl) (by kernel_rfl) (by kernel_rfl) j_inPlace_RecordTexts j_unfollowed_RecordTexts j_recurses_RecordTexts j_varsNamed_RecordTexts
      (by kernel_rfl) (by kernel_rfl) (by kernel_rfl) (by kernel_rfl) (by kernel_rfl) (by kernel_rfl) (by kernel_rfl) (by kernel_rfl) (by kernel_rfl) (show (Rows.recordTextsRow.plainKeys == Tryz.prog.plainKeys) = true from j_plainKeys) (by kernel_rfl) j_stopsHeard j_mayEnter (by kernel_rfl) (by kernel_rfl)
      (by kernel_rfl) (by kernel_rfl) (by kernel_rfl) (by kernel_rfl))
    (of_decide_eq_true (by kernel_rfl)) (by unfold Func.isWrapper; first | (rw [if_pos (by decide +kernel)]; kernel_rfl) | (rw [if_neg (by decide +kernel)]; exact ⟨rfl, rfl⟩))
    (fun os started H enc _ => recordTexts_lifted os started H enc)
end Go.Proofs.YtiglllddgikeiaaGreatDoor
