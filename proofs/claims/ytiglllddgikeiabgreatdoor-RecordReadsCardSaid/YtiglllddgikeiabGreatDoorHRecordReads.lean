/- The row of the law holds, without further conditions. -/
import Derived.Test.YtiglllddgikeiabGreatDoorJ1
import Derived.Test.YtiglllddgikeiabGreatDoorJ2
import Derived.Test.YtiglllddgikeiabGreatDoorKaRecordReads
import Derived.Test.YtiglllddgikeiabGreatDoorKbRecordReads
import Derived.Test.YtiglllddgikeiabGreatDoorKcRecordReads
import Derived.Test.YtiglllddgikeiabGreatDoorKdRecordReads
import Derived.Test.YtiglllddgikeiabGreatDoorKfRecordReads
import Derived.Test.YtiglllddgikeiabGreatDoorFRecordReads
import Derived.Test.YtiglllddgikeiabGreatDoorAbsJ
namespace Go.Proofs.YtiglllddgikeiabGreatDoor
open Go.RowKit Go.Abs Go.ChangeShapes Go.WideShapes
set_option maxRecDepth 100000
theorem recordReads_holds : Rows.RecordReadsSaid :=
  OpenClaim.holds_of_wide 3 Tryz.f3 rfl rfl rfl rfl rfl rfl rfl ⟨rfl, rfl, rfl, rfl, rfl⟩ rfl rfl rfl rfl rfl j_named_RecordReads Tryz.func3
    (joined_of (by kernel_rfl) j_laidOut j_mapsRowed (by kernel_rfl) (by kernel_rfl) (by kernel_rfl) (by kernel_rfl) (by kernel_rfl) (by kernel_rfl) j_inPlace_RecordReads j_unfollowed_RecordReads j_recurses_RecordReads j_varsNamed_RecordReads
      (by kernel_rfl) (by kernel_rfl) (by kernel_rfl) (by kernel_rfl) (by kernel_rfl) (by kernel_rfl) (by kernel_rfl) (by kernel_rfl) (by kernel_rfl) (show (Rows.recordReadsRow.plainKeys == Tryz.prog.plainKeys) = true from j_plainKeys) (by kernel_rfl) j_stopsHeard j_mayEnter (by kernel_rfl) (by kernel_rfl)
      (by kernel_rfl) (by kernel_rfl) (by kernel_rfl) (by kernel_rfl))
    (of_decide_eq_true (by kernel_rfl)) (by unfold Func.isWrapper; first | (rw [if_pos (by decide +kernel)]; kernel_rfl) | (rw [if_neg (by decide +kernel)]; exact ⟨rfl, rfl⟩))
    (fun os started H enc _ => recordReads_lifted os started H enc)
end Go.Proofs.YtiglllddgikeiabGreatDoor
