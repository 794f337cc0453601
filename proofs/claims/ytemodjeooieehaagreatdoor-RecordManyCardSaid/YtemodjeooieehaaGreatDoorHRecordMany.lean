/- The row of the law holds, without further conditions. -/
import Derived.Test.YtemodjeooieehaaGreatDoorJ1
import Derived.Test.YtemodjeooieehaaGreatDoorJ2
import Derived.Test.YtemodjeooieehaaGreatDoorKaRecordMany
import Derived.Test.YtemodjeooieehaaGreatDoorKbRecordMany
import Derived.Test.YtemodjeooieehaaGreatDoorKcRecordMany
import Derived.Test.YtemodjeooieehaaGreatDoorKdRecordMany
import Derived.Test.YtemodjeooieehaaGreatDoorKfRecordMany
import Derived.Test.YtemodjeooieehaaGreatDoorFRecordMany
import Derived.Test.YtemodjeooieehaaGreatDoorAbsJ
namespace Go.Proofs.YtemodjeooieehaaGreatDoor
open Go.RowKit Go.Abs Go.ChangeShapes Go.WideShapes
set_option maxRecDepth 100000
theorem recordMany_holds : Rows.RecordManySaid :=
  OpenClaim.holds_of_wide 3 Tryz.f3 rfl rfl rfl rfl rfl rfl rfl ⟨rfl, rfl, rfl, rfl, rfl⟩ rfl rfl rfl rfl rfl j_named_RecordMany Tryz.func3
    (joined_of (by kernel_rfl) j_laidOut j_mapsRowed (by kernel_rfl) (by kernel_rfl) (by kernel_rfl) (by kernel_rfl) (by kernel_rfl) (by kernel_rfl) j_inPlace_RecordMany j_unfollowed_RecordMany j_recurses_RecordMany j_varsNamed_RecordMany
      (by kernel_rfl) (by kernel_rfl) (by kernel_rfl) (by kernel_rfl) (by kernel_rfl) (by kernel_rfl) (by kernel_rfl) (by kernel_rfl) (by kernel_rfl) (show (Rows.recordManyRow.plainKeys == Tryz.prog.plainKeys) = true from j_plainKeys) (by kernel_rfl) j_stopsHeard j_mayEnter (by kernel_rfl) (by kernel_rfl)
      (by kernel_rfl) (by kernel_rfl) (by kernel_rfl) (by kernel_rfl))
    (of_decide_eq_true (by kernel_rfl)) (by unfold Func.isWrapper; first | (rw [if_pos (by decide +kernel)]; kernel_rfl) | (rw [if_neg (by decide +kernel)]; exact ⟨rfl, rfl⟩))
    (fun os started H enc _ => recordMany_lifted os started H enc)
end Go.Proofs.YtemodjeooieehaaGreatDoor
