/- The row of the law holds, without further conditions. -/
import Derived.Test.YtjohgmnabemakaaGreatDoorJ1
import Derived.Test.YtjohgmnabemakaaGreatDoorJ2
import Derived.Test.YtjohgmnabemakaaGreatDoorKaRecordEdits
import Derived.Test.YtjohgmnabemakaaGreatDoorKbRecordEdits
import Derived.Test.YtjohgmnabemakaaGreatDoorKcRecordEdits
import Derived.Test.YtjohgmnabemakaaGreatDoorKdRecordEdits
import Derived.Test.YtjohgmnabemakaaGreatDoorKfRecordEdits
import Derived.Test.YtjohgmnabemakaaGreatDoorFRecordEdits
import Derived.Test.YtjohgmnabemakaaGreatDoorAbsJ
namespace Go.Proofs.YtjohgmnabemakaaGreatDoor
open Go.RowKit Go.Abs Go.ChangeShapes Go.WideShapes
set_option maxRecDepth 100000
theorem recordEdits_holds : Rows.RecordEditsSaid :=
  OpenClaim.holds_of_wide 3 Tryz.f3 rfl rfl rfl rfl rfl rfl rfl ⟨rfl, rfl, rfl, rfl, rfl⟩ rfl rfl rfl rfl rfl j_named_RecordEdits Tryz.func3
    (joined_of (by kernel_rfl) j_laidOut j_mapsRowed (by kernel_rfl) (by kernel_rfl) (by kernel_rfl) (by kernel_rfl) (by kernel_rfl) (by kernel_rfl) j_inPlace_RecordEdits j_unfollowed_RecordEdits j_recurses_RecordEdits j_varsNamed_RecordEdits
      (by kernel_rfl) (by kernel_rfl) (by kernel_rfl) (by kernel_rfl) (by kernel_rfl) (by kernel_rfl) (by kernel_rfl) (by kernel_rfl) (by kernel_rfl) (show (Rows.recordEditsRow.plainKeys == Tryz.prog.plainKeys) = true from j_plainKeys) (by kernel_rfl) j_stopsHeard j_mayEnter (by kernel_rfl) (by kernel_rfl)
      (by kernel_rfl) (by kernel_rfl) (by kernel_rfl) (by kernel_rfl))
    (of_decide_eq_true (by kernel_rfl)) (by unfold Func.isWrapper; first | (rw [if_pos (by decide +kernel)]; kernel_rfl) | (rw [if_neg (by decide +kernel)]; exact ⟨rfl, rfl⟩))
    (fun os started H enc _ => recordEdits_lifted os started H enc)
end Go.Proofs.YtjohgmnabemakaaGreatDoor
