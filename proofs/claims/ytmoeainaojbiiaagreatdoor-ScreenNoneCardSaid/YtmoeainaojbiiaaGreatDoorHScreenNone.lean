/- The row of the law holds, without further conditions. -/
import Derived.Test.YtmoeainaojbiiaaGreatDoorJ1
import Derived.Test.YtmoeainaojbiiaaGreatDoorJ2
import Derived.Test.YtmoeainaojbiiaaGreatDoorKaScreenNone
import Derived.Test.YtmoeainaojbiiaaGreatDoorKbScreenNone
import Derived.Test.YtmoeainaojbiiaaGreatDoorKcScreenNone
import Derived.Test.YtmoeainaojbiiaaGreatDoorKdScreenNone
import Derived.Test.YtmoeainaojbiiaaGreatDoorKfScreenNone
import Derived.Test.YtmoeainaojbiiaaGreatDoorFScreenNone
import Derived.Test.YtmoeainaojbiiaaGreatDoorAbsJ
namespace Go.Proofs.YtmoeainaojbiiaaGreatDoor
open Go.RowKit Go.Abs Go.ChangeShapes Go.WideShapes
set_option maxRecDepth 100000
theorem screenNone_holds : Rows.ScreenNoneSaid :=
  OpenClaim.holds_of_wide 4 Tryz.f4 rfl rfl rfl rfl rfl rfl rfl ⟨rfl, rfl, rfl, rfl, rfl⟩ rfl rfl rfl rfl rfl j_named_ScreenNone Tryz.func4
    (joined_of (by kernel_rfl) j_laidOut j_mapsRowed (by kernel_rfl) (by kernel_rfl) (by kernel_rfl) (by kernel_rfl) (by kernel_rfl) (by kernel_rfl) j_inPlace_ScreenNone j_unfollowed_ScreenNone j_recurses_ScreenNone j_varsNamed_ScreenNone
      (by kernel_rfl) (by kernel_rfl) (by kernel_rfl) (by kernel_rfl) (by kernel_rfl) (by kernel_rfl) (by kernel_rfl) (by kernel_rfl) (by kernel_rfl) (show (Rows.screenNoneRow.plainKeys == Tryz.prog.plainKeys) = true from j_plainKeys) (by kernel_rfl) j_stopsHeard j_mayEnter (by kernel_rfl) (by kernel_rfl)
      (by kernel_rfl) (by kernel_rfl) (by kernel_rfl) (by kernel_rfl))
    (of_decide_eq_true (by kernel_rfl)) (by unfold Func.isWrapper; first | (rw [if_pos (by decide +kernel)]; kernel_rfl) | (rw [if_neg (by decide +kernel)]; exact ⟨rfl, rfl⟩))
    (fun os started H enc _ => screenNone_lifted os started H enc)
end Go.Proofs.YtmoeainaojbiiaaGreatDoor
