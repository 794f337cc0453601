/- The row of the law holds, without further conditions. -/
import Derived.Test.YtinjdlpboahifaaGreatDoorJ1
import Derived.Test.YtinjdlpboahifaaGreatDoorJ2
import Derived.Test.YtinjdlpboahifaaGreatDoorKaScreenNew
import Derived.Test.YtinjdlpboahifaaGreatDoorKbScreenNew
import Derived.Test.YtinjdlpboahifaaGreatDoorKcScreenNew
import Derived.Test.YtinjdlpboahifaaGreatDoorKdScreenNew
import Derived.Test.YtinjdlpboahifaaGreatDoorKfScreenNew
import Derived.Test.YtinjdlpboahifaaGreatDoorFScreenNew
import Derived.Test.YtinjdlpboahifaaGreatDoorAbsJ
namespace Go.Proofs.YtinjdlpboahifaaGreatDoor
open Go.RowKit Go.Abs Go.ChangeShapes Go.WideShapes
set_option maxRecDepth 100000
theorem screenNew_holds : Rows.ScreenNewSaid :=
  OpenClaim.holds_of_wide 3 Tryz.f3 rfl rfl rfl rfl rfl rfl rfl ⟨rfl, rfl, rfl, rfl, rfl⟩ rfl rfl rfl rfl rfl j_named_ScreenNew Tryz.func3
    (joined_of (by kernel_rfl) j_laidOut j_mapsRowed (by kernel_rfl) (by kernel_rfl) (by kernel_rfl) (by kernel_rfl) (by kernel_rfl) (by kernel_rfl) j_inPlace_ScreenNew j_unfollowed_ScreenNew j_recurses_ScreenNew j_varsNamed_ScreenNew
      (by kernel_rfl) (by kernel_rfl) (by kernel_rfl) (by kernel_rfl) (by kernel_rfl) (by kernel_rfl) (by kernel_rfl) (by kernel_rfl) (by kernel_rfl) (show (Rows.screenNewRow.plainKeys == Tryz.prog.plainKeys) = true from j_plainKeys) (by kernel_rfl) j_stopsHeard j_mayEnter (by kernel_rfl) (by kernel_rfl)
      (by kernel_rfl) (by kernel_rfl) (by kernel_rfl) (by kernel_rfl))
    (of_decide_eq_true (by kernel_rfl)) (by unfold Func.isWrapper; first | (rw [if_pos (by decide +kernel)]; kernel_rfl) | (rw [if_neg (by decide +kernel)]; exact ⟨rfl, rfl⟩))
    (fun os started H enc _ => screenNew_lifted os started H enc)
end Go.Proofs.YtinjdlpboahifaaGreatDoor
