/- The row of the law holds, without further conditions. -/
import Derived.Test.YtekbfckpnooloaaGreatDoorJ1
import Derived.Test.YtekbfckpnooloaaGreatDoorJ2
import Derived.Test.YtekbfckpnooloaaGreatDoorKaReplayNone
import Derived.Test.YtekbfckpnooloaaGreatDoorKbReplayNone
import Derived.Test.YtekbfckpnooloaaGreatDoorKcReplayNone
import Derived.Test.YtekbfckpnooloaaGreatDoorKdReplayNone
import Derived.Test.YtekbfckpnooloaaGreatDoorKfReplayNone
import Derived.Test.YtekbfckpnooloaaGreatDoorFReplayNone
import Derived.Test.YtekbfckpnooloaaGreatDoorAbsJ
namespace Go.Proofs.YtekbfckpnooloaaGreatDoor
open Go.RowKit Go.Abs Go.ChangeShapes Go.WideShapes
set_option maxRecDepth 100000
theorem replayNone_holds : Rows.ReplayNoneSaid :=
  OpenClaim.holds_of_wide 5 Tryz.f5 rfl rfl rfl rfl rfl rfl rfl ⟨rfl, rfl, rfl, rfl, rfl⟩ rfl rfl rfl rfl rfl j_named_ReplayNone Tryz.func5
    (joined_of (by kernel_rfl) j_laidOut j_mapsRowed (by kernel_rfl) (by kernel_rfl) (by kernel_rfl) (by kernel_rfl) (by kernel_rfl) (by kernel_rfl) j_inPlace_ReplayNone j_unfollowed_ReplayNone j_recurses_ReplayNone j_varsNamed_ReplayNone
      (by kernel_rfl) (by kernel_rfl) (by kernel_rfl) (by kernel_rfl) (by kernel_rfl) (by kernel_rfl) (by kernel_rfl) (by kernel_rfl) (by kernel_rfl) (show (Rows.replayNoneRow.plainKeys == Tryz.prog.plainKeys) = true from j_plainKeys) (by kernel_rfl) j_stopsHeard j_mayEnter (by kernel_rfl) (by kernel_rfl)
      (by kernel_rfl) (by kernel_rfl) (by kernel_rfl) (by kernel_rfl))
    (of_decide_eq_true (by kernel_rfl)) (by unfold Func.isWrapper; first | (rw [if_pos (by decide +kernel)]; kernel_rfl) | (rw [if_neg (by decide +kernel)]; exact ⟨rfl, rfl⟩))
    (fun os started H enc _ => replayNone_lifted os started H enc)
end Go.Proofs.YtekbfckpnooloaaGreatDoor
