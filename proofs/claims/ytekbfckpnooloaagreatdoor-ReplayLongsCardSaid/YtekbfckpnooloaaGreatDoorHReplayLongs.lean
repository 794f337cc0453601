/- The row of the law holds, without further conditions. -/
import Derived.Test.YtekbfckpnooloaaGreatDoorJ1
import Derived.Test.YtekbfckpnooloaaGreatDoorJ2
import Derived.Test.YtekbfckpnooloaaGreatDoorKaReplayLongs
import Derived.Test.YtekbfckpnooloaaGreatDoorKbReplayLongs
import Derived.Test.YtekbfckpnooloaaGreatDoorKcReplayLongs
import Derived.Test.YtekbfckpnooloaaGreatDoorKdReplayLongs
import Derived.Test.YtekbfckpnooloaaGreatDoorKfReplayLongs
import Derived.Test.YtekbfckpnooloaaGreatDoorFReplayLongs
import Derived.Test.YtekbfckpnooloaaGreatDoorAbsJ
namespace Go.Proofs.YtekbfckpnooloaaGreatDoor
open Go.RowKit Go.Abs Go.ChangeShapes Go.WideShapes
set_option maxRecDepth 100000
theorem replayLongs_holds : Rows.ReplayLongsSaid :=
  OpenClaim.holds_of_wide 4 Tryz.f4 rfl rfl rfl rfl rfl rfl rfl ⟨rfl, rfl, rfl, rfl, rfl⟩ rfl rfl rfl rfl rfl j_named_ReplayLongs Tryz.func4
    (joined_of (by kernel_rfl) j_laidOut j_mapsRowed (by kernel_rfl) (by kernel_rfl) (by kernel_rfl) (by kernel_rfl) (by kernel_rfl) (by kernel_rfl) j_inPlace_ReplayLongs j_unfollowed_ReplayLongs j_recurses_ReplayLongs j_varsNamed_ReplayLongs
      (by kernel_rfl) (by kernel_rfl) (by kernel_rfl) (by kernel_rfl) (by kernel_rfl) (by kernel_rfl) (by kernel_rfl) (by kernel_rfl) (by kernel_rfl) (show (Rows.replayLongsRow.plainKeys == Tryz.prog.plainKeys) = true from j_plainKeys) (by kernel_rfl) j_stopsHeard j_mayEnter (by kernel_rfl) (by kernel_rfl)
      (by kernel_rfl) (by kernel_rfl) (by kernel_rfl) (by kernel_rfl))
    (of_decide_eq_true (by kernel_rfl)) (by unfold Func.isWrapper; first | (rw [if_pos (by decide +kernel)]; kernel_rfl) | (rw [if_neg (by decide +kernel)]; exact ⟨rfl, rfl⟩))
    (fun os started H enc _ => replayLongs_lifted os started H enc)
end Go.Proofs.YtekbfckpnooloaaGreatDoor
