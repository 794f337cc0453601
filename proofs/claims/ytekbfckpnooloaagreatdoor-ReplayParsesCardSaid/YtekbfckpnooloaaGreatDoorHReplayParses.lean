/- The row of the law holds, without further conditions. -/
import Derived.Test.YtekbfckpnooloaaGreatDoorJ1
import Derived.Test.YtekbfckpnooloaaGreatDoorJ2
import Derived.Test.YtekbfckpnooloaaGreatDoorKaReplayParses
import Derived.Test.YtekbfckpnooloaaGreatDoorKbReplayParses
import Derived.Test.YtekbfckpnooloaaGreatDoorKcReplayParses
import Derived.Test.YtekbfckpnooloaaGreatDoorKdReplayParses
import Derived.Test.YtekbfckpnooloaaGreatDoorKfReplayParses
import Derived.Test.YtekbfckpnooloaaGreatDoorFReplayParses
import Derived.Test.YtekbfckpnooloaaGreatDoorAbsJ
namespace Go.Proofs.YtekbfckpnooloaaGreatDoor
open Go.RowKit Go.Abs Go.ChangeShapes Go.WideShapes
set_option maxRecDepth 100000
theorem replayParses_holds : Rows.ReplayParsesSaid :=
  OpenClaim.holds_of_wide 3 Tryz.f3 rfl rfl rfl rfl rfl rfl rfl ⟨rfl, rfl, rfl, rfl, rfl⟩ rfl rfl rfl rfl rfl j_named_ReplayParses Tryz.func3
    (joined_of (by kernel_rfl) j_laidOut j_mapsRowed (by kernel_rfl) (by kernel_rfl) (by kernel_rfl) (by kernel_rfl) (by kernel_rfl) (by kernel_rfl) j_inPlace_ReplayParses j_unfollowed_ReplayParses j_recurses_ReplayParses j_varsNamed_ReplayParses
      (by kernel_rfl) (by kernel_rfl) (by kernel_rfl) (by kernel_rfl) (by kernel_rfl) (by kernel_rfl) (by kernel_rfl) (by kernel_rfl) (by kernel_rfl) (show (Rows.replayParsesRow.plainKeys == Tryz.prog.plainKeys) = true from j_plainKeys) (by kernel_rfl) j_stopsHeard j_mayEnter (by kernel_rfl) (by kernel_rfl)
      (by kernel_rfl) (by kernel_rfl) (by kernel_rfl) (by kernel_rfl))
    (of_decide_eq_true (by kernel_rfl)) (by unfold Func.isWrapper; first | (rw [if_pos (by decide +kernel)]; kernel_rfl) | (rw [if_neg (by decide +kernel)]; exact ⟨rfl, rfl⟩))
    (fun os started H enc _ => replayParses_lifted os started H enc)
end Go.Proofs.YtekbfckpnooloaaGreatDoor
