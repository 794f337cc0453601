/- The row of the law holds, without further conditions. -/
import Derived.Test.YtmoeainaojbiiaaGreatDoorJ1
import Derived.Test.YtmoeainaojbiiaaGreatDoorJ2
import Derived.Test.YtmoeainaojbiiaaGreatDoorKaScreenReplies
import Derived.Test.YtmoeainaojbiiaaGreatDoorKbScreenReplies
import Derived.Test.YtmoeainaojbiiaaGreatDoorKcScreenReplies
import Derived.Test.YtmoeainaojbiiaaGreatDoorKdScreenReplies
import Derived.Test.YtmoeainaojbiiaaGreatDoorKfScreenReplies
import Derived.Test.YtmoeainaojbiiaaGreatDoorFScreenReplies
import Derived.Test.YtmoeainaojbiiaaGreatDoorAbsJ
namespace Go.Proofs.YtmoeainaojbiiaaGreatDoor
open Go.RowKit Go.Abs Go.ChangeShapes Go.WideShapes
set_option maxRecDepth 100000
theorem screenReplies_holds : Rows.ScreenRepliesSaid :=
  OpenClaim.holds_of_wide 3 Tryz.f3 rfl rfl rfl rfl rfl rfl rfl ⟨rfl, rfl, rfl, rfl, rfl⟩ rfl rfl rfl rfl rfl j_named_ScreenReplies Tryz.func3
    (joined_of (by kernel_rfl) j_laidOut j_mapsRowed (by kernel_rfl) (by kernel_rfl) (by kernel_rfl) (by kernel_rfl) (by kernel_rfl) (by kernel_rfl) j_inPlace_ScreenReplies j_unfollowed_ScreenReplies j_recurses_ScreenReplies j_varsNamed_ScreenReplies
      (by kernel_rfl) (by kernel_rfl) (by kernel_rfl) (by kernel_rfl) (by kernel_rfl) (by kernel_rfl) (by kernel_rfl) (by kernel_rfl) (by kernel_rfl) (show (Rows.screenRepliesRow.plainKeys == Tryz.prog.plainKeys) = true from j_plainKeys) (by kernel_rfl) j_stopsHeard j_mayEnter (by kernel_rfl) (by kernel_rfl)
      (by kernel_rfl) (by kernel_rfl) (by kernel_rfl) (by kernel_rfl))
    (of_decide_eq_true (by kernel_rfl)) (by unfold Func.isWrapper; first | (rw [if_pos (by decide +kernel)]; kernel_rfl) | (rw [if_neg (by decide +kernel)]; exact ⟨rfl, rfl⟩))
    (fun os started H enc _ => screenReplies_lifted os started H enc)
end Go.Proofs.YtmoeainaojbiiaaGreatDoor
