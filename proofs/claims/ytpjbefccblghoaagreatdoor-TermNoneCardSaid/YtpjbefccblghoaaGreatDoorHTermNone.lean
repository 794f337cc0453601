/- The row of the law holds, without further conditions. -/
import Derived.Test.YtpjbefccblghoaaGreatDoorJ1
import Derived.Test.YtpjbefccblghoaaGreatDoorJ2
import Derived.Test.YtpjbefccblghoaaGreatDoorKaTermNone
import Derived.Test.YtpjbefccblghoaaGreatDoorKbTermNone
import Derived.Test.YtpjbefccblghoaaGreatDoorKcTermNone
import Derived.Test.YtpjbefccblghoaaGreatDoorKdTermNone
import Derived.Test.YtpjbefccblghoaaGreatDoorKfTermNone
import Derived.Test.YtpjbefccblghoaaGreatDoorFTermNone
import Derived.Test.YtpjbefccblghoaaGreatDoorAbsJ
namespace Go.Proofs.YtpjbefccblghoaaGreatDoor
open Go.RowKit Go.Abs Go.ChangeShapes Go.WideShapes
set_option maxRecDepth 100000
theorem termNone_holds : Rows.TermNoneSaid :=
  OpenClaim.holds_of_wide 3 Tryz.f3 rfl rfl rfl rfl rfl rfl rfl ⟨rfl, rfl, rfl, rfl, rfl⟩ rfl rfl rfl rfl rfl j_named_TermNone Tryz.func3
    (joined_of (by kernel_rfl) j_laidOut j_mapsRowed (by kernel_rfl) (by kernel_rfl) (by kernel_rfl) (by kernel_rfl) (by kernel_rfl) (by kernel_rfl) j_inPlace_TermNone j_unfollowed_TermNone j_recurses_TermNone j_varsNamed_TermNone
      (by kernel_rfl) (by kernel_rfl) (by kernel_rfl) (by kernel_rfl) (by kernel_rfl) (by kernel_rfl) (by kernel_rfl) (by kernel_rfl) (by kernel_rfl) (show (Rows.termNoneRow.plainKeys == Tryz.prog.plainKeys) = true from j_plainKeys) (by kernel_rfl) j_stopsHeard j_mayEnter (by kernel_rfl) (by kernel_rfl)
      (by kernel_rfl) (by kernel_rfl) (by kernel_rfl) (by kernel_rfl))
    (of_decide_eq_true (by kernel_rfl)) (by unfold Func.isWrapper; first | (rw [if_pos (by decide +kernel)]; kernel_rfl) | (rw [if_neg (by decide +kernel)]; exact ⟨rfl, rfl⟩))
    (fun os started H enc _ => termNone_lifted os started H enc)
end Go.Proofs.YtpjbefccblghoaaGreatDoor
