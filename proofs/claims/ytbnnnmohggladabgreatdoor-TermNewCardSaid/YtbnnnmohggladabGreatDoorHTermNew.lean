/- The row of the law holds, without further conditions. -/
import Derived.Test.YtbnnnmohggladabGreatDoorJ1
import Derived.Test.YtbnnnmohggladabGreatDoorJ2
import Derived.Test.YtbnnnmohggladabGreatDoorKaTermNew
import Derived.Test.YtbnnnmohggladabGreatDoorKbTermNew
import Derived.Test.YtbnnnmohggladabGreatDoorKcTermNew
import Derived.Test.YtbnnnmohggladabGreatDoorKdTermNew
import Derived.Test.YtbnnnmohggladabGreatDoorKfTermNew
import Derived.Test.YtbnnnmohggladabGreatDoorFTermNew
import Derived.Test.YtbnnnmohggladabGreatDoorAbsJ
namespace Go.Proofs.YtbnnnmohggladabGreatDoor
open Go.RowKit Go.Abs Go.ChangeShapes Go.WideShapes
set_option maxRecDepth 100000
theorem termNew_holds : Rows.TermNewSaid :=
  OpenClaim.holds_of_wide 3 Tryz.f3 rfl rfl rfl rfl rfl rfl rfl ⟨rfl, rfl, rfl, rfl, rfl⟩ rfl rfl rfl rfl rfl j_named_TermNew Tryz.func3
    (joined_of (by kernel_rfl) j_laidOut j_mapsRowed (by kernel_rfl) (by kernel_rfl) (by kernel_rfl) (by kernel_rfl) (by kernel_rfl) (by kernel_rfl) j_inPlace_TermNew j_unfollowed_TermNew j_recurses_TermNew j_varsNamed_TermNew
      (by kernel_rfl) (by kernel_rfl) (by kernel_rfl) (by kernel_rfl) (by kernel_rfl) (by kernel_rfl) (by kernel_rfl) (by kernel_rfl) (by kernel_rfl) (show (Rows.termNewRow.plainKeys == Tryz.prog.plainKeys) = true from j_plainKeys) (by kernel_rfl) j_stopsHeard j_mayEnter (by kernel_rfl) (by kernel_rfl)
      (by kernel_rfl) (by kernel_rfl) (by kernel_rfl) (by kernel_rfl))
    (of_decide_eq_true (by kernel_rfl)) (by unfold Func.isWrapper; first | (rw [if_pos (by decide +kernel)]; kernel_rfl) | (rw [if_neg (by decide +kernel)]; exact ⟨rfl, rfl⟩))
    (fun os started H enc _ => termNew_lifted os started H enc)
end Go.Proofs.YtbnnnmohggladabGreatDoor
