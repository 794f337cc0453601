/- The row of the law holds, without further conditions. -/
import Derived.Test.YtalcfhehahaknaaGreatDoorJ1
import Derived.Test.YtalcfhehahaknaaGreatDoorJ2
import Derived.Test.YtalcfhehahaknaaGreatDoorKaEvictNone
import Derived.Test.YtalcfhehahaknaaGreatDoorKbEvictNone
import Derived.Test.YtalcfhehahaknaaGreatDoorKcEvictNone
import Derived.Test.YtalcfhehahaknaaGreatDoorKdEvictNone
import Derived.Test.YtalcfhehahaknaaGreatDoorKfEvictNone
import Derived.Test.YtalcfhehahaknaaGreatDoorFEvictNone
import Derived.Test.YtalcfhehahaknaaGreatDoorAbsD
namespace Go.Proofs.YtalcfhehahaknaaGreatDoor
open Go.RowKit Go.Abs Go.ChangeShapes Go.WideShapes
set_option maxRecDepth 100000
theorem evictNone_holds : Rows.EvictNoneSaid :=
  OpenClaim.holds_of_wide 3 Tryz.f3 rfl rfl rfl rfl rfl rfl rfl ⟨rfl, rfl, rfl, rfl, rfl⟩ rfl rfl rfl rfl rfl j_named_EvictNone Tryz.func3
    (joined_of (by kernel_rfl) j_laidOut j_mapsRowed (by kernel_rfl) (by kernel_rfl) (by kernel_rfl) (by kernel_rfl) (by kernel_rfl) (by kernel_rfl) j_inPlace_EvictNone j_unfollowed_EvictNone j_recurses_EvictNone j_varsNamed_EvictNone
      (by kernel_rfl) (by kernel_rfl) (by kernel_rfl) (by kernel_rfl) (by kernel_rfl) (by kernel_rfl) (by kernel_rfl) (by kernel_rfl) (by kernel_rfl) (show (Rows.evictNoneRow.plainKeys == Tryz.prog.plainKeys) = true from j_plainKeys) (by kernel_rfl) j_stopsHeard j_mayEnter (by kernel_rfl) (by kernel_rfl)
      (by kernel_rfl) (by kernel_rfl) (by kernel_rfl) (by kernel_rfl))
    (of_decide_eq_true (by kernel_rfl)) (by unfold Func.isWrapper; first | (rw [if_pos (by decide +kernel)]; kernel_rfl) | (rw [if_neg (by decide +kernel)]; exact ⟨rfl, rfl⟩))
    (fun os started H enc _ => evictNone_lifted os started H enc)
end Go.Proofs.YtalcfhehahaknaaGreatDoor
