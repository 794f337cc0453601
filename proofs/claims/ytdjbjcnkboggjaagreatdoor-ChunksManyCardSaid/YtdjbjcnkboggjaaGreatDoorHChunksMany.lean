/- The row of the law holds, without further conditions. -/
import Derived.Test.YtdjbjcnkboggjaaGreatDoorJ1
import Derived.Test.YtdjbjcnkboggjaaGreatDoorJ2
import Derived.Test.YtdjbjcnkboggjaaGreatDoorKaChunksMany
import Derived.Test.YtdjbjcnkboggjaaGreatDoorKbChunksMany
import Derived.Test.YtdjbjcnkboggjaaGreatDoorKcChunksMany
import Derived.Test.YtdjbjcnkboggjaaGreatDoorKdChunksMany
import Derived.Test.YtdjbjcnkboggjaaGreatDoorKfChunksMany
import Derived.Test.YtdjbjcnkboggjaaGreatDoorFChunksMany
import Derived.Test.YtdjbjcnkboggjaaGreatDoorAbsJ
namespace Go.Proofs.YtdjbjcnkboggjaaGreatDoor
open Go.RowKit Go.Abs Go.ChangeShapes Go.WideShapes
set_option maxRecDepth 100000
theorem chunksMany_holds : Rows.ChunksManySaid :=
  OpenClaim.holds_of_wide 4 Tryz.f4 rfl rfl rfl rfl rfl rfl rfl ⟨rfl, rfl, rfl, rfl, rfl⟩ rfl rfl rfl rfl rfl j_named_ChunksMany Tryz.func4
    (joined_of (by kernel_rfl) j_laidOut j_mapsRowed (by kernel_rfl) (by kernel_rfl) (by kernel_rfl) (by kernel_rfl) (by kernel_rfl) (by kernel_rfl) j_inPlace_ChunksMany j_unfollowed_ChunksMany j_recurses_ChunksMany j_varsNamed_ChunksMany
      (by kernel_rfl) (by kernel_rfl) (by kernel_rfl) (by kernel_rfl) (by kernel_rfl) (by kernel_rfl) (by kernel_rfl) (by kernel_rfl) (by kernel_rfl) (show (Rows.chunksManyRow.plainKeys == Tryz.prog.plainKeys) = true from j_plainKeys) (by kernel_rfl) j_stopsHeard j_mayEnter (by kernel_rfl) (by kernel_rfl)
      (by kernel_rfl) (by kernel_rfl) (by kernel_rfl) (by kernel_rfl))
    (of_decide_eq_true (by kernel_rfl)) (by unfold Func.isWrapper; first | (rw [if_pos (by decide +kernel)]; kernel_rfl) | (rw [if_neg (by decide +kernel)]; exact ⟨rfl, rfl⟩))
    (fun os started H enc _ => chunksMany_lifted os started H enc)
end Go.Proofs.YtdjbjcnkboggjaaGreatDoor
