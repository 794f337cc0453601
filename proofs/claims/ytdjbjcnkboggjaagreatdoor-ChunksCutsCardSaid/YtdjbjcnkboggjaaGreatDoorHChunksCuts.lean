/- The row of the law holds, without further conditions. -/
import Derived.Test.YtdjbjcnkboggjaaGreatDoorJ1
import Derived.Test.YtdjbjcnkboggjaaGreatDoorJ2
import Derived.Test.YtdjbjcnkboggjaaGreatDoorKaChunksCuts
import Derived.Test.YtdjbjcnkboggjaaGreatDoorKbChunksCuts
import Derived.Test.YtdjbjcnkboggjaaGreatDoorKcChunksCuts
import Derived.Test.YtdjbjcnkboggjaaGreatDoorKdChunksCuts
import Derived.Test.YtdjbjcnkboggjaaGreatDoorKfChunksCuts
import Derived.Test.YtdjbjcnkboggjaaGreatDoorFChunksCuts
import Derived.Test.YtdjbjcnkboggjaaGreatDoorAbsJ
namespace Go.Proofs.YtdjbjcnkboggjaaGreatDoor
open Go.RowKit Go.Abs Go.ChangeShapes Go.WideShapes
set_option maxRecDepth 100000
theorem chunksCuts_holds : Rows.ChunksCutsSaid :=
  OpenClaim.holds_of_wide 3 Tryz.f3 rfl rfl rfl rfl rfl rfl rfl ⟨rfl, rfl, rfl, rfl, rfl⟩ rfl rfl rfl rfl rfl j_named_ChunksCuts Tryz.func3
    (joined_of (by kernel_rfl) j_laidOut j_mapsRowed (by kernel_rfl) (by kernel_rfl) (by kernel_rfl) (by kernel_rfl) (by kernel_rfl) (by kernel_rfl) j_inPlace_ChunksCuts j_unfollowed_ChunksCuts j_recurses_ChunksCuts j_varsNamed_ChunksCuts
      (by kernel_rfl) (by kernel_rfl) (by kernel_rfl) (by kernel_rfl) (by kernel_rfl) (by kernel_rfl) (by kernel_rfl) (by kernel_rfl) (by kernel_rfl) (show (Rows.chunksCutsRow.plainKeys == Tryz.prog.plainKeys) = true from j_plainKeys) (by kernel_rfl) j_stopsHeard j_mayEnter (by kernel_rfl) (by kernel_rfl)
      (by kernel_rfl) (by kernel_rfl) (by kernel_rfl) (by kernel_rfl))
    (of_decide_eq_true (by kernel_rfl)) (by unfold Func.isWrapper; first | (rw [if_pos (by decide +kernel)]; kernel_rfl) | (rw [if_neg (by decide +kernel)]; exact ⟨rfl, rfl⟩))
    (fun os started H enc _ => chunksCuts_lifted os started H enc)
end Go.Proofs.YtdjbjcnkboggjaaGreatDoor
