/- A part of the proof of ChunksHolds. -/
import Derived.Test.YtimbpmnbbfeogaaGreatDoorJ1
import Derived.Test.YtimbpmnbbfeogaaGreatDoorJ2
import Derived.Test.YtimbpmnbbfeogaaGreatDoorKaChunksHolds
import Derived.Test.YtimbpmnbbfeogaaGreatDoorKbChunksHolds
import Derived.Test.YtimbpmnbbfeogaaGreatDoorKcChunksHolds
import Derived.Test.YtimbpmnbbfeogaaGreatDoorKdChunksHolds
import Derived.Test.YtimbpmnbbfeogaaGreatDoorKfChunksHolds
import Derived.Test.YtimbpmnbbfeogaaGreatDoorFChunksHolds
import Derived.Test.YtimbpmnbbfeogaaGreatDoorZF
namespace Go.Proofs.YtimbpmnbbfeogaaGreatDoor
open Go.RowKit Go.Abs Go.ChangeShapes Go.WideShapes
set_option maxRecDepth 100000
theorem chunksHolds_holds:Rows.ChunksHoldsSaid:=
 OpenClaim.holds_of_wide 3 Tryz.f3 rfl rfl rfl rfl rfl rfl rfl ⟨rfl,rfl,rfl,rfl,rfl⟩ rfl rfl rfl rfl rfl j_named_ChunksHolds Tryz.func3
  (joined_of (by kernel_rfl) j_laidOut j_mapsRowed (by kernel_rfl) (by kernel_rfl) (by kernel_rfl) (by kernel_rfl) (by kernel_rfl) (by kernel_rfl) j_inPlace_ChunksHolds j_unfollowed_ChunksHolds j_recurses_ChunksHolds j_varsNamed_ChunksHolds
   (by kernel_rfl) (by kernel_rfl) (by kernel_rfl) (by kernel_rfl) (by kernel_rfl) (by kernel_rfl) (by kernel_rfl) (by kernel_rfl) (by kernel_rfl) (show(Rows.chunksHoldsRow.plainKeys==Tryz.prog.plainKeys)=true from j_plainKeys) (by kernel_rfl) j_stopsHeard j_mayEnter (by kernel_rfl) (by kernel_rfl)
   (by kernel_rfl) (by kernel_rfl) (by kernel_rfl) (by kernel_rfl))
  (of_decide_eq_true (by kernel_rfl)) (by unfold Func.isWrapper;first|(rw[if_pos (by decide+kernel)];kernel_rfl)|(rw[if_neg (by decide+kernel)];exact⟨rfl,rfl⟩))
  (fun os started H enc _=>chunksHolds_lifted os started H enc)
end Go.Proofs.YtimbpmnbbfeogaaGreatDoor
