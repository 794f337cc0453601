/- A part of the proof of ChunksHolds. -/
import Derived.Test.YtimbpmnbbfeogaaGreatDoorChecked
import Derived.Test.YtimbpmnbbfeogaaGreatDoorRows
import Derived.KernelRfl
import Derived.JoinedOf
import Derived.SevenTiedAt
namespace Go.Proofs.YtimbpmnbbfeogaaGreatDoor
set_option maxRecDepth 100000
theorem j_unfollowed_ChunksHolds:(Rows.chunksHoldsRow.unfollowed==Tryz.prog.unfollowed 3)=true:=by kernel_rfl
end Go.Proofs.YtimbpmnbbfeogaaGreatDoor
