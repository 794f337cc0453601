/- A part of the proof of ChunksHolds. -/
import Derived.Test.YtimbpmnbbfeogaaGreatDoorChecked
import Derived.Test.YtimbpmnbbfeogaaGreatDoorRows
import Derived.KernelRfl
import Derived.JoinedOf
import Derived.SevenTiedAt
namespace Go.Proofs.YtimbpmnbbfeogaaGreatDoor
set_option maxRecDepth 100000
theorem j_goes_ChunksHolds:Tryz.prog.goes 3=false:=by kernel_rfl
end Go.Proofs.YtimbpmnbbfeogaaGreatDoor
