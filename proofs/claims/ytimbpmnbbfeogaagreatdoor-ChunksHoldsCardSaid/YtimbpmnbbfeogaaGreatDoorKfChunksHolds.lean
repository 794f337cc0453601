/- A part of the proof of ChunksHolds. -/
import Derived.Test.YtimbpmnbbfeogaaGreatDoorChecked
import Derived.Test.YtimbpmnbbfeogaaGreatDoorRows
import Derived.KernelRfl
import Derived.JoinedOf
import Derived.SevenTiedAt
namespace Go.Proofs.YtimbpmnbbfeogaaGreatDoor
set_option maxRecDepth 100000
theorem j_named_ChunksHolds:Tryz.prog.funcNamed "scrollback/scrollbacklaw36.ChunksHolds"=some 3:=by kernel_rfl
theorem j_looks_ChunksHolds:true=Tryz.prog.looks []:=by kernel_rfl
end Go.Proofs.YtimbpmnbbfeogaaGreatDoor
