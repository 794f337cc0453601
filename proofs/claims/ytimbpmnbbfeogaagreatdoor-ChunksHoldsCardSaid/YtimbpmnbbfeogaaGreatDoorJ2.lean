/- A part of the proof of ChunksHolds. -/
import Derived.Test.YtimbpmnbbfeogaaGreatDoorChecked
import Derived.Test.YtimbpmnbbfeogaaGreatDoorRows
import Derived.KernelRfl
import Derived.JoinedOf
import Derived.SevenTiedAt
namespace Go.Proofs.YtimbpmnbbfeogaaGreatDoor
set_option maxRecDepth 100000
theorem j_plainKeys:(Rows.chunksHoldsRow.plainKeys==Tryz.prog.plainKeys)=true:=by kernel_rfl
theorem j_stopsHeard:Tryz.prog.stopsHeard=true:=by kernel_rfl
theorem j_mayEnter:Tryz.prog.mayEnter=true:=by kernel_rfl
end Go.Proofs.YtimbpmnbbfeogaaGreatDoor
