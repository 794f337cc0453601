/- A part of the proof of ChunksHolds. -/
import Derived.Test.YtimbpmnbbfeogaaGreatDoorGood
namespace Go.Proofs.YtimbpmnbbfeogaaGreatDoor
open Go.RowKit Go.Abs Go.ChangeShapes
set_option maxRecDepth 100000
noncomputable def startWorld (os:Os):World:={World.doorLaid Tryz.prog 152 os with heap:=((World.doorLaid Tryz.prog 152 os).heap).setIfInBounds 11 (.cells (concs (fun _ _=>none) tab11.vs).toArray 411 (0,0))}
theorem own:ownKnob Tryz.prog.godebug=none:=by kernel_rfl
end Go.Proofs.YtimbpmnbbfeogaaGreatDoor
