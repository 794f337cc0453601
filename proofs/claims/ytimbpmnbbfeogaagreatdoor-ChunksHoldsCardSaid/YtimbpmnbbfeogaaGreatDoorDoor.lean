/- A part of the proof of ChunksHolds. -/
import Derived.Test.YtimbpmnbbfeogaaGreatDoorWorld
import Derived.Test.YtimbpmnbbfeogaaGreatDoorZF
namespace Go.Proofs.YtimbpmnbbfeogaaGreatDoor
open Go.RowKit Go.Abs Go.ChangeShapes
set_option maxRecDepth 100000
theorem door_met (os:Os) (args:Array Value):laidMetH Tryz.prog Rows.chunksHoldsRow.laid ((startWorld os).forCall (fun _ _=>0) ⟨#[],args,[]⟩).memory:=
 laidMetH_of_parts3 (fuel:=8) (laidMet_runs 8 15 (by kernel_rfl) (by kernel_rfl)) (by kernel_rfl) (by kernel_rfl)
end Go.Proofs.YtimbpmnbbfeogaaGreatDoor
