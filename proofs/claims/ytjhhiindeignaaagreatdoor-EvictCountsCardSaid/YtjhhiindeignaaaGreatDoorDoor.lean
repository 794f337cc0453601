/- A part of the proof of EvictCounts. -/
import Derived.Test.YtjhhiindeignaaaGreatDoorWorld
import Derived.Test.YtjhhiindeignaaaGreatDoorGA
namespace Go.Proofs.YtjhhiindeignaaaGreatDoor
open Go.RowKit Go.Abs Go.ChangeShapes
set_option maxRecDepth 100000
theorem door_met (os:Os) (args:Array Value):laidMetH Tryz.prog Rows.evictCountsRow.laid ((startWorld os).forCall (fun _ _=>0) ⟨#[],args,[]⟩).memory:=
 laidMetH_of_parts3 (fuel:=8) (laidMet_runs 8 15 (by kernel_rfl) (by kernel_rfl)) (by kernel_rfl) (by kernel_rfl)
end Go.Proofs.YtjhhiindeignaaaGreatDoor
