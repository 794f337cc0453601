/- A part of the proof of EvictCounts. -/
import Derived.Test.YtjhhiindeignaaaGreatDoorGood
namespace Go.Proofs.YtjhhiindeignaaaGreatDoor
open Go.RowKit Go.Abs Go.ChangeShapes
set_option maxRecDepth 100000
noncomputable def startWorld (os:Os):World:={World.doorLaid Tryz.prog 152 os with heap:=((World.doorLaid Tryz.prog 152 os).heap).setIfInBounds 11 (.cells (concs (fun _ _=>none) tab11.vs).toArray 413 (0,0))}
theorem own:ownKnob Tryz.prog.godebug=none:=by kernel_rfl
end Go.Proofs.YtjhhiindeignaaaGreatDoor
