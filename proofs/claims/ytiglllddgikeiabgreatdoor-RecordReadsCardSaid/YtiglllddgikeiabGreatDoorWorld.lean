/- A world in which the listed variables lie as listed. -/
import Derived.Test.YtiglllddgikeiabGreatDoorGood
namespace Go.Proofs.YtiglllddgikeiabGreatDoor
open Go.RowKit Go.Abs Go.ChangeShapes
set_option maxRecDepth 100000
/-- A world in which all listed variables lie: what the program lays, and the pinned tables. -/
noncomputable def startWorld (os : Os) : World := { World.doorLaid Tryz.prog 152 os with heap := ((World.doorLaid Tryz.prog 152 os).heap).setIfInBounds 3 (.cells (concs (fun _ _ => none) tab11.vs).toArray 327 (0, 0)) }
theorem own : ownKnob Tryz.prog.godebug = none := by kernel_rfl
end Go.Proofs.YtiglllddgikeiabGreatDoor
