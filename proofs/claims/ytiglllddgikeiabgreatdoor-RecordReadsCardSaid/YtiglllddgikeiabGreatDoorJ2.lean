/- Closed facts of the row, without conditions. -/
import Derived.Test.YtiglllddgikeiabGreatDoorChecked
import Derived.Test.YtiglllddgikeiabGreatDoorRows
import Derived.KernelRfl
import Derived.JoinedOf
import Derived.SevenTiedAt
namespace Go.Proofs.YtiglllddgikeiabGreatDoor
set_option maxRecDepth 100000
theorem j_plainKeys : (Rows.recordReadsRow.plainKeys == Tryz.prog.plainKeys) = true := by kernel_rfl
theorem j_stopsHeard : Tryz.prog.stopsHeard = true := by kernel_rfl
theorem j_mayEnter : Tryz.prog.mayEnter = true := by kernel_rfl
end Go.Proofs.YtiglllddgikeiabGreatDoor
