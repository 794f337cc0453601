/- A closed fact of the row, without conditions. -/
import Derived.Test.YtemodjeooieehaaGreatDoorChecked
import Derived.Test.YtemodjeooieehaaGreatDoorRows
import Derived.KernelRfl
import Derived.JoinedOf
import Derived.SevenTiedAt
namespace Go.Proofs.YtemodjeooieehaaGreatDoor
set_option maxRecDepth 100000
theorem j_recurses_RecordMany : (Rows.recordManyRow.recurses == Tryz.prog.recurses 3) = true := by kernel_rfl
end Go.Proofs.YtemodjeooieehaaGreatDoor
