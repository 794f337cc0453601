/- A closed fact of the row, without conditions. -/
import Derived.Test.YtemodjeooieehaaGreatDoorChecked
import Derived.Test.YtemodjeooieehaaGreatDoorRows
import Derived.KernelRfl
import Derived.JoinedOf
import Derived.SevenTiedAt
namespace Go.Proofs.YtemodjeooieehaaGreatDoor
set_option maxRecDepth 100000
theorem j_named_RecordMany : Tryz.prog.funcNamed "scrollback/scrollbacklaw47.RecordMany" = some 3 := by kernel_rfl
theorem j_looks_RecordMany : true = Tryz.prog.looks [] := by kernel_rfl
end Go.Proofs.YtemodjeooieehaaGreatDoor
