/- A closed fact of the row, without conditions. -/
import Derived.Test.YtiglllddgikeiabGreatDoorChecked
import Derived.Test.YtiglllddgikeiabGreatDoorRows
import Derived.KernelRfl
import Derived.JoinedOf
import Derived.SevenTiedAt
namespace Go.Proofs.YtiglllddgikeiabGreatDoor
set_option maxRecDepth 100000
theorem j_named_RecordReads : Tryz.prog.funcNamed "scrollback/scrollbacklaw47.RecordReads" = some 3 := by kernel_rfl
theorem j_looks_RecordReads : true = Tryz.prog.looks [] := by kernel_rfl
end Go.Proofs.YtiglllddgikeiabGreatDoor
