/- A closed fact of the row, without conditions. -/
import Derived.Test.YtiglllddgikeiabGreatDoorChecked
import Derived.Test.YtiglllddgikeiabGreatDoorRows
import Derived.KernelRfl
import Derived.JoinedOf
import Derived.SevenTiedAt
namespace Go.Proofs.YtiglllddgikeiabGreatDoor
set_option maxRecDepth 100000
theorem j_varsNamed_RecordReads : (Rows.recordReadsRow.named == Tryz.prog.varsNamed 3) = true := by kernel_rfl
end Go.Proofs.YtiglllddgikeiabGreatDoor
