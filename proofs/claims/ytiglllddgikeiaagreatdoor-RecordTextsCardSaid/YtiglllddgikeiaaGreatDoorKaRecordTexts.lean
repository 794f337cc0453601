/- A closed fact of the row, without conditions. -/
import Derived.Test.YtiglllddgikeiaaGreatDoorChecked
import Derived.Test.YtiglllddgikeiaaGreatDoorRows
import Derived.KernelRfl
import Derived.JoinedOf
import Derived.SevenTiedAt
namespace Go.Proofs.YtiglllddgikeiaaGreatDoor
set_option maxRecDepth 100000
theorem j_inPlace_RecordTexts : (Rows.recordTextsRow.inPlace == Tryz.prog.inPlace 3) = true := by kernel_rfl
end Go.Proofs.YtiglllddgikeiaaGreatDoor
