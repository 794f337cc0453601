/- A closed fact of the row, without conditions. -/
import Derived.Test.YtiglllddgikeiaaGreatDoorChecked
import Derived.Test.YtiglllddgikeiaaGreatDoorRows
import Derived.KernelRfl
import Derived.JoinedOf
import Derived.SevenTiedAt
namespace Go.Proofs.YtiglllddgikeiaaGreatDoor
set_option maxRecDepth 100000
theorem j_named_RecordTexts : Tryz.prog.funcNamed "scrollback/scrollbacklaw47.RecordTexts" = some 3 := by kernel_rfl
theorem j_looks_RecordTexts : true = Tryz.prog.looks [] := by kernel_rfl
end Go.Proofs.YtiglllddgikeiaaGreatDoor
