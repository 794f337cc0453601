/- A closed fact of the row, without conditions. -/
import Derived.Test.YtbnnnmohggladabGreatDoorChecked
import Derived.Test.YtbnnnmohggladabGreatDoorRows
import Derived.KernelRfl
import Derived.JoinedOf
import Derived.SevenTiedAt
namespace Go.Proofs.YtbnnnmohggladabGreatDoor
set_option maxRecDepth 100000
theorem j_named_TermNew : Tryz.prog.funcNamed "scrollback/scrollbacklaw34.TermNew" = some 3 := by kernel_rfl
theorem j_looks_TermNew : true = Tryz.prog.looks [] := by kernel_rfl
end Go.Proofs.YtbnnnmohggladabGreatDoor
