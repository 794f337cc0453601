/- A closed fact of the row, without conditions. -/
import Derived.Test.YtalcfhehahaknaaGreatDoorChecked
import Derived.Test.YtalcfhehahaknaaGreatDoorRows
import Derived.KernelRfl
import Derived.Test.YtalcfhehahaknaaGreatDoorAbsD
import Derived.SevenTiedAt
namespace Go.Proofs.YtalcfhehahaknaaGreatDoor
open Go.RowKit Go.Abs Go.ChangeShapes
set_option maxRecDepth 100000
theorem j_named_EvictNone : Tryz.prog.funcNamed "scrollback/scrollbacklaw37.EvictNone" = some 3 := by kernel_rfl
theorem j_looks_EvictNone : true = Tryz.prog.looks [] := by kernel_rfl
end Go.Proofs.YtalcfhehahaknaaGreatDoor
