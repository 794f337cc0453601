/- Closed facts of the row, without conditions. -/
import Derived.Test.YtalcfhehahaknaaGreatDoorChecked
import Derived.Test.YtalcfhehahaknaaGreatDoorRows
import Derived.KernelRfl
import Derived.Test.YtalcfhehahaknaaGreatDoorAbsD
import Derived.SevenTiedAt
namespace Go.Proofs.YtalcfhehahaknaaGreatDoor
open Go.RowKit Go.Abs Go.ChangeShapes
set_option maxRecDepth 100000
theorem j_plainKeys : (Rows.evictNoneRow.plainKeys == Tryz.prog.plainKeys) = true := by kernel_rfl
theorem j_stopsHeard : Tryz.prog.stopsHeard = true := by kernel_rfl
theorem j_mayEnter : Tryz.prog.mayEnter = true := by kernel_rfl
end Go.Proofs.YtalcfhehahaknaaGreatDoor
