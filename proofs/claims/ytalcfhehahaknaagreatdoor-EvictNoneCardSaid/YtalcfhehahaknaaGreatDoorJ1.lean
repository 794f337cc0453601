/- Closed facts of the row, without conditions. -/
import Derived.Test.YtalcfhehahaknaaGreatDoorChecked
import Derived.Test.YtalcfhehahaknaaGreatDoorRows
import Derived.KernelRfl
import Derived.Test.YtalcfhehahaknaaGreatDoorAbsD
import Derived.SevenTiedAt
namespace Go.Proofs.YtalcfhehahaknaaGreatDoor
open Go.RowKit Go.Abs Go.ChangeShapes
set_option maxRecDepth 100000
theorem j_laidOut : laidOutB Tryz.prog = true := by kernel_rfl
theorem j_mapsRowed : mapsRowed Tryz.prog = true := by kernel_rfl
end Go.Proofs.YtalcfhehahaknaaGreatDoor
