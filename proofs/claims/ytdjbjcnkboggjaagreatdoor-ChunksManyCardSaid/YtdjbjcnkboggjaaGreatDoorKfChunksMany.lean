/- A closed fact of the row, without conditions. -/
import Derived.Test.YtdjbjcnkboggjaaGreatDoorChecked
import Derived.Test.YtdjbjcnkboggjaaGreatDoorRows
import Derived.KernelRfl
import Derived.JoinedOf
import Derived.SevenTiedAt
namespace Go.Proofs.YtdjbjcnkboggjaaGreatDoor
set_option maxRecDepth 100000
theorem j_named_ChunksMany : Tryz.prog.funcNamed "scrollback/scrollbacklaw36.ChunksMany" = some 4 := by kernel_rfl
theorem j_looks_ChunksMany : true = Tryz.prog.looks [] := by kernel_rfl
end Go.Proofs.YtdjbjcnkboggjaaGreatDoor
