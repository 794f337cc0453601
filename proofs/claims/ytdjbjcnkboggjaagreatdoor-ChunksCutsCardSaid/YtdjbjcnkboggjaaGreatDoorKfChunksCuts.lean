/- A closed fact of the row, without conditions. -/
import Derived.Test.YtdjbjcnkboggjaaGreatDoorChecked
import Derived.Test.YtdjbjcnkboggjaaGreatDoorRows
import Derived.KernelRfl
import Derived.JoinedOf
import Derived.SevenTiedAt
namespace Go.Proofs.YtdjbjcnkboggjaaGreatDoor
set_option maxRecDepth 100000
theorem j_named_ChunksCuts : Tryz.prog.funcNamed "scrollback/scrollbacklaw36.ChunksCuts" = some 3 := by kernel_rfl
theorem j_looks_ChunksCuts : true = Tryz.prog.looks [] := by kernel_rfl
end Go.Proofs.YtdjbjcnkboggjaaGreatDoor
