/- A closed fact of the row, without conditions. -/
import Derived.Test.YtdjbjcnkboggjaaGreatDoorChecked
import Derived.Test.YtdjbjcnkboggjaaGreatDoorRows
import Derived.KernelRfl
import Derived.JoinedOf
import Derived.SevenTiedAt
namespace Go.Proofs.YtdjbjcnkboggjaaGreatDoor
set_option maxRecDepth 100000
theorem j_recurses_ChunksMany : (Rows.chunksManyRow.recurses == Tryz.prog.recurses 4) = true := by kernel_rfl
end Go.Proofs.YtdjbjcnkboggjaaGreatDoor
