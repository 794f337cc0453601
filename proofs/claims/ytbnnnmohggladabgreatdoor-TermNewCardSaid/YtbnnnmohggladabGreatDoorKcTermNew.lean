/- A closed fact of the row, without conditions. -/
import Derived.Test.YtbnnnmohggladabGreatDoorChecked
import Derived.Test.YtbnnnmohggladabGreatDoorRows
import Derived.KernelRfl
import Derived.JoinedOf
import Derived.SevenTiedAt
namespace Go.Proofs.YtbnnnmohggladabGreatDoor
set_option maxRecDepth 100000
theorem j_recurses_TermNew : (Rows.termNewRow.recurses == Tryz.prog.recurses 3) = true := by kernel_rfl
end Go.Proofs.YtbnnnmohggladabGreatDoor
