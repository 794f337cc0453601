/- A closed fact of the row, without conditions. -/
import Derived.Test.YtbnnnmohggladabGreatDoorChecked
import Derived.Test.YtbnnnmohggladabGreatDoorRows
import Derived.KernelRfl
import Derived.JoinedOf
import Derived.SevenTiedAt
namespace Go.Proofs.YtbnnnmohggladabGreatDoor
set_option maxRecDepth 100000
theorem j_unfollowed_TermNew : (Rows.termNewRow.unfollowed == Tryz.prog.unfollowed 3) = true := by kernel_rfl
end Go.Proofs.YtbnnnmohggladabGreatDoor
