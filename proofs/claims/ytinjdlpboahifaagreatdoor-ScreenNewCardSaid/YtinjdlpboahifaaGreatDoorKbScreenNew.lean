/- A closed fact of the row, without conditions. -/
import Derived.Test.YtinjdlpboahifaaGreatDoorChecked
import Derived.Test.YtinjdlpboahifaaGreatDoorRows
import Derived.KernelRfl
import Derived.JoinedOf
import Derived.SevenTiedAt
namespace Go.Proofs.YtinjdlpboahifaaGreatDoor
set_option maxRecDepth 100000
theorem j_unfollowed_ScreenNew : (Rows.screenNewRow.unfollowed == Tryz.prog.unfollowed 3) = true := by kernel_rfl
end Go.Proofs.YtinjdlpboahifaaGreatDoor
