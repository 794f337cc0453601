/- A closed fact of the row, without conditions. -/
import Derived.Test.YtinjdlpboahifaaGreatDoorChecked
import Derived.Test.YtinjdlpboahifaaGreatDoorRows
import Derived.KernelRfl
import Derived.JoinedOf
import Derived.SevenTiedAt
namespace Go.Proofs.YtinjdlpboahifaaGreatDoor
set_option maxRecDepth 100000
theorem j_inPlace_ScreenNew : (Rows.screenNewRow.inPlace == Tryz.prog.inPlace 3) = true := by kernel_rfl
end Go.Proofs.YtinjdlpboahifaaGreatDoor
