/- A closed fact of the row, without conditions. -/
import Derived.Test.YtinjdlpboahifaaGreatDoorChecked
import Derived.Test.YtinjdlpboahifaaGreatDoorRows
import Derived.KernelRfl
import Derived.JoinedOf
import Derived.SevenTiedAt
namespace Go.Proofs.YtinjdlpboahifaaGreatDoor
set_option maxRecDepth 100000
theorem j_varsNamed_ScreenNew : (Rows.screenNewRow.named == Tryz.prog.varsNamed 3) = true := by kernel_rfl
end Go.Proofs.YtinjdlpboahifaaGreatDoor
