/- A closed fact of the row, without conditions. -/
import Derived.Test.YtinjdlpboahifaaGreatDoorChecked
import Derived.Test.YtinjdlpboahifaaGreatDoorRows
import Derived.KernelRfl
import Derived.JoinedOf
import Derived.SevenTiedAt
namespace Go.Proofs.YtinjdlpboahifaaGreatDoor
set_option maxRecDepth 100000
theorem j_goes_ScreenNew : Tryz.prog.goes 3 = false := by kernel_rfl
end Go.Proofs.YtinjdlpboahifaaGreatDoor
