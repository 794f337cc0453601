/- A closed fact of the row, without conditions. -/
import Derived.Test.YtinjdlpboahifaaGreatDoorChecked
import Derived.Test.YtinjdlpboahifaaGreatDoorRows
import Derived.KernelRfl
import Derived.JoinedOf
import Derived.SevenTiedAt
namespace Go.Proofs.YtinjdlpboahifaaGreatDoor
set_option maxRecDepth 100000
theorem j_named_ScreenNew : Tryz.prog.funcNamed "scrollback/scrollbacklaw33.ScreenNew" = some 3 := by kernel_rfl
theorem j_looks_ScreenNew : true = Tryz.prog.looks [] := by kernel_rfl
end Go.Proofs.YtinjdlpboahifaaGreatDoor
