/- A closed fact of the row, without conditions. -/
import Derived.Test.YtmoeainaojbiiaaGreatDoorChecked
import Derived.Test.YtmoeainaojbiiaaGreatDoorRows
import Derived.KernelRfl
import Derived.JoinedOf
import Derived.SevenTiedAt
namespace Go.Proofs.YtmoeainaojbiiaaGreatDoor
set_option maxRecDepth 100000
theorem j_goes_ScreenReplies : Tryz.prog.goes 3 = false := by kernel_rfl
end Go.Proofs.YtmoeainaojbiiaaGreatDoor
