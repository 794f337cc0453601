/- A closed fact of the row, without conditions. -/
import Derived.Test.YtmoeainaojbiiaaGreatDoorChecked
import Derived.Test.YtmoeainaojbiiaaGreatDoorRows
import Derived.KernelRfl
import Derived.JoinedOf
import Derived.SevenTiedAt
namespace Go.Proofs.YtmoeainaojbiiaaGreatDoor
set_option maxRecDepth 100000
theorem j_named_ScreenReplies : Tryz.prog.funcNamed "scrollback/scrollbacklaw33.ScreenReplies" = some 3 := by kernel_rfl
theorem j_looks_ScreenReplies : true = Tryz.prog.looks [] := by kernel_rfl
end Go.Proofs.YtmoeainaojbiiaaGreatDoor
