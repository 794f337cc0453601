/- A closed fact of the row, without conditions. -/
import Derived.Test.YtmoeainaojbiiaaGreatDoorChecked
import Derived.Test.YtmoeainaojbiiaaGreatDoorRows
import Derived.KernelRfl
import Derived.JoinedOf
import Derived.SevenTiedAt
namespace Go.Proofs.YtmoeainaojbiiaaGreatDoor
set_option maxRecDepth 100000
theorem j_inPlace_ScreenReplies : (Rows.screenRepliesRow.inPlace == Tryz.prog.inPlace 3) = true := by kernel_rfl
end Go.Proofs.YtmoeainaojbiiaaGreatDoor
