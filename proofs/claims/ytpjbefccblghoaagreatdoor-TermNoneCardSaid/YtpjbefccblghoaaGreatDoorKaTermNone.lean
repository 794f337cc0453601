/- A closed fact of the row, without conditions. -/
import Derived.Test.YtpjbefccblghoaaGreatDoorChecked
import Derived.Test.YtpjbefccblghoaaGreatDoorRows
import Derived.KernelRfl
import Derived.JoinedOf
import Derived.SevenTiedAt
namespace Go.Proofs.YtpjbefccblghoaaGreatDoor
set_option maxRecDepth 100000
theorem j_inPlace_TermNone : (Rows.termNoneRow.inPlace == Tryz.prog.inPlace 3) = true := by kernel_rfl
end Go.Proofs.YtpjbefccblghoaaGreatDoor
