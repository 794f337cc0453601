/- A closed fact of the row, without conditions. -/
import Derived.Test.YtpjbefccblghoaaGreatDoorChecked
import Derived.Test.YtpjbefccblghoaaGreatDoorRows
import Derived.KernelRfl
import Derived.JoinedOf
import Derived.SevenTiedAt
namespace Go.Proofs.YtpjbefccblghoaaGreatDoor
set_option maxRecDepth 100000
theorem j_named_TermNone : Tryz.prog.funcNamed "scrollback/scrollbacklaw34.TermNone" = some 3 := by kernel_rfl
theorem j_looks_TermNone : true = Tryz.prog.looks [] := by kernel_rfl
end Go.Proofs.YtpjbefccblghoaaGreatDoor
