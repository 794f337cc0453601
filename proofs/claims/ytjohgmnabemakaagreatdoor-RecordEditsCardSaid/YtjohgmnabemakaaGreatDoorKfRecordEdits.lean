/- A closed fact of the row, without conditions. -/
import Derived.Test.YtjohgmnabemakaaGreatDoorChecked
import Derived.Test.YtjohgmnabemakaaGreatDoorRows
import Derived.KernelRfl
import Derived.JoinedOf
import Derived.SevenTiedAt
namespace Go.Proofs.YtjohgmnabemakaaGreatDoor
set_option maxRecDepth 100000
theorem j_named_RecordEdits : Tryz.prog.funcNamed "scrollback/scrollbacklaw47.RecordEdits" = some 3 := by kernel_rfl
theorem j_looks_RecordEdits : true = Tryz.prog.looks [] := by kernel_rfl
end Go.Proofs.YtjohgmnabemakaaGreatDoor
