/- A closed fact of the row, without conditions. -/
import Derived.Test.YtjohgmnabemakaaGreatDoorChecked
import Derived.Test.YtjohgmnabemakaaGreatDoorRows
import Derived.KernelRfl
import Derived.JoinedOf
import Derived.SevenTiedAt
namespace Go.Proofs.YtjohgmnabemakaaGreatDoor
set_option maxRecDepth 100000
theorem j_varsNamed_RecordEdits : (Rows.recordEditsRow.named == Tryz.prog.varsNamed 3) = true := by kernel_rfl
end Go.Proofs.YtjohgmnabemakaaGreatDoor
