/- A closed fact of the row, without conditions. -/
import Derived.Test.YtjohgmnabemakaaGreatDoorChecked
import Derived.Test.YtjohgmnabemakaaGreatDoorRows
import Derived.KernelRfl
import Derived.JoinedOf
import Derived.SevenTiedAt
namespace Go.Proofs.YtjohgmnabemakaaGreatDoor
set_option maxRecDepth 100000
theorem j_unfollowed_RecordEdits : (Rows.recordEditsRow.unfollowed == Tryz.prog.unfollowed 3) = true := by kernel_rfl
end Go.Proofs.YtjohgmnabemakaaGreatDoor
