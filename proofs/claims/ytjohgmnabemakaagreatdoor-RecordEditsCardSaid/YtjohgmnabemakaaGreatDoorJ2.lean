/- Closed facts of the row, without conditions. -/
import Derived.Test.YtjohgmnabemakaaGreatDoorChecked
import Derived.Test.YtjohgmnabemakaaGreatDoorRows
import Derived.KernelRfl
import Derived.JoinedOf
import Derived.SevenTiedAt
namespace Go.Proofs.YtjohgmnabemakaaGreatDoor
set_option maxRecDepth 100000
theorem j_plainKeys : (Rows.recordEditsRow.plainKeys == Tryz.prog.plainKeys) = true := by kernel_rfl
theorem j_stopsHeard : Tryz.prog.stopsHeard = true := by kernel_rfl
theorem j_mayEnter : Tryz.prog.mayEnter = true := by kernel_rfl
end Go.Proofs.YtjohgmnabemakaaGreatDoor
