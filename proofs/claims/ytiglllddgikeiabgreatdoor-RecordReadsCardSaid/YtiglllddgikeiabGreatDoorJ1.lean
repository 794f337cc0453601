/- Closed facts of the row, without conditions. -/
import Derived.Test.YtiglllddgikeiabGreatDoorChecked
import Derived.Test.YtiglllddgikeiabGreatDoorRows
import Derived.KernelRfl
import Derived.JoinedOf
import Derived.SevenTiedAt
namespace Go.Proofs.YtiglllddgikeiabGreatDoor
set_option maxRecDepth 100000
theorem j_laidOut : laidOutB Tryz.prog = true := by kernel_rfl
theorem j_mapsRowed : mapsRowed Tryz.prog = true := by kernel_rfl
end Go.Proofs.YtiglllddgikeiabGreatDoor
