/- A closed fact of the row, without conditions. -/
import Derived.Test.YtekbfckpnooloaaGreatDoorChecked
import Derived.Test.YtekbfckpnooloaaGreatDoorRows
import Derived.KernelRfl
import Derived.JoinedOf
import Derived.SevenTiedAt
namespace Go.Proofs.YtekbfckpnooloaaGreatDoor
set_option maxRecDepth 100000
theorem j_goes_ReplayLongs : Tryz.prog.goes 4 = false := by kernel_rfl
end Go.Proofs.YtekbfckpnooloaaGreatDoor
