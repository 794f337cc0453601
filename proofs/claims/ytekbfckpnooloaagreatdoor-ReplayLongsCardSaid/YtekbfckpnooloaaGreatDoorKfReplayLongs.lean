/- A closed fact of the row, without conditions. -/
import Derived.Test.YtekbfckpnooloaaGreatDoorChecked
import Derived.Test.YtekbfckpnooloaaGreatDoorRows
import Derived.KernelRfl
import Derived.JoinedOf
import Derived.SevenTiedAt
namespace Go.Proofs.YtekbfckpnooloaaGreatDoor
set_option maxRecDepth 100000
theorem j_named_ReplayLongs : Tryz.prog.funcNamed "scrollback/scrollbacklaw38.ReplayLongs" = some 4 := by kernel_rfl
theorem j_looks_ReplayLongs : true = Tryz.prog.looks [] := by kernel_rfl
end Go.Proofs.YtekbfckpnooloaaGreatDoor
