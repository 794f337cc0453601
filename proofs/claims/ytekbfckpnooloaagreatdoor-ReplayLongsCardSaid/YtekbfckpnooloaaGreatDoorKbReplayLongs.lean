/- A closed fact of the row, without conditions. -/
import Derived.Test.YtekbfckpnooloaaGreatDoorChecked
import Derived.Test.YtekbfckpnooloaaGreatDoorRows
import Derived.KernelRfl
import Derived.JoinedOf
import Derived.SevenTiedAt
namespace Go.Proofs.YtekbfckpnooloaaGreatDoor
set_option maxRecDepth 100000
theorem j_unfollowed_ReplayLongs : (Rows.replayLongsRow.unfollowed == Tryz.prog.unfollowed 4) = true := by kernel_rfl
end Go.Proofs.YtekbfckpnooloaaGreatDoor
