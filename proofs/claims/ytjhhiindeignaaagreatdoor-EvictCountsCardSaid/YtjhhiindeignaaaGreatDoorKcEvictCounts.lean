/- A part of the proof of EvictCounts. -/
import Derived.Test.YtjhhiindeignaaaGreatDoorChecked
import Derived.Test.YtjhhiindeignaaaGreatDoorRows
import Derived.KernelRfl
import Derived.JoinedOf
import Derived.SevenTiedAt
namespace Go.Proofs.YtjhhiindeignaaaGreatDoor
set_option maxRecDepth 100000
theorem j_recurses_EvictCounts:(Rows.evictCountsRow.recurses==Tryz.prog.recurses 3)=true:=by kernel_rfl
end Go.Proofs.YtjhhiindeignaaaGreatDoor
