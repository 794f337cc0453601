/- A part of the proof of EvictCounts. -/
import Derived.Test.YtjhhiindeignaaaGreatDoorChecked
import Derived.Test.YtjhhiindeignaaaGreatDoorRows
import Derived.KernelRfl
import Derived.JoinedOf
import Derived.SevenTiedAt
namespace Go.Proofs.YtjhhiindeignaaaGreatDoor
set_option maxRecDepth 100000
theorem j_goes_EvictCounts:Tryz.prog.goes 3=false:=by kernel_rfl
end Go.Proofs.YtjhhiindeignaaaGreatDoor
