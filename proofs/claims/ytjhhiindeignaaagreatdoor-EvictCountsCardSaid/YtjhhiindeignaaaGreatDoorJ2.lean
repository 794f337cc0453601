/- A part of the proof of EvictCounts. -/
import Derived.Test.YtjhhiindeignaaaGreatDoorChecked
import Derived.Test.YtjhhiindeignaaaGreatDoorRows
import Derived.KernelRfl
import Derived.JoinedOf
import Derived.SevenTiedAt
namespace Go.Proofs.YtjhhiindeignaaaGreatDoor
set_option maxRecDepth 100000
theorem j_plainKeys:(Rows.evictCountsRow.plainKeys==Tryz.prog.plainKeys)=true:=by kernel_rfl
theorem j_stopsHeard:Tryz.prog.stopsHeard=true:=by kernel_rfl
theorem j_mayEnter:Tryz.prog.mayEnter=true:=by kernel_rfl
end Go.Proofs.YtjhhiindeignaaaGreatDoor
