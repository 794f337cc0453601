/- A part of the proof of EvictCounts. -/
import Derived.Test.YtjhhiindeignaaaGreatDoorChecked
import Derived.Test.YtjhhiindeignaaaGreatDoorRows
import Derived.KernelRfl
import Derived.JoinedOf
import Derived.SevenTiedAt
namespace Go.Proofs.YtjhhiindeignaaaGreatDoor
set_option maxRecDepth 100000
theorem j_named_EvictCounts:Tryz.prog.funcNamed "scrollback/scrollbacklaw37.EvictCounts"=some 3:=by kernel_rfl
theorem j_looks_EvictCounts:true=Tryz.prog.looks []:=by kernel_rfl
end Go.Proofs.YtjhhiindeignaaaGreatDoor
