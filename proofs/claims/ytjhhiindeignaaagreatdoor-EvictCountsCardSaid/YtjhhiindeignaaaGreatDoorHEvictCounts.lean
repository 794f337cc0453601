/- A part of the proof of EvictCounts. -/
import Derived.Test.YtjhhiindeignaaaGreatDoorJ1
import Derived.Test.YtjhhiindeignaaaGreatDoorJ2
import Derived.Test.YtjhhiindeignaaaGreatDoorKaEvictCounts
import Derived.Test.YtjhhiindeignaaaGreatDoorKbEvictCounts
import Derived.Test.YtjhhiindeignaaaGreatDoorKcEvictCounts
import Derived.Test.YtjhhiindeignaaaGreatDoorKdEvictCounts
import Derived.Test.YtjhhiindeignaaaGreatDoorKfEvictCounts
import Derived.Test.YtjhhiindeignaaaGreatDoorFEvictCounts
import Derived.Test.YtjhhiindeignaaaGreatDoorGF
namespace Go.Proofs.YtjhhiindeignaaaGreatDoor
open Go.RowKit Go.Abs Go.ChangeShapes Go.WideShapes
set_option maxRecDepth 100000
theorem evictCounts_holds:Rows.EvictCountsSaid:=
 OpenClaim.holds_of_wide 3 Tryz.f3 rfl rfl rfl rfl rfl rfl rfl ⟨rfl,rfl,rfl,rfl,rfl⟩ rfl rfl rfl rfl rfl j_named_EvictCounts Tryz.func3
  (joined_of (by kernel_rfl) j_laidOut j_mapsRowed (by kernel_rfl) (by kernel_rfl) (by kernel_rfl) (by kernel_rfl) (by kernel_rfl) (by kernel_rfl) j_inPlace_EvictCounts j_unfollowed_EvictCounts j_recurses_EvictCounts j_varsNamed_EvictCounts
   (by kernel_rfl) (by kernel_rfl) (by kernel_rfl) (by kernel_rfl) (by kernel_rfl) (by kernel_rfl) (by kernel_rfl) (by kernel_rfl) (by kernel_rfl) (show(Rows.evictCountsRow.plainKeys==Tryz.prog.plainKeys)=true from j_plainKeys) (by kernel_rfl) j_stopsHeard j_mayEnter (by kernel_rfl) (by kernel_rfl)
   (by kernel_rfl) (by kernel_rfl) (by kernel_rfl) (by kernel_rfl))
  (of_decide_eq_true (by kernel_rfl)) (by unfold Func.isWrapper;first|(rw[if_pos (by decide+kernel)];kernel_rfl)|(rw[if_neg (by decide+kernel)];exact⟨rfl,rfl⟩))
  (fun os started H enc _=>evictCounts_lifted os started H enc)
end Go.Proofs.YtjhhiindeignaaaGreatDoor
