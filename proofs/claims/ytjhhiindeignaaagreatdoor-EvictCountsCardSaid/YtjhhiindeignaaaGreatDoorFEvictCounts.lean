/- A part of the proof of EvictCounts. -/
import Derived.Test.YtjhhiindeignaaaGreatDoorTabs
import Derived.Test.YtjhhiindeignaaaGreatDoorDoor
import Derived.Test.YtjhhiindeignaaaGreatDoorShapA
import Derived.Test.YtjhhiindeignaaaGreatDoorShapB
import Derived.Test.YtjhhiindeignaaaGreatDoorJ1
import Derived.Test.YtjhhiindeignaaaGreatDoorWCounts
namespace Go.Proofs.YtjhhiindeignaaaGreatDoor
open Go.RowKit Go.Abs Go.ChangeShapes Go.WideShapes
set_option maxRecDepth 100000
theorem evictCounts_lifted (os:Os) (started:os.Started) (H:Type) (enc:TypeId×Value→H):
  ReturnsInHanded {} Tryz.checked os 3 .any (fun w args=>(Rows.evictCountsSpec.pre enc Tryz.prog Tryz.f3 [] false w args∧laidMetH Tryz.prog Rows.evictCountsRow.laid w)∧sizedMet enc Tryz.prog Tryz.f3 (OpenSpec.ofChange Rows.evictCountsSpec) false w args)
   (Rows.evictCountsSpec.post enc Tryz.prog Tryz.f3 false true false false):=by
 refine law_row (C:=Tryz.checked) (laid:=Rows.evictCountsRow.laid) (bt:=4) own started (by kernel_rfl) Tryz.func3 j_laidOut (by kernel_rfl) rfl (by kernel_rfl) (by kernel_rfl) ?_
  (ChangeSpec.witness_shaped (enc:=enc) (C:=Tryz.checked) (os:=os) (X:=fun w _=>laidMetH Tryz.prog Rows.evictCountsRow.laid w) false (startWorld os) #[.int .u8 0, .int .u16 0] 8 rfl (World.shaped_of_RefB (shapA os _) (shapB os _)) (by kernel_rfl) (by kernel_rfl) (by kernel_rfl) (door_met os _)) ?_
 ·intro ds hd
  rw[Tryz.params3] at hd
  match ds,hd with
  |[d0,d1],_=>rfl
 ·intro W base args ds before hval hA hsz hS hL
  rw[Tryz.params3] at hA hval
  rw[MakeChecks.laidMetH_plain _ _ _ (by kernel_rfl)] at hL
  exact open_EvictCounts hval hA hsz hS hL
end Go.Proofs.YtjhhiindeignaaaGreatDoor
