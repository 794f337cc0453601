/- A part of the proof of ChunksHolds. -/
import Derived.Test.YtimbpmnbbfeogaaGreatDoorTabs
import Derived.Test.YtimbpmnbbfeogaaGreatDoorDoor
import Derived.Test.YtimbpmnbbfeogaaGreatDoorShapA
import Derived.Test.YtimbpmnbbfeogaaGreatDoorShapB
import Derived.Test.YtimbpmnbbfeogaaGreatDoorJ1
import Derived.Test.YtimbpmnbbfeogaaGreatDoorWHolds
namespace Go.Proofs.YtimbpmnbbfeogaaGreatDoor
open Go.RowKit Go.Abs Go.ChangeShapes Go.WideShapes
set_option maxRecDepth 100000
theorem chunksHolds_lifted (os:Os) (started:os.Started) (H:Type) (enc:TypeId×Value→H):
  ReturnsInHanded {} Tryz.checked os 3 .any (fun w args=>(Rows.chunksHoldsSpec.pre enc Tryz.prog Tryz.f3 [] false w args∧laidMetH Tryz.prog Rows.chunksHoldsRow.laid w)∧sizedMet enc Tryz.prog Tryz.f3 (OpenSpec.ofChange Rows.chunksHoldsSpec) false w args)
   (Rows.chunksHoldsSpec.post enc Tryz.prog Tryz.f3 false true false false):=by
 refine law_row (C:=Tryz.checked) (laid:=Rows.chunksHoldsRow.laid) (Bl:=4) own started (by kernel_rfl) Tryz.func3 j_laidOut (by kernel_rfl) rfl (by kernel_rfl) (by kernel_rfl) ?_
  (ChangeSpec.witness_shaped (enc:=enc) (C:=Tryz.checked) (os:=os) (X:=fun w _=>laidMetH Tryz.prog Rows.chunksHoldsRow.laid w) false (startWorld os) #[.agg #[.int .i64 0, .int .i64 0, .int .i64 0], .slice none 0 0, .slice none 0 0] 8 rfl (World.shaped_of_RefB (shapA os _) (shapB os _)) (by kernel_rfl) (by kernel_rfl) (by kernel_rfl) (door_met os _)) ?_
 ·intro ds hd
  rw[Tryz.params3] at hd
  match ds,hd with
  |[d0,d1,d2],_=>rfl
 ·intro W base args ds before hval hA hsz hS hL
  rw[Tryz.params3] at hA hval
  rw[MakeChecks.laidMetH_plain _ _ _ (by kernel_rfl)] at hL
  exact open_ChunksHolds hval hA hsz hS hL
end Go.Proofs.YtimbpmnbbfeogaaGreatDoor
