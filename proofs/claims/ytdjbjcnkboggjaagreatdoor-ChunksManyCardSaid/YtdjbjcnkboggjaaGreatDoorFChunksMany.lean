/- The law returns true, and changes nothing that was there, under the row's condition on the listed variables. -/
import Derived.Test.YtdjbjcnkboggjaaGreatDoorTabs
import Derived.Test.YtdjbjcnkboggjaaGreatDoorDoor
import Derived.Test.YtdjbjcnkboggjaaGreatDoorShapA
import Derived.Test.YtdjbjcnkboggjaaGreatDoorShapB
import Derived.Test.YtdjbjcnkboggjaaGreatDoorJ1
import Derived.Test.YtdjbjcnkboggjaaGreatDoorWManyC
namespace Go.Proofs.YtdjbjcnkboggjaaGreatDoor
open Go.RowKit Go.Abs Go.ChangeShapes Go.WideShapes
set_option maxRecDepth 100000
theorem chunksMany_lifted (os : Os) (started : os.Started) (H : Type) (enc : TypeId × Value → H) :
    ReturnsInHanded {} Tryz.checked os 4 .any (fun w args => (Rows.chunksManySpec.pre enc Tryz.prog Tryz.f4 [] false w args ∧ laidMetH Tryz.prog Rows.chunksManyRow.laid w) ∧ sizedMet enc Tryz.prog Tryz.f4 (OpenSpec.ofChange Rows.chunksManySpec) false w args)
      (Rows.chunksManySpec.post enc Tryz.prog Tryz.f4 false true false false) := by
  refine law_row (C := Tryz.checked) (laid := Rows.chunksManyRow.laid) (bt := 4) own started (by kernel_rfl) Tryz.func4 j_laidOut (by kernel_rfl) rfl (by kernel_rfl) (by kernel_rfl) ?_
    (ChangeSpec.witness_shaped (enc := enc) (C := Tryz.checked) (os := os) (X := fun w _ => laidMetH Tryz.prog Rows.chunksManyRow.laid w) false (startWorld os) #[.int .i64 0] 8 rfl (World.shaped_of_RefB (shapA os _) (shapB os _)) (by kernel_rfl) (by kernel_rfl) (by kernel_rfl) (door_met os _)) ?_
  · intro ds hd
    rw [Tryz.params4] at hd
    match ds, hd with
    | [d0], _ => rfl
  · intro W base args ds before hval hA hsz hS hL
    rw [Tryz.params4] at hA hval
    rw [MakeChecks.laidMetH_plain _ _ _ (by kernel_rfl)] at hL
    exact open_ChunksMany hval hA hsz hS hL
end Go.Proofs.YtdjbjcnkboggjaaGreatDoor
