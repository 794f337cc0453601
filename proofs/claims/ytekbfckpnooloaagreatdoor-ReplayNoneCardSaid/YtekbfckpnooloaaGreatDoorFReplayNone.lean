/- The law returns true, and changes nothing that was there, under the row's condition on the listed variables. -/
import Derived.Test.YtekbfckpnooloaaGreatDoorTabs
import Derived.Test.YtekbfckpnooloaaGreatDoorDoor
import Derived.Test.YtekbfckpnooloaaGreatDoorShapA
import Derived.Test.YtekbfckpnooloaaGreatDoorShapB
import Derived.Test.YtekbfckpnooloaaGreatDoorJ1
import Derived.Test.YtekbfckpnooloaaGreatDoorWNone
namespace Go.Proofs.YtekbfckpnooloaaGreatDoor
open Go.RowKit Go.Abs Go.ChangeShapes Go.WideShapes
set_option maxRecDepth 100000
theorem replayNone_lifted (os : Os) (started : os.Started) (H : Type) (enc : TypeId × Value → H) :
    ReturnsInHanded {} Tryz.checked os 5 .any (fun w args => (Rows.replayNoneSpec.pre enc Tryz.prog Tryz.f5 [] false w args ∧ laidMetH Tryz.prog Rows.replayNoneRow.laid w) ∧ sizedMet enc Tryz.prog Tryz.f5 (OpenSpec.ofChange Rows.replayNoneSpec) false w args)
      (Rows.replayNoneSpec.post enc Tryz.prog Tryz.f5 false true false false) := by
  refine law_row (C := Tryz.checked) (laid := Rows.replayNoneRow.laid) (bt := 4) own started (by kernel_rfl) Tryz.func5 j_laidOut (by kernel_rfl) rfl (by kernel_rfl) (by kernel_rfl) ?_
    (ChangeSpec.witness_shaped (enc := enc) (C := Tryz.checked) (os := os) (X := fun w _ => laidMetH Tryz.prog Rows.replayNoneRow.laid w) false (startWorld os) #[.slice none 0 0] 8 rfl (World.shaped_of_RefB (shapA os _) (shapB os _)) (by kernel_rfl) (by kernel_rfl) (by kernel_rfl) (door_met os _)) ?_
  · intro ds hd
    rw [Tryz.params5] at hd
    match ds, hd with
    | [d0], _ => rfl
  · intro W base args ds before hval hA hsz hS hL
    rw [Tryz.params5] at hA hval
    rw [MakeChecks.laidMetH_plain _ _ _ (by kernel_rfl)] at hL
    exact open_ReplayNone hval hA hsz hS hL
end Go.Proofs.YtekbfckpnooloaaGreatDoor
