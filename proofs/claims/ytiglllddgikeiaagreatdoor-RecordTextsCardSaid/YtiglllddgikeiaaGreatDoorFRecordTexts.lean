/- The law returns true, and changes nothing that was there, under the row's condition on the listed variables. -/
import Derived.Test.YtiglllddgikeiaaGreatDoorTabs
import Derived.Test.YtiglllddgikeiaaGreatDoorDoor
import Derived.Test.YtiglllddgikeiaaGreatDoorShapA
import Derived.Test.YtiglllddgikeiaaGreatDoorShapB
import Derived.Test.YtiglllddgikeiaaGreatDoorJ1
import Derived.Test.YtiglllddgikeiaaGreatDoorWTexts
namespace Go.Proofs.YtiglllddgikeiaaGreatDoor
open Go.RowKit Go.Abs Go.ChangeShapes Go.WideShapes
set_option maxRecDepth 100000
theorem recordTexts_lifted (os : Os) (started : os.Started) (H : Type) (enc : TypeId × Value → H) :
    ReturnsInHanded {} Tryz.checked os 3 .any (fun w args => (Rows.recordTextsSpec.pre enc Tryz.prog Tryz.f3 [] false w args ∧ laidMetH Tryz.prog Rows.recordTextsRow.laid w) ∧ sizedMet enc Tryz.prog Tryz.f3 (OpenSpec.ofChange Rows.recordTextsSpec) false w args)
      (Rows.recordTextsSpec.post enc Tryz.prog Tryz.f3 false true false false) := by
  refine law_row (C := Tryz.checked) (laid := Rows.recordTextsRow.laid) (bt := 4) own started (by kernel_rfl) Tryz.func3 j_laidOut (by kernel_rfl) rfl (by kernel_rfl) (by kernel_rfl) ?_
    (ChangeSpec.witness_shaped (enc := enc) (C := Tryz.checked) (os := os) (X := fun w _ => laidMetH Tryz.prog Rows.recordTextsRow.laid w) false (startWorld os) #[.agg #[.int .i64 0, .int .i64 0, .int .i64 0, .slice none 0 0]] 8 rfl (World.shaped_of_RefB (shapA os _) (shapB os _)) (by kernel_rfl) (by kernel_rfl) (by kernel_rfl) (door_met os _)) ?_
  · intro ds hd
    rw [Tryz.params3] at hd
    match ds, hd with
    | [d0], _ => rfl
  · intro W base args ds before hval hA hsz hS hL
    rw [Tryz.params3] at hA hval
    rw [MakeChecks.laidMetH_plain _ _ _ (by kernel_rfl)] at hL
    exact open_RecordTexts hval hA hsz hS hL
end Go.Proofs.YtiglllddgikeiaaGreatDoor
