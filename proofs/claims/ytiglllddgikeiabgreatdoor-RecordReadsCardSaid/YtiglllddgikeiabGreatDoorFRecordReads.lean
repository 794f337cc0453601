/- The law returns true, and changes nothing that was there, under the row's condition on the listed variables. -/
import Derived.Test.YtiglllddgikeiabGreatDoorTabs
import Derived.Test.YtiglllddgikeiabGreatDoorDoor
import Derived.Test.YtiglllddgikeiabGreatDoorShapA
import Derived.Test.YtiglllddgikeiabGreatDoorShapB
import Derived.Test.YtiglllddgikeiabGreatDoorJ1
import Derived.Test.YtiglllddgikeiabGreatDoorWReads
namespace Go.Proofs.YtiglllddgikeiabGreatDoor
open Go.RowKit Go.Abs Go.ChangeShapes Go.WideShapes
set_option maxRecDepth 100000
theorem recordReads_lifted (os : Os) (started : os.Started) (H : Type) (enc : TypeId × Value → H) :
    ReturnsInHanded {} Tryz.checked os 3 .any (fun w args => (Rows.recordReadsSpec.pre enc Tryz.prog Tryz.f3 [] false w args ∧ laidMetH Tryz.prog Rows.recordReadsRow.laid w) ∧ sizedMet enc Tryz.prog Tryz.f3 (OpenSpec.ofChange Rows.recordReadsSpec) false w args)
      (Rows.recordReadsSpec.post enc Tryz.prog Tryz.f3 false true false false) := by
  refine law_row (C := Tryz.checked) (laid := Rows.recordReadsRow.laid) (bt := 4) own started (by kernel_rfl) Tryz.func3 j_laidOut (by kernel_rfl) rfl (by kernel_rfl) (by kernel_rfl) ?_
    (ChangeSpec.witness_shaped (enc := enc) (C := Tryz.checked) (os := os) (X := fun w _ => laidMetH Tryz.prog Rows.recordReadsRow.laid w) false (startWorld os) #[.agg #[.int .i64 0, .int .i64 0, .int .i64 0, .slice none 0 0], .int .u16 0, .int .u8 0, .string ByteArray.empty] 8 rfl (World.shaped_of_RefB (shapA os _) (shapB os _)) (by kernel_rfl) (by kernel_rfl) (by kernel_rfl) (door_met os _)) ?_
  · intro ds hd
    rw [Tryz.params3] at hd
    match ds, hd with
    | [d0, d1, d2, d3], _ => rfl
  · intro W base args ds before hval hA hsz hS hL
    rw [Tryz.params3] at hA hval
    rw [MakeChecks.laidMetH_plain _ _ _ (by kernel_rfl)] at hL
    exact open_RecordReads hval hA hsz hS hL
end Go.Proofs.YtiglllddgikeiabGreatDoor
