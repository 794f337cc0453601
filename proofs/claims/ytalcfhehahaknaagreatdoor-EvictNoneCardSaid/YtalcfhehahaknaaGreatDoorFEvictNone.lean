/- The law returns true, and changes nothing that was there, under the row's condition on the listed variables. -/
import Derived.Test.YtalcfhehahaknaaGreatDoorTabs
import Derived.Test.YtalcfhehahaknaaGreatDoorDoor
import Derived.Test.YtalcfhehahaknaaGreatDoorShapA
import Derived.Test.YtalcfhehahaknaaGreatDoorShapB
import Derived.Test.YtalcfhehahaknaaGreatDoorJ1
import Derived.Test.YtalcfhehahaknaaGreatDoorREvictNone
namespace Go.Proofs.YtalcfhehahaknaaGreatDoor
open Go.RowKit Go.Abs Go.ChangeShapes Go.WideShapes
set_option maxRecDepth 100000
theorem walk_EvictNone (n0 n1 n2 : Int) (w : World) (hw : Tabbed w) : Calls Tryz.prog 3 #[.int .i64 n0, .agg #[.int .i64 n1, .int .i64 n2]] w fun e w' => e = .returned (.bool true) ∧ Below w.heap.size w w' := by
  have hk := run_EvictNone n0 n1 n2
  rw [← gsize] at hk
  refine (calls_fast (args := [.int .i64 n0, .agg [.int .i64 n1, .int .i64 n2]]) Tryz.checked.mixed (good_of good) Tryz.func3 rfl hw.1 hw.2 ⟨trivial, ⟨⟨trivial, trivial, trivial⟩, rfl⟩, trivial⟩ hk).mono fun e w' he => ?_
  obtain ⟨σ', h1, _, h3⟩ := he
  exact ⟨h1, h3⟩
theorem evictNone_lifted (os : Os) (started : os.Started) (H : Type) (enc : TypeId × Value → H) :
    ReturnsInHanded {} Tryz.checked os 3 .any (fun w args => (Rows.evictNoneSpec.pre enc Tryz.prog Tryz.f3 [] false w args ∧ laidMetH Tryz.prog Rows.evictNoneRow.laid w) ∧ sizedMet enc Tryz.prog Tryz.f3 (OpenSpec.ofChange Rows.evictNoneSpec) false w args)
      (Rows.evictNoneSpec.post enc Tryz.prog Tryz.f3 false true false false) := by
  refine law_row (C := Tryz.checked) (laid := Rows.evictNoneRow.laid) (bt := 4) own started (by kernel_rfl) Tryz.func3 j_laidOut (by kernel_rfl) rfl (by kernel_rfl) (by kernel_rfl) ?_
    (ChangeSpec.witness_shaped (enc := enc) (C := Tryz.checked) (os := os) (X := fun w _ => laidMetH Tryz.prog Rows.evictNoneRow.laid w) false (startWorld os) #[.int .i64 0, .agg #[.int .i64 0, .int .i64 0]] 8 rfl (World.shaped_of_RefB (shapA os _) (shapB os _)) (by kernel_rfl) (by kernel_rfl) (by kernel_rfl) (door_met os _)) ?_
  · intro ds hd
    rw [Tryz.params3] at hd
    match ds, hd with
    | [d0, d1], _ => rfl
  · intro W base args ds before hval hA _ hS hL
    rw [Tryz.params3] at hA hval
    rw [MakeChecks.laidMetH_plain _ _ _ (by kernel_rfl)] at hL
    obtain ⟨v, v', d, d', p, p', rfl, rfl, rfl, h0, h1⟩ := trodAll_two hA
    obtain ⟨r, rfl, rfl, rfl, _⟩ := open_int Tryz.underlying3 (hval 0 3 v rfl rfl) h0
    obtain ⟨x, y, rfl⟩ := okWide_ints2 Tryz.underlying23 (by kernel_rfl) (by kernel_rfl) Tryz.underlying3 Tryz.underlying3 (hval 1 23 v' rfl rfl)
    exact walk_EvictNone r x y W (tabs_met hS hL)
end Go.Proofs.YtalcfhehahaknaaGreatDoor
