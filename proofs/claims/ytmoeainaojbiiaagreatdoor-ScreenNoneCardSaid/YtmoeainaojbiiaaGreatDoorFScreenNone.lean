/- The law returns true, and changes nothing that was there, under the row's condition on the listed variables. -/
import Derived.Test.YtmoeainaojbiiaaGreatDoorTabs
import Derived.Test.YtmoeainaojbiiaaGreatDoorDoor
import Derived.Test.YtmoeainaojbiiaaGreatDoorShapA
import Derived.Test.YtmoeainaojbiiaaGreatDoorShapB
import Derived.Test.YtmoeainaojbiiaaGreatDoorJ1
import Derived.Test.YtmoeainaojbiiaaGreatDoorRScreenNone
namespace Go.Proofs.YtmoeainaojbiiaaGreatDoor
open Go.RowKit Go.Abs Go.ChangeShapes Go.WideShapes
set_option maxRecDepth 100000
theorem walk_ScreenNone (n0 n1 : Int) (w : World) (hw : Tabbed w) : Calls Tryz.prog 4 #[.int .i64 n0, .int .i64 n1] w fun e w' => e = .returned (.bool true) ∧ Below w.heap.size w w' := by
  have hk := run_ScreenNone n0 n1
  rw [← gsize] at hk
  refine (calls_recs (args := [.int .i64 n0, .int .i64 n1]) Tryz.checked.mixed (good_of good) look_ScreenNone Tryz.func4 rfl hw.1 hw.2 ⟨trivial, trivial, trivial⟩ hk).mono fun e w' he => ?_
  obtain ⟨σ', h1, _, h3⟩ := he
  exact ⟨h1, h3⟩
theorem screenNone_lifted (os : Os) (started : os.Started) (H : Type) (enc : TypeId × Value → H) :
    ReturnsInHanded {} Tryz.checked os 4 .any (fun w args => (Rows.screenNoneSpec.pre enc Tryz.prog Tryz.f4 [] false w args ∧ laidMetH Tryz.prog Rows.screenNoneRow.laid w) ∧ sizedMet enc Tryz.prog Tryz.f4 (OpenSpec.ofChange Rows.screenNoneSpec) false w args)
      (Rows.screenNoneSpec.post enc Tryz.prog Tryz.f4 false true false false) := by
  refine law_row (C := Tryz.checked) (laid := Rows.screenNoneRow.laid) (bt := 4) own started (by kernel_rfl) Tryz.func4 j_laidOut (by kernel_rfl) rfl (by kernel_rfl) (by kernel_rfl) ?_
    (ChangeSpec.witness_shaped (enc := enc) (C := Tryz.checked) (os := os) (X := fun w _ => laidMetH Tryz.prog Rows.screenNoneRow.laid w) false (startWorld os) #[.int .i64 0, .int .i64 0] 8 rfl (World.shaped_of_RefB (shapA os _) (shapB os _)) (by kernel_rfl) (by kernel_rfl) (by kernel_rfl) (door_met os _)) ?_
  · intro ds hd
    rw [Tryz.params4] at hd
    match ds, hd with
    | [d0, d1], _ => rfl
  · intro W base args ds before hval hA _ hS hL
    rw [Tryz.params4] at hA hval
    rw [MakeChecks.laidMetH_plain _ _ _ (by kernel_rfl)] at hL
    obtain ⟨v, v', d, d', p, p', rfl, rfl, rfl, h0, h1⟩ := trodAll_two hA
    obtain ⟨r, rfl, rfl, rfl, _⟩ := open_int Tryz.underlying3 (hval 0 3 v rfl rfl) h0
    obtain ⟨c, rfl, rfl, rfl, _⟩ := open_int Tryz.underlying3 (hval 1 3 v' rfl rfl) h1
    exact walk_ScreenNone r c W (tabs_met hS hL)
end Go.Proofs.YtmoeainaojbiiaaGreatDoor
