/- A part of the proof of RecordMany. -/
import Derived.Test.YtemodjeooieehaaGreatDoorMw1
import Derived.Test.YtemodjeooieehaaGreatDoorMw2
import Derived.Test.YtemodjeooieehaaGreatDoorMw3
import Derived.Test.YtemodjeooieehaaGreatDoorMw4
import Derived.Test.YtemodjeooieehaaGreatDoorMw5
import Derived.Test.YtemodjeooieehaaGreatDoorRows
import Derived.Test.YtemodjeooieehaaGreatDoorAbsD
namespace Go.Proofs.YtemodjeooieehaaGreatDoor
open Go.RowKit Go.Rep Go.ChangeShapes Go.WideShapes
set_option maxRecDepth 100000
theorem walk_RecordMany (r c : Int) (W : World) (hw : Laid W) : Calls Tryz.prog 3 #[.int .i64 r, .int .i64 c] W (Yes W.heap.size W) := by
  by_cases h1 : r < 1998
  · skip
    go_enter Tryz.func3, Tryz.ntmps3
    go_wp2_with (go_at_call 4; refine (any_Known _ hw).mono ?_; rintro e w1 ⟨rfl, hb⟩)
    go_ret
    exact ⟨rfl, hb⟩
  by_cases h2 : 2002 < r
  · skip
    go_enter Tryz.func3, Tryz.ntmps3
    go_wp2_with (go_at_call 4; refine (any_Known _ hw).mono ?_; rintro e w1 ⟨rfl, hb⟩)
    go_ret
    exact ⟨rfl, hb⟩
  by_cases h3 : c < 1
  · skip
    go_enter Tryz.func3, Tryz.ntmps3
    go_wp2_with (go_at_call 4; refine (any_Known _ hw).mono ?_; rintro e w1 ⟨rfl, hb⟩)
    go_ret
    exact ⟨rfl, hb⟩
  by_cases h4 : 5 < c
  · skip
    go_enter Tryz.func3, Tryz.ntmps3
    go_wp2_with (go_at_call 4; refine (any_Known _ hw).mono ?_; rintro e w1 ⟨rfl, hb⟩)
    go_ret
    exact ⟨rfl, hb⟩
  obtain ⟨m, rfl⟩ := Int.eq_ofNat_of_zero_le (a := r) (by omega)
  have hc : c = 1 ∨ c = 2 ∨ c = 3 ∨ c = 4 ∨ c = 5 := by omega
  rcases hc with rfl | rfl | rfl | rfl | rfl
  · exact many_walk1 m (by omega) (by omega) W hw
  · exact many_walk2 m (by omega) (by omega) W hw
  · exact many_walk3 m (by omega) (by omega) W hw
  · exact many_walk4 m (by omega) (by omega) W hw
  · exact many_walk5 m (by omega) (by omega) W hw
theorem open_RecordMany {H : Type} {enc : TypeId × Value → H} {W : World} {base : Nat} {args : Array Value} {ds : List (DataW H)} {before : List MemPlace}
    (hval : ∀ (j : Nat) (t : TypeId) (v : Value), (#[3, 3] : Array TypeId)[j]? = some t → args[j]? = some v → Value.okWide Tryz.prog W .any base t v)
    (hA : DataW.TrodAll enc Tryz.prog W 0 (fun _ => true) true [3, 3] args.toList ds before)
    (_ : (DataW.weightsEach Tryz.prog Tryz.f3.params.toList ds).all (· ≤ reachBytes) = true)
    (hS : W.ShapedOpen Tryz.prog) (hL : laidMet Tryz.prog Rows.recordManyRow.laid W) : Calls Tryz.prog 3 args W fun e W' => e = .returned (.bool true) ∧ Below W.heap.size W W' := by
  obtain ⟨v, v', d, d', p, p', rfl, rfl, rfl, h0, h1⟩ := trodAll_two hA
  obtain ⟨r, rfl, rfl, rfl, _⟩ := open_int Tryz.underlying3 (hval 0 3 v rfl rfl) h0
  obtain ⟨c, rfl, rfl, rfl, _⟩ := open_int Tryz.underlying3 (hval 1 3 v' rfl rfl) h1
  exact walk_RecordMany r c W (laid_met hS hL)
end Go.Proofs.YtemodjeooieehaaGreatDoor
