/- A part of the proof of RecordTexts. -/
import Derived.Test.YtiglllddgikeiaaGreatDoorRO
import Derived.Test.YtiglllddgikeiaaGreatDoorM1
import Derived.Test.YtiglllddgikeiaaGreatDoorCKnown
import Derived.Test.YtiglllddgikeiaaGreatDoorRows
import Derived.Test.YtiglllddgikeiaaGreatDoorAbsD
namespace Go.Proofs.YtiglllddgikeiaaGreatDoor
open Go.RowKit Go.Rep Go.ChangeShapes Go.WideShapes
set_option maxRecDepth 100000
theorem open_RecordTexts {H : Type} {enc : TypeId × Value → H} {W : World} {base : Nat} {args : Array Value} {ds : List (DataW H)} {before : List MemPlace}
    (hval : ∀ (j : Nat) (t : TypeId) (v : Value), (#[26] : Array TypeId)[j]? = some t → args[j]? = some v → Value.okWide Tryz.prog W .any base t v)
    (hA : DataW.TrodAll enc Tryz.prog W 0 (fun _ => true) true [26] args.toList ds before)
    (_ : (DataW.weightsEach Tryz.prog Tryz.f3.params.toList ds).all (· ≤ reachBytes) = true)
    (hS : W.ShapedOpen Tryz.prog) (hL : laidMet Tryz.prog Rows.recordTextsRow.laid W) : Calls Tryz.prog 3 args W fun e W' => e = .returned (.bool true) ∧ Below W.heap.size W W' := by
  obtain ⟨v0, d0, rfl, rfl, h0⟩ := trodAll_one hA
  obtain ⟨r, c, hh, A, m, cp, l, rfl, hr, hmc, hc⟩ := open_record (hval 0 26 v0 rfl rfl) h0
  cases hs : smallB l with
  | false => exact rt_large (laid_met hS hL) hr (Nat.le_refl _) hs
  | true => exact rt_small (laid_met hS hL) hr (Nat.le_refl _) hc hmc hs
end Go.Proofs.YtiglllddgikeiaaGreatDoor
