/- A part of the proof of TermNew. -/
import Derived.Test.YtbnnnmohggladabGreatDoorT10
import Derived.Test.YtbnnnmohggladabGreatDoorTabs
import Derived.Test.YtbnnnmohggladabGreatDoorAbsN
namespace Go.Proofs.YtbnnnmohggladabGreatDoor
open Go.RowKit Go.Abs Go.ChangeShapes Go.WideShapes
set_option maxRecDepth 100000
theorem open_TermNew {H : Type} {enc : TypeId × Value → H} {W : World} {base : Nat} {args : Array Value} {ds : List (DataW H)} {before : List MemPlace}
    (hval : ∀ (j : Nat) (t : TypeId) (v : Value), (#[23] : Array TypeId)[j]? = some t → args[j]? = some v → Value.okWide Tryz.prog W .any base t v)
    (hA : DataW.TrodAll enc Tryz.prog W 0 (fun _ => true) true [23] args.toList ds before)
    (_ : (DataW.weightsEach Tryz.prog Tryz.f3.params.toList ds).all (· ≤ reachBytes) = true)
    (hS : W.ShapedOpen Tryz.prog) (hL : laidMet Tryz.prog Rows.termNewRow.laid W) : Calls Tryz.prog 3 args W fun e W' => e = .returned (.bool true) ∧ Below W.heap.size W W' := by
  obtain ⟨v, d, rfl, rfl, _⟩ := trodAll_one hA
  obtain ⟨r, c, h, rfl⟩ := okWide_ints3 Tryz.underlying23 (by kernel_rfl) (by kernel_rfl) Tryz.underlying3 Tryz.underlying3 Tryz.underlying3 (hval 0 23 v rfl rfl)
  exact walk_TermNew r c h W (tabs_met hS hL)
end Go.Proofs.YtbnnnmohggladabGreatDoor
