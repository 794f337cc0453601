/- A part of the proof of ChunksMany. -/
import Derived.Test.YtdjbjcnkboggjaaGreatDoorT4
import Derived.Test.YtdjbjcnkboggjaaGreatDoorAbsD
import Derived.Test.YtdjbjcnkboggjaaGreatDoorRows
namespace Go.Proofs.YtdjbjcnkboggjaaGreatDoor
open Go.RowKit Go.Rep
set_option maxRecDepth 100000
open Go.Abs Go.ChangeShapes Go.WideShapes
theorem open_ChunksMany {H : Type} {enc : TypeId × Value → H} {W : World} {base : Nat} {args : Array Value} {ds : List (DataW H)} {before : List MemPlace}
    (hval : ∀ (j : Nat) (t : TypeId) (v : Value), (#[3] : Array TypeId)[j]? = some t → args[j]? = some v → Value.okWide Tryz.prog W .any base t v)
    (hA : DataW.TrodAll enc Tryz.prog W 0 (fun _ => true) true [3] args.toList ds before)
    (_ : (DataW.weightsEach Tryz.prog Tryz.f4.params.toList ds).all (· ≤ reachBytes) = true)
    (hS : W.ShapedOpen Tryz.prog) (hL : laidMet Tryz.prog Rows.chunksManyRow.laid W) : Calls Tryz.prog 4 args W fun e W' => e = .returned (.bool true) ∧ Below W.heap.size W W' := by
  obtain ⟨v, d, rfl, rfl, h0⟩ := trodAll_one hA
  obtain ⟨r, rfl, _, _, _⟩ := open_int Tryz.underlying3 (hval 0 3 v rfl rfl) h0
  exact walk_ChunksMany r W (tabs_met hS hL)
end Go.Proofs.YtdjbjcnkboggjaaGreatDoor
