/- A part of the proof of ChunksCuts. -/
import Derived.Test.YtdjbjcnkboggjaaGreatDoorS3
import Derived.Test.YtdjbjcnkboggjaaGreatDoorCKnown
import Derived.Test.YtdjbjcnkboggjaaGreatDoorAbsD
namespace Go.Proofs.YtdjbjcnkboggjaaGreatDoor
open Go.RowKit Go.Abs Go.Rep Go.ChangeShapes Go.WideShapes
set_option maxRecDepth 100000
theorem open_ChunksCuts {H : Type} {enc : TypeId × Value → H} {W : World} {base : Nat} {args : Array Value} {ds : List (DataW H)} {before : List MemPlace}
    (hval : ∀ (j : Nat) (t : TypeId) (v : Value), (#[22, 22] : Array TypeId)[j]? = some t → args[j]? = some v → Value.okWide Tryz.prog W .any base t v)
    (hA : DataW.TrodAll enc Tryz.prog W 0 (fun _ => true) true [22, 22] args.toList ds before)
    (_ : (DataW.weightsEach Tryz.prog Tryz.f3.params.toList ds).all (· ≤ reachBytes) = true)
    (hS : W.ShapedOpen Tryz.prog) (hL : laidMet Tryz.prog Rows.chunksCutsRow.laid W) : Calls Tryz.prog 3 args W fun e W' => e = .returned (.bool true) ∧ Below W.heap.size W W' := by
  obtain ⟨v, v', d, d', p, p', rfl, rfl, rfl, h0, h1⟩ := trodAll_two hA
  obtain ⟨A, n, c, l, rfl, hr, hnc, hc⟩ := open_reads_bytes Tryz.underlying22 Tryz.underlying5 (by kernel_rfl) (hval 0 22 v rfl rfl) h0
  obtain ⟨A', n', c', l', rfl, hr', hnc', hc'⟩ := open_reads_bytes Tryz.underlying22 Tryz.underlying5 (by kernel_rfl) (hval 1 22 v' rfl rfl) h1
  exact cuts_any (tabs_met hS hL) hnc hc hr hr'
end Go.Proofs.YtdjbjcnkboggjaaGreatDoor
