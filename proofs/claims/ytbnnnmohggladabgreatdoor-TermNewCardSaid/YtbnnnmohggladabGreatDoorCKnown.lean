/- A part of the proof of TermNew. -/
import Derived.Test.YtbnnnmohggladabGreatDoorRKnown
import Derived.Test.YtbnnnmohggladabGreatDoorTabs
import Derived.Below
namespace Go.Proofs.YtbnnnmohggladabGreatDoor
open Go.Abs
set_option maxRecDepth 100000
open Go.RowKit
theorem any_Known (w : World) (hw : Tabbed w) : Calls Tryz.prog 5 #[] w fun e w' => e = .returned (.bool true) ∧ Below w.heap.size w w' := by
  have hk := run_Known
  rw [← gsize] at hk
  refine (calls_recs (args := []) Tryz.checked.mixed (good_of good) look_Known Tryz.func5 rfl hw.1 hw.2 trivial hk).mono fun e w' he => ?_
  obtain ⟨σ', h1, _, h3⟩ := he
  exact ⟨h1, h3⟩
end Go.Proofs.YtbnnnmohggladabGreatDoor
