/- A part of the proof of ChunksMany. -/
import Derived.Test.YtdjbjcnkboggjaaGreatDoorRKnown
import Derived.Test.YtdjbjcnkboggjaaGreatDoorTabs
import Derived.Below
namespace Go.Proofs.YtdjbjcnkboggjaaGreatDoor
open Go.Abs
set_option maxRecDepth 100000
open Go.RowKit
/-- The listed tables lie in memory. -/
def Laid (w : World) : Prop := Tabbed w
theorem Laid.size {w : World} (h : Laid w) : Tryz.prog.globals.size ≤ w.heap.size := h.1
theorem tab_up {B : Nat} {w w' : World} (hB : Tryz.prog.globals.size ≤ B) (h : Below B w w') (ht : Laid w) : Laid w' := by
  obtain ⟨h1, h2⟩ := ht
  refine ⟨Nat.le_trans h1 h.size, fun t ht => ?_⟩
  obtain ⟨a1, a2, a3, a4, a5, a6⟩ := h2 t ht
  exact ⟨a1, a2, a3, a4, a5, (h.block t.at' (by omega)).trans a6⟩
theorem any_Known (w : World) (hw : Laid w) : Calls Tryz.prog 5 #[] w fun e w' => e = .returned (.bool true) ∧ Below w.heap.size w w' := by
  have hk := run_Known
  rw [← gsize] at hk
  refine (calls_recs (args := []) Tryz.checked.mixed (good_of good) look_Known Tryz.func5 rfl hw.1 hw.2 trivial hk).mono fun e w' he => ?_
  obtain ⟨σ', h1, _, h3⟩ := he
  exact ⟨h1, h3⟩
end Go.Proofs.YtdjbjcnkboggjaaGreatDoor
