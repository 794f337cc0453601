/- A part of the proof of TermNew. -/
import Derived.Test.YtbnnnmohggladabGreatDoorCKnown
namespace Go.Proofs.YtbnnnmohggladabGreatDoor
open Go.Abs Go.RowKit
/-- The listed tables lie in memory. -/
def Laid (w : World) : Prop := Tabbed w
theorem Laid.size {w : World} (h : Laid w) : Tryz.prog.globals.size ≤ w.heap.size := h.1
theorem tab_up {B : Nat} {w w' : World} (hB : Tryz.prog.globals.size ≤ B) (h : Below B w w') (ht : Laid w) : Laid w' := by
  obtain ⟨h1, h2⟩ := ht
  refine ⟨Nat.le_trans h1 h.size, fun t ht => ?_⟩
  obtain ⟨a1, a2, a3, a4, a5, a6⟩ := h2 t ht
  exact ⟨a1, a2, a3, a4, a5, (h.block t.at' (by omega)).trans a6⟩
end Go.Proofs.YtbnnnmohggladabGreatDoor
