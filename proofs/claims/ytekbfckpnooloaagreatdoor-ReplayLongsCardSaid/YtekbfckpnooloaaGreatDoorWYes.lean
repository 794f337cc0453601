/- A part of the proof of ReplayLongs. -/
import Derived.Test.YtekbfckpnooloaaGreatDoorCKnown
import Derived.Below
namespace Go.Proofs.YtekbfckpnooloaaGreatDoor
open Go.RowKit Go.Abs Go.ChangeShapes Go.WideShapes
set_option maxRecDepth 100000
theorem tab_up {B : Nat} {w w' : World} (hB : Tryz.prog.globals.size ≤ B) (h : Below B w w') (ht : Tabbed w) : Tabbed w' :=
  ⟨Nat.le_trans ht.1 h.size, fun t htm => by
    obtain ⟨a, b, c, d, e, f⟩ := ht.2 t htm
    exact ⟨a, b, c, d, e, by rw [h.block _ (Nat.lt_of_lt_of_le a hB)]; exact f⟩⟩
/-- The answer. -/
def Yes (B : Nat) (W : World) (e : Ending) (w' : World) : Prop := e = .returned (.bool true) ∧ Below B W w'
end Go.Proofs.YtekbfckpnooloaaGreatDoor
