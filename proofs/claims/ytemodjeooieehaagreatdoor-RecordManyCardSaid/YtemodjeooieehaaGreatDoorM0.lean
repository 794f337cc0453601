/- A part of the proof of RecordMany. -/
import Derived.Test.YtemodjeooieehaaGreatDoorM1
import Derived.Test.YtemodjeooieehaaGreatDoorAbsP
namespace Go.Proofs.YtemodjeooieehaaGreatDoor
open Go.RowKit Go.Rep
set_option maxRecDepth 100000
theorem below_grown {w w' : World} (h : Below w.heap.size w w') : w.grownBy w' none := ⟨h.os, h.tape, h.output, h.size, fun k hk _ => h.block k hk⟩
theorem own_grown {w w' : World} {base size n : Nat} {e : TypeId} {v : Value} {xs : List Value} (h : w.ownsRow base e size v n xs) (hg : w.grownBy w' none) : w'.ownsRow base e size v n xs := h.kept hg (by cases hv : v.ownBlock <;> simp)
end Go.Proofs.YtemodjeooieehaaGreatDoor
