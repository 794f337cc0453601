/- A part of the proof of ScreenReplies. -/
import Derived.Test.YtmoeainaojbiiaaGreatDoorSMade
import Derived.Test.YtmoeainaojbiiaaGreatDoorSD0
import Derived.Test.YtmoeainaojbiiaaGreatDoorSD1
import Derived.Test.YtmoeainaojbiiaaGreatDoorSD2
import Derived.Test.YtmoeainaojbiiaaGreatDoorSD3
import Derived.Test.YtmoeainaojbiiaaGreatDoorSD4
import Derived.Test.YtmoeainaojbiiaaGreatDoorSD5
import Derived.Test.YtmoeainaojbiiaaGreatDoorSD6
import Derived.Test.YtmoeainaojbiiaaGreatDoorSD7
namespace Go.Proofs.YtmoeainaojbiiaaGreatDoor
open Go.Abs
set_option maxRecDepth 100000
theorem stretch_get {p : Nat → Bool} {a n : Nat} (h : (stretch a n).all p = true) : ∀ k, a ≤ k → k < a + n → p k = true := by
  intro k h1 h2
  exact List.all_eq_true.1 h k (List.mem_map.2 ⟨k - a, List.mem_range.2 (by omega), by omega⟩)
theorem does_ends (k : Nat) (h : k < 682) : doesAt k = true := by
  rcases Nat.lt_or_ge k 86 with h0 | h0
  · exact stretch_get does0 k (by omega) (by omega)
  rcases Nat.lt_or_ge k 172 with h1 | h1
  · exact stretch_get does1 k (by omega) (by omega)
  rcases Nat.lt_or_ge k 258 with h2 | h2
  · exact stretch_get does2 k (by omega) (by omega)
  rcases Nat.lt_or_ge k 344 with h3 | h3
  · exact stretch_get does3 k (by omega) (by omega)
  rcases Nat.lt_or_ge k 430 with h4 | h4
  · exact stretch_get does4 k (by omega) (by omega)
  rcases Nat.lt_or_ge k 516 with h5 | h5
  · exact stretch_get does5 k (by omega) (by omega)
  rcases Nat.lt_or_ge k 602 with h6 | h6
  · exact stretch_get does6 k (by omega) (by omega)
  rcases Nat.lt_or_ge k 682 with h7 | h7
  · exact stretch_get does7 k (by omega) (by omega)
  omega
theorem rep_length : ∀ k, (rep k).length = 6 * k
  | 0 => rfl
  | k + 1 => by
    show (rep k).length + 1 + 1 + 1 + 1 + 1 + 1 = _
    rw [rep_length k]
    omega
end Go.Proofs.YtmoeainaojbiiaaGreatDoor
