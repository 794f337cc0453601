/- A part of the proof of ReplayParses. -/
import Derived.Test.YtekbfckpnooloaaGreatDoorPA
import Derived.Deep.LoopGhost
namespace Go.Proofs.YtekbfckpnooloaaGreatDoor
open Go.RowKit Go.Rep
set_option maxRecDepth 100000
def SameP (w : World) (e : Ending) (w' : World) : Prop := e = .returned (.bool true) ∧ ∃ q, w' = w.drewN q
set_option maxHeartbeats 1000000 in
theorem same_any {A A' : Option Addr} {m c c' B B' : Nat} {xs : List TOp} {w : World} (hx : Reads w B 5 A m (opCells xs)) (hy : Reads w B' 5 A' m (opCells xs)) (hm : m ≤ 4096) :
    Calls Tryz.prog 21 #[.slice A m c, .slice A' m c'] w (SameP w) := by
  go_enter Tryz.func21, Tryz.ntmps21
  go_wp2
  go_loopw [5] (fun i wr => ∃ k q : Nat, k ≤ m ∧ i = .int .i64 k ∧ wr = w.drewN q) (fun i _ => m - (intOf i).toNat)
  case atStart => exact ⟨0, 0, Nat.zero_le _, rfl, rfl⟩
  case round =>
    obtain ⟨k, q, hk, rfl, rfl⟩ := hrel
    by_cases hlt : k < m
    · obtain ⟨ad, o, rfl, ho, x0, x1, x2, x3, x4⟩ := hx.op hlt
      obtain ⟨ad', o', rfl, ho', y0, y1, y2, y3, y4⟩ := hy.op hlt
      rw [ho] at ho'
      cases ho'
      clear hx hy ho
      go_wp2
      go_quiet (fail)
      go_wp2
      go_roundw
      case rel => exact ⟨k + 1, q + nq, by omega, by go_num, by first | rfl | (simp [World.drewN, Nat.add_assoc])⟩
      case measure => simp [intOf]; omega
    · go_wp2
      go_ret
      exact ⟨rfl, q, rfl⟩
end Go.Proofs.YtekbfckpnooloaaGreatDoor
