/- A part of the proof of ReplayLongs. -/
import Derived.Test.YtekbfckpnooloaaGreatDoorWDo
import Derived.Test.YtekbfckpnooloaaGreatDoorWWr
import Derived.Test.YtekbfckpnooloaaGreatDoorPD
namespace Go.Proofs.YtekbfckpnooloaaGreatDoor
open Go.RowKit Go.Rep
set_option maxRecDepth 100000
theorem byteAt_zeros (n i : Nat) : byteAt (List.replicate n 0) i = 0 := by
  unfold byteAt
  rw [List.getD_eq_getElem?_getD, List.getElem?_replicate]
  split <;> rfl
theorem opsAt_zeros (n : Nat) : ∀ d k, n - k = d → k ≤ n → opsAt (List.replicate n 0) k = List.replicate (n - k) o0 := by
  intro d
  induction d with
  | zero =>
    intro k hk hkn
    rw [opsAt_out (by simp; omega), hk]
    rfl
  | succ d ih =>
    intro k hk hkn
    have he : endAt (List.replicate n 0) k = k + 1 := by
      unfold endAt
      rw [byteAt_zeros, List.length_replicate]
      omega
    have ho : opAt (List.replicate n 0) k = o0 := by
      unfold opAt
      rw [he, byteAt_zeros, if_pos (by decide)]
      unfold o0
      congr 2
      rw [List.drop_eq_nil_of_le (by simp; omega)]
    have hx : nextAt (List.replicate n 0) k = k + 1 := by
      unfold nextAt
      rw [he, byteAt_zeros, if_pos (by decide)]
    rw [opsAt_in (by simp; omega), ho, hx, ih (k + 1) (by omega) (by omega), hk, ← List.replicate_succ]
    congr 1
    omega
def RunP (w : World) (e : Ending) (w' : World) : Prop := ∃ a : Addr, e = .returned (.tuple #[.pointer (some a), .int .i64 0]) ∧ Below w.heap.size w w'
set_option maxHeartbeats 1000000 in
theorem run_ok {A : Option Addr} {n c B : Nat} {w : World} (hw : Tabbed w) (hr : Reads w B 1 A n (bcells (List.replicate n 0))) (hB : B ≤ w.heap.size) (hn : n ≤ 4096) (hnc : n ≤ c) (hc : c ≤ maxLen) :
    Calls Tryz.prog 10 #[.agg #[.int .i64 1, .int .i64 1, .int .i64 0], .slice A n c] w (RunP w) := by
  have hz := opsAt_zeros n n 0 rfl (Nat.zero_le _)
  rw [Nat.sub_zero] at hz
  have HZ := Lib.hid hz
  clear hz
  have hG : Tryz.prog.globals.size ≤ w.heap.size := hw.1
  go_enter Tryz.func10, Tryz.ntmps10
  go_wp2_with (first
    | (go_at_call 9; refine (parse_any (hr.alloc hB _) (by simp; omega) hn hnc hc).mono ?_; rintro e w1 ⟨v, rfl, hv, hb1⟩; rw [HZ.out] at hv; simp only [List.length_replicate] at hv; obtain ⟨A1, c1, rfl, _, _, hx⟩ := own_slice hv; have hbw1 := ((Below.refl w.heap.size w).alloc (Nat.le_refl _) (.cells #[.int .i64 1, .int .i64 1, .int .i64 0] 35)).trans (hb1.mono (by simp)); have hT1 := tab_up hG hbw1 hw; have bC := (Blk.new w 35 #[.int .i64 1, .int .i64 1, .int .i64 0]).below hb1 (by simp); have d0 : w1.cell? ⟨w.heap.size, 0, none⟩ = some (.int .i64 1) := bC.cell 0; have d1 : w1.cell? ⟨w.heap.size, 1, none⟩ = some (.int .i64 1) := bC.cell 1; have d2 : w1.cell? ⟨w.heap.size, 2, none⟩ = some (.int .i64 0) := bC.cell 2)
    | (go_at_call 24; refine (new_any _ hT1).mono ?_; rintro e w2 ⟨a, own, rfl, hS, hb2⟩; have hb12 := hbw1.trans (hb2.mono hbw1.size); have hT2 := tab_up hG hb12 hw)
    | (go_at_call 13; refine (do_ok (Nat.le_trans hG hbw1.size) hT2 hS (hx.below hb2) hn).mono ?_; rintro e w3 ⟨rfl, hb3⟩))
  go_ret2
  exact ⟨_, rfl, hb12.trans (hb3.mono hbw1.size)⟩
end Go.Proofs.YtekbfckpnooloaaGreatDoor
