/- A part of the proof of TermNew. -/
import Derived.Test.YtbnnnmohggladabGreatDoorNU
import Derived.Test.YtbnnnmohggladabGreatDoorCK
namespace Go.Proofs.YtbnnnmohggladabGreatDoor
open Go.RowKit Go.Rep
set_option maxRecDepth 100000
def YesT (W : World) (e : Ending) (w' : World) : Prop := e = .returned (.bool true) ∧ Below W.heap.size W w'
set_option maxHeartbeats 4000000 in
theorem term_law {r c h : Int} {n m k : Nat} (en : nearI r 1 1000 = n) (em : nearI c 1 1000 = m) (ek : nearI h 0 1048576 = k) (n0 : 1 ≤ n) (hn : n ≤ 1000) (m0 : 1 ≤ m) (hm : m ≤ 1000) (hk : k ≤ 1048576) (W : World) (hw : Laid W) : Calls Tryz.prog 3 #[.agg #[.int .i64 r, .int .i64 c, .int .i64 h]] W (YesT W) := by
  have hc := Blk.new W 23 #[.int .i64 r, .int .i64 c, .int .i64 h]
  have hG := hw.size
  have hb0 : Below W.heap.size W (W.alloc (.cells #[.int .i64 r, .int .i64 c, .int .i64 h] 23)) := (Below.refl _ _).alloc (Nat.le_refl _) _
  have EN := Lib.hid en
  have EM := Lib.hid em
  have EK := Lib.hid ek
  clear en em ek
  go_enter Tryz.func3, Tryz.ntmps3
  go_wp2_with (first
    | (refine wpList_load_blk 23 (.tmp 1) rfl (by rfl) _ rfl #[.int .i64 r, .int .i64 c, .int .i64 h] _ (hc6) Tryz.underlying23 rfl (by kernel_rfl) ?_)
    | (refine wpList_load_blk 23 (.tmp 1) rfl (by rfl) _ rfl #[.int .i64 r, .int .i64 c, .int .i64 h] _ (hc3) Tryz.underlying23 rfl (by kernel_rfl) ?_)
    | (refine wpList_load_blk 23 (.tmp 1) rfl (by rfl) _ rfl #[.int .i64 r, .int .i64 c, .int .i64 h] _ (hc) Tryz.underlying23 rfl (by kernel_rfl) ?_)
    | (go_at_call 4; refine (rclamp_any _ _ _ _).mono ?_; rintro e w1 ⟨rfl, hb1⟩; rw [EN.out, EM.out, EK.out]; have hs1 : W.heap.size + 1 ≤ w1.heap.size := (by have := hb1.size; rw [alloc_size] at this; exact this); have hbw1 : Below W.heap.size W (w1.alloc (.cells #[.int .i64 n, .int .i64 m, .int .i64 k] 23)) := (hb0.trans (hb1.mono (by rw [alloc_size]; omega))).alloc (by omega) _; have hc3 := (hc.below hb1 hc.lt).alloc (.cells #[.int .i64 n, .int .i64 m, .int .i64 k] 23); have hT1 := tab_up hG hbw1 hw)
    | (go_at_call 6; refine (term_new EN.out EM.out EK.out n0 hn m0 hm hk _).mono ?_; rintro e w2 ⟨t, rfl, ht, HT, hb2⟩; have hc6 := hc3.below hb2 hc3.lt; have hbw2 := hbw1.trans (hb2.mono hbw1.size); have hlo : W.heap.size ≤ (w1.alloc (.cells #[.int .i64 n, .int .i64 m, .int .i64 k] 23)).heap.size := hbw1.size)
    | (go_at_call 8; refine (rterm_new EN.out EM.out EK.out n0 hn hm _).mono ?_; rintro e w3 ⟨tr, rfl, htr, RT3, hb3⟩; have HT3 := HT.below hb3; have hbw3 := hbw2.trans (hb3.mono hbw2.size))
    | (go_at_call 7; refine (tsame_ok HT3 RT3 n0 hn m0 hm).mono ?_; rintro e w4 ⟨rfl, hb4⟩; have HT4 := HT3.below hb4; have hbw4 := hbw3.trans (hb4.mono hbw3.size))
    | (go_at_call 9; refine (term_replies HT4).mono ?_; rintro e w5 ⟨rfl, hb5⟩; have hbw5 := hbw4.trans (hb5.mono hlo); have hT5 := tab_up hG hbw5 hw)
    | (go_at_call 5; refine (any_Known _ hT5).mono ?_; rintro e w6 ⟨rfl, hb6⟩; have hbw6 := hbw5.trans (hb6.mono hbw5.size))
    | (go_at_call 5; refine (any_Known _ hT1).mono ?_; rintro e w7 ⟨rfl, hb7⟩; have hbw7 := hbw1.trans (hb7.mono hbw1.size))
    | fail)
  all_goals
    go_ret
    first | exact ⟨rfl, hbw6⟩ | exact ⟨rfl, hbw7⟩
theorem near_bounds {x lo hi : Int} (h : lo ≤ hi) : lo ≤ nearI x lo hi ∧ nearI x lo hi ≤ hi := by unfold nearI; split <;> (try split) <;> omega
theorem walk_TermNew (r c h : Int) (W : World) (hw : Laid W) : Calls Tryz.prog 3 #[.agg #[.int .i64 r, .int .i64 c, .int .i64 h]] W (YesT W) := by
  have b1 := near_bounds (x := r) (show (1 : Int) ≤ 1000 by decide)
  have b2 := near_bounds (x := c) (show (1 : Int) ≤ 1000 by decide)
  have b3 := near_bounds (x := h) (show (0 : Int) ≤ 1048576 by decide)
  obtain ⟨n, en⟩ := Int.eq_ofNat_of_zero_le (a := nearI r 1 1000) (by omega)
  obtain ⟨m, em⟩ := Int.eq_ofNat_of_zero_le (a := nearI c 1 1000) (by omega)
  obtain ⟨k, ek⟩ := Int.eq_ofNat_of_zero_le (a := nearI h 0 1048576) (by omega)
  exact term_law en em ek (by omega) (by omega) (by omega) (by omega) (by omega) W hw
end Go.Proofs.YtbnnnmohggladabGreatDoor
