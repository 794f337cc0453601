/- A part of the proof of ScreenNew. -/
import Derived.Test.YtinjdlpboahifaaGreatDoorNC
import Derived.Test.YtinjdlpboahifaaGreatDoorCK
import Derived.Lib.SliceRun
import Derived.Test.YtinjdlpboahifaaGreatDoorN27
namespace Go.Proofs.YtinjdlpboahifaaGreatDoor
open Go.RowKit Go.Rep
set_option maxRecDepth 100000
def smallB (r c h : Int) : Bool := !fineB r c h || decide (r ≤ 12 ∧ c ≤ 24 ∧ h ≤ 30)
theorem small_any (r c h : Int) (w : World) : Calls Tryz.prog 4 #[.agg #[.int .i64 r, .int .i64 c, .int .i64 h]] w fun e w' => e = .returned (.bool (smallB r c h)) ∧ Below w.heap.size w w' := by
  have hc := Blk.new w 23 #[.int .i64 r, .int .i64 c, .int .i64 h]
  have hb0 : Below w.heap.size w (w.alloc (.cells #[.int .i64 r, .int .i64 c, .int .i64 h] 23)) := (Below.refl _ _).alloc (Nat.le_refl _) _
  by_cases hF : fineB r c h = true
  · have HF := Lib.hid hF
    by_cases a1 : r ≤ 12
    · by_cases a2 : c ≤ 24
      · by_cases a3 : h ≤ 30
        · have hf := Lib.hid (show smallB r c h = true by simp [smallB, hF, a1, a2, a3])
          go_enter Tryz.func4, Tryz.ntmps4
          go_wp2_with (go_at_call 7; refine (fine_any _ _ _ _).mono ?_; rintro e w1 ⟨rfl, hb1⟩; rw [HF.out]; have hc1 := hc.below hb1 hc.lt; have x0 : w1.cell? ⟨w.heap.size, 0, none⟩ = some (.int .i64 r) := hc1.cell 0; have x1 : w1.cell? ⟨w.heap.size, 1, none⟩ = some (.int .i64 c) := hc1.cell 1; have x2 : w1.cell? ⟨w.heap.size, 2, none⟩ = some (.int .i64 h) := hc1.cell 2; have hbw := hb0.trans (hb1.mono (by rw [alloc_size]; omega)))
          go_ret
          exact ⟨by rw [hf.out]; first | rfl | (simp; omega), hbw⟩
        · have hf := Lib.hid (show smallB r c h = false by simp [smallB, hF, a1, a2, a3])
          go_enter Tryz.func4, Tryz.ntmps4
          go_wp2_with (go_at_call 7; refine (fine_any _ _ _ _).mono ?_; rintro e w1 ⟨rfl, hb1⟩; rw [HF.out]; have hc1 := hc.below hb1 hc.lt; have x0 : w1.cell? ⟨w.heap.size, 0, none⟩ = some (.int .i64 r) := hc1.cell 0; have x1 : w1.cell? ⟨w.heap.size, 1, none⟩ = some (.int .i64 c) := hc1.cell 1; have x2 : w1.cell? ⟨w.heap.size, 2, none⟩ = some (.int .i64 h) := hc1.cell 2; have hbw := hb0.trans (hb1.mono (by rw [alloc_size]; omega)))
          go_ret
          exact ⟨by rw [hf.out]; first | rfl | (simp; omega), hbw⟩
      · have hf := Lib.hid (show smallB r c h = false by simp [smallB, hF, a1, a2])
        go_enter Tryz.func4, Tryz.ntmps4
        go_wp2_with (go_at_call 7; refine (fine_any _ _ _ _).mono ?_; rintro e w1 ⟨rfl, hb1⟩; rw [HF.out]; have hc1 := hc.below hb1 hc.lt; have x0 : w1.cell? ⟨w.heap.size, 0, none⟩ = some (.int .i64 r) := hc1.cell 0; have x1 : w1.cell? ⟨w.heap.size, 1, none⟩ = some (.int .i64 c) := hc1.cell 1; have x2 : w1.cell? ⟨w.heap.size, 2, none⟩ = some (.int .i64 h) := hc1.cell 2; have hbw := hb0.trans (hb1.mono (by rw [alloc_size]; omega)))
        go_ret
        exact ⟨by rw [hf.out]; first | rfl | (simp; omega), hbw⟩
    · have hf := Lib.hid (show smallB r c h = false by simp [smallB, hF, a1])
      go_enter Tryz.func4, Tryz.ntmps4
      go_wp2_with (go_at_call 7; refine (fine_any _ _ _ _).mono ?_; rintro e w1 ⟨rfl, hb1⟩; rw [HF.out]; have hc1 := hc.below hb1 hc.lt; have x0 : w1.cell? ⟨w.heap.size, 0, none⟩ = some (.int .i64 r) := hc1.cell 0; have x1 : w1.cell? ⟨w.heap.size, 1, none⟩ = some (.int .i64 c) := hc1.cell 1; have x2 : w1.cell? ⟨w.heap.size, 2, none⟩ = some (.int .i64 h) := hc1.cell 2; have hbw := hb0.trans (hb1.mono (by rw [alloc_size]; omega)))
      go_ret
      exact ⟨by rw [hf.out]; first | rfl | (simp; omega), hbw⟩
  · have hF' : fineB r c h = false := by simpa using hF
    have HF := Lib.hid hF'
    have hf := Lib.hid (show smallB r c h = true by simp [smallB, hF'])
    go_enter Tryz.func4, Tryz.ntmps4
    go_wp2_with (go_at_call 7; refine (fine_any _ _ _ _).mono ?_; rintro e w1 ⟨rfl, hb1⟩; rw [HF.out]; have hc1 := hc.below hb1 hc.lt; have x0 : w1.cell? ⟨w.heap.size, 0, none⟩ = some (.int .i64 r) := hc1.cell 0; have x1 : w1.cell? ⟨w.heap.size, 1, none⟩ = some (.int .i64 c) := hc1.cell 1; have x2 : w1.cell? ⟨w.heap.size, 2, none⟩ = some (.int .i64 h) := hc1.cell 2; have hbw := hb0.trans (hb1.mono (by rw [alloc_size]; omega)))
    go_ret
    exact ⟨by rw [hf.out]; first | rfl | (simp; omega), hbw⟩
end Go.Proofs.YtinjdlpboahifaaGreatDoor

namespace Go.Proofs.YtinjdlpboahifaaGreatDoor
open Go.RowKit Go.Rep
set_option maxRecDepth 100000
theorem sclone_empty (w : World) : Calls Tryz.prog 65 #[.string .empty] w fun e w' => e = .returned (.string .empty) ∧ w = w' := by
  go_enter Tryz.func65, Tryz.ntmps65
  go_wp2
  go_ret
  exact ⟨rfl, rfl⟩
theorem clone_empty (w : World) : Calls Tryz.prog 37 #[.string .empty] w fun e w' => e = .returned (.string .empty) ∧ w = w' := by
  go_enter Tryz.func37, Tryz.ntmps37
  go_wp2_with (go_at_call 65; refine (sclone_empty _).mono ?_; rintro e w1 ⟨rfl, rfl⟩)
  go_ret
  exact ⟨rfl, rfl⟩
theorem scr_replies {s n m : Nat} {bt : Int} {pa : Addr} {q st : Value} {w : World} (hS : Blk w s 67 (SC n m (.pointer (some pa)) q st true true bt)) : Calls Tryz.prog 10 #[.pointer (some ⟨s, 0, none⟩)] w fun e w' => e = .returned (.string .empty) ∧ Below s w w' := by
  have x71 : w.cell? ⟨s, 71, none⟩ = some (.string .empty) := hS.cell 71
  have f71 := hS.frozen 71
  go_enter Tryz.func10, Tryz.ntmps10
  go_wp2_with (first
    | (go_at_call 36; refine (zero_no hS).mono ?_; rintro e w1 ⟨rfl, rfl⟩)
    | (go_at_call 37; refine (clone_empty _).mono ?_; rintro e w1 ⟨rfl, rfl⟩))
  go_ret
  exact ⟨rfl, (Below.refl _ _).setCell (p := ⟨s, 71, none⟩) (Nat.le_refl _) _⟩
end Go.Proofs.YtinjdlpboahifaaGreatDoor

namespace Go.Proofs.YtinjdlpboahifaaGreatDoor
open Go.RowKit Go.Rep
set_option maxRecDepth 100000
def YesL (W : World) (e : Ending) (w' : World) : Prop := e = .returned (.bool true) ∧ Below W.heap.size W w'
theorem law_large {r c h : Int} (hS : smallB r c h = false) (W : World) (hw : Laid W) : Calls Tryz.prog 3 #[.agg #[.int .i64 r, .int .i64 c, .int .i64 h]] W (YesL W) := by
  have hc := Blk.new W 23 #[.int .i64 r, .int .i64 c, .int .i64 h]
  have hG := hw.size
  have hb0 : Below W.heap.size W (W.alloc (.cells #[.int .i64 r, .int .i64 c, .int .i64 h] 23)) := (Below.refl _ _).alloc (Nat.le_refl _) _
  have HS := Lib.hid hS
  clear hS
  go_enter Tryz.func3, Tryz.ntmps3
  go_wp2_with (first
    | (go_at_call 4; refine (small_any _ _ _ _).mono ?_; rintro e w1 ⟨rfl, hb1⟩; rw [HS.out]; have hbw := hb0.trans (hb1.mono (by rw [alloc_size]; omega)); have hT := tab_up hG hbw hw)
    | (go_at_call 5; refine (any_Known _ hT).mono ?_; rintro e w2 ⟨rfl, hb2⟩))
  go_ret
  exact ⟨rfl, hbw.trans (hb2.mono hbw.size)⟩
theorem law_bad {r c h : Int} (hF : fineB r c h = false) (W : World) (hw : Laid W) : Calls Tryz.prog 3 #[.agg #[.int .i64 r, .int .i64 c, .int .i64 h]] W (YesL W) := by
  have hc := Blk.new W 23 #[.int .i64 r, .int .i64 c, .int .i64 h]
  have hG := hw.size
  have hb0 : Below W.heap.size W (W.alloc (.cells #[.int .i64 r, .int .i64 c, .int .i64 h] 23)) := (Below.refl _ _).alloc (Nat.le_refl _) _
  have hS : smallB r c h = true := by simp [smallB, hF]
  have HS := Lib.hid hS
  have HF := Lib.hid hF
  clear hS
  go_enter Tryz.func3, Tryz.ntmps3
  go_wp2_with (first
    | (go_at_call 4; refine (small_any _ _ _ _).mono ?_; rintro e w1 ⟨rfl, hb1⟩; rw [HS.out]; have hbw1 := hb0.trans (hb1.mono (by rw [alloc_size]; omega)); have hc1 := hc.below hb1 hc.lt; have x0 : w1.cell? ⟨W.heap.size, 0, none⟩ = some (.int .i64 r) := hc1.cell 0; have x1 : w1.cell? ⟨W.heap.size, 1, none⟩ = some (.int .i64 c) := hc1.cell 1; have x2 : w1.cell? ⟨W.heap.size, 2, none⟩ = some (.int .i64 h) := hc1.cell 2)
    | (go_at_call 6; refine (scr_new_no HF.out).mono ?_; rintro e w2 ⟨rfl, hb2⟩; have hbw2 := hbw1.trans (hb2.mono hbw1.size); have hc2 := hc1.below hb2 hc1.lt; have y0 : w2.cell? ⟨W.heap.size, 0, none⟩ = some (.int .i64 r) := hc2.cell 0; have y1 : w2.cell? ⟨W.heap.size, 1, none⟩ = some (.int .i64 c) := hc2.cell 1; have y2 : w2.cell? ⟨W.heap.size, 2, none⟩ = some (.int .i64 h) := hc2.cell 2)
    | (go_at_call 7; refine (fine_any _ _ _ _).mono ?_; rintro e w3 ⟨rfl, hb3⟩; rw [HF.out]; have hbw3 := hbw2.trans (hb3.mono hbw2.size); have hT := tab_up hG hbw3 hw)
    | (go_at_call 5; refine (any_Known _ hT).mono ?_; rintro e w4 ⟨rfl, hb4⟩))
  go_ret
  exact ⟨rfl, hbw3.trans (hb4.mono hbw3.size)⟩
set_option maxHeartbeats 2000000 in
theorem law_good {n m h : Nat} (n0 : 1 ≤ n) (hn : n ≤ 12) (m0 : 1 ≤ m) (hm : m ≤ 24) (hh : h ≤ 30) (W : World) (hw : Laid W) : Calls Tryz.prog 3 #[.agg #[.int .i64 n, .int .i64 m, .int .i64 h]] W (YesL W) := by
  have hc := Blk.new W 23 #[.int .i64 n, .int .i64 m, .int .i64 h]
  have hG := hw.size
  have hb0 : Below W.heap.size W (W.alloc (.cells #[.int .i64 n, .int .i64 m, .int .i64 h] 23)) := (Below.refl _ _).alloc (Nat.le_refl _) _
  have hF : fineB (n : Int) (m : Int) (h : Int) = true := by simp [fineB]; omega
  have hS : smallB (n : Int) (m : Int) (h : Int) = true := by simp [smallB]; omega
  have HS := Lib.hid hS
  have HF := Lib.hid hF
  clear hS hF
  go_enter Tryz.func3, Tryz.ntmps3
  go_wp2_with (first
    | (go_at_call 4; refine (small_any _ _ _ _).mono ?_; rintro e w1 ⟨rfl, hb1⟩; rw [HS.out]; have hbw1 := hb0.trans (hb1.mono (by rw [alloc_size]; omega)); have hc1 := hc.below hb1 hc.lt; have x0 : w1.cell? ⟨W.heap.size, 0, none⟩ = some (.int .i64 n) := hc1.cell 0; have x1 : w1.cell? ⟨W.heap.size, 1, none⟩ = some (.int .i64 m) := hc1.cell 1; have x2 : w1.cell? ⟨W.heap.size, 2, none⟩ = some (.int .i64 h) := hc1.cell 2)
    | (go_at_call 6; refine (scr_new n0 (by omega) m0 (by omega) (by omega)).mono ?_; rintro e w2 ⟨s, rfl, q, r, p, g, v, b, st, hs, z1, z2, z3, z4, z5, z6, hb2⟩; have H2 := ScrAt.mk z1 z2 z3 z4 z5 z6; have hbw2 := hbw1.trans (hb2.mono hbw1.size); have hc2 := hc1.below hb2 hc1.lt; have y0 : w2.cell? ⟨W.heap.size, 0, none⟩ = some (.int .i64 n) := hc2.cell 0; have y1 : w2.cell? ⟨W.heap.size, 1, none⟩ = some (.int .i64 m) := hc2.cell 1; have y2 : w2.cell? ⟨W.heap.size, 2, none⟩ = some (.int .i64 h) := hc2.cell 2; have hsW : W.heap.size ≤ s := Nat.le_trans hbw1.size hs)
    | (go_at_call 7; refine (fine_any _ _ _ _).mono ?_; rintro e w3 ⟨rfl, hb3⟩; rw [HF.out]; have hbw3 := hbw2.trans (hb3.mono hbw2.size); have hc3 := hc2.below hb3 hc2.lt; have z0 : w3.cell? ⟨W.heap.size, 0, none⟩ = some (.int .i64 n) := hc3.cell 0; have za : w3.cell? ⟨W.heap.size, 1, none⟩ = some (.int .i64 m) := hc3.cell 1; have zb : w3.cell? ⟨W.heap.size, 2, none⟩ = some (.int .i64 h) := hc3.cell 2)
    | (go_at_call 9; refine (ref_new n0 (by omega) (by omega)).mono ?_; rintro e w4 ⟨sr, rfl, hsr, ⟨pr, gr, v', b', st', k1, k2, k3, k4⟩, hb4⟩; have R4 := RefAt.mk k1 k2 k3 k4; have hbw4 := hbw3.trans (hb4.mono hbw3.size); have H4 := (H2.below hb3).below hb4)
    | (go_at_call 8; refine (same_ok H4 R4 n0 (by omega) m0 (by omega)).mono ?_; rintro e w5 ⟨rfl, hb5⟩; have H5 := H4.below hb5; have hbw5 := hbw4.trans (hb5.mono hbw4.size))
    | (go_at_call 10; refine (scr_replies H5.scr).mono ?_; rintro e w6 ⟨rfl, hb6⟩; have hbw6 := hbw5.trans (hb6.mono hsW); have hT := tab_up hG hbw6 hw)
    | (go_at_call 5; refine (any_Known _ hT).mono ?_; rintro e w7 ⟨rfl, hb7⟩))
  go_ret
  exact ⟨rfl, hbw6.trans (hb7.mono hbw6.size)⟩
theorem walk_ScreenNew (r c h : Int) (W : World) (hw : Laid W) : Calls Tryz.prog 3 #[.agg #[.int .i64 r, .int .i64 c, .int .i64 h]] W (YesL W) := by
  by_cases hS : smallB r c h = true
  · by_cases hF : fineB r c h = true
    · simp [smallB, hF] at hS
      simp [fineB] at hF
      obtain ⟨n, rfl⟩ := Int.eq_ofNat_of_zero_le (a := r) (by omega)
      obtain ⟨m, rfl⟩ := Int.eq_ofNat_of_zero_le (a := c) (by omega)
      obtain ⟨k, rfl⟩ := Int.eq_ofNat_of_zero_le (a := h) (by omega)
      exact law_good (by omega) (by omega) (by omega) (by omega) (by omega) W hw
    · exact law_bad (by simpa using hF) W hw
  · exact law_large (by simpa using hS) W hw
end Go.Proofs.YtinjdlpboahifaaGreatDoor
