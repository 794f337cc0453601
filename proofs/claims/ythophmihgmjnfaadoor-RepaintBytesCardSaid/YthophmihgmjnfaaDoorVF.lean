/- A part of the proof of RepaintBytes. -/
import Derived.Test.YthophmihgmjnfaaDoorVE
set_option linter.unusedVariables false
set_option linter.unusedSimpArgs false
-- --
namespace Go.Proofs.YthophmihgmjnfaaDoor
open Go.RowKit Go.Rep
set_option maxRecDepth 100000
set_option linter.unusedSimpArgs false
set_option linter.unusedVariables false
theorem ownI_far {w : World} {B : Nat} {v : Value} {l : List Int} (h : OwnI w B v l) {p : Addr} (hp : p.block < B) (u : Value) : OwnI (w.setCell p u) B v l := by
  refine ⟨h.1, ?_⟩
  rcases h.2 with ⟨rfl, hn⟩ | ⟨g, cap, cur, hv, hB, hg, hr⟩
  · exact .inl ⟨rfl, hn⟩
  · exact .inr ⟨g, cap, cur, hv, hB, (Below.heap_setCell w p u g (by omega)).trans hg, hr⟩
theorem ownI_below {w w' : World} {B : Nat} {v : Value} {l : List Int} (h : OwnI w B v l) (hb : Below w.heap.size w w') : OwnI w' B v l := by
  refine ⟨h.1, ?_⟩
  rcases h.2 with ⟨rfl, hn⟩ | ⟨g, cap, cur, hv, hB, hg, hr⟩
  · exact .inl ⟨rfl, hn⟩
  · exact .inr ⟨g, cap, cur, hv, hB, (hb.block g (by rcases Nat.lt_or_ge g w.heap.size with h9 | h9; exact h9; rw [Array.getElem?_eq_none h9] at hg; cases hg)).trans hg, hr⟩
theorem ownI_app {w : World} {B : Nat} {v : Value} {l m : List Int} (h : w.ownsRow B 3 1 v (l.length + m.length) (ivals l ++ ivals m)) : OwnI w B v (l ++ m) := by
  unfold OwnI
  rw [List.length_append, ivals_append]
  exact h
theorem numbers_len (c : Col) (base : Int) : (numbersL c base).length ≤ 5 := by
  unfold numbersL
  repeat' split
  all_goals simp
set_option maxHeartbeats 8000000 in
theorem changes_any (a b : Pn) {w : World} (hL : Laid w) (hrf : okC b.f) (hrb : okC b.b) : Calls Tryd.prog 35 #[.agg #[.int .i64 a.f.k, .int .u8 a.f.i, .int .u8 a.f.r, .int .u8 a.f.g, .int .u8 a.f.b, .int .i64 a.b.k, .int .u8 a.b.i, .int .u8 a.b.r, .int .u8 a.b.g, .int .u8 a.b.b, .int .u8 a.fl], .agg #[.int .i64 b.f.k, .int .u8 b.f.i, .int .u8 b.f.r, .int .u8 b.f.g, .int .u8 b.f.b, .int .i64 b.b.k, .int .u8 b.b.i, .int .u8 b.b.r, .int .u8 b.b.g, .int .u8 b.b.b, .int .u8 b.fl]] w fun e w' => ∃ v, e = .returned v ∧ OwnI w' w.heap.size v (changesL a b) ∧ Below w.heap.size w w' := by
  obtain ⟨i0, hi, hz0, hz1, hz2⟩ := info_parts int_info
  have HRF := Lib.hid hrf
  have HRB := Lib.hid hrb
  have HL := Lib.hid hL
  have hgs := hL.size
  rw [gsize] at hgs
  clear hrf hrb hL
  have B0 : Blk ((w.alloc (.cells #[.int .i64 a.f.k, .int .u8 a.f.i, .int .u8 a.f.r, .int .u8 a.f.g, .int .u8 a.f.b, .int .i64 a.b.k, .int .u8 a.b.i, .int .u8 a.b.r, .int .u8 a.b.g, .int .u8 a.b.b, .int .u8 a.fl] 44)).alloc (.cells #[.int .i64 b.f.k, .int .u8 b.f.i, .int .u8 b.f.r, .int .u8 b.f.g, .int .u8 b.f.b, .int .i64 b.b.k, .int .u8 b.b.i, .int .u8 b.b.r, .int .u8 b.b.g, .int .u8 b.b.b, .int .u8 b.fl] 44)) w.heap.size 44 #[.int .i64 a.f.k, .int .u8 a.f.i, .int .u8 a.f.r, .int .u8 a.f.g, .int .u8 a.f.b, .int .i64 a.b.k, .int .u8 a.b.i, .int .u8 a.b.r, .int .u8 a.b.g, .int .u8 a.b.b, .int .u8 a.fl] := (Blk.new w 44 _).alloc _
  have B1 : Blk ((w.alloc (.cells #[.int .i64 a.f.k, .int .u8 a.f.i, .int .u8 a.f.r, .int .u8 a.f.g, .int .u8 a.f.b, .int .i64 a.b.k, .int .u8 a.b.i, .int .u8 a.b.r, .int .u8 a.b.g, .int .u8 a.b.b, .int .u8 a.fl] 44)).alloc (.cells #[.int .i64 b.f.k, .int .u8 b.f.i, .int .u8 b.f.r, .int .u8 b.f.g, .int .u8 b.f.b, .int .i64 b.b.k, .int .u8 b.b.i, .int .u8 b.b.r, .int .u8 b.b.g, .int .u8 b.b.b, .int .u8 b.fl] 44)) (w.heap.size + 1) 44 #[.int .i64 b.f.k, .int .u8 b.f.i, .int .u8 b.f.r, .int .u8 b.f.g, .int .u8 b.f.b, .int .i64 b.b.k, .int .u8 b.b.i, .int .u8 b.b.r, .int .u8 b.b.g, .int .u8 b.b.b, .int .u8 b.fl] := by
    have := Blk.new (w.alloc (.cells #[.int .i64 a.f.k, .int .u8 a.f.i, .int .u8 a.f.r, .int .u8 a.f.g, .int .u8 a.f.b, .int .i64 a.b.k, .int .u8 a.b.i, .int .u8 a.b.r, .int .u8 a.b.g, .int .u8 a.b.b, .int .u8 a.fl] 44)) 44 #[.int .i64 b.f.k, .int .u8 b.f.i, .int .u8 b.f.r, .int .u8 b.f.g, .int .u8 b.f.b, .int .i64 b.b.k, .int .u8 b.b.i, .int .u8 b.b.r, .int .u8 b.b.g, .int .u8 b.b.b, .int .u8 b.fl]
    rw [alloc_size] at this
    exact this
  have hb0 : Below w.heap.size w ((w.alloc (.cells #[.int .i64 a.f.k, .int .u8 a.f.i, .int .u8 a.f.r, .int .u8 a.f.g, .int .u8 a.f.b, .int .i64 a.b.k, .int .u8 a.b.i, .int .u8 a.b.r, .int .u8 a.b.g, .int .u8 a.b.b, .int .u8 a.fl] 44)).alloc (.cells #[.int .i64 b.f.k, .int .u8 b.f.i, .int .u8 b.f.r, .int .u8 b.f.g, .int .u8 b.f.b, .int .i64 b.b.k, .int .u8 b.b.i, .int .u8 b.b.r, .int .u8 b.b.g, .int .u8 b.b.b, .int .u8 b.fl] 44)) := ((Below.refl _ _).alloc (Nat.le_refl _) _).alloc (by simp) _
  have qf : ∀ W, (binOp .neq 41 (.agg #[.int .i64 a.f.k, .int .u8 a.f.i, .int .u8 a.f.r, .int .u8 a.f.g, .int .u8 a.f.b]) (.agg #[.int .i64 b.f.k, .int .u8 b.f.i, .int .u8 b.f.r, .int .u8 b.f.g, .int .u8 b.f.b])).run Tryd.prog W = .ok (.bool (!decide (a.f = b.f))) W := fun W => col_neq a.f b.f W
  have qb : ∀ W, (binOp .neq 41 (.agg #[.int .i64 a.b.k, .int .u8 a.b.i, .int .u8 a.b.r, .int .u8 a.b.g, .int .u8 a.b.b]) (.agg #[.int .i64 b.b.k, .int .u8 b.b.i, .int .u8 b.b.r, .int .u8 b.b.g, .int .u8 b.b.b])).run Tryd.prog W = .ok (.bool (!decide (a.b = b.b))) W := fun W => col_neq a.b b.b W
  cases hwt : wtB a b
  · have EP := Lib.hid (show preL a b = [] by unfold preL; rw [hwt]; rfl)
    have EF := Lib.hid (show flA a b = a.fl by unfold flA; rw [hwt]; rfl)
    have hq : (bits .and .u8 (bits .andNot .u8 a.fl b.fl) 3 != 0) = false := hwt
    clear hwt
    go_enter Tryd.func35, Tryd.ntmps35
    go_upto_region 5 with fail
    have B0' := B0
    have B1' := B1
    have O7 := World.ownsRow_nil ((w.alloc (.cells #[.int .i64 a.f.k, .int .u8 a.f.i, .int .u8 a.f.r, .int .u8 a.f.g, .int .u8 a.f.b, .int .i64 a.b.k, .int .u8 a.b.i, .int .u8 a.b.r, .int .u8 a.b.g, .int .u8 a.b.b, .int .u8 a.fl] 44)).alloc (.cells #[.int .i64 b.f.k, .int .u8 b.f.i, .int .u8 b.f.r, .int .u8 b.f.g, .int .u8 b.f.b, .int .i64 b.b.k, .int .u8 b.b.i, .int .u8 b.b.r, .int .u8 b.b.g, .int .u8 b.b.b, .int .u8 b.fl] 44)) (w.heap.size + 2) 3 1
    have hb7 := hb0
    have hs8 : w.heap.size + 2 ≤ ((w.alloc (.cells #[.int .i64 a.f.k, .int .u8 a.f.i, .int .u8 a.f.r, .int .u8 a.f.g, .int .u8 a.f.b, .int .i64 a.b.k, .int .u8 a.b.i, .int .u8 a.b.r, .int .u8 a.b.g, .int .u8 a.b.b, .int .u8 a.fl] 44)).alloc (.cells #[.int .i64 b.f.k, .int .u8 b.f.i, .int .u8 b.f.r, .int .u8 b.f.g, .int .u8 b.f.b, .int .i64 b.b.k, .int .u8 b.b.i, .int .u8 b.b.r, .int .u8 b.b.g, .int .u8 b.b.b, .int .u8 b.fl] 44)).heap.size := by simp
    obtain ⟨ty0, hT⟩ := (HL.out.low hb7).st
    have hTf := Blk.part (o := 0) (cs := #[.int .u8 1, .int .i64 1, .int .u8 2, .int .i64 2, .int .u8 4, .int .i64 3, .int .u8 8, .int .i64 4, .int .u8 16, .int .i64 5, .int .u8 32, .int .i64 7, .int .u8 64, .int .i64 8, .int .u8 128, .int .i64 9]) hT (by kernel_rfl)
    go_upto_block 0 with (refine wpList_load_any 92 (.global 0) rfl (by rfl) ⟨0, 0, none⟩ rfl #[.int .u8 1, .int .i64 1, .int .u8 2, .int .i64 2, .int .u8 4, .int .i64 3, .int .u8 8, .int .i64 4, .int .u8 16, .int .i64 5, .int .u8 32, .int .i64 7, .int .u8 64, .int .i64 8, .int .u8 128, .int .i64 9] _ (hTf) Tryd.underlying92 rfl (by kernel_rfl) ?_)
    refine changes_loop a b (fa := a.fl) (N := w.heap.size) (pre := []) hs8 (by omega) (by simp) O7 B0' B1' ?_
    intro wx u y7 y8 y9 y25 y26 y27 y28 y29 y30 y31 y32 y33 y34 y35 y36 y37 y38 y39 y40 y41 y42 y43 y44 y45 y46 y47 y48 y49 y50 y51 y52 y53 y54 y55 y56 y57 y58 y59 y60 y61 y62 y63 Ox Bx0 Bx1 hbx
    have hby : Below w.heap.size w wx := hb7.trans (hbx.mono (by omega))
    have hsx := hby.size
    have hs9 : w.heap.size + 2 ≤ wx.heap.size := Nat.le_trans hs8 hbx.size
    clear hs8 hbx
    have hlx : ([] ++ chUp a.fl b.fl 8).length ≤ 9 := by rw [List.length_append]; have := chUp_len a.fl b.fl 8; simp; omega
    by_cases hf : a.f = b.f <;> by_cases hbk : a.b = b.b
    · have e1 : decide (a.f = b.f) = true := by simpa using hf
      have e2 : decide (a.b = b.b) = true := by simpa using hbk
      have EC := Lib.hid (show changesL a b = (([] ++ chUp a.fl b.fl 8) ++ []) ++ [] by unfold changesL; rw [EP.out, EF.out, if_pos hf, if_pos hbk])
      clear hf hbk
      go_upto_region 16 with (first | (refine wpList_load_any 41 (.tmp 66) rfl (by rfl) ⟨w.heap.size + 1, 0, none⟩ rfl #[.int .i64 b.f.k, .int .u8 b.f.i, .int .u8 b.f.r, .int .u8 b.f.g, .int .u8 b.f.b] _ (Blk.part (o := 0) (Bx1) (by kernel_rfl)) Tryd.underlying41 rfl (by kernel_rfl) ?_) | (refine wpList_load_any 41 (.tmp 64) rfl (by rfl) ⟨w.heap.size, 0, none⟩ rfl #[.int .i64 a.f.k, .int .u8 a.f.i, .int .u8 a.f.r, .int .u8 a.f.g, .int .u8 a.f.b] _ (Blk.part (o := 0) (Bx0) (by kernel_rfl)) Tryd.underlying41 rfl (by kernel_rfl) ?_))
      have Pf := Ox
      have Gf0 := Bx0
      have Gf1 := Bx1
      have hlm : ([] ++ chUp a.fl b.fl 8).length ≤ 14 := by omega
      have hbm : Below w.heap.size w wx := hby
      have hsm := hbm.size
      have hs9m : w.heap.size + 2 ≤ wx.heap.size := by omega
      go_wp2_with (first | (refine wpList_load_any 41 (.tmp 76) rfl (by rfl) ⟨w.heap.size + 1, 5, none⟩ rfl #[.int .i64 b.b.k, .int .u8 b.b.i, .int .u8 b.b.r, .int .u8 b.b.g, .int .u8 b.b.b] _ (Blk.part (o := 5) (Gf1) (by kernel_rfl)) Tryd.underlying41 rfl (by kernel_rfl) ?_) | (refine wpList_load_any 41 (.tmp 74) rfl (by rfl) ⟨w.heap.size, 5, none⟩ rfl #[.int .i64 a.b.k, .int .u8 a.b.i, .int .u8 a.b.r, .int .u8 a.b.g, .int .u8 a.b.b] _ (Blk.part (o := 5) (Gf0) (by kernel_rfl)) Tryd.underlying41 rfl (by kernel_rfl) ?_))
      go_ret
      exact ⟨_, rfl, by rw [EC.out, List.append_nil, List.append_nil]; exact World.ownsRow.mono Pf (by omega), hbm⟩
    · have e1 : decide (a.f = b.f) = true := by simpa using hf
      have e2 : decide (a.b = b.b) = false := by simpa using hbk
      have EC := Lib.hid (show changesL a b = (([] ++ chUp a.fl b.fl 8) ++ []) ++ numbersL b.b 40 by unfold changesL; rw [EP.out, EF.out, if_pos hf, if_neg hbk])
      clear hf hbk
      go_upto_region 16 with (first | (refine wpList_load_any 41 (.tmp 66) rfl (by rfl) ⟨w.heap.size + 1, 0, none⟩ rfl #[.int .i64 b.f.k, .int .u8 b.f.i, .int .u8 b.f.r, .int .u8 b.f.g, .int .u8 b.f.b] _ (Blk.part (o := 0) (Bx1) (by kernel_rfl)) Tryd.underlying41 rfl (by kernel_rfl) ?_) | (refine wpList_load_any 41 (.tmp 64) rfl (by rfl) ⟨w.heap.size, 0, none⟩ rfl #[.int .i64 a.f.k, .int .u8 a.f.i, .int .u8 a.f.r, .int .u8 a.f.g, .int .u8 a.f.b] _ (Blk.part (o := 0) (Bx0) (by kernel_rfl)) Tryd.underlying41 rfl (by kernel_rfl) ?_))
      have Pf := Ox
      have Gf0 := Bx0
      have Gf1 := Bx1
      have hlm : ([] ++ chUp a.fl b.fl 8).length ≤ 14 := by omega
      have hbm : Below w.heap.size w wx := hby
      have hsm := hbm.size
      have hs9m : w.heap.size + 2 ≤ wx.heap.size := by omega
      go_wp2_with (first | (at_builtin; refine wpList_append_any _ rfl (.tmp 79) (.tmp 82) 61 rfl (w.heap.size + 2) 3 i0 (.int .i64 0) 1 8 Tryd.underlying61 hi hz0 hz1 hz2 rfl (by decide) _ _ _ rfl Ob _ _ (numbersL b.b 40).length _ (ivals (numbersL b.b 40)) rfl rb (ivals_one _) (by unfold maxLen; omega) (by omega) (by omega) ?_; intro vb2 wb2 hownb hgb _; have Pb := ownI_app hownb; have Gb0 := Fb0.grown hgb (fun e => absurd (own_ge Ob _ e.symm) (by omega)); have Gb1 := Fb1.grown hgb (fun e => absurd (own_ge Ob _ e.symm) (by omega)); have hsb2 := hgb.size) | (refine wpList_load_any 41 (.tmp 80) rfl (by rfl) ⟨w.heap.size + 1, 5, none⟩ rfl #[.int .i64 b.b.k, .int .u8 b.b.i, .int .u8 b.b.r, .int .u8 b.b.g, .int .u8 b.b.b] _ (Blk.part (o := 5) (Gf1) (by kernel_rfl)) Tryd.underlying41 rfl (by kernel_rfl) ?_) | (refine wpList_load_any 41 (.tmp 76) rfl (by rfl) ⟨w.heap.size + 1, 5, none⟩ rfl #[.int .i64 b.b.k, .int .u8 b.b.i, .int .u8 b.b.r, .int .u8 b.b.g, .int .u8 b.b.b] _ (Blk.part (o := 5) (Gf1) (by kernel_rfl)) Tryd.underlying41 rfl (by kernel_rfl) ?_) | (refine wpList_load_any 41 (.tmp 74) rfl (by rfl) ⟨w.heap.size, 5, none⟩ rfl #[.int .i64 a.b.k, .int .u8 a.b.i, .int .u8 a.b.r, .int .u8 a.b.g, .int .u8 a.b.b] _ (Blk.part (o := 5) (Gf0) (by kernel_rfl)) Tryd.underlying41 rfl (by kernel_rfl) ?_) | (go_at_call 45; refine (numbers_any b.b 40 HRB.out (by decide) (by decide) _).mono ?_; rintro e wb ⟨vb, rfl, ob, hbb⟩; obtain ⟨Ab, cb, rfl, _, _, rb⟩ := own_slice ob; have Ob := ownI_below Pf hbb; have Fb0 := Gf0.below hbb Gf0.lt; have Fb1 := Gf1.below hbb Gf1.lt; have hsb := hbb.size; have hlb := numbers_len b.b 40))
      go_ret
      exact ⟨_, rfl, by rw [EC.out, List.append_nil]; exact World.ownsRow.mono Pb (by omega), (hbm.trans (hbb.mono hsm)).grown hgb (by omega) (fun j q => by have := own_ge Ob j q; omega)⟩
    · have e1 : decide (a.f = b.f) = false := by simpa using hf
      have e2 : decide (a.b = b.b) = true := by simpa using hbk
      have EC := Lib.hid (show changesL a b = (([] ++ chUp a.fl b.fl 8) ++ numbersL b.f 30) ++ [] by unfold changesL; rw [EP.out, EF.out, if_neg hf, if_pos hbk])
      clear hf hbk
      go_upto_region 16 with (first | (at_builtin; refine wpList_append_any _ rfl (.tmp 69) (.tmp 72) 61 rfl (w.heap.size + 2) 3 i0 (.int .i64 0) 1 8 Tryd.underlying61 hi hz0 hz1 hz2 rfl (by decide) _ _ _ rfl Of _ _ (numbersL b.f 30).length _ (ivals (numbersL b.f 30)) rfl rf (ivals_one _) (by unfold maxLen; omega) (by omega) (by omega) ?_; intro vf2 wf2 hownf hgf _; have Pf := ownI_app hownf; have Gf0 := Ff0.grown hgf (fun e => absurd (own_ge Of _ e.symm) (by omega)); have Gf1 := Ff1.grown hgf (fun e => absurd (own_ge Of _ e.symm) (by omega)); have hsf2 := hgf.size) | (refine wpList_load_any 41 (.tmp 70) rfl (by rfl) ⟨w.heap.size + 1, 0, none⟩ rfl #[.int .i64 b.f.k, .int .u8 b.f.i, .int .u8 b.f.r, .int .u8 b.f.g, .int .u8 b.f.b] _ (Blk.part (o := 0) (Bx1) (by kernel_rfl)) Tryd.underlying41 rfl (by kernel_rfl) ?_) | (refine wpList_load_any 41 (.tmp 66) rfl (by rfl) ⟨w.heap.size + 1, 0, none⟩ rfl #[.int .i64 b.f.k, .int .u8 b.f.i, .int .u8 b.f.r, .int .u8 b.f.g, .int .u8 b.f.b] _ (Blk.part (o := 0) (Bx1) (by kernel_rfl)) Tryd.underlying41 rfl (by kernel_rfl) ?_) | (refine wpList_load_any 41 (.tmp 64) rfl (by rfl) ⟨w.heap.size, 0, none⟩ rfl #[.int .i64 a.f.k, .int .u8 a.f.i, .int .u8 a.f.r, .int .u8 a.f.g, .int .u8 a.f.b] _ (Blk.part (o := 0) (Bx0) (by kernel_rfl)) Tryd.underlying41 rfl (by kernel_rfl) ?_) | (go_at_call 45; refine (numbers_any b.f 30 HRF.out (by decide) (by decide) _).mono ?_; rintro e wf ⟨vf, rfl, of, hbf⟩; obtain ⟨Af, cf, rfl, _, _, rf⟩ := own_slice of; have Of := ownI_below Ox hbf; have Ff0 := Bx0.below hbf Bx0.lt; have Ff1 := Bx1.below hbf Bx1.lt; have hsf := hbf.size; have hlf := numbers_len b.f 30))
      have hlm : (([] ++ chUp a.fl b.fl 8) ++ numbersL b.f 30).length ≤ 14 := by rw [List.length_append]; omega
      have hbm : Below w.heap.size w wf2 := ((hby.trans (hbf.mono hsx)).grown hgf (by omega) (fun j q => by have := own_ge Of j q; omega))
      have hsm := hbm.size
      have hs9m : w.heap.size + 2 ≤ wf2.heap.size := by omega
      go_wp2_with (first | (refine wpList_load_any 41 (.tmp 76) rfl (by rfl) ⟨w.heap.size + 1, 5, none⟩ rfl #[.int .i64 b.b.k, .int .u8 b.b.i, .int .u8 b.b.r, .int .u8 b.b.g, .int .u8 b.b.b] _ (Blk.part (o := 5) (Gf1) (by kernel_rfl)) Tryd.underlying41 rfl (by kernel_rfl) ?_) | (refine wpList_load_any 41 (.tmp 74) rfl (by rfl) ⟨w.heap.size, 5, none⟩ rfl #[.int .i64 a.b.k, .int .u8 a.b.i, .int .u8 a.b.r, .int .u8 a.b.g, .int .u8 a.b.b] _ (Blk.part (o := 5) (Gf0) (by kernel_rfl)) Tryd.underlying41 rfl (by kernel_rfl) ?_))
      go_ret
      exact ⟨_, rfl, by rw [EC.out, List.append_nil]; exact World.ownsRow.mono Pf (by omega), hbm⟩
    · have e1 : decide (a.f = b.f) = false := by simpa using hf
      have e2 : decide (a.b = b.b) = false := by simpa using hbk
      have EC := Lib.hid (show changesL a b = (([] ++ chUp a.fl b.fl 8) ++ numbersL b.f 30) ++ numbersL b.b 40 by unfold changesL; rw [EP.out, EF.out, if_neg hf, if_neg hbk])
      clear hf hbk
      go_upto_region 16 with (first | (at_builtin; refine wpList_append_any _ rfl (.tmp 69) (.tmp 72) 61 rfl (w.heap.size + 2) 3 i0 (.int .i64 0) 1 8 Tryd.underlying61 hi hz0 hz1 hz2 rfl (by decide) _ _ _ rfl Of _ _ (numbersL b.f 30).length _ (ivals (numbersL b.f 30)) rfl rf (ivals_one _) (by unfold maxLen; omega) (by omega) (by omega) ?_; intro vf2 wf2 hownf hgf _; have Pf := ownI_app hownf; have Gf0 := Ff0.grown hgf (fun e => absurd (own_ge Of _ e.symm) (by omega)); have Gf1 := Ff1.grown hgf (fun e => absurd (own_ge Of _ e.symm) (by omega)); have hsf2 := hgf.size) | (refine wpList_load_any 41 (.tmp 70) rfl (by rfl) ⟨w.heap.size + 1, 0, none⟩ rfl #[.int .i64 b.f.k, .int .u8 b.f.i, .int .u8 b.f.r, .int .u8 b.f.g, .int .u8 b.f.b] _ (Blk.part (o := 0) (Bx1) (by kernel_rfl)) Tryd.underlying41 rfl (by kernel_rfl) ?_) | (refine wpList_load_any 41 (.tmp 66) rfl (by rfl) ⟨w.heap.size + 1, 0, none⟩ rfl #[.int .i64 b.f.k, .int .u8 b.f.i, .int .u8 b.f.r, .int .u8 b.f.g, .int .u8 b.f.b] _ (Blk.part (o := 0) (Bx1) (by kernel_rfl)) Tryd.underlying41 rfl (by kernel_rfl) ?_) | (refine wpList_load_any 41 (.tmp 64) rfl (by rfl) ⟨w.heap.size, 0, none⟩ rfl #[.int .i64 a.f.k, .int .u8 a.f.i, .int .u8 a.f.r, .int .u8 a.f.g, .int .u8 a.f.b] _ (Blk.part (o := 0) (Bx0) (by kernel_rfl)) Tryd.underlying41 rfl (by kernel_rfl) ?_) | (go_at_call 45; refine (numbers_any b.f 30 HRF.out (by decide) (by decide) _).mono ?_; rintro e wf ⟨vf, rfl, of, hbf⟩; obtain ⟨Af, cf, rfl, _, _, rf⟩ := own_slice of; have Of := ownI_below Ox hbf; have Ff0 := Bx0.below hbf Bx0.lt; have Ff1 := Bx1.below hbf Bx1.lt; have hsf := hbf.size; have hlf := numbers_len b.f 30))
      have hlm : (([] ++ chUp a.fl b.fl 8) ++ numbersL b.f 30).length ≤ 14 := by rw [List.length_append]; omega
      have hbm : Below w.heap.size w wf2 := ((hby.trans (hbf.mono hsx)).grown hgf (by omega) (fun j q => by have := own_ge Of j q; omega))
      have hsm := hbm.size
      have hs9m : w.heap.size + 2 ≤ wf2.heap.size := by omega
      go_wp2_with (first | (at_builtin; refine wpList_append_any _ rfl (.tmp 79) (.tmp 82) 61 rfl (w.heap.size + 2) 3 i0 (.int .i64 0) 1 8 Tryd.underlying61 hi hz0 hz1 hz2 rfl (by decide) _ _ _ rfl Ob _ _ (numbersL b.b 40).length _ (ivals (numbersL b.b 40)) rfl rb (ivals_one _) (by unfold maxLen; omega) (by omega) (by omega) ?_; intro vb2 wb2 hownb hgb _; have Pb := ownI_app hownb; have Gb0 := Fb0.grown hgb (fun e => absurd (own_ge Ob _ e.symm) (by omega)); have Gb1 := Fb1.grown hgb (fun e => absurd (own_ge Ob _ e.symm) (by omega)); have hsb2 := hgb.size) | (refine wpList_load_any 41 (.tmp 80) rfl (by rfl) ⟨w.heap.size + 1, 5, none⟩ rfl #[.int .i64 b.b.k, .int .u8 b.b.i, .int .u8 b.b.r, .int .u8 b.b.g, .int .u8 b.b.b] _ (Blk.part (o := 5) (Gf1) (by kernel_rfl)) Tryd.underlying41 rfl (by kernel_rfl) ?_) | (refine wpList_load_any 41 (.tmp 76) rfl (by rfl) ⟨w.heap.size + 1, 5, none⟩ rfl #[.int .i64 b.b.k, .int .u8 b.b.i, .int .u8 b.b.r, .int .u8 b.b.g, .int .u8 b.b.b] _ (Blk.part (o := 5) (Gf1) (by kernel_rfl)) Tryd.underlying41 rfl (by kernel_rfl) ?_) | (refine wpList_load_any 41 (.tmp 74) rfl (by rfl) ⟨w.heap.size, 5, none⟩ rfl #[.int .i64 a.b.k, .int .u8 a.b.i, .int .u8 a.b.r, .int .u8 a.b.g, .int .u8 a.b.b] _ (Blk.part (o := 5) (Gf0) (by kernel_rfl)) Tryd.underlying41 rfl (by kernel_rfl) ?_) | (go_at_call 45; refine (numbers_any b.b 40 HRB.out (by decide) (by decide) _).mono ?_; rintro e wb ⟨vb, rfl, ob, hbb⟩; obtain ⟨Ab, cb, rfl, _, _, rb⟩ := own_slice ob; have Ob := ownI_below Pf hbb; have Fb0 := Gf0.below hbb Gf0.lt; have Fb1 := Gf1.below hbb Gf1.lt; have hsb := hbb.size; have hlb := numbers_len b.b 40))
      go_ret
      exact ⟨_, rfl, by rw [EC.out]; exact World.ownsRow.mono Pb (by omega), (hbm.trans (hbb.mono hsm)).grown hgb (by omega) (fun j q => by have := own_ge Ob j q; omega)⟩
  · have EP := Lib.hid (show preL a b = [22] by unfold preL; rw [hwt]; rfl)
    have EF := Lib.hid (show flA a b = (bits .andNot .u8 a.fl 3) by unfold flA; rw [hwt]; rfl)
    have hq : (bits .and .u8 (bits .andNot .u8 a.fl b.fl) 3 != 0) = true := hwt
    clear hwt
    go_enter Tryd.func35, Tryd.ntmps35
    have O0 := World.ownsRow_nil ((((w.alloc (.cells #[.int .i64 a.f.k, .int .u8 a.f.i, .int .u8 a.f.r, .int .u8 a.f.g, .int .u8 a.f.b, .int .i64 a.b.k, .int .u8 a.b.i, .int .u8 a.b.r, .int .u8 a.b.g, .int .u8 a.b.b, .int .u8 a.fl] 44)).alloc (.cells #[.int .i64 b.f.k, .int .u8 b.f.i, .int .u8 b.f.r, .int .u8 b.f.g, .int .u8 b.f.b, .int .i64 b.b.k, .int .u8 b.b.i, .int .u8 b.b.r, .int .u8 b.b.g, .int .u8 b.b.b, .int .u8 b.fl] 44)).alloc (.cells #[.int .i64 22] 3))) (w.heap.size + 2) 3 1
    have R0 := Blk.readsAll (n := 1) (s := 1) (cs := [.int .i64 22]) (Blk.new ((w.alloc (.cells #[.int .i64 a.f.k, .int .u8 a.f.i, .int .u8 a.f.r, .int .u8 a.f.g, .int .u8 a.f.b, .int .i64 a.b.k, .int .u8 a.b.i, .int .u8 a.b.r, .int .u8 a.b.g, .int .u8 a.b.b, .int .u8 a.fl] 44)).alloc (.cells #[.int .i64 b.f.k, .int .u8 b.f.i, .int .u8 b.f.r, .int .u8 b.f.g, .int .u8 b.f.b, .int .i64 b.b.k, .int .u8 b.b.i, .int .u8 b.b.r, .int .u8 b.b.g, .int .u8 b.b.b, .int .u8 b.fl] 44)) 3 #[.int .i64 22]) rfl
    simp only [alloc_size] at R0
    have C0 := B0.alloc (.cells #[.int .i64 22] 3)
    have C1 := B1.alloc (.cells #[.int .i64 22] 3)
    have hbA : Below w.heap.size w (((w.alloc (.cells #[.int .i64 a.f.k, .int .u8 a.f.i, .int .u8 a.f.r, .int .u8 a.f.g, .int .u8 a.f.b, .int .i64 a.b.k, .int .u8 a.b.i, .int .u8 a.b.r, .int .u8 a.b.g, .int .u8 a.b.b, .int .u8 a.fl] 44)).alloc (.cells #[.int .i64 b.f.k, .int .u8 b.f.i, .int .u8 b.f.r, .int .u8 b.f.g, .int .u8 b.f.b, .int .i64 b.b.k, .int .u8 b.b.i, .int .u8 b.b.r, .int .u8 b.b.g, .int .u8 b.b.b, .int .u8 b.fl] 44)).alloc (.cells #[.int .i64 22] 3)) := hb0.alloc (by simp; omega) _
    go_upto_region 5 with (at_builtin; refine wpList_append_any _ rfl (.tmp 17) (.tmp 18) 61 rfl (w.heap.size + 2) 3 i0 (.int .i64 0) 1 8 Tryd.underlying61 hi hz0 hz1 hz2 rfl (by decide) _ _ _ rfl (O0) _ _ 1 _ [.int .i64 22] rfl (R0) (by intro u hu; simp at hu; subst hu; rfl) (by unfold maxLen; omega) (by omega) (by first | (simp; done) | (simp; omega)) ?_; intro v7 w7 hown7 hg7_ _; have hg7 : World.grownBy _ w7 none := hg7_; have D0 := C0.grown hg7 (fun e => by cases e); have D1 := C1.grown hg7 (fun e => by cases e); have d0 : w7.cell? ⟨w.heap.size, 10, none⟩ = some (.int .u8 a.fl) := D0.cell 10; have d1 := D0.frozen 10)
    have B0' : Blk (w7.setCell ⟨w.heap.size, 10, none⟩ (.int .u8 (bits .andNot .u8 a.fl 3))) w.heap.size 44 #[.int .i64 a.f.k, .int .u8 a.f.i, .int .u8 a.f.r, .int .u8 a.f.g, .int .u8 a.f.b, .int .i64 a.b.k, .int .u8 a.b.i, .int .u8 a.b.r, .int .u8 a.b.g, .int .u8 a.b.b, .int .u8 (bits .andNot .u8 a.fl 3)] := D0.set_ 10 _
    have B1' : Blk (w7.setCell ⟨w.heap.size, 10, none⟩ (.int .u8 (bits .andNot .u8 a.fl 3))) (w.heap.size + 1) 44 #[.int .i64 b.f.k, .int .u8 b.f.i, .int .u8 b.f.r, .int .u8 b.f.g, .int .u8 b.f.b, .int .i64 b.b.k, .int .u8 b.b.i, .int .u8 b.b.r, .int .u8 b.b.g, .int .u8 b.b.b, .int .u8 b.fl] := D1.far (p := ⟨w.heap.size, 10, none⟩) (by simp) _
    have O7 : OwnI (w7.setCell ⟨w.heap.size, 10, none⟩ (.int .u8 (bits .andNot .u8 a.fl 3))) (w.heap.size + 2) v7 [22] := ownI_far hown7 (by simp) _
    have hb7 : Below w.heap.size w (w7.setCell ⟨w.heap.size, 10, none⟩ (.int .u8 (bits .andNot .u8 a.fl 3))) := (hbA.grown hg7 (by simp; omega) (fun j q => by simp [Value.ownBlock] at q)).setCell (p := ⟨w.heap.size, 10, none⟩) (Nat.le_refl _) _
    have hs7 := hg7.size
    have hs8 : w.heap.size + 2 ≤ (w7.setCell ⟨w.heap.size, 10, none⟩ (.int .u8 (bits .andNot .u8 a.fl 3))).heap.size := by simp at hs7 ⊢; omega
    obtain ⟨ty0, hT⟩ := (HL.out.low hb7).st
    have hTf := Blk.part (o := 0) (cs := #[.int .u8 1, .int .i64 1, .int .u8 2, .int .i64 2, .int .u8 4, .int .i64 3, .int .u8 8, .int .i64 4, .int .u8 16, .int .i64 5, .int .u8 32, .int .i64 7, .int .u8 64, .int .i64 8, .int .u8 128, .int .i64 9]) hT (by kernel_rfl)
    go_upto_block 0 with (refine wpList_load_any 92 (.global 0) rfl (by rfl) ⟨0, 0, none⟩ rfl #[.int .u8 1, .int .i64 1, .int .u8 2, .int .i64 2, .int .u8 4, .int .i64 3, .int .u8 8, .int .i64 4, .int .u8 16, .int .i64 5, .int .u8 32, .int .i64 7, .int .u8 64, .int .i64 8, .int .u8 128, .int .i64 9] _ (hTf) Tryd.underlying92 rfl (by kernel_rfl) ?_)
    refine changes_loop a b (fa := (bits .andNot .u8 a.fl 3)) (N := w.heap.size) (pre := [22]) hs8 (by omega) (by simp) O7 B0' B1' ?_
    intro wx u y7 y8 y9 y25 y26 y27 y28 y29 y30 y31 y32 y33 y34 y35 y36 y37 y38 y39 y40 y41 y42 y43 y44 y45 y46 y47 y48 y49 y50 y51 y52 y53 y54 y55 y56 y57 y58 y59 y60 y61 y62 y63 Ox Bx0 Bx1 hbx
    have hby : Below w.heap.size w wx := hb7.trans (hbx.mono (by omega))
    have hsx := hby.size
    have hs9 : w.heap.size + 2 ≤ wx.heap.size := Nat.le_trans hs8 hbx.size
    clear hs8 hbx
    have hlx : ([22] ++ chUp (bits .andNot .u8 a.fl 3) b.fl 8).length ≤ 9 := by rw [List.length_append]; have := chUp_len (bits .andNot .u8 a.fl 3) b.fl 8; simp; omega
    by_cases hf : a.f = b.f <;> by_cases hbk : a.b = b.b
    · have e1 : decide (a.f = b.f) = true := by simpa using hf
      have e2 : decide (a.b = b.b) = true := by simpa using hbk
      have EC := Lib.hid (show changesL a b = (([22] ++ chUp (bits .andNot .u8 a.fl 3) b.fl 8) ++ []) ++ [] by unfold changesL; rw [EP.out, EF.out, if_pos hf, if_pos hbk])
      clear hf hbk
      go_upto_region 16 with (first | (refine wpList_load_any 41 (.tmp 66) rfl (by rfl) ⟨w.heap.size + 1, 0, none⟩ rfl #[.int .i64 b.f.k, .int .u8 b.f.i, .int .u8 b.f.r, .int .u8 b.f.g, .int .u8 b.f.b] _ (Blk.part (o := 0) (Bx1) (by kernel_rfl)) Tryd.underlying41 rfl (by kernel_rfl) ?_) | (refine wpList_load_any 41 (.tmp 64) rfl (by rfl) ⟨w.heap.size, 0, none⟩ rfl #[.int .i64 a.f.k, .int .u8 a.f.i, .int .u8 a.f.r, .int .u8 a.f.g, .int .u8 a.f.b] _ (Blk.part (o := 0) (Bx0) (by kernel_rfl)) Tryd.underlying41 rfl (by kernel_rfl) ?_))
      have Pf := Ox
      have Gf0 := Bx0
      have Gf1 := Bx1
      have hlm : ([22] ++ chUp (bits .andNot .u8 a.fl 3) b.fl 8).length ≤ 14 := by omega
      have hbm : Below w.heap.size w wx := hby
      have hsm := hbm.size
      have hs9m : w.heap.size + 2 ≤ wx.heap.size := by omega
      go_wp2_with (first | (refine wpList_load_any 41 (.tmp 76) rfl (by rfl) ⟨w.heap.size + 1, 5, none⟩ rfl #[.int .i64 b.b.k, .int .u8 b.b.i, .int .u8 b.b.r, .int .u8 b.b.g, .int .u8 b.b.b] _ (Blk.part (o := 5) (Gf1) (by kernel_rfl)) Tryd.underlying41 rfl (by kernel_rfl) ?_) | (refine wpList_load_any 41 (.tmp 74) rfl (by rfl) ⟨w.heap.size, 5, none⟩ rfl #[.int .i64 a.b.k, .int .u8 a.b.i, .int .u8 a.b.r, .int .u8 a.b.g, .int .u8 a.b.b] _ (Blk.part (o := 5) (Gf0) (by kernel_rfl)) Tryd.underlying41 rfl (by kernel_rfl) ?_))
      go_ret
      exact ⟨_, rfl, by rw [EC.out, List.append_nil, List.append_nil]; exact World.ownsRow.mono Pf (by omega), hbm⟩
    · have e1 : decide (a.f = b.f) = true := by simpa using hf
      have e2 : decide (a.b = b.b) = false := by simpa using hbk
      have EC := Lib.hid (show changesL a b = (([22] ++ chUp (bits .andNot .u8 a.fl 3) b.fl 8) ++ []) ++ numbersL b.b 40 by unfold changesL; rw [EP.out, EF.out, if_pos hf, if_neg hbk])
      clear hf hbk
      go_upto_region 16 with (first | (refine wpList_load_any 41 (.tmp 66) rfl (by rfl) ⟨w.heap.size + 1, 0, none⟩ rfl #[.int .i64 b.f.k, .int .u8 b.f.i, .int .u8 b.f.r, .int .u8 b.f.g, .int .u8 b.f.b] _ (Blk.part (o := 0) (Bx1) (by kernel_rfl)) Tryd.underlying41 rfl (by kernel_rfl) ?_) | (refine wpList_load_any 41 (.tmp 64) rfl (by rfl) ⟨w.heap.size, 0, none⟩ rfl #[.int .i64 a.f.k, .int .u8 a.f.i, .int .u8 a.f.r, .int .u8 a.f.g, .int .u8 a.f.b] _ (Blk.part (o := 0) (Bx0) (by kernel_rfl)) Tryd.underlying41 rfl (by kernel_rfl) ?_))
      have Pf := Ox
      have Gf0 := Bx0
      have Gf1 := Bx1
      have hlm : ([22] ++ chUp (bits .andNot .u8 a.fl 3) b.fl 8).length ≤ 14 := by omega
      have hbm : Below w.heap.size w wx := hby
      have hsm := hbm.size
      have hs9m : w.heap.size + 2 ≤ wx.heap.size := by omega
      go_wp2_with (first | (at_builtin; refine wpList_append_any _ rfl (.tmp 79) (.tmp 82) 61 rfl (w.heap.size + 2) 3 i0 (.int .i64 0) 1 8 Tryd.underlying61 hi hz0 hz1 hz2 rfl (by decide) _ _ _ rfl Ob _ _ (numbersL b.b 40).length _ (ivals (numbersL b.b 40)) rfl rb (ivals_one _) (by unfold maxLen; omega) (by omega) (by omega) ?_; intro vb2 wb2 hownb hgb _; have Pb := ownI_app hownb; have Gb0 := Fb0.grown hgb (fun e => absurd (own_ge Ob _ e.symm) (by omega)); have Gb1 := Fb1.grown hgb (fun e => absurd (own_ge Ob _ e.symm) (by omega)); have hsb2 := hgb.size) | (refine wpList_load_any 41 (.tmp 80) rfl (by rfl) ⟨w.heap.size + 1, 5, none⟩ rfl #[.int .i64 b.b.k, .int .u8 b.b.i, .int .u8 b.b.r, .int .u8 b.b.g, .int .u8 b.b.b] _ (Blk.part (o := 5) (Gf1) (by kernel_rfl)) Tryd.underlying41 rfl (by kernel_rfl) ?_) | (refine wpList_load_any 41 (.tmp 76) rfl (by rfl) ⟨w.heap.size + 1, 5, none⟩ rfl #[.int .i64 b.b.k, .int .u8 b.b.i, .int .u8 b.b.r, .int .u8 b.b.g, .int .u8 b.b.b] _ (Blk.part (o := 5) (Gf1) (by kernel_rfl)) Tryd.underlying41 rfl (by kernel_rfl) ?_) | (refine wpList_load_any 41 (.tmp 74) rfl (by rfl) ⟨w.heap.size, 5, none⟩ rfl #[.int .i64 a.b.k, .int .u8 a.b.i, .int .u8 a.b.r, .int .u8 a.b.g, .int .u8 a.b.b] _ (Blk.part (o := 5) (Gf0) (by kernel_rfl)) Tryd.underlying41 rfl (by kernel_rfl) ?_) | (go_at_call 45; refine (numbers_any b.b 40 HRB.out (by decide) (by decide) _).mono ?_; rintro e wb ⟨vb, rfl, ob, hbb⟩; obtain ⟨Ab, cb, rfl, _, _, rb⟩ := own_slice ob; have Ob := ownI_below Pf hbb; have Fb0 := Gf0.below hbb Gf0.lt; have Fb1 := Gf1.below hbb Gf1.lt; have hsb := hbb.size; have hlb := numbers_len b.b 40))
      go_ret
      exact ⟨_, rfl, by rw [EC.out, List.append_nil]; exact World.ownsRow.mono Pb (by omega), (hbm.trans (hbb.mono hsm)).grown hgb (by omega) (fun j q => by have := own_ge Ob j q; omega)⟩
    · have e1 : decide (a.f = b.f) = false := by simpa using hf
      have e2 : decide (a.b = b.b) = true := by simpa using hbk
      have EC := Lib.hid (show changesL a b = (([22] ++ chUp (bits .andNot .u8 a.fl 3) b.fl 8) ++ numbersL b.f 30) ++ [] by unfold changesL; rw [EP.out, EF.out, if_neg hf, if_pos hbk])
      clear hf hbk
      go_upto_region 16 with (first | (at_builtin; refine wpList_append_any _ rfl (.tmp 69) (.tmp 72) 61 rfl (w.heap.size + 2) 3 i0 (.int .i64 0) 1 8 Tryd.underlying61 hi hz0 hz1 hz2 rfl (by decide) _ _ _ rfl Of _ _ (numbersL b.f 30).length _ (ivals (numbersL b.f 30)) rfl rf (ivals_one _) (by unfold maxLen; omega) (by omega) (by omega) ?_; intro vf2 wf2 hownf hgf _; have Pf := ownI_app hownf; have Gf0 := Ff0.grown hgf (fun e => absurd (own_ge Of _ e.symm) (by omega)); have Gf1 := Ff1.grown hgf (fun e => absurd (own_ge Of _ e.symm) (by omega)); have hsf2 := hgf.size) | (refine wpList_load_any 41 (.tmp 70) rfl (by rfl) ⟨w.heap.size + 1, 0, none⟩ rfl #[.int .i64 b.f.k, .int .u8 b.f.i, .int .u8 b.f.r, .int .u8 b.f.g, .int .u8 b.f.b] _ (Blk.part (o := 0) (Bx1) (by kernel_rfl)) Tryd.underlying41 rfl (by kernel_rfl) ?_) | (refine wpList_load_any 41 (.tmp 66) rfl (by rfl) ⟨w.heap.size + 1, 0, none⟩ rfl #[.int .i64 b.f.k, .int .u8 b.f.i, .int .u8 b.f.r, .int .u8 b.f.g, .int .u8 b.f.b] _ (Blk.part (o := 0) (Bx1) (by kernel_rfl)) Tryd.underlying41 rfl (by kernel_rfl) ?_) | (refine wpList_load_any 41 (.tmp 64) rfl (by rfl) ⟨w.heap.size, 0, none⟩ rfl #[.int .i64 a.f.k, .int .u8 a.f.i, .int .u8 a.f.r, .int .u8 a.f.g, .int .u8 a.f.b] _ (Blk.part (o := 0) (Bx0) (by kernel_rfl)) Tryd.underlying41 rfl (by kernel_rfl) ?_) | (go_at_call 45; refine (numbers_any b.f 30 HRF.out (by decide) (by decide) _).mono ?_; rintro e wf ⟨vf, rfl, of, hbf⟩; obtain ⟨Af, cf, rfl, _, _, rf⟩ := own_slice of; have Of := ownI_below Ox hbf; have Ff0 := Bx0.below hbf Bx0.lt; have Ff1 := Bx1.below hbf Bx1.lt; have hsf := hbf.size; have hlf := numbers_len b.f 30))
      have hlm : (([22] ++ chUp (bits .andNot .u8 a.fl 3) b.fl 8) ++ numbersL b.f 30).length ≤ 14 := by rw [List.length_append]; omega
      have hbm : Below w.heap.size w wf2 := ((hby.trans (hbf.mono hsx)).grown hgf (by omega) (fun j q => by have := own_ge Of j q; omega))
      have hsm := hbm.size
      have hs9m : w.heap.size + 2 ≤ wf2.heap.size := by omega
      go_wp2_with (first | (refine wpList_load_any 41 (.tmp 76) rfl (by rfl) ⟨w.heap.size + 1, 5, none⟩ rfl #[.int .i64 b.b.k, .int .u8 b.b.i, .int .u8 b.b.r, .int .u8 b.b.g, .int .u8 b.b.b] _ (Blk.part (o := 5) (Gf1) (by kernel_rfl)) Tryd.underlying41 rfl (by kernel_rfl) ?_) | (refine wpList_load_any 41 (.tmp 74) rfl (by rfl) ⟨w.heap.size, 5, none⟩ rfl #[.int .i64 a.b.k, .int .u8 a.b.i, .int .u8 a.b.r, .int .u8 a.b.g, .int .u8 a.b.b] _ (Blk.part (o := 5) (Gf0) (by kernel_rfl)) Tryd.underlying41 rfl (by kernel_rfl) ?_))
      go_ret
      exact ⟨_, rfl, by rw [EC.out, List.append_nil]; exact World.ownsRow.mono Pf (by omega), hbm⟩
    · have e1 : decide (a.f = b.f) = false := by simpa using hf
      have e2 : decide (a.b = b.b) = false := by simpa using hbk
      have EC := Lib.hid (show changesL a b = (([22] ++ chUp (bits .andNot .u8 a.fl 3) b.fl 8) ++ numbersL b.f 30) ++ numbersL b.b 40 by unfold changesL; rw [EP.out, EF.out, if_neg hf, if_neg hbk])
      clear hf hbk
      go_upto_region 16 with (first | (at_builtin; refine wpList_append_any _ rfl (.tmp 69) (.tmp 72) 61 rfl (w.heap.size + 2) 3 i0 (.int .i64 0) 1 8 Tryd.underlying61 hi hz0 hz1 hz2 rfl (by decide) _ _ _ rfl Of _ _ (numbersL b.f 30).length _ (ivals (numbersL b.f 30)) rfl rf (ivals_one _) (by unfold maxLen; omega) (by omega) (by omega) ?_; intro vf2 wf2 hownf hgf _; have Pf := ownI_app hownf; have Gf0 := Ff0.grown hgf (fun e => absurd (own_ge Of _ e.symm) (by omega)); have Gf1 := Ff1.grown hgf (fun e => absurd (own_ge Of _ e.symm) (by omega)); have hsf2 := hgf.size) | (refine wpList_load_any 41 (.tmp 70) rfl (by rfl) ⟨w.heap.size + 1, 0, none⟩ rfl #[.int .i64 b.f.k, .int .u8 b.f.i, .int .u8 b.f.r, .int .u8 b.f.g, .int .u8 b.f.b] _ (Blk.part (o := 0) (Bx1) (by kernel_rfl)) Tryd.underlying41 rfl (by kernel_rfl) ?_) | (refine wpList_load_any 41 (.tmp 66) rfl (by rfl) ⟨w.heap.size + 1, 0, none⟩ rfl #[.int .i64 b.f.k, .int .u8 b.f.i, .int .u8 b.f.r, .int .u8 b.f.g, .int .u8 b.f.b] _ (Blk.part (o := 0) (Bx1) (by kernel_rfl)) Tryd.underlying41 rfl (by kernel_rfl) ?_) | (refine wpList_load_any 41 (.tmp 64) rfl (by rfl) ⟨w.heap.size, 0, none⟩ rfl #[.int .i64 a.f.k, .int .u8 a.f.i, .int .u8 a.f.r, .int .u8 a.f.g, .int .u8 a.f.b] _ (Blk.part (o := 0) (Bx0) (by kernel_rfl)) Tryd.underlying41 rfl (by kernel_rfl) ?_) | (go_at_call 45; refine (numbers_any b.f 30 HRF.out (by decide) (by decide) _).mono ?_; rintro e wf ⟨vf, rfl, of, hbf⟩; obtain ⟨Af, cf, rfl, _, _, rf⟩ := own_slice of; have Of := ownI_below Ox hbf; have Ff0 := Bx0.below hbf Bx0.lt; have Ff1 := Bx1.below hbf Bx1.lt; have hsf := hbf.size; have hlf := numbers_len b.f 30))
      have hlm : (([22] ++ chUp (bits .andNot .u8 a.fl 3) b.fl 8) ++ numbersL b.f 30).length ≤ 14 := by rw [List.length_append]; omega
      have hbm : Below w.heap.size w wf2 := ((hby.trans (hbf.mono hsx)).grown hgf (by omega) (fun j q => by have := own_ge Of j q; omega))
      have hsm := hbm.size
      have hs9m : w.heap.size + 2 ≤ wf2.heap.size := by omega
      go_wp2_with (first | (at_builtin; refine wpList_append_any _ rfl (.tmp 79) (.tmp 82) 61 rfl (w.heap.size + 2) 3 i0 (.int .i64 0) 1 8 Tryd.underlying61 hi hz0 hz1 hz2 rfl (by decide) _ _ _ rfl Ob _ _ (numbersL b.b 40).length _ (ivals (numbersL b.b 40)) rfl rb (ivals_one _) (by unfold maxLen; omega) (by omega) (by omega) ?_; intro vb2 wb2 hownb hgb _; have Pb := ownI_app hownb; have Gb0 := Fb0.grown hgb (fun e => absurd (own_ge Ob _ e.symm) (by omega)); have Gb1 := Fb1.grown hgb (fun e => absurd (own_ge Ob _ e.symm) (by omega)); have hsb2 := hgb.size) | (refine wpList_load_any 41 (.tmp 80) rfl (by rfl) ⟨w.heap.size + 1, 5, none⟩ rfl #[.int .i64 b.b.k, .int .u8 b.b.i, .int .u8 b.b.r, .int .u8 b.b.g, .int .u8 b.b.b] _ (Blk.part (o := 5) (Gf1) (by kernel_rfl)) Tryd.underlying41 rfl (by kernel_rfl) ?_) | (refine wpList_load_any 41 (.tmp 76) rfl (by rfl) ⟨w.heap.size + 1, 5, none⟩ rfl #[.int .i64 b.b.k, .int .u8 b.b.i, .int .u8 b.b.r, .int .u8 b.b.g, .int .u8 b.b.b] _ (Blk.part (o := 5) (Gf1) (by kernel_rfl)) Tryd.underlying41 rfl (by kernel_rfl) ?_) | (refine wpList_load_any 41 (.tmp 74) rfl (by rfl) ⟨w.heap.size, 5, none⟩ rfl #[.int .i64 a.b.k, .int .u8 a.b.i, .int .u8 a.b.r, .int .u8 a.b.g, .int .u8 a.b.b] _ (Blk.part (o := 5) (Gf0) (by kernel_rfl)) Tryd.underlying41 rfl (by kernel_rfl) ?_) | (go_at_call 45; refine (numbers_any b.b 40 HRB.out (by decide) (by decide) _).mono ?_; rintro e wb ⟨vb, rfl, ob, hbb⟩; obtain ⟨Ab, cb, rfl, _, _, rb⟩ := own_slice ob; have Ob := ownI_below Pf hbb; have Fb0 := Gf0.below hbb Gf0.lt; have Fb1 := Gf1.below hbb Gf1.lt; have hsb := hbb.size; have hlb := numbers_len b.b 40))
      go_ret
      exact ⟨_, rfl, by rw [EC.out]; exact World.ownsRow.mono Pb (by omega), (hbm.trans (hbb.mono hsm)).grown hgb (by omega) (fun j q => by have := own_ge Ob j q; omega)⟩
end Go.Proofs.YthophmihgmjnfaaDoor
