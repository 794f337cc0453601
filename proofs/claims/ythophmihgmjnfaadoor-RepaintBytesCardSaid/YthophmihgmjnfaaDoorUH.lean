/- A part of the proof of RepaintBytes. -/
import Derived.Test.YthophmihgmjnfaaDoorGA
import Derived.Test.YthophmihgmjnfaaDoorVL
import Derived.Test.YthophmihgmjnfaaDoorUB
set_option linter.unusedVariables false
set_option linter.unusedSimpArgs false
-- --
namespace Go.Proofs.YthophmihgmjnfaaDoor
open Go Go.RowKit Go.Rep Go.Sy
set_option maxRecDepth 100000
set_option linter.unusedSimpArgs false
theorem runs_pw {b : Nat} {acc a : List UInt8} {p : Pn} {w : World} {R : Ending → World → Prop} (h : Pnt w b acc p) (hl : acc.length + a.length ≤ 1000000000) (hR : ∀ u w', Pnt w' b (acc ++ a) p → Below b w w' → (∀ g t cs, g ≠ b → t ≠ 5 → Blk w g t cs → Blk w' g t cs) → R (.returned (.tuple #[.int .i64 u, .nilIface])) w') : Runs Tryd.prog 28 #[.pointer (some ⟨b, 0, none⟩), .string ⟨⟨a⟩⟩] w R :=
  ⟨(pwrite h hl).mono fun _ w' ⟨⟨u, he⟩, hp, hb, hf⟩ => by subst he; exact hR u w' hp hb hf⟩
theorem runs_take {b : Nat} {acc : List UInt8} {p t : Pn} {w : World} {R : Ending → World → Prop} (hPn : Pnt w b acc p) (hp : okPn p) (ht : okPn t) (hL : Laid2 w) (hl : acc.length ≤ 100000000) (hR : ∀ w', Pnt w' b (acc ++ sgrL (betweenL p t)) t → Below b w w' → (∀ g ty cs, g ≠ b → ty ≠ 5 → Blk w g ty cs → Blk w' g ty cs) → R (.returned (.tuple #[])) w') :
    Runs Tryd.prog 27 #[.pointer (some ⟨b, 0, none⟩), .agg #[.int .i64 t.f.k, .int .u8 t.f.i, .int .u8 t.f.r, .int .u8 t.f.g, .int .u8 t.f.b, .int .i64 t.b.k, .int .u8 t.b.i, .int .u8 t.b.r, .int .u8 t.b.g, .int .u8 t.b.b, .int .u8 t.fl]] w R :=
  ⟨(take_any hPn hp ht hL hl).mono fun _ w' ⟨he, h1, h2, h3⟩ => by subst he; exact hR w' h1 h2 h3⟩
/-- What a painter's function leaves of own variables of another type. -/
theorem kept_pnt {b lo x : Nat} {t : TypeId} {w w' : World} (hb : Below b w w') (hf : ∀ g ty cs, g ≠ b → ty ≠ 5 → Blk w g ty cs → Blk w' g ty cs) (hm : Mine w lo [(x, t)]) (hx : x ≠ b) (ht : t ≠ 5) : Kept lo (fun i => b ≤ i) [x] w w' := by
  refine ⟨hb.os, hb.tape, hb.output, hb.size, fun i _ _ h => hb.block i (by omega), fun i hi _ _ => ?_⟩
  simp only [List.mem_singleton] at hi
  subst hi
  obtain ⟨_, cs, hc⟩ := hm (i, t) (by simp)
  have h1 : w'.heap[i]? = _ := hf i t cs hx ht hc
  rw [h1]
  exact hc.symm
end Go.Proofs.YthophmihgmjnfaaDoor

namespace Go.Proofs.YthophmihgmjnfaaDoor
open Go Go.RowKit Go.Rep Go.Sy
set_option maxRecDepth 100000
set_option linter.unusedSimpArgs false
theorem texts_at {l : List Cl} {B cp m : Nat} {A : Option Addr} {w : World} (hl : Reads w B 16 A m (cvals l)) (hm : l.length = m) (hB : B ≤ w.heap.size) (hn : m ≤ 1000) : Calls Tryd.prog 40 #[.slice A m cp] w fun e w' => e = .returned (.string (S (cellsL l))) ∧ Below w.heap.size w w' := by
  subst hm
  exact texts_any hl hB hn
theorem gEnd_same (cs : List Cl) (i k m : Nat) (hm : k ≤ m) (hm2 : m < gEnd cs i k) : (cAt cs m).p = (cAt cs i).p := by
  generalize hq : cs.length - k = q
  induction q generalizing k with
  | zero =>
    unfold gEnd at hm2
    rw [if_neg (by omega)] at hm2
    omega
  | succ q ih =>
    unfold gEnd at hm2
    split at hm2
    · rename_i hc
      rcases Nat.eq_or_lt_of_le hm with rfl | h2
      · exact hc.2.1
      · exact ih (k + 1) h2 hm2 (by omega)
    · omega
theorem gEnd_pen (cs : List Cl) (i : Nat) (hi : i < cs.length) : (cAt cs (gEnd cs i (i + 1) - 1)).p = (cAt cs i).p := by
  have h := gEnd_ge cs i (i + 1) (by omega)
  rcases Nat.eq_or_lt_of_le h.1 with h1 | h1
  · rw [← h1]; simp
  · exact gEnd_same cs i (i + 1) _ (by omega) (by omega)
theorem groups_step (row col : Nat) (cs : List Cl) (i : Nat) (p : Pn) (h : i < cs.length) : groupsL row col cs i p = sgrL (betweenL p (cAt cs i).p) ++ groupL row col cs i (gEnd cs i (i + 1)) ++ groupsL row col cs (gEnd cs i (i + 1)) (cAt cs i).p := by
  conv => lhs; unfold groupsL
  rw [dif_pos h]
theorem groups_end (row col : Nat) (cs : List Cl) (i : Nat) (p : Pn) (h : cs.length ≤ i) : groupsL row col cs i p = [] := by
  unfold groupsL
  rw [dif_neg (by omega)]
theorem sgr_between_len {p t : Pn} (hp : okPn p) (ht : okPn t) : (sgrL (betweenL p t)).length ≤ 10000 := by
  have h1 := sgrL_len (smI_between hp ht)
  have h2 := between_len p t
  have := Nat.mul_le_mul_left 500 h2
  omega
/-- A step that changes a painter, blocks of bytes and nothing else below. -/
structure Chg (b : Nat) (w w' : World) : Prop where
  be : Below b w w'
  fr : ∀ g t cs, g ≠ b → t ≠ 5 → Blk w g t cs → Blk w' g t cs
theorem Chg.of {b : Nat} {w w' : World} (h : Below w.heap.size w w') (hb : b ≤ w.heap.size) : Chg b w w' := ⟨h.mono hb, fun _ _ _ _ _ hg => hg.below h hg.lt⟩
theorem Chg.trans {b : Nat} {w w1 w2 : World} (h : Chg b w w1) (k : Chg b w1 w2) : Chg b w w2 := ⟨h.be.trans k.be, fun g t cs h1 h2 h3 => k.fr g t cs h1 h2 (h.fr g t cs h1 h2 h3)⟩
theorem patch_g {b row col n cp B : Nat} {ad : Addr} {soft : Bool} {acc : List UInt8} {p : Pn} {cs : List Cl} {w : World} (hPn : Pnt w b acc p) (hp : okPn p) (hcs : ∀ i, i < n → okPn (cAt cs i).p) (hr : Reads w B 16 (some ad) n (cvals cs)) (hn : cs.length = n) (hcp : n ≤ cp) (hB : B ≤ b) (h16 : n ≤ 16) (hrow : row ≤ 100) (hcol : col ≤ 100) (hL : Laid2 w) (hgl0 : Tryd.prog.globals.size ≤ b) (hl : acc.length ≤ 90000000) :
    Gets Tryd.prog 26 #[.pointer (some ⟨b, 0, none⟩), .agg #[.int .i64 row, .int .i64 col, .slice (some ad) n cp, .bool soft]] w (fun i => b ≤ i) fun v w' => v = .tuple #[] ∧ ∃ pp, okPn pp ∧ ((n = 0 ∧ pp = p) ∨ (0 < n ∧ pp = (cAt cs (n - 1)).p)) ∧ Pnt w' b (acc ++ (goL row col ++ groupsL row col cs 0 p)) pp ∧ ∀ g t cs, g ≠ b → t ≠ 5 → Blk w g t cs → Blk w' g t cs := by
  have hbb : b < w.heap.size := hPn.lt
  have hgl := goL_len row col (by omega) (by omega)
  refine go24 b row col (some ad) n cp soft ?_
  intro n1 hn1 w1 hb1 hm1
  have hne : n1 ≠ b := by omega
  have low : ∀ {w' : World}, Chg b w w' → Laid2 w' ∧ Reads w' B 16 (some ad) n (cvals cs) ∧ b < w'.heap.size := fun h => ⟨hL.up hgl0 h.be, hr.below (h.be.mono hB), Nat.lt_of_lt_of_le hbb h.be.size⟩
  have hk1 : Chg b w w1 := Chg.of hb1 (Nat.le_of_lt hbb)
  refine runs_pure (go_any row col (by omega) (by omega) (low hk1).1) fun w2 hb2 => ⟨goL row col, rfl, kept_of hb2, ?_⟩
  intro w3 hb3 hm3
  have hk3 : Chg b w w3 := (hk1.trans (Chg.of hb2 (by have := hb1.size; omega))).trans (Chg.of hb3 (by have := hb1.size; have := hb2.size; omega))
  have P3 : Pnt w3 b acc p := ((hPn.below hb1).below hb2).below hb3
  refine runs_pw P3 (by omega) fun u w4 P4 hk4 hf4 => ⟨u, .nilIface, rfl, rfl, kept_pnt hk4 hf4 hm3 hne (by decide), ?_⟩
  have hk4 : Chg b w w4 := hk3.trans ⟨hk4, hf4⟩
  refine ⟨fun i w' => ∃ (k : Nat) (pp : Pn) (a2 : List UInt8), i = k ∧ k ≤ n ∧ okPn pp ∧ ((k = 0 ∧ pp = p) ∨ (0 < k ∧ pp = (cAt cs (k - 1)).p)) ∧ Pnt w' b a2 pp ∧ a2 ++ groupsL row col cs k pp = acc ++ (goL row col ++ groupsL row col cs 0 p) ∧ a2.length ≤ 90000100 + 11000 * k ∧ (∀ g t cs, g ≠ b → t ≠ 5 → Blk w g t cs → Blk w' g t cs), fun i => n - i.toNat, ?_, ?_⟩
  · intro w5 hb5
    exact ⟨0, p, _, rfl, Nat.zero_le _, hp, .inl ⟨rfl, rfl⟩, P4.below hb5, by rw [List.append_assoc], by rw [List.length_append]; omega, (hk4.trans (.of hb5 (Nat.le_of_lt (low hk4).2.2))).fr⟩
  rintro i w5 hK5 ⟨k, pp, a2, rfl, hkn, hpp, hlast, P5, hacc, hlen, hfr5⟩
  have hk5 : Chg b w w5 := ⟨⟨hK5.os, hK5.tape, hK5.output, hK5.size, fun i hi => hK5.heap i (by omega) (by omega)⟩, hfr5⟩
  refine ⟨fun hlt => ?_, fun hge => ?_⟩
  · have hkn' : k < n := by omega
    have hg := gEnd_ge cs k (k + 1) (by omega)
    refine ⟨by unfold I64; omega, fun j w' => j = (gEnd cs k (k + 1) : Nat) ∧ Below w5.heap.size w5 w', ?_, ?_⟩
    · refine ⟨fun j w' => ∃ m : Nat, j = m ∧ k + 1 ≤ m ∧ m ≤ n ∧ gEnd cs k m = gEnd cs k (k + 1) ∧ Below w5.heap.size w5 w', fun j => n - j.toNat, fun w6 hb6 => ⟨k + 1, by omega, Nat.le_refl _, by omega, rfl, hb6⟩, ?_⟩
      rintro j w7 hK7 ⟨m, rfl, hm1, hm2, hge, hb7⟩
      obtain ⟨_, hr7, hs7⟩ := low (hk5.trans (Chg.of hb7 (by have := hk5.be.size; omega)))
      refine ⟨fun hlt2 => ?_, fun hge2 => ?_⟩
      · have hmn : m < n := by omega
        refine ⟨ad, rfl, ⟨by omega, by omega⟩, _, _, _, _, _, _, _, _, _, _, _, pen_at hr7 (k := m) (by omega) _ rfl, ad, rfl, ⟨by omega, by omega⟩, _, _, _, _, _, _, _, _, _, _, _, pen_at hr7 (k := k) (by omega) _ rfl, decide ((cAt cs m).p = (cAt cs k).p), fun w' => pen_equal _ _ w', fun he => ?_, fun he => ?_⟩
        · intro w8 hb8 hm8
          have hr8 := hr7.below (hb8.mono (by omega))
          refine runs_pure (wr_any hr8 hn hmn (by omega)) fun w9 hb9 => ⟨_, rfl, kept_of hb9, ?_⟩
          intro w10 hb10 hm10
          have hr10 := (hr8.below (hb9.mono (by have := hb8.size; omega))).below (hb10.mono (by have := hb8.size; have := hb9.size; omega))
          refine runs_pure (wr_any hr10 hn hkn' (by omega)) fun w11 hb11 => ⟨_, rfl, kept_of hb11, ?_⟩
          have hb12 : Below w5.heap.size w5 w11 := (((hb7.trans (hb8.mono hb7.size)).trans (hb9.mono (by have := hb7.size; have := hb8.size; omega))).trans (hb10.mono (by have := hb7.size; have := hb8.size; have := hb9.size; omega))).trans (hb11.mono (by have := hb7.size; have := hb8.size; have := hb9.size; have := hb10.size; omega))
          simp only [beval_ok]
          refine ⟨fun hw => ⟨by unfold I64; omega, fun w12 hb13 => ⟨⟨m + 1, by omega, by omega, by omega, ?_, hb12.trans (hb13.mono hb12.size)⟩, by omega⟩⟩, fun hw w12 hb13 => ⟨?_, hb12.trans (hb13.mono hb12.size)⟩⟩
          · rw [← hge]
            conv => rhs; unfold gEnd
            rw [if_pos ⟨by omega, of_decide_eq_true he, hw⟩]
          · rw [← hge]
            unfold gEnd
            rw [if_neg (fun h => hw h.2.2)]
        · intro w8 hb8
          refine ⟨?_, hb7.trans (hb8.mono hb7.size)⟩
          rw [← hge]
          unfold gEnd
          rw [if_neg (fun h => of_decide_eq_false he h.2.1)]
      · intro w8 hb8
        refine ⟨?_, hb7.trans (hb8.mono hb7.size)⟩
        rw [← hge]
        unfold gEnd
        rw [if_neg (fun h => by omega)]
    · rintro j w7 hK7 ⟨rfl, hb7⟩
      generalize hG : gEnd cs k (k + 1) = g at *
      have hk7 : Chg b w w7 := hk5.trans (Chg.of hb7 (by have := hk5.be.size; omega))
      obtain ⟨hL7, hr7, hs7⟩ := low hk7
      refine ⟨ad, rfl, ⟨by omega, by omega⟩, _, _, _, _, _, _, _, _, _, _, _, pen_at hr7 (k := k) (by omega) _ rfl, ?_⟩
      intro w8 hb8 hm8
      have hk8 : Chg b w w8 := hk7.trans (Chg.of hb8 (Nat.le_of_lt hs7))
      refine runs_take ((P5.below hb7).below hb8) hpp (hcs k hkn') (low hk8).1 (by omega) fun w9 P9 hb9 hf9 => ⟨rfl, kept_pnt hb9 hf9 hm8 hne (by decide), ?_⟩
      have hsl := sgr_between_len hpp (hcs k hkn')
      have hk9 : Chg b w w9 := hk8.trans ⟨hb9, hf9⟩
      intro w10 hb10 hm10
      have hk10 : Chg b w w10 := hk9.trans (Chg.of hb10 (Nat.le_of_lt (low hk9).2.2))
      refine runs_pure (wr_any (low hk10).2.1 hn hkn' (by omega)) fun w11 hb11 => ⟨_, rfl, kept_of hb11, ?_⟩
      have hk11 : Chg b w w11 := hk10.trans (Chg.of hb11 (Nat.le_of_lt (low hk10).2.2))
      have P11 := (P9.below hb10).below hb11
      have hstep := groups_step row col cs k pp (by omega)
      rw [hG] at hstep
      have hpen : (cAt cs (g - 1)).p = (cAt cs k).p := by rw [← hG]; exact gEnd_pen cs k (by omega)
      refine ⟨fun hw => ?_, fun hw => ?_⟩
      · refine ⟨⟨by omega, by omega, by omega⟩, ?_⟩
        intro w12 hb12 hm12
        have hk12 : Chg b w w12 := hk11.trans (Chg.of hb12 (Nat.le_of_lt (low hk11).2.2))
        have hrS : Reads w12 B 16 (cutP (some ad) cp (Int.toNat (k : Int)) 16) (Int.toNat ((g : Int) - (k : Int))) (cvals ((cs.drop k).take (g - k))) := by
          have e1 : Int.toNat ((g : Int) - (k : Int)) = g - k := by omega
          have e2 : cutP (some ad) cp (Int.toNat (k : Int)) 16 = some (ad.add (k * 16)) := by
            rw [Int.toNat_natCast]
            unfold cutP
            rw [if_neg (by omega)]
            rfl
          rw [e1, e2]
          exact Reads.sub (by rw [hn]; exact (low hk12).2.1) (by omega)
        have hlS : ((cs.drop k).take (g - k)).length = Int.toNat ((g : Int) - (k : Int)) := by rw [List.length_take, List.length_drop]; omega
        refine runs_pure (texts_at hrS hlS (by have := (low hk12).2.2; omega) (by omega)) fun w13 hb13 => ⟨_, rfl, kept_of hb13, ?_⟩
        intro w14 hb14 hm14
        have hcl := cellsL_len ((cs.drop k).take (g - k))
        have e3 : groupL row col cs k g = cellsL ((cs.drop k).take (g - k)) := by unfold groupL; rw [if_pos hw]
        have hlen3 : ((cs.drop k).take (g - k)).length ≤ 16 := by rw [hlS]; omega
        refine runs_pw (((P11.below hb12).below hb13).below hb14) (by rw [List.length_append]; omega) fun u w15 P15 hb15 hf15 => ⟨u, .nilIface, rfl, rfl, kept_pnt hb15 hf15 hm14 hne (by decide), ?_⟩
        intro w16 hb16
        refine ⟨⟨g, _, _, rfl, by omega, hcs k hkn', .inr ⟨by omega, hpen.symm⟩, P15.below hb16, ?_, ?_, ?_⟩, by dsimp only; omega⟩
        · rw [← hacc, hstep, e3]
          simp only [List.append_assoc]
        · simp only [List.length_append]
          omega
        · exact (((hk12.trans (.of hb13 (Nat.le_of_lt (low hk12).2.2))).trans (.of hb14 (by have := (low hk12).2.2; have := hb13.size; omega))).trans ⟨hb15, hf15⟩ |>.trans (.of hb16 (by have := (low hk12).2.2; have := hb13.size; have := hb14.size; have := hb15.size; omega))).fr
      · refine ⟨by unfold I64; omega, ?_⟩
        intro w12 hb12 hm12
        have hk12 : Chg b w w12 := hk11.trans (Chg.of hb12 (Nat.le_of_lt (low hk11).2.2))
        have hnat : ((g : Int) - (k : Int)) = ((g - k : Nat) : Int) := by omega
        refine runs_pure (itoa_any _ (by omega) (by omega) (low hk12).1) fun w13 hb13 => ⟨_, rfl, kept_of hb13, ?_⟩
        have hil : (Lib.itoa ((g : Int) - (k : Int))).length ≤ 30 := itoa_len (by omega) (by omega)
        have e4 : Lib.itoa ((g : Int) - (k : Int)) = Lib.decDigits (g - k) := by rw [hnat]; exact Lib.itoa_nonneg _
        refine ⟨by omega, by simp only [List.length_append, List.length_cons, List.length_nil]; omega, ?_⟩
        intro w14 hb14 hm14
        refine runs_pw (((P11.below hb12).below hb13).below hb14) (by simp only [List.length_append, List.length_cons, List.length_nil]; omega) fun u w15 P15 hb15 hf15 => ⟨u, .nilIface, rfl, rfl, kept_pnt hb15 hf15 hm14 hne (by decide), ?_⟩
        have hk15 : Chg b w w15 := ((hk12.trans (Chg.of hb13 (Nat.le_of_lt (low hk12).2.2))).trans (Chg.of hb14 (by have := (low hk12).2.2; have := hb13.size; omega))).trans ⟨hb15, hf15⟩
        have hs15 := (low hk15).2.2
        refine ⟨fun hlt3 => ?_, fun hge3 => ?_⟩
        · refine ⟨by unfold I64; omega, ?_⟩
          intro w16 hb16 hm16
          have hgo := go_any row (col + g) (by omega) (by omega) (low (hk15.trans (Chg.of hb16 (Nat.le_of_lt hs15)))).1
          have ecol : ((col + g : Nat) : Int) = (col : Int) + (g : Int) := by omega
          rw [ecol] at hgo
          have hgl2 := goL_len row (col + g) (by omega) (by omega)
          refine runs_pure hgo fun w17 hb17 => ⟨_, rfl, kept_of hb17, ?_⟩
          intro w18 hb18 hm18
          refine runs_pw (((P15.below hb16).below hb17).below hb18) (by simp only [List.length_append, List.length_cons, List.length_nil]; omega) fun u w19 P19 hb19 hf19 => ⟨u, .nilIface, rfl, rfl, kept_pnt hb19 hf19 hm18 hne (by decide), ?_⟩
          intro w20 hb20
          have e3 : groupL row col cs k g = [27, 91] ++ Lib.decDigits (g - k) ++ [88] ++ goL row (col + g) := by unfold groupL; rw [if_neg (by rw [hw]; decide), if_pos (by omega)]
          refine ⟨⟨g, _, _, rfl, by omega, hcs k hkn', .inr ⟨by omega, hpen.symm⟩, P19.below hb20, ?_, ?_, ?_⟩, by dsimp only; omega⟩
          · rw [← hacc, hstep, e3, e4]
            simp only [List.append_assoc]
          · simp only [List.length_append, List.length_cons, List.length_nil]
            omega
          · exact ((hk15.trans (.of hb16 (Nat.le_of_lt hs15))).trans (.of hb17 (by have := hb16.size; omega)) |>.trans (.of hb18 (by have := hb16.size; have := hb17.size; omega)) |>.trans ⟨hb19, hf19⟩ |>.trans (.of hb20 (by have := hb16.size; have := hb17.size; have := hb18.size; have := hb19.size; omega))).fr
        · intro w16 hb16
          have e3 : groupL row col cs k g = [27, 91] ++ Lib.decDigits (g - k) ++ [88] := by unfold groupL; rw [if_neg (by rw [hw]; decide), if_neg (by omega), List.append_nil]
          refine ⟨⟨g, _, _, rfl, by omega, hcs k hkn', .inr ⟨by omega, hpen.symm⟩, P15.below hb16, ?_, ?_, ?_⟩, by dsimp only; omega⟩
          · rw [← hacc, hstep, e3, e4]
            simp only [List.append_assoc]
          · simp only [List.length_append, List.length_cons, List.length_nil]
            omega
          · exact (hk15.trans (.of hb16 (Nat.le_of_lt hs15))).fr
  · intro w6 hb6 hK6
    have hkn2 : k = n := by omega
    subst hkn2
    refine ⟨rfl, pp, hpp, hlast, ?_, (hk5.trans (.of hb6 (Nat.le_of_lt (low hk5).2.2))).fr⟩
    have := P5.below hb6
    rw [groups_end row col cs k pp (by omega), List.append_nil] at hacc
    rwa [hacc] at this
end Go.Proofs.YthophmihgmjnfaaDoor
