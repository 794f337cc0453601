/- A part of the proof of RepaintBytes. -/
import Derived.Test.YthophmihgmjnfaaDoorUL
import Derived.Test.YthophmihgmjnfaaDoorUE
set_option linter.unusedVariables false
set_option linter.unusedSimpArgs false
-- --
namespace Go.Proofs.YthophmihgmjnfaaDoor
open Go Go.RowKit Go.Rep Go.Sy
set_option maxRecDepth 100000
set_option linter.unusedSimpArgs false
/-- Whether the law ends a run of blank cells ahead of a cell. -/
def brB (x : Pp) (k b : Nat) (p : Pn) : Bool := decide (0 < b) && (decide (0 < k) && !wrB (cAt x.cs (k - 1))) && (wrB (cAt x.cs k) || !decide ((cAt x.cs k).p = p))
def blankL (b : Nat) : List UInt8 := [27, 91] ++ Lib.decDigits b ++ [88]
/-- The law's bytes, the run of blanks and the pen behind some cells. -/
def stepS (x : Pp) (k : Nat) (s : List UInt8 × Nat × Pn) : List UInt8 × Nat × Pn :=
  ((((s.1 ++ (if k = 0 then goL x.row x.col else [])) ++ (if brB x k s.2.1 s.2.2 then blankL s.2.1 ++ goL x.row (x.col + k) else [])) ++ (if (cAt x.cs k).p = s.2.2 then [] else sgrL (betweenL s.2.2 (cAt x.cs k).p))) ++ (if wrB (cAt x.cs k) then cellL (cAt x.cs k) else []),
    if wrB (cAt x.cs k) then (if brB x k s.2.1 s.2.2 then 0 else s.2.1) else (if brB x k s.2.1 s.2.2 then 0 else s.2.1) + 1,
    (cAt x.cs k).p)
def rowS (x : Pp) (p : Pn) : Nat → List UInt8 × Nat × Pn
  | 0 => ([], 0, p)
  | k + 1 => stepS x k (rowS x p k)
def endS (s : List UInt8 × Nat × Pn) : List UInt8 := s.1 ++ (if 0 < s.2.1 then blankL s.2.1 else [])
/-- The law's bytes of a delta. -/
def lawBytes : List Pp → Pn → List UInt8
  | [], p => sgrL (betweenL p zPn)
  | x :: ps, p => endS (rowS x p x.cs.length) ++ lawBytes ps (rowS x p x.cs.length).2.2
theorem rowS_step (x : Pp) (p : Pn) (k : Nat) : rowS x p (k + 1) = stepS x k (rowS x p k) := rfl
theorem rowS_blank (x : Pp) (p : Pn) (k : Nat) : (rowS x p k).2.1 ≤ k := by
  induction k with
  | zero => exact Nat.le_refl _
  | succ k ih =>
    rw [rowS_step]
    unfold stepS
    dsimp only
    split <;> split <;> omega
theorem rowS_pen {x : Pp} (hg : GoodP x) {p : Pn} (hp : okPn p) {k : Nat} (hk : k ≤ x.cs.length) : okPn (rowS x p k).2.2 := by
  cases k with
  | zero => exact hp
  | succ k => exact hg.pen k hk
theorem blankL_len {b : Nat} (h : b ≤ 1000) : (blankL b).length ≤ 33 := by
  unfold blankL
  have := dec_len b (by omega)
  simp only [List.length_append, List.length_cons, List.length_nil]
  omega
theorem rowS_len {x : Pp} (hg : GoodP x) {p : Pn} (hp : okPn p) {k : Nat} (hk : k ≤ x.cs.length) : (rowS x p k).1.length ≤ 11000 * k := by
  induction k with
  | zero => exact Nat.le_refl _
  | succ k ih =>
    have h1 := ih (by omega)
    have h2 := sgr_between_len (rowS_pen hg hp (k := k) (by omega)) (hg.pen k hk)
    have h3 := hg.len
    have h4 := goL_len x.row x.col (by have := hg.row; omega) (by have := hg.col; omega)
    have h5 := goL_len x.row (x.col + k) (by have := hg.row; omega) (by have := hg.col; omega)
    have h6 := blankL_len (b := (rowS x p k).2.1) (by have := rowS_blank x p k; omega)
    have h7 := cellL_len (cAt x.cs k)
    rw [rowS_step]
    unfold stepS
    dsimp only
    simp only [List.length_append]
    have e1 : (if k = 0 then goL x.row x.col else []).length ≤ 64 := by split <;> first | exact h4 | exact Nat.zero_le _
    have e2 : (if brB x k (rowS x p k).2.1 (rowS x p k).2.2 = true then blankL (rowS x p k).2.1 ++ goL x.row (x.col + k) else []).length ≤ 97 := by split <;> first | (rw [List.length_append]; omega) | exact Nat.zero_le _
    have e3 : (if (cAt x.cs k).p = (rowS x p k).2.2 then [] else sgrL (betweenL (rowS x p k).2.2 (cAt x.cs k).p)).length ≤ 10000 := by split <;> first | exact h2 | exact Nat.zero_le _
    have e4 : (if wrB (cAt x.cs k) = true then cellL (cAt x.cs k) else []).length ≤ 16 := by split <;> first | exact h7 | exact Nat.zero_le _
    omega
/-! ### The two ways are one -/
theorem bits_self (a : Int) : bits .andNot .u8 a a = 0 := by
  unfold bits
  simp
  decide
theorem wtB_self (p : Pn) : wtB p p = false := by
  unfold wtB
  rw [bits_self]
  decide
theorem chUp_self (f : Int) (k : Nat) : chUp f f k = [] := by
  induction k with
  | zero => rfl
  | succ k ih =>
    show chUp f f k ++ chStep f f k = []
    rw [ih]
    unfold chStep
    split <;> simp
theorem between_self (p : Pn) : betweenL p p = [] := by
  have h : changesL p p = [] := by
    unfold changesL preL flA
    rw [wtB_self]
    simp [chUp_self]
  unfold betweenL
  rw [h]
  simp
theorem sgrL_nil : sgrL [] = [] := by
  unfold sgrL
  simp [manyTo]
theorem sgr_self (p : Pn) : sgrL (betweenL p p) = [] := by rw [between_self, sgrL_nil]
theorem sgr_if (p t : Pn) : (if t = p then [] else sgrL (betweenL p t)) = sgrL (betweenL p t) := by
  split
  · rename_i h
    rw [h, sgr_self]
  · rfl
theorem gEnd_in (cs : List Cl) (i k m : Nat) (hm : k ≤ m) (hm2 : m < gEnd cs i k) : (cAt cs m).p = (cAt cs i).p ∧ wrB (cAt cs m) = wrB (cAt cs i) := by
  generalize hq : cs.length - k = q
  induction q generalizing k with
  | zero =>
    unfold gEnd at hm2
    rw [if_neg (by omega)] at hm2
    omega
  | succ q ih =>
    unfold gEnd at hm2
    split at hm2
    · rename_i hc
      rcases Nat.eq_or_lt_of_le hm with rfl | h2
      · exact hc.2
      · exact ih (k + 1) h2 hm2 (by omega)
    · omega
theorem gEnd_stop (cs : List Cl) (i k : Nat) (h : gEnd cs i k < cs.length) : ¬ ((cAt cs (gEnd cs i k)).p = (cAt cs i).p ∧ wrB (cAt cs (gEnd cs i k)) = wrB (cAt cs i)) := by
  generalize hq : cs.length - k = q
  induction q generalizing k with
  | zero =>
    have e : gEnd cs i k = k := by unfold gEnd; rw [if_neg (by omega)]
    rw [e] at h
    omega
  | succ q ih =>
    by_cases hc : k < cs.length ∧ (cAt cs k).p = (cAt cs i).p ∧ wrB (cAt cs k) = wrB (cAt cs i)
    · have e : gEnd cs i k = gEnd cs i (k + 1) := by conv => lhs; unfold gEnd; rw [if_pos hc]
      rw [e] at h ⊢
      exact ih (k + 1) h (by omega)
    · have e : gEnd cs i k = k := by unfold gEnd; rw [if_neg hc]
      rw [e] at h ⊢
      exact fun h2 => hc ⟨h, h2⟩
def Bd (x : Pp) (p : Pn) (i : Nat) : Prop := 0 < (rowS x p i).2.1 → 0 < i ∧ wrB (cAt x.cs (i - 1)) = false ∧ (i < x.cs.length → wrB (cAt x.cs i) = true ∨ (cAt x.cs i).p ≠ (rowS x p i).2.2)
def pend (x : Pp) (p : Pn) (i : Nat) : List UInt8 := ((rowS x p i).1 ++ (if i = 0 then goL x.row x.col else [])) ++ (if 0 < (rowS x p i).2.1 then blankL (rowS x p i).2.1 ++ (if i < x.cs.length then goL x.row (x.col + i) else []) else [])
theorem cells_snoc (cs : List Cl) (i m : Nat) (h1 : i ≤ m) (h2 : m < cs.length) : cellsL ((cs.drop i).take (m + 1 - i)) = cellsL ((cs.drop i).take (m - i)) ++ cellL (cAt cs m) := by
  have e : (cs.drop i).take (m + 1 - i) = (cs.drop i).take (m - i) ++ [cAt cs m] := by
    rw [show m + 1 - i = (m - i) + 1 by omega, List.take_add_one, List.getElem?_drop, show i + (m - i) = m by omega, List.getElem?_eq_getElem h2]
    unfold cAt
    rw [List.getD_eq_getElem?_getD, List.getElem?_eq_getElem h2]
    rfl
  rw [e]
  unfold cellsL
  simp
theorem group_run (x : Pp) (p : Pn) (i : Nat) (hi : i < x.cs.length) (hb : Bd x p i) : ∀ m, i + 1 ≤ m → m ≤ gEnd x.cs i (i + 1) →
    rowS x p m = ((pend x p i ++ sgrL (betweenL (rowS x p i).2.2 (cAt x.cs i).p)) ++ (if wrB (cAt x.cs i) then cellsL ((x.cs.drop i).take (m - i)) else []), if wrB (cAt x.cs i) then 0 else m - i, (cAt x.cs i).p) := by
  intro m h1 h2
  have hg := gEnd_ge x.cs i (i + 1) (by omega)
  induction m with
  | zero => omega
  | succ m ih =>
    rcases Nat.eq_or_lt_of_le h1 with h3 | h3
    · have h3 : i = m := by omega
      subst h3
      rw [rowS_step]
      have hbr : brB x i (rowS x p i).2.1 (rowS x p i).2.2 = decide (0 < (rowS x p i).2.1) := by
        unfold brB
        by_cases h0 : 0 < (rowS x p i).2.1
        · obtain ⟨b1, b2, b3⟩ := hb h0
          rw [b2]
          rcases b3 hi with b3 | b3
          · simp [h0, b1, b3]
          · simp [h0, b1, b3]
        · simp [h0]
      unfold stepS pend
      rw [hbr, sgr_if]
      simp only [decide_eq_true_eq, if_pos hi]
      have hc := cells_snoc x.cs i i (Nat.le_refl _) hi
      rw [Nat.sub_self] at hc
      simp only [List.take_zero] at hc
      have hc0 : cellsL [] = [] := rfl
      rw [hc0, List.nil_append] at hc
      rw [hc]
      by_cases h0 : 0 < (rowS x p i).2.1
      · simp [h0]
      · have h00 : (rowS x p i).2.1 = 0 := by omega
        simp [h00]
    · have h4 := ih (by omega) (by omega)
      obtain ⟨g1, g2⟩ := gEnd_in x.cs i (i + 1) m (by omega) (by omega)
      rw [rowS_step, h4]
      by_cases hw : wrB (cAt x.cs i) = true
      · unfold stepS
        rw [hw] at g2
        have hm0 : ¬ m = 0 := by omega
        have hbr : ∀ q, brB x m 0 q = false := fun q => by unfold brB; simp
        simp only [hw, if_true, g1, g2, hm0, if_false, hbr, List.append_nil, Bool.false_eq_true]
        rw [cells_snoc x.cs i m (by omega) (by omega), List.append_assoc]
      · have hw : wrB (cAt x.cs i) = false := by simpa using hw
        unfold stepS
        rw [hw] at g2
        have hm0 : ¬ m = 0 := by omega
        have hbr : brB x m (m - i) (cAt x.cs i).p = false := by unfold brB; rw [g2, g1]; simp
        simp only [hw, if_false, g1, g2, hm0, hbr, List.append_nil, Bool.false_eq_true, if_true]
        rw [show m - i + 1 = m + 1 - i by omega]
theorem law_groups (x : Pp) (p : Pn) (i : Nat) (hi : i ≤ x.cs.length) (hb : Bd x p i) : pend x p x.cs.length = pend x p i ++ groupsL x.row x.col x.cs i (rowS x p i).2.2 := by
  generalize hq : x.cs.length - i = q
  induction q using Nat.strongRecOn generalizing i with
  | _ q ih =>
    rcases Nat.lt_or_ge i x.cs.length with hlt | hge
    · have hg := gEnd_ge x.cs i (i + 1) (by omega)
      have hr := group_run x p i hlt hb (gEnd x.cs i (i + 1)) hg.1 (Nat.le_refl _)
      have hin := gEnd_in x.cs i (i + 1)
      have hst := gEnd_stop x.cs i (i + 1)
      rw [groups_step x.row x.col x.cs i _ hlt]
      generalize gEnd x.cs i (i + 1) = g at *
      have hprev : wrB (cAt x.cs (g - 1)) = wrB (cAt x.cs i) := by
        rcases Nat.eq_or_lt_of_le hg.1 with h | h
        · rw [← h]; simp
        · exact (hin (g - 1) (by omega) (by omega)).2
      have hbg : Bd x p g := by
        unfold Bd
        rw [hr, hprev]
        dsimp only
        intro h0
        have hw : wrB (cAt x.cs i) = false := by
          cases hw : wrB (cAt x.cs i) with
          | true => rw [hw] at h0; simp at h0
          | false => rfl
        refine ⟨by omega, hw, fun hgl => ?_⟩
        have := hst hgl
        rw [hw] at this
        cases hw2 : wrB (cAt x.cs g) with
        | true => exact .inl rfl
        | false => exact .inr fun h => this ⟨h, hw2⟩
      rw [ih (x.cs.length - g) (by omega) g hg.2 hbg rfl]
      have hp : (rowS x p g).2.2 = (cAt x.cs i).p := by rw [hr]
      rw [hp, ← List.append_assoc, ← List.append_assoc]
      congr 1
      have hg0 : ¬ g = 0 := by omega
      conv => lhs; unfold pend
      rw [hr]
      dsimp only
      rw [if_neg hg0, List.append_nil]
      unfold groupL
      cases hw : wrB (cAt x.cs i) with
      | true => simp
      | false =>
        have h0 : 0 < g - i := by omega
        simp only [Bool.false_eq_true, if_false, h0, if_true, List.append_nil]
        unfold blankL
        simp only [List.append_assoc]
    · have : i = x.cs.length := by omega
      subst this
      rw [groups_end x.row x.col x.cs _ _ (Nat.le_refl _), List.append_nil]
theorem law_patch (x : Pp) (p : Pn) (h : 0 < x.cs.length) : endS (rowS x p x.cs.length) = patchL x p ∧ (rowS x p x.cs.length).2.2 = (cAt x.cs (x.cs.length - 1)).p := by
  have hb : Bd x p 0 := fun h => by cases h
  have h1 := law_groups x p 0 (Nat.zero_le _) hb
  refine ⟨?_, ?_⟩
  · have h2 : pend x p x.cs.length = endS (rowS x p x.cs.length) := by
      unfold pend endS
      rw [if_neg (by omega), List.append_nil]
      simp
    rw [← h2, h1]
    unfold pend patchL
    simp [rowS]
  · obtain ⟨n, hn⟩ : ∃ n, x.cs.length = n + 1 := ⟨x.cs.length - 1, by omega⟩
    rw [hn, rowS_step]
    rfl
theorem law_bytes (ps : List Pp) (p : Pn) : lawBytes ps p = chgBytes ps p := by
  induction ps generalizing p with
  | nil => rfl
  | cons x ps ih =>
    rw [chg_step]
    show endS (rowS x p x.cs.length) ++ lawBytes ps (rowS x p x.cs.length).2.2 = _
    rcases Nat.eq_zero_or_pos x.cs.length with h | h
    · rw [if_pos h, h, ih]
      rfl
    · obtain ⟨h1, h2⟩ := law_patch x p h
      rw [if_neg (by omega), h1, h2, ih]
end Go.Proofs.YthophmihgmjnfaaDoor

namespace Go.Proofs.YthophmihgmjnfaaDoor
open Go Go.RowKit Go.Rep Go.Sy
set_option maxRecDepth 100000
set_option linter.unusedSimpArgs false
theorem len_at {w : World} {B n : Nat} {ad : Addr} {ps : List Pt} (h : Reads w B 4 (some ad) n (pvals ps)) {k : Nat} (hk : k < ps.length) (i : Int) (hi : i = k) :
    At w ad (Int.toNat i * 4) [.int .i64 (ps[k]).row] ∧ At w ad (Int.toNat i * 4 + 1) [.int .i64 (ps[k]).col] ∧ At w ad (Int.toNat i * 4 + 2) [.slice (ps[k]).ad (ps[k]).cs.length (ps[k]).cap] := by
  have h1 := patch_at h hk i hi
  exact ⟨by have := h1.one 0 rfl; rwa [Nat.add_zero] at this, h1.one 1 rfl, h1.one 2 rfl⟩
/-- style.Between and style.Text, one behind the other. -/
theorem runs_sgr {a b : Pn} {w : World} {R : Ending → World → Prop} (hL : Laid w) (ha : okPn a) (hb : okPn b)
    (hR : ∀ p n c w', Below w.heap.size w w' → (∀ w2 R2, Below w'.heap.size w' w2 → Laid2 w2 → (∀ w3, Below w2.heap.size w2 w3 → R2 (.returned (.tuple #[.string ⟨⟨sgrL (betweenL a b)⟩⟩, .int .i64 0])) w3) → Runs Tryd.prog 21 #[.slice p n c] w2 R2) → R (.returned (.slice p n c)) w') :
    Runs Tryd.prog 22 #[.agg #[.int .i64 a.f.k, .int .u8 a.f.i, .int .u8 a.f.r, .int .u8 a.f.g, .int .u8 a.f.b, .int .i64 a.b.k, .int .u8 a.b.i, .int .u8 a.b.r, .int .u8 a.b.g, .int .u8 a.b.b, .int .u8 a.fl], .agg #[.int .i64 b.f.k, .int .u8 b.f.i, .int .u8 b.f.r, .int .u8 b.f.g, .int .u8 b.f.b, .int .i64 b.b.k, .int .u8 b.b.i, .int .u8 b.b.r, .int .u8 b.b.g, .int .u8 b.b.b, .int .u8 b.fl]] w R := by
  refine runs_w (between_any a b hL ha hb) ?_
  rintro e w' ⟨v, rfl, hO, hbl⟩
  have hv : ∃ p c, v = .slice p (betweenL a b).length c := by
    rcases hO.2 with ⟨rfl, h0⟩ | ⟨g, cap, cur, hv, _⟩
    · exact ⟨none, 0, by rw [h0]⟩
    · exact ⟨_, _, hv⟩
  obtain ⟨p, c, rfl⟩ := hv
  refine hR p _ c w' hbl fun w2 R2 h2 hL2 hR2 => ?_
  have hr : Reads w2 w'.heap.size 1 p (betweenL a b).length (ivals (betweenL a b)) := (Reads.of_own hO).below h2
  exact runs_pure (stext_any hr h2.size rfl (own_cap hO) (smI_between ha hb) (by have := between_len a b; omega) hL2) hR2
/-- The pen in its variable. -/
def IsP (k1 k2 k3 k4 k5 k6 k7 k8 k9 k10 k11 : Int) (p : Pn) : Prop := p = ⟨⟨k1, k2, k3, k4, k5⟩, ⟨k6, k7, k8, k9, k10⟩, k11⟩
theorem decide_ne (p : Prop) [Decidable p] : (decide p = false) ↔ ¬ p := by simp
set_option maxHeartbeats 2000000 in
theorem bytes_any {ps : List Pt} {B ca n : Nat} {A : Option Addr} {w : World} (hL : Laid2 w) (hPr : Reads w B 4 A n (pvals ps)) (hn : ps.length = n) (hrows : ∀ x ∈ ps, Reads w B 16 x.ad x.cs.length (cvals x.cs)) (hB : B ≤ w.heap.size) (hlen : n ≤ 102) (hgood : ∀ x ∈ ps, GoodP x.say) :
    Gets Tryd.prog 11 #[.slice A n ca] w Nix fun v _ => v = .string (S (chgBytes (ps.map Pt.say) zPn)) := by
  rw [← law_bytes]
  have up : ∀ {w' : World}, Below w.heap.size w w' → Laid2 w' ∧ Reads w' B 4 A n (pvals ps) ∧ ∀ x ∈ ps, Reads w' B 16 x.ad x.cs.length (cvals x.cs) := fun h =>
    ⟨hL.low h, hPr.below (h.mono hB), fun x hx => (hrows x hx).below (h.mono hB)⟩
  generalize hLL : ps.map Pt.say = L
  have hdrop : ∀ j (hj : j < ps.length), L.drop j = (ps[j]).say :: L.drop (j + 1) := fun j hj => by
    have hj2 : j < L.length := by rw [← hLL, List.length_map]; exact hj
    rw [List.drop_eq_getElem_cons hj2]
    congr 1
    have : L[j]? = some ((ps[j]).say) := by rw [← hLL, List.getElem?_map, List.getElem?_eq_getElem hj]; rfl
    rw [List.getElem?_eq_getElem hj2] at this
    exact Option.some.inj this
  refine vc11 A n ca ?_
  intro x0 hx0
  refine ⟨fun s i k1 k2 k3 k4 k5 k6 k7 k8 k9 k10 k11 _ => ∃ (j : Nat) (p : Pn), i = j ∧ j ≤ n ∧ IsP k1 k2 k3 k4 k5 k6 k7 k8 k9 k10 k11 p ∧ okPn p ∧ s ++ lawBytes (L.drop j) p = lawBytes L zPn ∧ s.length ≤ 200000 * j, fun _ i _ _ _ _ _ _ _ _ _ _ _ => n - i.toNat, fun w1 hb1 => ⟨0, zPn, rfl, Nat.zero_le _, rfl, okPn_zero, by rw [List.drop_zero]; rfl, Nat.le_refl _⟩, ?_⟩
  rintro s1 i k1 k2 k3 k4 k5 k6 k7 k8 k9 k10 k11 w1 hK1 ⟨j, p, rfl, hjn, hip, hp, hs, hsl⟩
  unfold IsP at hip
  refine ⟨fun hlt => ?_, fun hge => ?_⟩
  · have hj : j < ps.length := by omega
    have hx := hdrop j hj
    have hg : GoodP (ps[j]).say := hgood _ (List.getElem_mem hj)
    generalize hX : (ps[j]).say = X at *
    have hXc : X.cs = (ps[j]).cs := by rw [← hX]
    have hXr : X.row = (ps[j]).row := by rw [← hX]
    have hXo : X.col = (ps[j]).col := by rw [← hX]
    obtain ⟨ad, rfl, _⟩ := (up hK1.below).2.1.2 (by omega)
    have hlen16 := hg.len
    have hgl := goL_len X.row X.col (by have := hg.row; omega) (by have := hg.col; omega)
    refine ⟨fun s k1 k2 k3 k4 k5 k6 k7 k8 k9 k10 k11 _ => IsP k1 k2 k3 k4 k5 k6 k7 k8 k9 k10 k11 (rowS X p X.cs.length).2.2 ∧ s = s1 ++ endS (rowS X p X.cs.length), ?_, ?_⟩
    · refine ⟨fun s b k k1 k2 k3 k4 k5 k6 k7 k8 k9 k10 k11 _ => ∃ m : Nat, k = m ∧ m ≤ X.cs.length ∧ b = (rowS X p m).2.1 ∧ IsP k1 k2 k3 k4 k5 k6 k7 k8 k9 k10 k11 (rowS X p m).2.2 ∧ s = s1 ++ (rowS X p m).1, fun _ _ k _ _ _ _ _ _ _ _ _ _ _ => X.cs.length - k.toNat, fun w2 hb2 => ⟨0, rfl, Nat.zero_le _, rfl, hip, by simp [rowS]⟩, ?_⟩
      rintro s4 b k q1 q2 q3 q4 q5 q6 q7 q8 q9 q10 q11 w9 hK9 ⟨m, rfl, hm, rfl, hq, rfl⟩
      obtain ⟨hL9, hr9, hrow9⟩ := up hK9.below
      have hq0 := rowS_pen hg hp hm
      have hbm := rowS_blank X p m
      have hsm := rowS_len hg hp hm
      unfold IsP at hq
      refine ⟨ad, rfl, ⟨by omega, by omega⟩, _, _, _, (len_at hr9 hj _ rfl).2.2, fun hlt2 => ?_, fun hge2 => ?_⟩
      · have hmx : m < X.cs.length := by rw [hXc]; omega
        have hmc : m < (ps[j]).cs.length := by omega
        obtain ⟨ad2, hd2, _⟩ := (hrow9 _ (List.getElem_mem hj)).2 (by omega)
        have hcell := hrow9 _ (List.getElem_mem hj)
        rw [hd2] at hcell
        have hcok := hg.pen m hmx
        have hsl2 := sgr_between_len hq0 hcok
        generalize hC : cAt X.cs m = C at *
        have hC' : cAt (ps[j]).cs m = C := by rw [← hXc]; exact hC
        have hat := cell_at hcell hmc (m : Int) rfl
        rw [hC'] at hat
        refine ⟨fun s b k1 k2 k3 k4 k5 k6 k7 k8 k9 k10 k11 _ => b = (rowS X p (m + 1)).2.1 ∧ IsP k1 k2 k3 k4 k5 k6 k7 k8 k9 k10 k11 (rowS X p (m + 1)).2.2 ∧ s = s1 ++ (rowS X p (m + 1)).1, ⟨ad, rfl, ⟨by omega, by omega⟩, _, _, _, (len_at hr9 hj _ rfl).2.2, ad2, hd2, ⟨by omega, by omega⟩, _, _, _, _, _, _, _, _, _, _, _, _, _, _, _, _, hat, ?_⟩, ?_⟩
        · intro x1 hx1
          have hmine : ∀ {w' : World}, True := trivial
          refine ⟨fun t _ => t = wrB C, ⟨fun h0 w10 _ => ?_, fun h0 w10 _ => ⟨fun h1 => ?_, fun h1 => ?_⟩⟩, ?_⟩
          · unfold wrB; simp [h0]
          · unfold wrB; simp [h1]
          · unfold wrB; simp [h0, h1]
          rintro t w14 hK14 rfl
          obtain ⟨hL14, hr14, hrow14⟩ := up hK14.below
          refine ⟨fun s _ => s = (s1 ++ (rowS X p m).1) ++ (if m = 0 then goL X.row X.col else []), ⟨fun h0 => ?_, fun h0 w15 _ => ?_⟩, ?_⟩
          · refine ⟨ad, rfl, ⟨by omega, by omega⟩, _, (len_at hr14 hj _ rfl).1, ad, rfl, ⟨by omega, by omega⟩, _, (len_at hr14 hj _ rfl).2.1, ?_⟩
            intro w15 hb15 _
            refine runs_pure (at_any (ps[j]).row (ps[j]).col (by have := hg.row; omega) (by have := hg.col; omega) w15) fun w16 hb16 => ⟨_, rfl, kept_of hb16, ?_, ?_⟩
            · rw [← hXr, ← hXo]; simp only [List.length_append]; omega
            · intro w17 _
              have : m = 0 := by omega
              rw [if_pos this, hXr, hXo]
          · have : ¬ m = 0 := by omega
            rw [if_neg this, List.append_nil]
          rintro s7 w15 hK15 rfl
          obtain ⟨hL15, hr15, hrow15⟩ := up hK15.below
          have hcell15 := hrow15 _ (List.getElem_mem hj)
          rw [hd2] at hcell15
          have hl7 : ((s1 ++ (rowS X p m).1) ++ (if m = 0 then goL X.row X.col else [])).length ≤ s1.length + 11000 * m + 64 := by
            simp only [List.length_append]
            have : (if m = 0 then goL X.row X.col else []).length ≤ 64 := by split <;> first | exact hgl | exact Nat.zero_le _
            omega
          generalize hs7 : (s1 ++ (rowS X p m).1) ++ (if m = 0 then goL X.row X.col else []) = s7 at *
          refine ⟨fun t _ => t = (decide (0 < m) && !wrB (cAt X.cs (m - 1))), ⟨fun h0 => ?_, fun h0 w16 _ => ?_⟩, ?_⟩
          · have hm0 : 0 < m := by omega
            have hm1 : m - 1 < (ps[j]).cs.length := by omega
            have e1 : ((m : Int) - 1) = ((m - 1 : Nat) : Int) := by omega
            have hat1 := cell_at hcell15 hm1 ((m : Int) - 1) e1
            rw [← hXc] at hat1
            refine ⟨ad, rfl, ⟨by omega, by omega⟩, _, _, _, (len_at hr15 hj _ rfl).2.2, by unfold I64; omega, ad2, hd2, ⟨by omega, by omega⟩, _, by have := hat1.one 0 rfl; rwa [Nat.add_zero] at this, fun h1 => ?_, fun h1 w16 _ => ?_⟩
            · refine ⟨ad, rfl, ⟨by omega, by omega⟩, _, _, _, (len_at hr15 hj _ rfl).2.2, by unfold I64; omega, ad2, hd2, ⟨by omega, by omega⟩, _, hat1.one 4 rfl, fun w16 _ => ⟨fun h2 => ?_, fun h2 => ?_⟩⟩
              · unfold wrB; simp [h1, h2, hm0]
              · unfold wrB; simp [h1, h2]
            · unfold wrB; simp [h1]
          · have : ¬ 0 < m := by omega
            simp [this]
          rintro t9 w16 hK16 rfl
          refine ⟨fun s b _ => b = (if brB X m (rowS X p m).2.1 (rowS X p m).2.2 then 0 else (rowS X p m).2.1 : Nat) ∧ s = s7 ++ (if brB X m (rowS X p m).2.1 (rowS X p m).2.2 then blankL (rowS X p m).2.1 ++ goL X.row (X.col + m) else []), ⟨fun t _ => t = brB X m (rowS X p m).2.1 (rowS X p m).2.2, ⟨fun h0 => ⟨fun h1 => ⟨fun h2 w17 _ => ?_, fun h2 => ?_⟩, fun h1 w17 _ => ?_⟩, fun h0 w17 _ => ?_⟩, ?_⟩, ?_⟩
          · have h0' : 0 < (rowS X p m).2.1 := by omega
            unfold brB; rw [hC]; simp only [h0', decide_true, Bool.true_and, h1, h2, Bool.true_or]
          · refine ⟨decide (C.p = (rowS X p m).2.2), fun w' => by rw [hq]; exact pen_equal C.p ⟨⟨q1, q2, q3, q4, q5⟩, ⟨q6, q7, q8, q9, q10⟩, q11⟩ w', fun w17 _ => ⟨fun h3 => ?_, fun h3 => ?_⟩⟩
            · have h0' : 0 < (rowS X p m).2.1 := by omega
              unfold brB; rw [hC]; simp only [h0', decide_true, Bool.true_and, h1, h2, h3, Bool.false_or, Bool.not_false]
            · unfold brB; rw [hC]; simp only [h2, h3, Bool.false_or, Bool.not_true, Bool.and_false]
          · unfold brB; simp only [h1, Bool.and_false, Bool.false_and]
          · have : ¬ 0 < (rowS X p m).2.1 := by omega
            unfold brB; simp [this]
          · rintro t w28 hK28 rfl
            obtain ⟨hL28, hr28, _⟩ := up hK28.below
            refine ⟨fun h4 => ?_, fun h4 w29 _ => ?_⟩
            · have hL4 := len_at hr28 hj (j : Int) rfl
              refine ⟨by omega, ad, rfl, ⟨by omega, by omega⟩, _, hL4.1, ad, rfl, ⟨by omega, by omega⟩, _, hL4.2.1, by unfold I64; have := hg.col; omega, ?_⟩
              intro w30 hb30 _
              have hbl2 := blankL_len (b := (rowS X p m).2.1) (by omega)
              have hdl := dec_len (rowS X p m).2.1 (by omega)
              refine runs_pure (dec_nat (rowS X p m).2.1 (by omega) w30) fun w31 hb31 => ⟨_, rfl, kept_of hb31, (hL4.2.1.below hb30).below hb31, (hL4.1.below hb30).below hb31, by simp only [List.length_append, List.length_cons, List.length_nil]; omega, by simp only [List.length_append, List.length_cons, List.length_nil]; omega, ?_⟩
              intro w32 hb32 _
              have hgo2 := goL_len X.row (X.col + m) (by have := hg.row; omega) (by have := hg.col; omega)
              have hat2 := at_any X.row (X.col + m) (by have := hg.row; omega) (by have := hg.col; omega) w32
              have e2 : ((X.col + m : Nat) : Int) = ((ps[j]).col : Int) + (m : Int) := by rw [hXo]; omega
              rw [e2, hXr] at hat2
              refine runs_pure hat2 fun w33 hb33 => ⟨_, rfl, kept_of hb33, by simp only [List.length_append, List.length_cons, List.length_nil]; rw [← hXr]; omega, ?_⟩
              intro w34 _
              rw [if_pos h4, if_pos h4]
              refine ⟨rfl, ?_⟩
              unfold blankL
              simp only [List.append_assoc, hXr]
            · rw [h4]
              simp
          rintro s8 b8 w17 hK17 ⟨rfl, rfl⟩
          obtain ⟨hL17, _, _⟩ := up hK17.below
          have hl8 : (s7 ++ (if brB X m (rowS X p m).2.1 (rowS X p m).2.2 = true then blankL (rowS X p m).2.1 ++ goL X.row (X.col + m) else [])).length ≤ s1.length + 11000 * m + 200 := by
            have h1 := blankL_len (b := (rowS X p m).2.1) (by omega)
            have h2 := goL_len X.row (X.col + m) (by have := hg.row; omega) (by have := hg.col; omega)
            rw [List.length_append]
            have : (if brB X m (rowS X p m).2.1 (rowS X p m).2.2 = true then blankL (rowS X p m).2.1 ++ goL X.row (X.col + m) else []).length ≤ 97 := by split <;> first | (rw [List.length_append]; omega) | exact Nat.zero_le _
            omega
          generalize hs8 : s7 ++ (if brB X m (rowS X p m).2.1 (rowS X p m).2.2 = true then blankL (rowS X p m).2.1 ++ goL X.row (X.col + m) else []) = s8 at *
          refine ⟨fun s k1 k2 k3 k4 k5 k6 k7 k8 k9 k10 k11 _ => IsP k1 k2 k3 k4 k5 k6 k7 k8 k9 k10 k11 C.p ∧ s = s8 ++ (if C.p = (rowS X p m).2.2 then [] else sgrL (betweenL (rowS X p m).2.2 C.p)), ⟨decide (C.p = (rowS X p m).2.2), fun w' => by rw [hq]; exact pen_equal C.p ⟨⟨q1, q2, q3, q4, q5⟩, ⟨q6, q7, q8, q9, q10⟩, q11⟩ w', fun h5 => ?_, fun h5 w18 _ => ?_⟩, ?_⟩
          · intro w22 hb22 _
            have hne := of_decide_eq_false h5
            have hL22 := hL17.low hb22
            have hr := fun (R : Ending → World → Prop) => runs_sgr (R := R) (a := (rowS X p m).2.2) (b := C.p) (w := w22) hL22.lo hq0 hcok
            rw [hq] at hr
            refine hr _ fun pp nn cc w23 hb23 hnext => ⟨pp, nn, cc, rfl, kept_of hb23, ?_⟩
            intro w24 hb24 _
            refine hnext w24 _ hb24 ((hL22.low hb23).low hb24) fun w25 hb25 => ⟨_, _, rfl, kept_of hb25, ?_, fun w26 _ => ⟨rfl, ?_⟩⟩
            · have : (sgrL (betweenL (rowS X p m).2.2 C.p)).length ≤ 10000 := hsl2
              rw [hq] at this
              omega
            · rw [if_neg hne, hq]
          · have he := of_decide_eq_true h5
            refine ⟨?_, by rw [if_pos he, List.append_nil]⟩
            unfold IsP
            rw [he, hq]
          rintro s9 g1 g2 g3 g4 g5 g6 g7 g8 g9 g10 g11 w18 hK18 ⟨hgp, rfl⟩
          have hfin : rowS X p (m + 1) = (((rowS X p m).1 ++ (if m = 0 then goL X.row X.col else []) ++ (if brB X m (rowS X p m).2.1 (rowS X p m).2.2 then blankL (rowS X p m).2.1 ++ goL X.row (X.col + m) else []) ++ (if C.p = (rowS X p m).2.2 then [] else sgrL (betweenL (rowS X p m).2.2 C.p))) ++ (if wrB C then cellL C else []), (if wrB C then (if brB X m (rowS X p m).2.1 (rowS X p m).2.2 then 0 else (rowS X p m).2.1) else (if brB X m (rowS X p m).2.1 (rowS X p m).2.2 then 0 else (rowS X p m).2.1) + 1), C.p) := by
            rw [rowS_step]
            unfold stepS
            rw [hC]
          have hl9 : (s8 ++ (if C.p = (rowS X p m).2.2 then [] else sgrL (betweenL (rowS X p m).2.2 C.p))).length ≤ s1.length + 11000 * m + 10200 := by
            rw [List.length_append]
            have : (if C.p = (rowS X p m).2.2 then [] else sgrL (betweenL (rowS X p m).2.2 C.p)).length ≤ 10000 := by split <;> first | exact hsl2 | exact Nat.zero_le _
            omega
          refine ⟨fun h6 => ?_, fun h6 => ⟨?_, fun w19 _ => ?_⟩⟩
          · intro w19 _ _
            have hcl := cellL_len C
            refine runs_pure (ctext_any C w19) fun w20 hb20 => ⟨_, rfl, kept_of hb20, by omega, fun w21 _ => ?_⟩
            rw [hfin]
            refine ⟨by simp only [h6, if_true], hgp, ?_⟩
            simp only [h6, if_true]
            rw [← hs8, ← hs7]
            simp only [List.append_assoc]
          · have : (if brB X m (rowS X p m).2.1 (rowS X p m).2.2 = true then 0 else (rowS X p m).2.1) ≤ 16 := by split <;> omega
            unfold I64
            omega
          · rw [hfin]
            refine ⟨by simp only [h6, if_false, Bool.false_eq_true]; omega, hgp, ?_⟩
            simp only [h6, if_false, Bool.false_eq_true, List.append_nil]
            rw [← hs8, ← hs7]
            simp only [List.append_assoc]
        · rintro s6 b6 g1 g2 g3 g4 g5 g6 g7 g8 g9 g10 g11 w14 hK14 ⟨rfl, hgp, rfl⟩
          exact ⟨by unfold I64; omega, fun w15 _ => ⟨⟨m + 1, by omega, by omega, rfl, hgp, rfl⟩, by dsimp only; omega⟩⟩
      · have hmx : m = X.cs.length := by rw [hXc] at *; omega
        subst hmx
        refine ⟨fun h0 => ⟨by rw [List.length_append]; omega, ?_⟩, fun h0 w10 _ => ⟨hq, ?_⟩⟩
        · intro w11 hb11 _
          have hdl := dec_len (rowS X p X.cs.length).2.1 (by omega)
          refine runs_pure (dec_nat (rowS X p X.cs.length).2.1 (by omega) w11) fun w12 hb12 => ⟨_, rfl, kept_of hb12, by simp only [List.length_append, List.length_cons, List.length_nil]; omega, by simp only [List.length_append, List.length_cons, List.length_nil]; omega, fun w13 _ => ⟨hq, ?_⟩⟩
          unfold endS
          rw [if_pos (by omega)]
          unfold blankL
          simp only [List.append_assoc]
        · unfold endS
          rw [if_neg (by omega), List.append_nil]
    · rintro s3 g1 g2 g3 g4 g5 g6 g7 g8 g9 g10 g11 w7 hK7 ⟨hgp, rfl⟩
      refine ⟨by unfold I64; omega, fun w8 _ => ⟨⟨j + 1, _, by omega, by omega, hgp, rowS_pen hg hp (Nat.le_refl _), ?_, ?_⟩, by dsimp only; omega⟩⟩
      · rw [← hs, hx, List.append_assoc]
        rfl
      · have h1 := rowS_len hg hp (Nat.le_refl X.cs.length)
        have h2 := rowS_blank X p X.cs.length
        have h3 := blankL_len (b := (rowS X p X.cs.length).2.1) (by omega)
        rw [List.length_append]
        unfold endS
        rw [List.length_append]
        have : (if 0 < (rowS X p X.cs.length).2.1 then blankL (rowS X p X.cs.length).2.1 else []).length ≤ 33 := by split <;> first | exact h3 | exact Nat.zero_le _
        omega
  · have hjn2 : j = n := by omega
    have hdn : L.drop j = [] := List.drop_eq_nil_of_le (by rw [← hLL, List.length_map]; omega)
    rw [hdn] at hs
    intro w2 hb2 _
    have hL2 := (up hK1.below).1.low hb2
    have hsl2 := sgr_between_len hp okPn_zero
    have hr := fun (R : Ending → World → Prop) => runs_sgr (R := R) (a := p) (b := zPn) (w := w2) hL2.lo hp okPn_zero
    rw [hip] at hr hs hsl2
    refine hr _ fun pp nn cc w3 hb3 hnext => ⟨pp, nn, cc, rfl, kept_of hb3, ?_⟩
    intro w4 hb4 _
    refine hnext w4 _ hb4 ((hL2.low hb3).low hb4) fun w5 hb5 => ⟨_, _, rfl, kept_of hb5, by omega, fun w6 hb6 hK6 => ?_⟩
    rw [← hs]
    rfl
end Go.Proofs.YthophmihgmjnfaaDoor
