/- A part of the proof of RepaintBytes. -/
import Derived.Test.YthophmihgmjnfaaDoorUW
import Derived.Test.YthophmihgmjnfaaDoorUF
set_option linter.unusedVariables false
set_option linter.unusedSimpArgs false
-- --
namespace Go.Proofs.YthophmihgmjnfaaDoor
open Go Go.RowKit Go.Rep Go.Sy
set_option maxRecDepth 100000
set_option linter.unusedSimpArgs false
theorem beval_eq (a : Int) : (BE.eq a a).val = true := by unfold BE.val BE.is; simp
theorem bytes_two {w w' : World} {u : Value} {p : Option Addr} {n c : Nat} {l : List UInt8} (h : Bts w u l) (hu : u = .slice p n c) (hb : Below w.heap.size w w') : BytesAt w' p n l ∧ (p = none → n = 0) := by
  obtain ⟨A, m, d, rfl, h1, h2⟩ := h
  injection hu with e1 e2 e3
  subst e1 e2
  exact ⟨⟨h1.1, fun a ha => (h1.2 a ha).below hb⟩, h2⟩
theorem pnts_any {a : List Ln} {B ca na : Nat} {A : Option Addr} {row col no : Int} {want : List UInt8} {w : World} (hL : Laid2 w) (ha : LinesR w B A a) (hB : B ≤ w.heap.size) (hla : a.length = na) (hna : na ≤ 6) (h16 : ∀ i, i < na → (lAt a i).cs.length ≤ 16)
    (hp : checkE (emp a) a = 0 → ∀ i, i < na → ∀ c ∈ (lAt a i).cs, okPn c.p) (hno : noC (emp a) a row col = no) (hw : outC (emp a) a row col = want) :
    Calls Tryd.prog 7 #[.slice A na ca, .int .i64 row, .int .i64 col, .string (S want), .int .i64 no] w fun e w' => e = .returned (.bool true) ∧ Below w.heap.size w w' := by
  refine Gets.below (vc7 A na ca row col want no ?_)
  intro w1 hb1
  refine (paint_any (hL.low hb1) (ha.below (hb1.mono hB)) (by have := hb1.size; omega) hla hna h16 hp).runs fun v w2 hK2 hv => ?_
  obtain ⟨u, rfl, hu⟩ := hv
  obtain ⟨p, n, c, rfl, hbt⟩ := id hu
  refine ⟨p, n, c, _, rfl, hK2.nix, _, fun w3 hb3 => ⟨(bytes_two hu rfl hb3).1, (bytes_two hu rfl hb3).2, fun _ w4 hb4 hK4 => ?_, fun h => absurd hw h⟩⟩
  rw [hno, beval_eq]
theorem chgs_any {a b : List Ln} {B ca cb na nb : Nat} {A A2 : Option Addr} {row col no : Int} {want : List UInt8} {w : World} (hL : Laid2 w) (ha : LinesR w B A a) (hb : LinesR w B A2 b) (hB : B ≤ w.heap.size) (hla : a.length = na) (hlb : b.length = nb) (hna : na ≤ 6) (hnb : nb ≤ 6) (hc16 : checkE a b = 0 → colsOf a ≤ 16)
    (hp : checkE a b = 0 → ∀ i, i < nb → (lAt b i).cs.length ≤ 16 ∧ ∀ c ∈ (lAt b i).cs, okPn c.p) (hno : noC a b row col = no) (hw : outC a b row col = want) :
    Calls Tryd.prog 8 #[.slice A na ca, .slice A2 nb cb, .int .i64 row, .int .i64 col, .string (S want), .int .i64 no] w fun e w' => e = .returned (.bool true) ∧ Below w.heap.size w w' := by
  refine Gets.below (vc8 A A2 na ca nb cb row col want no ?_)
  intro w1 hb1
  refine (chg_any (hL.low hb1) (ha.below (hb1.mono hB)) (hb.below (hb1.mono hB)) (by have := hb1.size; omega) hla hlb hna hnb hc16 hp).runs fun v w2 hK2 hv => ?_
  obtain ⟨u, rfl, hu⟩ := hv
  obtain ⟨p, n, c, rfl, hbt⟩ := id hu
  refine ⟨p, n, c, _, rfl, hK2.nix, _, fun w3 hb3 => ⟨(bytes_two hu rfl hb3).1, (bytes_two hu rfl hb3).2, fun _ w4 hb4 hK4 => ?_, fun h => absurd hw h⟩⟩
  rw [hno, beval_eq]
/-! ### What the law needs of screens -/
theorem bC_ok : validCl bC = true := by decide
theorem blank_row (n : Nat) : rowB (List.replicate n bC) = true := by
  have hat : ∀ i, i < n → cAt (List.replicate n bC) i = bC := fun i hi => by
    unfold cAt
    rw [List.getD_eq_getElem?_getD, List.getElem?_replicate, if_pos hi]
    rfl
  have key : ∀ k, k ≤ n → rowUpTo (List.replicate n bC) k = true := fun k hk => by
    induction k with
    | zero => rfl
    | succ k ih =>
      have h1 : okAt (List.replicate n bC) k = true := by
        have hb : behindB (List.replicate n bC) k = false := by
          unfold behindB
          rcases Nat.eq_zero_or_pos k with h0 | h0
          · simp [h0]
          · rw [hat (k - 1) (by omega)]; simp [bC]
        unfold okAt
        rw [hb, hat k (by omega), bC_ok]
        simp [bC]
      unfold rowUpTo
      rw [ih (by omega), h1]
      rfl
  unfold rowB
  exact key _ (by rw [List.length_replicate]; exact Nat.le_refl _)
theorem screen_lens {b : List Ln} (h : screenB b = true) {i : Nat} (hi : i < b.length) : (lAt b i).cs.length ≤ 1000 ∧ rowB (lAt b i).cs = true ∧ 0 < (lAt b i).cs.length ∧ (lAt b i).cs.length = (lAt b 0).cs.length := by
  have h1 := screenUp_all h hi
  obtain ⟨h2, h3, h4⟩ := scrAt_parts h1
  refine ⟨?_, h2, h3, h4⟩
  unfold scrAt validLn at h1
  simp only [Bool.and_eq_true, decide_eq_true_eq] at h1
  exact h1.1.1
theorem emp_screen {b : List Ln} (h : screenB b = true) : screenB (emp b) = true := by
  have key : ∀ k, k ≤ b.length → screenUp (emp b) k = true := fun k hk => by
    induction k with
    | zero => rfl
    | succ k ih =>
      obtain ⟨h1, _, h3, h4⟩ := screen_lens h (i := k) (by omega)
      have h5 : scrAt (emp b) k = true := by
        unfold scrAt validLn
        rw [emp_at b (by omega), emp_at b (show 0 < b.length by omega), blank_row]
        simp only [List.length_replicate, Bool.and_true, Bool.and_eq_true, decide_eq_true_eq, Bool.not_eq_true', decide_eq_false_iff_not]
        exact ⟨h1, by omega, h4⟩
      unfold screenUp
      rw [ih (by omega), h5]
      rfl
  unfold screenB
  rw [emp_len]
  exact key _ (Nat.le_refl _)
theorem emp_check {b : List Ln} (h : screenB b = true) (h0 : 0 < b.length) : checkE (emp b) b = 0 := by
  unfold checkE
  rw [h, emp_screen h, emp_len]
  have : colsOf (emp b) = colsOf b := by unfold colsOf; rw [emp_at b h0, List.length_replicate]
  simp [this]
theorem row_pen {l : List Cl} (h : rowB l = true) {c : Cl} (hc : c ∈ l) : validPn c.p = true := by
  obtain ⟨i, hi, rfl⟩ := List.mem_iff_getElem.1 hc
  have h1 : okAt l i = true := by
    cases h2 : okAt l i with
    | true => rfl
    | false => rw [show rowB l = false from rowUpTo_bad h2 hi] at h; cases h
  unfold okAt at h1
  simp only [Bool.and_eq_true] at h1
  have h2 := h1.1
  rw [← cAt_eq hi] at h2
  unfold validCl at h2
  simp only [Bool.and_eq_true] at h2
  exact h2.1
end Go.Proofs.YthophmihgmjnfaaDoor

namespace Go.Proofs.YthophmihgmjnfaaDoor
open Go Go.RowKit Go.Rep Go.Sy
set_option maxRecDepth 100000
set_option linter.unusedSimpArgs false
theorem chgB_len {L : List Pp} (h : ∀ x ∈ L, GoodP x) {p : Pn} (hp : okPn p) : (chgBytes L p).length ≤ 10000 + 180000 * L.length := by
  induction L generalizing p with
  | nil => exact sgr_between_len hp okPn_zero
  | cons x L ih =>
    have hg := h x (List.mem_cons_self ..)
    have hr := fun q hq => ih (fun y hy => h y (List.mem_cons_of_mem _ hy)) (p := q) hq
    rw [chg_step, List.length_cons]
    split
    · have := hr p hp; omega
    · rename_i h0
      have h1 := patchL_len hg hp
      have h2 := hr _ (hg.pen (x.cs.length - 1) (by omega))
      rw [List.length_append]
      omega
structure DeltaF (w : World) (a b : List Ln) (p : Option Addr) (n : Nat) : Prop where
  ex : ∃ ps : List Pt, Reads w w.heap.size 4 p n (pvals ps) ∧ ps.length = n ∧ n ≤ 102 ∧ (∀ x ∈ ps, Reads w w.heap.size 16 x.ad x.cs.length (cvals x.cs)) ∧ (∀ x ∈ ps, GoodP x.say) ∧ ps.map Pt.say = deltaL a b
  len : (chgBytes (deltaL a b) zPn).length ≤ 20000000
theorem delta_facts {a b : List Ln} {w : World} {B n c : Nat} {p : Option Addr} {ps : List Pt} (hP : Patches w B (.slice p n c) ps) (hn : ps.length = n) (hsay : ps.map Pt.say = deltaL a b) (hcol : colsOf a ≤ 16) (ha : a.length ≤ 6) (hb : ∀ i, i < a.length → (lAt b i).cs.length ≤ 16 ∧ ∀ c ∈ (lAt b i).cs, okPn c.p) : DeltaF w a b p n := by
  have hgood : ∀ x ∈ deltaL a b, GoodP x := delta_good hcol ha hb
  have hl : (deltaL a b).length ≤ 102 := by
    have h1 := deltaUp_len (a := a) (b := b) (n := colsOf a) a.length
    have h3 : (colsOf a + 1) * a.length ≤ 17 * 6 := Nat.mul_le_mul (by omega) (by omega)
    unfold deltaL
    omega
  have h2 : ps.length = (deltaL a b).length := by rw [← hsay, List.length_map]
  refine ⟨⟨ps, ?_, hn, by omega, fun x hx => Reads.of_own (hP.row x hx), fun x hx => hgood _ (by rw [← hsay]; exact List.mem_map_of_mem hx), hsay⟩, ?_⟩
  · have h := hP.hd
    rw [hn] at h
    exact Reads.of_own h
  · have := chgB_len hgood okPn_zero
    have := Nat.mul_le_mul_left 180000 hl
    omega
theorem runs_bytes {a b : List Ln} {w w2 : World} {p : Option Addr} {n c : Nat} {R : Ending → World → Prop} (h : DeltaF w a b p n) (hb : Below w.heap.size w w2) (hL : Laid2 w2) (hR : ∀ w', Below w2.heap.size w2 w' → R (.returned (.string ⟨⟨chgBytes (deltaL a b) zPn⟩⟩)) w') : Runs Tryd.prog 11 #[.slice p n c] w2 R := by
  obtain ⟨⟨ps, h1, h2, h3, h4, h5, h6⟩, _⟩ := h
  have := bytes_any (ca := c) hL (h1.below hb) h2 (fun x hx => (h4 x hx).below hb) hb.size h3 h5
  rw [h6] at this
  exact this.runs fun v w' hK hv => by rw [hv]; exact hR w' hK.below
theorem no_bad {a b : List Ln} {r c : Int} (h : checkE a b = 2) : noC a b r c = 2 ∧ outC a b r c = [] := by
  have : noC a b r c = 2 := by unfold noC; rw [h]; rfl
  exact ⟨this, by unfold outC; rw [this]; rfl⟩
theorem check_bad {a b : List Ln} (h : screenB a = false ∨ screenB b = false) : checkE a b = 2 := by
  unfold checkE
  rcases h with h | h <;> rw [h] <;> simp
theorem law46 {a b : List Ln} {B ca cb na nb : Nat} {A A2 : Option Addr} {row col : Int} {w : World} (hL : Laid2 w) (ha : LinesR w B A a) (hb : LinesR w B A2 b) (hB : B ≤ w.heap.size) (hla : a.length = na) (hlb : b.length = nb)
    (hc : ∀ l ∈ b, ∀ c ∈ l.cs, okC c.p.f ∧ okC c.p.b) (hkn : ∀ w', Below w.heap.size w w' → Calls Tryd.prog 5 #[] w' fun e w'' => e = .returned (.bool true) ∧ Below w'.heap.size w' w'') :
    Calls Tryd.prog 3 #[.slice A na ca, .slice A2 nb cb, .int .i64 row, .int .i64 col] w fun e w' => e = .returned (.bool true) ∧ Below w.heap.size w w' := by
  subst hla hlb
  have up : ∀ {w' : World}, Below w.heap.size w w' → Laid2 w' ∧ LinesR w' B A a ∧ LinesR w' B A2 b ∧ B ≤ w'.heap.size := fun h => ⟨hL.low h, ha.below (h.mono hB), hb.below (h.mono hB), Nat.le_trans hB h.size⟩
  have tr : ∀ {x y : World}, Below w.heap.size w x → Below x.heap.size x y → Below w.heap.size w y := fun h k => h.trans (k.mono h.size)
  refine Gets.below (vc3 A A2 a.length ca b.length cb row col ?_)
  intro w1 hb1
  refine runs_pure ((small_any (cp := ca) (up hb1).2.1).mono fun e w' h => ⟨h.1, by rw [← h.2]; exact Below.refl _ _⟩) fun w2 hb2 => ⟨_, rfl, kept_of hb2, fun h => ?_, fun hsa => ?_⟩
  · intro w3 hb3
    exact runs_pure (hkn w3 (tr (tr hb1 hb2) hb3)) fun w4 hb4 => ⟨_, rfl, kept_of hb4, fun w5 _ _ => rfl⟩
  intro w3 hb3
  have hb03 := tr (tr hb1 hb2) hb3
  refine runs_pure ((small_any (cp := cb) (up hb03).2.2.1).mono fun e w' h => ⟨h.1, by rw [← h.2]; exact Below.refl _ _⟩) fun w4 hb4 => ⟨_, rfl, kept_of hb4, fun h => ?_, fun hsb => ?_⟩
  · intro w5 hb5
    exact runs_pure (hkn w5 (tr (tr hb03 hb4) hb5)) fun w6 hb6 => ⟨_, rfl, kept_of hb6, fun w7 _ _ => rfl⟩
  obtain ⟨hna, ha16⟩ := smallLs_len hsa
  obtain ⟨hnb, hb16⟩ := smallLs_len hsb
  have hcola : colsOf a ≤ 16 := by
    unfold colsOf
    rcases Nat.eq_zero_or_pos a.length with h9 | h9
    · have : a = [] := List.eq_nil_of_length_eq_zero h9
      subst this
      decide
    · exact ha16 0 h9
  have hpen : screenB b = true → ∀ i, i < b.length → ∀ c ∈ (lAt b i).cs, okPn c.p := fun hs i hi c hcc => ⟨(hc _ (lAt_mem hi) c hcc).1, (hc _ (lAt_mem hi) c hcc).2, row_pen (screen_lens hs hi).2.1 hcc⟩
  have hscr : ∀ {x : List Ln}, checkE x b = 0 → screenB b = true := fun {x} h => by
    cases h1 : screenB b with
    | true => rfl
    | false => rw [check_bad (.inr h1)] at h; cases h
  have hp1 : checkE (emp b) b = 0 → ∀ i, i < b.length → ∀ c ∈ (lAt b i).cs, okPn c.p := fun h => hpen (hscr h)
  have hp2 : checkE a b = 0 → ∀ i, i < b.length → (lAt b i).cs.length ≤ 16 ∧ ∀ c ∈ (lAt b i).cs, okPn c.p := fun h i hi => ⟨hb16 i hi, hpen (hscr h) i hi⟩
  have paints : ∀ {x : World} (_ : Below w.heap.size w x) (no : Int) (want : List UInt8), noC (emp b) b row col = no → outC (emp b) b row col = want → Calls Tryd.prog 7 #[.slice A2 b.length cb, .int .i64 row, .int .i64 col, .string (S want), .int .i64 no] x fun e w' => e = .returned (.bool true) ∧ Below x.heap.size x w' :=
    fun h no want h1 h2 => pnts_any (up h).1 (up h).2.2.1 (up h).2.2.2 rfl hnb hb16 hp1 h1 h2
  have changes : ∀ {x : World} (_ : Below w.heap.size w x) (no : Int) (want : List UInt8), noC a b row col = no → outC a b row col = want → Calls Tryd.prog 8 #[.slice A a.length ca, .slice A2 b.length cb, .int .i64 row, .int .i64 col, .string (S want), .int .i64 no] x fun e w' => e = .returned (.bool true) ∧ Below x.heap.size x w' :=
    fun h no want h1 h2 => chgs_any (up h).1 (up h).2.1 (up h).2.2.1 (up h).2.2.2 rfl rfl hna hnb (fun _ => hcola) hp2 h1 h2
  have out0 : ∀ {x : List Ln} {no : Int}, no ≠ 0 → noC x b row col = no → outC x b row col = [] := fun h1 h2 => by unfold outC; rw [if_neg (by rw [h2]; exact h1)]
  intro w5 hb5
  have hb05 := tr (tr hb03 hb4) hb5
  refine runs_pure (lscreen_any (cp := cb) (up hb05).1.lo (up hb05).2.2.1 (up hb05).2.2.2 hnb) fun w6 hb6 => ⟨_, rfl, kept_of hb6, fun hs => ?_, fun hs => ?_⟩
  · have hb06 := tr hb05 hb6
    have hbad : ∀ {x : List Ln} , (x.length = 0 ∨ screenB b = false ∨ x.length = b.length) → (screenB b = false ∨ b.length = 0) → noC x b row col = 2 := fun {x} hx h => by
      rcases h with h | h
      · exact (no_bad (check_bad (.inr h))).1
      · unfold noC
        split
        · rename_i h0
          have := (both_of h0).len
          rw [if_pos (by omega)]
        · split
          · rw [if_pos (.inr h)]
          · rfl
    have hs' : screenB b = false ∨ b.length = 0 := by
      cases h1 : screenB b with
      | false => exact .inl rfl
      | true => rw [h1] at hs; simp at hs; exact .inr (by rw [hs]; rfl)
    have n1 : noC (emp b) b row col = 2 := hbad (.inr (.inr (emp_len b))) hs'
    have n2 : noC a b row col = 2 := by
      rcases hs' with h | h
      · exact (no_bad (check_bad (.inr h))).1
      · unfold noC
        split
        · rename_i h0
          have := (both_of h0).len
          rw [if_pos (by omega)]
        · split
          · rw [if_pos (.inr h)]
          · rfl
    intro w7 hb7
    have hb07 := tr hb06 hb7
    refine runs_pure (paints hb07 2 [] n1 (out0 (by decide) n1)) fun w8 hb8 => ⟨_, rfl, kept_of hb8, fun _ => ?_, fun h => by cases h⟩
    intro w9 hb9
    have hb09 := tr (tr hb07 hb8) hb9
    refine runs_pure (changes hb09 2 [] n2 (out0 (by decide) n2)) fun w10 hb10 => ⟨_, rfl, kept_of hb10, fun _ => ?_, fun h => by cases h⟩
    intro w11 hb11
    exact runs_pure (hkn w11 (tr (tr hb09 hb10) hb11)) fun w12 hb12 => ⟨_, rfl, kept_of hb12, fun w13 _ _ => rfl⟩
  have hsb2 : screenB b = true := by cases h1 : screenB b with | true => rfl | false => rw [h1] at hs; simp at hs
  have hnb0 : 0 < b.length := by rw [hsb2] at hs; simpa using hs
  have hb06 := tr hb05 hb6
  have hE1 : checkE (emp b) b = 0 := emp_check hsb2 hnb0
  have hno1 : noC (emp b) b row col = if 0 ≤ row ∧ row < b.length ∧ 0 ≤ col ∧ col < (lAt b 0).cs.length then 0 else 3 := by
    unfold noC
    rw [if_pos hE1, emp_len, if_neg (by omega)]
  refine ⟨fun t _ => t = decide (0 ≤ row ∧ row < b.length ∧ 0 ≤ col ∧ col < (lAt b 0).cs.length), ⟨fun h1 => ⟨fun h2 => ⟨fun h3 => ?_, fun h3 w7 _ => ?_⟩, fun h2 w7 _ => ?_⟩, fun h1 w7 _ => ?_⟩, ?_⟩
  · obtain ⟨ad, hA2, _⟩ := (up hb06).2.2.1.at_ (k := 0) hnb0
    have hh := (up hb06).2.2.1
    rw [hA2] at hh
    have hat := (hdr_at hh hnb0 0 rfl).one 0 rfl
    refine ⟨ad, hA2, ⟨by omega, by omega⟩, _, _, _, hat, fun w7 _ => ⟨fun h4 => ?_, fun h4 => ?_⟩⟩
    · exact (decide_eq_true (by omega)).symm
    · exact (decide_eq_false (by omega)).symm
  · exact (decide_eq_false (by omega)).symm
  · exact (decide_eq_false (by omega)).symm
  · exact (decide_eq_false (by omega)).symm
  rintro t w7 hK7 rfl
  have hb07 := hK7.below
  refine ⟨fun _ => True, ⟨fun h => ?_, fun h => ?_⟩, ?_⟩
  · have hth := of_decide_eq_false h
    have n1 : noC (emp b) b row col = 3 := by rw [hno1, if_neg hth]
    intro w8 hb8
    exact runs_pure (paints (tr hb07 hb8) 3 [] n1 (out0 (by decide) n1)) fun w9 hb9 => ⟨_, rfl, kept_of hb9, fun h => absurd h (by decide), fun _ w10 _ => trivial⟩
  · have hth := of_decide_eq_true h
    have n1 : noC (emp b) b row col = 0 := by rw [hno1, if_pos hth]
    obtain ⟨r, hr⟩ : ∃ r : Nat, row = r := ⟨row.toNat, by omega⟩
    obtain ⟨c, hcc⟩ : ∃ c : Nat, col = c := ⟨col.toNat, by omega⟩
    have hc16 := hb16 0 hnb0
    intro w8 hb8
    have hb08 := tr hb07 hb8
    refine (empty_any (ca := cb) (up hb08).2.2.1 (up hb08).2.2.2 rfl hnb (fun i hi => by have := hb16 i hi; omega)).runs fun v w9 hK9 hv => ?_
    obtain ⟨p, n, d, ls, rfl, hsay, hll, hLR⟩ := hv
    rw [← emp_say] at hsay
    have hb09 := tr hb08 hK9.below
    have hln : ls.length = b.length := by rw [say_len hsay, emp_len]
    refine ⟨p, n, d, rfl, hK9.nix, ?_⟩
    intro w10 hb10
    have hb010 := tr hb09 hb10
    have hs9 := hb09.size
    have hs10 := hb10.size
    have hE2 : checkE ls b = 0 := by rw [say_check hsay]; exact hE1
    have hcl : colsOf ls ≤ 16 := by rw [say_cols hsay]; unfold colsOf; rw [emp_at b hnb0, List.length_replicate]; exact hc16
    refine runs_w (delta_any (B := w10.heap.size) (up hb010).1.lo ((hLR.below hb10).more hs10) ((up hb010).2.2.1.more (up hb010).2.2.2) (Nat.le_refl _) hll rfl (by omega) hnb (fun _ => hcl)) ?_
    rintro e w11 ⟨p2, n2, d2, ps, rfl, hps, hb11⟩
    obtain ⟨hP, hpl, hsy⟩ := hps hE2
    have hD := delta_facts hP hpl hsy hcl (by omega) (fun i hi => ⟨hb16 i (by omega), hpen hsb2 i (by omega)⟩)
    refine ⟨p2, n2, d2, _, rfl, kept_of hb11, fun h => absurd hE2 h, fun _ => ?_⟩
    have hb011 := tr hb010 hb11
    intro w12 hb12
    have hb012 := tr hb011 hb12
    refine runs_bytes hD hb12 (up hb012).1 fun w13 hb13 => ⟨_, rfl, kept_of hb13, ?_⟩
    intro w14 hb14
    have hb014 := tr (tr hb012 hb13) hb14
    have hgl := goL_len r c (by omega) (by omega)
    have hlen := hD.len
    rw [hr, hcc]
    refine runs_pure (at_any r c (by omega) (by omega) w14) fun w15 hb15 => ⟨_, rfl, kept_of hb15, by omega, ?_⟩
    intro w16 hb16'
    have hb016 := tr (tr hb014 hb15) hb16'
    have hout : outC (emp b) b row col = chgBytes (deltaL ls b) zPn ++ goL r c := by
      unfold outC
      rw [if_pos n1, say_delta hsay, hr, hcc]
      rfl
    have hpt := paints hb016 0 _ n1 hout
    rw [hr, hcc] at hpt
    exact runs_pure hpt fun w17 hb17 => ⟨_, rfl, kept_of hb17, fun h => absurd h (by decide), fun _ w18 _ => trivial⟩
  rintro w8 hK8 -
  have hb08 := hK8.below
  intro w9 hb9
  have hb09 := tr hb08 hb9
  have hno2 : checkE a b = 0 → noC a b row col = if 0 ≤ row ∧ row < b.length ∧ 0 ≤ col ∧ col < (lAt b 0).cs.length then 0 else 3 := fun h => by
    have := (both_of h).len
    unfold noC
    rw [if_pos h, if_neg (by omega)]
  have end2 : ∀ {x y : World}, Below w.heap.size w x → Below x.heap.size x y → ∀ {R : Ending → World → Prop}, (∀ w', Below y.heap.size y w' → R (.returned (.bool true)) w') → Runs Tryd.prog 5 #[] y R := by
    intro x y h1 h2 R hR
    exact runs_pure (hkn _ (tr h1 h2)) fun w' hb' => hR w' hb'
  refine runs_pure (lscreen_any (cp := ca) (up hb09).1.lo (up hb09).2.1 (up hb09).2.2.2 hna) fun w10 hb10 => ⟨_, rfl, kept_of hb10, fun hs2 => ?_, fun hs2 => ?_⟩
  · have n2 : noC a b row col = 2 := by
      cases h1 : screenB a with
      | false => exact (no_bad (check_bad (.inl h1))).1
      | true =>
        rw [h1] at hs2
        have h0 : a.length = 0 := by simpa using hs2
        simp [noC, h0]
    have hb010 := tr hb09 hb10
    intro w11 hb11
    have hb011 := tr hb010 hb11
    refine runs_pure (changes hb011 2 [] n2 (out0 (by decide) n2)) fun w12 hb12 => ⟨_, rfl, kept_of hb12, fun _ => ?_, fun h => by cases h⟩
    intro w13 hb13
    exact end2 (tr hb011 hb12) hb13 fun w14 hb14 => ⟨_, rfl, kept_of hb14, fun w15 _ _ => rfl⟩
  have hsa2 : screenB a = true := by cases h1 : screenB a with | true => rfl | false => rw [h1] at hs2; simp at hs2
  have hna0 : 0 < a.length := by rw [hsa2] at hs2; simpa using hs2
  have hb010 := tr hb09 hb10
  intro w11 hb11
  have hb011 := tr hb010 hb11
  refine runs_w (delta_any (up hb011).1.lo (up hb011).2.1 (up hb011).2.2.1 (up hb011).2.2.2 rfl rfl hna hnb (fun _ => hcola)) ?_
  rintro e w12 ⟨p2, n2, d2, ps, rfl, hps, hb12⟩
  have hb012 := tr hb011 hb12
  refine ⟨p2, n2, d2, _, rfl, kept_of hb12, fun hE => ?_, fun hE => ⟨fun ht => ?_, fun ht => ?_⟩⟩
  · have n3 : noC a b row col = 3 := by
      unfold noC
      rw [if_neg hE]
      rcases checkE_cases a b with h | h | h
      · exact absurd h hE
      · unfold checkE at h
        rw [hsa2, hsb2] at h
        simp only [Bool.and_true, if_true] at h
        split at h <;> cases h
      · rw [if_pos h, if_neg (by omega)]
    intro w13 hb13
    have hb013 := tr hb012 hb13
    refine runs_pure (changes hb013 3 [] n3 (out0 (by decide) n3)) fun w14 hb14 => ⟨_, rfl, kept_of hb14, fun _ => ?_, fun h => by cases h⟩
    intro w15 hb15
    exact end2 (tr hb013 hb14) hb15 fun w16 hb16' => ⟨_, rfl, kept_of hb16', fun w17 _ _ => rfl⟩
  · have n3 : noC a b row col = 3 := by rw [hno2 hE, if_neg (of_decide_eq_false ht)]
    intro w13 hb13
    have hb013 := tr hb012 hb13
    refine runs_pure (changes hb013 3 [] n3 (out0 (by decide) n3)) fun w14 hb14 => ⟨_, rfl, kept_of hb14, fun _ => ?_, fun h => by cases h⟩
    intro w15 hb15
    exact end2 (tr hb013 hb14) hb15 fun w16 hb16' => ⟨_, rfl, kept_of hb16', fun w17 _ _ => rfl⟩
  · have hth := of_decide_eq_true ht
    have n0 : noC a b row col = 0 := by rw [hno2 hE, if_pos hth]
    obtain ⟨r, hr⟩ : ∃ r : Nat, row = r := ⟨row.toNat, by omega⟩
    obtain ⟨c, hcc⟩ : ∃ c : Nat, col = c := ⟨col.toNat, by omega⟩
    have hc16 := hb16 0 hnb0
    obtain ⟨hP, hpl, hsy⟩ := hps hE
    have hlen2 := (both_of hE).len
    have hD := delta_facts hP hpl hsy hcola hna (fun i hi => ⟨hb16 i (by omega), hpen hsb2 i (by omega)⟩)
    intro w13 hb13
    have hb013 := tr hb012 hb13
    refine runs_bytes hD hb13 (up hb013).1 fun w14 hb14 => ⟨_, rfl, kept_of hb14, ?_⟩
    intro w15 hb15
    have hb015 := tr (tr hb013 hb14) hb15
    have hgl := goL_len r c (by omega) (by omega)
    have hlen := hD.len
    rw [hr, hcc]
    refine runs_pure (at_any r c (by omega) (by omega) w15) fun w16 hb16' => ⟨_, rfl, kept_of hb16', by omega, ?_⟩
    intro w17 hb17
    have hb017 := tr (tr hb015 hb16') hb17
    have hout : outC a b row col = chgBytes (deltaL a b) zPn ++ goL r c := by
      unfold outC
      rw [if_pos n0, hr, hcc]
      rfl
    have hpt := changes hb017 0 _ n0 hout
    rw [hr, hcc] at hpt
    refine runs_pure hpt fun w18 hb18 => ⟨_, rfl, kept_of hb18, fun _ => ?_, fun h => by cases h⟩
    intro w19 hb19
    exact end2 (tr hb017 hb18) hb19 fun w20 hb20 => ⟨_, rfl, kept_of hb20, fun w21 _ _ => rfl⟩
end Go.Proofs.YthophmihgmjnfaaDoor
