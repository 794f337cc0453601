/- A part of the proof of RepaintBytes. -/
import Derived.Test.YthophmihgmjnfaaDoorUH
import Derived.Test.YthophmihgmjnfaaDoorUC
import Derived.Test.YthophmihgmjnfaaDoorVL
set_option linter.unusedVariables false
set_option linter.unusedSimpArgs false
-- --
namespace Go.Proofs.YthophmihgmjnfaaDoor
open Go Go.RowKit Go.Rep Go.Sy
set_option maxRecDepth 100000
set_option linter.unusedSimpArgs false
/-- What painting a group of cells adds, at most. -/
theorem groups_len {row col : Nat} {cs : List Cl} (hcs : ∀ i, i < cs.length → okPn (cAt cs i).p) (h16 : cs.length ≤ 16) (hrow : row ≤ 100) (hcol : col ≤ 100) (i : Nat) {p : Pn} (hp : okPn p) : (groupsL row col cs i p).length ≤ 11000 * (cs.length - i) := by
  generalize hq : cs.length - i = q
  induction q using Nat.strongRecOn generalizing i p with
  | _ q ih =>
    rcases Nat.lt_or_ge i cs.length with hi | hi
    · rw [groups_step row col cs i p hi]
      have hg := gEnd_ge cs i (i + 1) (by omega)
      generalize gEnd cs i (i + 1) = g at *
      have h1 := ih (cs.length - g) (by omega) g (hcs i hi) rfl
      have h2 := sgr_between_len hp (hcs i hi)
      have h3 : (groupL row col cs i g).length ≤ 500 := by
        unfold groupL
        split
        · have := cellsL_len ((cs.drop i).take (g - i))
          rw [List.length_take, List.length_drop] at this
          omega
        · have h4 := dec_len (g - i) (by omega)
          have h5 := goL_len row (col + g) (by omega) (by omega)
          split
          · simp only [List.length_append, List.length_cons, List.length_nil]; omega
          · simp only [List.length_append, List.length_cons, List.length_nil]; omega
      simp only [List.length_append]
      omega
    · rw [groups_end row col cs i p hi]
      simp
/-- What a patch of a screen of at most 6 rows and 16 columns is like. -/
structure GoodP (x : Pp) : Prop where
  row : x.row ≤ 100
  col : x.col ≤ 100
  len : x.cs.length ≤ 16
  pen : ∀ i, i < x.cs.length → okPn (cAt x.cs i).p
theorem cAt_mem {l : List Cl} {i : Nat} (h : i < l.length) : cAt l i ∈ l := by
  unfold cAt
  rw [List.getD_eq_getElem?_getD, List.getElem?_eq_getElem h]
  exact List.getElem_mem h
theorem GoodP.of {x : Pp} {l : List Cl} (hr : x.row ≤ 100) (hc : x.col ≤ 100) (hl : x.cs.length ≤ 16) (hs : ∀ c ∈ x.cs, c ∈ l) (hp : ∀ c ∈ l, okPn c.p) : GoodP x := ⟨hr, hc, hl, fun _ hi => hp _ (hs _ (cAt_mem hi))⟩
theorem runs_lt {m : List Bool} {n k : Nat} {r : Nat × Nat} (h : r ∈ runs m n k) : r.1 ≤ n := by
  generalize hq : n - k = q
  induction q using Nat.strongRecOn generalizing k with
  | _ q ih =>
    unfold runs at h
    split at h
    · rename_i hk
      have h1 := runEnd_ge m n k (by omega)
      rw [List.mem_append] at h
      rcases h with h | h
      · split at h
        · simp only [List.mem_singleton] at h
          rw [h]
          show k ≤ n
          omega
        · cases h
      · exact ih (n - (runEnd m n k + 1)) (by omega) h rfl
    · cases h
theorem rowP_good {a b : List Ln} {n i : Nat} (hi : i ≤ 6) (hn : n ≤ 16) (hl : (lAt b i).cs.length ≤ 16) (hp : ∀ c ∈ (lAt b i).cs, okPn c.p) {x : Pp} (hx : x ∈ rowP a b n i) : GoodP x := by
  unfold rowP at hx
  split at hx
  · simp only [List.mem_singleton] at hx
    subst hx
    exact .of (l := []) (by show i ≤ 100; omega) (by show 0 ≤ 100; omega) (by show 0 ≤ 16; omega) (fun c h => by cases h) (fun c h => by cases h)
  · unfold rowRuns at hx
    rw [List.mem_map] at hx
    obtain ⟨r, hr, rfl⟩ := hx
    have h1 := runs_lt hr
    refine .of (l := (lAt b i).cs) (by show i ≤ 100; omega) (by show r.1 ≤ 100; omega) (by show ((((lAt b i).cs.drop r.1).take (r.2 - r.1))).length ≤ 16; rw [List.length_take, List.length_drop]; omega) (fun c h => List.mem_of_mem_drop (List.mem_of_mem_take h)) hp
theorem delta_good {a b : List Ln} {n : Nat} (hn : n ≤ 16) : ∀ {m : Nat}, m ≤ 6 → (∀ i, i < m → (lAt b i).cs.length ≤ 16 ∧ ∀ c ∈ (lAt b i).cs, okPn c.p) → ∀ x ∈ deltaUp a b n m, GoodP x
  | 0, _, _, x, hx => by cases hx
  | m + 1, hm, h, x, hx => by
    unfold deltaUp at hx
    rw [List.mem_append] at hx
    rcases hx with hx | hx
    · exact delta_good hn (by omega) (fun i hi => h i (by omega)) x hx
    · exact rowP_good (by omega) hn (h m (by omega)).1 (h m (by omega)).2 hx
/-- The bytes of a delta, with the pen so far. -/
def chgBytes : List Pp → Pn → List UInt8
  | [], p => sgrL (betweenL p zPn)
  | x :: ps, p => if x.cs.length = 0 then chgBytes ps p else patchL x p ++ chgBytes ps (cAt x.cs (x.cs.length - 1)).p
theorem patchL_len {x : Pp} (h : GoodP x) {p : Pn} (hp : okPn p) : (patchL x p).length ≤ 180000 := by
  unfold patchL
  have h1 := goL_len x.row x.col (by have := h.row; omega) (by have := h.col; omega)
  have h2 := groups_len h.pen h.len h.row h.col 0 hp
  have := h.len
  simp only [List.length_append]
  omega
theorem okPn_zero : okPn zPn := ⟨⟨by decide, by decide, by decide, by decide, by decide, by decide, by decide, by decide⟩, ⟨by decide, by decide, by decide, by decide, by decide, by decide, by decide, by decide⟩, by decide⟩
end Go.Proofs.YthophmihgmjnfaaDoor

namespace Go.Proofs.YthophmihgmjnfaaDoor
open Go Go.RowKit Go.Rep Go.Sy
set_option maxRecDepth 100000
set_option linter.unusedSimpArgs false
set_option maxHeartbeats 2000000 in
/-- String of a painter that has written something: the painter itself is as it was. -/
theorem pstring2 {b : Nat} {l : List UInt8} {p : Pn} {w : World} (h : Pnt w b l p) (h0 : l ≠ []) : Calls Tryd.prog 29 #[.pointer (some ⟨b, 0, none⟩)] w fun e w' => e = .returned (.string (S l)) ∧ Below (b + 1) w w' := by
  obtain ⟨q, v, hq, hB, hown⟩ := h
  have hl0 : l.length ≠ 0 := by simpa using h0
  obtain ⟨g, cap, cur, rfl, hbg, hg, hnc, hcm, hcs, htake⟩ : ∃ g cap cur, v = .slice (some ⟨g, 0, none⟩) l.length cap ∧ b + 1 ≤ g ∧ w.heap[g]? = some (.cells cur 5 (0, 0)) ∧ l.length ≤ cap ∧ cap ≤ maxLen ∧ cur.size = cap * 1 ∧ cur.toList.take (l.length * 1) = Lib.byteCells l := by
    rcases hown.2 with ⟨_, hz⟩ | ⟨g, cap, cur, hv, r⟩
    · exact absurd hz hl0
    · exact ⟨g, cap, cur, hv, r⟩
  have c1 : w.drew.cell? ⟨b, 1, none⟩ = some (.slice (some ⟨g, 0, none⟩) l.length cap) := hB.drew.cell 1
  have hSD : (Builtin.unsafeSliceData_ #[48] 85 #[.slice (some ⟨g, 0, none⟩) l.length cap]).run Tryd.prog w.drew = .ok (.pointer (some ⟨g, 0, none⟩)) w.drew :=
    Lib.run_unsafeSliceData_row _ _ _ _ _ _ (by omega)
  have hUS : (Builtin.unsafeString_ #[85, 3] 9 #[.pointer (some ⟨g, 0, none⟩), .int .i64 l.length]).run Tryd.prog w.drew = .ok (.string ⟨l.toArray⟩) (w.drew.freeze ⟨g, 0, none⟩ l.length) := by
    refine Lib.run_unsafeString_row w.drew 85 3 9 5 Tryd.underlying85 (by kernel_rfl) g cur.size (by have hg' : w.drew.heap[g]? = some (.cells cur 5 (0, 0)) := hg; simp [World.shape?, hg']) l h0 (by omega) (by unfold maxLen at hcm; omega) ?_
    intro j x hx
    have := hown.cells (g := g) rfl j (.int .u8 x.toNat) (by simp [Lib.byteCells, hx])
    exact this
  clear hg htake hown hB hcs
  go_enter Tryd.func29, Tryd.ntmps29
  go_wp2
  go_region
  all_goals (go_wp2; go_ret; exact ⟨rfl, Lib.below_freeze (Below.drew (Below.refl (b + 1) w)) (p := ⟨g, 0, none⟩) (by show b + 1 ≤ g; omega) _⟩)

/-- What the cells of a painter say. -/
structure PW (b : Nat) (q sp : Option Addr) (sn sc : Nat) (k1 k2 k3 k4 k5 k6 k7 k8 k9 k10 k11 : Int) (acc : List UInt8) (p : Pn) (w : World) : Prop where
  q : q = none ∨ q = some ⟨b, 0, none⟩
  p : p = ⟨⟨k1, k2, k3, k4, k5⟩, ⟨k6, k7, k8, k9, k10⟩, k11⟩
  row : w.ownsRow (b + 1) 5 1 (.slice sp sn sc) acc.length (Lib.byteCells acc)
theorem PW.below {b : Nat} {q sp : Option Addr} {sn sc : Nat} {k1 k2 k3 k4 k5 k6 k7 k8 k9 k10 k11 : Int} {acc : List UInt8} {p : Pn} {w w' : World} (h : PW b q sp sn sc k1 k2 k3 k4 k5 k6 k7 k8 k9 k10 k11 acc p w) (hb : Below w.heap.size w w') : PW b q sp sn sc k1 k2 k3 k4 k5 k6 k7 k8 k9 k10 k11 acc p w' := ⟨h.q, h.p, row_below h.row hb⟩
theorem PW.pnt {b : Nat} {q sp : Option Addr} {sn sc : Nat} {k1 k2 k3 k4 k5 k6 k7 k8 k9 k10 k11 : Int} {acc : List UInt8} {p : Pn} {w : World} (h : PW b q sp sn sc k1 k2 k3 k4 k5 k6 k7 k8 k9 k10 k11 acc p w)
    (hw : Whole w b 69 [.pointer q, .slice sp sn sc, .int .i64 k1, .int .u8 k2, .int .u8 k3, .int .u8 k4, .int .u8 k5, .int .i64 k6, .int .u8 k7, .int .u8 k8, .int .u8 k9, .int .u8 k10, .int .u8 k11]) : Pnt w b acc p := by
  obtain ⟨h1, rfl, h3⟩ := h
  exact ⟨.pointer q, _, h1.elim (fun e => .inl (by rw [e])) (fun e => .inr (by rw [e])), hw, h3⟩
theorem Pnt.pw {b : Nat} {acc : List UInt8} {p : Pn} {w : World} (h : Pnt w b acc p) : ∃ q sp sn sc, Whole w b 69 [.pointer q, .slice sp sn sc, .int .i64 p.f.k, .int .u8 p.f.i, .int .u8 p.f.r, .int .u8 p.f.g, .int .u8 p.f.b, .int .i64 p.b.k, .int .u8 p.b.i, .int .u8 p.b.r, .int .u8 p.b.g, .int .u8 p.b.b, .int .u8 p.fl] ∧
    PW b q sp sn sc p.f.k p.f.i p.f.r p.f.g p.f.b p.b.k p.b.i p.b.r p.b.g p.b.b p.fl acc p w := by
  obtain ⟨q, v, hq, hB, ho⟩ := h
  have hv : ∃ sp sn sc, v = .slice sp sn sc := by
    rcases ho.2 with ⟨rfl, _⟩ | ⟨g, cap, cur, hv, _⟩
    · exact ⟨_, _, _, rfl⟩
    · exact ⟨_, _, _, hv⟩
  obtain ⟨sp, sn, sc, rfl⟩ := hv
  rcases hq with rfl | rfl
  · exact ⟨none, sp, sn, sc, hB, .inl rfl, rfl, ho⟩
  · exact ⟨some ⟨b, 0, none⟩, sp, sn, sc, hB, .inr rfl, rfl, ho⟩

theorem patch_at {w : World} {B n : Nat} {ad : Addr} {ps : List Pt} (h : Reads w B 4 (some ad) n (pvals ps)) {k : Nat} (hk : k < ps.length) (i : Int) (hi : i = k) :
    At w ad (Int.toNat i * 4) [.int .i64 (ps[k]).row, .int .i64 (ps[k]).col, .slice (ps[k]).ad (ps[k]).cs.length (ps[k]).cap, .bool (ps[k]).soft] := by
  subst hi
  have hn : ps.length = n := by have := h.1; rw [pvals_length] at this; omega
  obtain ⟨ad', e, _, hc⟩ := h.2 (by omega)
  injection e with e
  subst e
  intro i v hv
  rw [Int.toNat_natCast]
  exact hc _ v (pvals_at hk hv)

/-- The error of Change. -/
def noC (a b : List Ln) (row col : Int) : Int :=
  if checkE a b = 0 then (if a.length = 0 then 2 else if 0 ≤ row ∧ row < b.length ∧ 0 ≤ col ∧ col < (lAt b 0).cs.length then 0 else 3)
  else if checkE a b = 3 then (if a.length = 0 ∨ b.length = 0 then 2 else 3) else 2
theorem checkE_cases (a b : List Ln) : checkE a b = 0 ∨ checkE a b = 2 ∨ checkE a b = 3 := by
  unfold checkE
  split
  · split
    · exact .inr (.inr rfl)
    · exact .inl rfl
  · exact .inr (.inl rfl)
/-- What Change returns. -/
def outC (a b : List Ln) (row col : Int) : List UInt8 := if noC a b row col = 0 then chgBytes (deltaL a b) zPn ++ goL row.toNat col.toNat else []
/-- Bytes that a function returns. -/
def Bts (w : World) (v : Value) (l : List UInt8) : Prop := ∃ A n c, v = .slice A n c ∧ BytesAt w A n l ∧ (A = none → n = 0)
theorem Bts.nil (w : World) : Bts w (.slice none 0 0) [] := ⟨none, 0, 0, rfl, ⟨rfl, fun _ e => by cases e⟩, fun _ => rfl⟩
end Go.Proofs.YthophmihgmjnfaaDoor

namespace Go.Proofs.YthophmihgmjnfaaDoor
open Go Go.RowKit Go.Rep Go.Sy
set_option maxRecDepth 100000
set_option linter.unusedSimpArgs false
/-- The painter in the loop of Change. -/
def InvC (b : Nat) (L : List Pp) (w3 : World) (j : Nat) (q sp : Option Addr) (sn sc : Nat) (k1 k2 k3 k4 k5 k6 k7 k8 k9 k10 k11 : Int) (w : World) : Prop :=
  ∃ (acc : List UInt8) (p : Pn), PW b q sp sn sc k1 k2 k3 k4 k5 k6 k7 k8 k9 k10 k11 acc p w ∧ okPn p ∧ acc ++ chgBytes (L.drop j) p = chgBytes L zPn ∧ acc.length ≤ 180000 * j ∧ Below w3.heap.size w3 w
theorem InvC.below {b : Nat} {L : List Pp} {w3 : World} {j : Nat} {q sp : Option Addr} {sn sc : Nat} {k1 k2 k3 k4 k5 k6 k7 k8 k9 k10 k11 : Int} {w w' : World} (h : InvC b L w3 j q sp sn sc k1 k2 k3 k4 k5 k6 k7 k8 k9 k10 k11 w) (hb : Below w.heap.size w w') : InvC b L w3 j q sp sn sc k1 k2 k3 k4 k5 k6 k7 k8 k9 k10 k11 w' := by
  obtain ⟨acc, p, h1, h2, h3, h4, h5⟩ := h
  exact ⟨acc, p, h1.below hb, h2, h3, h4, h5.trans (hb.mono h5.size)⟩
theorem chg_step (x : Pp) (ps : List Pp) (p : Pn) : chgBytes (x :: ps) p = if x.cs.length = 0 then chgBytes ps p else patchL x p ++ chgBytes ps (cAt x.cs (x.cs.length - 1)).p := rfl
/-- What a painter's function leaves below the painter. -/
theorem kept_lo {b lo : Nat} {w w' : World} (hb : Below b w w') (hl : lo ≤ b) : Kept lo Nix [] w w' := ⟨hb.os, hb.tape, hb.output, hb.size, fun i h _ _ => hb.block i (by omega), fun i h => by cases h⟩
theorem goL_ne (r c : Nat) : goL r c ≠ [] := by unfold goL; simp
theorem bts_of {w w' : World} {e : TypeId} {l : List UInt8} {b c : Nat} (h : FromStr w [] e l w' b c) {w2 : World} (hb : Below w'.heap.size w' w2) : Bts w2 (.slice (some ⟨b, 0, none⟩) l.length c) l :=
  ⟨_, _, _, rfl, ⟨rfl, fun a ha => by cases ha; exact h.row.below hb⟩, fun e => by cases e⟩
set_option maxHeartbeats 1000000 in
theorem chg_any {a b : List Ln} {B ca cb na nb : Nat} {A A2 : Option Addr} {row col : Int} {w : World} (hL : Laid2 w) (ha : LinesR w B A a) (hb : LinesR w B A2 b) (hB : B ≤ w.heap.size) (hla : a.length = na) (hlb : b.length = nb) (hna : na ≤ 6) (hnb : nb ≤ 6) (hc16 : checkE a b = 0 → colsOf a ≤ 16)
    (hp : checkE a b = 0 → ∀ i, i < nb → (lAt b i).cs.length ≤ 16 ∧ ∀ c ∈ (lAt b i).cs, okPn c.p) :
    Gets Tryd.prog 16 #[.slice A na ca, .slice A2 nb cb, .int .i64 row, .int .i64 col] w Nix fun v w' => ∃ u, v = .tuple #[u, .int .i64 (noC a b row col)] ∧ Bts w' u (outC a b row col) := by
  refine vc15 A A2 na ca nb cb row col ?_
  intro w1 hb1
  have hb1B := hb1.mono hB
  have hs1 := hb1.size
  refine runs_w (delta_any (hL.low hb1).lo (ha.below hb1B) (hb.below hb1B) (by omega) hla hlb hna hnb hc16) ?_
  rintro e w2 ⟨p1, n1, n2, ps, rfl, hps, hb2⟩
  have hs2 := hb2.size
  refine ⟨p1, n1, n2, _, rfl, kept_of hb2, ?_⟩
  have hE3 := checkE_cases a b
  generalize hE : checkE a b = E at *
  have hno : noC a b row col = if E = 0 then (if na = 0 then 2 else if 0 ≤ row ∧ row < nb ∧ 0 ≤ col ∧ col < (lAt b 0).cs.length then 0 else 3) else if E = 3 then (if na = 0 ∨ nb = 0 then 2 else 3) else 2 := by unfold noC; rw [hE, hla, hlb]
  have hout : noC a b row col ≠ 0 → outC a b row col = [] := fun h => by unfold outC; rw [if_neg h]
  refine ⟨fun w' => (E = 0 ∧ na ≠ 0 ∧ 0 ≤ row ∧ row < nb ∧ 0 ≤ col ∧ col < (lAt b 0).cs.length) ∧ Below w2.heap.size w2 w', ⟨fun t w' => (t = true ↔ (E = 2 ∨ (E = 0 ∧ na = 0) ∨ (E = 3 ∧ (na = 0 ∨ nb = 0)))) ∧ Below w2.heap.size w2 w', ?_, ?_⟩, ?_⟩
  · repeat' (first | (refine And.intro ?_ ?_) | intro _)
    all_goals first
      | assumption
      | (exfalso; omega)
      | (simp only [eq_self, true_iff, reduceCtorEq, false_iff, Bool.false_eq_true]; omega)
  · rintro t w3 hK3 ⟨ht, hb3⟩
    refine ⟨fun h => ?_, fun h => ?_⟩
    · intro w4 hb4 hK4
      have h2 : noC a b row col = 2 := by
        rw [hno]
        rcases ht.1 h with h | ⟨h, h'⟩ | ⟨h, h'⟩
        · rw [if_neg (by omega), if_neg (by omega)]
        · rw [if_pos h, if_pos h']
        · rw [if_neg (by omega), if_pos h, if_pos h']
      exact ⟨_, by rw [h2], by rw [hout (by omega)]; exact Bts.nil _⟩
    · have ht' : ¬ (E = 2 ∨ (E = 0 ∧ na = 0) ∨ (E = 3 ∧ (na = 0 ∨ nb = 0))) := fun h' => by rw [ht.2 h'] at h; cases h
      refine ⟨fun t w' => (t = true ↔ ¬ (E = 0 ∧ 0 ≤ row ∧ row < nb ∧ 0 ≤ col ∧ col < (lAt b 0).cs.length)) ∧ Below w2.heap.size w2 w', ⟨fun h0 w4 hb4 => ⟨fun _ => ⟨by simp; omega, hb3.trans (hb4.mono hb3.size)⟩, fun h => absurd h h0⟩, fun h0 => ⟨fun hr w4 hb4 => ⟨by simp; omega, hb3.trans (hb4.mono hb3.size)⟩, fun hr => ⟨fun hr2 w4 hb4 => ⟨by simp; omega, hb3.trans (hb4.mono hb3.size)⟩, fun hr2 => ⟨fun hc w4 hb4 => ⟨by simp; omega, hb3.trans (hb4.mono hb3.size)⟩, fun hc => ?_⟩⟩⟩⟩, ?_⟩
      · have hb3' : LinesR w3 B A2 b := ((hb.below hb1B).below (hb2.mono (by omega))).below (hb3.mono (by omega))
        obtain ⟨ad, rfl, _, _⟩ := hb3'.at_ (k := 0) (by omega)
        have hA : At w3 ad 0 [.slice (lAt b 0).ad (lAt b 0).cs.length (lAt b 0).cap] := by
          intro i v hv
          have hh := hb3'.hdr (k := 0) (by omega) rfl
          have e : (lAt b 0) = b[0] := by unfold lAt; rw [List.getD_eq_getElem?_getD, List.getElem?_eq_getElem (by omega)]; rfl
          cases i with
          | zero =>
            have := hh 0 _ rfl
            rw [add_of_add] at this
            rw [e] at hv
            have hv' : v = .slice (b[0]).ad (b[0]).cs.length (b[0]).cap := by simpa using hv.symm
            rw [hv']
            exact this
          | succ i => simp at hv
        refine ⟨ad, rfl, ⟨by omega, by omega⟩, _, _, _, hA, fun w4 hb4 => ⟨fun hc2 => ⟨by simp; omega, hb3.trans (hb4.mono hb3.size)⟩, fun hc2 => ⟨by simp; omega, hb3.trans (hb4.mono hb3.size)⟩⟩⟩
      · rintro t2 w4 hK4 ⟨ht2, hb4⟩
        refine ⟨fun h2 => ?_, fun h2 => ?_⟩
        · intro w5 hb5 hK5
          have h3 : noC a b row col = 3 := by
            rw [hno]
            have := ht2.1 h2
            rcases hE3 with h0 | h0 | h0
            · rw [if_pos h0, if_neg (by omega), if_neg (fun h9 => this ⟨h0, h9⟩)]
            · exact absurd (.inl h0) ht'
            · rw [if_neg (by omega), if_pos h0, if_neg (by omega)]
          exact ⟨_, by rw [h3], by rw [hout (by omega)]; exact Bts.nil _⟩
        · intro w5 hb5
          have h9 : E = 0 ∧ 0 ≤ row ∧ row < nb ∧ 0 ≤ col ∧ col < (lAt b 0).cs.length := Classical.byContradiction fun h9 => by rw [ht2.2 h9] at h2; cases h2
          exact ⟨⟨h9.1, by omega, h9.2⟩, hb4.trans (hb5.mono hb4.size)⟩
  · rintro w3 hK3 ⟨⟨hE0, hna0, hr0, hr1, hc0, hc1⟩, hb3⟩
    intro b0 hb0
    have hs3 := hb3.size
    have hzero : noC a b row col = 0 := by rw [hno, if_pos hE0, if_neg hna0, if_pos ⟨hr0, hr1, hc0, hc1⟩]
    obtain ⟨hP, hpl, hsay⟩ := hps hE0
    have hpen := hp hE0
    have hcol := hc16 hE0
    have hlen := (both_of (a := a) (b := b) (by rw [hE, hE0])).len
    have hgs : Tryd.prog.globals.size ≤ w.heap.size := hL.lo.size
    have hPr : Reads w2 w2.heap.size 4 p1 n1 (pvals ps) := by have h := hP.hd; rw [hpl] at h; exact Reads.of_own h
    have hrows : ∀ x ∈ ps, Reads w2 w2.heap.size 16 x.ad x.cs.length (cvals x.cs) := fun x hx => Reads.of_own (hP.row x hx)
    have hL2 : Laid2 w2 := (hL.low hb1).low hb2
    have hgood : ∀ x ∈ deltaL a b, GoodP x := delta_good hcol (by omega) (fun i hi => hpen i (by omega))
    have hlenD : ps.length ≤ 102 := by
      have h1 := deltaUp_len (a := a) (b := b) (n := colsOf a) a.length
      have h2 : ps.length = (deltaL a b).length := by rw [← hsay, List.length_map]
      have h3 : (colsOf a + 1) * a.length ≤ 17 * 6 := Nat.mul_le_mul (by omega) (by omega)
      unfold deltaL at h2
      omega
    have hdrop : ∀ j (hj : j < ps.length), (deltaL a b).drop j = (ps[j]).say :: (deltaL a b).drop (j + 1) := fun j hj => by
      have hj2 : j < (deltaL a b).length := by rw [← hsay, List.length_map]; exact hj
      rw [List.drop_eq_getElem_cons hj2]
      congr 1
      have : (deltaL a b)[j]? = some ((ps[j]).say) := by rw [← hsay, List.getElem?_map, List.getElem?_eq_getElem hj]; rfl
      rw [List.getElem?_eq_getElem hj2] at this
      exact Option.some.inj this
    refine ⟨fun i q sp sn sc k1 k2 k3 k4 k5 k6 k7 k8 k9 k10 k11 w' => ∃ j : Nat, i = j ∧ j ≤ n1 ∧ InvC b0 (deltaL a b) w3 j q sp sn sc k1 k2 k3 k4 k5 k6 k7 k8 k9 k10 k11 w', fun i _ _ _ _ _ _ _ _ _ _ _ _ _ _ _ => n1 - i.toNat, fun w4 hb4 => ⟨0, rfl, Nat.zero_le _, [], zPn, ⟨.inl rfl, rfl, ⟨by simp [Lib.byteCells], .inl ⟨rfl, rfl⟩⟩⟩, okPn_zero, by rw [List.drop_zero, List.nil_append], by simp, hb4⟩, ?_⟩
    rintro i q sp sn sc k1 k2 k3 k4 k5 k6 k7 k8 k9 k10 k11 w4 hK4 ⟨j, rfl, hjn, acc, p, hpw, hpp, hacc, hal, hb4⟩
    have hs4 := hb4.size
    have up : ∀ {w' : World}, Below w3.heap.size w3 w' → Laid2 w' ∧ Reads w' w2.heap.size 4 p1 n1 (pvals ps) ∧ ∀ x ∈ ps, Reads w' w2.heap.size 16 x.ad x.cs.length (cvals x.cs) := fun h =>
      ⟨(hL2.low hb3).low h, (hPr.below hb3).below (h.mono hs3), fun x hx => ((hrows x hx).below hb3).below (h.mono hs3)⟩
    refine ⟨fun hlt => ?_, fun hge => ?_⟩
    · have hj : j < ps.length := by omega
      have hx := hdrop j hj
      have hg : GoodP (ps[j]).say := hgood _ (by rw [← hsay]; exact List.mem_map_of_mem (List.getElem_mem hj))
      obtain ⟨_, hr4, _⟩ := up hb4
      obtain ⟨ad, rfl, _⟩ := hr4.2 (by omega)
      refine ⟨fun q sp sn sc k1 k2 k3 k4 k5 k6 k7 k8 k9 k10 k11 w' => InvC b0 (deltaL a b) w3 (j + 1) q sp sn sc k1 k2 k3 k4 k5 k6 k7 k8 k9 k10 k11 w', ⟨ad, rfl, ⟨by omega, by omega⟩, _, _, _, _, _, _, patch_at hr4 hj _ rfl, ?_⟩, ?_⟩
      · intro x0 hx0
        refine ⟨fun hpos => ?_, fun hnil => ?_⟩
        · intro w5 hb5 ⟨hl1, hW1⟩ ⟨hl2, hW2⟩
          have hs5 := hb5.size
          have hb35 : Below w3.heap.size w3 w5 := hb4.trans (hb5.mono hs4)
          obtain ⟨hL5, _, hrow5⟩ := up hb35
          have hP5 := (hpw.below hb5).pnt hW1
          have hne : x0 ≠ b0 := by
            rintro rfl
            unfold Whole at hW1 hW2
            rw [hW1] at hW2
            injection hW2 with hW2
            injection hW2 with _ h2
            exact absurd h2 (by decide)
          have hr5 := hrow5 (ps[j]) (List.getElem_mem hj)
          obtain ⟨ad2, hd2, _⟩ := hr5.2 (by omega)
          have hcap : (ps[j]).cs.length ≤ (ps[j]).cap := by
            rcases (hP.row _ (List.getElem_mem hj)).2 with ⟨he, h0⟩ | ⟨g, cap, cur, he, _, _, hc, _⟩
            · omega
            · injection he with _ _ he; omega
          rw [hd2] at hr5 ⊢
          have hlt0 : b0 < w5.heap.size := hP5.lt
          refine runs_w (patch_g (soft := (ps[j]).soft) hP5 hpp hg.pen hr5 rfl hcap (by omega) hg.len hg.row hg.col hL5 (by omega) (by omega)) ?_
          rintro e w6 ⟨v, rfl, hK6, rfl, pp, hok, hlast, hP6, hfr⟩
          have hb6 : Below b0 w5 w6 := ⟨hK6.os, hK6.tape, hK6.output, hK6.size, fun i hi => hK6.heap i (by omega) (by omega)⟩
          obtain ⟨q', sp', sn', sc', hW6, hpw6⟩ := hP6.pw
          refine ⟨rfl, ?_, q', sp', sn', sc', _, _, _, _, _, _, _, _, _, _, _, hW6, fun w7 hb7 => InvC.below ⟨_, pp, hpw6, hok, ?_, ?_, hb35.trans (hb6.mono (by omega))⟩ hb7⟩
          · refine ⟨hb6.os, hb6.tape, hb6.output, hb6.size, fun i h _ _ => hb6.block i (by omega), fun i hi _ _ => ?_⟩
            simp only [List.mem_singleton] at hi
            subst hi
            have := hfr i 57 _ hne (by decide) hW2
            exact this.trans hW2.symm
          · have hx' := hx
            rw [← hacc, hx, chg_step, if_neg (by show ¬ (ps[j]).cs.length = 0; omega)]
            have hpp' : pp = (cAt (ps[j]).cs ((ps[j]).cs.length - 1)).p := by
              rcases hlast with ⟨h, _⟩ | ⟨_, h⟩
              · omega
              · exact h
            rw [hpp', List.append_assoc]
            rfl
          · have := patchL_len hg hpp
            unfold patchL at this
            rw [List.length_append]
            exact Nat.le_trans (Nat.add_le_add hal this) (by omega)
        · intro w5 hb5
          refine InvC.below ⟨acc, p, hpw, hpp, ?_, by omega, hb4⟩ hb5
          rw [← hacc, hx, chg_step, if_pos (by show (ps[j]).cs.length = 0; omega)]
      · rintro q sp sn sc k1 k2 k3 k4 k5 k6 k7 k8 k9 k10 k11 w5 hK5 hI
        refine ⟨by unfold I64; omega, fun w6 hb6 => ⟨⟨j + 1, by omega, by omega, hI.below hb6⟩, by dsimp only; omega⟩⟩
    · have hjn2 : j = n1 := by omega
      have hdn : (deltaL a b).drop j = [] := by
        apply List.drop_eq_nil_of_le
        have h2 : ps.length = (deltaL a b).length := by rw [← hsay, List.length_map]
        omega
      rw [hdn] at hacc
      intro w5 hb5 ⟨hl1, hW1⟩
      have hs5 := hb5.size
      have hb35 : Below w3.heap.size w3 w5 := hb4.trans (hb5.mono hs4)
      have hP5 := (hpw.below hb5).pnt hW1
      have hlt0 : b0 < w5.heap.size := hP5.lt
      have hsl := sgr_between_len hpp okPn_zero
      refine runs_take (t := zPn) hP5 hpp okPn_zero (up hb35).1 (by omega) fun w6 P6 hb6 _ => ?_
      obtain ⟨q6, sp6, sn6, sc6, hW6, hpw6⟩ := P6.pw
      refine ⟨rfl, kept_lo hb6 hl1, q6, sp6, sn6, sc6, _, _, _, _, _, _, _, _, _, _, _, hW6, ?_⟩
      have hb36 : Below w3.heap.size w3 w6 := hb35.trans (hb6.mono hb0)
      intro w7 hb7 _
      have hs6 := hb6.size
      have hs7 := hb7.size
      have hb37 : Below w3.heap.size w3 w7 := hb36.trans (hb7.mono (by omega))
      obtain ⟨r, rfl⟩ : ∃ r : Nat, row = r := ⟨row.toNat, by omega⟩
      obtain ⟨c, rfl⟩ : ∃ c : Nat, col = c := ⟨col.toNat, by omega⟩
      have hl16 := (hpen 0 (by omega)).1
      refine runs_pure (go_any r c (by omega) (by omega) (up hb37).1) fun w8 hb8 => ⟨_, rfl, kept_of hb8, ?_⟩
      have hs8 := hb8.size
      intro w9 hb9 ⟨_, hW9⟩
      have hs9 := hb9.size
      have hgl := goL_len r c (by omega) (by omega)
      refine runs_pw ((((hpw6.below hb7).below hb8).below hb9).pnt hW9) (by rw [List.length_append]; omega) fun u w10 P10 hb10 _ => ?_
      obtain ⟨q10, sp10, sn10, sc10, hW10, hpw10⟩ := P10.pw
      refine ⟨u, .nilIface, rfl, rfl, kept_lo hb10 hl1, q10, sp10, sn10, sc10, _, _, _, _, _, _, _, _, _, _, _, hW10, ?_⟩
      intro w11 hb11 ⟨_, hW11⟩
      have hs10 := hb10.size
      have hs11 := hb11.size
      refine runs_w (pstring2 ((hpw10.below hb11).pnt hW11) (by simp [goL_ne])) ?_
      rintro e w12 ⟨rfl, hb12⟩
      refine ⟨_, rfl, kept_lo (hb12.mono (Nat.le_succ _)) hl1, q10, sp10, sn10, sc10, _, _, _, _, _, _, _, _, _, _, _, (hb12.block b0 (Nat.lt_succ_self _)).trans hW11, ?_⟩
      intro w13 b13 c13 hF _ w14 hb14 hK14
      refine ⟨_, by rw [hzero], ?_⟩
      have e : outC a b r c = acc ++ sgrL (betweenL p zPn) ++ goL r c := by
        unfold outC
        rw [if_pos hzero, ← hacc]
        rfl
      rw [e]
      exact bts_of hF hb14
end Go.Proofs.YthophmihgmjnfaaDoor
