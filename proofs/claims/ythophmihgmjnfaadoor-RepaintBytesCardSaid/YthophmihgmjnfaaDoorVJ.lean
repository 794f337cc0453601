/- A part of the proof of RepaintBytes. -/
import Derived.Test.YthophmihgmjnfaaDoorVI
import Derived.Test.YthophmihgmjnfaaDoorVD
import Derived.Test.YthophmihgmjnfaaDoorGA
import Derived.Test.YthophmihgmjnfaaDoorGI
import Derived.Test.YthophmihgmjnfaaDoorVH
set_option linter.unusedVariables false
set_option linter.unusedSimpArgs false
-- --
namespace Go.Proofs.YthophmihgmjnfaaDoor
open Go.RowKit Go.Rep
set_option maxRecDepth 100000
/-- A patch: where its cells lie, and what it says. -/
structure Pt where
  (row col : Nat) (ad : Option Addr) (cap : Nat) (cs : List Cl) (soft : Bool)
abbrev Pt.arr (p : Pt) : Array Value := #[.int .i64 p.row, .int .i64 p.col, .slice p.ad p.cs.length p.cap, .bool p.soft]
/-- What a patch says. -/
structure Pp where
  (row col : Nat) (cs : List Cl) (soft : Bool)
abbrev Pt.say (p : Pt) : Pp := ⟨p.row, p.col, p.cs, p.soft⟩
def pvals (ps : List Pt) : List Value := (ps.map fun p => p.arr.toList).flatten
theorem pvals_append (l m : List Pt) : pvals (l ++ m) = pvals l ++ pvals m := by simp [pvals]
theorem pvals_length (ps : List Pt) : (pvals ps).length = ps.length * 4 := by
  induction ps with
  | nil => rfl
  | cons c l ih => show (c.arr.toList ++ pvals l).length = (l.length + 1) * 4; rw [List.length_append, ih]; show 4 + l.length * 4 = _; omega
theorem pvals_one (ps : List Pt) : ∀ u ∈ pvals ps, u.oneCell' = true := by
  induction ps with
  | nil => intro u hu; cases hu
  | cons c l ih =>
    intro u hu
    have hu : u ∈ c.arr.toList ++ pvals l := hu
    rw [List.mem_append] at hu
    rcases hu with hu | hu
    · simp only [List.mem_cons, List.not_mem_nil, or_false] at hu
      rcases hu with rfl | rfl | rfl | rfl <;> rfl
    · exact ih u hu
theorem pvals_at {ps : List Pt} {j i : Nat} {v : Value} (h : j < ps.length) (hv : (ps[j]).arr.toList[i]? = some v) : (pvals ps)[j * 4 + i]? = some v := by
  induction ps generalizing j with
  | nil => cases h
  | cons c l ih =>
    have hi : i < 4 := by
      rcases Nat.lt_or_ge i 4 with hi | hi
      · exact hi
      · rw [List.getElem?_eq_none hi] at hv; cases hv
    show (c.arr.toList ++ pvals l)[j * 4 + i]? = some v
    cases j with
    | zero => rw [Nat.zero_mul, Nat.zero_add, List.getElem?_append_left hi]; exact hv
    | succ j =>
      rw [show (j + 1) * 4 + i = 4 + (j * 4 + i) by omega, List.getElem?_append_right (by show 4 ≤ _; omega)]
      show (pvals l)[4 + (j * 4 + i) - 4]? = _
      rw [show 4 + (j * 4 + i) - 4 = j * 4 + i by omega]
      exact ih (by simpa using h) hv
/-- The rows of cells of patches. -/
def PRows (w : World) (B : Nat) (ps : List Pt) : Prop := ∀ p ∈ ps, w.ownsRow B 46 16 (.slice p.ad p.cs.length p.cap) p.cs.length (cvals p.cs)
theorem row_below {w w' : World} {B : Nat} {e : TypeId} {s n : Nat} {v : Value} {xs : List Value} (h : w.ownsRow B e s v n xs) (hb : Below w.heap.size w w') : w'.ownsRow B e s v n xs := by
  refine ⟨h.1, ?_⟩
  rcases h.2 with ⟨rfl, hn⟩ | ⟨g, cap, cur, hv, hB, hg, hr⟩
  · exact .inl ⟨rfl, hn⟩
  · exact .inr ⟨g, cap, cur, hv, hB, (hb.block g (by rcases Nat.lt_or_ge g w.heap.size with h9 | h9; exact h9; rw [Array.getElem?_eq_none h9] at hg; cases hg)).trans hg, hr⟩
/-- A row of another type is kept when one grows. -/
theorem row_grown {w w' : World} {B B2 : Nat} {e e2 : TypeId} {s s2 n n2 : Nat} {v v2 : Value} {xs ys : List Value} (h : w.ownsRow B e s v n xs) (h2 : w.ownsRow B2 e2 s2 v2 n2 ys) (hne : e ≠ e2) (hg : w.grownBy w' v2.ownBlock) : w'.ownsRow B e s v n xs := by
  refine ⟨h.1, ?_⟩
  rcases h.2 with ⟨rfl, hn⟩ | ⟨g, cap, cur, hv, hB, hc, hr⟩
  · exact .inl ⟨rfl, hn⟩
  · refine .inr ⟨g, cap, cur, hv, hB, (hg.block g (by rcases Nat.lt_or_ge g w.heap.size with h9 | h9; exact h9; rw [Array.getElem?_eq_none h9] at hc; cases hc) ?_).trans hc, hr⟩
    rcases h2.2 with ⟨rfl, _⟩ | ⟨g2, cap2, cur2, rfl, _, hc2, _⟩
    · intro q; cases q
    · intro q
      have q : g = g2 := Option.some.inj q
      subst q
      rw [hc] at hc2
      injection hc2 with hc2
      injection hc2 with _ hc3 _
      exact hne hc3
theorem PRows.below {w w' : World} {B : Nat} {ps : List Pt} (h : PRows w B ps) (hb : Below w.heap.size w w') : PRows w' B ps := fun p hp => row_below (h p hp) hb
theorem row_ge {w : World} {B : Nat} {e : TypeId} {s n : Nat} {v : Value} {xs : List Value} (h : w.ownsRow B e s v n xs) : ∀ j, v.ownBlock = some j → B ≤ j := by
  rcases h.2 with ⟨rfl, _⟩ | ⟨g, cap, cur, rfl, hB, _⟩
  · intro j q; cases q
  · intro j q
    have : g = j := Option.some.inj q
    omega
theorem Reads.sub {w : World} {B : Nat} {ad : Addr} {l : List Cl} (h : Reads w B 16 (some ad) l.length (cvals l)) {f m : Nat} (hf : f + m ≤ l.length) : Reads w B 16 (some (ad.add (f * 16))) m (cvals ((l.drop f).take m)) := by
  refine ⟨by rw [cvals_length, List.length_take, List.length_drop]; omega, fun hm => ?_⟩
  obtain ⟨ad', e, hb, hc⟩ := h.2 (by omega)
  injection e with e
  subst e
  refine ⟨_, rfl, by rw [block_of_add]; exact hb, fun i u hu => ?_⟩
  rw [add_of_add]
  refine hc (f * 16 + i) u ?_
  rw [← cvals_take, ← cvals_drop] at hu
  rw [List.getElem?_take] at hu
  split at hu
  · rw [List.getElem?_drop] at hu; exact hu
  · cases hu
theorem clone_at {l : List Cl} {B cp n : Nat} {ad : Addr} {w : World} (hr : Reads w B 16 (some ad) n (cvals l)) (hl : l.length = n) (hB : B ≤ w.heap.size) (hn : n ≤ 100000) : Calls Tryd.prog 19 #[.slice (some ad) n cp] w fun e w' => ∃ A c, e = .returned (.slice A n c) ∧ w'.ownsRow w.heap.size 46 16 (.slice A n c) n (cvals l) ∧ Below w.heap.size w w' := by
  subst hl
  exact clone_cells hr hB hn
/-- Where a run of marked columns ends. -/
def runEnd (m : List Bool) (n k : Nat) : Nat := if k < n ∧ m.getD k false = true then runEnd m n (k + 1) else k
termination_by n - k
theorem runEnd_ge (m : List Bool) (n k : Nat) (hk : k ≤ n) : k ≤ runEnd m n k ∧ runEnd m n k ≤ n := by
  generalize hq : n - k = q
  induction q generalizing k with
  | zero =>
    unfold runEnd
    rw [if_neg (by omega)]
    omega
  | succ q ih =>
    unfold runEnd
    split
    · have := ih (k + 1) (by omega) (by omega)
      omega
    · omega
/-- The runs of marked columns. -/
def runs (m : List Bool) (n k : Nat) : List (Nat × Nat) := if _h : k < n then (if k < runEnd m n k then [(k, runEnd m n k)] else []) ++ runs m n (runEnd m n k + 1) else []
termination_by n - k
decreasing_by
  have := (runEnd_ge m n k (by omega)).1
  omega
def runP (i : Nat) (b : Ln) (r : Nat × Nat) : Pp := ⟨i, r.1, (b.cs.drop r.1).take (r.2 - r.1), b.soft⟩
def rowRuns (a b : List Ln) (n i : Nat) : List Pp := (runs (chg (lAt a i).cs (lAt b i).cs n n) n 0).map (runP i (lAt b i))
def rowP (a b : List Ln) (n i : Nat) : List Pp := if rowRuns a b n i = [] ∧ (lAt a i).soft ≠ (lAt b i).soft then [⟨i, 0, [], (lAt b i).soft⟩] else rowRuns a b n i
def deltaUp (a b : List Ln) (n : Nat) : Nat → List Pp
  | 0 => []
  | i + 1 => deltaUp a b n i ++ rowP a b n i
/-- The delta of two screens. -/
def deltaL (a b : List Ln) : List Pp := deltaUp a b (colsOf a) a.length
theorem row_first {l : List Cl} (h : rowB l = true) (h0 : 0 < l.length) : (cAt l 0).w ≠ 0 := by
  intro hw
  have h1 : okAt l 0 = true := by
    cases h2 : okAt l 0 with
    | true => rfl
    | false => rw [show rowB l = false from rowUpTo_bad h2 h0] at h; cases h
  unfold okAt behindB at h1
  simp [hw] at h1
structure Both (a b : List Ln) : Prop where
  len : a.length = b.length
  la : ∀ i, i < a.length → (lAt a i).cs.length = colsOf a
  lb : ∀ i, i < a.length → (lAt b i).cs.length = colsOf a
  wa : ∀ i, i < a.length → 0 < colsOf a → (cAt (lAt a i).cs 0).w ≠ 0
  wb : ∀ i, i < a.length → 0 < colsOf a → (cAt (lAt b i).cs 0).w ≠ 0
  pos : 0 < a.length → 0 < colsOf a
theorem scrAt_parts {ls : List Ln} {j : Nat} (h : scrAt ls j = true) : rowB (lAt ls j).cs = true ∧ 0 < (lAt ls j).cs.length ∧ (lAt ls j).cs.length = (lAt ls 0).cs.length := by
  unfold scrAt validLn at h
  simp only [Bool.and_eq_true, decide_eq_true_eq, Bool.not_eq_true', decide_eq_false_iff_not] at h
  exact ⟨h.1.2, by omega, h.2.2⟩
theorem both_of {a b : List Ln} (h : checkE a b = 0) : Both a b := by
  unfold checkE at h
  split at h
  · rename_i hs
    rw [Bool.and_eq_true] at hs
    split at h
    · cases h
    · rename_i hn
      have hl : a.length = b.length := by
        rcases Nat.decEq a.length b.length with q | q
        · exact absurd (.inl q) hn
        · exact q
      have hcl : 0 < a.length → colsOf a = colsOf b := fun h0 => by
        rcases Nat.decEq (colsOf a) (colsOf b) with q | q
        · exact absurd (.inr ⟨h0, q⟩) hn
        · exact q
      have pa : ∀ i, i < a.length → _ := fun i hi => scrAt_parts (screenUp_all (show screenUp a a.length = true from hs.1) hi)
      have pb : ∀ i, i < b.length → _ := fun i hi => scrAt_parts (screenUp_all (show screenUp b b.length = true from hs.2) hi)
      refine ⟨hl, fun i hi => (pa i hi).2.2, fun i hi => ?_, fun i hi _ => row_first (pa i hi).1 (pa i hi).2.1, fun i hi _ => row_first (pb i (by omega)).1 (pb i (by omega)).2.1, fun h0 => (pa 0 h0).2.1⟩
      rw [(pb i (by omega)).2.2, hcl (by omega)]
      rfl
  · cases h
end Go.Proofs.YthophmihgmjnfaaDoor

namespace Go.Proofs.YthophmihgmjnfaaDoor
open Go Go.RowKit Go.Rep Go.Sy
set_option maxRecDepth 100000
set_option linter.unusedSimpArgs false
section
variable {w w' : World} {B B' : Nat} {e : TypeId} {s n c : Nat} {p : Option Addr} {xs : List Value}
theorem own_lt (h : w.ownsRow B e s (.slice p n c) n xs) : ∀ a, p = some a → a.block < w.heap.size ∧ B ≤ a.block ∧ ∃ cs, w.heap[a.block]? = some (.cells cs e (0, 0)) := by
  intro a ha
  rcases h.2 with ⟨hv, _⟩ | ⟨g, cap, cur, hv, hB, hg, _⟩
  · injection hv with hv; rw [hv] at ha; cases ha
  · injection hv with hv
    rw [hv] at ha
    injection ha with ha
    subst ha
    exact ⟨(Array.getElem?_eq_some_iff.1 hg).1, hB, _, hg⟩
theorem own_keep (h : w.ownsRow B e s (.slice p n c) n xs) (hk : ∀ a, p = some a → w'.heap[a.block]? = w.heap[a.block]?) : w'.ownsRow B e s (.slice p n c) n xs := by
  refine ⟨h.1, ?_⟩
  rcases h.2 with ⟨hv, hn⟩ | ⟨g, cap, cur, hv, hB, hg, hr⟩
  · exact .inl ⟨hv, hn⟩
  · injection hv with hv1 hv2 hv3
    exact .inr ⟨g, cap, cur, by rw [hv1, hv3], hB, (hk _ hv1).trans hg, hr⟩
theorem own_base (h : w.ownsRow B e s (.slice p n c) n xs) (hk : ∀ a, p = some a → B' ≤ a.block) : w.ownsRow B' e s (.slice p n c) n xs := by
  refine ⟨h.1, ?_⟩
  rcases h.2 with ⟨hv, hn⟩ | ⟨g, cap, cur, hv, hB, hg, hr⟩
  · exact .inl ⟨hv, hn⟩
  · injection hv with hv1 hv2 hv3
    exact .inr ⟨g, cap, cur, by rw [hv1, hv3], hk _ hv1, hg, hr⟩
theorem own_nil (w : World) (B : Nat) (e : TypeId) (s : Nat) : w.ownsRow B e s (.slice none 0 0) 0 [] := ⟨by simp, .inl ⟨rfl, rfl⟩⟩
theorem own_cap (h : w.ownsRow B e s (.slice p n c) n xs) : n ≤ c := by
  rcases h.2 with ⟨hv, hn⟩ | ⟨g, cap, cur, hv, _, _, hc, _⟩
  · injection hv with _ h1 h2; omega
  · injection hv with _ _ h2; omega
end
theorem hdr_at {w : World} {B : Nat} {ad : Addr} {ls : List Ln} (h : LinesR w B (some ad) ls) {k : Nat} (hk : k < ls.length) (i : Int) (hi : i = k) : At w ad (Int.toNat i * 2) [.slice (lAt ls k).ad (lAt ls k).cs.length (lAt ls k).cap, .bool (lAt ls k).soft] := by
  subst hi
  intro i v hv
  have e : lAt ls k = ls[k] := by unfold lAt; rw [List.getD_eq_getElem?_getD, List.getElem?_eq_getElem hk]; rfl
  rw [e] at hv
  have := h.hdr hk rfl i v (by simpa using hv)
  rw [add_of_add] at this
  rw [Int.toNat_natCast]
  exact this
theorem grow_own {w : World} {B e s n : Nat} {v : Value} {xs : List Value} (h : w.ownsRow B e s v n xs) : w.ownsRow 0 e s v n xs := by
  refine ⟨h.1, ?_⟩
  rcases h.2 with ⟨hv, hn⟩ | ⟨g, cap, cur, hv, hB, hr⟩
  · exact .inl ⟨hv, hn⟩
  · exact .inr ⟨g, cap, cur, hv, Nat.zero_le _, hr⟩
theorem hdrs_same {w : World} {B e s n : Nat} {v : Value} {xs ys : List Value} {B' : Nat} (h : w.ownsRow B e s v n xs) (k : w.ownsRow B' e s v n ys) : xs = ys := by
  rcases h.2 with ⟨rfl, hn⟩ | ⟨g, cap, cur, rfl, hB, hg, _, _, _, ht⟩
  · have h1 := h.1
    have h2 := k.1
    rw [hn, Nat.zero_mul] at h1 h2
    rw [List.eq_nil_of_length_eq_zero h1, List.eq_nil_of_length_eq_zero h2]
  · rcases k.2 with ⟨hv, _⟩ | ⟨g', cap', cur', hv, _, hg', _, _, _, ht'⟩
    · injection hv with hv; cases hv
    · injection hv with hv
      injection hv with hv
      injection hv with hv
      subst hv
      rw [hg] at hg'
      injection hg' with hg'
      injection hg' with hg'
      subst hg'
      rw [← ht, ← ht']
theorem blk_grown_row {w w' : World} {g B2 : Nat} {t e2 : TypeId} {cs : Array Value} {s2 n2 : Nat} {v2 : Value} {ys : List Value} (h : Blk w g t cs) (h2 : w.ownsRow B2 e2 s2 v2 n2 ys) (hne : t ≠ e2) (hg : w.grownBy w' v2.ownBlock) : Blk w' g t cs := by
  refine h.grown hg ?_
  rcases h2.2 with ⟨rfl, _⟩ | ⟨g2, cap2, cur2, rfl, _, hc2, _⟩
  · intro q; cases q
  · intro q
    have q : g = g2 := Option.some.inj q
    subst q
    have h3 : w.heap[g]? = some (.cells cs t (0, 0)) := h
    rw [h3] at hc2
    injection hc2 with hc2
    injection hc2 with _ hc3 _
    exact hne hc3
structure Patches (w : World) (B : Nat) (v : Value) (ps : List Pt) : Prop where
  hd : w.ownsRow B 57 4 v ps.length (pvals ps)
  row : PRows w B ps
theorem Patches.below {w w' : World} {B : Nat} {v : Value} {ps : List Pt} (h : Patches w B v ps) (hb : Below w.heap.size w w') : Patches w' B v ps := ⟨row_below h.hd hb, h.row.below hb⟩
theorem Patches.drew {w : World} {B : Nat} {v : Value} {ps : List Pt} (h : Patches w B v ps) : Patches w.drew B v ps := ⟨h.hd, fun p hp => h.row p hp⟩

theorem runs_w {P : Program} {f : FuncId} {args : Array Value} {w : World} {X R : Ending → World → Prop} (h : Calls P f args w X) (hR : ∀ e w', X e w' → R e w') : Runs P f args w R := ⟨h.mono hR⟩
theorem own_type {w w' : World} {B B' : Nat} {e e' : TypeId} {s s' n n' m c c' d : Nat} {p q q' : Option Addr} {xs ys zs : List Value} (h : w.ownsRow B e s (.slice p n c) n xs) (k : w.ownsRow B' e' s' (.slice q m d) m ys) (hne : e ≠ e') (hg : Grown w [] q e' s' n' zs w' q' c') : w'.ownsRow B e s (.slice p n c) n xs := by
  refine own_keep h fun a ha => ?_
  obtain ⟨h1, _, cs, h3⟩ := own_lt h a ha
  refine hg.heap _ h1 (by simp) fun b hb he => ?_
  obtain ⟨_, _, cs', h5⟩ := own_lt k b hb
  rw [← he, h3] at h5
  injection h5 with h5
  injection h5 with _ h5
  exact hne h5
theorem below_grown {w0 w w' : World} {B e s n m c c' : Nat} {q q' : Option Addr} {ys zs : List Value} (hb : Below w0.heap.size w0 w) (k : w.ownsRow B e s (.slice q m c) m ys) (hB : w0.heap.size ≤ B) (hg : Grown w [] q e s n zs w' q' c') : Below w0.heap.size w0 w' :=
  ⟨hg.os.trans hb.os, hg.tape.trans hb.tape, hg.output.trans hb.output, Nat.le_trans hb.size hg.size, fun i hi => by
    rw [hg.heap i (Nat.lt_of_lt_of_le hi hb.size) (by simp) (fun a ha he => by have := (own_lt k a ha).2.1; omega)]
    exact hb.block i hi⟩
theorem own_new {w w' : World} {B e s n m c c' : Nat} {q q' : Option Addr} {ys zs : List Value} (k : w.ownsRow B e s (.slice q m c) m ys) (hB : B ≤ w.heap.size) (hg : Grown w [] q e s n zs w' q' c') : w'.ownsRow B e s (.slice q' n c') n zs :=
  own_base hg.row fun a ha => by
    rcases hg.place a ha with ⟨b, h1, h2⟩ | h2
    · rw [h2]; exact (own_lt k b h1).2.1
    · omega
theorem pvals_snoc (ps : List Pt) (x : Pt) : pvals (ps ++ [x]) = pvals ps ++ [.int .i64 x.row, .int .i64 x.col, .slice x.ad x.cs.length x.cap, .bool x.soft] := by rw [pvals_append]; rfl
theorem beval_okB (b : Bool) : (BE.ok b).val = b := by unfold BE.val BE.is; cases b <;> simp
theorem runs_more (m : List Bool) (n k : Nat) (h : n ≤ k) : runs m n k = [] := by unfold runs; rw [dif_neg (by omega)]
/-- The patches so far, and the marks of the row. -/
structure InvR (lo : Nat) (w0 : World) (b : Ln) (k n : Nat) (M : List Bool) (bm : Nat) (tot : List Pp) (p : Option Addr) (c d m : Nat) (w : World) : Prop where
  be : Below lo w0 w
  marks : Blk w bm 4 (bvals M).toArray
  le : m ≤ n + 1
  ps : ∃ ps : List Pt, Patches w lo (.slice p c d) ps ∧ ps.length = c ∧ ps.map Pt.say ++ (runs M n m).map (runP k b) = tot
theorem InvR.below {lo : Nat} {w0 w w' : World} {b : Ln} {k n : Nat} {M : List Bool} {bm : Nat} {tot : List Pp} {p : Option Addr} {c d m : Nat} (hlo : lo ≤ w0.heap.size) (h : InvR lo w0 b k n M bm tot p c d m w) (hb : Below w.heap.size w w') : InvR lo w0 b k n M bm tot p c d m w' := by
  obtain ⟨h1, h2, h3, ps, h4, h5, h6⟩ := h
  exact ⟨h1.trans (hb.mono (Nat.le_trans hlo h1.size)), h2.below hb h2.lt, h3, ps, h4.below hb, h5, h6⟩
theorem deltaUp_succ (a b : List Ln) (n k : Nat) : deltaUp a b n (k + 1) = deltaUp a b n k ++ rowP a b n k := rfl
theorem runs_len (m : List Bool) (n k : Nat) : (runs m n k).length ≤ n - k := by
  generalize hq : n - k = q
  induction q using Nat.strongRecOn generalizing k with
  | _ q ih =>
    unfold runs
    split
    · rename_i hk
      have h1 := runEnd_ge m n k (by omega)
      have h2 := ih (n - (runEnd m n k + 1)) (by omega) (runEnd m n k + 1) rfl
      rw [List.length_append]
      split
      · simp only [List.length_cons, List.length_nil]; omega
      · simp only [List.length_nil]; omega
    · simp
theorem deltaUp_len {a b : List Ln} {n : Nat} (m : Nat) : (deltaUp a b n m).length ≤ (n + 1) * m := by
  induction m with
  | zero => exact Nat.zero_le _
  | succ m ih =>
    unfold deltaUp
    rw [List.length_append]
    have : (rowP a b n m).length ≤ n + 1 := by
      unfold rowP
      split
      · simp
      · unfold rowRuns
        rw [List.length_map]
        have := runs_len (chg (lAt a m).cs (lAt b m).cs n n) n 0
        omega
    rw [Nat.mul_succ]
    omega
theorem delta_any {a b : List Ln} {B ca cb na nb : Nat} {A A2 : Option Addr} {w : World} (hL : Laid w) (ha : LinesR w B A a) (hb : LinesR w B A2 b) (hB : B ≤ w.heap.size) (hla : a.length = na) (hlb : b.length = nb) (hna : na ≤ 6) (hnb : nb ≤ 6) (hc16 : checkE a b = 0 → colsOf a ≤ 16) :
    Calls Tryd.prog 9 #[.slice A na ca, .slice A2 nb cb] w fun e w' => ∃ p n c ps, e = .returned (.tuple #[.slice p n c, .int .i64 (checkE a b)]) ∧ (checkE a b = 0 → Patches w' w.heap.size (.slice p n c) ps ∧ ps.length = n ∧ ps.map Pt.say = deltaL a b) ∧ Below w.heap.size w w' := by
  subst hla hlb
  have up : ∀ {w' : World}, Below w.heap.size w w' → Laid w' ∧ LinesR w' B A a ∧ LinesR w' B A2 b := fun h => ⟨hL.low h, ha.below (h.mono hB), hb.below (h.mono hB)⟩
  have goal : Gets Tryd.prog 9 #[.slice A a.length ca, .slice A2 b.length cb] w Nix fun v w' => ∃ p n c ps, v = .tuple #[.slice p n c, .int .i64 (checkE a b)] ∧ (checkE a b = 0 → Patches w' w.heap.size (.slice p n c) ps ∧ ps.length = n ∧ ps.map Pt.say = deltaL a b) := by
    refine vc9 A A2 a.length ca b.length cb ?_
    intro w1 hb1
    refine runs_pure (check_any (up hb1).1 (up hb1).2.1 (up hb1).2.2 (Nat.le_trans hB hb1.size) rfl rfl hna hnb) fun w2 hb2 => ⟨_, rfl, kept_of hb2, fun hE w3 _ _ => ⟨none, 0, 0, [], rfl, fun h => absurd h hE⟩, fun hE => ?_⟩
    have hb02 : Below w.heap.size w w2 := hb1.trans (hb2.mono hb1.size)
    have hBo := both_of hE
    have h16 := hc16 hE
    generalize hn : colsOf a = n at *
    have hlen := hBo.len
    refine ⟨fun p c d i w' => ∃ (k : Nat) (ps : List Pt), i = k ∧ k ≤ a.length ∧ Patches w' w.heap.size (.slice p c d) ps ∧ ps.length = c ∧ ps.map Pt.say = deltaUp a b n k, fun _ _ _ i => a.length - i.toNat, fun w3 _ => ⟨0, [], rfl, Nat.zero_le _, ⟨World.ownsRow_nil _ _ _ _, fun p hp => by cases hp⟩, rfl, rfl⟩, ?_⟩
    rintro p c d i w3 hK3 ⟨k, ps, rfl, hk, hP, hpl, hsay⟩
    have hb03 := hK3.below
    have hs3 := hb03.size
    refine ⟨fun hlt => ?_, fun hge w4 hb4 _ => ?_⟩
    · have hka : k < a.length := by omega
      have hkb : k < b.length := by omega
      have hla' : (lAt a k).cs.length = n := by rw [← hn]; exact hBo.la k hka
      have hlb' : (lAt b k).cs.length = n := by rw [← hn]; exact hBo.lb k hka
      obtain ⟨ada, hA, _⟩ := (up hb03).2.1.at_ hka
      obtain ⟨adb, hA2, _⟩ := (up hb03).2.2.at_ hkb
      have hda : ∀ {w' : World}, Below w.heap.size w w' → At w' ada (Int.toNat (k : Int) * 2) [.slice (lAt a k).ad (lAt a k).cs.length (lAt a k).cap] ∧ At w' ada (Int.toNat (k : Int) * 2 + 1) [.bool (lAt a k).soft] := fun h => by
        have h1 := (up h).2.1
        rw [hA] at h1
        have h2 := hdr_at h1 hka (k : Int) rfl
        exact ⟨by have := h2.one 0 rfl; rwa [Nat.add_zero] at this, h2.one 1 rfl⟩
      have hdb : ∀ {w' : World}, Below w.heap.size w w' → At w' adb (Int.toNat (k : Int) * 2) [.slice (lAt b k).ad (lAt b k).cs.length (lAt b k).cap] ∧ At w' adb (Int.toNat (k : Int) * 2 + 1) [.bool (lAt b k).soft] := fun h => by
        have h1 := (up h).2.2
        rw [hA2] at h1
        have h2 := hdr_at h1 hkb (k : Int) rfl
        exact ⟨by have := h2.one 0 rfl; rwa [Nat.add_zero] at this, h2.one 1 rfl⟩
      have hda3 := hda hb03
      have hdb3 := hdb hb03
      rw [hla'] at hda3
      rw [hlb'] at hdb3
      refine ⟨fun p c d w' => ∃ ps : List Pt, Patches w' w.heap.size (.slice p c d) ps ∧ ps.length = c ∧ ps.map Pt.say = deltaUp a b n (k + 1), ⟨ada, hA, ⟨by omega, by omega⟩, _, _, _, hda3.1, adb, hA2, ⟨by omega, by omega⟩, _, _, _, hdb3.1, ?_⟩, ?_⟩
      · intro w4 hb4
        have hb04 := hb03.trans (hb4.mono hs3)
        have ra := LinesR.rowOf (up hb04).2.1 hka
        have rb := LinesR.rowOf (up hb04).2.2 hkb
        rw [hla'] at ra
        rw [hlb'] at rb
        refine runs_w (changed_any ra rb hla' hlb' (Nat.le_trans hB hb04.size) (by omega) (fun h0 => ⟨hBo.wa k hka (by rw [hn]; exact h0), hBo.wb k hka (by rw [hn]; exact h0)⟩)) ?_
        rintro e w5 ⟨rfl, hM, hb5⟩
        have hb05 := hb04.trans (hb5.mono hb04.size)
        generalize hMM : chg (lAt a k).cs (lAt b k).cs n n = M at *
        have hMl : M.length = n := by rw [← hMM]; exact chg_len _ _ _ _
        have hk5 : Kept w.heap.size Nix [] w4 w5 := kept_of hb5
        have hP5 := (hP.below hb4).below hb5
        generalize w4.heap.size = bm at *
        have hrr : rowRuns a b n k = (runs M n 0).map (runP k (lAt b k)) := by unfold rowRuns; rw [hMM]
        refine ⟨some ⟨bm, 0, none⟩, n, n, rfl, hk5, ?_⟩
        refine ⟨fun p c d i w' => ∃ m : Nat, i = m ∧ InvR w.heap.size w (lAt b k) k n M bm (deltaUp a b n k ++ rowRuns a b n k) p c d m w', fun _ _ _ i => n + 1 - i.toNat, fun w6 hb6 => ⟨0, rfl, InvR.below (Nat.le_refl _) ⟨hb05, hM, Nat.zero_le _, ps, hP5, hpl, by rw [hsay, hrr]⟩ hb6⟩, ?_⟩
        rintro p c d i w6 hK6 ⟨m, rfl, hI⟩
        refine ⟨fun hmn => ?_, fun hmn => ?_⟩
        · have hmn' : m < n := by omega
          have hre := runEnd_ge M n m (by omega)
          refine ⟨fun p c d i w' => ∃ m' : Nat, i + 1 = m' ∧ m < m' ∧ InvR w.heap.size w (lAt b k) k n M bm (deltaUp a b n k ++ rowRuns a b n k) p c d m' w', ⟨fun i w' => i = (runEnd M n m : Nat) ∧ Below w6.heap.size w6 w', ⟨fun i w' => ∃ e : Nat, i = e ∧ m ≤ e ∧ e ≤ n ∧ runEnd M n e = runEnd M n m ∧ Below w6.heap.size w6 w', fun i => n - i.toNat, fun w7 hb7 => ⟨m, rfl, Nat.le_refl _, by omega, rfl, hb7⟩, ?_⟩, ?_⟩, ?_⟩
          · rintro i w7 hK7 ⟨e, rfl, he1, he2, he3, hb7⟩
            refine ⟨fun hen => ⟨⟨bm, 0, none⟩, rfl, ⟨by omega, by omega⟩, M.getD e false, fun j v hj => ?_, fun ht => ⟨by unfold I64; omega, fun w8 hb8 => ⟨⟨e + 1, by omega, by omega, by omega, ?_, hb7.trans (hb8.mono hb7.size)⟩, by dsimp only; omega⟩⟩, fun hf w8 hb8 => ⟨?_, hb7.trans (hb8.mono hb7.size)⟩⟩, fun hen w8 hb8 => ⟨?_, hb7.trans (hb8.mono hb7.size)⟩⟩
            · have hM7 := hI.marks.below hb7 hI.marks.lt
              have hc := hM7.cell e
              have ej : j = 0 := by
                cases j with
                | zero => rfl
                | succ j => simp at hj
              subst ej
              have hv : v = .bool (M.getD e false) := by simpa using hj.symm
              rw [hv, Addr.add_lit]
              have e9 : 0 + (Int.toNat (e : Int) * 1 + 0) = e := by rw [Int.toNat_natCast]; omega
              rw [e9, hc]
              simp only [List.getElem?_toArray, bvals, List.getElem?_map]
              rw [List.getD_eq_getElem?_getD, List.getElem?_eq_getElem (show e < M.length by omega)]
              rfl
            · rw [← he3]
              conv => rhs; unfold runEnd
              rw [if_pos ⟨by omega, ht⟩]
            · rw [← he3]
              unfold runEnd
              rw [if_neg (fun h => by rw [h.2] at hf; cases hf)]
            · rw [← he3]
              unfold runEnd
              rw [if_neg (fun h => by omega)]
          · rintro i w7 hK7 ⟨rfl, hb7⟩
            have hI7 := hI.below (Nat.le_refl _) hb7
            have hruns : runs M n m = (if m < runEnd M n m then [(m, runEnd M n m)] else []) ++ runs M n (runEnd M n m + 1) := by
              conv => lhs; unfold runs
              rw [dif_pos hmn']
            generalize runEnd M n m = e at *
            refine ⟨fun hme => ?_, fun hme w8 hb8 => ⟨e + 1, rfl, by omega, InvR.below (Nat.le_refl _) ?_ hb8⟩⟩
            · have hme' : m < e := by omega
              obtain ⟨hbI, hMI, _, ps', hP', hpl', hsay'⟩ := hI7
              have hdb7 := hdb hbI
              have rb7 := LinesR.rowOf (up hbI).2.2 hkb
              rw [hlb'] at rb7 hdb7
              obtain ⟨adc, hdc⟩ := rb7.some_ (by omega)
              have hcap : n ≤ (lAt b k).cap := by
                have := ((up hbI).2.2.row _ (lAt_mem hkb)).2
                omega
              refine ⟨adb, hA2, ⟨by omega, by omega⟩, _, _, _, hdb7.1, ⟨by omega, by omega, by omega⟩, adb, hA2, ⟨by omega, by omega⟩, _, hdb7.2, ?_⟩
              intro w8 hb8
              have hb08 := hbI.trans (hb8.mono hbI.size)
              have rb8 := LinesR.rowOf (up hb08).2.2 hkb
              rw [hlb', hdc] at rb8
              have hsub : Reads w8 B 16 (some (adc.add (m * 16))) (e - m) (cvals (((lAt b k).cs.drop m).take (e - m))) := Reads.sub (by rw [hlb']; exact rb8) (by omega)
              have e1 : Int.toNat ((e : Int) - (m : Int)) = e - m := by omega
              have e2 : cutP (lAt b k).ad (lAt b k).cap (Int.toNat (m : Int)) 16 = some (adc.add (m * 16)) := by
                rw [Int.toNat_natCast, hdc]
                unfold cutP
                rw [if_neg (by omega)]
                rfl
              rw [e1, e2]
              refine runs_w (clone_at hsub (by rw [List.length_take, List.length_drop]; omega) (Nat.le_trans hB hb08.size) (by omega)) ?_
              rintro _ w9 ⟨Ac, cc, rfl, hown, hb9⟩
              have hb09 := hb08.trans (hb9.mono hb08.size)
              have hP9 := (hP'.below hb8).below hb9
              refine ⟨Ac, e - m, cc, rfl, kept_of hb9, (by have := (hdb hb09).2; exact this), ?_⟩
              intro y hy
              have hd9 := hP9.hd
              rw [hpl'] at hd9
              refine ⟨_, ⟨grow_own hd9, fun ad had => ⟨?_, fun h9 => by have := (own_lt hd9 ad had).2.1; omega⟩⟩, ?_, ?_⟩
              · have := (own_lt hd9 ad had).1
                simp only [List.mem_singleton]
                omega
              · have : ps'.length ≤ 200 := by
                  have h1 := congrArg List.length hsay'
                  simp only [List.length_append, List.length_map] at h1
                  have h2 := deltaUp_len (a := a) (b := b) (n := n) k
                  have h3 : (rowRuns a b n k).length ≤ n := by rw [hrr, List.length_map]; have := runs_len M n 0; omega
                  have h4 : (n + 1) * k ≤ 17 * 6 := Nat.mul_le_mul (by omega) (by omega)
                  omega
                omega
              · intro w10 p' d' hg _ w11 hb11
                have hM9 : Blk w9 bm 4 (bvals M).toArray := by
                  have h1 := hMI.below hb8 hMI.lt
                  exact h1.below hb9 h1.lt
                have hM10 : Blk w10 bm 4 (bvals M).toArray := by
                  have : w10.heap[bm]? = w9.heap[bm]? := hg.heap bm hM9.lt (by simp) fun ad had he => by
                    obtain ⟨_, _, cs', h5⟩ := own_lt hd9 ad had
                    have h6 : w9.heap[bm]? = _ := hM9
                    rw [← he, h6] at h5
                    injection h5 with h5
                    injection h5 with _ h5
                    exact absurd h5 (by decide)
                  exact this.trans hM9
                have hlo9 : w.heap.size ≤ w8.heap.size := hb08.size
                refine ⟨e + 1, rfl, by omega, InvR.below (Nat.le_refl _) ⟨below_grown hb09 hd9 (Nat.le_refl _) hg, hM10, by omega, ps' ++ [⟨k, m, Ac, cc, ((lAt b k).cs.drop m).take (e - m), (lAt b k).soft⟩], ⟨?_, fun x hx => ?_⟩, by simp [hpl'], ?_⟩ hb11⟩
                · have h1 := own_new hd9 hb09.size hg
                  rw [List.length_append, hpl', pvals_snoc]
                  have e3 : (((lAt b k).cs.drop m).take (e - m)).length = e - m := by rw [List.length_take, List.length_drop]; omega
                  simp only [e3]
                  exact h1
                · rw [List.mem_append] at hx
                  rcases hx with hx | hx
                  · exact own_type (hP9.row x hx) hd9 (by decide) hg
                  · simp only [List.mem_singleton] at hx
                    subst hx
                    have e3 : (((lAt b k).cs.drop m).take (e - m)).length = e - m := by rw [List.length_take, List.length_drop]; omega
                    show w10.ownsRow _ _ _ (.slice Ac (((lAt b k).cs.drop m).take (e - m)).length cc) (((lAt b k).cs.drop m).take (e - m)).length _
                    rw [e3]
                    exact own_type (own_base hown fun ad had => by have := (own_lt hown ad had).2.1; omega) hd9 (by decide) hg
                · rw [← hsay', hruns, if_pos hme']
                  simp only [List.map_append, List.map_cons, List.map_nil, List.append_assoc]
                  rfl
            · obtain ⟨q1, q2, q3, ps', q4, q5, q6⟩ := hI7
              refine ⟨q1, q2, by omega, ps', q4, q5, ?_⟩
              rw [← q6, hruns, if_neg (by omega)]
              rfl
          · rintro p c d i w7 hK7 ⟨m', hm', hmm, hI7⟩
            exact ⟨by have := hI7.le; unfold I64; omega, fun w8 hb8 => ⟨⟨m', hm', hI7.below (Nat.le_refl _) hb8⟩, by have := hI7.le; dsimp only; omega⟩⟩
        · obtain ⟨hbI, hMI, _, ps', hP', hpl', hsay'⟩ := hI
          rw [runs_more M n m (by omega), List.map_nil, List.append_nil] at hsay'
          have hl9 : c = ps.length + (rowRuns a b n k).length := by
            have h1 := congrArg List.length hsay'
            have h2 := congrArg List.length hsay
            simp only [List.length_append, List.length_map] at h1 h2
            omega
          have hrn : (c = ps.length) ↔ rowRuns a b n k = [] := by
            rw [hl9]
            constructor
            · intro h; exact List.eq_nil_of_length_eq_zero (by omega)
            · intro h; rw [h]; rfl
          have hda6 := hda hbI
          have hdb6 := hdb hbI
          refine ⟨fun t w' => t = decide (rowRuns a b n k = [] ∧ (lAt a k).soft ≠ (lAt b k).soft) ∧ Below w6.heap.size w6 w', ⟨fun h0 => ⟨ada, hA, ⟨by omega, by omega⟩, _, hda6.2, adb, hA2, ⟨by omega, by omega⟩, _, hdb6.2, fun w7 hb7 => ?_⟩, fun h0 w7 hb7 => ?_⟩, ?_⟩
          · rw [beval_okB, beval_okB]
            exact ⟨fun h => ⟨(decide_eq_true ⟨hrn.1 (by omega), h⟩).symm, hb7⟩, fun h => ⟨(decide_eq_false fun h9 => h9.2 h).symm, hb7⟩⟩
          · exact ⟨(decide_eq_false fun h9 => h0 (by have := hrn.2 h9.1; omega)).symm, hb7⟩
          rintro t w7 hK7 ⟨rfl, hb7⟩
          have hb07 := hbI.trans (hb7.mono hbI.size)
          have hP7 := hP'.below hb7
          have hd7 := hP7.hd
          rw [hpl'] at hd7
          refine ⟨fun ht => ?_, fun ht w8 hb8 => ⟨ps', hP7.below hb8, hpl', ?_⟩⟩
          · have hh := of_decide_eq_true ht
            refine ⟨adb, hA2, ⟨by omega, by omega⟩, _, (hdb hb07).2, ?_⟩
            intro y hy
            refine ⟨_, ⟨grow_own hd7, fun ad had => ⟨?_, fun h9 => by have := (own_lt hd7 ad had).2.1; omega⟩⟩, ?_, ?_⟩
            · have := (own_lt hd7 ad had).1
              simp only [List.mem_singleton]
              omega
            · have h1 := congrArg List.length hsay'
              simp only [List.length_append, List.length_map] at h1
              have h2 := deltaUp_len (a := a) (b := b) (n := n) k
              have h3 : (rowRuns a b n k).length = 0 := by rw [hh.1]; rfl
              have h4 : (n + 1) * k ≤ 17 * 6 := Nat.mul_le_mul (by omega) (by omega)
              omega
            · intro w8 p' d' hg _ w9 hb9
              refine ⟨ps' ++ [⟨k, 0, none, 0, [], (lAt b k).soft⟩], Patches.below ⟨?_, fun x hx => ?_⟩ hb9, by simp [hpl'], ?_⟩
              · have h1 := own_new hd7 hb07.size hg
                rw [List.length_append, hpl', pvals_snoc]
                exact h1
              · rw [List.mem_append] at hx
                rcases hx with hx | hx
                · exact own_type (hP7.row x hx) hd7 (by decide) hg
                · simp only [List.mem_singleton] at hx
                  subst hx
                  exact own_nil _ _ _ _
              · rw [deltaUp_succ, List.map_append, hsay']
                unfold rowP
                rw [if_pos hh, hh.1, List.append_nil]
                rfl
          · have hh := of_decide_eq_false ht
            rw [hsay', deltaUp_succ]
            unfold rowP
            rw [if_neg hh]
      · rintro p c d w5 hK5 ⟨ps', hP', hpl', hsay'⟩
        exact ⟨by unfold I64; omega, fun w6 hb6 => ⟨⟨k + 1, ps', by omega, by omega, hP'.below hb6, hpl', hsay'⟩, by dsimp only; omega⟩⟩
    · have : k = a.length := by omega
      subst this
      exact ⟨p, c, d, ps, by rw [hE], fun _ => ⟨hP.below hb4, hpl, by rw [hsay]; unfold deltaL; rw [hn]⟩⟩
  exact Calls.mono goal fun e w' ⟨v, he, hk, p, n, c, ps, hv, h⟩ => ⟨p, n, c, ps, by rw [he, hv], h, hk.below⟩
end Go.Proofs.YthophmihgmjnfaaDoor

namespace Go.Proofs.YthophmihgmjnfaaDoor
open Go.RowKit Go.Rep
set_option maxRecDepth 100000
set_option linter.unusedSimpArgs false
def svals (l : List ByteArray) : List Value := l.map Value.string
theorem svals_one (l : List ByteArray) : ∀ u ∈ svals l, u.oneCell' = true := by
  intro u hu
  simp only [svals, List.mem_map] at hu
  obtain ⟨x, _, rfl⟩ := hu
  rfl
theorem str_info : (Tryd.prog.info? 9).map (fun i => (i.zero, i.size, i.bytes)) = some (some (.string ⟨#[]⟩), 1, 16) := by kernel_rfl
/-- Numbers as strings. -/
def numS (l : List Int) : List ByteArray := l.map fun x => S (Lib.itoa x)
/-- The text of parameters. -/
def joinL (l : List Int) : List UInt8 := Lib.join (l.map Lib.itoa) [59]
theorem joinL_eq (l : List Int) : (⟨(Lib.join ((numS l).map (·.data.toList)) (S [59]).data.toList).toArray⟩ : ByteArray) = S (joinL l) := by
  have h : (numS l).map (·.data.toList) = l.map Lib.itoa := by
    unfold numS
    rw [List.map_map]
    apply List.map_congr_left
    intro x _
    exact S_list _
  rw [h, S_list]
  rfl
theorem numS_succ (l : List Int) {j : Nat} (hj : j < l.length) : svals (numS (l.take (j + 1))) = svals (numS (l.take j)) ++ [Value.string (S (Lib.itoa (iAt l j)))] := by
  have e : iAt l j = l[j] := by unfold iAt; rw [List.getD_eq_getElem?_getD, List.getElem?_eq_getElem hj]; rfl
  rw [e, List.take_succ_eq_append_getElem hj]
  unfold svals numS
  rw [List.map_append, List.map_append]
  rfl
theorem itoa_len {x : Int} (h0 : 0 ≤ x) (h1 : x ≤ 9999) : (Lib.itoa x).length ≤ 30 := by
  obtain ⟨n, rfl⟩ : ∃ n : Nat, x = n := ⟨x.toNat, by omega⟩
  rw [show Lib.itoa (n : Int) = Lib.decDigits n from Lib.itoa_nonneg n]
  exact dec_len n (by omega)
theorem lens_le {l : List Int} (h : smI l) : Lib.lens (l.map Lib.itoa) ≤ 30 * l.length := by
  induction l with
  | nil => simp [Lib.lens]
  | cons x l ih =>
    have h1 := itoa_len (h x (by simp)).1 (h x (by simp)).2
    have h2 := ih (fun y hy => h y (by simp [hy]))
    show (Lib.itoa x).length + Lib.lens (l.map Lib.itoa) ≤ _ 
    rw [List.length_cons]
    omega
theorem joinL_len {l : List Int} (h : smI l) : (joinL l).length ≤ 31 * l.length := by
  unfold joinL
  cases l with
  | nil => simp [Lib.join_nil]
  | cons x l =>
    have h1 := lens_le h
    rw [List.map_cons] at h1 ⊢
    rw [Lib.join_length, List.length_map]
    simp only [List.length_cons, List.length_nil] at h1 ⊢
    omega
theorem numS_len (l : List Int) : (numS l).length = l.length := by simp [numS]
theorem str_cells {w : World} {n g : Nat} {cur : Array Value} {xs : List ByteArray} (hg : w.heap[g]? = some (.cells cur 9 (0, 0))) (ht : cur.toList.take (n * 1) = svals xs) : ∀ (j : Nat) x, xs[j]? = some x → w.cell? ⟨g, 0 + j, none⟩ = some (.string x) := by
  intro j x hx
  have h1 : (svals xs)[j]? = some (.string x) := by unfold svals; rw [List.getElem?_map, hx]; rfl
  rw [← ht, List.getElem?_take] at h1
  split at h1
  · rw [Nat.zero_add, cell_of_row w g j cur 9 (0, 0) hg, ← h1, Array.getElem?_toList]
  · cases h1
set_option maxHeartbeats 4000000 in
theorem ptext_any {l : List Int} {B n cp : Nat} {A : Option Addr} {w : World} (hr : Reads w B 1 A n (ivals l)) (hB : B ≤ w.heap.size) (hn : l.length = n) (hs : smI l) (h16 : n ≤ 16) (hL : Laid2 w) : Calls Tryd.prog 33 #[.slice A n cp] w fun e w' => e = .returned (.tuple #[.string (S (joinL l)), .int .i64 0]) ∧ Below w.heap.size w w' := by
  obtain ⟨i0, hi, hz0, hz1, hz2⟩ := info_parts str_info
  have HR := Lib.hid hr
  have HN := Lib.hid hn
  have HL := Lib.hid hL
  clear hr hn hL
  go_enter Tryd.func33, Tryd.ntmps33
  go_upto_block 0 with (go_at_call 42; refine (pvalid_any HR.out HN.out hs h16).mono ?_; rintro e w2 ⟨rfl, rfl⟩)
  go_wp2
  go_loopw [4, 13] (fun v i wr => ∃ j : Nat, j ≤ n ∧ i = .int .i64 j ∧ wr.ownsRow w2.heap.size 9 1 v j (svals (numS (l.take j))) ∧ Below w2.heap.size w2 wr) (fun _ i _ => n - (intOf i).toNat)
  case atStart => exact ⟨0, Nat.zero_le _, rfl, World.ownsRow_nil _ _ _ _, Below.refl _ _⟩
  case round =>
    obtain ⟨j, hj, rfl, hown, hbr⟩ := hrel
    have hsr := hbr.size
    by_cases h1 : j < n
    · have h1' : (j : Int) < (n : Int) := by omega
      have RL := HR.out.below (hbr.mono hB)
      obtain ⟨ad, rfl⟩ := Reads.isome RL (by omega)
      have hc := Reads.iat RL HN.out h1
      have hx := hs.at_ (show j < l.length by rw [HN.out]; exact h1)
      have hx0 : 0 ≤ iAt l j := hx.1
      have ES := Lib.hid (numS_succ l (show j < l.length by rw [HN.out]; exact h1))
      go_wp2_with (first
        | (at_builtin; refine wpList_append_any _ rfl (.tmp 21) (.tmp 23) 87 rfl w2.heap.size 9 i0 (.string ⟨#[]⟩) 1 16 Tryd.underlying87 hi hz0 hz1 hz2 rfl (by decide) _ _ _ rfl (World.ownsRow.alloc hown5 _) _ _ 1 _ [Value.string (S (Lib.itoa (iAt l j)))] rfl (Blk.readsAll (Blk.new w5 9 #[Value.string (S (Lib.itoa (iAt l j)))]) rfl) (by intro u hu; simp at hu; subst hu; rfl) (by unfold maxLen; omega) (by omega) (by first | (simp; done) | (simp; omega)) ?_; intro v9 w9 hown9 hg9 _)
        | (go_at_call 24; refine (itoa_any (iAt l j) (by omega) (by omega) (HL.out.low hbr)).mono ?_; rintro e w5 ⟨rfl, hb5⟩; have hown5 := row_below hown hb5; have hs5 := hb5.size))
      go_roundw
      case rel => exact ⟨j + 1, by omega, by go_num, by rw [ES.out]; exact hown9, (((hbr.trans (hb5.mono hsr)).alloc (by omega) _).grown hg9 (by simp; omega) (fun j q => row_ge hown5 j q))⟩
      case measure => simp [intOf]; omega
    · obtain rfl : j = n := by omega
      have h1' : ¬ ((j : Nat) : Int) < ((j : Nat) : Int) := by omega
      have ET := Lib.hid (show l.take j = l by rw [← HN.out, List.take_length])
      rw [ET.out] at hown
      have hlen : (Lib.join ((numS l).map (·.data.toList)) (S [59]).data.toList).length ≤ 140737488355328 := by
        have h2 := joinL_len hs
        have h3 := congrArg (fun s : ByteArray => s.data.toList.length) (joinL_eq l)
        simp only [S_list] at h3
        have h4 : (Lib.join ((numS l).map (·.data.toList)) (S [59]).data.toList).length = (joinL l).length := h3
        have h5 := HN.out
        rw [h4]
        omega
      rcases hown.2 with ⟨rfl, h0⟩ | ⟨g, cap, cur, rfl, hg1, hg2, hg3, hg4, hg5, hg6⟩
      · obtain rfl : l = [] := List.eq_nil_of_length_eq_zero (by rw [HN.out]; exact h0)
        go_wp2_with (go_at_call 43; refine (Tryd.strings_Join_none none 0 (S [59]) _).mono ?_; rintro e w6 ⟨rfl, rfl⟩)
        go_ret2
        exact ⟨rfl, hbr⟩
      · have hJ := Tryd.strings_Join g 0 cap (numS l) (S [59]) wr (str_cells hg2 hg6) (by rcases Nat.lt_or_ge g wr.heap.size with h9 | h9; exact h9; rw [Array.getElem?_eq_none h9] at hg2; cases hg2) (by rw [numS_len, HN.out]; omega) (by rw [numS_len, HN.out]; exact hg3) hlen
        rw [joinL_eq, numS_len, HN.out] at hJ
        go_wp2_with (go_at_call 43; refine hJ.mono ?_; rintro e w6 ⟨rfl, hb6⟩)
        go_ret2
        exact ⟨rfl, hbr.trans (hb6.mono hsr)⟩
end Go.Proofs.YthophmihgmjnfaaDoor

namespace Go.Proofs.YthophmihgmjnfaaDoor
open Go.RowKit Go.Rep
set_option maxRecDepth 100000
set_option linter.unusedSimpArgs false
theorem byteCells_len (a : List UInt8) : (Lib.byteCells a).length = a.length := by simp [Lib.byteCells]
theorem byteCells_app (a b : List UInt8) : Lib.byteCells (a ++ b) = Lib.byteCells a ++ Lib.byteCells b := by simp [Lib.byteCells]
theorem Tryd.wstring (B b : Nat) (bs : List Value) (s : ByteArray) (w : World) (h : Lib.IsBuilderF 67 5 B b bs w) (hlen : bs.length + s.size ≤ 140737488355328) (hBw : B ≤ w.heap.size) :
    Calls Tryd.prog 28 #[.pointer (some ⟨b, 0, none⟩), .string s] w fun e w' => e = .returned (.tuple #[.int .i64 s.size, .nilIface]) ∧ (Lib.BuilderAtF 67 5 B b (.pointer (some ⟨b, 0, none⟩)) (bs ++ Lib.strCells s) w' ∧ Below B w w' ∧ Lib.OthersKept 5 (some b) w w') :=
  Any.Builder_WriteString_k { Tryd.lays156 with } Tryd.Builder_Extra_156 B b bs s w h hlen hBw
theorem Lib_up {b : Nat} {bs : List Value} {w w' : World} (h : Lib.IsBuilderF 67 5 b b bs w) (hb : Below w.heap.size w w') : Lib.IsBuilderF 67 5 b b bs w' := by
  have aux : ∀ p, Lib.BuilderAtF 67 5 b b p bs w → Lib.BuilderAtF 67 5 b b p bs w' := by
    rintro p ⟨h1, v, h2, h3, h4⟩
    have hlt : b < w.heap.size := (Array.getElem?_eq_some_iff.1 h2).1
    exact ⟨h1, v, (hb.block b hlt).trans h2, h3.kept (row := none) ⟨hb.os, hb.tape, hb.output, hb.size, fun k hk _ => hb.block k hk⟩ (by cases hv : v.ownBlock <;> simp), h4⟩
  exact h.elim (fun x => .inl (aux _ x)) (fun x => .inr (aux _ x))
theorem strCells_S (a : List UInt8) : Lib.strCells (S a) = Lib.byteCells a := by simp [Lib.strCells, Lib.byteCells, S]
/-- WriteString, in the words of this text. -/
theorem ws_any {b : Nat} {acc a : List UInt8} {w : World} (h : Lib.IsBuilderF 67 5 b b (Lib.byteCells acc) w) (hlen : acc.length + a.length ≤ 1000000000) (hbw : b < w.heap.size) :
    Calls Tryd.prog 28 #[.pointer (some ⟨b, 0, none⟩), .string (S a)] w fun e w' => (∃ u, e = .returned (.tuple #[.int .i64 u, .nilIface])) ∧ Lib.IsBuilderF 67 5 b b (Lib.byteCells (acc ++ a)) w' ∧ Below b w w' ∧ Lib.OthersKept 5 (some b) w w' := by
  refine (Tryd.wstring b b _ (S a) w h (by rw [byteCells_len, S_size]; omega) (by omega)).mono ?_
  rintro e w' ⟨rfl, h1, h2, h3⟩
  rw [strCells_S, ← byteCells_app] at h1
  exact ⟨⟨_, rfl⟩, .inr h1, h2, h3⟩
theorem bl_new (w : World) : Lib.IsBuilderF 67 5 w.heap.size w.heap.size (Lib.byteCells []) (w.alloc (.cells #[.pointer none, .slice none 0 0] 67)) :=
  .inl ⟨Nat.le_refl _, .slice none 0 0, heap_alloc_new w _, World.ownsRowF_nil _ _ 5 1, by simp [Value.ownBlock]⟩
theorem kept_blk {b g : Nat} {w w' : World} {t : TypeId} {cs : Array Value} (h : Blk w g t cs) (hk : Lib.OthersKept 5 (some b) w w') (hne : g ≠ b) (ht : t ≠ 5) : Blk w' g t cs := by
  refine hk g _ h (fun e => hne (Option.some.inj e)) (fun c fz e => ?_)
  cases e
  exact ht rfl
theorem bl_lt {b : Nat} {bs : List Value} {x : World} (h : Lib.IsBuilderF 67 5 b b bs x) : b < x.heap.size := by
  rcases h with ⟨_, v, h2, _⟩ | ⟨_, v, h2, _⟩ <;> exact (Array.getElem?_eq_some_iff.1 h2).1
/-- How many parameters one sequence takes: whole groups, at most 16. -/
def manyTo (l : List Int) (m : Nat) : Nat := if _h : m < l.length ∧ m + groupN (l.drop m) ≤ 16 then manyTo l (m + groupN (l.drop m)) else m
termination_by l.length - m
decreasing_by
  have := (groupN_le (l.drop m) (by rw [List.length_drop]; omega)).1
  omega
theorem manyTo_ge (l : List Int) (m : Nat) (hm : m ≤ l.length) (h16 : m ≤ 16) : m ≤ manyTo l m ∧ manyTo l m ≤ l.length ∧ manyTo l m ≤ 16 := by
  generalize hq : l.length - m = q
  induction q using Nat.strongRecOn generalizing m with
  | _ q ih =>
    unfold manyTo
    split
    · rename_i h
      have hg := groupN_le (l.drop m) (by rw [List.length_drop]; omega)
      rw [List.length_drop] at hg
      have := ih (l.length - (m + groupN (l.drop m))) (by omega) (m + groupN (l.drop m)) (by omega) h.2 rfl
      omega
    · omega
theorem manyTo_pos {l : List Int} (h : 0 < l.length) : 1 ≤ manyTo l 0 := by
  have hg := groupN_le (l.drop 0) (by rw [List.length_drop]; omega)
  rw [List.length_drop] at hg
  unfold manyTo
  rw [dif_pos ⟨h, by omega⟩]
  have := (manyTo_ge l (0 + groupN (l.drop 0)) (by omega) (by omega)).1
  omega
/-- The control sequences that say parameters. -/
def sgrL (l : List Int) : List UInt8 := if _h : 0 < l.length then [27, 91] ++ joinL (l.take (manyTo l 0)) ++ [109] ++ sgrL (l.drop (manyTo l 0)) else []
termination_by l.length
decreasing_by
  have := manyTo_pos _h
  rw [List.length_drop]
  omega
theorem smI.sub {l : List Int} (h : smI l) (k : Nat) : smI (l.drop k) ∧ smI (l.take k) := ⟨fun x hx => h x (List.mem_of_mem_drop hx), fun x hx => h x (List.mem_of_mem_take hx)⟩
theorem Reads.subI {w : World} {B n : Nat} {ad : Addr} {l : List Int} (h : Reads w B 1 (some ad) n (ivals l)) (hl : l.length = n) {k : Nat} (hk : k ≤ n) : Reads w B 1 (some (ad.add k)) (n - k) (ivals (l.drop k)) := by
  refine ⟨by rw [ivals_length, List.length_drop]; omega, fun hm => ?_⟩
  obtain ⟨ad', e, hb, hc⟩ := h.2 (by omega)
  injection e with e
  subst e
  refine ⟨_, rfl, by rw [block_of_add]; exact hb, fun i u hu => ?_⟩
  rw [add_of_add]
  refine hc (k + i) u ?_
  unfold ivals at hu ⊢
  rw [List.getElem?_map, List.getElem?_drop] at hu
  rw [List.getElem?_map]
  exact hu
def lenOf : Value → Nat
  | .slice _ n _ => n
  | _ => 0
end Go.Proofs.YthophmihgmjnfaaDoor
