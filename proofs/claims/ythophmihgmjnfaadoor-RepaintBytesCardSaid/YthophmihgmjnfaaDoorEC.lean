/- The symbolic evaluator is sound: operations that change memory, and calls. -/
import Derived.Test.YthophmihgmjnfaaDoorEB
import Derived.Test.YthophmihgmjnfaaDoorAbsC
import Derived.Laws.MakeOwn
import Derived.Laws.IdiomStrings
set_option linter.unusedVariables false
set_option linter.unusedSimpArgs false
-- --
namespace Go.Sy
open Go.RowKit (Below)
variable {P : Program} {w0 : World} {F : Nat → Prop} {N : Nat} {s : St} {a : Act} {w : World}

/-- What a step leaves of the own variables. -/
structure Moves (s s' : St) (ch : List Nat) : Prop where
  old : ∀ (k : Nat) (l : Loc), s.L[k]? = some l → ∃ l', s'.L[k]? = some l' ∧ l'.blk = l.blk ∧ l.ver ≤ l'.ver ∧ (l'.ver = l.ver → l'.cells = l.cells) ∧ (k ∉ ch → l' = l) ∧ l'.ty = l.ty ∧ l'.cells.length = l.cells.length
theorem Moves.refl (s : St) (ch : List Nat) : Moves s s ch := ⟨fun _ l hl => ⟨l, hl, rfl, Nat.le_refl _, fun _ => rfl, fun _ => rfl, rfl, rfl⟩⟩

theorem alloc_heap (w : World) (o : Obj) (k : Nat) (h : k < w.heap.size) : (w.alloc o).heap[k]? = w.heap[k]? := Below.heap_alloc w o k h
theorem alloc_here (w : World) (o : Obj) : (w.alloc o).heap[w.heap.size]? = some o := by
  show (w.heap.push o)[w.heap.size]? = _
  simp
theorem alloc_size (w : World) (o : Obj) : (w.alloc o).heap.size = w.heap.size + 1 := by
  show (w.heap.push o).size = _
  simp

theorem Whole.lt {w : World} {b : Nat} {t : TypeId} {cs : List Value} (h : Whole w b t cs) : b < w.heap.size := (Array.getElem?_eq_some_iff.1 h).1

/-- A new variable. -/
theorem Ok.alloc (H : Ok w0 F N s a w) {t : TypeId} {cs : List SV} (hc : okvs s.L.length cs) (hs : cs.all SV.scalar = true) :
    Ok w0 F N { s with L := s.L ++ [⟨w.heap.size, t, cs, 0⟩] } a (w.alloc (.cells (reals (blks s.L) cs).toArray t)) ∧
    (∀ v, okv s.L.length v → real (blks (s.L ++ [⟨w.heap.size, t, cs, 0⟩])) v = real (blks s.L) v) ∧ (blks (s.L ++ [⟨w.heap.size, t, cs, 0⟩])).getD s.L.length 0 = w.heap.size ∧ Moves s { s with L := s.L ++ [⟨w.heap.size, t, cs, 0⟩] } [] := by
  have hget : ∀ (k : Nat) (l : Loc), s.L[k]? = some l → (s.L ++ [⟨w.heap.size, t, cs, 0⟩])[k]? = some l := fun k l hl => by
    rw [List.getElem?_append_left (List.getElem?_eq_some_iff.1 hl).1]; exact hl
  have hcase : ∀ (k : Nat) (l : Loc), (s.L ++ [⟨w.heap.size, t, cs, 0⟩])[k]? = some l → s.L[k]? = some l ∨ (k = s.L.length ∧ l = ⟨w.heap.size, t, cs, 0⟩) := fun k l hl => by
    rcases Nat.lt_or_ge k s.L.length with h | h
    · rw [List.getElem?_append_left h] at hl; exact .inl hl
    · rw [List.getElem?_append_right h] at hl
      cases hk : k - s.L.length with
      | zero => rw [hk] at hl; cases hl; exact .inr ⟨by omega, rfl⟩
      | succ m => rw [hk] at hl; simp at hl
  have hal : Alike s.L.length (blks s.L) (blks (s.L ++ [⟨w.heap.size, t, cs, 0⟩])) := alike_of fun k l hl => ⟨l, hget k l hl, rfl⟩
  have hlen : (s.L ++ [(⟨w.heap.size, t, cs, 0⟩ : Loc)]).length = s.L.length + 1 := by simp
  have hnew : (s.L ++ [(⟨w.heap.size, t, cs, 0⟩ : Loc)])[s.L.length]? = some ⟨w.heap.size, t, cs, 0⟩ := by rw [List.getElem?_append_right (Nat.le_refl _)]; simp
  have hlo : w0.heap.size ≤ w.heap.size := Nat.le_trans H.frame.size H.grow.size
  refine ⟨⟨by rw [hlen]; exact H.env.alike (Nat.le_succ _) hal, H.size, H.defers, fun k l hl => ?_, fun k l hl => ?_, fun j k l m hl hm e => ?_, by rw [hlen]; exact Nat.le_succ_of_le H.nb, fun k l hk hl => ?_, ?_, H.frame, fun b hb => ?_⟩,
    fun v hv => real_alike hal v hv, blks_get hnew, ⟨fun k l hl => ⟨l, hget k l hl, rfl, Nat.le_refl _, fun _ => rfl, fun _ => rfl, rfl, rfl⟩⟩⟩
  · rw [hlen]
    rcases hcase k l hl with h | ⟨_, rfl⟩
    · exact ⟨okvs_mono (Nat.le_succ _) _ (H.cells k l h).1, (H.cells k l h).2⟩
    · exact ⟨okvs_mono (Nat.le_succ _) _ hc, hs⟩
  · rcases hcase k l hl with h | ⟨_, rfl⟩
    · obtain ⟨h1, h2⟩ := H.lies k l h
      refine ⟨?_, h2⟩
      show Whole _ _ _ (reals (blks (s.L ++ [⟨w.heap.size, t, cs, 0⟩])) l.cells)
      rw [reals_alike hal _ (H.cells k l h).1]
      unfold Whole at *
      rw [alloc_heap _ _ _ (Whole.lt h1)]
      exact h1
    · refine ⟨?_, hlo⟩
      show Whole _ _ _ (reals (blks (s.L ++ [⟨w.heap.size, t, cs, 0⟩])) cs)
      rw [reals_alike hal _ hc]
      exact alloc_here w _
  · rcases hcase j l hl with h | ⟨rfl, rfl⟩
    · rcases hcase k m hm with h' | ⟨rfl, rfl⟩
      · exact H.apart j k l m h h' e
      · have := Whole.lt (H.lies j l h).1; simp only at e; omega
    · rcases hcase k m hm with h' | ⟨rfl, rfl⟩
      · have := Whole.lt (H.lies k m h').1; simp only at e; omega
      · rfl
  · rcases hcase k l hl with h | ⟨_, rfl⟩
    · exact H.newer k l hk h
    · exact H.grow.size
  · exact ⟨H.grow.os, H.grow.tape, H.grow.output, by rw [alloc_size]; exact Nat.le_succ_of_le H.grow.size, fun i h1 h2 => by
      rw [alloc_heap _ _ _ (Nat.lt_of_lt_of_le h1 H.grow.size)]; exact H.grow.heap i h1 h2⟩
  · show b ∈ blks (s.L ++ _)
    rw [blks_append]
    exact List.mem_append_left _ (H.dirty b hb)

/-- A step that the prover sees. -/
theorem Ok.big (H : Ok w0 F N s a w) {w' : World} {L' : List Loc} (hlen : L'.length = s.L.length) (hos : w'.os = w.os) (htape : w'.tape = w.tape) (hout : w'.output = w.output) (hsize : w.heap.size ≤ w'.heap.size)
    (hold : ∀ i, i < w0.heap.size → ¬ F i → w'.heap[i]? = w.heap[i]?) (hL : ∀ (k : Nat) (l : Loc), L'[k]? = some l → ∃ l0, s.L[k]? = some l0 ∧ l.blk = l0.blk ∧ okvs s.L.length l.cells ∧ l.cells.all SV.scalar = true ∧ Whole w' l.blk l.ty (reals (blks s.L) l.cells)) :
    Ok w0 F N (s.at L' w') a w' ∧ blks L' = blks s.L := by
  have hb : blks L' = blks s.L := by
    apply List.ext_getElem?
    intro k
    rcases Nat.lt_or_ge k L'.length with h | h
    · obtain ⟨l0, h1, h2, _⟩ := hL k L'[k] (List.getElem?_eq_getElem h)
      have e1 : (blks L').getD k 0 = L'[k].blk := blks_get (List.getElem?_eq_getElem h)
      have e2 : (blks s.L).getD k 0 = l0.blk := blks_get h1
      have l1 : k < (blks L').length := by rw [blks_length]; exact h
      have l2 : k < (blks s.L).length := by rw [blks_length, ← hlen]; exact h
      rw [List.getD_eq_getElem?_getD, List.getElem?_eq_getElem l1] at e1
      rw [List.getD_eq_getElem?_getD, List.getElem?_eq_getElem l2] at e2
      simp only [Option.getD_some] at e1 e2
      rw [List.getElem?_eq_getElem l1, List.getElem?_eq_getElem l2, e1, e2, h2]
    · rw [List.getElem?_eq_none (by rw [blks_length]; exact h), List.getElem?_eq_none (by rw [blks_length, ← hlen]; exact h)]
  refine ⟨⟨?_, H.size, H.defers, fun k l hl => ?_, fun k l hl => ?_, fun j k l m hl hm e => ?_, Nat.le_refl _, fun k l hk hl => ?_, Ext.refl _ _, ?_, fun b hb => (by cases hb)⟩, hb⟩
  · show EnvOk L'.length (blks L') s.T a.tmps
    rw [hb, hlen]; exact H.env
  · obtain ⟨_, _, _, h1, h2, _⟩ := hL k l hl
    exact ⟨by show okvs L'.length _; rw [hlen]; exact h1, h2⟩
  · obtain ⟨l0, h0, h1, _, _, h2⟩ := hL k l hl
    exact ⟨by show Whole w' _ _ (reals (blks L') _); rw [hb]; exact h2, by rw [h1]; exact (H.lies k l0 h0).2⟩
  · obtain ⟨l0, h0, h1, _⟩ := hL j l hl
    obtain ⟨m0, k0, k1, _⟩ := hL k m hm
    exact H.apart j k l0 m0 h0 k0 (by rw [← h1, ← k1, e])
  · have : k < L'.length := (List.getElem?_eq_some_iff.1 hl).1
    have hk' : L'.length ≤ k := hk
    exact absurd this (by omega)
  · refine ⟨?_, ?_, ?_, ?_, fun i h1 h2 => ?_⟩
    · show w'.os = w0.os; rw [hos, H.grow.os, H.frame.os]
    · show w'.tape = w0.tape; rw [htape, H.grow.tape, H.frame.tape]
    · show w'.output = w0.output; rw [hout, H.grow.output, H.frame.output]
    · exact Nat.le_trans H.frame.size (Nat.le_trans H.grow.size hsize)
    · show w'.heap[i]? = _
      rw [hold i h1 h2, H.grow.heap i (Nat.lt_of_lt_of_le h1 H.frame.size) ?_, H.frame.heap i h1 h2]
      intro hm
      obtain ⟨k, l, hl, rfl⟩ := blks_mem (H.dirty i hm)
      exact absurd (H.lies k l hl).2 (by omega)

/-- The same, where the own variables are as they were. -/
theorem Ok.big0 (H : Ok w0 F N s a w) {w' : World} (hos : w'.os = w.os) (htape : w'.tape = w.tape) (hout : w'.output = w.output) (hsize : w.heap.size ≤ w'.heap.size)
    (hold : ∀ i, i < w0.heap.size → ¬ F i → w'.heap[i]? = w.heap[i]?) (hown : ∀ b ∈ blks s.L, w'.heap[b]? = w.heap[b]?) : Ok w0 F N (s.at s.L w') a w' :=
  (H.big rfl hos htape hout hsize hold fun k l hl => ⟨l, hl, rfl, (H.cells k l hl).1, (H.cells k l hl).2, by
    have := (H.lies k l hl).1
    unfold Whole at *
    rw [hown _ (mem_blks hl)]; exact this⟩).1

theorem writeLoc_sound {L L' : List Loc} {k off : Nat} {vs : List SV} (h : writeLoc L k off vs = some L') : ∃ l, L[k]? = some l ∧ off + vs.length ≤ l.cells.length ∧
    L' = L.take k ++ { l with cells := l.cells.take off ++ (vs ++ l.cells.drop (off + vs.length)), ver := l.ver + 1 } :: L.drop (k + 1) := by
  unfold writeLoc at h
  split at h
  · rename_i l hl
    split at h
    · rename_i hle
      cases h
      exact ⟨l, hl, Nat.le_of_ble_eq_true hle, rfl⟩
    · cases h
  · cases h
theorem splice_get {L : List Loc} {k : Nat} {l x : Loc} (hl : L[k]? = some l) (j : Nat) : (L.take k ++ x :: L.drop (k + 1))[j]? = if j = k then some x else L[j]? := by
  have hk := (List.getElem?_eq_some_iff.1 hl).1
  have ht : (L.take k).length = k := by simp; omega
  by_cases hj : j = k
  · subst hj
    rw [if_pos rfl, List.getElem?_append_right (by omega), ht, Nat.sub_self]; rfl
  · rw [if_neg hj]
    rcases Nat.lt_or_ge j k with h | h
    · rw [List.getElem?_append_left (by omega), List.getElem?_take, if_pos h]
    · rw [List.getElem?_append_right (by omega), ht]
      obtain ⟨m, rfl⟩ : ∃ m, j = k + 1 + m := ⟨j - k - 1, by omega⟩
      rw [show k + 1 + m - k = m + 1 by omega, List.getElem?_cons_succ, List.getElem?_drop]

theorem run_storeAt {t : TypeId} {m : Nat} (hm : size? P t = some m) {ad : Addr} {o : Nat} {v : Value} {vs : List Value} (hv : v.cells = vs.toArray) (hl : vs.length = m) (h1 : ∀ u ∈ vs, u.oneCell' = true)
    (hsp : ad.spot = none) {cs : Array Value} {ty : TypeId} (hh : w.heap[ad.block]? = some (.cells cs ty (0, 0))) (hle : ad.off + o + m ≤ cs.size) :
    ∃ w', (Instr.storeAt t (adrVal ad o) v).run P w = .ok () w' ∧ Abs.Spliced w w' ad.block (ad.off + o) vs cs ty (0, 0) := by
  obtain ⟨w', hr, hs⟩ := Abs.run_storeCells (P := P) ad.block (ad.off + o) ty (0, 0) vs 0 w cs hh (by omega) (fun k _ _ => by simp) h1
  refine ⟨w', ?_, hs⟩
  have e : ad.add o = ⟨ad.block, ad.off + o, none⟩ := by
    unfold Addr.add
    split
    · rename_i h0; subst h0; cases ad; simp_all
    · rfl
  rw [adrVal_eq, e]
  simp only [Instr.storeAt, Instr.sureAddr, Sem.run_bind, Sem.run_pure, Result.andThen_ok, storeVar, run_sizeOf hm, hv]
  rw [if_neg (by simp [hl])]
  exact hr

end Go.Sy

namespace Go.Sy
open Go.RowKit (Below)
variable {P : Program} {w0 : World} {F : Nat → Prop} {N : Nat} {s : St} {a : Act} {w : World}

/-- What follows a step that is not a calm one. -/
def Next (P : Program) (w0 : World) (F : Nat → Prop) (N : Nat) (s : St) (o : Oper) (a : Act) (K : SV → St → List Nat → Prop) (next : Act → World → Prop) : Prop :=
  ∀ v s' ch w', K v s' ch → Moves s s' ch → (isBig P o s = true → s'.D = []) → (isBig P o s = false → s'.wb = s.wb) → Ok w0 F N s' a w' → okv s'.L.length v → next (a.put o.dst (real (blks s'.L) v)) w'

theorem lies_elim {β : List Nat} {w : World} : ∀ {L : List Loc} {Q : Prop}, lies w0 β w L Q → (∀ l ∈ L, w0.heap.size ≤ l.blk ∧ Whole w l.blk l.ty (reals β l.cells)) → Q
  | [], Q, h, _ => h
  | l :: L, Q, h, hl => lies_elim (h (hl l (by simp))) fun m hm => hl m (by simp [hm])
theorem liesIf_elim (H : Ok w0 F N s a w) {c : Bool} {Q : Prop} (h : liesIf w0 c s.L w Q) : Q := by
  unfold liesIf at h
  cases c with
  | false => exact h
  | true =>
    refine lies_elim h fun l hl => ?_
    obtain ⟨k, hk⟩ := List.mem_iff_getElem?.1 hl
    exact ⟨(H.lies k l hk).2, (H.lies k l hk).1⟩

theorem kinds_mem : ∀ {L : List Loc} {p : Nat × TypeId}, p ∈ kinds L → ∃ (k : Nat) (l : Loc), L[k]? = some l ∧ p = (l.blk, l.ty)
  | [], _, h => (by cases h)
  | l :: L, p, h => by
    rcases List.mem_cons.1 h with rfl | h
    · exact ⟨0, l, rfl, rfl⟩
    · obtain ⟨k, m, h1, h2⟩ := kinds_mem h
      exact ⟨k + 1, m, h1, h2⟩
theorem callLies_elim (H : Ok w0 F N s a w) {c : Bool} {Q : Prop} (h : callLies w0 c s.L w Q) : Q := by
  unfold callLies at h
  cases c with
  | true => exact liesIf_elim H (c := true) h
  | false =>
    have key : Mine w w0.heap.size (kinds s.L) := fun p hp => by
      obtain ⟨k, l, h1, rfl⟩ := kinds_mem hp
      exact ⟨(H.lies k l h1).2, _, (H.lies k l h1).1⟩
    revert h key
    generalize s.L = L
    intro h key
    cases L with
    | nil => exact h
    | cons l ls => exact h key
theorem offOwn_elim {bs : List Nat} {p : Option Addr} {Q : Prop} (h : offOwn bs p Q) (hp : ∀ a, p = some a → a.block ∉ bs) : Q := by
  cases bs with
  | nil => exact h
  | cons b bs => exact h hp
theorem notOwn_elim {bs : List Nat} {x : Nat} {Q : Prop} (h : notOwn bs x Q) (hx : x ∉ bs) : Q := by
  cases bs with
  | nil => exact h
  | cons b bs => exact h hx
theorem blk_old (H : Ok w0 F N s a w) {b : Nat} (hb : w.heap.size ≤ b) : b ∉ blks s.L := fun hm => by
  obtain ⟨k, l, hl, rfl⟩ := blks_mem hm
  exact absurd (Whole.lt (H.lies k l hl).1) (by omega)

theorem exRes_elim : ∀ {rs : List (Bool × List Sh)} {K : List SV → Prop}, exRes rs K → ∃ vs, okvs 0 vs ∧ K vs
  | [], K, h => ⟨[], trivial, h⟩
  | (g, sh) :: rs, K, h => by
    obtain ⟨cs, h1, h2, _, h⟩ := exV_elim (show exV sh _ from h)
    cases g with
    | true =>
      obtain ⟨vs, k1, k2⟩ := exRes_elim h
      exact ⟨.agg cs :: vs, ⟨⟨h1, h2⟩, k1⟩, k2⟩
    | false =>
      cases cs with
      | nil => exact h.elim
      | cons c rest =>
        cases rest with
        | cons _ _ => exact h.elim
        | nil =>
          obtain ⟨vs, k1, k2⟩ := exRes_elim h
          exact ⟨c :: vs, ⟨h1.1, k1⟩, k2⟩
theorem resVal_ok {n : Nat} {vs : List SV} (h : okvs n vs) : okv n (resVal vs) := by
  unfold resVal
  split
  · exact h.1
  · exact h

/-- Own variables that were handed to a call. -/
theorem again_elim {β : List Nat} {w : World} : ∀ {ks : List Nat} {L : List Loc} {K : List Loc → Prop}, again β w ks L K →
    ∃ L', K L' ∧ L'.length = L.length ∧ (∀ (k : Nat) (l : Loc), L[k]? = some l → ∃ l', L'[k]? = some l' ∧ l'.blk = l.blk ∧ l'.ty = l.ty ∧ l.ver ≤ l'.ver ∧ (l'.ver = l.ver → l' = l) ∧ (k ∉ ks → l' = l) ∧ (k ∈ ks → Whole w l.blk l.ty (reals β l'.cells)) ∧
      (l' = l ∨ (okvs 0 l'.cells ∧ l'.cells.all SV.scalar = true)) ∧ l'.cells.length = l.cells.length)
  | [], L, K, h => ⟨L, h, rfl, fun k l hl => ⟨l, hl, rfl, rfl, Nat.le_refl _, fun _ => rfl, fun _ => rfl, fun hk => (by cases hk), .inl rfl, rfl⟩⟩
  | k0 :: ks, L, K, h => by
    unfold again at h
    split at h
    · rename_i l0 hl0
      split at h
      · rename_i sh hsh
        obtain ⟨cs, c1, c2, clen, hw, h⟩ := exV_elim h
        have hcl : cs.length = l0.cells.length := by rw [clen, shsOf_length hsh]
        obtain ⟨L', k1, k2, k3⟩ := again_elim h
        have hlen : (L.take k0 ++ { l0 with cells := cs, ver := l0.ver + 1 } :: L.drop (k0 + 1)).length = L.length := by
          have := (List.getElem?_eq_some_iff.1 hl0).1
          simp; omega
        refine ⟨L', k1, by rw [k2, hlen], fun k l hl => ?_⟩
        by_cases hk : k = k0
        · subst hk
          obtain rfl : l0 = l := by rw [hl0] at hl; exact Option.some.inj hl
          obtain ⟨l', q1, q2, q3, q4, q5, q6, q7, q8, q9⟩ := k3 k { l0 with cells := cs, ver := l0.ver + 1 } (by rw [splice_get hl0]; simp)
          simp only at q2 q3 q4 q5 q7 q9
          refine ⟨l', q1, q2, q3, by omega, fun e => by omega, fun e => absurd (by simp) e, fun _ => ?_, ?_, by rw [q9, hcl]⟩
          · by_cases hm : k ∈ ks
            · exact q7 hm
            · rw [q6 hm]; exact hw
          · rcases q8 with rfl | q8
            · exact .inr ⟨c1, c2⟩
            · exact .inr q8
        · obtain ⟨l', q1, q2, q3, q4, q5, q6, q7, q8, q9⟩ := k3 k l (by rw [splice_get hl0, if_neg hk]; exact hl)
          exact ⟨l', q1, q2, q3, q4, q5, fun hn => q6 fun hm => hn (List.mem_cons_of_mem _ hm), fun hm => q7 ((List.mem_cons.1 hm).resolve_left hk), q8, q9⟩
      · obtain ⟨hw, h⟩ := h
        obtain ⟨L', k1, k2, k3⟩ := again_elim h
        refine ⟨L', k1, k2, fun k l hl => ?_⟩
        obtain ⟨l', q1, q2, q3, q4, q5, q6, q7, q8, q9⟩ := k3 k l hl
        refine ⟨l', q1, q2, q3, q4, q5, fun hn => q6 fun hm => hn (List.mem_cons_of_mem _ hm), fun hm => ?_, q8, q9⟩
        rcases List.mem_cons.1 hm with rfl | hm
        · obtain rfl : l0 = l := by rw [hl0] at hl; exact Option.some.inj hl
          by_cases hm : k ∈ ks
          · exact q7 hm
          · rw [q6 hm]; exact hw
        · exact q7 hm
    · exact h.elim

theorem keptBlks_mem {E : List Nat} : ∀ {L : List Loc} {b k : Nat} {l : Loc}, L[k]? = some l → (b + k) ∉ E → l.blk ∈ keptBlks E b L
  | [], b, k, l, h, _ => by simp at h
  | x :: L, b, 0, l, h, hk => by
    cases h
    have : E.elem b = false := by simpa using hk
    unfold keptBlks
    rw [this]
    exact List.mem_cons_self ..
  | x :: L, b, k + 1, l, h, hk => by
    have ih := keptBlks_mem (E := E) (L := L) (b := b + 1) (k := k) (l := l) (by simpa using h) (by rw [show b + 1 + k = b + (k + 1) by omega]; exact hk)
    unfold keptBlks
    split
    · exact ih
    · exact List.mem_cons_of_mem _ ih

theorem callAt_sound (H : Ok w0 F N s a w) {o : Oper} {f : FuncId} {args : List SV} {K : SV → St → List Nat → Prop} {next : Act → World → Prop} {Q : Exit → Act → World → Prop} (hbig : isBig P o s = true)
    (h : callAt P w0 F f args s K) (hK : Next P w0 F N s o a K next) : o.upon P a next Q ((callFunc f (reals (blks s.L) args).toArray).run P w) := by
  unfold callAt at h
  split at h
  · rename_i fn hfn
    split at h
    · rename_i c hb
      split at h
      · rename_i hname
        split at h
        · rename_i rs hrs
          have h1 : fn.name ≠ "runtime.NumGoroutine" := by simpa using hname
          have hcf : (callFunc f (reals (blks s.L) args).toArray).run P w = .ok (.enter f (reals (blks s.L) args).toArray) w := by simp [callFunc, hfn, h1, hb]
          rw [hcf, Oper.upon_enter]
          refine (callLies_elim H (h w H.grow.grow)).out.mono ?_
          intro e w2 he
          obtain ⟨vs, k1, rfl, hk, ha⟩ := exRes_elim he
          obtain ⟨L', q1, q2, q3⟩ := again_elim ha
          have hcase : ∀ (k : Nat) (l : Loc), L'[k]? = some l → ∃ l0, s.L[k]? = some l0 ∧ l.blk = l0.blk ∧ okvs s.L.length l.cells ∧ l.cells.all SV.scalar = true ∧ Whole w2 l.blk l.ty (reals (blks s.L) l.cells) := by
            intro k l hl
            have hlt : k < s.L.length := by rw [← q2]; exact (List.getElem?_eq_some_iff.1 hl).1
            obtain ⟨l', r1, r2, r3, r4, r5, r6, r7, r8, _⟩ := q3 k s.L[k] (List.getElem?_eq_getElem hlt)
            obtain rfl : l = l' := by rw [hl] at r1; exact Option.some.inj r1
            have hh := H.cells k s.L[k] (List.getElem?_eq_getElem hlt)
            refine ⟨s.L[k], List.getElem?_eq_getElem hlt, r2, ?_, ?_, ?_⟩
            · rcases r8 with r8 | r8
              · rw [r8]; exact hh.1
              · exact okvs_mono (Nat.zero_le _) _ r8.1
            · rcases r8 with r8 | r8
              · rw [r8]; exact hh.2
              · exact r8.2
            · by_cases hm : k ∈ dedup (locsAll args)
              · rw [r2, r3]; exact r7 hm
              · rw [r6 hm]
                have hw := (H.lies k s.L[k] (List.getElem?_eq_getElem hlt)).1
                unfold Whole at *
                rw [hk.own _ (keptBlks_mem (b := 0) (List.getElem?_eq_getElem hlt) (by simpa using hm)) (H.lies k s.L[k] (List.getElem?_eq_getElem hlt)).2 (Array.getElem?_eq_some_iff.1 hw).1]
                exact hw
          obtain ⟨hok, hbl⟩ := H.big q2 hk.os hk.tape hk.output hk.size (fun i h1 h2 => hk.old i h1 (Nat.lt_of_lt_of_le h1 (Nat.le_trans H.frame.size H.grow.size)) h2) hcase
          have hv : okv (s.at L' w2).L.length (resVal vs) := okv_mono (Nat.zero_le _) _ (resVal_ok k1)
          have hr : real (blks (s.at L' w2).L) (resVal vs) = real (blks s.L) (resVal vs) := by show real (blks L') _ = _; rw [hbl]
          have := hK _ (s.at L' w2) _ w2 q1 ⟨fun k l hl => ?_⟩ (fun _ => rfl) (fun e => by rw [hbig] at e; cases e) hok hv
          · rwa [hr] at this
          · obtain ⟨l', r1, r2, r3, r4, r5, r6, _, _, r9⟩ := q3 k l hl
            exact ⟨l', r1, r2, r4, fun e => by rw [r5 e], r6, r3, r9⟩
        · exact h.elim
      · exact h.elim
    · exact h.elim
  · exact h.elim

theorem put_upon {o : Oper} {next : Act → World → Prop} {Q : Exit → Act → World → Prop} {v : Value} {w' : World} {m : Sem Value} (hr : m.run P w = .ok v w') (h : next (a.put o.dst v) w') :
    o.upon P a next Q ((do pure (.value (← m)) : Sem Go.Next).run P w) := by
  rw [Sem.run_bind, hr]; exact h

theorem At.read {w w' : World} {ad : Addr} {o : Nat} {vs : List Value} (h : At w ad o vs) (hb : w'.heap[ad.block]? = w.heap[ad.block]?) : At w' ad o vs := by
  intro i v hv
  rw [← h i v hv]
  refine World.cell?_of_block ?_
  have e : (ad.add (o + i)).block = ad.block := by unfold Addr.add; split <;> rfl
  rw [e]; exact hb

end Go.Sy

namespace Go.Sy
open Go.RowKit (Below)
variable {P : Program} {w0 : World} {F : Nat → Prop} {N : Nat} {s : St} {a : Act} {w : World}

theorem owned_at {L : List Loc} {w : World} {k off m : Nat} {cs : List SV} (hL : ∀ (k : Nat) (l : Loc), L[k]? = some l → Whole w l.blk l.ty (reals (blks L) l.cells)) (h : readLoc L k off m = some cs) : At w ⟨(blks L).getD k 0, off, none⟩ 0 (reals (blks L) cs) := by
  obtain ⟨l, hl, _, hc⟩ := readLoc_sound h
  exact At.own hl (hL k l hl) hc

theorem source_sound (H : Ok w0 F N s a w) {es : Nat} {y : SV} {K : Nat → List Value → Prop} (h : source s.L s.D s.wb es y K) :
    ∃ ad m c xs, K m xs ∧ real (blks s.L) y = .slice (some ad) m c ∧ xs.length = m * es ∧ (∀ j u, xs[j]? = some u → w.cell? (ad.add j) = some u) ∧ ∀ u ∈ xs, u.oneCell' = true := by
  unfold source at h
  split at h
  · rename_i k o m c
    split at h
    · rename_i cs hcs
      obtain ⟨l, hl, hle, hc⟩ := readLoc_sound hcs
      refine ⟨_, m, c, _, h, rfl, ?_, fun j u hu => ?_, ?_⟩
      · rw [reals_length, hc]; simp; omega
      · have := owned_at (fun k l hl => (H.lies k l hl).1) hcs j u hu
        rwa [Nat.zero_add] at this
      · obtain ⟨o1, o2⟩ := H.cells k l hl
        subst hc
        exact mem_one (okvs_iff.2 fun u hu => okvs_iff.1 o1 u (List.mem_of_mem_drop (List.mem_of_mem_take hu))) (List.all_eq_true.2 fun u hu => List.all_eq_true.1 o2 u (List.mem_of_mem_drop (List.mem_of_mem_take hu)))
    · exact h.elim
  · rename_i p m c
    obtain ⟨ad, rfl, xs, ⟨h1, h2, h3⟩, h⟩ := h
    obtain ⟨hd, h⟩ := notIn_sound h
    exact ⟨ad, m, c, xs, h, rfl, h1, fun j u hu => by have := h3.grown H.grow hd j u hu; rwa [Nat.zero_add] at this, h2⟩
  · exact h.elim

theorem ownsRow_move {w w' : World} {e : TypeId} {es : Nat} {p : Option Addr} {n c : Nat} {cs : List Value} (h : w.ownsRow 0 e es (.slice p n c) n cs) (hb : ∀ ad, p = some ad → ad.block < w.heap.size → w'.heap[ad.block]? = w.heap[ad.block]?) : w'.ownsRow 0 e es (.slice p n c) n cs := by
  refine ⟨h.1, ?_⟩
  rcases h.2 with h2 | ⟨g, cap, cur, e1, e2, e3, e4⟩
  · exact .inl h2
  · cases e1
    exact .inr ⟨g, c, cur, rfl, e2, by rw [hb _ rfl (Array.getElem?_eq_some_iff.1 e3).1]; exact e3, e4⟩

set_option maxRecDepth 10000 in
theorem appendAt_sound (H : Ok w0 F N s a w) {o : Oper} {t : TypeId} {x y : SV} {K : SV → St → List Nat → Prop} {next : Act → World → Prop} {Q : Exit → Act → World → Prop} (hbig : isBig P o s = true) (ty : TypeId)
    (h : appendAt P w0 F t x y s K) (hK : Next P w0 F N s o a K next) : o.upon P a next Q ((do pure (.value (← Builtin.append_ #[t, t] ty #[real (blks s.L) x, real (blks s.L) y])) : Sem Go.Next).run P w) := by
  unfold appendAt at h
  split at h
  · rename_i e p n c hu
    split at h
    · rename_i es by_ z hes hby hz
      split at h
      · rename_i hpos
        simp only [Bool.and_eq_true, Nat.blt_eq, Nat.beq_eq] at hpos
        obtain ⟨hpos, hzl⟩ := hpos
        obtain ⟨zv, _, hzc, hzt, i0, hi0, hiz⟩ := run_zero hz w
        obtain ⟨zf, _, _⟩ := flat_sound (β := blks s.L) (hzc s.L.length (blks s.L)).1
        rw [(hzc s.L.length (blks s.L)).2] at zf
        have hzs : zv.cells.size = es := by rw [zf]; simp [reals_length, hzl]
        obtain ⟨cs, hroom, h⟩ := h
        obtain ⟨ad, m, c', xs, ⟨hbound, h⟩, hy, hl, hat, hone⟩ := source_sound H h
        obtain ⟨i, hi, hisz⟩ := Option.map_eq_some_iff.1 (show (P.info? e).map (·.size) = some es from hes)
        obtain ⟨i', hi', hiby⟩ := Option.map_eq_some_iff.1 (show (P.info? e).map (·.bytes) = some by_ from hby)
        obtain rfl : i = i' := by rw [hi] at hi'; exact Option.some.inj hi'
        have hblk : ∀ ad', p = some ad' → ad'.block < s.wb.heap.size → w.heap[ad'.block]? = s.wb.heap[ad'.block]? := fun ad' hp hlt =>
          H.grow.heap _ hlt fun hm => (hroom.away ad' hp).1 (H.dirty _ hm)
        have hrow := ownsRow_move hroom.row hblk
        have hnm : n + m ≤ (n + m) * by_ := Nat.le_mul_of_pos_right _ hpos.2
        obtain rfl : i = i0 := by rw [hi] at hi0; exact Option.some.inj hi0
        obtain ⟨v', w', hr, hown, hg, hnil⟩ := run_append_own (P := P) w 0 t ty e i zv es by_ hu hi hiz hisz hiby hzs hpos.1 (.slice p n c) n cs hrow ad m c' xs hl hat hone
          (by simp only [maxLen]; omega) hbound (Nat.zero_le _)
        rw [hy]
        refine put_upon hr ?_
        have hform : ∃ p2 c2, v' = .slice p2 (n + m) c2 ∧ (∀ ad2, p2 = some ad2 → (∃ b, p = some b ∧ ad2.block = b.block) ∨ w.heap.size ≤ ad2.block) := by
          rcases hrow.2 with ⟨he, hn0⟩ | ⟨g, cap, cur, he, _, hg0, hnc, hcm, hcs, htake⟩
          · cases he
            clear hn0
            by_cases hm : m = 0
            · exact ⟨none, 0, by rw [hnil.2 ⟨rfl, hm⟩, hm, Nat.zero_add], fun _ e => (by cases e)⟩
            · have hr2 := run_append_nil (P := P) w t ty e i zv hu hi hiz ad m c' xs (by rw [hisz]; exact hl) hat (by omega) (by omega) (by rw [hiby]; have hb := hbound; simp only [Nat.zero_add] at hb; omega)
              have := hr.symm.trans hr2
              injection this with e1 _
              exact ⟨_, _, by rw [e1, Nat.zero_add], fun ad2 e2 => by cases e2; exact .inr (Nat.le_refl _)⟩
          · cases he
            by_cases hfit : n + m ≤ c
            · have hr2 := run_append_room (P := P) w t ty e i hu hi g n c cur hg0 ad m c' xs (by rw [hisz]; exact hl) hat hone hfit (by rw [hisz, hl, hcs, ← Nat.add_mul]; exact Nat.mul_le_mul_right _ hfit)
              have := hr.symm.trans hr2
              injection this with e1 _
              exact ⟨_, _, e1, fun ad2 e2 => by cases e2; exact .inl ⟨_, rfl, rfl⟩⟩
            · have hr2 := run_append_grow (P := P) w t ty e i zv hu hi hiz ⟨g, 0, none⟩ n c cs (by rw [hisz]; exact hrow.1) (World.ownsRow.cells hrow rfl) ad m c' xs (by rw [hisz]; exact hl) hat (by omega) (by omega) (growslice_fits (by omega) (by rw [hiby]; exact hbound))
              have := hr.symm.trans hr2
              injection this with e1 _
              exact ⟨_, _, e1, fun ad2 e2 => by cases e2; exact .inr (Nat.le_refl _)⟩
        obtain ⟨p2, c2, rfl, hplace⟩ := hform
        have hsame : ∀ k, k < w.heap.size → (∀ ad', p = some ad' → k ≠ ad'.block) → w'.heap[k]? = w.heap[k]? := fun k hk hne => hg.block k hk (fun e => by
          cases p with
          | none => simp [Value.ownBlock] at e
          | some ad' => simp only [Value.ownBlock, Option.some.injEq] at e; exact hne ad' rfl e)
        have hgrown : Grown s.wb s.D p e es (n + m) (cs ++ xs) w' p2 c2 := by
          refine ⟨hown, hg.os.trans H.grow.os, hg.tape.trans H.grow.tape, hg.output.trans H.grow.output, Nat.le_trans H.grow.size hg.size, fun i h1 h2 h3 => ?_, fun ad2 h2 => ?_⟩
          · rw [hsame i (Nat.lt_of_lt_of_le h1 H.grow.size) h3]; exact H.grow.heap i h1 h2
          · rcases hplace ad2 h2 with h3 | h3
            · exact .inl h3
            · exact .inr (Nat.le_trans H.grow.size h3)
        have hok := H.big0 hg.os hg.tape hg.output hg.size (fun i h1 h2 => hsame i (Nat.lt_of_lt_of_le h1 (Nat.le_trans H.frame.size H.grow.size)) fun ad' hp he => h2 (by rw [he]; exact (hroom.away ad' hp).2 (by omega)))
          (fun b hb => by
            obtain ⟨k, l, hl', rfl⟩ := blks_mem hb
            exact hsame _ (Whole.lt (H.lies k l hl').1) fun ad' hp he => (hroom.away ad' hp).1 (by rw [← he]; exact hb))
        have hoff : ∀ ad2, p2 = some ad2 → ad2.block ∉ blks s.L := fun ad2 h2 => by
          rcases hplace ad2 h2 with ⟨b, hb, h3⟩ | h3
          · rw [h3]; exact (hroom.away b hb).1
          · exact blk_old H h3
        exact hK _ (s.at s.L w') [] w' (offOwn_elim (h w' p2 c2 hgrown) hoff) ⟨fun k l hl => ⟨l, hl, rfl, Nat.le_refl _, fun _ => rfl, fun _ => rfl, rfl, rfl⟩⟩ (fun _ => rfl) (fun e => by rw [hbig] at e; cases e) hok trivial
      · exact h.elim
    · exact h.elim
  · exact h.elim

theorem cell_bytes {l : List UInt8} {j : Nat} (hj : j < l.length) : (bytesV l)[j]? = some (.int .u8 (l[j].toNat : Int)) := by
  simp [bytesV, List.getElem?_eq_getElem hj]
theorem conv_sound2 (H : Ok w0 F N s a w) {o : Oper} (hbig : isBig P o s = true) {t d : TypeId} {v : SV} {K : SV → St → List Nat → Prop} {next : Act → World → Prop} {Q : Exit → Act → World → Prop}
    (h : convLoud P t d v s K) (hK : Next P w0 F N s o a K next) : o.upon P a next Q ((do pure (.value (← Go.convert t d (real (blks s.L) v))) : Sem Go.Next).run P w) := by
  have hmv : Moves s (s.at s.L w) [] := ⟨fun k l hl => ⟨l, hl, rfl, Nat.le_refl _, fun _ => rfl, fun _ => rfl, rfl, rfl⟩⟩
  unfold convLoud at h
  split at h
  · rename_i e l hs hd
    split at h
    · rename_i he
      have hr := run_bytes_of_string (P := P) w t d e ⟨l.toArray⟩ hs hd he
      refine put_upon hr ?_
      have hsz : (⟨l.toArray⟩ : ByteArray).size = l.length := by show l.toArray.size = _; simp
      generalize hC : bytesRow ⟨l.toArray⟩ (grownCap w (⟨l.toArray⟩ : ByteArray).size 0 e) = C
      rw [hsz] at *
      have hcap : l.length ≤ grownCap w l.length 0 e := by
        first
          | exact grownCap_ge w l.length 0 e
          | (unfold grownCap; omega)
      have hcell : ∀ j v, (bytesV l)[j]? = some v → C[j]? = some v := fun j v hj => by
        have hjl : j < l.length := by
          have := (List.getElem?_eq_some_iff.1 hj).1
          simpa [bytesV] using this
        rw [← hC, bytesRow_at _ _ _ (by show j < l.toArray.size; simpa using hjl)]
        rw [cell_bytes hjl] at hj
        rw [← hj]
        simp
      have hf : FromStr s.wb s.D e l (w.drew.alloc (.cells C e (C.size, C.size + 1))) w.heap.size (grownCap w l.length 0 e) := by
        refine ⟨H.grow.os, H.grow.tape, H.grow.output, H.grow.size, ?_, fun i h1 h2 => ?_, fun j v hj => ?_, hcap, _, _, alloc_here w.drew _⟩
        · have := alloc_size w.drew (.cells C e (C.size, C.size + 1))
          have e : w.drew.heap = w.heap := rfl
          rw [e] at this
          omega
        · have e : w.drew.heap = w.heap := rfl
          rw [alloc_heap _ _ _ (by rw [e]; exact Nat.lt_of_lt_of_le h1 H.grow.size), e]
          exact H.grow.heap i h1 h2
        · have e : (⟨w.heap.size, 0, none⟩ : Addr).add (0 + j) = ⟨w.drew.heap.size, j, none⟩ := by
            have e1 : w.drew.heap = w.heap := rfl
            rw [e1, Addr.add_lit]
            simp
          rw [e, World.cell?_alloc_mark]
          exact hcell j v hj
      have hnew : w.heap.size ∉ blks s.L := blk_old H (Nat.le_refl _)
      have hkeep : ∀ i, i < w.heap.size → (w.drew.alloc (.cells C e (C.size, C.size + 1))).heap[i]? = w.heap[i]? := fun i hi => by
        have e : w.drew.heap = w.heap := rfl
        rw [alloc_heap _ _ _ (by rw [e]; exact hi), e]
      have hok := H.big0 (w' := w.drew.alloc (.cells C e (C.size, C.size + 1))) rfl rfl rfl (by have := alloc_size w.drew (.cells C e (C.size, C.size + 1)); have e : w.drew.heap = w.heap := rfl; rw [e] at this; omega)
        (fun j h1 h2 => hkeep j (Nat.lt_of_lt_of_le h1 (Nat.le_trans H.frame.size H.grow.size))) (fun b hb => by
          obtain ⟨k, l, hl, rfl⟩ := blks_mem hb
          exact hkeep _ (Whole.lt (H.lies k l hl).1))
      exact hK _ (s.at s.L _) [] _ (notOwn_elim (h _ _ _ hf) hnew) ⟨fun k l hl => ⟨l, hl, rfl, Nat.le_refl _, fun _ => rfl, fun _ => rfl, rfl, rfl⟩⟩ (fun _ => rfl) (fun e => by rw [hbig] at e; cases e) hok trivial
    · exact h.elim
  · rename_i e p n c hs hd
    split at h
    · rename_i he
      obtain ⟨l, h⟩ := h
      obtain ⟨⟨hl, hat⟩, hnil, hk⟩ := h w H.grow.grow
      have hok := H.big0 (w' := w) rfl rfl rfl (Nat.le_refl _) (fun _ _ _ => rfl) (fun _ _ => rfl)
      have hr : (Go.convert t d (.slice p n c)).run P w = .ok (.string ⟨l.toArray⟩) w := by
        cases p with
        | none =>
          have hn := hnil rfl
          subst hn
          have : l = [] := List.eq_nil_of_length_eq_zero hl
          subst this
          rw [run_convert_bytes_string w t d e none 0 c hs he hd]
          simp [Conv.bytesToString]
          rfl
        | some ad =>
          subst hl
          exact run_convert_bytes_back w t d e ad c l hs he hd (fun j hj => by
            have := hat ad rfl j _ (cell_bytes hj)
            rwa [Nat.zero_add] at this)
      exact put_upon hr (hK (.str l) (s.at s.L w) [] w hk hmv (fun _ => rfl) (fun e => by rw [hbig] at e; cases e) hok trivial)
    · exact h.elim
  · exact h.elim

theorem isBig_adr {o : Oper} {t : TypeId} {x y : Operand} (ho : o.op = .store t x y) {v : SV} (hv : eval P s.T x = some v) (hn : ∀ k o, v ≠ .loc k o) : isBig P o s = true := by
  unfold isBig
  rw [ho]
  simp only [hv]
  try (split <;> first | rfl | (rename_i k o' e; injection e with e; exact absurd e (hn k o')))

theorem store_sound (H : Ok w0 F N s a w) {o : Oper} (hbig : isBig P o s = true) {t : TypeId} {m : Nat} (hm : size? P t = some m) {ad : Addr} {ofs : Nat} {v : SV} (hv : okv s.L.length v) (hs : v.flat.all SV.scalar = true) (hl : v.flat.length = m) {K : SV → St → List Nat → Prop} {next : Act → World → Prop} {Q : Exit → Act → World → Prop}
    (hc : CanPut s.wb ad ofs m) (haw : Away w0.heap.size F (blks s.L) ad.block) (h : ∀ w2, Put s.wb s.D ad ofs (reals (blks s.L) v.flat) w2 → K (.tup []) (s.at s.L w2) []) (hK : Next P w0 F N s o a K next) :
    o.upon P a next Q ((do Instr.storeAt t (adrVal ad ofs) (real (blks s.L) v); pure .skip : Sem Go.Next).run P w) := by
  obtain ⟨hsp, cs, ty, hh, hle⟩ := hc
  have hlt : ad.block < s.wb.heap.size := (Array.getElem?_eq_some_iff.1 hh).1
  have hw : w.heap[ad.block]? = some (.cells cs ty (0, 0)) := by rw [H.grow.heap _ hlt fun hmm => haw.1 (H.dirty _ hmm)]; exact hh
  obtain ⟨f1, f2, _⟩ := flat_sound (β := blks s.L) hv
  obtain ⟨w', hr, sp⟩ := run_storeAt (P := P) (w := w) hm (o := ofs) f1 (by rw [reals_length]; exact hl) (mem_one f2 hs) hsp hw hle
  rw [Sem.run_bind, hr]
  have hput : Put s.wb s.D ad ofs (reals (blks s.L) v.flat) w' := by
    refine ⟨sp.os.trans H.grow.os, sp.tape.trans H.grow.tape, sp.output.trans H.grow.output, by rw [sp.size]; exact H.grow.size, fun i h1 h2 h3 => by rw [sp.other i h3]; exact H.grow.heap i h1 h2, fun cs2 t2 h2 => ?_⟩
    rw [hh] at h2
    cases h2
    exact sp.here
  have hok := H.big0 sp.os sp.tape sp.output (by rw [sp.size]; exact Nat.le_refl _) (fun i h1 h2 => sp.other i fun e => h2 (by rw [e]; exact haw.2 (by omega))) (fun b hb => sp.other b fun e => haw.1 (by rw [← e]; exact hb))
  exact hK (.tup []) (s.at s.L w') [] w' (h w' hput) ⟨fun k l hl => ⟨l, hl, rfl, Nat.le_refl _, fun _ => rfl, fun _ => rfl, rfl, rfl⟩⟩ (fun _ => rfl) (fun e => by rw [hbig] at e; cases e) hok trivial

end Go.Sy

namespace Go.Sy
open Go.RowKit (Below)
variable {P : Program} {w0 : World} {F : Nat → Prop} {N : Nat} {s : St} {a : Act} {w : World}

theorem zeros_list (z : List Value) (hz : 0 < z.length) (c : Nat) : (Array.range (c * z.length)).map (fun i => z.toArray[i % z.toArray.size]!) = (List.replicate c z).flatten.toArray := by
  have hlen : ∀ c : Nat, (List.replicate c z).flatten.length = c * z.length := fun c => by
    induction c with
    | zero => simp
    | succ c ih => rw [List.replicate_succ, List.flatten_cons, List.length_append, ih, Nat.succ_mul, Nat.add_comm]
  have hget : ∀ (c i : Nat), i < c * z.length → (List.replicate c z).flatten[i]? = z[i % z.length]? := fun c => by
    induction c with
    | zero => intro i h; simp at h
    | succ c ih =>
      intro i h
      rw [List.replicate_succ, List.flatten_cons]
      by_cases hi : i < z.length
      · rw [List.getElem?_append_left hi, Nat.mod_eq_of_lt hi]
      · rw [List.getElem?_append_right (by omega), ih _ (by rw [Nat.succ_mul] at h; omega), Nat.mod_eq_sub_mod (a := i) (b := z.length) (by omega)]
  apply Array.ext'
  apply List.ext_getElem?
  intro i
  simp only [Array.toList_map, Array.toList_range, List.getElem?_map, List.size_toArray]
  by_cases hi : i < c * z.length
  · rw [List.getElem?_range hi, hget c i hi]
    have hlt : i % z.length < z.length := Nat.mod_lt _ hz
    simp [List.getElem?_eq_getElem hlt, List.getElem!_eq_getElem?_getD]
  · rw [List.getElem?_eq_none (by simp; omega), List.getElem?_eq_none (by rw [hlen]; omega)]; rfl

theorem list_splice {α : Type} (xs vs : List α) (off : Nat) (h : off + vs.length ≤ xs.length) (j : Nat) : (xs.take off ++ (vs ++ xs.drop (off + vs.length)))[j]? = if off ≤ j ∧ j < off + vs.length then vs[j - off]? else xs[j]? := by
  have htl : (xs.take off).length = off := by simp; omega
  by_cases h1 : j < off
  · rw [if_neg (by omega), List.getElem?_append_left (by omega), List.getElem?_take, if_pos h1]
  · rw [List.getElem?_append_right (by omega), htl]
    by_cases h2 : j - off < vs.length
    · rw [if_pos (by omega), List.getElem?_append_left h2]
    · rw [if_neg (by omega), List.getElem?_append_right (by omega), List.getElem?_drop]
      congr 1; omega
theorem blks_map (L : List Loc) : blks L = L.map (·.blk) := by
  induction L with
  | nil => rfl
  | cons x L ih => simp [blks, ih]

set_option maxRecDepth 10000 in
theorem loud_sound (H : Ok w0 F N s a w) {o : Oper} {K : SV → St → List Nat → Prop} {next : Act → World → Prop} {Q : Exit → Act → World → Prop} (h : loud P w0 F o s K) (hK : Next P w0 F N s o a K next) : o.wp P a w next Q := by
  have one : ∀ {v : SV} {x : Operand}, eval P s.T x = some v → okv s.L.length v ∧ a.eval x = real (blks s.L) v := fun hx => eval_sound H.env hx
  have newVar : ∀ (t : TypeId) (v : SV) (m : Sem Value), okv s.L.length v → v.flat.all SV.scalar = true → (∀ b, s.wb.heap.size ≤ b → K (.loc s.L.length 0) { s with L := s.L ++ [⟨b, t, v.flat, 0⟩] } []) → isBig P o s = false →
      m.run P w = .ok (.pointer (some ⟨w.heap.size, 0, none⟩)) (w.alloc (.cells (real (blks s.L) v).cells t)) → o.upon P a next Q ((do pure (.value (← m)) : Sem Go.Next).run P w) := by
    intro t v m hv hs hk hbig hr
    obtain ⟨f1, f2, _⟩ := flat_sound (β := blks s.L) hv
    rw [f1] at hr
    obtain ⟨h1, h2, h3, h4⟩ := H.alloc (t := t) f2 hs
    refine put_upon hr ?_
    have := hK _ _ [] _ (hk w.heap.size H.grow.size) h4 (fun e => by rw [hbig] at e; cases e) (fun _ => rfl) h1 (show okv _ (.loc s.L.length 0) by show s.L.length < (s.L ++ [_]).length; simp)
    have e : real (blks (s.L ++ [⟨w.heap.size, t, v.flat, 0⟩])) (.loc s.L.length 0) = .pointer (some ⟨w.heap.size, 0, none⟩) := by simp only [real, h3]
    rw [e] at this
    exact this
  obtain ⟨dst, op, ty, pos, after, guard⟩ := o
  unfold Oper.wp
  cases op with
  | alloc t =>
    unfold loud at h
    simp only [] at h
    split at h
    · rename_i z hz
      obtain ⟨zv, hr, hzc, hzt, _⟩ := run_zero hz w
      obtain ⟨o1, o2⟩ := hzc s.L.length (blks s.L)
      refine newVar t z (Instr.alloc t true (.tuple #[])) o1 hzt h rfl ?_
      simp only [Instr.alloc, Sem.run_bind, hr, Result.andThen_ok, o2]
      rfl
    · exact h.elim
  | box t x =>
    obtain ⟨v, hv, h⟩ := on_sound h
    split at h
    · exact h.elim
    · rename_i hs
      refine newVar t v (Instr.box t (a.eval x)) (one hv).1 hs h rfl ?_
      rw [(one hv).2]
      rfl
  | buildSlice t n ps =>
    unfold loud at h
    simp only [] at h
    split at h
    · rename_i e cs hb
      simp only [Option.bind_eq_some_iff] at hb
      obtain ⟨qs, hq, hb⟩ := hb
      obtain ⟨p1, p2⟩ := parts_sound H.env hq
      obtain ⟨hr, c1, c2⟩ := buildRow_sound (β := blks s.L) hb p1 (ps.map fun (i, x) => (i, a.eval x)) (by rw [Array.toList_map]; exact p2) w
      obtain ⟨h1, h2, h3, h4⟩ := H.alloc (t := e) c1 c2
      refine put_upon hr ?_
      have := hK _ _ [] _ (h w.heap.size H.grow.size) h4 (fun e => by cases e) (fun _ => rfl) h1 (show okv _ (.lsl s.L.length 0 n n) by show s.L.length < (s.L ++ [_]).length; simp)
      have e : real (blks (s.L ++ [⟨w.heap.size, e, cs, 0⟩])) (.lsl s.L.length 0 n n) = .slice (some ⟨w.heap.size, 0, none⟩) n n := by simp only [real, h3]
      rw [e] at this
      exact this
    · exact h.elim
  | convert t d x =>
    obtain ⟨v, hv, h⟩ := on_sound h
    have := conv_sound2 H (o := ⟨dst, .convert t d x, ty, pos, after, guard⟩) (Q := Q) rfl h hK
    rw [← (one hv).2] at this
    exact this
  | makeSlice t nx cx =>
    unfold loud at h
    simp only [] at h
    split at h
    · rename_i e nn cc hu hn hc
      split at h
      · rename_i es by_ z hes hby hz
        split at h
        · rename_i hpos
          simp only [Bool.and_eq_true, Nat.blt_eq, Nat.beq_eq] at hpos
          obtain ⟨⟨p1, p2⟩, hzl⟩ := hpos
          obtain ⟨⟨n1, n2, n3⟩, h⟩ := h
          obtain ⟨zv, _, hzc, hzt, i, hi, hiz⟩ := run_zero hz w
          obtain ⟨zf, _, _⟩ := flat_sound (β := []) (hzc 0 []).1
          rw [(hzc 0 []).2] at zf
          obtain ⟨i1, hi1, hisz⟩ := Option.map_eq_some_iff.1 (show (P.info? e).map (·.size) = some es from hes)
          obtain rfl : i = i1 := by rw [hi] at hi1; exact Option.some.inj hi1
          obtain ⟨i2, hi2, hiby⟩ := Option.map_eq_some_iff.1 (show (P.info? e).map (·.bytes) = some by_ from hby)
          obtain rfl : i = i2 := by rw [hi] at hi2; exact Option.some.inj hi2
          have hcb : cc ≤ cc * by_ := by
            have : cc * 1 ≤ cc * (by_ : Int) := Int.mul_le_mul_of_nonneg_left (by omega) (by omega)
            omega
          have hr := run_make (P := P) w t e i zv hu hi hiz .i64 .i64 nn cc n1 n2 (by rw [hiby, Int.mul_comm]; omega) (by omega)
          have hcells : madeCells zv.cells (cc.toNat * i.size) = (List.replicate cc.toNat (reals [] z.flat)).flatten.toArray := by
            rw [zf, hisz, ← hzl]
            have := zeros_list (reals [] z.flat) (by rw [reals_length]; omega) cc.toNat
            rw [reals_length] at this
            exact this
          rw [hcells] at hr
          have hmade : Made s.wb s.D e es nn.toNat cc.toNat (reals [] z.flat) (w.alloc (.cells (List.replicate cc.toNat (reals [] z.flat)).flatten.toArray e)) w.heap.size := by
            refine ⟨H.grow.os, H.grow.tape, H.grow.output, H.grow.size, by rw [alloc_size]; omega, fun j h1 h2 => ?_, alloc_here w _⟩
            rw [alloc_heap _ _ _ (Nat.lt_of_lt_of_le h1 H.grow.size)]
            exact H.grow.heap j h1 h2
          have hok := H.big0 (w' := w.alloc (.cells (List.replicate cc.toNat (reals [] z.flat)).flatten.toArray e)) rfl rfl rfl (by rw [alloc_size]; omega) (fun j h1 h2 => alloc_heap _ _ _ (Nat.lt_of_lt_of_le h1 (Nat.le_trans H.frame.size H.grow.size))) (fun b hb => by
            obtain ⟨k, l, hl, rfl⟩ := blks_mem hb
            exact alloc_heap _ _ _ (Whole.lt (H.lies k l hl).1))
          have e1 : Instr.makeSlice t (a.eval nx) (a.eval cx) = Instr.makeSlice t (.int .i64 nn) (.int .i64 cc) := by rw [(one hn).2, (one hc).2]; rfl
          rw [← e1] at hr
          exact put_upon hr (hK (.sl (some ⟨w.heap.size, 0, none⟩) nn.toNat cc.toNat) (s.at s.L _) [] _ (notOwn_elim (h _ _ hmade) (blk_old H (Nat.le_refl _))) ⟨fun k l hl => ⟨l, hl, rfl, Nat.le_refl _, fun _ => rfl, fun _ => rfl, rfl, rfl⟩⟩ (fun _ => rfl) (fun e => by cases e) hok trivial)
        · exact h.elim
      · exact h.elim
    · exact h.elim
  | store t ax x =>
    obtain ⟨ad, had, h⟩ := on_sound h
    obtain ⟨v, hv, h⟩ := on_sound h
    split at h
    · rename_i m hm
      split at h
      · rename_i hl
        rw [Bool.and_eq_true] at hl
        obtain ⟨hl, hs⟩ := hl
        have hl : v.flat.length = m := Nat.eq_of_beq_eq_true hl
        · cases ad with
          | loc k off =>
            simp only [] at h
            split at h
            · rename_i L' l hw hlk
              obtain ⟨l0, q1, q2, q3⟩ := writeLoc_sound hw
              obtain rfl : l = l0 := by rw [hlk] at q1; exact Option.some.inj q1
              have hblk := (H.lies k l hlk).1
              have hwhole : w.heap[l.blk]? = some (.cells (reals (blks s.L) l.cells).toArray l.ty (0, 0)) := hblk
              obtain ⟨f1, f2, _⟩ := flat_sound (β := blks s.L) (one hv).1
              obtain ⟨w', hr, sp⟩ := run_storeAt (P := P) (w := w) hm (ad := ⟨l.blk, off, none⟩) (o := 0) f1 (by rw [reals_length]; exact hl) (mem_one f2 hs) rfl hwhole (by simp [reals_length]; omega)
              have hr' : (Instr.storeAt t (a.eval ax) (a.eval x)).run P w = .ok () w' := by
                rw [(one had).2, (one hv).2]
                have e : real (blks s.L) (.loc k off) = adrVal ⟨l.blk, off, none⟩ 0 := by simp only [real, adrVal, blks_get hlk]
                rw [e]; exact hr
              have hget : ∀ j, L'[j]? = if j = k then some { l with cells := l.cells.take off ++ (v.flat ++ l.cells.drop (off + v.flat.length)), ver := l.ver + 1 } else s.L[j]? := fun j => by
                rw [q3]; exact splice_get hlk j
              have hblkL : blks L' = blks s.L := by
                rw [blks_map, blks_map]
                apply List.ext_getElem?
                intro j
                rw [List.getElem?_map, List.getElem?_map, hget]
                by_cases e : j = k
                · rw [if_pos e, e, hlk]; rfl
                · rw [if_neg e]
              have hlen : L'.length = s.L.length := by
                have := (List.getElem?_eq_some_iff.1 hlk).1
                rw [q3]; simp; omega
              have hcells : okvs s.L.length (l.cells.take off ++ (v.flat ++ l.cells.drop (off + v.flat.length))) ∧ (l.cells.take off ++ (v.flat ++ l.cells.drop (off + v.flat.length))).all SV.scalar = true := by
                obtain ⟨o1, o2⟩ := H.cells k l hlk
                constructor
                · rw [okvs_iff] at *
                  intro u hu
                  simp only [List.mem_append] at hu
                  rcases hu with hu | hu | hu
                  · exact o1 u (List.mem_of_mem_take hu)
                  · exact f2 u hu
                  · exact o1 u (List.mem_of_mem_drop hu)
                · rw [List.all_eq_true] at *
                  intro u hu
                  simp only [List.mem_append] at hu
                  rcases hu with hu | hu | hu
                  · exact o2 u (List.mem_of_mem_take hu)
                  · exact hs u hu
                  · exact o2 u (List.mem_of_mem_drop hu)
              have hnew : Whole w' l.blk l.ty (reals (blks s.L) (l.cells.take off ++ (v.flat ++ l.cells.drop (off + v.flat.length)))) := by
                obtain ⟨cs', c1, c2, c3⟩ := sp.here
                unfold Whole
                rw [c1]
                congr 2
                apply Array.ext'
                apply List.ext_getElem?
                intro j
                rw [Array.getElem?_toList, c3 j]
                simp only [reals_eq, List.map_append, List.map_take, List.map_drop, List.length_map, Nat.add_zero, List.getElem?_toArray]
                have := list_splice (l.cells.map (real (blks s.L))) (v.flat.map (real (blks s.L))) off (by simpa using q2) j
                simp only [List.length_map] at this
                rw [this]
              have key : ∀ D, (∀ b ∈ D, b ∈ blks s.L) → (∀ i, i < s.wb.heap.size → i ∉ D → i ∉ s.D ∧ i ≠ l.blk) → Ok w0 F N { s with L := L', D := D } a w' := by
                intro D hD hsub
                refine ⟨?_, H.size, H.defers, fun j m hj => ?_, fun j m hj => ?_, fun i j m m' hi hj e => ?_, by show s.nb ≤ L'.length; rw [hlen]; exact H.nb, fun j m hj hjm => ?_, ?_, H.frame, fun b hb => by show b ∈ blks L'; rw [hblkL]; exact hD b hb⟩
                · show EnvOk L'.length (blks L') s.T a.tmps
                  rw [hblkL, hlen]; exact H.env
                · show okvs L'.length _ ∧ _
                  rw [hlen]
                  have hj' : L'[j]? = some m := hj
                  rw [hget] at hj'
                  split at hj'
                  · cases hj'; exact hcells
                  · exact H.cells j m hj'
                · show Whole w' m.blk m.ty (reals (blks L') m.cells) ∧ _
                  rw [hblkL]
                  have hj' : L'[j]? = some m := hj
                  rw [hget] at hj'
                  split at hj'
                  · cases hj'; exact ⟨hnew, (H.lies k l hlk).2⟩
                  · rename_i hne
                    obtain ⟨w1, w2⟩ := H.lies j m hj'
                    refine ⟨?_, w2⟩
                    unfold Whole at *
                    rw [sp.other _ fun e => hne (H.apart j k m l hj' hlk e)]
                    exact w1
                · have get : ∀ (j : Nat) (m : Loc), L'[j]? = some m → ∃ m0, s.L[j]? = some m0 ∧ m.blk = m0.blk := fun j m hj => by
                    rw [hget] at hj
                    split at hj
                    · rename_i e'; cases hj; rw [e']; exact ⟨l, hlk, rfl⟩
                    · exact ⟨m, hj, rfl⟩
                  obtain ⟨m0, g1, g2⟩ := get i m hi
                  obtain ⟨m1, g3, g4⟩ := get j m' hj
                  exact H.apart i j m0 m1 g1 g3 (by rw [← g2, ← g4, e])
                · have hj' : L'[j]? = some m := hjm
                  rw [hget] at hj'
                  split at hj'
                  · rename_i e'; cases hj'; rw [e'] at hj; exact H.newer k l hj hlk
                  · exact H.newer j m hj hj'
                · exact ⟨sp.os.trans H.grow.os, sp.tape.trans H.grow.tape, sp.output.trans H.grow.output, by rw [sp.size]; exact H.grow.size, fun i h1 h2 => by
                    obtain ⟨h3, h4⟩ := hsub i h1 h2
                    rw [sp.other i h4]; exact H.grow.heap i h1 h3⟩
              have hmv : ∀ D, Moves s { s with L := L', D := D } [k] := fun D => ⟨fun j m hj => by
                by_cases e : j = k
                · have elm : l = m := by rw [e, hlk] at hj; exact Option.some.inj hj
                  refine ⟨_, (hget j).trans (if_pos e), by rw [← elm], by rw [← elm]; exact Nat.le_succ _, fun e2 => ?_, fun e2 => absurd (List.mem_singleton.2 e) e2, by rw [← elm], by rw [← elm]; simp; omega⟩
                  rw [← elm] at e2
                  exact absurd e2 (by simp)
                · exact ⟨m, by show L'[j]? = _; rw [hget, if_neg e]; exact hj, rfl, Nat.le_refl _, fun _ => rfl, fun _ => rfl, rfl, rfl⟩⟩
              have hbig : isBig P ⟨dst, .store t ax x, ty, pos, after, guard⟩ s = false := by unfold isBig; simp only [had]
              show Oper.upon P _ a next Q ((do Instr.storeAt t (a.eval ax) (a.eval x); pure .skip : Sem Go.Next).run P w)
              rw [Sem.run_bind, hr']
              have hund : real (blks L') (.tup []) = undef := rfl
              split at h
              · rename_i hlt
                exact hK (.tup []) { s with L := L', D := l.blk :: s.D } [k] w' h (hmv _) (fun e => by rw [hbig] at e; cases e) (fun _ => rfl)
                  (key _ (fun b hb => by rcases List.mem_cons.1 hb with rfl | hb; exact mem_blks hlk; exact H.dirty b hb) (fun i h1 h2 => ⟨fun e => h2 (List.mem_cons_of_mem _ e), fun e => h2 (by rw [e]; exact List.mem_cons_self ..)⟩)) trivial
              · rename_i hlt
                have hge : s.nb ≤ k := by
                  rcases Nat.lt_or_ge k s.nb with h' | h'
                  · rw [← Nat.blt_eq] at h'; rw [h'] at hlt; cases hlt
                  · exact h'
                exact hK (.tup []) { s with L := L' } [k] w' h (hmv _) (fun e => by rw [hbig] at e; cases e) (fun _ => rfl)
                  (key _ H.dirty (fun i h1 h2 => ⟨h2, fun e => by have := H.newer k l hge hlk; omega⟩)) trivial
            · exact h.elim
          | adr ad ofs =>
            obtain ⟨⟨h1, h2⟩, h3⟩ := h
            show Oper.upon P _ a next Q ((do Instr.storeAt t (a.eval ax) (a.eval x); pure .skip : Sem Go.Next).run P w)
            rw [(one had).2, (one hv).2]
            exact store_sound H (isBig_adr rfl had (by intros; simp)) hm (one hv).1 hs hl h1 h2 h3 hK
          | ptr p =>
            obtain ⟨ad, rfl, ⟨h1, h2⟩, h3⟩ := h
            show Oper.upon P _ a next Q ((do Instr.storeAt t (a.eval ax) (a.eval x); pure .skip : Sem Go.Next).run P w)
            rw [(one had).2, (one hv).2]
            exact store_sound H (isBig_adr rfl had (by intros; simp)) hm (one hv).1 hs hl h1 h2 h3 hK
          | _ => exact h.elim
      · exact h.elim
    · exact h.elim
  | call c =>
    obtain ⟨callee, args, ats⟩ := c
    cases callee with
    | value f =>
      unfold loud at h
      simp only [] at h
      split at h
      · rename_i g first cap vs hf hvs
        obtain ⟨x1, x2⟩ := evals_sound H.env hvs
        have ex : args.map a.eval = (reals (blks s.L) vs).toArray := by apply Array.ext'; simpa using x2
        have e : ((execOp a.eval ⟨dst, .call ⟨.value f, args, ats⟩, ty, pos, after, guard⟩).run P w) = (callFunc g (reals (blks s.L) (first ++ vs ++ cap)).toArray).run P w := by
          have : (reals (blks s.L) (first ++ vs ++ cap)).toArray = (reals (blks s.L) first).toArray ++ (reals (blks s.L) vs).toArray ++ (reals (blks s.L) cap).toArray := by
            apply Array.ext'; simp [reals_eq]
          rw [this]
          simp only [execOp, resolve, ex, (one hf).2, real, Deferred.ofValue, Sem.run_bind, Sem.run_pure, Result.andThen_ok, invoke]
        rw [e]
        exact callAt_sound H rfl h hK
      · exact h.elim
    | builtin b =>
      cases b with
      | append =>
        unfold loud at h
        simp only [] at h
        split at h
        · rename_i t u x y hats hvs
          split at h
          · rename_i htu
            have htu : t = u := Nat.eq_of_beq_eq_true htu
            subst htu
            obtain ⟨x1, x2⟩ := evals_sound H.env hvs
            have ex : args.map a.eval = (reals (blks s.L) [x, y]).toArray := by apply Array.ext'; simpa using x2
            have ea : ats = #[t, t] := by apply Array.ext'; exact hats
            have e : ((execOp a.eval ⟨dst, .call ⟨.builtin .append, args, ats⟩, ty, pos, after, guard⟩).run P w) = ((do pure (.value (← Builtin.append_ #[t, t] ty #[real (blks s.L) x, real (blks s.L) y])) : Sem Go.Next).run P w) := by
              simp only [execOp, resolve, ex, ea, Sem.run_bind, Sem.run_pure, Result.andThen_ok, invoke, Go.builtin, reals]
            rw [e]
            exact appendAt_sound H rfl ty h hK
          · exact h.elim
        · exact h.elim
      | _ => exact h.elim
    | _ => exact h.elim
  | _ => exact h.elim

end Go.Sy

namespace Go.Sy
open Go.RowKit (Below)
variable {P : Program} {w0 : World} {F : Nat → Prop} {N : Nat} {s : St} {a : Act} {w : World}

theorem Moves.trans {s s1 s2 : St} {c1 c2 : List Nat} (h : Moves s s1 c1) (k : Moves s1 s2 c2) : Moves s s2 (c1 ++ c2) := ⟨fun j l hl => by
  obtain ⟨l1, a1, a2, a3, a4, a5, a6, a7⟩ := h.old j l hl
  obtain ⟨l2, b1, b2, b3, b4, b5, b6, b7⟩ := k.old j l1 a1
  exact ⟨l2, b1, b2.trans a2, Nat.le_trans a3 b3, fun e => by rw [b4 (by omega), a4 (by omega)], fun hn => by
    rw [b5 fun hm => hn (List.mem_append_right _ hm), a5 fun hm => hn (List.mem_append_left _ hm)], b6.trans a6, b7.trans a7⟩⟩
theorem Moves.ofEq {s s' : St} (h : s'.L = s.L) (ch : List Nat) : Moves s s' ch := ⟨fun _ l hl => ⟨l, by rw [h]; exact hl, rfl, Nat.le_refl _, fun _ => rfl, fun _ => rfl, rfl, rfl⟩⟩
theorem put_L (s : St) (d : Option Tmp) (v : SV) : (s.put d v).L = s.L := by cases d <;> rfl
theorem put_D (s : St) (d : Option Tmp) (v : SV) : (s.put d v).D = s.D := by cases d <;> rfl
theorem put_wb (s : St) (d : Option Tmp) (v : SV) : (s.put d v).wb = s.wb := by cases d <;> rfl

/-! ### Guards -/

/-- States that differ in what is known of the slots alone. -/
def Like (s s' : St) : Prop := ∃ T, s' = { s with T := T }
theorem Like.L {s s' : St} (h : Like s s') : s'.L = s.L := by obtain ⟨T, rfl⟩ := h; rfl

theorem fork_sound (H : Ok w0 F N s a w) {d : Tmp} {K : Env → Bool → Prop} (h : fork s.T d K) : ∃ T b, K T b ∧ EnvOk s.L.length (blks s.L) T a.tmps ∧ T.at d = some (.lit b) ∧ a.tmps.getD d undef = .bool b := by
  unfold fork at h
  split at h
  · rename_i b hb
    exact ⟨s.T, b, h, H.env, hb, (H.env d _ hb).2⟩
  · rename_i e he
    have hv := (H.env d _ he).2
    refine BE.split h (fun ht hk => ?_) (fun ht hk => ?_)
    · exact ⟨_, true, hk, H.env.known he ht, by rw [at_set, if_pos rfl], by rw [hv, real, ht]⟩
    · exact ⟨_, false, hk, H.env.known he ht, by rw [at_set, if_pos rfl], by rw [hv, real, ht]⟩
  · exact h.elim
theorem wantIs_sound {b want : Bool} {K : Bool → Prop} (h : wantIs b want K) : K (b == want) := by
  cases b <;> cases want <;> exact h

theorem guarded_sound (H : Ok w0 F N s a w) {all : Array Oper} {o : Oper} {K : St → Bool → Prop} (h : guarded all.toList o s K) : ∃ s' b, K s' b ∧ Ok w0 F N s' a w ∧ Region.wanted o (yielded all a.tmps) = b ∧ Like s s' := by
  unfold guarded at h
  split at h
  · rename_i hg
    exact ⟨s, true, h, H, by simp [Region.wanted, hg], s.T, rfl⟩
  · rename_i j want hg
    split at h
    · rename_i oj hj
      split at h
      · rename_i d hd
        have hall : (all[j]?).bind (·.dst) = some d := by
          have : all[j]? = some oj := by rw [← Array.getElem?_toList]; exact hj
          rw [this]; exact hd
        have htmp : ∀ v, a.tmps.getD d undef = v → v ≠ undef → a.tmps[d]? = some v := fun v hv hne => by
          rw [Array.getD_eq_getD_getElem?] at hv
          cases hx : a.tmps[d]? with
          | none => rw [hx] at hv; exact absurd hv.symm hne
          | some u => rw [hx] at hv; simp only [Option.getD_some] at hv; rw [hv]
        split at h
        · rename_i ht
          have hv := (H.env d _ ht).2
          refine ⟨s, false, h, H, ?_, s.T, rfl⟩
          unfold Region.wanted
          rw [hg]
          simp only []
          unfold yielded
          rw [hall]
          simp only [Option.bind_some]
          cases hx : a.tmps[d]? with
          | none => simp
          | some u =>
            rw [Array.getD_eq_getD_getElem?, hx] at hv
            simp only [Option.getD_some, real, reals] at hv
            rw [hv]; simp
        · obtain ⟨T, b, hk, hT, _, hb⟩ := fork_sound H h
          refine ⟨{ s with T := T }, b == want, wantIs_sound hk, H.withT hT, ?_, T, rfl⟩
          have hx := htmp _ hb (by simp [undef])
          unfold Region.wanted
          rw [hg]
          simp only []
          unfold yielded
          rw [hall]
          simp only [Option.bind_some, hx]
          cases b <;> cases want <;> rfl
      · exact h.elim
    · exact h.elim

theorem picked_sound (H : Ok w0 F N s a w) {o : Op} {K : St → Prop} (h : picked o s K) : ∃ s', K s' ∧ Ok w0 F N s' a w ∧ Like s s' := by
  unfold picked at h
  split at h
  · obtain ⟨T, b, hk, hT, _, _⟩ := fork_sound H h
    exact ⟨_, hk, H.withT hT, T, rfl⟩
  · exact ⟨s, h, H, s.T, rfl⟩

/-! ### Regions in the text's order -/

/-- Slots that are not of some kind are as they were. -/
def Same (T : Nat → Prop) (a a' : Act) : Prop := ∀ t, ¬ T t → a'.tmps.getD t undef = a.tmps.getD t undef
theorem Same.refl (T : Nat → Prop) (a : Act) : Same T a a := fun _ _ => rfl
theorem Same.trans {T : Nat → Prop} {a b c : Act} (h : Same T a b) (k : Same T b c) : Same T a c := fun t ht => (k t ht).trans (h t ht)
theorem Same.mono {T U : Nat → Prop} {a b : Act} (h : Same T a b) (hu : ∀ t, T t → U t) : Same U a b := fun t ht => h t fun hT => ht (hu t hT)
theorem Same.put {T : Nat → Prop} (a : Act) {d : Option Tmp} (hd : ∀ t, d = some t → T t) (v : Value) : Same T a (a.put d v) := by
  intro t ht
  cases d with
  | none => rfl
  | some d =>
    have hne : d ≠ t := fun e => ht (hd t (by rw [e]))
    simp [Act.put, Array.getElem?_setIfInBounds_ne hne]
/-- The slots that operations write. -/
def Dst (os : List Oper) (t : Nat) : Prop := ∃ o ∈ os, o.dst = some t

theorem undef_put (s : St) (d : Option Tmp) (a : Act) : a.put d undef = a.put d (real (blks s.L) (.tup [])) := rfl

theorem ops_sound {all : Array Oper} {Q : Exit → Act → World → Prop} : ∀ (l : List Oper) (s : St) (a : Act) (w : World) (K : St → Prop), (∀ o ∈ l, ∀ d, o.dst = some d → d < N) → Ok w0 F N s a w → ops P w0 F all.toList l s K →
    (∀ s' a' w', K s' → Ok w0 F N s' a' w' → (∃ ch, Moves s s' ch) → Same (Dst l) a a' → Q .normal a' w') → wpList P all Q l a w
  | [], s, a, w, K, _, H, h, hQ => hQ s a w h H ⟨[], Moves.refl s []⟩ (Same.refl _ _)
  | o :: rest, s, a, w, K, hd, H, h, hQ => by
    obtain ⟨s1, b, h, H1, hw, hl⟩ := guarded_sound H h
    refine wpList_step fun K' hK' => ?_
    have rec_ : ∀ (s2 : St) (v : SV) (w2 : World) (ch : List Nat), Ok w0 F N s2 a w2 → okv s2.L.length v → Moves s1 s2 ch → ops P w0 F all.toList rest (s2.put o.dst v) K → K' (a.put o.dst (real (blks s2.L) v)) w2 := by
      intro s2 v w2 ch H2 hv hm h2
      refine hK' _ _ (ops_sound rest _ _ _ K (fun o' ho' => hd o' (by simp [ho'])) (H2.put (fun d hd' => hd o (by simp) d hd') hv) h2 fun s' a' w' k1 k2 k3 k4 => hQ s' a' w' k1 k2 ?_ ((Same.put a (fun t ht => ⟨o, by simp, ht⟩) _).trans (k4.mono fun t ⟨o', h1, h2⟩ => ⟨o', by simp [h1], h2⟩)))
      obtain ⟨ch', k3⟩ := k3
      exact ⟨_, ((Moves.ofEq hl.L []).trans hm).trans ((Moves.ofEq (s' := s2.put o.dst v) (put_L _ _ _) []).trans k3)⟩
    cases b with
    | false =>
      rw [if_neg (by rw [hw]; simp)]
      exact rec_ s1 (.tup []) w [] H1 trivial (Moves.refl _ _) h
    | true =>
      rw [if_pos hw]
      simp only [] at h
      unfold run1 at h
      split at h
      · obtain ⟨s2, h, H2, hl2⟩ := picked_sound H1 h
        obtain ⟨v, v1, v2, v3, v4⟩ := calm_sound (P := P) (o := o) H2.env H2.cells h
        unfold Oper.wp
        rw [v4 w (H2.needs v3)]
        exact rec_ s2 v w [] H2 v1 (Moves.ofEq hl2.L []) v2
      · refine loud_sound H1 h ?_
        intro v s2 ch w2 hk hm _ _ H2 hv
        exact rec_ s2 v w2 ch H2 hv hm hk

end Go.Sy
