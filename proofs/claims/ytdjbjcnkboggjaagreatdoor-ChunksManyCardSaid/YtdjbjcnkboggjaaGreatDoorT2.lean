/- A part of the proof of ChunksMany. -/
import Derived.Test.YtdjbjcnkboggjaaGreatDoorT1
import Derived.OwnWalk
import Derived.RegionTactic
import Derived.Deep.QuietTactic
import Derived.BigQuiet
import Derived.Test.YtdjbjcnkboggjaaGreatDoorAbsP
namespace Go.Proofs.YtdjbjcnkboggjaaGreatDoor
open Go.RowKit Go.Rep Go.Shelf
attribute [local go_sem] Oper.semAt_some
set_option maxRecDepth 100000
theorem blk_stays {W W' : World} {g : Nat} {t : TypeId} {cs : Array Value} {row : Option Nat} (h : Blk W g t cs) (hg : W.grownBy W' row) (hr : ∀ r, row = some r → ∃ o : Obj, W.heap[r]? = some o ∧ o.isCells = false) : Blk W' g t cs :=
  h.grown hg fun e => by
    obtain ⟨o, h1, h2⟩ := hr g e.symm
    unfold Blk at h
    rw [h] at h1
    cases h1
    cases h2
theorem own_stays {W W' : World} {base size n : Nat} {e : TypeId} {v : Value} {xs : List Value} {row : Option Nat} (h : W.ownsRow base e size v n xs) (hg : W.grownBy W' row) (hr : ∀ r, row = some r → ∃ o : Obj, W.heap[r]? = some o ∧ o.isCells = false) : W'.ownsRow base e size v n xs := by
  refine h.kept hg ?_
  rcases h.2 with ⟨rfl, _⟩ | ⟨g, cap, cur, rfl, _, hh, _⟩
  · exact .inl rfl
  · refine .inr fun he => ?_
    obtain ⟨o, h1, h2⟩ := hr g he.symm
    rw [hh] at h1
    cases h1
    cases h2
/-- What has been collected: for each index that came the bytes of its piece. -/
def OutI (N m : Nat) (bs ls : List UInt8) (pre : List Nat) (W : World) : Prop :=
  ∃ (v : Value) (vs : List Value), Blk W (N + 2) 24 #[v] ∧ W.ownsRow (N + 5) 22 1 v pre.length vs ∧ ∀ (i x : Nat), pre[i]? = some x → ∃ u : Value, vs[i]? = some u ∧ W.ownsRow N 5 1 u (stepN ls m x (atOf ls m x)) (bcells (pieceOf bs ls m x))
def CutI (N m : Nat) (bs ls : List UInt8) (w : World) (pre : List Nat) (W : World) : Prop :=
  (OutI N m bs ls pre W ∧ (∀ x ∈ pre, x ≠ 4096) ∧ Blk W N 24 #[.slice none 0 0] ∧ Blk W (N + 1) 25 #[.int .i64 0] ∧ N + 5 ≤ W.heap.size) ∧ Below N w W
def CutX (N : Nat) (w : World) (c : Code) (pre : List Nat) (W : World) : Prop :=
  (c = .ret ∧ 4096 ∈ pre ∧ Blk W N 24 #[.slice none 0 0] ∧ Blk W (N + 1) 25 #[.int .i64 5]) ∧ Below N w W
theorem cutI_own {N m B : Nat} {bs ls : List UInt8} {w : World} (hB : N ≤ B) (hN : N ≤ w.heap.size) : OwnFrom B (CutI N m bs ls w) :=
  OwnFrom.and (fun pre W W' row hs hg hr => by
    obtain ⟨⟨v, vs, h1, h2, h3⟩, h4, h5, h6, h9⟩ := hs
    have hr' : ∀ r, row = some r → ∃ o : Obj, W.heap[r]? = some o ∧ o.isCells = false := fun r e => (hr r e).2
    exact ⟨⟨v, vs, blk_stays h1 hg hr', own_stays h2 hg hr', fun i x hx => by
      obtain ⟨u, h7, h8⟩ := h3 i x hx
      exact ⟨u, h7, own_stays h8 hg hr'⟩⟩, h4, blk_stays h5 hg hr', blk_stays h6 hg hr', Nat.le_trans h9 hg.size⟩) (ownFrom_below hN hB)
theorem cutX_own {N B : Nat} {w : World} (hB : N ≤ B) (hN : N ≤ w.heap.size) (c : Code) : OwnFrom B (CutX N w c) :=
  OwnFrom.and (fun pre W W' row hs hg hr => by
    obtain ⟨h3, h4, h5, h6⟩ := hs
    have hr' : ∀ r, row = some r → ∃ o : Obj, W.heap[r]? = some o ∧ o.isCells = false := fun r e => (hr r e).2
    exact ⟨h3, h4, blk_stays h5 hg hr', blk_stays h6 hg hr'⟩) (ownFrom_below hN hB)
theorem blk_new' {w : World} {n : Nat} {t : TypeId} {cs : Array Value} (h : w.heap.size = n) : Blk (w.alloc (.cells cs t)) n t cs := by
  subst h
  exact Blk.new w t cs
theorem stepIn_append_own_at {F : Fence} {n : Nat} {P : Program} (w : World) {ops : Array Oper} {o : Oper} {a : Act} {K : Act → World → Prop} {Q : Exit → Act → World → Prop} {E : Prop}
    (hg : o.guard = none) (s x : Operand) (t : TypeId) (hop : o.op = Op.call { callee := Callee.builtin Builtin.append, args := #[s, x], argTypes := #[t, t] })
    (base : Nat) (e : TypeId) (i : TypeInfo) (z : Value) (size bytes : Nat) (h1 : P.underlying t = some (.slice e)) (h2 : P.info? e = some i) (h3 : i.zero = some z) (h4 : i.size = size) (h5 : i.bytes = bytes) (h6 : z.cells.size = size) (h7 : 0 < size)
    (v : Value) (k : Nat) (xs : List Value) (hs : a.eval s = v) (hown : w.ownsRow base e size v k xs) (ad : Addr) (m c : Nat) (news : List Value) (hx : a.eval x = .slice (some ad) m c) (hn : news.length = m * size)
    (hc : ∀ j u, news[j]? = some u → w.cell? (ad.add j) = some u) (h1c : ∀ u ∈ news, u.oneCell' = true) (b1 : k + m ≤ maxLen) (b2 : (k + m) * bytes ≤ 140737488355328) (b3 : base ≤ w.heap.size)
    (hK : ∀ v' w', w'.ownsRow base e size v' (k + m) (xs ++ news) → w.grownBy w' v.ownBlock → (v' = .slice none 0 0 ↔ v = .slice none 0 0 ∧ m = 0) → (v'.ownBlock = v.ownBlock ∨ v'.ownBlock = some w.heap.size) → K (a.put o.dst v') w') :
    if Region.wanted o (yielded ops a.tmps) = true then o.wpIn F n P a w K Q else E := by
  have hw : Region.wanted o (yielded ops a.tmps) = true := by simp [Region.wanted, hg]
  rw [if_pos hw]
  obtain ⟨v', w', hrun, r1, r2, r3, r4⟩ := run_append_own_at (P := P) w base t o.type e i z size bytes h1 h2 h3 h4 h5 h6 h7 v k xs hown ad m c news hn hc h1c b1 b2 b3
  unfold Oper.wpIn
  refine ⟨?_, ?_⟩
  · simp [Oper.about, hop, resolve, Target.leads, Sem.run_pure]
  · rw [Oper.semAt_plain F _ _ (by rw [hop]; intro c hc'; cases hc')]
    simp [execOp, hop, resolve, invoke, builtin, hs, hx, hrun, Result.andThen]
    exact hK v' w' r1 r2 r3 r4
theorem cell1_info : (Tryz.prog.info? 22).map (fun i => (i.zero, i.size, i.bytes)) = some (some (.slice none 0 0), 1, 24) := by kernel_rfl
theorem own_keep {W W' : World} {base size n : Nat} {e : TypeId} {v : Value} {xs : List Value} (h : W.ownsRow base e size v n xs) (hk : ∀ g, v.ownBlock = some g → W'.heap[g]? = W.heap[g]?) : W'.ownsRow base e size v n xs := by
  rcases h.2 with ⟨rfl, hn⟩ | ⟨g, cap, cur, rfl, hb, hh, hr⟩
  · exact ⟨h.1, .inl ⟨rfl, hn⟩⟩
  · exact ⟨h.1, .inr ⟨g, cap, cur, rfl, hb, (hk g rfl).trans hh, hr⟩⟩
theorem own_own_ne {W : World} {b b' size size' n n' g : Nat} {e e' : TypeId} {v v' : Value} {xs xs' : List Value} (h : W.ownsRow b e size v n xs) (h' : W.ownsRow b' e' size' v' n' xs') (hne : e ≠ e') (hg : v.ownBlock = some g) : some g ≠ v'.ownBlock := by
  intro hg'
  rcases h.2 with ⟨rfl, _⟩ | ⟨g1, cap, cur, rfl, _, hh, _⟩
  · cases hg
  · rcases h'.2 with ⟨rfl, _⟩ | ⟨g2, cap', cur', rfl, _, hh', _⟩
    · cases hg'
    · have e1 : g1 = g := by simpa [Value.ownBlock] using hg
      have e2 : g = g2 := by simpa [Value.ownBlock] using hg'
      subst e1
      subst e2
      rw [hh] at hh'
      injection hh' with hh'
      injection hh' with _ ht
      exact hne ht
theorem res_cc {w1 : World} {b b' : Nat} {x y : Value} {tmps : Array Value} (q0 : w1.cell? ⟨b, 0, none⟩ = some x) (q1 : w1.cell? ⟨b', 0, none⟩ = some y) (h4 : tmps[4]?.getD undef = .pointer (some ⟨b, 0, none⟩)) (h5 : tmps[5]?.getD undef = .pointer (some ⟨b', 0, none⟩)) :
    (results Tryz.f6 tmps).run Tryz.prog w1 = .ok (.tuple #[x, y]) w1 := by
  simp [results, go_sem, q0, q1, h4, h5]
theorem last_count {ls : List UInt8} {N k : Nat} (hct : countTo ls N k) (h : 4096 ∈ List.range k) : countTo ls N 4097 := fun j hj => hct j (by have := List.mem_range.1 h; omega)
/-- One more piece has been collected. -/
theorem body_end {N m B x : Nat} {bs ls : List UInt8} {w W w1 w7 : World} {pre : List Nat} {v u v7 : Value} {vs : List Value} (bv : Blk W (N + 2) 24 #[v]) (hrow : W.ownsRow (N + 5) 22 1 v pre.length vs)
    (hvs : ∀ (i x : Nat), pre[i]? = some x → ∃ u : Value, vs[i]? = some u ∧ W.ownsRow N 5 1 u (stepN ls m x (atOf ls m x)) (bcells (pieceOf bs ls m x))) (hpre : ∀ x ∈ pre, x ≠ 4096) (b0 : Blk W N 24 #[.slice none 0 0]) (b1 : Blk W (N + 1) 25 #[.int .i64 0]) (hs9 : N + 5 ≤ W.heap.size) (hB9 : Below N w W) (hx : x ≠ 4096)
    (hb1 : Below W.heap.size W.drew w1) (hu : w1.ownsRow W.heap.size 5 1 u (stepN ls m x (atOf ls m x)) (bcells (pieceOf bs ls m x))) (hown7 : w7.ownsRow (N + 5) 22 1 v7 (pre.length + 1) (vs ++ [u])) (hg7 : (w1.alloc (.cells #[u] 22)).grownBy w7 v.ownBlock) :
    KeepsFrom B W (w7.setCell ⟨N + 2, 0, none⟩ v7) ∧ KpB N (N + 1 + 1 + 1 + 1) W (w7.setCell ⟨N + 2, 0, none⟩ v7) ∧ CutI N m bs ls w (pre ++ [x]) (w7.setCell ⟨N + 2, 0, none⟩ v7) := by
  have hs1 : W.heap.size ≤ w1.heap.size := hb1.size
  have hsa : (w1.alloc (.cells #[u] 22)).heap.size = w1.heap.size + 1 := by simp
  have hs7 := hg7.size
  have hsw : w7.heap.size = (w7.setCell ⟨N + 2, 0, none⟩ v7).heap.size := by simp
  have hvb : ∀ g, v.ownBlock = some g → N + 5 ≤ g ∧ g < W.heap.size := fun g hg => hrow.lt g hg
  have F1 : ∀ k, k < W.heap.size → some k ≠ v.ownBlock → k ≠ N + 2 → (w7.setCell ⟨N + 2, 0, none⟩ v7).heap[k]? = W.heap[k]? := by
    intro k h1 h2 h3
    have e1 : (w7.setCell ⟨N + 2, 0, none⟩ v7).heap[k]? = w7.heap[k]? := Below.heap_setCell w7 ⟨N + 2, 0, none⟩ v7 k h3
    have e2 := hg7.block k (by omega) h2
    have e3 : (w1.alloc (.cells #[u] 22)).heap[k]? = w1.heap[k]? := Below.heap_alloc w1 _ k (by omega)
    have e4 : w1.heap[k]? = W.heap[k]? := hb1.block k h1
    rw [e1, e2, e3, e4]
  have hbel : Below N W (w7.setCell ⟨N + 2, 0, none⟩ v7) := by
    refine ⟨?_, ?_, ?_, by omega, fun k hk => F1 k (by omega) (fun e => by have := hvb k e.symm; omega) (by omega)⟩
    · exact hg7.os.trans hb1.os
    · exact hg7.tape.trans hb1.tape
    · exact hg7.output.trans hb1.output
  have hv2 : v.ownBlock ≠ some (N + 2) := fun e => by have := hvb _ e; omega
  refine ⟨⟨by omega, fun k o _ hk ho => ?_⟩, ⟨hbel, F1 _ (by omega) (fun e => by have := hvb _ e.symm; omega) (by omega)⟩, ⟨⟨v7, vs ++ [u], ?_, ?_, ?_⟩, ?_, ?_, ?_, by omega⟩, hB9.trans hbel⟩
  · have hkl := (Array.getElem?_eq_some_iff.1 hk).1
    refine (F1 k hkl ?_ ?_).trans hk
    · intro e
      rcases hrow.2 with ⟨rfl, _⟩ | ⟨g, cap, cur, rfl, _, hh, _⟩
      · cases e
      · have e1 : k = g := by simpa [Value.ownBlock] using e
        subst e1
        rw [hh] at hk
        cases hk
        cases ho
    · rintro rfl
      unfold Blk at bv
      rw [bv] at hk
      cases hk
      cases ho
  · have q1 : Blk w1 (N + 2) 24 #[v] := (hb1.block (N + 2) (by omega)).trans bv
    have q2 := (q1.alloc (.cells #[u] 22)).grown hg7 (fun e => hv2 e.symm)
    exact q2.set_ 0 v7
  · rw [List.length_append]
    exact hown7.kept (grown_set w7 (N + 2) 0 v7) (.inr fun e => by have := own_base hown7 e; omega)
  · intro i y hy
    have hvl : vs.length = pre.length := by have := hrow.1; omega
    rcases Nat.lt_or_ge i pre.length with hi | hi
    · rw [List.getElem?_append_left hi] at hy
      obtain ⟨u', h1, h2⟩ := hvs i y hy
      refine ⟨u', by rw [List.getElem?_append_left (by omega)]; exact h1, own_keep h2 fun g hg => F1 g (h2.lt g hg).2 (own_own_ne h2 hrow (by decide) hg) ?_⟩
      rintro rfl
      exact own_blk_ne h2 bv (by decide) hg
    · have hil : i = pre.length := by
        have := (List.getElem?_eq_some_iff.1 hy).1
        simp at this
        omega
      subst hil
      rw [List.getElem?_append_right (by omega), Nat.sub_self] at hy
      cases hy
      refine ⟨u, by rw [List.getElem?_append_right (by omega), hvl, Nat.sub_self]; rfl, ?_⟩
      have hub : ∀ g, u.ownBlock = some g → W.heap.size ≤ g ∧ g < w1.heap.size := fun g hg => hu.lt g hg
      refine own_keep (World.ownsRow.mono hu (by omega)) fun g hg => ?_
      have e0 := hub g hg
      have e1 : (w7.setCell ⟨N + 2, 0, none⟩ v7).heap[g]? = w7.heap[g]? := Below.heap_setCell w7 ⟨N + 2, 0, none⟩ v7 g (by show g ≠ N + 2; omega)
      have e2 := hg7.block g (by omega) (fun e => by have := hvb g e.symm; omega)
      have e3 : (w1.alloc (.cells #[u] 22)).heap[g]? = w1.heap[g]? := Below.heap_alloc w1 _ g (by omega)
      rw [e1, e2, e3]
  · intro y hy
    rcases List.mem_append.1 hy with hy | hy
    · exact hpre y hy
    · rw [List.mem_singleton.1 hy]
      exact hx
  · exact (F1 N (by omega) (fun e => by have := hvb _ e.symm; omega) (by omega)).trans b0
  · exact (F1 (N + 1) (by omega) (fun e => by have := hvb _ e.symm; omega) (by omega)).trans b1
set_option maxHeartbeats 4000000 in
theorem cut_fine {A Ac : Option Addr} {m cp mc cpc B : Nat} {bs ls : List UInt8} {w : World} (hcp : m ≤ cp) (hm : m ≤ 1000000) (hmc : mc ≤ 1000000) (hfine : fineL ls = true) (hB : B ≤ w.heap.size) (hrb : Reads w B 1 A m (bcells bs)) (hrc : Reads w B 1 Ac mc (bcells ls)) :
    CallsIn Fence.wide 3 Tryz.prog 6 #[.slice A m cp, .slice Ac mc cpc] w fun e W' =>
      (∃ (v : Value) (vs : List Value) (k : Nat), e = .returned (.tuple #[v, .int .i64 0]) ∧ countTo ls m k ∧ moreB ls m k = false ∧ k ≤ 4096 ∧ W'.ownsRow w.heap.size 22 1 v k vs ∧ (∀ i, i < k → ∃ u : Value, vs[i]? = some u ∧ W'.ownsRow w.heap.size 5 1 u (stepN ls m i (atOf ls m i)) (bcells (pieceOf bs ls m i))) ∧ Below w.heap.size w W') ∨
      (e = .returned (.tuple #[.slice none 0 0, .int .i64 5]) ∧ countTo ls m 4097 ∧ Below w.heap.size w W') := by
  obtain ⟨i0, hi, hz0, hz1, hz2⟩ := info_parts cell1_info
  have HL := Lib.hid hrc.bytes
  refine callsIn_of_wp_marks Tryz.func6 rfl trivial ?_ rfl
  simp only [Tryz.ntmps6, List.size_toArray, List.length_cons, List.length_nil, Nat.reduceAdd, Nat.reduceSub, Array.replicate_succ, Array.replicate_zero, List.push_toArray, List.append_toArray, List.nil_append, List.cons_append]
  gi_upto_region 1 with fail
  gi_cut [16] from 9 (fun c wx => c = .bool false ∧ wx = (w.alloc (.cells #[.slice none 0 0] 24)).alloc (.cells #[.int .i64 0] 25))
  case first =>
    rcases Nat.eq_zero_or_pos mc with h0 | h0
    · subst h0
      gi_wp2
      refine ⟨trivial, ?_⟩
      gi_wp2
      gi_meet
      exact ⟨rfl, rfl⟩
    · have hmx : ¬ (maxTo ls mc = 0) := by
        intro h1
        have h2 := fineL_max (l := ls) (by rw [HL.out]; exact h0)
        rw [HL.out, h1, hfine] at h2
        simp at h2
      have h3 : (0 : Int) < (mc : Int) := by omega
      have h4 : ¬ ((maxTo ls mc : Int) = 0) := by omega
      gi_wp2_with (refine ⟨trivial, ?_⟩; gi_at_call 16; refine (callsIn_wide.2 (max_any ((hrc.alloc hB _).alloc (by simp; omega) _) hmc h0)).mono ?_; rintro e w1 ⟨rfl, rfl⟩)
      gi_meet
      exact ⟨congrArg Value.bool (by simp; omega), rfl⟩
  case rest =>
    obtain ⟨rfl, rfl⟩ := hcut
    gi_wp2_with (refine ⟨trivial, ?_⟩; gi_at_call 17; refine (pieces_in Fence.wide 2 trivial rfl _ _ _ _ _ _ _).mono ?_; rintro e w' ⟨rfl, rfl⟩)
    have k0 : Blk (((((w.alloc (.cells #[.slice none 0 0] 24)).alloc (.cells #[.int .i64 0] 25)).alloc (.cells #[.slice none 0 0] 24)).alloc (.cells #[.slice A m cp] 22)).alloc (.cells #[.slice Ac mc cpc] 22)) w.heap.size 24 #[.slice none 0 0] := ((((Blk.new w 24 _).alloc _).alloc _).alloc _).alloc _
    have k1 : Blk (((((w.alloc (.cells #[.slice none 0 0] 24)).alloc (.cells #[.int .i64 0] 25)).alloc (.cells #[.slice none 0 0] 24)).alloc (.cells #[.slice A m cp] 22)).alloc (.cells #[.slice Ac mc cpc] 22)) (w.heap.size + 1) 25 #[.int .i64 0] := (((blk_new' (w := w.alloc (.cells #[.slice none 0 0] 24)) (by simp)).alloc _).alloc _).alloc _
    have k2 : Blk (((((w.alloc (.cells #[.slice none 0 0] 24)).alloc (.cells #[.int .i64 0] 25)).alloc (.cells #[.slice none 0 0] 24)).alloc (.cells #[.slice A m cp] 22)).alloc (.cells #[.slice Ac mc cpc] 22)) (w.heap.size + 2) 24 #[.slice none 0 0] := ((blk_new' (w := (w.alloc (.cells #[.slice none 0 0] 24)).alloc (.cells #[.int .i64 0] 25)) (by simp)).alloc _).alloc _
    have k3 : Blk (((((w.alloc (.cells #[.slice none 0 0] 24)).alloc (.cells #[.int .i64 0] 25)).alloc (.cells #[.slice none 0 0] 24)).alloc (.cells #[.slice A m cp] 22)).alloc (.cells #[.slice Ac mc cpc] 22)) (w.heap.size + 1 + 1 + 1) 22 #[.slice A m cp] := (blk_new' (w := ((w.alloc (.cells #[.slice none 0 0] 24)).alloc (.cells #[.int .i64 0] 25)).alloc (.cells #[.slice none 0 0] 24)) (by simp)).alloc _
    have k4 : Blk (((((w.alloc (.cells #[.slice none 0 0] 24)).alloc (.cells #[.int .i64 0] 25)).alloc (.cells #[.slice none 0 0] 24)).alloc (.cells #[.slice A m cp] 22)).alloc (.cells #[.slice Ac mc cpc] 22)) (w.heap.size + 1 + 1 + 1 + 1) 22 #[.slice Ac mc cpc] := blk_new' (w := (((w.alloc (.cells #[.slice none 0 0] 24)).alloc (.cells #[.int .i64 0] 25)).alloc (.cells #[.slice none 0 0] 24)).alloc (.cells #[.slice A m cp] 22)) (by simp)
    have hb5 : Below w.heap.size w (((((w.alloc (.cells #[.slice none 0 0] 24)).alloc (.cells #[.int .i64 0] 25)).alloc (.cells #[.slice none 0 0] 24)).alloc (.cells #[.slice A m cp] 22)).alloc (.cells #[.slice Ac mc cpc] 22)) := (((((Below.refl _ w).alloc (Nat.le_refl _) _).alloc (by simp) _).alloc (by simp; omega) _).alloc (by simp; omega) _).alloc (by simp; omega) _
    have hs5 : (((((w.alloc (.cells #[.slice none 0 0] 24)).alloc (.cells #[.int .i64 0] 25)).alloc (.cells #[.slice none 0 0] 24)).alloc (.cells #[.slice A m cp] 22)).alloc (.cells #[.slice Ac mc cpc] 22)).heap.size = w.heap.size + 5 := by simp
    generalize (((((w.alloc (.cells #[.slice none 0 0] 24)).alloc (.cells #[.int .i64 0] 25)).alloc (.cells #[.slice none 0 0] 24)).alloc (.cells #[.slice A m cp] 22)).alloc (.cells #[.slice Ac mc cpc] 22)) = W0 at *
    refine wpIn_rangeFunc_ownG rfl (by omega) (gf := 28) (lb := #[.pointer (some ⟨w.heap.size + 1 + 1 + 1, 0, none⟩), .pointer (some ⟨w.heap.size + 1 + 1 + 1 + 1, 0, none⟩)]) rfl trivial (enters_of Tryz.func28 (by kernel_rfl) rfl)
      (pieces_stops Fence.wide 2 trivial rfl (by omega) (w.heap.size + 1 + 1 + 1) (w.heap.size + 1 + 1 + 1 + 1) w.heap.size hcp hm hmc hfine W0 (by omega) (by omega) (by omega) (k3.cell 0) (k4.cell 0) ((hrb.more hB).below hb5) ((hrc.more hB).below hb5))
      KpB.trans (fun W l o o' hl h1 h2 h3 => ⟨belowK_b (w := W0) (by omega) W l o o' hl h1 h2 h3, World.putObj_heap_other (by omega)⟩) (Below.refl _ _) (fun _ => rfl)
      (CutI w.heap.size m bs ls w) (CutX w.heap.size w) (cutI_own (by omega) (Nat.le_refl _)) (fun c => cutX_own (by omega) (Nat.le_refl _) c)
      ⟨⟨⟨.slice none 0 0, [], k2, World.ownsRow_nil _ _ _ _, fun i x h => by simp at h⟩, (by intro x h; cases h), k0, k1, by omega⟩, hb5⟩
      (fun x => { tmps := #[.slice A m cp, .slice Ac mc cpc, undef, undef, .pointer (some ⟨w.heap.size, 0, none⟩), .pointer (some ⟨w.heap.size + 1, 0, none⟩), .pointer (some ⟨w.heap.size + 1 + 1, 0, none⟩), .int .i64 (x : Int), .slice (adrOf ls m cp A x) (stepN ls m x (atOf ls m x)) (cp - atOf ls m x), u9, u10, u11, u12, u13, u14, u15, .bool false, .slice A m cp, .slice Ac mc cpc, .func (.func 28) #[] #[.pointer (some ⟨w.heap.size + 1 + 1 + 1, 0, none⟩), .pointer (some ⟨w.heap.size + 1 + 1 + 1 + 1, 0, none⟩)], .int .i64 (x : Int), .slice (adrOf ls m cp A x) (stepN ls m x (atOf ls m x)) (cp - atOf ls m x), u22, u23, u24, u25, u26, u27, u28, u29], defers := [] }) ?assign ?body ?done ?stop
    case assign =>
      intro l x W K hK
      dsimp only [pieceEnc]
      gi_wp2
      exact hK
    case body =>
      rintro l pre x W ⟨⟨⟨v, vs, bv, hrow, hvs⟩, hpre, b0, b1, hs9⟩, hB9⟩ hlt
      have c0 : W.cell? ⟨w.heap.size, 0, none⟩ = some (.slice none 0 0) := b0.cell 0
      have c1 : W.cell? ⟨w.heap.size + 1, 0, none⟩ = some (.int .i64 0) := b1.cell 0
      have c2 : W.cell? ⟨w.heap.size + 1 + 1, 0, none⟩ = some v := bv.cell 0
      have f0 : W.frozen? ⟨w.heap.size, 0, none⟩ = false := b0.frozen 0
      have f1 : W.frozen? ⟨w.heap.size + 1, 0, none⟩ = false := b1.frozen 0
      have f2 : W.frozen? ⟨w.heap.size + 1 + 1, 0, none⟩ = false := bv.frozen 0
      by_cases hx : x = 4096
      · have h1 : ((x : Int) == 4096) = true := by simp; omega
        have HX := Lib.hid hx
        clear hx
        gi_wp2
        refine ⟨(KeepsOthers.setCell _ _ _).trans (KeepsOthers.setCell _ _ _) |>.from _, ⟨rfl, by rw [HX.out]; simp, ?_, ?_⟩, ?_⟩
        · exact (b0.set_ 0 _).far (p := ⟨w.heap.size + 1, 0, none⟩) (by show w.heap.size ≠ w.heap.size + 1; omega) _
        · exact (b1.far (p := ⟨w.heap.size, 0, none⟩) (by show w.heap.size + 1 ≠ w.heap.size; omega) _).set_ 0 _
        · exact (hB9.setCell (p := ⟨w.heap.size, 0, none⟩) (Nat.le_refl _) _).setCell (p := ⟨w.heap.size + 1, 0, none⟩) (by show w.heap.size ≤ w.heap.size + 1; omega) _
      · have h1 : ((x : Int) == 4096) = false := by simp; omega
        have HX := Lib.hid hx
        clear hx
        have hmx : Tryz.prog.follows .mixedOrders = true := by kernel_rfl
        gi_wp2
        have hrp : Reads W w.heap.size 1 (adrOf ls m cp A x) (stepN ls m x (atOf ls m x)) (bcells (pieceOf bs ls m x)) := by
          have h := (adr_reads ((hrb.more hB).below hB9) hcp x).take (stepN_le ls m x (atOf ls m x))
          rw [Nat.mul_one, bcells_take] at h
          exact h
        have hrl : w.heap.size ≤ W.heap.size := hB9.size
        have hrm : stepN ls m x (atOf ls m x) ≤ 1000000 := by have := stepN_le ls m x (atOf ls m x); omega
        have hvN : v.ownBlock ≠ some (w.heap.size + 2) := fun e => by have := (hrow.lt _ e).1; omega
        have hbn : boundN ls m ≤ 1000000000001 := by
          have h8 : m * ls.length ≤ 1000000 * 1000000 := Nat.mul_le_mul hm (by rw [HL.out]; exact hmc)
          unfold boundN
          omega
        refine wpIn_region_any hmx ?_
        try (change wpAnyIn _ _ _ _ _ _ _ _ _ (World.drew _))
        refine wpAnyIn_ready (rs := [0, 1]) (by kernel_rfl) (by simp) ?_
        refine AllReadyIn.cons rfl (fun K hK => ?_) (AllReadyIn.cons rfl (fun K hK => ?_) AllReadyIn.nil)
        · go_simp
          refine hK _ _ ?_
          clear hK K
          refine wpAnyIn_ready (rs := [1]) (by kernel_rfl) (by simp) ?_
          refine AllReadyIn.cons rfl (fun K hK => ?_) AllReadyIn.nil
          go_simp
          refine hK _ _ ?_
          clear hK K
          refine wpAnyIn_ready (rs := [2]) (by kernel_rfl) (by simp) ?_
          refine AllReadyIn.cons rfl (fun K hK => ?_) AllReadyIn.nil
          go_simp
          refine ⟨trivial, ?_⟩
          refine (CallsIn.inRound l (callsIn_wide.2 (clone_bytes (hrp.drewN 1) hrl hrm))).mono ?_
          rintro e w1 ⟨u, rfl, hu, hb1⟩
          obtain ⟨A1, c1u, rfl, _, _, _⟩ := own_slice hu
          have hb1' : Below W.heap.size W.drew w1 := hb1
          have hs1 : W.heap.size ≤ w1.heap.size := hb1'.size
          have q1 : Blk w1 (w.heap.size + 2) 24 #[v] := (hb1'.block (w.heap.size + 2) bv.lt).trans bv
          have c2w : w1.cell? ⟨w.heap.size + 1 + 1, 0, none⟩ = some v := q1.cell 0
          have c2a : (w1.alloc (.cells #[.slice A1 (stepN ls m x (atOf ls m x)) c1u] 22)).cell? ⟨w.heap.size + 1 + 1, 0, none⟩ = some v := (q1.alloc _).cell 0
          refine hK _ _ ?_
          clear hK K
          refine wpAnyIn_ready (rs := [3]) (by kernel_rfl) (by simp) ?_
          refine AllReadyIn.cons rfl (fun K hK => ?_) AllReadyIn.nil
          go_simp
          refine hK _ _ ?_
          clear hK K
          refine wpAnyIn_ready (rs := [4]) (by kernel_rfl) (by simp) ?_
          refine AllReadyIn.cons rfl (fun K hK => ?_) AllReadyIn.nil
          refine stepIn_append_own_at _ rfl (.tmp 24) (.tmp 27) 24 rfl (w.heap.size + 5) 22 i0 (.slice none 0 0) 1 24 Tryz.underlying24 hi hz0 hz1 hz2 rfl (by decide) v pre.length vs rfl ((own_keep hrow (fun g hg => hb1'.block g (hrow.lt g hg).2)).alloc _) ⟨w1.heap.size, 0, none⟩ 1 1 [.slice A1 (stepN ls m x (atOf ls m x)) c1u] rfl rfl (cell_one_new _ _ _) (by simp [Value.oneCell']) (by unfold maxLen; omega) (by omega) (by simp; omega) ?_
          intro v7 w7 hown7 hg7 _ hn7
          obtain ⟨A7, c7, rfl, _, _, _⟩ := own_slice hown7
          have q7 := (q1.alloc (.cells #[.slice A1 (stepN ls m x (atOf ls m x)) c1u] 22)).grown hg7 (fun e => hvN e.symm)
          have c27 : w7.cell? ⟨w.heap.size + 1 + 1, 0, none⟩ = some v := q7.cell 0
          have f27 : w7.frozen? ⟨w.heap.size + 1 + 1, 0, none⟩ = false := q7.frozen 0
          refine hK _ _ ?_
          clear hK K
          refine wpAnyIn_ready (rs := [5]) (by kernel_rfl) (by simp) ?_
          refine AllReadyIn.cons rfl (fun K hK => ?_) AllReadyIn.nil
          go_simp
          refine hK _ _ ?_
          clear hK K
          refine wpAnyIn_done (by kernel_rfl) ?_ _
          exact body_end bv hrow hvs hpre b0 b1 hs9 hB9 HX.out hb1' hu hown7 hg7
        · go_simp
          refine hK _ _ ?_
          clear hK K
          refine wpAnyIn_ready (rs := [0, 2]) (by kernel_rfl) (by simp) ?_
          refine AllReadyIn.cons rfl (fun K hK => ?_) (AllReadyIn.cons rfl (fun K hK => ?_) AllReadyIn.nil)
          · go_simp
            refine hK _ _ ?_
            clear hK K
            refine wpAnyIn_ready (rs := [2]) (by kernel_rfl) (by simp) ?_
            refine AllReadyIn.cons rfl (fun K hK => ?_) AllReadyIn.nil
            go_simp
            refine ⟨trivial, ?_⟩
            refine (CallsIn.inRound l (callsIn_wide.2 (clone_bytes (hrp.drewN 1) hrl hrm))).mono ?_
            rintro e w1 ⟨u, rfl, hu, hb1⟩
            obtain ⟨A1, c1u, rfl, _, _, _⟩ := own_slice hu
            have hb1' : Below W.heap.size W.drew w1 := hb1
            have hs1 : W.heap.size ≤ w1.heap.size := hb1'.size
            have q1 : Blk w1 (w.heap.size + 2) 24 #[v] := (hb1'.block (w.heap.size + 2) bv.lt).trans bv
            have c2w : w1.cell? ⟨w.heap.size + 1 + 1, 0, none⟩ = some v := q1.cell 0
            have c2a : (w1.alloc (.cells #[.slice A1 (stepN ls m x (atOf ls m x)) c1u] 22)).cell? ⟨w.heap.size + 1 + 1, 0, none⟩ = some v := (q1.alloc _).cell 0
            refine hK _ _ ?_
            clear hK K
            refine wpAnyIn_ready (rs := [3]) (by kernel_rfl) (by simp) ?_
            refine AllReadyIn.cons rfl (fun K hK => ?_) AllReadyIn.nil
            go_simp
            refine hK _ _ ?_
            clear hK K
            refine wpAnyIn_ready (rs := [4]) (by kernel_rfl) (by simp) ?_
            refine AllReadyIn.cons rfl (fun K hK => ?_) AllReadyIn.nil
            refine stepIn_append_own_at _ rfl (.tmp 24) (.tmp 27) 24 rfl (w.heap.size + 5) 22 i0 (.slice none 0 0) 1 24 Tryz.underlying24 hi hz0 hz1 hz2 rfl (by decide) v pre.length vs rfl ((own_keep hrow (fun g hg => hb1'.block g (hrow.lt g hg).2)).alloc _) ⟨w1.heap.size, 0, none⟩ 1 1 [.slice A1 (stepN ls m x (atOf ls m x)) c1u] rfl rfl (cell_one_new _ _ _) (by simp [Value.oneCell']) (by unfold maxLen; omega) (by omega) (by simp; omega) ?_
            intro v7 w7 hown7 hg7 _ hn7
            obtain ⟨A7, c7, rfl, _, _, _⟩ := own_slice hown7
            have q7 := (q1.alloc (.cells #[.slice A1 (stepN ls m x (atOf ls m x)) c1u] 22)).grown hg7 (fun e => hvN e.symm)
            have c27 : w7.cell? ⟨w.heap.size + 1 + 1, 0, none⟩ = some v := q7.cell 0
            have f27 : w7.frozen? ⟨w.heap.size + 1 + 1, 0, none⟩ = false := q7.frozen 0
            refine hK _ _ ?_
            clear hK K
            refine wpAnyIn_ready (rs := [5]) (by kernel_rfl) (by simp) ?_
            refine AllReadyIn.cons rfl (fun K hK => ?_) AllReadyIn.nil
            go_simp
            refine hK _ _ ?_
            clear hK K
            refine wpAnyIn_done (by kernel_rfl) ?_ _
            exact body_end bv hrow hvs hpre b0 b1 hs9 hB9 HX.out hb1' hu hown7 hg7
          · go_simp
            refine ⟨trivial, ?_⟩
            refine (CallsIn.inRound l (callsIn_wide.2 (clone_bytes (hrp.drewN 1) hrl hrm))).mono ?_
            rintro e w1 ⟨u, rfl, hu, hb1⟩
            obtain ⟨A1, c1u, rfl, _, _, _⟩ := own_slice hu
            have hb1' : Below W.heap.size W.drew w1 := hb1
            have hs1 : W.heap.size ≤ w1.heap.size := hb1'.size
            have q1 : Blk w1 (w.heap.size + 2) 24 #[v] := (hb1'.block (w.heap.size + 2) bv.lt).trans bv
            have c2w : w1.cell? ⟨w.heap.size + 1 + 1, 0, none⟩ = some v := q1.cell 0
            have c2a : (w1.alloc (.cells #[.slice A1 (stepN ls m x (atOf ls m x)) c1u] 22)).cell? ⟨w.heap.size + 1 + 1, 0, none⟩ = some v := (q1.alloc _).cell 0
            refine hK _ _ ?_
            clear hK K
            refine wpAnyIn_ready (rs := [0, 3]) (by kernel_rfl) (by simp) ?_
            refine AllReadyIn.cons rfl (fun K hK => ?_) (AllReadyIn.cons rfl (fun K hK => ?_) AllReadyIn.nil)
            · go_simp
              refine hK _ _ ?_
              clear hK K
              refine wpAnyIn_ready (rs := [3]) (by kernel_rfl) (by simp) ?_
              refine AllReadyIn.cons rfl (fun K hK => ?_) AllReadyIn.nil
              go_simp
              refine hK _ _ ?_
              clear hK K
              refine wpAnyIn_ready (rs := [4]) (by kernel_rfl) (by simp) ?_
              refine AllReadyIn.cons rfl (fun K hK => ?_) AllReadyIn.nil
              refine stepIn_append_own_at _ rfl (.tmp 24) (.tmp 27) 24 rfl (w.heap.size + 5) 22 i0 (.slice none 0 0) 1 24 Tryz.underlying24 hi hz0 hz1 hz2 rfl (by decide) v pre.length vs rfl ((own_keep hrow (fun g hg => hb1'.block g (hrow.lt g hg).2)).alloc _) ⟨w1.heap.size, 0, none⟩ 1 1 [.slice A1 (stepN ls m x (atOf ls m x)) c1u] rfl rfl (cell_one_new _ _ _) (by simp [Value.oneCell']) (by unfold maxLen; omega) (by omega) (by simp; omega) ?_
              intro v7 w7 hown7 hg7 _ hn7
              obtain ⟨A7, c7, rfl, _, _, _⟩ := own_slice hown7
              have q7 := (q1.alloc (.cells #[.slice A1 (stepN ls m x (atOf ls m x)) c1u] 22)).grown hg7 (fun e => hvN e.symm)
              have c27 : w7.cell? ⟨w.heap.size + 1 + 1, 0, none⟩ = some v := q7.cell 0
              have f27 : w7.frozen? ⟨w.heap.size + 1 + 1, 0, none⟩ = false := q7.frozen 0
              refine hK _ _ ?_
              clear hK K
              refine wpAnyIn_ready (rs := [5]) (by kernel_rfl) (by simp) ?_
              refine AllReadyIn.cons rfl (fun K hK => ?_) AllReadyIn.nil
              go_simp
              refine hK _ _ ?_
              clear hK K
              refine wpAnyIn_done (by kernel_rfl) ?_ _
              exact body_end bv hrow hvs hpre b0 b1 hs9 hB9 HX.out hb1' hu hown7 hg7
            · go_simp
              refine hK _ _ ?_
              clear hK K
              refine wpAnyIn_ready (rs := [0]) (by kernel_rfl) (by simp) ?_
              refine AllReadyIn.cons rfl (fun K hK => ?_) AllReadyIn.nil
              go_simp
              refine hK _ _ ?_
              clear hK K
              refine wpAnyIn_ready (rs := [4]) (by kernel_rfl) (by simp) ?_
              refine AllReadyIn.cons rfl (fun K hK => ?_) AllReadyIn.nil
              refine stepIn_append_own_at _ rfl (.tmp 24) (.tmp 27) 24 rfl (w.heap.size + 5) 22 i0 (.slice none 0 0) 1 24 Tryz.underlying24 hi hz0 hz1 hz2 rfl (by decide) v pre.length vs rfl ((own_keep hrow (fun g hg => hb1'.block g (hrow.lt g hg).2)).alloc _) ⟨w1.heap.size, 0, none⟩ 1 1 [.slice A1 (stepN ls m x (atOf ls m x)) c1u] rfl rfl (cell_one_new _ _ _) (by simp [Value.oneCell']) (by unfold maxLen; omega) (by omega) (by simp; omega) ?_
              intro v7 w7 hown7 hg7 _ hn7
              obtain ⟨A7, c7, rfl, _, _, _⟩ := own_slice hown7
              have q7 := (q1.alloc (.cells #[.slice A1 (stepN ls m x (atOf ls m x)) c1u] 22)).grown hg7 (fun e => hvN e.symm)
              have c27 : w7.cell? ⟨w.heap.size + 1 + 1, 0, none⟩ = some v := q7.cell 0
              have f27 : w7.frozen? ⟨w.heap.size + 1 + 1, 0, none⟩ = false := q7.frozen 0
              refine hK _ _ ?_
              clear hK K
              refine wpAnyIn_ready (rs := [5]) (by kernel_rfl) (by simp) ?_
              refine AllReadyIn.cons rfl (fun K hK => ?_) AllReadyIn.nil
              go_simp
              refine hK _ _ ?_
              clear hK K
              refine wpAnyIn_done (by kernel_rfl) ?_ _
              exact body_end bv hrow hvs hpre b0 b1 hs9 hB9 HX.out hb1' hu hown7 hg7
    case done =>
      rintro D ys W hD ⟨k, rfl, hct, hmo⟩ ⟨⟨⟨v, vs, bv, hrow, hvs⟩, hpre, b0, b1, hs9⟩, hB9⟩ hK
      have c2 : W.cell? ⟨w.heap.size + 1 + 1, 0, none⟩ = some v := bv.cell 0
      obtain ⟨A1, c1, rfl, _, _, _⟩ := own_slice hrow
      have f0 : W.frozen? ⟨w.heap.size, 0, none⟩ = false := b0.frozen 0
      have f1 : W.frozen? ⟨w.heap.size + 1, 0, none⟩ = false := b1.frozen 0
      have c0 : W.cell? ⟨w.heap.size, 0, none⟩ = some (.slice none 0 0) := b0.cell 0
      have c1' : W.cell? ⟨w.heap.size + 1, 0, none⟩ = some (.int .i64 0) := b1.cell 0
      gi_wp2
      have hKO : KeepsOthers W ((W.setCell ⟨w.heap.size, 0, none⟩ (.slice A1 (List.range k).length c1)).setCell ⟨w.heap.size + 1, 0, none⟩ (.int .i64 0)) := (KeepsOthers.setCell _ _ _).trans (KeepsOthers.setCell _ _ _)
      have d0 : Blk ((W.setCell ⟨w.heap.size, 0, none⟩ (.slice A1 (List.range k).length c1)).setCell ⟨w.heap.size + 1, 0, none⟩ (.int .i64 0)) w.heap.size 24 #[.slice A1 (List.range k).length c1] := (b0.set_ 0 _).far (p := ⟨w.heap.size + 1, 0, none⟩) (by show w.heap.size ≠ w.heap.size + 1; omega) _
      have d1 : Blk ((W.setCell ⟨w.heap.size, 0, none⟩ (.slice A1 (List.range k).length c1)).setCell ⟨w.heap.size + 1, 0, none⟩ (.int .i64 0)) (w.heap.size + 1) 25 #[.int .i64 0] := (b1.far (p := ⟨w.heap.size, 0, none⟩) (by show w.heap.size + 1 ≠ w.heap.size; omega) _).set_ 0 _
      have hK' := hKO.same D _ hK rfl
      have hb' : Below w.heap.size w ((W.setCell ⟨w.heap.size, 0, none⟩ (.slice A1 (List.range k).length c1)).setCell ⟨w.heap.size + 1, 0, none⟩ (.int .i64 0)) := (hB9.setCell (p := ⟨w.heap.size, 0, none⟩) (Nat.le_refl _) _).setCell (p := ⟨w.heap.size + 1, 0, none⟩) (by show w.heap.size ≤ w.heap.size + 1; omega) _
      have hrow' := (hrow.kept (grown_set W w.heap.size 0 (.slice A1 (List.range k).length c1)) (.inr fun e => by have := own_base hrow e; omega)).kept (grown_set _ (w.heap.size + 1) 0 (.int .i64 0)) (.inr fun e => by have := own_base hrow e; omega)
      have hvs' : ∀ i, i < k → ∃ u : Value, vs[i]? = some u ∧ ((W.setCell ⟨w.heap.size, 0, none⟩ (.slice A1 (List.range k).length c1)).setCell ⟨w.heap.size + 1, 0, none⟩ (.int .i64 0)).ownsRow w.heap.size 5 1 u (stepN ls m i (atOf ls m i)) (bcells (pieceOf bs ls m i)) := by
        intro i hik
        obtain ⟨u, h1, h2⟩ := hvs i i (by rw [List.getElem?_range hik])
        exact ⟨u, h1, (h2.kept (grown_set W w.heap.size 0 _) (.inr (own_blk_ne h2 b0 (by decide)))).kept (grown_set _ (w.heap.size + 1) 0 _) (.inr (own_blk_ne h2 b1 (by decide)))⟩
      rw [List.length_range] at hK' d0 d1 hb' hrow' hvs'
      generalize ((W.setCell ⟨w.heap.size, 0, none⟩ (.slice A1 k c1)).setCell ⟨w.heap.size + 1, 0, none⟩ (.int .i64 0)) = W9 at *
      have hgr := grownBy_putObj' W9 D (.deferred none)
      have hrr : ∀ r, some D = some r → ∃ o : Obj, W9.heap[r]? = some o ∧ o.isCells = false := fun r e => by cases e; exact ⟨_, hK', rfl⟩
      refine ⟨by simp, .inl ⟨_, _, rfl, run_takeDeferred hK', ?_⟩⟩
      have g0 := (blk_stays d0 hgr hrr).cell 0
      have g1 := (blk_stays d1 hgr hrr).cell 0
      refine ⟨_, res_cc g0 g1 rfl rfl, .inl ⟨_, vs, k, rfl, hct, hmo, ?_, World.ownsRow.mono (own_stays hrow' hgr hrr) (by omega), fun i hik => ?_, hb'.trans (belowK_b (w := W0) (by omega) W9 D _ _ hD hK' rfl rfl)⟩⟩
      · rcases Nat.lt_or_ge 4096 k with h9 | h9
        · exact absurd rfl (hpre 4096 (List.mem_range.2 h9))
        · exact h9
      · obtain ⟨u, h1, h2⟩ := hvs' i hik
        exact ⟨u, h1, own_stays h2 hgr hrr⟩
    case stop =>
      rintro D c pre W hD ⟨k, rfl, hct⟩ ⟨⟨rfl, hpre, b0, b1⟩, hB9⟩ hK
      gi_wp2
      have hgr := grownBy_putObj' W D (.deferred none)
      have hrr : ∀ r, some D = some r → ∃ o : Obj, W.heap[r]? = some o ∧ o.isCells = false := fun r e => by cases e; exact ⟨_, hK, rfl⟩
      refine ⟨by simp, .inl ⟨_, _, rfl, run_takeDeferred hK, ?_⟩⟩
      exact ⟨_, res_cc ((blk_stays b0 hgr hrr).cell 0) ((blk_stays b1 hgr hrr).cell 0) rfl rfl, .inr ⟨rfl, last_count hct hpre, hB9.trans (belowK_b (w := W0) (by omega) W D _ _ hD hK rfl rfl)⟩⟩
end Go.Proofs.YtdjbjcnkboggjaaGreatDoor

namespace Go.Proofs.YtdjbjcnkboggjaaGreatDoor
open Go.RowKit Go.Rep
set_option maxRecDepth 100000
set_option maxHeartbeats 2000000 in
/-- Cut, with lengths that are not allowed. -/
theorem cut_bad {A Ac : Option Addr} {m cp mc cpc B : Nat} {ls : List UInt8} {w : World} (hmc : mc ≤ 1000000) (hfine : fineL ls = false) (hB : B ≤ w.heap.size) (hrc : Reads w B 1 Ac mc (bcells ls)) :
    Calls Tryz.prog 6 #[.slice A m cp, .slice Ac mc cpc] w fun e W' => e = .returned (.tuple #[.slice none 0 0, .int .i64 2]) ∧ Below w.heap.size w W' := by
  have h0 : 0 < mc := by
    rcases Nat.eq_zero_or_pos mc with h | h
    · have hl := hrc.bytes
      rw [h] at hl
      have : ls = [] := List.eq_nil_of_length_eq_zero hl
      subst this
      cases hfine
    · exact h
  have hmx : maxTo ls mc = 0 := by
    have h2 := fineL_max (l := ls) (by rw [hrc.bytes]; exact h0)
    rw [hrc.bytes, hfine] at h2
    simpa using h2
  have h3 : (0 : Int) < (mc : Int) := by omega
  have HM := Lib.hid hmx
  clear hmx hfine
  go_enter Tryz.func6, Tryz.ntmps6
  go_wp2_with (go_at_call 16; refine (max_any ((hrc.alloc hB _).alloc (by simp; omega) _) hmc h0).mono ?_; rintro e w1 ⟨rfl, rfl⟩; rw [HM.out])
  have d0 : Blk ((w.alloc (.cells #[.slice none 0 0] 24)).alloc (.cells #[.int .i64 2] 25)) w.heap.size 24 #[.slice none 0 0] := (Blk.new w 24 _).alloc _
  have d1 : Blk ((w.alloc (.cells #[.slice none 0 0] 24)).alloc (.cells #[.int .i64 2] 25)) (w.heap.size + 1) 25 #[.int .i64 2] := blk_new' (w := w.alloc (.cells #[.slice none 0 0] 24)) (by simp)
  refine bodyPost_ret (res_cc (d0.cell 0) (d1.cell 0) rfl rfl) rfl ⟨rfl, ?_⟩
  exact (((Below.refl _ w).alloc (Nat.le_refl _) _).alloc (by simp) _)
end Go.Proofs.YtdjbjcnkboggjaaGreatDoor

namespace Go.Proofs.YtdjbjcnkboggjaaGreatDoor
open Go.RowKit Go.Rep
set_option maxRecDepth 100000
/-- Each of k values is a slice that reads a piece. -/
def Pieces (w : World) (B m : Nat) (bs ls : List UInt8) (k : Nat) (vs : List Value) : Prop :=
  ∀ i, i < k → ∃ A c, vs[i]? = some (.slice A (stepN ls m i (atOf ls m i)) c) ∧ Reads w B 1 A (stepN ls m i (atOf ls m i)) (bcells (pieceOf bs ls m i))
def RefP (B m : Nat) (bs ls : List UInt8) (w : World) (e : Ending) (W' : World) : Prop :=
  ∃ (v : Value) (vs : List Value) (k : Nat), e = .returned v ∧ 1 ≤ k ∧ k ≤ 4097 ∧ countTo ls m k ∧ (moreB ls m k = false ∨ k = 4097) ∧ W'.ownsRow w.heap.size 22 1 v k vs ∧ Pieces W' B m bs ls k vs ∧ Below w.heap.size w W'
theorem slice_reads {w : World} {B m cp a n : Nat} {A : Option Addr} {bs : List UInt8} (h : Reads w B 1 A m (bcells bs)) (hc : m ≤ cp) (h1 : a + n ≤ m) : Reads w B 1 (if cp = a then A else A.map (·.add a)) n (bcells ((bs.drop a).take n)) := by
  have h2 := (h.cut (k := a) (by omega) hc).take (m := n) (by omega)
  rw [Nat.mul_one, Nat.mul_one, bcells_drop, bcells_take] at h2
  exact h2
def lenV : Value → Nat
  | .slice _ n _ => n
  | _ => 0
set_option maxHeartbeats 4000000 in
theorem ref_cut {A Ac : Option Addr} {m cp mc cpc B : Nat} {bs ls : List UInt8} {w : World} (hcp : m ≤ cp) (_hcl : cp ≤ maxLen) (hm : m ≤ 1000000) (hmc : mc ≤ 1000000) (hB : B ≤ w.heap.size) (hrb : Reads w B 1 A m (bcells bs)) (hrc : Reads w B 1 Ac mc (bcells ls)) :
    Calls Tryz.prog 7 #[.slice A m cp, .slice Ac mc cpc] w (RefP B m bs ls w) := by
  have HL := Lib.hid hrc.bytes
  obtain ⟨i0, hi, hz0, hz1, hz2⟩ := info_parts cell1_info
  rcases Nat.eq_zero_or_pos mc with h0 | h0
  · subst h0
    have hl0 : ls.length = 0 := HL.out
    have hst : stepN ls m 0 0 = m := by unfold stepN; rw [if_pos hl0]; rfl
    have hpc : pieceOf bs ls m 0 = bs := by
      show (bs.drop 0).take (stepN ls m 0 0) = bs
      rw [hst, List.drop_zero, List.take_of_length_le (by rw [hrb.bytes]; exact Nat.le_refl _)]
    have hat : moreB ls m 1 = false := by
      have : atOf ls m 1 = m := by show 0 + stepN ls m 0 0 = m; rw [hst]; omega
      unfold moreB
      rw [this]
      simp
    have HQ := Lib.hid (And.intro hst (And.intro hpc hat))
    clear hl0 hst hpc hat
    go_enter Tryz.func7, Tryz.ntmps7
    go_wp2
    go_ret
    have hb : Below w.heap.size w (w.alloc (.cells #[.slice A m cp] 22)) := (Below.refl _ w).alloc (Nat.le_refl _) _
    refine ⟨_, [.slice A m cp], 1, rfl, Nat.le_refl _, by omega, fun j hj => by unfold moreB; simp; omega, .inl HQ.out.2.2, World.ownsRow_lit w #[.slice A m cp] 1 (Nat.le_refl _) (by unfold maxLen; omega) rfl, ?_, hb⟩
    intro i hi1
    obtain rfl : i = 0 := by omega
    refine ⟨A, cp, by show some _ = some _; rw [show stepN ls m 0 (atOf ls m 0) = m from HQ.out.1], ?_⟩
    rw [show stepN ls m 0 (atOf ls m 0) = m from HQ.out.1, HQ.out.2.1]
    exact hrb.below (hb.mono hB)
  · have hne : ¬ ((mc : Int) = 0) := by omega
    have hne2 : ((mc : Int) == 0) = false := by simp; omega
    go_enter Tryz.func7, Tryz.ntmps7
    go_wp2
    go_loopw [5, 6] (fun v a wr => ∃ (k : Nat) (vs : List Value), a = .int .i64 (atOf ls m k : Int) ∧ wr.ownsRow w.heap.size 22 1 v k vs ∧ Pieces wr B m bs ls k vs ∧ Hid (countTo ls m k) ∧ k ≤ 4097 ∧ Below w.heap.size w wr) (fun v _ _ => 4098 - lenV v)
    case atStart => exact ⟨0, [], rfl, World.ownsRow_nil _ _ _ _, fun i h => by omega, Lib.hid (fun j h => by omega), by omega, Below.refl _ _⟩
    case round =>
      obtain ⟨k, vs, rfl, hrow, hpcs, hct, hk, hbr⟩ := hrel
      obtain ⟨A1, c1, rfl, hkc, hc1, _⟩ := own_slice hrow
      have hle := atOf_le ls m k
      have hmo1 : moreB ls m k = (k == 0 || decide (atOf ls m k < m)) := rfl
      by_cases hgo : k = 0 ∨ (atOf ls m k < m ∧ k ≤ 4096)
      · have hmo : moreB ls m k = true := by
          rw [hmo1]
          rcases hgo with h | h
          · simp [h]
          · simp [h.1]
        have hst : stepN ls m k (atOf ls m k) = min (byteAt ls (k % mc)) (m - atOf ls m k) := by unfold stepN; rw [HL.out, if_neg (by omega)]
        have hA1 : atOf ls m (k + 1) = atOf ls m k + stepN ls m k (atOf ls m k) := rfl
        have hct' : countTo ls m (k + 1) := fun j hj => by
          rcases Nat.lt_or_ge j k with h9 | h9
          · exact hct.out j h9
          · obtain rfl : j = k := by omega
            exact hmo
        have hsl := stepN_le ls m k (atOf ls m k)
        have hrd := slice_reads (n := stepN ls m k (atOf ls m k)) (hrb.below (hbr.mono hB)) hcp (show atOf ls m k + stepN ls m k (atOf ls m k) ≤ m by omega)
        have hpo : pieceOf bs ls m k = (bs.drop (atOf ls m k)).take (stepN ls m k (atOf ls m k)) := rfl
        rw [← hpo] at hrd
        obtain ⟨j0, hj0⟩ : ∃ j, k % mc = j := ⟨_, rfl⟩
        rw [hj0] at hst
        have hj1 : j0 < mc := by rw [← hj0]; exact Nat.mod_lt _ h0
        obtain ⟨ac, hac, hbk, hcb⟩ := (hrc.below (hbr.mono hB)).byte hj1
        have h9 : Int.tmod (k : Int) (mc : Int) = (j0 : Int) := by rw [Int.tmod_eq_emod_of_nonneg (by omega), ← hj0]; rfl
        have h14 : (k : Int) % (mc : Int) = (j0 : Int) := by rw [← hj0]; rfl
        have h8 : ¬ (mc = 0) := by omega
        have h10 : (j0 : Int) < (mc : Int) := by omega
        subst hac
        obtain ⟨bt, hbt⟩ : ∃ b, byteAt ls j0 = b := ⟨_, rfl⟩
        have hbl := byteAt_lt ls j0
        rw [hbt] at hst hcb hbl
        obtain ⟨s0, hs0⟩ : ∃ x, stepN ls m k (atOf ls m k) = x := ⟨_, rfl⟩
        obtain ⟨a0, ha0⟩ : ∃ x, atOf ls m k = x := ⟨_, rfl⟩
        rw [hs0] at hst hA1 hsl hrd
        rw [ha0] at hst hA1 hsl hrd hle
        have hgo' : k = 0 ∨ (a0 < m ∧ k ≤ 4096) := by rw [← ha0]; exact hgo
        rw [ha0]
        have HST := Lib.hid hst
        have HX := Lib.hid (And.intro hA1 (And.intro hs0 (And.intro ha0 (And.intro hct' hmo))))
        have HRD := Lib.hid hrd
        clear hst hA1 hs0 ha0 hgo hct' hmo hpo hbt hj0 hmo1 hrd
        go_upto_region 5 with fail
        go_cut [27] (fun c wx => c = .bool true ∧ wx = wr)
        case first =>
          rcases Nat.eq_zero_or_pos k with h1 | h1
          · have h2 : ((k : Int) == 0) = true := by simp; omega
            have H1 := Lib.hid h1
            clear h1 hgo'
            go_wp2
            go_meet
            exact ⟨rfl, rfl⟩
          · have h2 : ((k : Int) == 0) = false := by simp; omega
            have h3 : (a0 : Int) < (m : Int) := by omega
            have h4 : (k : Int) ≤ 4096 := by omega
            clear hgo'
            go_wp2
            go_meet
            exact ⟨rfl, rfl⟩
        case rest =>
          obtain ⟨rfl, hwc⟩ := hcut
          subst hwc
          go_upto_if 43 with fail
          go_cut [8] (fun v wx => v = .int .i64 ((a0 + s0 : Nat) : Int) ∧ wx = wc)
          case first =>
            by_cases h1 : (m : Int) < (a0 : Int) + (bt : Int)
            · have h2 : a0 + s0 = m := by rw [HST.out]; omega
              have H2 := Lib.hid h2
              clear h2
              go_wp2
              go_meet
              exact ⟨by rw [H2.out], rfl⟩
            · have h2 : s0 = bt := by rw [HST.out]; omega
              have H2 := Lib.hid h2
              clear h2
              go_wp2
              go_meet
              exact ⟨by rw [H2.out]; congr 1, rfl⟩
          case rest =>
            obtain ⟨rfl, hwc2⟩ := hcut
            subst hwc2
            obtain ⟨e0, he0⟩ : ∃ x, a0 + s0 = x := ⟨_, rfl⟩
            obtain ⟨F0, hF0⟩ : ∃ F, (if cp = a0 then A else Option.map (fun p => p.add a0) A) = F := ⟨_, rfl⟩
            have hrd := HRD.out
            rw [hF0] at hrd
            have HRD2 := Lib.hid hrd
            have q1 : (a0 : Int) ≤ (e0 : Int) := by omega
            have q2 : (e0 : Int) ≤ (cp : Int) := by omega
            have q3 : e0 - a0 = s0 := by omega
            have hsz := hbr.size
            rw [he0]
            have HE0 := Lib.hid he0
            clear hrd he0
            go_wp2_with (at_builtin; (refine wpList_append_own_at _ rfl (.tmp 46) (.tmp 51) 24 rfl w.heap.size 22 i0 (.slice none 0 0) 1 24 Tryz.underlying24 hi hz0 hz1 hz2 rfl (by decide) (.slice A1 k c1) k vs rfl (hrow.alloc _) ⟨wc.heap.size, 0, none⟩ 1 1 [.slice F0 s0 (cp - a0)] rfl rfl (cell_one_new _ _ _) (by simp [Value.oneCell']) (by unfold maxLen; omega) (by omega) (by simp; omega) ?_); intro v7 w7 hown7 hg7 _ hn7; obtain ⟨A7, c7, rfl, _, _, _⟩ := own_slice hown7)
            have hob : ∀ g, (Value.slice A1 k c1).ownBlock = some g → w.heap.size ≤ g := fun g hg => (hrow.lt g hg).1
            have hb1 : Below B wc w7 := ((Below.refl B wc).alloc (by omega) _).grown hg7 (by simp; omega) (fun g hg => by have := hob g hg; omega)
            have hb2 : Below w.heap.size w w7 := (hbr.alloc hsz _).grown hg7 (by simp; omega) hob
            have hvl : vs.length = k := by have := hrow.1; omega
            refine ⟨⟨k + 1, vs ++ [.slice F0 s0 (cp - a0)], by rw [HX.out.1, HE0.out], hown7, ?_, Lib.hid HX.out.2.2.2.1, by omega, hb2⟩, by simp [lenV]; omega⟩
            intro i hi9
            rcases Nat.lt_or_ge i k with h9 | h9
            · obtain ⟨A', c', h5, h6⟩ := hpcs i h9
              exact ⟨A', c', by rw [List.getElem?_append_left (by omega)]; exact h5, h6.below hb1⟩
            · obtain rfl : i = k := by omega
              have hs := HX.out.2.1
              rw [HX.out.2.2.1] at hs ⊢
              rw [hs]
              exact ⟨F0, cp - a0, by rw [List.getElem?_append_right (by omega), hvl, Nat.sub_self]; rfl, HRD2.out.below hb1⟩
      · have hk0 : 0 < k := by omega
        have h2 : ((k : Int) == 0) = false := by simp; omega
        have hend : moreB ls m k = false ∨ k = 4097 := by
          rcases Nat.lt_or_ge (atOf ls m k) m with h | h
          · right; omega
          · left; rw [hmo1]; simp; omega
        have HE := Lib.hid hend
        by_cases h3 : atOf ls m k < m
        · have h4 : ((atOf ls m k : Nat) : Int) < (m : Int) := by omega
          have h5 : ¬ ((k : Int) ≤ 4096) := by omega
          clear hmo1 hgo hend
          go_wp2
          go_ret
          exact ⟨_, vs, k, rfl, hk0, hk, hct.out, HE.out, hrow, hpcs, hbr⟩
        · have h4 : ¬ ((atOf ls m k : Nat) : Int) < (m : Int) := by omega
          clear hmo1 hgo hend
          go_wp2
          go_ret
          exact ⟨_, vs, k, rfl, hk0, hk, hct.out, HE.out, hrow, hpcs, hbr⟩
end Go.Proofs.YtdjbjcnkboggjaaGreatDoor

namespace Go.Rep
open Go.RowKit
/-- A slice of slices of bytes. -/
def Lists (w : World) (B : Nat) (A : Option Addr) (k : Nat) (xs : Nat → List UInt8) : Prop :=
  ∃ vs, Reads w B 1 A k vs ∧ ∀ i, i < k → ∃ A' c, vs[i]? = some (.slice A' (xs i).length c) ∧ Reads w B 1 A' (xs i).length (bcells (xs i))
end Go.Rep
namespace Go.Proofs.YtdjbjcnkboggjaaGreatDoor
open Go.RowKit Go.Rep
set_option maxRecDepth 100000
set_option maxHeartbeats 2000000 in
theorem same_true {A A' : Option Addr} {k cp cp' B : Nat} {xs : Nat → List UInt8} {w : World} (hk : k ≤ 1000000) (h : Lists w B A k xs) (h' : Lists w B A' k xs) :
    Calls Tryz.prog 9 #[.slice A k cp, .slice A' k cp'] w fun e w' => e = .returned (.bool true) ∧ ∃ n, w' = w.drewN n := by
  obtain ⟨vs, hr, hx⟩ := h
  obtain ⟨vs', hr', hx'⟩ := h'
  go_enter Tryz.func9, Tryz.ntmps9
  go_wp2
  go_loopw [5] (fun i wr => ∃ j n : Nat, j ≤ k ∧ i = .int .i64 j ∧ wr = w.drewN n) (fun i _ => k - (intOf i).toNat)
  case atStart => exact ⟨0, 0, Nat.zero_le _, rfl, rfl⟩
  case round =>
    obtain ⟨j, n, hj, rfl, rfl⟩ := hrel
    by_cases hlt : j < k
    · obtain ⟨ad, u, rfl, _, hu, hc⟩ := hr.at_ hlt
      obtain ⟨ad', u', rfl, _, hu', hc'⟩ := hr'.at_ hlt
      obtain ⟨A1, c1, e1, r1⟩ := hx j hlt
      obtain ⟨A2, c2, e2, r2⟩ := hx' j hlt
      rw [hu] at e1
      rw [hu'] at e2
      cases e1
      cases e2
      have hlt' : (j : Int) < (k : Int) := by omega
      have q1 := fun q => run_conv_reads (P := Tryz.prog) (r1.drewN q) 22 5 Tryz.underlying22 Tryz.underlying5 c1 9 Tryz.underlying9
      have q2 := fun q => run_conv_reads (P := Tryz.prog) (r2.drewN q) 22 5 Tryz.underlying22 Tryz.underlying5 c2 9 Tryz.underlying9
      go_upto_region 6 with fail
      go_quiet (fail)
      go_wp2
      go_roundw
      case rel => exact ⟨j + 1, n + nq, by omega, by go_num, by first | rfl | trivial⟩
      case measure => simp [intOf]; omega
    · obtain rfl : j = k := by omega
      go_wp2
      go_ret
      exact ⟨rfl, n, rfl⟩
end Go.Proofs.YtdjbjcnkboggjaaGreatDoor

namespace Go.Proofs.YtdjbjcnkboggjaaGreatDoor
open Go.RowKit Go.Rep Go.Shelf
set_option maxRecDepth 100000
section
variable {A Ac : Option Addr} {m cp mc cpc B : Nat} {bs ls : List UInt8} {w : World}
theorem long_ref {k : Nat} (h : countTo ls m 4097) (hk : k ≤ 4097) (hm : moreB ls m k = false ∨ k = 4097) : k = 4097 := by
  rcases hm with h1 | h1
  · rcases Nat.lt_or_ge k 4097 with h2 | h2
    · have := h k h2
      rw [h1] at this
      cases this
    · omega
  · exact h1
/-- More than 4096 pieces. -/
structure LongP (ls : List UInt8) (m : Nat) : Prop where
  h : countTo ls m 4097
theorem cut_long (hcp : m ≤ cp) (hm : m ≤ 1000000) (hmc : mc ≤ 1000000) (hfine : fineL ls = true) (hlong : LongP ls m) (hB : B ≤ w.heap.size) (hrb : Reads w B 1 A m (bcells bs)) (hrc : Reads w B 1 Ac mc (bcells ls)) :
    Calls Tryz.prog 6 #[.slice A m cp, .slice Ac mc cpc] w fun e W' => e = .returned (.tuple #[.slice none 0 0, .int .i64 5]) ∧ Below w.heap.size w W' := by
  refine (callsIn_wide.1 (cut_fine hcp hm hmc hfine hB hrb hrc)).mono ?_
  intro e W' hq
  rcases hq with ⟨v, vs, k, _, _, h1, h2, _⟩ | ⟨h1, _, h2⟩
  · have := hlong.h k (by omega)
    rw [h1] at this
    cases this
  · exact ⟨h1, h2⟩
theorem ref_long (hcp : m ≤ cp) (hcl : cp ≤ maxLen) (hm : m ≤ 1000000) (hmc : mc ≤ 1000000) (hlong : LongP ls m) (hB : B ≤ w.heap.size) (hrb : Reads w B 1 A m (bcells bs)) (hrc : Reads w B 1 Ac mc (bcells ls)) :
    Calls Tryz.prog 7 #[.slice A m cp, .slice Ac mc cpc] w fun e W' => ∃ A5 k5 c5, e = .returned (.slice A5 k5 c5) ∧ (4096 : Int) < ((k5 : Nat) : Int) ∧ Below w.heap.size w W' := by
  refine (ref_cut hcp hcl hm hmc hB hrb hrc).mono ?_
  rintro e W' ⟨v, vs, k, rfl, _, hk, _, hmo, hown, _, hb⟩
  have h1 := long_ref hlong.h hk hmo
  obtain ⟨A5, c5, rfl, _, _, _⟩ := own_slice hown
  exact ⟨A5, k, c5, rfl, by omega, hb⟩
end
end Go.Proofs.YtdjbjcnkboggjaaGreatDoor

namespace Go.Proofs.YtdjbjcnkboggjaaGreatDoor
open Go.RowKit Go.Rep Go.Shelf
theorem count_unique {ls : List UInt8} {m k k' : Nat} (h : countTo ls m k) (he : moreB ls m k = false) (h' : countTo ls m k') (he' : moreB ls m k' = false ∨ k' = 4097) (hk : k ≤ 4096) : k' = k := by
  rcases Nat.lt_trichotomy k k' with h1 | h1 | h1
  · have := h' k h1
    rw [he] at this
    cases this
  · exact h1.symm
  · rcases he' with h2 | h2
    · have := h k' h1
      rw [h2] at this
      cases this
    · omega
theorem piece_len {bs ls : List UInt8} {m : Nat} (hb : bs.length = m) (i : Nat) : (pieceOf bs ls m i).length = stepN ls m i (atOf ls m i) := by
  have h := stepN_le ls m i (atOf ls m i)
  simp only [pieceOf, List.length_take, List.length_drop, hb]
  omega
theorem Lists.below {w w' : World} {B k : Nat} {A : Option Addr} {xs : Nat → List UInt8} (h : Lists w B A k xs) (hb : Below B w w') : Lists w' B A k xs := by
  obtain ⟨vs, hr, hx⟩ := h
  exact ⟨vs, hr.below hb, fun i hi => by obtain ⟨A', c, h1, h2⟩ := hx i hi; exact ⟨A', c, h1, h2.below hb⟩⟩
theorem Lists.more {w : World} {B B' k : Nat} {A : Option Addr} {xs : Nat → List UInt8} (h : Lists w B A k xs) (hb : B ≤ B') : Lists w B' A k xs := by
  obtain ⟨vs, hr, hx⟩ := h
  exact ⟨vs, hr.more hb, fun i hi => by obtain ⟨A', c, h1, h2⟩ := hx i hi; exact ⟨A', c, h1, h2.more hb⟩⟩
/-- Cut's rows, as a list of lists. -/
theorem lists_of_cut {W : World} {B m k : Nat} {bs ls : List UInt8} {v : Value} {vs : List Value} (hb : bs.length = m) (h : W.ownsRow B 22 1 v k vs) (hx : ∀ i, i < k → ∃ u : Value, vs[i]? = some u ∧ W.ownsRow B 5 1 u (stepN ls m i (atOf ls m i)) (bcells (pieceOf bs ls m i))) :
    ∃ A c, v = .slice A k c ∧ k ≤ c ∧ c ≤ maxLen ∧ Lists W W.heap.size A k (pieceOf bs ls m) := by
  obtain ⟨A, c, rfl, h1, h2, h3⟩ := own_slice h
  refine ⟨A, c, rfl, h1, h2, vs, h3, fun i hi => ?_⟩
  obtain ⟨u, hu, ho⟩ := hx i hi
  obtain ⟨A', c', rfl, _, _, hr⟩ := own_slice ho
  refine ⟨A', c', ?_, ?_⟩
  · rw [piece_len hb]; exact hu
  · rw [piece_len hb]; exact hr
/-- The reference's rows, as a list of lists. -/
theorem lists_of_ref {W : World} {B0 B m k : Nat} {bs ls : List UInt8} {v : Value} {vs : List Value} (hb : bs.length = m) (hB : B ≤ W.heap.size) (h : W.ownsRow B0 22 1 v k vs) (hx : Pieces W B m bs ls k vs) :
    ∃ A c, v = .slice A k c ∧ k ≤ c ∧ c ≤ maxLen ∧ Lists W W.heap.size A k (pieceOf bs ls m) := by
  obtain ⟨A, c, rfl, h1, h2, h3⟩ := own_slice h
  refine ⟨A, c, rfl, h1, h2, vs, h3, fun i hi => ?_⟩
  obtain ⟨A', c', hu, hr⟩ := hx i hi
  refine ⟨A', c', ?_, ?_⟩
  · rw [piece_len hb]; exact hu
  · rw [piece_len hb]; exact hr.more hB
end Go.Proofs.YtdjbjcnkboggjaaGreatDoor

namespace Go.Proofs.YtdjbjcnkboggjaaGreatDoor
open Go.RowKit Go.Rep Go.Shelf
theorem count_step {ls : List UInt8} {m : Nat} : ∀ n, countTo ls m n ∨ ∃ k, k < n ∧ countTo ls m k ∧ moreB ls m k = false
  | 0 => .inl fun j h => by omega
  | n + 1 => by
    rcases count_step (ls := ls) (m := m) n with h | ⟨k, h1, h2, h3⟩
    · cases hm : moreB ls m n with
      | false => exact .inr ⟨n, by omega, h, hm⟩
      | true =>
        refine .inl fun j hj => ?_
        rcases Nat.lt_or_ge j n with h9 | h9
        · exact h j h9
        · obtain rfl : j = n := by omega
          exact hm
    · exact .inr ⟨k, by omega, h2, h3⟩
section
variable {A Ac : Option Addr} {m cp mc cpc B k : Nat} {bs ls : List UInt8} {w : World}
theorem cut_ok (hcp : m ≤ cp) (hm : m ≤ 1000000) (hmc : mc ≤ 1000000) (hfine : fineL ls = true) (hct : countTo ls m k) (hmo : moreB ls m k = false) (hk : k ≤ 4096) (hB : B ≤ w.heap.size) (hrb : Reads w B 1 A m (bcells bs)) (hrc : Reads w B 1 Ac mc (bcells ls)) :
    Calls Tryz.prog 6 #[.slice A m cp, .slice Ac mc cpc] w fun e W' => ∃ A' c vs, e = .returned (.tuple #[.slice A' k c, .int .i64 0]) ∧ W'.ownsRow w.heap.size 22 1 (.slice A' k c) k vs ∧ (∀ i, i < k → ∃ u : Value, vs[i]? = some u ∧ W'.ownsRow w.heap.size 5 1 u (stepN ls m i (atOf ls m i)) (bcells (pieceOf bs ls m i))) ∧ Below w.heap.size w W' := by
  refine (callsIn_wide.1 (cut_fine hcp hm hmc hfine hB hrb hrc)).mono ?_
  rintro e W' (⟨v, vs, k', rfl, h1, h2, h3, h4, h5, h6⟩ | ⟨_, h1, _⟩)
  · obtain rfl := count_unique hct hmo h1 (.inl h2) hk
    obtain ⟨A', c, rfl, _⟩ := own_slice h4
    exact ⟨A', c, vs, rfl, h4, h5, h6⟩
  · have := h1 k (by omega)
    rw [hmo] at this
    cases this
theorem ref_ok (hcp : m ≤ cp) (hcl : cp ≤ maxLen) (hm : m ≤ 1000000) (hmc : mc ≤ 1000000) (hct : countTo ls m k) (hmo : moreB ls m k = false) (hk : k ≤ 4096) (hB : B ≤ w.heap.size) (hrb : Reads w B 1 A m (bcells bs)) (hrc : Reads w B 1 Ac mc (bcells ls)) :
    Calls Tryz.prog 7 #[.slice A m cp, .slice Ac mc cpc] w fun e W' => ∃ A' c, e = .returned (.slice A' k c) ∧ Lists W' W'.heap.size A' k (pieceOf bs ls m) ∧ Below w.heap.size w W' := by
  refine (ref_cut hcp hcl hm hmc hB hrb hrc).mono ?_
  rintro e W' ⟨v, vs, k', rfl, _, h2, h3, h4, h5, h6, h7⟩
  obtain rfl := count_unique hct hmo h3 h4 hk
  have hs := h7.size
  obtain ⟨A', c, rfl, _, _, hl⟩ := lists_of_ref (by have := hrb.bytes; exact this) (by omega) h5 h6
  exact ⟨A', c, rfl, hl, h7⟩
end
end Go.Proofs.YtdjbjcnkboggjaaGreatDoor

namespace Go.Proofs.YtdjbjcnkboggjaaGreatDoor
open Go.RowKit Go.Rep Go.Shelf
set_option maxRecDepth 100000
theorem fine_one : fineL [1] = true := by decide
theorem long_one {N : Nat} (h : 4096 < N) : LongP [1] N := ⟨fun j hj => moreB_one (by omega)⟩
theorem zeros_long {A Ac : Option Addr} {m cp cpc B : Nat} {w : World} (hcp : m ≤ cp) (hm : m ≤ 1000000) (h : 4096 < m) (hB : B ≤ w.heap.size) (hrb : Reads w B 1 A m (bcells (List.replicate m 0))) (hrc : Reads w B 1 Ac 1 (bcells [1])) :
    Calls Tryz.prog 6 #[.slice A m cp, .slice Ac 1 cpc] w fun e W' => e = .returned (.tuple #[.slice none 0 0, .int .i64 5]) ∧ Below w.heap.size w W' :=
  cut_long hcp hm (by decide) fine_one (long_one h) hB hrb hrc
theorem zeros_ok {A Ac : Option Addr} {m cp cpc B : Nat} {w : World} (hcp : m ≤ cp) (h0 : 0 < m) (h : m ≤ 4096) (hB : B ≤ w.heap.size) (hrb : Reads w B 1 A m (bcells (List.replicate m 0))) (hrc : Reads w B 1 Ac 1 (bcells [1])) :
    Calls Tryz.prog 6 #[.slice A m cp, .slice Ac 1 cpc] w fun e W' => ∃ A' c vs, e = .returned (.tuple #[.slice A' m c, .int .i64 0]) ∧ W'.ownsRow w.heap.size 22 1 (.slice A' m c) m vs ∧ (∀ i, i < m → ∃ u : Value, vs[i]? = some u ∧ W'.ownsRow w.heap.size 5 1 u 1 (bcells [0])) ∧ Below w.heap.size w W' := by
  refine (cut_ok hcp (by omega) (by decide) fine_one (fun j hj => moreB_one hj) (moreB_end h0) h hB hrb hrc).mono ?_
  rintro e W' ⟨A', c, vs, rfl, h1, h2, h3⟩
  refine ⟨A', c, vs, rfl, h1, fun i hi => ?_, h3⟩
  obtain ⟨u, hu, ho⟩ := h2 i hi
  rw [stepN_one hi, pieceOf_one hi] at ho
  exact ⟨u, hu, ho⟩
end Go.Proofs.YtdjbjcnkboggjaaGreatDoor
