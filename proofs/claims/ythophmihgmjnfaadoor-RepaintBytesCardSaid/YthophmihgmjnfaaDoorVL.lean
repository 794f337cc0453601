/- A part of the proof of RepaintBytes. -/
import Derived.Test.YthophmihgmjnfaaDoorVK
import Derived.Lib.AppendStr
import Derived.Lib.Builder
import Derived.Shelf.Strings.Builder1
import Derived.Test.YthophmihgmjnfaaDoorP
set_option linter.unusedVariables false
set_option linter.unusedSimpArgs false
-- --
namespace Go.Proofs.YthophmihgmjnfaaDoor
open Go.RowKit Go.Rep
set_option maxRecDepth 100000
set_option linter.unusedSimpArgs false
theorem bld_size : (Tryd.prog.info? 67).map (·.size) = some 2 := by kernel_rfl
theorem bld_lies : liesAt Tryd.prog Tryd.prog.depth 69 (13 / Tryd.prog.cellsOf 69) 0 67 1 = true := by kernel_rfl
theorem blk_shape {w : World} {g : Nat} {t : TypeId} {cs : Array Value} (h : Blk w g t cs) : w.shape? g = some (t, cs.size) := by
  unfold Blk at h
  simp [World.shape?, h]
set_option maxHeartbeats 2000000 in
/-- copyCheck of a builder that lies at the front of a painter. -/
theorem pcheck_fresh {b : Nat} {w : World} {cs : Array Value} (hB : Blk w b 69 cs) (h13 : cs.size = 13) (h0 : cs[0]? = some (.pointer none)) : Calls Tryd.prog 41 #[.pointer (some ⟨b, 0, none⟩)] w fun e w' => e = .returned (.tuple #[]) ∧ w' = w.setCell ⟨b, 0, none⟩ (.pointer (some ⟨b, 0, none⟩)) := by
  have c0 : w.cell? ⟨b, 0, none⟩ = some (.pointer none) := (hB.cell 0).trans h0
  have hsh : w.shape? b = some (69, 13) := by rw [blk_shape hB, h13]
  have hfz := hB.frozen 0
  obtain ⟨j, hj, hjs⟩ := Option.map_eq_some_iff.1 bld_size
  go_enter Tryd.func41, Tryd.ntmps41
  go_wp2
  rw [Lib.run_to_unsafe w ⟨b, 0, none⟩ Tryd.underlying65 Tryd.underlying96 hj (by rw [hjs]; decide) hsh (Nat.zero_lt_succ 12)]
  simp only [Result.andThen]
  rw [Oper.upon_value]
  go_wp2
  rw [run_callFunc_extern Tryd.func49 (by kernel_rfl) (by kernel_rfl) (by kernel_rfl) (e := Extern.AbiNoEscape.same) (by kernel_rfl)]
  rw [Lib.run_noEscape]
  simp only [Result.andThen]
  rw [Oper.upon_value]
  go_wp2
  rw [Lib.run_from_unsafe w ⟨b, 0, none⟩ Tryd.underlying96 Tryd.underlying65 hj hsh bld_lies]
  simp only [Result.andThen]
  rw [Oper.upon_value]
  go_wp2
  go_end0
  exact ⟨rfl, rfl⟩
theorem pcheck_used {b : Nat} {w : World} (c0 : w.cell? ⟨b, 0, none⟩ = some (.pointer (some ⟨b, 0, none⟩))) : Calls Tryd.prog 41 #[.pointer (some ⟨b, 0, none⟩)] w fun e w' => e = .returned (.tuple #[]) ∧ w' = w := by
  obtain ⟨j, hj, hjs⟩ := Option.map_eq_some_iff.1 bld_size
  go_enter Tryd.func41, Tryd.ntmps41
  go_wp2
  rw [Lib.run_neq_ptr_same w _ Tryd.underlying65 hj]
  go_wp2
  go_end0
  exact ⟨rfl, rfl⟩
end Go.Proofs.YthophmihgmjnfaaDoor

namespace Go.Proofs.YthophmihgmjnfaaDoor
open Go.RowKit Go.Rep
set_option maxRecDepth 100000
set_option linter.unusedSimpArgs false
theorem row_far {w : World} {B : Nat} {e : TypeId} {s n : Nat} {v : Value} {xs : List Value} (h : w.ownsRow B e s v n xs) {p : Addr} (hp : p.block < B) (u : Value) : (w.setCell p u).ownsRow B e s v n xs := by
  refine ⟨h.1, ?_⟩
  rcases h.2 with ⟨rfl, hn⟩ | ⟨g, cap, cur, hv, hB, hg, hr⟩
  · exact .inl ⟨rfl, hn⟩
  · exact .inr ⟨g, cap, cur, hv, hB, (Below.heap_setCell w p u g (by omega)).trans hg, hr⟩
theorem byte_info : (Tryd.prog.info? 5).map (fun i => (i.zero, i.size, i.bytes)) = some (some (.int .u8 0), 1, 1) := by kernel_rfl
/-- A painter at b: what it has written, and its pen. -/
def Pnt (w : World) (b : Nat) (acc : List UInt8) (p : Pn) : Prop := ∃ q v, (q = .pointer none ∨ q = .pointer (some ⟨b, 0, none⟩)) ∧ Blk w b 69 #[q, v, .int .i64 p.f.k, .int .u8 p.f.i, .int .u8 p.f.r, .int .u8 p.f.g, .int .u8 p.f.b, .int .i64 p.b.k, .int .u8 p.b.i, .int .u8 p.b.r, .int .u8 p.b.g, .int .u8 p.b.b, .int .u8 p.fl] ∧ w.ownsRow (b + 1) 5 1 v acc.length (Lib.byteCells acc)
theorem Pnt.lt {w : World} {b : Nat} {acc : List UInt8} {p : Pn} (h : Pnt w b acc p) : b < w.heap.size := by
  obtain ⟨q, v, _, hB, _⟩ := h
  exact hB.lt
theorem Pnt.below {w w' : World} {b : Nat} {acc : List UInt8} {p : Pn} (h : Pnt w b acc p) (hb : Below w.heap.size w w') : Pnt w' b acc p := by
  obtain ⟨q, v, hq, hB, ho⟩ := h
  exact ⟨q, v, hq, hB.below hb hB.lt, row_below ho hb⟩
theorem Pnt.drew {w : World} {b : Nat} {acc : List UInt8} {p : Pn} (h : Pnt w b acc p) : Pnt w.drew b acc p := by
  obtain ⟨q, v, hq, hB, ho⟩ := h
  exact ⟨q, v, hq, hB.drew, ho⟩
set_option maxHeartbeats 4000000 in
theorem pwrite {b : Nat} {acc a : List UInt8} {p : Pn} {w : World} (h : Pnt w b acc p) (hl : acc.length + a.length ≤ 1000000000) : Calls Tryd.prog 28 #[.pointer (some ⟨b, 0, none⟩), .string (S a)] w fun e w' => (∃ u, e = .returned (.tuple #[.int .i64 u, .nilIface])) ∧ Pnt w' b (acc ++ a) p ∧ Below b w w' ∧ ∀ g t cs, g ≠ b → t ≠ 5 → Blk w g t cs → Blk w' g t cs := by
  obtain ⟨i0, hi, hz0, hz1, hz2⟩ := info_parts byte_info
  obtain ⟨q, v, hq, hB, hown⟩ := h
  rcases hq with rfl | rfl
  · have c0 : w.cell? ⟨b, 0, none⟩ = some (.pointer none) := hB.cell 0
    go_enter Tryd.func28, Tryd.ntmps28
    go_upto_region 2 with (go_at_call 41; refine (pcheck_fresh hB rfl rfl).mono ?_; rintro e w1 ⟨rfl, hw1⟩; have B1 : Blk w1 b 69 #[.pointer (some ⟨b, 0, none⟩), v, .int .i64 p.f.k, .int .u8 p.f.i, .int .u8 p.f.r, .int .u8 p.f.g, .int .u8 p.f.b, .int .i64 p.b.k, .int .u8 p.b.i, .int .u8 p.b.r, .int .u8 p.b.g, .int .u8 p.b.b, .int .u8 p.fl] := (by rw [hw1]; exact hB.set_ 0 _); have own1 : w1.ownsRow (b + 1) 5 1 v acc.length (Lib.byteCells acc) := (by rw [hw1]; exact row_far hown (by simp) _); have hb1 : Below b w w1 := (by rw [hw1]; exact (Below.refl _ _).setCell (p := ⟨b, 0, none⟩) (Nat.le_refl _) _); have k1 : ∀ g t cs, g ≠ b → Blk w g t cs → Blk w1 g t cs := (by rw [hw1]; intro g t cs hgb hg; exact hg.far (p := ⟨b, 0, none⟩) hgb _); clear hw1)
    have c1 : w1.cell? ⟨b, 1, none⟩ = some v := B1.cell 1
    have hlt1 := B1.lt
    go_wp2_with (at_builtin; refine Lib.wpList_append_own_string _ rfl (.tmp 12) (.tmp 13) 48 9 rfl (b + 1) 5 i0 Tryd.underlying48 Tryd.underlying9 hi hz0 hz1 hz2 v acc.length (Lib.byteCells acc) rfl own1 (S a) rfl (by rw [S_size]; unfold maxLen; omega) (by rw [S_size]; omega) (by omega) ?_; intro v2 w2 hown2 hg2_ _; have hg2 : World.grownBy _ w2 v.ownBlock := hg2_; have B2 := B1.grown hg2 (fun e => absurd (row_ge own1 _ e.symm) (by omega)); have d1 : w2.cell? ⟨b, 1, none⟩ = some v := B2.cell 1; have d2 := B2.frozen 1; obtain ⟨A2, c2, hv2, _, _, _⟩ := own_slice hown2; subst hv2)
    go_ret2
    refine ⟨⟨_, rfl⟩, ⟨.pointer (some ⟨b, 0, none⟩), _, .inr rfl, B2.set_ 1 _, ?_⟩, ?_, fun g t cs hgb ht hg => (blk_grown_row (k1 g t cs hgb hg) own1 ht hg2).far (p := ⟨b, 1, none⟩) hgb _⟩
    · rw [strCells_S, ← byteCells_app, S_size] at hown2
      rw [List.length_append]
      exact row_far hown2 (by simp) _
    · exact ((hb1.grown hg2 (by omega) (fun j q => by have := row_ge own1 j q; omega))).setCell (p := ⟨b, 1, none⟩) (Nat.le_refl _) _
  · have c0 : w.cell? ⟨b, 0, none⟩ = some (.pointer (some ⟨b, 0, none⟩)) := hB.cell 0
    go_enter Tryd.func28, Tryd.ntmps28
    go_upto_region 2 with (go_at_call 41; refine (pcheck_used c0).mono ?_; rintro e w1 ⟨rfl, hw1⟩; have B1 : Blk w1 b 69 #[.pointer (some ⟨b, 0, none⟩), v, .int .i64 p.f.k, .int .u8 p.f.i, .int .u8 p.f.r, .int .u8 p.f.g, .int .u8 p.f.b, .int .i64 p.b.k, .int .u8 p.b.i, .int .u8 p.b.r, .int .u8 p.b.g, .int .u8 p.b.b, .int .u8 p.fl] := (by rw [hw1]; exact hB); have own1 : w1.ownsRow (b + 1) 5 1 v acc.length (Lib.byteCells acc) := (by rw [hw1]; exact hown); have hb1 : Below b w w1 := (by rw [hw1]; exact Below.refl _ _); have k1 : ∀ g t cs, g ≠ b → Blk w g t cs → Blk w1 g t cs := (by rw [hw1]; intro g t cs hgb hg; exact hg); clear hw1)
    have c1 : w1.cell? ⟨b, 1, none⟩ = some v := B1.cell 1
    have hlt1 := B1.lt
    go_wp2_with (at_builtin; refine Lib.wpList_append_own_string _ rfl (.tmp 12) (.tmp 13) 48 9 rfl (b + 1) 5 i0 Tryd.underlying48 Tryd.underlying9 hi hz0 hz1 hz2 v acc.length (Lib.byteCells acc) rfl own1 (S a) rfl (by rw [S_size]; unfold maxLen; omega) (by rw [S_size]; omega) (by omega) ?_; intro v2 w2 hown2 hg2_ _; have hg2 : World.grownBy _ w2 v.ownBlock := hg2_; have B2 := B1.grown hg2 (fun e => absurd (row_ge own1 _ e.symm) (by omega)); have d1 : w2.cell? ⟨b, 1, none⟩ = some v := B2.cell 1; have d2 := B2.frozen 1; obtain ⟨A2, c2, hv2, _, _, _⟩ := own_slice hown2; subst hv2)
    go_ret2
    refine ⟨⟨_, rfl⟩, ⟨.pointer (some ⟨b, 0, none⟩), _, .inr rfl, B2.set_ 1 _, ?_⟩, ?_, fun g t cs hgb ht hg => (blk_grown_row (k1 g t cs hgb hg) own1 ht hg2).far (p := ⟨b, 1, none⟩) hgb _⟩
    · rw [strCells_S, ← byteCells_app, S_size] at hown2
      rw [List.length_append]
      exact row_far hown2 (by simp) _
    · exact ((hb1.grown hg2 (by omega) (fun j q => by have := row_ge own1 j q; omega))).setCell (p := ⟨b, 1, none⟩) (Nat.le_refl _) _
end Go.Proofs.YthophmihgmjnfaaDoor

namespace Go.Proofs.YthophmihgmjnfaaDoor
open Go.RowKit Go.Rep
set_option maxRecDepth 100000
set_option linter.unusedSimpArgs false
set_option maxHeartbeats 4000000 in
/-- String of a painter that has written something. -/
theorem pstring {b : Nat} {l : List UInt8} {p : Pn} {w : World} (h : Pnt w b l p) (h0 : l ≠ []) : Calls Tryd.prog 29 #[.pointer (some ⟨b, 0, none⟩)] w fun e w' => e = .returned (.string (S l)) ∧ Below b w w' := by
  obtain ⟨q, v, hq, hB, hown⟩ := h
  have hl0 : l.length ≠ 0 := by simpa using h0
  obtain ⟨g, cap, cur, rfl, hbg, hg, hnc, hcm, hcs, htake⟩ : ∃ g cap cur, v = .slice (some ⟨g, 0, none⟩) l.length cap ∧ b + 1 ≤ g ∧ w.heap[g]? = some (.cells cur 5 (0, 0)) ∧ l.length ≤ cap ∧ cap ≤ maxLen ∧ cur.size = cap * 1 ∧ cur.toList.take (l.length * 1) = Lib.byteCells l := by
    rcases hown.2 with ⟨_, hz⟩ | ⟨g, cap, cur, hv, r⟩
    · exact absurd hz hl0
    · exact ⟨g, cap, cur, hv, r⟩
  have c1 : w.drew.cell? ⟨b, 1, none⟩ = some (.slice (some ⟨g, 0, none⟩) l.length cap) := hB.drew.cell 1
  have hSD : (Builtin.unsafeSliceData_ #[48] 85 #[.slice (some ⟨g, 0, none⟩) l.length cap]).run Tryd.prog w.drew = .ok (.pointer (some ⟨g, 0, none⟩)) w.drew :=
    Lib.run_unsafeSliceData_row _ _ _ _ _ _ (by omega)
  have hUS : (Builtin.unsafeString_ #[85, 3] 9 #[.pointer (some ⟨g, 0, none⟩), .int .i64 l.length]).run Tryd.prog w.drew = .ok (.string ⟨l.toArray⟩) (w.drew.freeze ⟨g, 0, none⟩ l.length) := by
    refine Lib.run_unsafeString_row w.drew 85 3 9 5 Tryd.underlying85 (by kernel_rfl) g cur.size (by have hg' : w.drew.heap[g]? = some (.cells cur 5 (0, 0)) := hg; simp [World.shape?, hg']) l h0 (by omega) (by unfold maxLen at hcm; omega) ?_
    intro j x hx
    have := hown.cells (g := g) rfl j (.int .u8 x.toNat) (by simp [Lib.byteCells, hx])
    exact this
  clear hg htake hown hB hcs
  go_enter Tryd.func29, Tryd.ntmps29
  go_wp2
  go_region
  all_goals (go_wp2; go_ret; exact ⟨rfl, Lib.below_freeze (Below.drew (Below.refl b w)) (p := ⟨g, 0, none⟩) (by show b ≤ g; omega) _⟩)
end Go.Proofs.YthophmihgmjnfaaDoor

namespace Go.Proofs.YthophmihgmjnfaaDoor
open Go.RowKit Go.Rep
set_option maxRecDepth 100000
set_option linter.unusedSimpArgs false
theorem chStep_sm (fa fb : Int) (k : Nat) : smI (chStep fa fb k) := by
  have h := nAt_le k
  unfold chStep
  split <;> split <;> intro x hx <;> simp at hx <;> omega
theorem chUp_sm (fa fb : Int) (k : Nat) : smI (chUp fa fb k) := by
  induction k with
  | zero => intro x hx; cases hx
  | succ k ih =>
    intro x hx
    have hx : x ∈ chUp fa fb k ++ chStep fa fb k := hx
    rw [List.mem_append] at hx
    exact hx.elim (ih x) (chStep_sm fa fb k x)
theorem numbers_sm {c : Col} (h : okC c) {base : Int} (h0 : 0 ≤ base) (h1 : base ≤ 40) : smI (numbersL c base) := by
  obtain ⟨i0, i1, r0, r1, g0, g1, b0, b1⟩ := h
  unfold numbersL
  intro x hx
  split at hx
  · simp at hx; omega
  · split at hx
    · simp at hx; omega
    · split at hx
      · simp at hx; omega
      · split at hx <;> simp at hx <;> omega
theorem changes_sm {a b : Pn} (hf : okC b.f) (hb : okC b.b) : smI (changesL a b) := by
  intro x hx
  unfold changesL at hx
  simp only [List.mem_append] at hx
  rcases hx with ((hx | hx) | hx) | hx
  · unfold preL at hx
    split at hx <;> simp at hx <;> omega
  · exact chUp_sm _ _ _ x hx
  · split at hx
    · cases hx
    · exact numbers_sm hf (by decide) (by decide) x hx
  · split at hx
    · cases hx
    · exact numbers_sm hb (by decide) (by decide) x hx
theorem smI_between {a b : Pn} (_ha : okPn a) (hb : okPn b) : smI (betweenL a b) := by
  unfold betweenL codesL
  split
  · intro x hx
    rw [List.mem_cons] at hx
    rcases hx with rfl | hx
    · omega
    · exact changes_sm hb.f hb.b x hx
  · exact changes_sm hb.f hb.b
theorem between_len (a b : Pn) : (betweenL a b).length ≤ 20 := by
  have h1 := changes_len a b
  have h2 := changes_len zPn b
  unfold betweenL codesL
  split <;> simp <;> omega
end Go.Proofs.YthophmihgmjnfaaDoor

namespace Go.Proofs.YthophmihgmjnfaaDoor
open Go.RowKit Go.Rep
set_option maxRecDepth 100000
set_option linter.unusedSimpArgs false
theorem row_stored {w w' : World} {B g : Nat} {e : TypeId} {s n : Nat} {v : Value} {xs : List Value} (h : w.ownsRow B e s v n xs) (hf : ∀ k, k ≠ g → w'.heap[k]? = w.heap[k]?) (hg : g < B) : w'.ownsRow B e s v n xs := by
  refine ⟨h.1, ?_⟩
  rcases h.2 with ⟨rfl, hn⟩ | ⟨k, cap, cur, hv, hB, hk, hr⟩
  · exact .inl ⟨rfl, hn⟩
  · exact .inr ⟨k, cap, cur, hv, hB, (hf k (by omega)).trans hk, hr⟩
theorem sgrL_len {l : List Int} (h : smI l) : (sgrL l).length ≤ 500 * l.length := by
  generalize hq : l.length = q
  induction q using Nat.strongRecOn generalizing l with
  | _ q ih =>
    unfold sgrL
    split
    · rename_i h0
      have h1 := manyTo_pos h0
      have h2 := (manyTo_ge l 0 (by omega) (by omega)).2
      have h3 := joinL_len (h.sub (manyTo l 0)).2
      rw [List.length_take] at h3
      have h4 := ih (l.drop (manyTo l 0)).length (by rw [List.length_drop]; omega) (h.sub (manyTo l 0)).1 rfl
      rw [List.length_drop] at h4
      simp only [List.length_append, List.length_cons, List.length_nil]
      omega
    · simp
set_option maxHeartbeats 8000000 in
theorem take_any {b : Nat} {acc : List UInt8} {p t : Pn} {w : World} (hPn : Pnt w b acc p) (hp : okPn p) (ht : okPn t) (hL : Laid2 w) (hl : acc.length ≤ 100000000) : Calls Tryd.prog 27 #[.pointer (some ⟨b, 0, none⟩), .agg #[.int .i64 t.f.k, .int .u8 t.f.i, .int .u8 t.f.r, .int .u8 t.f.g, .int .u8 t.f.b, .int .i64 t.b.k, .int .u8 t.b.i, .int .u8 t.b.r, .int .u8 t.b.g, .int .u8 t.b.b, .int .u8 t.fl]] w fun e w' => e = .returned (.tuple #[]) ∧ Pnt w' b (acc ++ sgrL (betweenL p t)) t ∧ Below b w w' ∧ ∀ g ty cs, g ≠ b → ty ≠ 5 → Blk w g ty cs → Blk w' g ty cs := by
  have hNb : b < w.heap.size := hPn.lt
  have hsl := sgrL_len (smI_between hp ht)
  have hbl := between_len p t
  have hb0 : Below w.heap.size w (w.alloc (.cells #[.int .i64 t.f.k, .int .u8 t.f.i, .int .u8 t.f.r, .int .u8 t.f.g, .int .u8 t.f.b, .int .i64 t.b.k, .int .u8 t.b.i, .int .u8 t.b.r, .int .u8 t.b.g, .int .u8 t.b.b, .int .u8 t.fl] 44)) := (Below.refl _ _).alloc (Nat.le_refl _) _
  have L0 : Laid2 (w.alloc (.cells #[.int .i64 t.f.k, .int .u8 t.f.i, .int .u8 t.f.r, .int .u8 t.f.g, .int .u8 t.f.b, .int .i64 t.b.k, .int .u8 t.b.i, .int .u8 t.b.r, .int .u8 t.b.g, .int .u8 t.b.b, .int .u8 t.fl] 44)) := hL.low hb0
  have T0 := Blk.new w 44 #[.int .i64 t.f.k, .int .u8 t.f.i, .int .u8 t.f.r, .int .u8 t.f.g, .int .u8 t.f.b, .int .i64 t.b.k, .int .u8 t.b.i, .int .u8 t.b.r, .int .u8 t.b.g, .int .u8 t.b.b, .int .u8 t.fl]
  obtain ⟨q0, v0, hq0, B00, o0⟩ := id hPn
  have B0 := B00.alloc (.cells #[.int .i64 t.f.k, .int .u8 t.f.i, .int .u8 t.f.r, .int .u8 t.f.g, .int .u8 t.f.b, .int .i64 t.b.k, .int .u8 t.b.i, .int .u8 t.b.r, .int .u8 t.b.g, .int .u8 t.b.b, .int .u8 t.fl] 44)
  clear B00 o0 hq0 hL
  go_enter Tryd.func27, Tryd.ntmps27
  go_upto_region 1 with fail
  have x0 : (w.alloc (.cells #[.int .i64 t.f.k, .int .u8 t.f.i, .int .u8 t.f.r, .int .u8 t.f.g, .int .u8 t.f.b, .int .i64 t.b.k, .int .u8 t.b.i, .int .u8 t.b.r, .int .u8 t.b.g, .int .u8 t.b.b, .int .u8 t.fl] 44)).drew.cell? ⟨b, 2, none⟩ = some (.int .i64 p.f.k) := (B0.drew).cell 2
  have x1 : (w.alloc (.cells #[.int .i64 t.f.k, .int .u8 t.f.i, .int .u8 t.f.r, .int .u8 t.f.g, .int .u8 t.f.b, .int .i64 t.b.k, .int .u8 t.b.i, .int .u8 t.b.r, .int .u8 t.b.g, .int .u8 t.b.b, .int .u8 t.fl] 44)).drew.cell? ⟨b, 2 + 1, none⟩ = some (.int .u8 p.f.i) := (B0.drew).cell (2 + 1)
  have x2 : (w.alloc (.cells #[.int .i64 t.f.k, .int .u8 t.f.i, .int .u8 t.f.r, .int .u8 t.f.g, .int .u8 t.f.b, .int .i64 t.b.k, .int .u8 t.b.i, .int .u8 t.b.r, .int .u8 t.b.g, .int .u8 t.b.b, .int .u8 t.fl] 44)).drew.cell? ⟨b, 2 + 2, none⟩ = some (.int .u8 p.f.r) := (B0.drew).cell (2 + 2)
  have x3 : (w.alloc (.cells #[.int .i64 t.f.k, .int .u8 t.f.i, .int .u8 t.f.r, .int .u8 t.f.g, .int .u8 t.f.b, .int .i64 t.b.k, .int .u8 t.b.i, .int .u8 t.b.r, .int .u8 t.b.g, .int .u8 t.b.b, .int .u8 t.fl] 44)).drew.cell? ⟨b, 2 + 3, none⟩ = some (.int .u8 p.f.g) := (B0.drew).cell (2 + 3)
  have x4 : (w.alloc (.cells #[.int .i64 t.f.k, .int .u8 t.f.i, .int .u8 t.f.r, .int .u8 t.f.g, .int .u8 t.f.b, .int .i64 t.b.k, .int .u8 t.b.i, .int .u8 t.b.r, .int .u8 t.b.g, .int .u8 t.b.b, .int .u8 t.fl] 44)).drew.cell? ⟨b, 2 + 4, none⟩ = some (.int .u8 p.f.b) := (B0.drew).cell (2 + 4)
  have x5 : (w.alloc (.cells #[.int .i64 t.f.k, .int .u8 t.f.i, .int .u8 t.f.r, .int .u8 t.f.g, .int .u8 t.f.b, .int .i64 t.b.k, .int .u8 t.b.i, .int .u8 t.b.r, .int .u8 t.b.g, .int .u8 t.b.b, .int .u8 t.fl] 44)).drew.cell? ⟨b, 2 + 5, none⟩ = some (.int .i64 p.b.k) := (B0.drew).cell (2 + 5)
  have x6 : (w.alloc (.cells #[.int .i64 t.f.k, .int .u8 t.f.i, .int .u8 t.f.r, .int .u8 t.f.g, .int .u8 t.f.b, .int .i64 t.b.k, .int .u8 t.b.i, .int .u8 t.b.r, .int .u8 t.b.g, .int .u8 t.b.b, .int .u8 t.fl] 44)).drew.cell? ⟨b, 2 + 6, none⟩ = some (.int .u8 p.b.i) := (B0.drew).cell (2 + 6)
  have x7 : (w.alloc (.cells #[.int .i64 t.f.k, .int .u8 t.f.i, .int .u8 t.f.r, .int .u8 t.f.g, .int .u8 t.f.b, .int .i64 t.b.k, .int .u8 t.b.i, .int .u8 t.b.r, .int .u8 t.b.g, .int .u8 t.b.b, .int .u8 t.fl] 44)).drew.cell? ⟨b, 2 + 7, none⟩ = some (.int .u8 p.b.r) := (B0.drew).cell (2 + 7)
  have x8 : (w.alloc (.cells #[.int .i64 t.f.k, .int .u8 t.f.i, .int .u8 t.f.r, .int .u8 t.f.g, .int .u8 t.f.b, .int .i64 t.b.k, .int .u8 t.b.i, .int .u8 t.b.r, .int .u8 t.b.g, .int .u8 t.b.b, .int .u8 t.fl] 44)).drew.cell? ⟨b, 2 + 8, none⟩ = some (.int .u8 p.b.g) := (B0.drew).cell (2 + 8)
  have x9 : (w.alloc (.cells #[.int .i64 t.f.k, .int .u8 t.f.i, .int .u8 t.f.r, .int .u8 t.f.g, .int .u8 t.f.b, .int .i64 t.b.k, .int .u8 t.b.i, .int .u8 t.b.r, .int .u8 t.b.g, .int .u8 t.b.b, .int .u8 t.fl] 44)).drew.cell? ⟨b, 2 + 9, none⟩ = some (.int .u8 p.b.b) := (B0.drew).cell (2 + 9)
  have x10 : (w.alloc (.cells #[.int .i64 t.f.k, .int .u8 t.f.i, .int .u8 t.f.r, .int .u8 t.f.g, .int .u8 t.f.b, .int .i64 t.b.k, .int .u8 t.b.i, .int .u8 t.b.r, .int .u8 t.b.g, .int .u8 t.b.b, .int .u8 t.fl] 44)).drew.cell? ⟨b, 2 + 10, none⟩ = some (.int .u8 p.fl) := (B0.drew).cell (2 + 10)
  have x11 : (w.alloc (.cells #[.int .i64 t.f.k, .int .u8 t.f.i, .int .u8 t.f.r, .int .u8 t.f.g, .int .u8 t.f.b, .int .i64 t.b.k, .int .u8 t.b.i, .int .u8 t.b.r, .int .u8 t.b.g, .int .u8 t.b.b, .int .u8 t.fl] 44)).drew.cell? ⟨w.heap.size, 0, none⟩ = some (.int .i64 t.f.k) := (T0.drew).cell 0
  have x12 : (w.alloc (.cells #[.int .i64 t.f.k, .int .u8 t.f.i, .int .u8 t.f.r, .int .u8 t.f.g, .int .u8 t.f.b, .int .i64 t.b.k, .int .u8 t.b.i, .int .u8 t.b.r, .int .u8 t.b.g, .int .u8 t.b.b, .int .u8 t.fl] 44)).drew.cell? ⟨w.heap.size, 1, none⟩ = some (.int .u8 t.f.i) := (T0.drew).cell 1
  have x13 : (w.alloc (.cells #[.int .i64 t.f.k, .int .u8 t.f.i, .int .u8 t.f.r, .int .u8 t.f.g, .int .u8 t.f.b, .int .i64 t.b.k, .int .u8 t.b.i, .int .u8 t.b.r, .int .u8 t.b.g, .int .u8 t.b.b, .int .u8 t.fl] 44)).drew.cell? ⟨w.heap.size, 2, none⟩ = some (.int .u8 t.f.r) := (T0.drew).cell 2
  have x14 : (w.alloc (.cells #[.int .i64 t.f.k, .int .u8 t.f.i, .int .u8 t.f.r, .int .u8 t.f.g, .int .u8 t.f.b, .int .i64 t.b.k, .int .u8 t.b.i, .int .u8 t.b.r, .int .u8 t.b.g, .int .u8 t.b.b, .int .u8 t.fl] 44)).drew.cell? ⟨w.heap.size, 3, none⟩ = some (.int .u8 t.f.g) := (T0.drew).cell 3
  have x15 : (w.alloc (.cells #[.int .i64 t.f.k, .int .u8 t.f.i, .int .u8 t.f.r, .int .u8 t.f.g, .int .u8 t.f.b, .int .i64 t.b.k, .int .u8 t.b.i, .int .u8 t.b.r, .int .u8 t.b.g, .int .u8 t.b.b, .int .u8 t.fl] 44)).drew.cell? ⟨w.heap.size, 4, none⟩ = some (.int .u8 t.f.b) := (T0.drew).cell 4
  have x16 : (w.alloc (.cells #[.int .i64 t.f.k, .int .u8 t.f.i, .int .u8 t.f.r, .int .u8 t.f.g, .int .u8 t.f.b, .int .i64 t.b.k, .int .u8 t.b.i, .int .u8 t.b.r, .int .u8 t.b.g, .int .u8 t.b.b, .int .u8 t.fl] 44)).drew.cell? ⟨w.heap.size, 5, none⟩ = some (.int .i64 t.b.k) := (T0.drew).cell 5
  have x17 : (w.alloc (.cells #[.int .i64 t.f.k, .int .u8 t.f.i, .int .u8 t.f.r, .int .u8 t.f.g, .int .u8 t.f.b, .int .i64 t.b.k, .int .u8 t.b.i, .int .u8 t.b.r, .int .u8 t.b.g, .int .u8 t.b.b, .int .u8 t.fl] 44)).drew.cell? ⟨w.heap.size, 6, none⟩ = some (.int .u8 t.b.i) := (T0.drew).cell 6
  have x18 : (w.alloc (.cells #[.int .i64 t.f.k, .int .u8 t.f.i, .int .u8 t.f.r, .int .u8 t.f.g, .int .u8 t.f.b, .int .i64 t.b.k, .int .u8 t.b.i, .int .u8 t.b.r, .int .u8 t.b.g, .int .u8 t.b.b, .int .u8 t.fl] 44)).drew.cell? ⟨w.heap.size, 7, none⟩ = some (.int .u8 t.b.r) := (T0.drew).cell 7
  have x19 : (w.alloc (.cells #[.int .i64 t.f.k, .int .u8 t.f.i, .int .u8 t.f.r, .int .u8 t.f.g, .int .u8 t.f.b, .int .i64 t.b.k, .int .u8 t.b.i, .int .u8 t.b.r, .int .u8 t.b.g, .int .u8 t.b.b, .int .u8 t.fl] 44)).drew.cell? ⟨w.heap.size, 8, none⟩ = some (.int .u8 t.b.g) := (T0.drew).cell 8
  have x20 : (w.alloc (.cells #[.int .i64 t.f.k, .int .u8 t.f.i, .int .u8 t.f.r, .int .u8 t.f.g, .int .u8 t.f.b, .int .i64 t.b.k, .int .u8 t.b.i, .int .u8 t.b.r, .int .u8 t.b.g, .int .u8 t.b.b, .int .u8 t.fl] 44)).drew.cell? ⟨w.heap.size, 9, none⟩ = some (.int .u8 t.b.b) := (T0.drew).cell 9
  have x21 : (w.alloc (.cells #[.int .i64 t.f.k, .int .u8 t.f.i, .int .u8 t.f.r, .int .u8 t.f.g, .int .u8 t.f.b, .int .i64 t.b.k, .int .u8 t.b.i, .int .u8 t.b.r, .int .u8 t.b.g, .int .u8 t.b.b, .int .u8 t.fl] 44)).drew.cell? ⟨w.heap.size, 10, none⟩ = some (.int .u8 t.fl) := (T0.drew).cell 10
  refine wp_region_noPanic ?_
  refine wp_region_held_drew (S := (fun w' => w'.cell? ⟨b, 2, none⟩ = some (.int .i64 p.f.k) ∧ w'.cell? ⟨b, 2 + 1, none⟩ = some (.int .u8 p.f.i) ∧ w'.cell? ⟨b, 2 + 2, none⟩ = some (.int .u8 p.f.r) ∧ w'.cell? ⟨b, 2 + 3, none⟩ = some (.int .u8 p.f.g) ∧ w'.cell? ⟨b, 2 + 4, none⟩ = some (.int .u8 p.f.b) ∧ w'.cell? ⟨b, 2 + 5, none⟩ = some (.int .i64 p.b.k) ∧ w'.cell? ⟨b, 2 + 6, none⟩ = some (.int .u8 p.b.i) ∧ w'.cell? ⟨b, 2 + 7, none⟩ = some (.int .u8 p.b.r) ∧ w'.cell? ⟨b, 2 + 8, none⟩ = some (.int .u8 p.b.g) ∧ w'.cell? ⟨b, 2 + 9, none⟩ = some (.int .u8 p.b.b) ∧ w'.cell? ⟨b, 2 + 10, none⟩ = some (.int .u8 p.fl) ∧ w'.cell? ⟨w.heap.size, 0, none⟩ = some (.int .i64 t.f.k) ∧ w'.cell? ⟨w.heap.size, 1, none⟩ = some (.int .u8 t.f.i) ∧ w'.cell? ⟨w.heap.size, 2, none⟩ = some (.int .u8 t.f.r) ∧ w'.cell? ⟨w.heap.size, 3, none⟩ = some (.int .u8 t.f.g) ∧ w'.cell? ⟨w.heap.size, 4, none⟩ = some (.int .u8 t.f.b) ∧ w'.cell? ⟨w.heap.size, 5, none⟩ = some (.int .i64 t.b.k) ∧ w'.cell? ⟨w.heap.size, 6, none⟩ = some (.int .u8 t.b.i) ∧ w'.cell? ⟨w.heap.size, 7, none⟩ = some (.int .u8 t.b.r) ∧ w'.cell? ⟨w.heap.size, 8, none⟩ = some (.int .u8 t.b.g) ∧ w'.cell? ⟨w.heap.size, 9, none⟩ = some (.int .u8 t.b.b) ∧ w'.cell? ⟨w.heap.size, 10, none⟩ = some (.int .u8 t.fl))) (by kernel_rfl) (by first | (exact ⟨x0, x1, x2, x3, x4, x5, x6, x7, x8, x9, x10, x11, x12, x13, x14, x15, x16, x17, x18, x19, x20, x21⟩) | (exact ⟨y0, y1, y2, y3, y4, y5, y6, y7, y8, y9, y10, y11, y12, y13, y14, y15, y16, y17, y18, y19, y20, y21⟩) | (exact ⟨z0, z1, z2, z3, z4, z5, z6, z7, z8, z9, z10, z11, z12, z13, z14, z15, z16, z17, z18, z19, z20, z21⟩)) (fun hHeld => ?_)
  refine wpAnyH_take (i := 0) (v := ?_) (pick_op rfl) (by kernel_rfl) (by kernel_rfl) (by kernel_rfl) (fun _ _ _ h => h) (Or.inl ⟨by kernel_rfl, ?_⟩) hHeld ?_
  rotate_left
  · intro w_ hSw; (try dsimp only at hSw); go_simp; try with_reducible rfl
  try simp only [Act.put, List.setIfInBounds_toArray, List.set_cons_zero, List.set_cons_succ]
  refine wpAnyH_take (i := 1) (v := ?_) (pick_op rfl) (by kernel_rfl) (by kernel_rfl) (by kernel_rfl) (fun _ _ _ h => h) (Or.inl ⟨by kernel_rfl, ?_⟩) hHeld ?_
  rotate_left
  · intro w_ hSw; (try dsimp only at hSw); go_simp; try with_reducible rfl
  try simp only [Act.put, List.setIfInBounds_toArray, List.set_cons_zero, List.set_cons_succ]
  refine wpAnyH_take (i := 2) (v := ?_) (pick_op rfl) (by kernel_rfl) (by kernel_rfl) (by kernel_rfl) (fun _ _ _ h => h) (Or.inl ⟨by kernel_rfl, ?_⟩) hHeld ?_
  rotate_left
  · intro w_ hSw; (try dsimp only at hSw); go_simp; try with_reducible rfl
  try simp only [Act.put, List.setIfInBounds_toArray, List.set_cons_zero, List.set_cons_succ]
  refine wpAnyH_take (i := 3) (v := ?_) (pick_op rfl) (by kernel_rfl) (by kernel_rfl) (by kernel_rfl) (fun _ _ _ h => h) (Or.inl ⟨by kernel_rfl, ?_⟩) hHeld ?_
  rotate_left
  · intro w_ hSw; (try dsimp only at hSw); go_simp; try with_reducible rfl
  try simp only [Act.put, List.setIfInBounds_toArray, List.set_cons_zero, List.set_cons_succ]
  refine wpAnyH_take (i := 4) (v := ?_) (pick_op rfl) (by kernel_rfl) (by kernel_rfl) (by kernel_rfl) (fun _ _ _ h => h) (Or.inl ⟨by kernel_rfl, ?_⟩) hHeld ?_
  rotate_left
  · intro w_ hSw; (try dsimp only at hSw); go_simp; try with_reducible rfl
  try simp only [Act.put, List.setIfInBounds_toArray, List.set_cons_zero, List.set_cons_succ]
  refine wpAnyH_ready (rs := [5]) (by kernel_rfl) (by simp) ?_
  refine AllReadyH.cons (pick_op rfl) (fun K hK => ?_) AllReadyH.nil
  go_simp
  go_at_call 22
  refine (between_any p t (L0.lo.low (Below.drew (Below.refl _ _))) hp ht).mono ?_
  rintro e w3 ⟨v3, rfl, o3, hb3⟩
  obtain ⟨A3, c3, rfl, hc3, _, r3⟩ := own_slice o3
  have hs3 := hb3.size
  rw [World.size_drew, alloc_size] at hs3
  have B3 := B0.drew.below hb3 B0.lt
  have T3 := T0.drew.below hb3 T0.lt
  have y0 : w3.cell? ⟨b, 2, none⟩ = some (.int .i64 p.f.k) := (B3).cell 2
  have y1 : w3.cell? ⟨b, 2 + 1, none⟩ = some (.int .u8 p.f.i) := (B3).cell (2 + 1)
  have y2 : w3.cell? ⟨b, 2 + 2, none⟩ = some (.int .u8 p.f.r) := (B3).cell (2 + 2)
  have y3 : w3.cell? ⟨b, 2 + 3, none⟩ = some (.int .u8 p.f.g) := (B3).cell (2 + 3)
  have y4 : w3.cell? ⟨b, 2 + 4, none⟩ = some (.int .u8 p.f.b) := (B3).cell (2 + 4)
  have y5 : w3.cell? ⟨b, 2 + 5, none⟩ = some (.int .i64 p.b.k) := (B3).cell (2 + 5)
  have y6 : w3.cell? ⟨b, 2 + 6, none⟩ = some (.int .u8 p.b.i) := (B3).cell (2 + 6)
  have y7 : w3.cell? ⟨b, 2 + 7, none⟩ = some (.int .u8 p.b.r) := (B3).cell (2 + 7)
  have y8 : w3.cell? ⟨b, 2 + 8, none⟩ = some (.int .u8 p.b.g) := (B3).cell (2 + 8)
  have y9 : w3.cell? ⟨b, 2 + 9, none⟩ = some (.int .u8 p.b.b) := (B3).cell (2 + 9)
  have y10 : w3.cell? ⟨b, 2 + 10, none⟩ = some (.int .u8 p.fl) := (B3).cell (2 + 10)
  have y11 : w3.cell? ⟨w.heap.size, 0, none⟩ = some (.int .i64 t.f.k) := (T3).cell 0
  have y12 : w3.cell? ⟨w.heap.size, 1, none⟩ = some (.int .u8 t.f.i) := (T3).cell 1
  have y13 : w3.cell? ⟨w.heap.size, 2, none⟩ = some (.int .u8 t.f.r) := (T3).cell 2
  have y14 : w3.cell? ⟨w.heap.size, 3, none⟩ = some (.int .u8 t.f.g) := (T3).cell 3
  have y15 : w3.cell? ⟨w.heap.size, 4, none⟩ = some (.int .u8 t.f.b) := (T3).cell 4
  have y16 : w3.cell? ⟨w.heap.size, 5, none⟩ = some (.int .i64 t.b.k) := (T3).cell 5
  have y17 : w3.cell? ⟨w.heap.size, 6, none⟩ = some (.int .u8 t.b.i) := (T3).cell 6
  have y18 : w3.cell? ⟨w.heap.size, 7, none⟩ = some (.int .u8 t.b.r) := (T3).cell 7
  have y19 : w3.cell? ⟨w.heap.size, 8, none⟩ = some (.int .u8 t.b.g) := (T3).cell 8
  have y20 : w3.cell? ⟨w.heap.size, 9, none⟩ = some (.int .u8 t.b.b) := (T3).cell 9
  have y21 : w3.cell? ⟨w.heap.size, 10, none⟩ = some (.int .u8 t.fl) := (T3).cell 10
  refine hK.out _ _ (by first | (exact ⟨x0, x1, x2, x3, x4, x5, x6, x7, x8, x9, x10, x11, x12, x13, x14, x15, x16, x17, x18, x19, x20, x21⟩) | (exact ⟨y0, y1, y2, y3, y4, y5, y6, y7, y8, y9, y10, y11, y12, y13, y14, y15, y16, y17, y18, y19, y20, y21⟩) | (exact ⟨z0, z1, z2, z3, z4, z5, z6, z7, z8, z9, z10, z11, z12, z13, z14, z15, z16, z17, z18, z19, z20, z21⟩)) (fun hHeld2 => ?_)
  clear hK K hHeld
  have hHeld := hHeld2
  clear hHeld2
  try simp only [Act.put, List.setIfInBounds_toArray, List.set_cons_zero, List.set_cons_succ]
  refine wpAnyH_ready (rs := [6]) (by kernel_rfl) (by simp) ?_
  refine AllReadyH.cons (pick_op rfl) (fun K hK => ?_) AllReadyH.nil
  go_simp
  go_at_call 21
  refine (stext_any r3 (Nat.le_refl _) rfl hc3 (smI_between hp ht) (by have := between_len p t; omega) (L0.low (by show Below _ _ w3; exact (Below.drew (Below.refl _ _)).trans hb3))).mono ?_
  rintro e w4 ⟨rfl, hb4⟩
  have hs4 := hb4.size
  have B4 := B3.below hb4 B3.lt
  have T4 := T3.below hb4 T3.lt
  have z0 : w4.cell? ⟨b, 2, none⟩ = some (.int .i64 p.f.k) := (B4).cell 2
  have z1 : w4.cell? ⟨b, 2 + 1, none⟩ = some (.int .u8 p.f.i) := (B4).cell (2 + 1)
  have z2 : w4.cell? ⟨b, 2 + 2, none⟩ = some (.int .u8 p.f.r) := (B4).cell (2 + 2)
  have z3 : w4.cell? ⟨b, 2 + 3, none⟩ = some (.int .u8 p.f.g) := (B4).cell (2 + 3)
  have z4 : w4.cell? ⟨b, 2 + 4, none⟩ = some (.int .u8 p.f.b) := (B4).cell (2 + 4)
  have z5 : w4.cell? ⟨b, 2 + 5, none⟩ = some (.int .i64 p.b.k) := (B4).cell (2 + 5)
  have z6 : w4.cell? ⟨b, 2 + 6, none⟩ = some (.int .u8 p.b.i) := (B4).cell (2 + 6)
  have z7 : w4.cell? ⟨b, 2 + 7, none⟩ = some (.int .u8 p.b.r) := (B4).cell (2 + 7)
  have z8 : w4.cell? ⟨b, 2 + 8, none⟩ = some (.int .u8 p.b.g) := (B4).cell (2 + 8)
  have z9 : w4.cell? ⟨b, 2 + 9, none⟩ = some (.int .u8 p.b.b) := (B4).cell (2 + 9)
  have z10 : w4.cell? ⟨b, 2 + 10, none⟩ = some (.int .u8 p.fl) := (B4).cell (2 + 10)
  have z11 : w4.cell? ⟨w.heap.size, 0, none⟩ = some (.int .i64 t.f.k) := (T4).cell 0
  have z12 : w4.cell? ⟨w.heap.size, 1, none⟩ = some (.int .u8 t.f.i) := (T4).cell 1
  have z13 : w4.cell? ⟨w.heap.size, 2, none⟩ = some (.int .u8 t.f.r) := (T4).cell 2
  have z14 : w4.cell? ⟨w.heap.size, 3, none⟩ = some (.int .u8 t.f.g) := (T4).cell 3
  have z15 : w4.cell? ⟨w.heap.size, 4, none⟩ = some (.int .u8 t.f.b) := (T4).cell 4
  have z16 : w4.cell? ⟨w.heap.size, 5, none⟩ = some (.int .i64 t.b.k) := (T4).cell 5
  have z17 : w4.cell? ⟨w.heap.size, 6, none⟩ = some (.int .u8 t.b.i) := (T4).cell 6
  have z18 : w4.cell? ⟨w.heap.size, 7, none⟩ = some (.int .u8 t.b.r) := (T4).cell 7
  have z19 : w4.cell? ⟨w.heap.size, 8, none⟩ = some (.int .u8 t.b.g) := (T4).cell 8
  have z20 : w4.cell? ⟨w.heap.size, 9, none⟩ = some (.int .u8 t.b.b) := (T4).cell 9
  have z21 : w4.cell? ⟨w.heap.size, 10, none⟩ = some (.int .u8 t.fl) := (T4).cell 10
  refine hK.out _ _ (by first | (exact ⟨x0, x1, x2, x3, x4, x5, x6, x7, x8, x9, x10, x11, x12, x13, x14, x15, x16, x17, x18, x19, x20, x21⟩) | (exact ⟨y0, y1, y2, y3, y4, y5, y6, y7, y8, y9, y10, y11, y12, y13, y14, y15, y16, y17, y18, y19, y20, y21⟩) | (exact ⟨z0, z1, z2, z3, z4, z5, z6, z7, z8, z9, z10, z11, z12, z13, z14, z15, z16, z17, z18, z19, z20, z21⟩)) (fun hHeld2 => ?_)
  clear hK K hHeld
  have hHeld := hHeld2
  clear hHeld2
  try simp only [Act.put, List.setIfInBounds_toArray, List.set_cons_zero, List.set_cons_succ]
  refine wpAnyH_take (i := 7) (v := ?_) (pick_op rfl) (by kernel_rfl) (by kernel_rfl) (by kernel_rfl) (fun _ _ _ h => h) (Or.inl ⟨by kernel_rfl, ?_⟩) hHeld ?_
  rotate_left
  · intro w_ hSw; (try dsimp only at hSw); go_simp; try with_reducible rfl
  try simp only [Act.put, List.setIfInBounds_toArray, List.set_cons_zero, List.set_cons_succ]
  refine wpAnyH_take (i := 8) (v := ?_) (pick_op rfl) (by kernel_rfl) (by kernel_rfl) (by kernel_rfl) (fun _ _ _ h => h) (Or.inl ⟨by kernel_rfl, ?_⟩) hHeld ?_
  rotate_left
  · intro w_ hSw; (try dsimp only at hSw); go_simp; try with_reducible rfl
  try simp only [Act.put, List.setIfInBounds_toArray, List.set_cons_zero, List.set_cons_succ]
  refine wpAnyH_take (i := 9) (v := ?_) (pick_op rfl) (by kernel_rfl) (by kernel_rfl) (by kernel_rfl) (fun _ _ _ h => h) (Or.inl ⟨by kernel_rfl, ?_⟩) hHeld ?_
  rotate_left
  · intro w_ hSw; (try dsimp only at hSw); go_simp; try with_reducible rfl
  try simp only [Act.put, List.setIfInBounds_toArray, List.set_cons_zero, List.set_cons_succ]
  refine wpAnyH_take (i := 10) (v := ?_) (pick_op rfl) (by kernel_rfl) (by kernel_rfl) (by kernel_rfl) (fun _ _ _ h => h) (Or.inl ⟨by kernel_rfl, ?_⟩) hHeld ?_
  rotate_left
  · intro w_ hSw; (try dsimp only at hSw); go_simp; try with_reducible rfl
  try simp only [Act.put, List.setIfInBounds_toArray, List.set_cons_zero, List.set_cons_succ]
  refine wpAnyH_take (i := 11) (v := ?_) (pick_op rfl) (by kernel_rfl) (by kernel_rfl) (by kernel_rfl) (fun _ _ _ h => h) (Or.inl ⟨by kernel_rfl, ?_⟩) hHeld ?_
  rotate_left
  · intro w_ hSw; (try dsimp only at hSw); go_simp; try with_reducible rfl
  try simp only [Act.put, List.setIfInBounds_toArray, List.set_cons_zero, List.set_cons_succ]
  refine wpAnyH_done (by kernel_rfl) ?_ _
  refine NoPanic.normal ?_
  have hb4w : Below w.heap.size w w4 := (hb0.drew.trans (hb3.mono (by simp))).trans (hb4.mono (by omega))
  have P4 : Pnt w4 b acc p := hPn.below hb4w
  have E4 := Lib.hid T4
  obtain ⟨sg, hsg⟩ : ∃ sg, sgrL (betweenL p t) = sg := ⟨_, rfl⟩
  rw [hsg] at hsl ⊢
  have HSG := Lib.hid hsg
  clear hsg
  go_upto_region 4 with (go_at_call 28; refine (pwrite P4 (by omega)).mono ?_; rintro e w5 ⟨⟨u5, rfl⟩, P5, hb5, k5⟩; have T5 := k5 _ _ _ (by omega) (by decide) E4.out)
  obtain ⟨q5, v5, hq5, B5, o5⟩ := P5
  have o5l := B5.lt
  go_wp2_with (first | (refine wpList_load_blk 44 (.tmp 3) rfl (by rfl) _ rfl #[.int .i64 t.f.k, .int .u8 t.f.i, .int .u8 t.f.r, .int .u8 t.f.g, .int .u8 t.f.b, .int .i64 t.b.k, .int .u8 t.b.i, .int .u8 t.b.r, .int .u8 t.b.g, .int .u8 t.b.b, .int .u8 t.fl] _ (T5) Tryd.underlying44 rfl (by kernel_rfl) ?_) | ((with_reducible refine wpList_store_part rfl 44 (.tmp 26) (.tmp 24) rfl b 2 69 #[q5, v5, .int .i64 p.f.k, .int .u8 p.f.i, .int .u8 p.f.r, .int .u8 p.f.g, .int .u8 p.f.b, .int .i64 p.b.k, .int .u8 p.b.i, .int .u8 p.b.r, .int .u8 p.b.g, .int .u8 p.b.b, .int .u8 p.fl] #[.int .i64 t.f.k, .int .u8 t.f.i, .int .u8 t.f.r, .int .u8 t.f.g, .int .u8 t.f.b, .int .i64 t.b.k, .int .u8 t.b.i, .int .u8 t.b.r, .int .u8 t.b.g, .int .u8 t.b.b, .int .u8 t.fl] #[q5, v5, .int .i64 t.f.k, .int .u8 t.f.i, .int .u8 t.f.r, .int .u8 t.f.g, .int .u8 t.f.b, .int .i64 t.b.k, .int .u8 t.b.i, .int .u8 t.b.r, .int .u8 t.b.g, .int .u8 t.b.b, .int .u8 t.fl] rfl rfl (B5) (by kernel_rfl) (Nat.le_of_ble_eq_true (by kernel_rfl)) (by kernel_rfl) (by kernel_rfl) ?_); intro w6 hw6))
  go_end0
  rw [show sgrL (betweenL p t) = sg from HSG.out]
  refine ⟨rfl, ⟨q5, v5, hq5, hw6.blk, ?_⟩, ?_, fun g ty cs hgb hty hg => (hw6.far g hgb).trans (k5 _ _ _ hgb hty (hg.below hb4w hg.lt))⟩
  · exact row_stored o5 hw6.far (Nat.lt_succ_self b)
  · exact ((hb4w.mono (Nat.le_of_lt hNb)).trans hb5).trans hw6.below
end Go.Proofs.YthophmihgmjnfaaDoor

namespace Go.Proofs.YthophmihgmjnfaaDoor
open Go.RowKit Go.Rep
set_option maxRecDepth 100000
set_option linter.unusedSimpArgs false
/-- Whether a cell was written, or is the second half of one. -/
def wrB (c : Cl) : Bool := decide (c.w = 0) || (c.r != 0)
set_option maxHeartbeats 2000000 in
theorem wr_any {l : List Cl} {B n cp k : Nat} {A : Option Addr} {w : World} (hl : Reads w B 16 A n (cvals l)) (hn : l.length = n) (hk : k < n) (hm : n ≤ 100000) : Calls Tryd.prog 39 #[.slice A n cp, .int .i64 k] w fun e w' => e = .returned (.bool (wrB (cAt l k))) ∧ Below w.heap.size w w' := by
  obtain ⟨ad, rfl⟩ := hl.some_ (by omega)
  have hj : k < l.length := by omega
  have x4 : w.cell? ⟨(ad.add (k * 16)).block, (ad.add (k * 16)).off + 4, none⟩ = some (.int .i64 (cAt l k).w) := Reads.cOff hl hj 4 (by decide) rfl
  have hc := Reads.cAt_ hl hj
  have k1 : (k : Int) < (n : Int) := by omega
  have k0 : (0 : Int) ≤ (k : Int) := by omega
  clear hl
  by_cases hw : (cAt l k).w = 0
  · have e1 : ((cAt l k).w == 0) = true := beq_iff_eq.2 hw
    have E := Lib.hid (show wrB (cAt l k) = true by unfold wrB; rw [decide_eq_true hw]; rfl)
    clear hw hc
    go_enter Tryd.func39, Tryd.ntmps39
    go_wp2
    go_ret
    exact ⟨by rw [E.out]; rfl, Below.refl _ _⟩
  · have e1 : ((cAt l k).w == 0) = false := beq_eq_false_iff_ne.2 hw
    have E := Lib.hid (show wrB (cAt l k) = ((cAt l k).r != 0) by unfold wrB; rw [decide_eq_false hw]; rfl)
    clear hw
    go_enter Tryd.func39, Tryd.ntmps39
    go_wp2_with (first
      | (refine wpList_load_any 46 (.tmp 14) rfl (by rfl) (ad.add (k * 16)) rfl #[.int .i32 (cAt l k).r, .int .i32 (cAt l k).m0, .int .i32 (cAt l k).m1, .int .i32 (cAt l k).m2, .int .i64 (cAt l k).w, .int .i64 (cAt l k).p.f.k, .int .u8 (cAt l k).p.f.i, .int .u8 (cAt l k).p.f.r, .int .u8 (cAt l k).p.f.g, .int .u8 (cAt l k).p.f.b, .int .i64 (cAt l k).p.b.k, .int .u8 (cAt l k).p.b.i, .int .u8 (cAt l k).p.b.r, .int .u8 (cAt l k).p.b.g, .int .u8 (cAt l k).p.b.b, .int .u8 (cAt l k).p.fl] _ (hc) Tryd.underlying46 rfl (by kernel_rfl) ?_)
      | (go_at_call 48; refine (written_any (cAt l k) _).mono ?_; rintro e w2 ⟨rfl, hb2⟩))
    go_ret
    exact ⟨by rw [E.out]; rfl, hb2⟩
/-- Where a group of cells alike ends. -/
def gEnd (cs : List Cl) (i k : Nat) : Nat := if k < cs.length ∧ (cAt cs k).p = (cAt cs i).p ∧ wrB (cAt cs k) = wrB (cAt cs i) then gEnd cs i (k + 1) else k
termination_by cs.length - k
theorem gEnd_ge (cs : List Cl) (i k : Nat) (hk : k ≤ cs.length) : k ≤ gEnd cs i k ∧ gEnd cs i k ≤ cs.length := by
  generalize hq : cs.length - k = q
  induction q generalizing k with
  | zero =>
    unfold gEnd
    rw [if_neg (by omega)]
    omega
  | succ q ih =>
    unfold gEnd
    split
    · have := ih (k + 1) (by omega) (by omega)
      omega
    · omega
/-- The bytes of a group, behind its pen. -/
def groupL (row col : Nat) (cs : List Cl) (i k : Nat) : List UInt8 :=
  if wrB (cAt cs i) then cellsL ((cs.drop i).take (k - i)) else [27, 91] ++ Lib.decDigits (k - i) ++ [88] ++ (if k < cs.length then goL row (col + k) else [])
/-- The bytes of the groups from a column on, with the pen so far. -/
def groupsL (row col : Nat) (cs : List Cl) (i : Nat) (p : Pn) : List UInt8 :=
  if _h : i < cs.length then sgrL (betweenL p (cAt cs i).p) ++ groupL row col cs i (gEnd cs i (i + 1)) ++ groupsL row col cs (gEnd cs i (i + 1)) (cAt cs i).p else []
termination_by cs.length - i
decreasing_by
  have := gEnd_ge cs i (i + 1) (by omega)
  omega
/-- The bytes of a patch. -/
def patchL (x : Pp) (p : Pn) : List UInt8 := goL x.row x.col ++ groupsL x.row x.col x.cs 0 p
/-- The pen behind a patch. -/
def penBehind (cs : List Cl) (p : Pn) : Pn := match cs.getLast? with
  | some c => c.p
  | none => p
end Go.Proofs.YthophmihgmjnfaaDoor
