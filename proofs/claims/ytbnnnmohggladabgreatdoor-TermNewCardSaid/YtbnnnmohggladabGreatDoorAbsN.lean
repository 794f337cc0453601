/- An evaluator of Go code over an abstract memory, and the proof that each of its runs is a run of the model, whatever the tape. It holds for each program, without conditions. -/
import Derived.Test.YtbnnnmohggladabGreatDoorAbsP
import Derived.Laws.CopyRow
import Derived.RegionTactic
import Derived.RangeFuncNested
import Derived.RangeFuncBound
import Derived.RangeFuncCalls
import Derived.RangeFuncLeaves
import Derived.Shelf.Abstract
import Derived.WalkKit
import Derived.OwnWalkIn
import Derived.TacticsInMore
import Derived.LoopNIn
import Derived.LoopIn
import Derived.Laws.Tables
import Derived.Test.YtbnnnmohggladabGreatDoorAbsD
namespace Go.Rep
open Go.RowKit
variable {P : Program} {w : World}
theorem run_copy_sized (dT sT ty elem : TypeId) (size g o dLen dCap : Nat) (a : Addr) (sLen sCap : Nat) (cur : Array Value) (t : TypeId) (cs : List Value)
    (hu : P.underlying dT = some (.slice elem)) (hs : (P.info? elem).map (·.size) = some size)
    (hg : Blk w g t cur) (hn : cs.length = Nat.min sLen dLen * size)
    (hsrc : ∀ j v, cs[j]? = some v → w.cell? (a.add j) = some v) (hfit : o + cs.length ≤ cur.size) (h1 : ∀ v ∈ cs, v.oneCell' = true) :
    (Builtin.copy_ #[dT, sT] ty #[.slice (some ⟨g, o, none⟩) dLen dCap, .slice (some a) sLen sCap]).run P w =
      .ok (goInt (Nat.min sLen dLen)) (w.setRow g (cur.toList.take o ++ cs ++ cur.toList.drop (o + cs.length)).toArray) := by
  have hl := run_loadCells_list (P := P) w a cs hsrc
  have hst := run_storeCells_at P g o t cs 0 cur w hg (by simpa using hfit) h1
  cases hq : P.info? elem with
  | none => simp [hq] at hs
  | some i =>
    have hi : i.size = size := by simpa [hq] using hs
    simp [Builtin.copy_, run_underlying hu, Builtin.lenOf, Builtin.firstCells, sizeOf, typeInfo, hq, hi, ← hn, hl, hst]
theorem wp_copy_sized {op : Oper} {ac : Act} {K : Act → World → Prop} {Q : Exit → Act → World → Prop} (x y : Operand) (dT sT : TypeId) (ho : op.op = .call { callee := .builtin .copy, args := #[x, y], argTypes := #[dT, sT] })
    (elem : TypeId) (size g o dLen dCap : Nat) (a : Addr) (sLen sCap : Nat) (cur : Array Value) (t : TypeId) (cs : List Value) (n : Nat) (hnn : Nat.min sLen dLen = n) (hx : ac.eval x = .slice (some ⟨g, o, none⟩) dLen dCap) (hy : ac.eval y = .slice (some a) sLen sCap)
    (hu : P.underlying dT = some (.slice elem)) (hs : (P.info? elem).map (·.size) = some size)
    (hg : Blk w g t cur) (hn : cs.length = n * size)
    (hsrc : ∀ j v, cs[j]? = some v → w.cell? (a.add j) = some v) (hfit : o + cs.length ≤ cur.size) (h1 : ∀ v ∈ cs, v.oneCell' = true)
    (h : ∀ w', Stored w w' g t (cur.toList.take o ++ cs ++ cur.toList.drop (o + cs.length)).toArray → K (ac.put op.dst (.int .i64 (n : Nat))) w') : op.wp P ac w K Q := by
  have hrun := run_copy_sized (P := P) dT sT op.type elem size g o dLen dCap a sLen sCap cur t cs hu hs hg (by rw [hnn]; exact hn) hsrc hfit h1
  rw [hnn] at hrun
  unfold Oper.wp execOp
  simp only [ho, resolve, invoke, builtin, Sem.run_bind, Sem.run_pure, Result.andThen_ok, List.map_toArray, List.map_cons, List.map_nil, hx, hy, hrun]
  exact h _ (stored_row hg)
theorem wpList_copy_sized {ops : Array Oper} {rest : List Oper} {op : Oper} {ac : Act} {Q : Exit → Act → World → Prop} (hgd : op.guard = none) (x y : Operand) (dT sT : TypeId) (ho : op.op = .call { callee := .builtin .copy, args := #[x, y], argTypes := #[dT, sT] })
    (elem : TypeId) (size g o dLen dCap : Nat) (a : Addr) (sLen sCap : Nat) (cur : Array Value) (t : TypeId) (cs : List Value) (n : Nat) (hnn : Nat.min sLen dLen = n) (hx : ac.eval x = .slice (some ⟨g, o, none⟩) dLen dCap) (hy : ac.eval y = .slice (some a) sLen sCap)
    (hu : P.underlying dT = some (.slice elem)) (hs : (P.info? elem).map (·.size) = some size)
    (hg : Blk w g t cur) (hn : cs.length = n * size)
    (hsrc : ∀ j v, cs[j]? = some v → w.cell? (a.add j) = some v) (hfit : o + cs.length ≤ cur.size) (h1 : ∀ v ∈ cs, v.oneCell' = true)
    (h : ∀ w', Stored w w' g t (cur.toList.take o ++ cs ++ cur.toList.drop (o + cs.length)).toArray → wpList P ops Q rest (ac.put op.dst (.int .i64 (n : Nat))) w') : wpList P ops Q (op :: rest) ac w :=
  wpList_plain hgd fun _ hK => wp_copy_sized x y dT sT ho elem size g o dLen dCap a sLen sCap cur t cs n hnn hx hy hu hs hg hn hsrc hfit h1 fun w' hw => hK _ _ (h w' hw)
theorem step_copy_sized {ops : Array Oper} {op : Oper} {ac : Act} {K : Act → World → Prop} {Q : Exit → Act → World → Prop} {E : Prop} (hgd : op.guard = none) (x y : Operand) (dT sT : TypeId) (ho : op.op = .call { callee := .builtin .copy, args := #[x, y], argTypes := #[dT, sT] })
    (elem : TypeId) (size g o dLen dCap : Nat) (a : Addr) (sLen sCap : Nat) (cur : Array Value) (t : TypeId) (cs : List Value) (n : Nat) (hnn : Nat.min sLen dLen = n) (hx : ac.eval x = .slice (some ⟨g, o, none⟩) dLen dCap) (hy : ac.eval y = .slice (some a) sLen sCap)
    (hu : P.underlying dT = some (.slice elem)) (hs : (P.info? elem).map (·.size) = some size)
    (hg : Blk w g t cur) (hn : cs.length = n * size)
    (hsrc : ∀ j v, cs[j]? = some v → w.cell? (a.add j) = some v) (hfit : o + cs.length ≤ cur.size) (h1 : ∀ v ∈ cs, v.oneCell' = true)
    (h : ∀ w', Stored w w' g t (cur.toList.take o ++ cs ++ cur.toList.drop (o + cs.length)).toArray → K (ac.put op.dst (.int .i64 (n : Nat))) w') : if Region.wanted op (yielded ops ac.tmps) = true then Oper.wp P op ac w K Q else E := by
  rw [if_pos (by simp [Region.wanted, hgd])]
  exact wp_copy_sized x y dT sT ho elem size g o dLen dCap a sLen sCap cur t cs n hnn hx hy hu hs hg hn hsrc hfit h1 h
end Go.Rep

namespace Go.Rep
open Go.RowKit
section
variable {P : Program} {w : World}
theorem run_storeVar_part (g o : Nat) (t ty : TypeId) (cur cells : Array Value) (hg : Blk w g t cur) (hi : (P.info? ty).map (·.size) = some cells.size)
    (hs : o + cells.size ≤ cur.size) (h1 : cells.all (·.oneCell') = true) :
    (storeVar ty ⟨g, o, none⟩ (.agg cells)).run P w = .ok () (w.setRow g (cur.toList.take o ++ cells.toList ++ cur.toList.drop (o + cells.size)).toArray) := by
  have := run_storeCells_at P g o t cells.toList 0 cur w hg (by simpa using hs) (fun v hv => (Array.all_eq_true_iff_forall_mem.1 h1) v (by simpa using hv))
  cases hq : P.info? ty with
  | none => simp [hq] at hi
  | some i =>
    have hs' : cells.size = i.size := by simp [hq] at hi; omega
    simp only [Nat.add_zero, Array.length_toList] at this
    simp [storeVar, sizeOf, typeInfo, hq, Value.cells, hs', this]
theorem wp_store_part {o : Oper} {a : Act} {K : Act → World → Prop} {Q : Exit → Act → World → Prop} (ty : TypeId) (x y : Operand) (ho : o.op = .store ty x y)
    (g off : Nat) (t : TypeId) (cur cells new : Array Value) (hx : a.eval x = .pointer (some ⟨g, off, none⟩)) (hy : a.eval y = .agg cells) (hg : Blk w g t cur) (hi : (P.info? ty).map (·.size) = some cells.size)
    (hs : off + cells.size ≤ cur.size) (h1 : cells.all (·.oneCell') = true) (hn : (cur.toList.take off ++ cells.toList ++ cur.toList.drop (off + cells.size)).toArray = new)
    (h : ∀ w', Stored w w' g t new → K (a.put o.dst undef) w') : o.wp P a w K Q := by
  unfold Oper.wp execOp
  simp only [ho, hx, hy, Instr.storeAt, Instr.sureAddr, Sem.run_bind, Sem.run_pure, Result.andThen_ok, run_storeVar_part g off t ty cur cells hg hi hs h1]
  rw [hn]
  exact h _ (stored_row hg)
theorem wpList_store_part {ops : Array Oper} {rest : List Oper} {o : Oper} {a : Act} {Q : Exit → Act → World → Prop} (hgd : o.guard = none) (ty : TypeId) (x y : Operand) (ho : o.op = .store ty x y)
    (g off : Nat) (t : TypeId) (cur cells new : Array Value) (hx : a.eval x = .pointer (some ⟨g, off, none⟩)) (hy : a.eval y = .agg cells) (hg : Blk w g t cur) (hi : (P.info? ty).map (·.size) = some cells.size)
    (hs : off + cells.size ≤ cur.size) (h1 : cells.all (·.oneCell') = true) (hn : (cur.toList.take off ++ cells.toList ++ cur.toList.drop (off + cells.size)).toArray = new)
    (h : ∀ w', Stored w w' g t new → wpList P ops Q rest (a.put o.dst undef) w') : wpList P ops Q (o :: rest) a w :=
  wpList_plain hgd fun _ hK => wp_store_part ty x y ho g off t cur cells new hx hy hg hi hs h1 hn fun w' hw => hK _ _ (h w' hw)
theorem step_store_part {ops : Array Oper} {o : Oper} {a : Act} {K : Act → World → Prop} {Q : Exit → Act → World → Prop} {E : Prop} (hgd : o.guard = none) (ty : TypeId) (x y : Operand) (ho : o.op = .store ty x y)
    (g off : Nat) (t : TypeId) (cur cells new : Array Value) (hx : a.eval x = .pointer (some ⟨g, off, none⟩)) (hy : a.eval y = .agg cells) (hg : Blk w g t cur) (hi : (P.info? ty).map (·.size) = some cells.size)
    (hs : off + cells.size ≤ cur.size) (h1 : cells.all (·.oneCell') = true) (hn : (cur.toList.take off ++ cells.toList ++ cur.toList.drop (off + cells.size)).toArray = new)
    (h : ∀ w', Stored w w' g t new → K (a.put o.dst undef) w') : if Region.wanted o (yielded ops a.tmps) = true then Oper.wp P o a w K Q else E := by
  rw [if_pos (by simp [Region.wanted, hgd])]
  exact wp_store_part ty x y ho g off t cur cells new hx hy hg hi hs h1 hn h
theorem run_loadVar_any (ty : TypeId) (p : Addr) (cs : Array Value) (d : TypeDesc) (hc : ∀ j v, cs.toList[j]? = some v → w.cell? (p.add j) = some v)
    (hu : P.underlying ty = some d) (hd : (match d with | .struct _ | .array _ _ => true | _ => false) = true) (hi : (P.info? ty).map (·.size) = some cs.size) :
    (loadVar ty p).run P w = .ok (.agg cs) w := by
  have hl : (loadCells p cs.toList.length).run P w = .ok cs.toList.toArray w := run_loadCells_list (P := P) w p cs.toList hc
  cases hq : P.info? ty with
  | none => simp [hq] at hi
  | some i =>
    have hs : i.size = cs.size := by simpa [hq] using hi
    have hagg : (isAgg ty).run P w = .ok true w := by
      unfold isAgg
      rw [Sem.run_bind, run_underlying hu w]
      cases d <;> simp_all
    simp only [Array.length_toList, Array.toArray_toList] at hl
    simp [loadVar, Sem.run_bind, hagg, sizeOf, typeInfo, hq, hs, hl]
theorem wp_load_any {o : Oper} {a : Act} {K : Act → World → Prop} {Q : Exit → Act → World → Prop} (ty : TypeId) (x : Operand) (ho : o.op = .load ty x)
    (p : Addr) (hx : a.eval x = .pointer (some p)) (cs : Array Value) (d : TypeDesc) (hc : ∀ j v, cs.toList[j]? = some v → w.cell? (p.add j) = some v)
    (hu : P.underlying ty = some d) (hd : (match d with | .struct _ | .array _ _ => true | _ => false) = true) (hi : (P.info? ty).map (·.size) = some cs.size)
    (h : K (a.put o.dst (.agg cs)) w) : o.wp P a w K Q := by
  unfold Oper.wp execOp
  simp only [ho, hx, Instr.loadAt, Instr.sureAddr, Sem.run_bind, Sem.run_pure, Result.andThen_ok, run_loadVar_any ty p cs d hc hu hd hi]
  exact h
theorem wpList_load_any {ops : Array Oper} {rest : List Oper} {o : Oper} {a : Act} {Q : Exit → Act → World → Prop} (ty : TypeId) (x : Operand) (ho : o.op = .load ty x) (hw : Region.wanted o (yielded ops a.tmps) = true)
    (p : Addr) (hx : a.eval x = .pointer (some p)) (cs : Array Value) (d : TypeDesc) (hc : ∀ j v, cs.toList[j]? = some v → w.cell? (p.add j) = some v)
    (hu : P.underlying ty = some d) (hd : (match d with | .struct _ | .array _ _ => true | _ => false) = true) (hi : (P.info? ty).map (·.size) = some cs.size)
    (h : wpList P ops Q rest (a.put o.dst (.agg cs)) w) : wpList P ops Q (o :: rest) a w :=
  wpList_on hw fun _ hK => wp_load_any ty x ho p hx cs d hc hu hd hi (hK _ _ h)
theorem step_load_any {ops : Array Oper} {o : Oper} {a : Act} {K : Act → World → Prop} {Q : Exit → Act → World → Prop} {E : Prop} (ty : TypeId) (x : Operand) (ho : o.op = .load ty x) (hw : Region.wanted o (yielded ops a.tmps) = true)
    (p : Addr) (hx : a.eval x = .pointer (some p)) (cs : Array Value) (d : TypeDesc) (hc : ∀ j v, cs.toList[j]? = some v → w.cell? (p.add j) = some v)
    (hu : P.underlying ty = some d) (hd : (match d with | .struct _ | .array _ _ => true | _ => false) = true) (hi : (P.info? ty).map (·.size) = some cs.size)
    (h : K (a.put o.dst (.agg cs)) w) : if Region.wanted o (yielded ops a.tmps) = true then Oper.wp P o a w K Q else E := by
  rw [if_pos hw]
  exact wp_load_any ty x ho p hx cs d hc hu hd hi h
theorem Blk.part {g o : Nat} {t : TypeId} {cur cs : Array Value} (hB : Blk w g t cur) (h : (cur.toList.drop o).take cs.size = cs.toList) : ∀ j v, cs.toList[j]? = some v → w.cell? ((⟨g, o, none⟩ : Addr).add j) = some v := by
  intro j v hv
  have e : (⟨g, o, none⟩ : Addr).add j = ⟨g, o + j, none⟩ := by unfold Addr.add; split <;> simp_all
  rw [e, hB.cell (o + j), ← hv, ← h]
  have hj : j < cs.size := by have := (List.getElem?_eq_some_iff.1 hv).1; simpa using this
  rw [List.getElem?_take, if_pos hj, List.getElem?_drop, Array.getElem?_toList]
theorem wpList_build_lit {ops : Array Oper} {rest : List Oper} {o : Oper} {a : Act} {Q : Exit → Act → World → Prop} (hg : o.guard = none) (t : TypeId) (parts : Array (Nat × Operand)) (ho : o.op = .build t parts) (cells : Array Value)
    (hb : P.built t (parts.map fun (i, x) => (i, a.eval x)).toList = some cells)
    (h : wpList P ops Q rest (a.put o.dst (.agg cells)) w) : wpList P ops Q (o :: rest) a w := by
  refine wpList_build hg t parts ho (by rw [hb]; rfl) ?_
  rw [hb]
  exact h
end
end Go.Rep

namespace Go.Rep
open Go.RowKit
/-- What the taking over of the deferred calls leaves. -/
theorem put_far {W : World} {D k : Nat} {o : Obj} (hk : k ≠ D) : (W.putObj D o).heap[k]? = W.heap[k]? := by
  simp only [World.putObj, Array.getElem?_setIfInBounds]
  rw [if_neg (fun e => hk e.symm)]
/-- A range over a function that yields nothing. -/
theorem wpIn_range_none {P : Program} {n : Nat} {g : Operand} {ps : Array Tmp} {assign body : Code} {Q : Exit → Act → World → Prop} {a : Act} {w : World} {gf : Nat} {first cap : Array Value}
    (hg : a.eval g = .func (.func gf) first cap) (eg : ∀ args w, (callFunc gf args).run P w = .ok (.enter gf args) w)
    (hcall : ∀ (l : Nat) (W : World), Below w.heap.size w W → Calls P gf (first ++ #[.func (.yield l) #[] #[]] ++ cap) W fun e W' => (∃ v, e = .returned v) ∧ Below W.heap.size W W')
    (hQ : ∀ (D : Nat) (W : World), w.heap.size ≤ D → Below w.heap.size w W → W.heap[D]? = some (.deferred (some [])) → Q .normal { a with defers := { target := .collected D, args := #[] } :: a.defers } W) :
    (Code.rangeFunc g ps assign body).wpIn Fence.wide n P Q a w := by
  refine wpIn_rangeFunc ?_
  intro fn _
  obtain ⟨rc, hrc⟩ : ∃ rc : Loop, rc = { state := .ready, pending := none, fn, tmps := a.tmps, params := ps, assign, body, defers := w.heap.size } := ⟨_, rfl⟩
  have hst : rc.state = .ready := by rw [hrc]
  have hpe : rc.pending = none := by rw [hrc]
  obtain ⟨W1, hW1⟩ : ∃ W1, W1 = (w.alloc (.deferred (some []))).alloc (.loop rc) := ⟨_, rfl⟩
  have hs1 : (w.alloc (.deferred (some []))).heap.size = w.heap.size + 1 := by simp
  have hs2 : W1.heap.size = w.heap.size + 1 + 1 := by rw [hW1]; simp
  have hWl : W1.heap[w.heap.size + 1]? = some (.loop rc) := by
    have := heap_alloc_new (w.alloc (.deferred (some []))) (.loop rc)
    rw [hs1] at this
    rw [hW1]
    exact this
  have hWD : W1.heap[w.heap.size]? = some (.deferred (some [])) := by
    rw [hW1, Below.heap_alloc _ _ _ (by rw [hs1]; omega)]
    exact heap_alloc_new w _
  have hb1 : Below w.heap.size w W1 := by
    rw [hW1]
    exact ((Below.refl _ _).alloc (Nat.le_refl _) _).alloc (by rw [hs1]; omega) _
  refine ⟨w.heap.size + 1, [{ target := .collected w.heap.size, args := #[] }], W1, { target := .fn (.func gf) cap, args := first ++ #[.func (.yield (w.heap.size + 1)) #[] #[]] }, W1, gf, _, W1, ?_, ?_, fun _ _ => trivial, ?_, fun h => (by cases h), CallsIn.mono (callsIn_wide.2 (hcall (w.heap.size + 1) W1 hb1)) ?_⟩
  · rw [hW1, hrc]; exact run_enterLoop_outer _ _ _ _ _
  · simp only [resolve, hg]
    simp [go_sem]
  · exact eg _ _
  · rintro e w3 ⟨⟨v, rfl⟩, hb3⟩
    have hr2 : w3.heap[w.heap.size + 1]? = some (.loop rc) := (hb3.block _ (by rw [hs2]; omega)).trans hWl
    have hel := run_endLoop (P := P) hr2 (by rw [hst]; intro hx; cases hx)
    rw [hpe] at hel
    refine ⟨none, _, hel, hQ w.heap.size _ (Nat.le_refl _) ?_ ?_⟩
    · exact (hb1.trans (hb3.mono (by rw [hs2]; omega))).trans ⟨rfl, rfl, rfl, by simp [World.putObj], fun k hk => put_far (by omega)⟩
    · rw [put_far (by omega)]
      exact (hb3.block _ (by rw [hs2]; omega)).trans hWD
theorem put_below {B : Nat} {w W : World} {D : Nat} {o : Obj} (h : Below B w W) (hD : B ≤ D) : Below B w (W.putObj D o) := h.trans ⟨rfl, rfl, rfl, by simp [World.putObj], fun k hk => put_far (by omega)⟩
theorem put_blk {W : World} {D g : Nat} {t : TypeId} {cs : Array Value} {o : Obj} {ds : Option (List Deferred)} (h : Blk W g t cs) (hD : W.heap[D]? = some (.deferred ds)) : Blk (W.putObj D o) g t cs := by
  refine (put_far fun e => ?_).trans h
  subst e
  unfold Blk at h
  rw [hD] at h
  cases h
end Go.Rep

namespace Go.Rep
open Go.RowKit
/-- A struct that is built, its cells known: inside a region that draws. -/
theorem step_build_lit {P : Program} {w : World} {ops : Array Oper} {o : Oper} {a : Act} {K : Act → World → Prop} {Q : Exit → Act → World → Prop} {E : Prop} (hg : o.guard = none) (t : TypeId) (parts : Array (Nat × Operand)) (ho : o.op = .build t parts) (cells : Array Value)
    (hb : P.built t (parts.map fun (i, x) => (i, a.eval x)).toList = some cells)
    (h : K (a.put o.dst (.agg cells)) w) : if Region.wanted o (yielded ops a.tmps) = true then Oper.wp P o a w K Q else E := by
  rw [if_pos (by simp [Region.wanted, hg])]
  refine wp_build t parts ho (by rw [hb]; rfl) ?_
  rw [hb]
  exact h
/-- A store inside a region whose run was written out by 'simp': what it comes to, and a fact of the world that it leaves. -/
theorem upon_skip {P : Program} {o : Oper} {a : Act} {K : Act → World → Prop} {Q : Exit → Act → World → Prop} {r : Result Next} {S : World → Prop} (w : World) (hr : r = .ok .skip w) (hS : S w) (h : ∀ w', S w' → K (a.put o.dst undef) w') : Oper.upon P o a K Q r := by
  subst hr
  exact h w hS
end Go.Rep

namespace Go.Abs
open Go.RowKit Go.WideShapes
/-- A struct of three integers. -/
theorem okWide_ints3 {P : Program} {w : World} {r : Reach} {base : Nat} {t u u' u2 : TypeId} {k k' k2 : IntKind} {v : Value} {fs : Array Field} (ht : P.underlying t = some (.struct fs)) (hc : P.cellsOf t = 3)
    (hts : P.cellTypes P.depth t = some [u, u', u2]) (hu : P.underlying u = some (.int k)) (hu' : P.underlying u' = some (.int k')) (hu2 : P.underlying u2 = some (.int k2)) (h : Value.okWide P w r base t v) : ∃ n m l, v = .agg #[.int k n, .int k' m, .int k2 l] := by
  simp only [Value.okWide, ht] at h
  obtain ⟨cs, rfl, hsz, ts, h1, _, h3⟩ := h
  rw [hts] at h1
  cases h1
  rw [hc] at hsz
  obtain ⟨l⟩ := cs
  match l, hsz with
  | [a, b, c], _ =>
    obtain ⟨x, e, ha⟩ := h3 0 a rfl
    cases e
    obtain ⟨y, e, hb⟩ := h3 1 b rfl
    cases e
    obtain ⟨z, e, hc⟩ := h3 2 c rfl
    cases e
    simp only [Cell.okWide, hu] at ha
    simp only [Cell.okWide, hu'] at hb
    simp only [Cell.okWide, hu2] at hc
    cases a <;> simp_all [Cell.ok]
    cases b <;> simp_all
    cases c <;> simp_all
end Go.Abs
