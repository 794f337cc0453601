/- Plain facts about memory, rows and bytes. -/
import Derived.Below
import Derived.Laws.OwnMore
import Derived.Deep.AppendLies
import Derived.Deep.Draws
import Derived.Laws.Rows
import Derived.Maps.AppendAt
import Derived.RegionTactic
import Derived.OwnWalk
import Derived.WalkKit
import Derived.Laws.BytesString
import Derived.Laws.BytesArg
import Derived.Laws.Tables
import Derived.Tactics2
import Derived.Laws.CopyRow
import Derived.Lib.Strings
import Derived.Lib.Hide
import Derived.Lib.ItoaLen
import Derived.Lib.ItoaMem
import Derived.ChangeSlices
import Derived.Deep.Slices
import Derived.Deep.Fields
import Derived.ChangeSame
import Derived.OpenShut
set_option linter.unusedVariables false
set_option linter.unusedSimpArgs false
-- --
namespace Go.Rep
open Go.RowKit
theorem block_of_add (a : Addr) (n : Nat) : (a.add n).block = a.block := by unfold Addr.add; split <;> rfl
theorem add_of_add (a : Addr) (i j : Nat) : (a.add i).add j = a.add (i + j) := by
  unfold Addr.add
  by_cases hi : i = 0 <;> by_cases hj : j = 0 <;> simp [hi, hj, Nat.add_assoc]

def Reads (w : World) (B size : Nat) (A : Option Addr) (n : Nat) (xs : List Value) : Prop :=
  xs.length = n * size ∧ (0 < n → ∃ ad, A = some ad ∧ ad.block < B ∧ ∀ j u, xs[j]? = some u → w.cell? (ad.add j) = some u)

section
variable {w w' : World} {B B' size n : Nat} {A : Option Addr} {xs : List Value}
theorem Reads.none_ : Reads w B size A 0 [] := ⟨by simp, fun h => absurd h (by omega)⟩
theorem Reads.at_ {k : Nat} (h : Reads w B 1 A n xs) (hk : k < n) : ∃ ad u, A = some ad ∧ ad.block < B ∧ xs[k]? = some u ∧ w.cell? (ad.add k) = some u := by
  obtain ⟨ad, e, hb, hc⟩ := h.2 (by omega)
  have hl : k < xs.length := by have := h.1; omega
  exact ⟨ad, xs[k], e, hb, List.getElem?_eq_getElem hl, hc k _ (List.getElem?_eq_getElem hl)⟩
theorem Reads.keep (h : Reads w B size A n xs) (hk : ∀ p : Addr, p.block < B → w'.cell? p = w.cell? p) : Reads w' B size A n xs :=
  ⟨h.1, fun hn => by
    obtain ⟨ad, e, hb, hc⟩ := h.2 hn
    exact ⟨ad, e, hb, fun j u hu => (hk _ (by rw [block_of_add]; exact hb)).trans (hc j u hu)⟩⟩
theorem Reads.more (h : Reads w B size A n xs) (hB : B ≤ B') : Reads w B' size A n xs :=
  ⟨h.1, fun hn => by
    obtain ⟨ad, e, hb, hc⟩ := h.2 hn
    exact ⟨ad, e, by omega, hc⟩⟩
theorem Reads.below (h : Reads w B size A n xs) (hb : Below B w w') : Reads w' B size A n xs := h.keep fun _ hp => hb.cell hp
theorem Reads.drew (h : Reads w B size A n xs) : Reads w.drew B size A n xs := h
theorem Reads.drewN (h : Reads w B size A n xs) (k : Nat) : Reads (w.drewN k) B size A n xs := h
theorem Reads.alloc (h : Reads w B size A n xs) (hB : B ≤ w.heap.size) (o : Obj) : Reads (w.alloc o) B size A n xs := h.keep fun p hp => World.cell?_alloc_lt w o p (by omega)
theorem Reads.setCell (h : Reads w B size A n xs) {p : Addr} (hB : B ≤ p.block) (u : Value) : Reads (w.setCell p u) B size A n xs :=
  h.keep fun q hq => World.cell?_setCell_other w p q u (fun e => by subst e; omega)
theorem Reads.grown (h : Reads w B size A n xs) {row : Option Nat} (hg : w.grownBy w' row) (hB : B ≤ w.heap.size) (hr : ∀ g, row = some g → B ≤ g) : Reads w' B size A n xs :=
  h.keep fun p hp => World.cell?_of_block (hg.block p.block (by omega) (fun e => by have := hr _ e.symm; omega))
theorem Reads.cut (h : Reads w B size A n xs) {k cap : Nat} (hk : k ≤ n) (hc : n ≤ cap) :
    Reads w B size (if cap = k then A else A.map (·.add (k * size))) (n - k) (xs.drop (k * size)) := by
  refine ⟨by rw [List.length_drop, h.1, Nat.sub_mul], fun hn => ?_⟩
  obtain ⟨ad, rfl, hb, hcell⟩ := h.2 (by omega)
  rw [if_neg (by omega)]
  refine ⟨ad.add (k * size), rfl, by rw [block_of_add]; exact hb, fun j u hu => ?_⟩
  rw [add_of_add]
  exact hcell _ u (by rw [← hu, List.getElem?_drop])
theorem Reads.of_own {base : Nat} {e : TypeId} {c : Nat} (h : w.ownsRow base e size (.slice A n c) n xs) : Reads w w.heap.size size A n xs := by
  refine ⟨h.1, fun hn => ?_⟩
  obtain ⟨g, cap, hv, _, hlt⟩ := h.form hn
  have hA : A = some ⟨g, 0, none⟩ := by injection hv
  subst hA
  exact ⟨_, rfl, hlt, h.cells (g := g) rfl⟩
end

def Blk (w : World) (g : Nat) (t : TypeId) (cs : Array Value) : Prop := w.heap[g]? = some (.cells cs t (0, 0))

section
variable {w w' : World} {g : Nat} {t : TypeId} {cs : Array Value}
theorem Blk.lt (h : Blk w g t cs) : g < w.heap.size := by
  rcases Nat.lt_or_ge g w.heap.size with hlt | hge
  · exact hlt
  · unfold Blk at h; rw [Array.getElem?_eq_none hge] at h; cases h
theorem Blk.cell (h : Blk w g t cs) (i : Nat) : w.cell? ⟨g, i, none⟩ = cs[i]? := cell_of_row w g i cs t (0, 0) h
theorem Blk.frozen (h : Blk w g t cs) (i : Nat) : w.frozen? ⟨g, i, none⟩ = false := by
  unfold Blk at h
  simp [World.frozen?, h]
theorem Blk.new (w : World) (t : TypeId) (cs : Array Value) : Blk (w.alloc (.cells cs t)) w.heap.size t cs := heap_alloc_new w _
theorem Blk.drew (h : Blk w g t cs) : Blk w.drew g t cs := h
theorem Blk.drewN (h : Blk w g t cs) (n : Nat) : Blk (w.drewN n) g t cs := h
theorem Blk.alloc (h : Blk w g t cs) (o : Obj) : Blk (w.alloc o) g t cs := (Below.heap_alloc w o g h.lt).trans h
theorem Blk.set_ (h : Blk w g t cs) (i : Nat) (u : Value) : Blk (w.setCell ⟨g, i, none⟩ u) g t (cs.setIfInBounds i u) := by
  unfold Blk at h ⊢
  simp [World.setCell, Array.getElem?_modify, h]
theorem Blk.far (h : Blk w g t cs) {p : Addr} (hp : g ≠ p.block) (u : Value) : Blk (w.setCell p u) g t cs := (Below.heap_setCell w p u g hp).trans h
theorem Blk.below {B : Nat} (h : Blk w g t cs) (hb : Below B w w') (hg : g < B) : Blk w' g t cs := (hb.block g hg).trans h
theorem Blk.grown {row : Option Nat} (h : Blk w g t cs) (hb : w.grownBy w' row) (hg : some g ≠ row) : Blk w' g t cs := (hb.block g h.lt hg).trans h
theorem Blk.ne_ {g' : Nat} {t' : TypeId} {cs' : Array Value} (h : Blk w g t cs) (h' : Blk w g' t' cs') (hne : t ≠ t') : g ≠ g' := by
  rintro rfl
  unfold Blk at h h'
  rw [h] at h'
  injection h' with h'
  injection h' with _ ht
  exact hne ht
theorem own_blk_ne {base : Nat} {e : TypeId} {size n : Nat} {v : Value} {xs : List Value} (h : w.ownsRow base e size v n xs) (hg : Blk w g t cs) (hne : e ≠ t) : v.ownBlock ≠ some g := by
  rcases h.2 with ⟨rfl, _⟩ | ⟨g', cap, cur, rfl, _, hh, _⟩
  · simp [Value.ownBlock]
  · intro he
    have : g' = g := by simpa [Value.ownBlock] using he
    subst this
    exact Blk.ne_ (t := e) hh hg hne rfl
end

section
variable {P : Program} (w : World)

theorem run_append_of_nil (base : Nat) (t ty e : TypeId) (i : TypeInfo) (size : Nat) (ht : P.underlying t = some (.slice e)) (hi : P.info? e = some i)
    (v : Value) (n : Nat) (xs : List Value) (hown : w.ownsRow base e size v n xs) (c : Nat) : (Builtin.append_ #[t, t] ty #[v, .slice none 0 c]).run P w = .ok v w := by
  rcases hown.2 with ⟨rfl, rfl⟩ | ⟨g, cap, cur, rfl, _, _, hnc, _⟩
  · simp [Builtin.append_, run_underlying ht, sizeOf, typeInfo, hi, Builtin.lenOf, Builtin.firstCells]
  · simp [Builtin.append_, run_underlying ht, sizeOf, typeInfo, hi, Builtin.lenOf, Builtin.firstCells, hnc, storeCells]

theorem run_append_any (base : Nat) (t ty e : TypeId) (i : TypeInfo) (z : Value) (size bytes : Nat) (ht : P.underlying t = some (.slice e)) (hi : P.info? e = some i) (hz : i.zero = some z)
    (hsize : i.size = size) (hby : i.bytes = bytes) (hzs : z.cells.size = size) (hsz : 0 < size)
    (v : Value) (n : Nat) (xs : List Value) (hown : w.ownsRow base e size v n xs)
    (B : Nat) (A : Option Addr) (m c : Nat) (news : List Value) (hr : Reads w B size A m news) (h1 : ∀ u ∈ news, u.oneCell' = true)
    (h63 : n + m ≤ maxLen) (hbytes : (n + m) * bytes ≤ 140737488355328) (hbase : base ≤ w.heap.size) :
    ∃ v' w', (Builtin.append_ #[t, t] ty #[v, .slice A m c]).run P w = .ok v' w' ∧ w'.ownsRow base e size v' (n + m) (xs ++ news) ∧ w.grownBy w' v.ownBlock ∧
      (v'.ownBlock = v.ownBlock ∨ v'.ownBlock = some w.heap.size) := by
  rcases A with _ | ad
  · have hm : m = 0 := by
      rcases Nat.eq_zero_or_pos m with h0 | h0
      · exact h0
      · obtain ⟨ad, h, _⟩ := hr.2 h0
        cases h
    subst hm
    have hn : news = [] := List.eq_nil_of_length_eq_zero (by simpa using hr.1)
    subst hn
    exact ⟨v, w, run_append_of_nil w base t ty e i size ht hi v n xs hown c, by simpa using hown, World.grownBy.refl w _, .inl rfl⟩
  · have hcells : ∀ j u, news[j]? = some u → w.cell? (ad.add j) = some u := by
      intro j u hu
      rcases Nat.eq_zero_or_pos m with h0 | h0
      · subst h0
        have hn : news = [] := List.eq_nil_of_length_eq_zero (by simpa using hr.1)
        subst hn
        simp at hu
      · obtain ⟨ad', h, _, hc⟩ := hr.2 h0
        injection h with h
        subst h
        exact hc j u hu
    obtain ⟨v', w', hrun, h2, h3, _, h5⟩ := run_append_own_at (P := P) w base t ty e i z size bytes ht hi hz hsize hby hzs hsz v n xs hown ad m c news hr.1 hcells h1 h63 hbytes hbase
    exact ⟨v', w', hrun, h2, h3, h5⟩

theorem wp_append_any {o : Oper} {a : Act} {K : Act → World → Prop} {Q : Exit → Act → World → Prop} (s x : Operand) (t : TypeId)
    (ho : o.op = .call { callee := .builtin .append, args := #[s, x], argTypes := #[t, t] })
    (base : Nat) (e : TypeId) (i : TypeInfo) (z : Value) (size bytes : Nat) (ht : P.underlying t = some (.slice e)) (hi : P.info? e = some i) (hz : i.zero = some z)
    (hsize : i.size = size) (hby : i.bytes = bytes) (hzs : z.cells.size = size) (hsz : 0 < size)
    (v : Value) (n : Nat) (xs : List Value) (hs : a.eval s = v) (hown : w.ownsRow base e size v n xs)
    (B : Nat) (A : Option Addr) (m c : Nat) (news : List Value) (hx : a.eval x = .slice A m c) (hr : Reads w B size A m news) (h1 : ∀ u ∈ news, u.oneCell' = true)
    (h63 : n + m ≤ maxLen) (hbytes : (n + m) * bytes ≤ 140737488355328) (hbase : base ≤ w.heap.size)
    (h : ∀ v' w', w'.ownsRow base e size v' (n + m) (xs ++ news) → w.grownBy w' v.ownBlock → (v'.ownBlock = v.ownBlock ∨ v'.ownBlock = some w.heap.size) → K (a.put o.dst v') w') : o.wp P a w K Q := by
  obtain ⟨v', w', hrun, h2, h3, h4⟩ := run_append_any (P := P) w base t o.type e i z size bytes ht hi hz hsize hby hzs hsz v n xs hown B A m c news hr h1 h63 hbytes hbase
  unfold Oper.wp execOp
  simp only [ho, resolve, invoke, builtin, Sem.run_bind, Sem.run_pure, Result.andThen_ok, List.map_toArray, List.map_cons, List.map_nil, hs, hx, hrun]
  exact h v' w' h2 h3 h4

theorem wpList_append_any {ops : Array Oper} {rest : List Oper} {o : Oper} {a : Act} {Q : Exit → Act → World → Prop} (hgd : o.guard = none) (s x : Operand) (t : TypeId)
    (ho : o.op = .call { callee := .builtin .append, args := #[s, x], argTypes := #[t, t] })
    (base : Nat) (e : TypeId) (i : TypeInfo) (z : Value) (size bytes : Nat) (ht : P.underlying t = some (.slice e)) (hi : P.info? e = some i) (hz : i.zero = some z)
    (hsize : i.size = size) (hby : i.bytes = bytes) (hzs : z.cells.size = size) (hsz : 0 < size)
    (v : Value) (n : Nat) (xs : List Value) (hs : a.eval s = v) (hown : w.ownsRow base e size v n xs)
    (B : Nat) (A : Option Addr) (m c : Nat) (news : List Value) (hx : a.eval x = .slice A m c) (hr : Reads w B size A m news) (h1 : ∀ u ∈ news, u.oneCell' = true)
    (h63 : n + m ≤ maxLen) (hbytes : (n + m) * bytes ≤ 140737488355328) (hbase : base ≤ w.heap.size)
    (h : ∀ v' w', w'.ownsRow base e size v' (n + m) (xs ++ news) → w.grownBy w' v.ownBlock → (v'.ownBlock = v.ownBlock ∨ v'.ownBlock = some w.heap.size) → wpList P ops Q rest (a.put o.dst v') w') : wpList P ops Q (o :: rest) a w :=
  wpList_plain hgd fun _ hK => wp_append_any w s x t ho base e i z size bytes ht hi hz hsize hby hzs hsz v n xs hs hown B A m c news hx hr h1 h63 hbytes hbase fun v' w' h2 h3 h4 => hK _ _ (h v' w' h2 h3 h4)

theorem step_append_any {ops : Array Oper} {o : Oper} {a : Act} {K : Act → World → Prop} {Q : Exit → Act → World → Prop} {E : Prop} (hgd : o.guard = none) (s x : Operand) (t : TypeId)
    (ho : o.op = .call { callee := .builtin .append, args := #[s, x], argTypes := #[t, t] })
    (base : Nat) (e : TypeId) (i : TypeInfo) (z : Value) (size bytes : Nat) (ht : P.underlying t = some (.slice e)) (hi : P.info? e = some i) (hz : i.zero = some z)
    (hsize : i.size = size) (hby : i.bytes = bytes) (hzs : z.cells.size = size) (hsz : 0 < size)
    (v : Value) (n : Nat) (xs : List Value) (hs : a.eval s = v) (hown : w.ownsRow base e size v n xs)
    (B : Nat) (A : Option Addr) (m c : Nat) (news : List Value) (hx : a.eval x = .slice A m c) (hr : Reads w B size A m news) (h1 : ∀ u ∈ news, u.oneCell' = true)
    (h63 : n + m ≤ maxLen) (hbytes : (n + m) * bytes ≤ 140737488355328) (hbase : base ≤ w.heap.size)
    (h : ∀ v' w', w'.ownsRow base e size v' (n + m) (xs ++ news) → w.grownBy w' v.ownBlock → (v'.ownBlock = v.ownBlock ∨ v'.ownBlock = some w.heap.size) → K (a.put o.dst v') w') :
    if Region.wanted o (yielded ops a.tmps) = true then Oper.wp P o a w K Q else E := by
  have hw : Region.wanted o (yielded ops a.tmps) = true := by simp [Region.wanted, hgd]
  rw [if_pos hw]
  exact wp_append_any w s x t ho base e i z size bytes ht hi hz hsize hby hzs hsz v n xs hs hown B A m c news hx hr h1 h63 hbytes hbase h
end

end Go.Rep

namespace Go.Rep
/-- An operation of a script. -/
structure TOp where
  k : Int
  s : ByteArray
  r : Int
  c : Int
  n : Int
def TOp.cells (o : TOp) : List Value := [.int .i64 o.k, .string o.s, .int .i64 o.r, .int .i64 o.c, .int .i64 o.n]
/-- A byte, 0 behind the last one. -/
def byteAt (l : List UInt8) (i : Nat) : Nat := (l.getD i 0).toNat
theorem byteAt_lt (l : List UInt8) (i : Nat) : byteAt l i < 256 := UInt8.toNat_lt _
theorem byteAt_out {l : List UInt8} {i : Nat} (h : l.length ≤ i) : byteAt l i = 0 := by
  unfold byteAt
  rw [List.getD_eq_getElem?_getD, List.getElem?_eq_none h]
  rfl
theorem byteAt_min {l : List UInt8} {n : Nat} (h : l.length = n) (i : Nat) : byteAt l (min i n) = byteAt l i := by
  rcases Nat.lt_or_ge i n with h1 | h1
  · rw [Nat.min_eq_left (by omega)]
  · rw [Nat.min_eq_right h1, byteAt_out (by omega), byteAt_out (by omega)]
/-- A byte as a signed one. -/
def signed (x : Nat) : Int := if x < 128 then x else (x : Int) - 256
def endAt (l : List UInt8) (i : Nat) : Nat := min (i + 1 + byteAt l i / 4) l.length
def opAt (l : List UInt8) (i : Nat) : TOp :=
  if byteAt l i % 4 < 2 then ⟨1, ⟨((l.take (endAt l i)).drop (i + 1)).toArray⟩, 0, 0, 0⟩
  else if byteAt l i % 4 = 2 then ⟨2, ByteArray.empty, (byteAt l (i + 1) % 32 : Nat) + 1, (byteAt l (i + 2) % 64 : Nat) + 1, 0⟩
  else ⟨3, ByteArray.empty, 0, 0, signed (byteAt l (i + 1))⟩
def nextAt (l : List UInt8) (i : Nat) : Nat := if byteAt l i % 4 < 2 then endAt l i else if byteAt l i % 4 = 2 then i + 3 else i + 2
theorem nextAt_gt {l : List UInt8} {i : Nat} (_ : i < l.length) : i < nextAt l i := by
  unfold nextAt endAt
  split
  · omega
  · split <;> omega
/-- The operations from a place on. -/
def opsAt (l : List UInt8) (i : Nat) : List TOp := if _ : i < l.length then opAt l i :: opsAt l (nextAt l i) else []
termination_by l.length - i
decreasing_by have := nextAt_gt ‹_›; omega
theorem opsAt_in {l : List UInt8} {i : Nat} (h : i < l.length) : opsAt l i = opAt l i :: opsAt l (nextAt l i) := by rw [opsAt, dif_pos h]
theorem opsAt_out {l : List UInt8} {i : Nat} (h : l.length ≤ i) : opsAt l i = [] := by rw [opsAt, dif_neg (by omega)]
theorem opsAt_min (l : List UInt8) (i : Nat) : opsAt l (min i l.length) = opsAt l i := by
  rcases Nat.lt_or_ge i l.length with h | h
  · rw [Nat.min_eq_left (by omega)]
  · rw [Nat.min_eq_right h, opsAt_out (Nat.le_refl _), opsAt_out h]
theorem opsAt_length (l : List UInt8) (i : Nat) : (opsAt l i).length ≤ l.length - i := by
  induction h : l.length - i using Nat.strongRecOn generalizing i with
  | ind n ih =>
    rcases Nat.lt_or_ge i l.length with hi | hi
    · rw [opsAt_in hi, List.length_cons]
      have g := nextAt_gt hi
      have := ih (l.length - nextAt l i) (by omega) (nextAt l i) rfl
      omega
    · rw [opsAt_out hi]; simp
def opCells (x : List TOp) : List Value := x.flatMap TOp.cells
theorem opCells_length (x : List TOp) : (opCells x).length = x.length * 5 := by
  induction x with
  | nil => rfl
  | cons a t ih => unfold opCells at ih ⊢; rw [List.flatMap_cons, List.length_append, ih]; simp [TOp.cells]; omega
theorem opCells_snoc (x : List TOp) (o : TOp) : opCells (x ++ [o]) = opCells x ++ o.cells := by simp [opCells]
theorem opCells_at (x : List TOp) (i j : Nat) (hi : i < x.length) (hj : j < 5) : (opCells x)[i * 5 + j]? = (x[i]).cells[j]? := by
  induction x generalizing i with
  | nil => simp at hi
  | cons a t ih =>
    have e : opCells (a :: t) = a.cells ++ opCells t := by simp [opCells]
    rw [e]
    cases i with
    | zero =>
      rw [List.getElem?_append_left (by simp [TOp.cells]; omega)]
      simp
    | succ i =>
      have hi' : i < t.length := by simpa using hi
      rw [List.getElem?_append_right (by simp [TOp.cells]; omega)]
      have e2 : (i + 1) * 5 + j - a.cells.length = i * 5 + j := by simp [TOp.cells]; omega
      rw [e2, ih i hi']
      rfl
end Go.Rep

namespace Go.Rep
open Go.RowKit
/-- The cells of bytes. -/
def bcells (l : List UInt8) : List Value := l.map fun x => .int .u8 (x.toNat : Int)
theorem bcells_get {l : List UInt8} {i : Nat} (h : i < l.length) : (bcells l)[i]? = some (.int .u8 (byteAt l i : Int)) := by
  unfold bcells byteAt
  rw [List.getElem?_map, List.getElem?_eq_getElem h, List.getD_eq_getElem?_getD, List.getElem?_eq_getElem h]
  rfl
theorem bcells_length (l : List UInt8) : (bcells l).length = l.length := by simp [bcells]
theorem Reads.bytes {w : World} {B n : Nat} {A : Option Addr} {l : List UInt8} (h : Reads w B 1 A n (bcells l)) : l.length = n := by have := h.1; simpa [bcells] using this
theorem Reads.byte {w : World} {B n : Nat} {A : Option Addr} {l : List UInt8} (h : Reads w B 1 A n (bcells l)) {k : Nat} (hk : k < n) : ∃ ad, A = some ad ∧ ad.block < B ∧ w.cell? (ad.add k) = some (.int .u8 (byteAt l k : Int)) := by
  obtain ⟨ad, u, rfl, h2, h3, h4⟩ := h.at_ hk
  have hl := h.bytes
  rw [bcells_get (by omega)] at h3
  cases h3
  exact ⟨ad, rfl, h2, h4⟩
theorem bcells_drop (l : List UInt8) (k : Nat) : (bcells l).drop k = bcells (l.drop k) := by simp [bcells, List.map_drop]
theorem bcells_take (l : List UInt8) (k : Nat) : (bcells l).take k = bcells (l.take k) := by simp [bcells, List.map_take]
theorem Reads.take {w : World} {B size n m : Nat} {A : Option Addr} {xs : List Value} (h : Reads w B size A n xs) (hm : m ≤ n) : Reads w B size A m (xs.take (m * size)) := by
  refine ⟨by rw [List.length_take, h.1]; exact Nat.min_eq_left (Nat.mul_le_mul_right _ hm), fun h0 => ?_⟩
  obtain ⟨ad, e, hb, hc⟩ := h.2 (by omega)
  refine ⟨ad, e, hb, fun j u hu => hc j u ?_⟩
  rw [List.getElem?_take] at hu
  split at hu
  · exact hu
  · cases hu
theorem foldl_bytes (l : List UInt8) (s : ByteArray) : (l.map fun x => (x.toNat : Int)).foldl (fun r n => r.push (UInt8.ofNat n.toNat)) s = ⟨s.data ++ l.toArray⟩ := by
  rw [foldl_push_bytes]
  congr 2
  rw [List.map_map]
  have e : ((fun n : Int => UInt8.ofNat n.toNat) ∘ fun x : UInt8 => (x.toNat : Int)) = id := by
    funext x
    simp
  rw [e, List.map_id]
/-- Bytes that are read, as a string. -/
theorem run_conv_reads {P : Program} {w : World} {B n : Nat} {A : Option Addr} {l : List UInt8} (h : Reads w B 1 A n (bcells l)) (src e : TypeId) (hs : P.underlying src = some (.slice e)) (he : P.underlying e = some (.int .u8)) (c : Nat) (dst : TypeId) (hd : P.underlying dst = some .string) :
    (convert src dst (.slice A n c)).run P w = .ok (.string ⟨l.toArray⟩) w := by
  rw [run_convert_bytes_string w src dst e _ n c hs he hd]
  rcases Nat.eq_zero_or_pos n with h0 | h0
  · have hl : l = [] := List.eq_nil_of_length_eq_zero (by have := h.bytes; omega)
    subst hl
    subst h0
    cases A with
    | none => simp [Conv.bytesToString]; rfl
    | some a =>
      have := run_bytesToString (P := P) w a 0 c [] (by have := run_loadCells_list (P := P) w a [] (fun j v hj => by simp at hj); simpa using this)
      exact this
  · obtain ⟨ad, rfl, hb, hc⟩ := h.2 h0
    have hl := h.bytes
    have hload := run_loadCells_list (P := P) w ad (bcells l) hc
    rw [bcells_length, hl] at hload
    rw [run_bytesToString w ad n c (l.map fun x => (x.toNat : Int)) (by rw [hload]; simp [bcells]), foldl_bytes]
    simp [ByteArray.empty, ByteArray.emptyWithCapacity]
    rfl
theorem grown_drewN (w : World) (n : Nat) (row : Option Nat) : w.grownBy (w.drewN n) row := ⟨rfl, rfl, rfl, Nat.le_refl _, fun _ _ _ => rfl⟩
theorem grown_set (w : World) (R i : Nat) (u : Value) : w.grownBy (w.setCell ⟨R, i, none⟩ u) (some R) :=
  ⟨rfl, rfl, rfl, by simp, fun k _ hk => Below.heap_setCell w ⟨R, i, none⟩ u k (fun e => hk (by rw [e]))⟩
theorem grown_alloc (w : World) (o : Obj) (row : Option Nat) : w.grownBy (w.alloc o) row :=
  ⟨rfl, rfl, rfl, by simp, fun k hk _ => Below.heap_alloc w o k hk⟩
theorem grown_trans {w w1 w2 : World} {R : Option Nat} (h : w.grownBy w1 R) (h' : w1.grownBy w2 R) : w.grownBy w2 R :=
  ⟨h'.os.trans h.os, h'.tape.trans h.tape, h'.output.trans h.output, Nat.le_trans h.size h'.size, fun k hk hn => (h'.block k (Nat.lt_of_lt_of_le hk h.size) hn).trans (h.block k hk hn)⟩
abbrev five (w : World) (N : Nat) (u0 u1 u2 u3 u4 : Value) : World := ((((w.setCell ⟨N, 0, none⟩ u0).setCell ⟨N, 1, none⟩ u1).setCell ⟨N, 2, none⟩ u2).setCell ⟨N, 3, none⟩ u3).setCell ⟨N, 4, none⟩ u4
theorem Blk.five {w : World} {N : Nat} {t : TypeId} {a0 a1 a2 a3 a4 : Value} (h : Blk w N t #[a0, a1, a2, a3, a4]) (u0 u1 u2 u3 u4 : Value) : Blk (five w N u0 u1 u2 u3 u4) N t #[u0, u1, u2, u3, u4] := by
  simpa using ((((h.set_ 0 u0).set_ 1 u1).set_ 2 u2).set_ 3 u3).set_ 4 u4
theorem Blk.five_far {w : World} {g N : Nat} {t : TypeId} {cs : Array Value} (h : Blk w g t cs) (hne : g ≠ N) (u0 u1 u2 u3 u4 : Value) : Blk (Go.Rep.five w N u0 u1 u2 u3 u4) g t cs :=
  ((((h.far (p := ⟨N, 0, none⟩) hne u0).far (p := ⟨N, 1, none⟩) hne u1).far (p := ⟨N, 2, none⟩) hne u2).far (p := ⟨N, 3, none⟩) hne u3).far (p := ⟨N, 4, none⟩) hne u4
theorem grown_five (w : World) (N : Nat) (u0 u1 u2 u3 u4 : Value) : w.grownBy (five w N u0 u1 u2 u3 u4) (some N) :=
  grown_trans (grown_trans (grown_trans (grown_trans (grown_set w N 0 u0) (grown_set _ N 1 u1)) (grown_set _ N 2 u2)) (grown_set _ N 3 u3)) (grown_set _ N 4 u4)
/-- The five cells, one by one. -/
theorem Blk.cells5 {w : World} {N : Nat} {t : TypeId} {a0 a1 a2 a3 a4 : Value} (h : Blk w N t #[a0, a1, a2, a3, a4]) :
    w.cell? ⟨N, 0, none⟩ = some a0 ∧ w.cell? ⟨N, 1, none⟩ = some a1 ∧ w.cell? ⟨N, 2, none⟩ = some a2 ∧ w.cell? ⟨N, 3, none⟩ = some a3 ∧ w.cell? ⟨N, 4, none⟩ = some a4 :=
  ⟨h.cell 0, h.cell 1, h.cell 2, h.cell 3, h.cell 4⟩
theorem own_base {w : World} {base : Nat} {e : TypeId} {size n j : Nat} {v : Value} {xs : List Value} (h : w.ownsRow base e size v n xs) (hj : v.ownBlock = some j) : base ≤ j := by
  rcases h.2 with ⟨rfl, _⟩ | ⟨g, cap, cur, rfl, hb, _⟩
  · simp [Value.ownBlock] at hj
  · have : g = j := by simpa [Value.ownBlock] using hj
    omega
/-- The cells of an operation that was laid anew. -/
theorem op_new (w1 : World) (o : TOp) (T : TypeId) : ∀ (j : Nat) (u : Value), o.cells[j]? = some u → (w1.alloc (.cells #[.int .i64 o.k, .string o.s, .int .i64 o.r, .int .i64 o.c, .int .i64 o.n] T)).cell? ((⟨w1.heap.size, 0, none⟩ : Addr).add j) = some u := by
  intro j u hj
  have := (Blk.new w1 T #[.int .i64 o.k, .string o.s, .int .i64 o.r, .int .i64 o.c, .int .i64 o.n]).cell j
  rw [Addr.add_lit, Nat.zero_add, this]
  rw [← hj]
  show (o.cells.toArray)[j]? = _
  rw [List.getElem?_toArray]
theorem add_lit' (p : Addr) {j : Nat} (h : 0 < j) : p.add j = ⟨p.block, p.off + j, none⟩ := by
  unfold Addr.add
  rw [if_neg (by omega)]
/-- An operation that is read. -/
theorem Reads.op {w : World} {B m k : Nat} {A : Option Addr} {xs : List TOp} (h : Reads w B 5 A m (opCells xs)) (hk : k < m) :
    ∃ ad o, A = some ad ∧ xs[k]? = some o ∧ w.cell? (ad.add (k * 5)) = some (.int .i64 o.k) ∧ w.cell? ⟨(ad.add (k * 5)).block, (ad.add (k * 5)).off + 1, none⟩ = some (.string o.s) ∧
      w.cell? ⟨(ad.add (k * 5)).block, (ad.add (k * 5)).off + 2, none⟩ = some (.int .i64 o.r) ∧ w.cell? ⟨(ad.add (k * 5)).block, (ad.add (k * 5)).off + 3, none⟩ = some (.int .i64 o.c) ∧ w.cell? ⟨(ad.add (k * 5)).block, (ad.add (k * 5)).off + 4, none⟩ = some (.int .i64 o.n) := by
  obtain ⟨ad, rfl, _, hc⟩ := h.2 (by omega)
  have hl : xs.length = m := by have := h.1; rw [opCells_length] at this; omega
  have hk' : k < xs.length := by omega
  have g : ∀ j u, j < 5 → (xs[k]).cells[j]? = some u → w.cell? (ad.add (k * 5 + j)) = some u := fun j u hj hu => hc _ u ((opCells_at xs k j hk' hj).trans hu)
  refine ⟨ad, xs[k], rfl, List.getElem?_eq_getElem hk', g 0 _ (by omega) rfl, ?_, ?_, ?_, ?_⟩
  · rw [← add_lit' _ (by omega), add_of_add]; exact g 1 _ (by omega) rfl
  · rw [← add_lit' _ (by omega), add_of_add]; exact g 2 _ (by omega) rfl
  · rw [← add_lit' _ (by omega), add_of_add]; exact g 3 _ (by omega) rfl
  · rw [← add_lit' _ (by omega), add_of_add]; exact g 4 _ (by omega) rfl
/-- What is owned, as a slice that reads. -/
theorem own_slice {w : World} {base : Nat} {e : TypeId} {size n : Nat} {v : Value} {xs : List Value} (h : w.ownsRow base e size v n xs) : ∃ A c, v = .slice A n c ∧ n ≤ c ∧ c ≤ maxLen ∧ Reads w w.heap.size size A n xs := by
  rcases h.2 with ⟨rfl, rfl⟩ | ⟨g, cap, cur, rfl, _, _, h1, h2, _⟩
  · exact ⟨none, 0, rfl, Nat.le_refl _, Nat.zero_le _, Reads.of_own h⟩
  · exact ⟨_, cap, rfl, h1, h2, Reads.of_own h⟩
/-- What was laid since does not count. -/
theorem grown_new {w w1 w2 : World} {R : Option Nat} {N : Nat} (h : w.grownBy w1 R) (h' : w1.grownBy w2 (some N)) (hN : w.heap.size ≤ N) : w.grownBy w2 R :=
  ⟨h'.os.trans h.os, h'.tape.trans h.tape, h'.output.trans h.output, Nat.le_trans h.size h'.size, fun k hk hn => (h'.block k (Nat.lt_of_lt_of_le hk h.size) (fun e => by cases e; omega)).trans (h.block k hk hn)⟩
end Go.Rep

namespace Go.Rep
open Go.RowKit
/-- What a store of a whole struct leaves. -/
structure Stored (w w' : World) (g : Nat) (t : TypeId) (cells : Array Value) : Prop where
  blk : Blk w' g t cells
  below : Below g w w'
  size : w'.heap.size = w.heap.size
  far : ∀ k, k ≠ g → w'.heap[k]? = w.heap[k]?
theorem stored_row {w : World} {g : Nat} {t : TypeId} {cur cells : Array Value} (hg : Blk w g t cur) : Stored w (w.setRow g cells) g t cells := by
  have far : ∀ k, k ≠ g → (w.setRow g cells).heap[k]? = w.heap[k]? := fun k hk => by
    simp only [World.setRow, Array.getElem?_modify]
    rw [if_neg (fun e => hk e.symm)]
  have size : (w.setRow g cells).heap.size = w.heap.size := by simp [World.setRow]
  exact ⟨setRow_heap w g cur cells t (0, 0) hg, ⟨rfl, rfl, rfl, by rw [size]; exact Nat.le_refl _, fun k hk => far k (by omega)⟩, size, far⟩
theorem wpList_store_blk {P : Program} {w : World} {ops : Array Oper} {rest : List Oper} {op : Oper} {a : Act} {Q : Exit → Act → World → Prop} (hgd : op.guard = none) (ty : TypeId) (x y : Operand) (ho : op.op = .store ty x y)
    (g : Nat) (cur cells : Array Value) (hx : a.eval x = .pointer (some ⟨g, 0, none⟩)) (hy : a.eval y = .agg cells) (hg : Blk w g ty cur) (hi : (P.info? ty).map (·.size) = some cells.size) (hs : cur.size = cells.size) (h1 : cells.all (·.oneCell') = true)
    (h : ∀ w', Stored w w' g ty cells → wpList P ops Q rest (a.put op.dst undef) w') : wpList P ops Q (op :: rest) a w :=
  wpList_plain hgd fun _ hK => wp_store_row ty x y ho g cells hx hy ty cur hg hi hs h1 (hK _ _ (h _ (stored_row hg)))
theorem wpList_on {P : Program} {w : World} {ops : Array Oper} {rest : List Oper} {o : Oper} {a : Act} {Q : Exit → Act → World → Prop} (hw : Region.wanted o (yielded ops a.tmps) = true) (h : ∀ K : Act → World → Prop, (∀ a w, wpList P ops Q rest a w → K a w) → o.wp P a w K Q) : wpList P ops Q (o :: rest) a w :=
  wpList_step fun K hK => by simp only [hw, if_true]; exact h K hK
theorem wpList_load_blk {P : Program} {w : World} {ops : Array Oper} {rest : List Oper} {o : Oper} {a : Act} {Q : Exit → Act → World → Prop} (ty : TypeId) (x : Operand) (ho : o.op = .load ty x) (hw : Region.wanted o (yielded ops a.tmps) = true)
    (g : Nat) (hx : a.eval x = .pointer (some ⟨g, 0, none⟩)) (cs : Array Value) (d : TypeDesc) (hg : Blk w g ty cs)
    (hu : P.underlying ty = some d) (hd : (match d with | .struct _ | .array _ _ => true | _ => false) = true) (hi : (P.info? ty).map (·.size) = some cs.size)
    (h : wpList P ops Q rest (a.put o.dst (.agg cs)) w) : wpList P ops Q (o :: rest) a w :=
  wpList_on hw fun _ hK => wp_load_row ty x ho g hx ty cs (0, 0) d hg hu hd hi (hK _ _ h)
end Go.Rep

namespace Go.Rep
open Go.RowKit
section
variable {P : Program} {w : World}
theorem run_storeVar_part (g o : Nat) (t ty : TypeId) (cur cells : Array Value) (hg : Blk w g t cur) (hi : (P.info? ty).map (·.size) = some cells.size)
    (hs : o + cells.size ≤ cur.size) (h1 : cells.all (·.oneCell') = true) :
    (storeVar ty ⟨g, o, none⟩ (.agg cells)).run P w = .ok () (w.setRow g (cur.toList.take o ++ cells.toList ++ cur.toList.drop (o + cells.size)).toArray) := by
  have := run_storeCells_at P g o t cells.toList 0 cur w hg (by simpa using hs) (fun v hv => (Array.all_eq_true_iff_forall_mem.1 h1) v (by simpa using hv))
  cases hq : P.info? ty with
  | none => simp [hq] at hi
  | some i =>
    have hs' : cells.size = i.size := by simp [hq] at hi; omega
    simp only [Nat.add_zero, Array.length_toList] at this
    simp [storeVar, sizeOf, typeInfo, hq, Value.cells, hs', this]
theorem wp_store_part {o : Oper} {a : Act} {K : Act → World → Prop} {Q : Exit → Act → World → Prop} (ty : TypeId) (x y : Operand) (ho : o.op = .store ty x y)
    (g off : Nat) (t : TypeId) (cur cells new : Array Value) (hx : a.eval x = .pointer (some ⟨g, off, none⟩)) (hy : a.eval y = .agg cells) (hg : Blk w g t cur) (hi : (P.info? ty).map (·.size) = some cells.size)
    (hs : off + cells.size ≤ cur.size) (h1 : cells.all (·.oneCell') = true) (hn : (cur.toList.take off ++ cells.toList ++ cur.toList.drop (off + cells.size)).toArray = new)
    (h : ∀ w', Stored w w' g t new → K (a.put o.dst undef) w') : o.wp P a w K Q := by
  unfold Oper.wp execOp
  simp only [ho, hx, hy, Instr.storeAt, Instr.sureAddr, Sem.run_bind, Sem.run_pure, Result.andThen_ok, run_storeVar_part g off t ty cur cells hg hi hs h1]
  rw [hn]
  exact h _ (stored_row hg)
theorem wpList_store_part {ops : Array Oper} {rest : List Oper} {o : Oper} {a : Act} {Q : Exit → Act → World → Prop} (hgd : o.guard = none) (ty : TypeId) (x y : Operand) (ho : o.op = .store ty x y)
    (g off : Nat) (t : TypeId) (cur cells new : Array Value) (hx : a.eval x = .pointer (some ⟨g, off, none⟩)) (hy : a.eval y = .agg cells) (hg : Blk w g t cur) (hi : (P.info? ty).map (·.size) = some cells.size)
    (hs : off + cells.size ≤ cur.size) (h1 : cells.all (·.oneCell') = true) (hn : (cur.toList.take off ++ cells.toList ++ cur.toList.drop (off + cells.size)).toArray = new)
    (h : ∀ w', Stored w w' g t new → wpList P ops Q rest (a.put o.dst undef) w') : wpList P ops Q (o :: rest) a w :=
  wpList_plain hgd fun _ hK => wp_store_part ty x y ho g off t cur cells new hx hy hg hi hs h1 hn fun w' hw => hK _ _ (h w' hw)
theorem step_store_part {ops : Array Oper} {o : Oper} {a : Act} {K : Act → World → Prop} {Q : Exit → Act → World → Prop} {E : Prop} (hgd : o.guard = none) (ty : TypeId) (x y : Operand) (ho : o.op = .store ty x y)
    (g off : Nat) (t : TypeId) (cur cells new : Array Value) (hx : a.eval x = .pointer (some ⟨g, off, none⟩)) (hy : a.eval y = .agg cells) (hg : Blk w g t cur) (hi : (P.info? ty).map (·.size) = some cells.size)
    (hs : off + cells.size ≤ cur.size) (h1 : cells.all (·.oneCell') = true) (hn : (cur.toList.take off ++ cells.toList ++ cur.toList.drop (off + cells.size)).toArray = new)
    (h : ∀ w', Stored w w' g t new → K (a.put o.dst undef) w') : if Region.wanted o (yielded ops a.tmps) = true then Oper.wp P o a w K Q else E := by
  rw [if_pos (by simp [Region.wanted, hgd])]
  exact wp_store_part ty x y ho g off t cur cells new hx hy hg hi hs h1 hn h
theorem run_loadVar_any (ty : TypeId) (p : Addr) (cs : Array Value) (d : TypeDesc) (hc : ∀ j v, cs.toList[j]? = some v → w.cell? (p.add j) = some v)
    (hu : P.underlying ty = some d) (hd : (match d with | .struct _ | .array _ _ => true | _ => false) = true) (hi : (P.info? ty).map (·.size) = some cs.size) :
    (loadVar ty p).run P w = .ok (.agg cs) w := by
  have hl : (loadCells p cs.toList.length).run P w = .ok cs.toList.toArray w := run_loadCells_list (P := P) w p cs.toList hc
  cases hq : P.info? ty with
  | none => simp [hq] at hi
  | some i =>
    have hs : i.size = cs.size := by simpa [hq] using hi
    have hagg : (isAgg ty).run P w = .ok true w := by
      unfold isAgg
      rw [Sem.run_bind, run_underlying hu w]
      cases d <;> simp_all
    simp only [Array.length_toList, Array.toArray_toList] at hl
    simp [loadVar, Sem.run_bind, hagg, sizeOf, typeInfo, hq, hs, hl]
theorem wp_load_any {o : Oper} {a : Act} {K : Act → World → Prop} {Q : Exit → Act → World → Prop} (ty : TypeId) (x : Operand) (ho : o.op = .load ty x)
    (p : Addr) (hx : a.eval x = .pointer (some p)) (cs : Array Value) (d : TypeDesc) (hc : ∀ j v, cs.toList[j]? = some v → w.cell? (p.add j) = some v)
    (hu : P.underlying ty = some d) (hd : (match d with | .struct _ | .array _ _ => true | _ => false) = true) (hi : (P.info? ty).map (·.size) = some cs.size)
    (h : K (a.put o.dst (.agg cs)) w) : o.wp P a w K Q := by
  unfold Oper.wp execOp
  simp only [ho, hx, Instr.loadAt, Instr.sureAddr, Sem.run_bind, Sem.run_pure, Result.andThen_ok, run_loadVar_any ty p cs d hc hu hd hi]
  exact h
theorem wpList_load_any {ops : Array Oper} {rest : List Oper} {o : Oper} {a : Act} {Q : Exit → Act → World → Prop} (ty : TypeId) (x : Operand) (ho : o.op = .load ty x) (hw : Region.wanted o (yielded ops a.tmps) = true)
    (p : Addr) (hx : a.eval x = .pointer (some p)) (cs : Array Value) (d : TypeDesc) (hc : ∀ j v, cs.toList[j]? = some v → w.cell? (p.add j) = some v)
    (hu : P.underlying ty = some d) (hd : (match d with | .struct _ | .array _ _ => true | _ => false) = true) (hi : (P.info? ty).map (·.size) = some cs.size)
    (h : wpList P ops Q rest (a.put o.dst (.agg cs)) w) : wpList P ops Q (o :: rest) a w :=
  wpList_on hw fun _ hK => wp_load_any ty x ho p hx cs d hc hu hd hi (hK _ _ h)
theorem step_load_any {ops : Array Oper} {o : Oper} {a : Act} {K : Act → World → Prop} {Q : Exit → Act → World → Prop} {E : Prop} (ty : TypeId) (x : Operand) (ho : o.op = .load ty x) (hw : Region.wanted o (yielded ops a.tmps) = true)
    (p : Addr) (hx : a.eval x = .pointer (some p)) (cs : Array Value) (d : TypeDesc) (hc : ∀ j v, cs.toList[j]? = some v → w.cell? (p.add j) = some v)
    (hu : P.underlying ty = some d) (hd : (match d with | .struct _ | .array _ _ => true | _ => false) = true) (hi : (P.info? ty).map (·.size) = some cs.size)
    (h : K (a.put o.dst (.agg cs)) w) : if Region.wanted o (yielded ops a.tmps) = true then Oper.wp P o a w K Q else E := by
  rw [if_pos hw]
  exact wp_load_any ty x ho p hx cs d hc hu hd hi h
theorem Blk.part {g o : Nat} {t : TypeId} {cur cs : Array Value} (hB : Blk w g t cur) (h : (cur.toList.drop o).take cs.size = cs.toList) : ∀ j v, cs.toList[j]? = some v → w.cell? ((⟨g, o, none⟩ : Addr).add j) = some v := by
  intro j v hv
  have e : (⟨g, o, none⟩ : Addr).add j = ⟨g, o + j, none⟩ := by unfold Addr.add; split <;> simp_all
  rw [e, hB.cell (o + j), ← hv, ← h]
  have hj : j < cs.size := by have := (List.getElem?_eq_some_iff.1 hv).1; simpa using this
  rw [List.getElem?_take, if_pos hj, List.getElem?_drop, Array.getElem?_toList]
theorem wpList_build_lit {ops : Array Oper} {rest : List Oper} {o : Oper} {a : Act} {Q : Exit → Act → World → Prop} (hg : o.guard = none) (t : TypeId) (parts : Array (Nat × Operand)) (ho : o.op = .build t parts) (cells : Array Value)
    (hb : P.built t (parts.map fun (i, x) => (i, a.eval x)).toList = some cells)
    (h : wpList P ops Q rest (a.put o.dst (.agg cells)) w) : wpList P ops Q (o :: rest) a w := by
  refine wpList_build hg t parts ho (by rw [hb]; rfl) ?_
  rw [hb]
  exact h
end
end Go.Rep

namespace Go.Rep
open Go.RowKit
/-- A color. -/
structure Col where
  (k i r g b : Int)
deriving DecidableEq
/-- A pen. -/
structure Pn where
  (f b : Col) (fl : Int)
deriving DecidableEq
/-- A cell. -/
structure Cl where
  (r m0 m1 m2 w : Int) (p : Pn)
deriving DecidableEq
abbrev Col.arr (c : Col) : Array Value := #[.int .i64 c.k, .int .u8 c.i, .int .u8 c.r, .int .u8 c.g, .int .u8 c.b]
abbrev Pn.arr (p : Pn) : Array Value := #[.int .i64 p.f.k, .int .u8 p.f.i, .int .u8 p.f.r, .int .u8 p.f.g, .int .u8 p.f.b, .int .i64 p.b.k, .int .u8 p.b.i, .int .u8 p.b.r, .int .u8 p.b.g, .int .u8 p.b.b, .int .u8 p.fl]
abbrev Cl.arr (c : Cl) : Array Value := #[.int .i32 c.r, .int .i32 c.m0, .int .i32 c.m1, .int .i32 c.m2, .int .i64 c.w, .int .i64 c.p.f.k, .int .u8 c.p.f.i, .int .u8 c.p.f.r, .int .u8 c.p.f.g, .int .u8 c.p.f.b, .int .i64 c.p.b.k, .int .u8 c.p.b.i, .int .u8 c.p.b.r, .int .u8 c.p.b.g, .int .u8 c.p.b.b, .int .u8 c.p.fl]
/-- The cells of cells. -/
def cvals (l : List Cl) : List Value := (l.map fun c => c.arr.toList).flatten
theorem cvals_nil : cvals [] = [] := rfl
theorem cvals_cons (c : Cl) (l : List Cl) : cvals (c :: l) = c.arr.toList ++ cvals l := rfl
theorem cvals_append (l m : List Cl) : cvals (l ++ m) = cvals l ++ cvals m := by simp [cvals]
theorem cvals_length (l : List Cl) : (cvals l).length = l.length * 16 := by
  induction l with
  | nil => rfl
  | cons c l ih => rw [cvals_cons, List.length_append, ih]; show 16 + l.length * 16 = (l.length + 1) * 16; omega
theorem cvals_drop (l : List Cl) (k : Nat) : (cvals l).drop (k * 16) = cvals (l.drop k) := by
  induction k generalizing l with
  | zero => rw [Nat.zero_mul]; rfl
  | succ k ih =>
    cases l with
    | nil => simp [cvals_nil]
    | cons c l =>
      rw [cvals_cons, show (k + 1) * 16 = 16 + k * 16 by omega, ← List.drop_drop]
      exact ih l
theorem cvals_take (l : List Cl) (k : Nat) : (cvals l).take (k * 16) = cvals (l.take k) := by
  induction k generalizing l with
  | zero => rw [Nat.zero_mul]; rfl
  | succ k ih =>
    cases l with
    | nil => simp [cvals_nil]
    | cons c l =>
      rw [cvals_cons, show (k + 1) * 16 = 16 + k * 16 by omega, List.take_append, List.take_of_length_le (Nat.le_add_right 16 _)]
      show c.arr.toList ++ (cvals l).take (16 + k * 16 - 16) = c.arr.toList ++ cvals (l.take k)
      rw [show 16 + k * 16 - 16 = k * 16 by omega, ih]
theorem cvals_at {l : List Cl} {j i : Nat} {v : Value} (h : j < l.length) (hv : (l[j]).arr.toList[i]? = some v) : (cvals l)[j * 16 + i]? = some v := by
  have hi : i < 16 := by
    rcases Nat.lt_or_ge i 16 with hi | hi
    · exact hi
    · rw [List.getElem?_eq_none hi] at hv; cases hv
  have e : (cvals l)[j * 16 + i]? = ((cvals l).drop (j * 16))[i]? := by rw [List.getElem?_drop]
  rw [e, cvals_drop, List.drop_eq_getElem_cons h, cvals_cons, List.getElem?_append_left hi, hv]
theorem cvals_one (l : List Cl) : ∀ u ∈ cvals l, u.oneCell' = true := by
  induction l with
  | nil => intro u hu; cases hu
  | cons c l ih =>
    intro u hu
    rw [cvals_cons, List.mem_append] at hu
    rcases hu with hu | hu
    · simp only [List.mem_cons, List.not_mem_nil, or_false] at hu
      rcases hu with rfl | rfl | rfl | rfl | rfl | rfl | rfl | rfl | rfl | rfl | rfl | rfl | rfl | rfl | rfl | rfl <;> rfl
    · exact ih u hu
section
variable {w w' : World} {B n : Nat} {A : Option Addr} {l : List Cl}
theorem Reads.len (h : Reads w B 16 A n (cvals l)) : l.length = n := by have := h.1; rw [cvals_length] at this; omega
/-- A cell that is read. -/
theorem Reads.cellOf {ad : Addr} (h : Reads w B 16 (some ad) n (cvals l)) {j : Nat} (hj : j < l.length) : ∀ i v, (l[j]).arr.toList[i]? = some v → w.cell? ((ad.add (j * 16)).add i) = some v := by
  intro i v hv
  have hn := h.len
  obtain ⟨ad', e, _, hc⟩ := h.2 (by omega)
  injection e with e
  subst e
  rw [add_of_add]
  exact hc _ v (cvals_at hj hv)
theorem Reads.some_ (h : Reads w B 16 A n (cvals l)) (hn : 0 < n) : ∃ ad, A = some ad := by
  obtain ⟨ad, e, _⟩ := h.2 hn
  exact ⟨ad, e⟩
end
/-- A line: where its cells lie, how many more there is room for, its cells, and whether it is soft. -/
structure Ln where
  (ad : Option Addr) (cap : Nat) (cs : List Cl) (soft : Bool)
abbrev Ln.arr (l : Ln) : Array Value := #[.slice l.ad l.cs.length l.cap, .bool l.soft]
/-- The headers of lines. -/
def hdrs (ls : List Ln) : List Value := (ls.map fun l => l.arr.toList).flatten
theorem hdrs_cons (l : Ln) (ls : List Ln) : hdrs (l :: ls) = l.arr.toList ++ hdrs ls := rfl
theorem hdrs_append (l m : List Ln) : hdrs (l ++ m) = hdrs l ++ hdrs m := by simp [hdrs]
theorem hdrs_length (ls : List Ln) : (hdrs ls).length = ls.length * 2 := by
  induction ls with
  | nil => rfl
  | cons c l ih => rw [hdrs_cons, List.length_append, ih]; show 2 + l.length * 2 = (l.length + 1) * 2; omega
theorem hdrs_at {ls : List Ln} {j i : Nat} {v : Value} (h : j < ls.length) (hv : (ls[j]).arr.toList[i]? = some v) : (hdrs ls)[j * 2 + i]? = some v := by
  induction ls generalizing j with
  | nil => cases h
  | cons c l ih =>
    have hi : i < 2 := by
      rcases Nat.lt_or_ge i 2 with hi | hi
      · exact hi
      · rw [List.getElem?_eq_none hi] at hv; cases hv
    rw [hdrs_cons]
    cases j with
    | zero => rw [Nat.zero_mul, Nat.zero_add, List.getElem?_append_left hi]; exact hv
    | succ j =>
      rw [show (j + 1) * 2 + i = 2 + (j * 2 + i) by omega, List.getElem?_append_right (by show 2 ≤ _; omega)]
      show (hdrs l)[2 + (j * 2 + i) - 2]? = _
      rw [show 2 + (j * 2 + i) - 2 = j * 2 + i by omega]
      exact ih (by simpa using h) hv
theorem hdrs_one (ls : List Ln) : ∀ u ∈ hdrs ls, u.oneCell' = true := by
  induction ls with
  | nil => intro u hu; cases hu
  | cons c l ih =>
    intro u hu
    rw [hdrs_cons, List.mem_append] at hu
    rcases hu with hu | hu
    · simp only [List.mem_cons, List.not_mem_nil, or_false] at hu
      rcases hu with rfl | rfl <;> rfl
    · exact ih u hu
/-- Lines that are read: all of them lie below B. -/
structure LinesR (w : World) (B : Nat) (A : Option Addr) (ls : List Ln) : Prop where
  hd : Reads w B 2 A ls.length (hdrs ls)
  row : ∀ l ∈ ls, Reads w B 16 l.ad l.cs.length (cvals l.cs) ∧ l.cs.length ≤ l.cap
section
variable {w w' : World} {B B' : Nat} {A : Option Addr} {ls : List Ln}
theorem LinesR.below (h : LinesR w B A ls) (hb : Below B w w') : LinesR w' B A ls := ⟨h.hd.below hb, fun l hl => ⟨(h.row l hl).1.below hb, (h.row l hl).2⟩⟩
theorem LinesR.drew (h : LinesR w B A ls) : LinesR w.drew B A ls := ⟨h.hd.drew, fun l hl => ⟨(h.row l hl).1.drew, (h.row l hl).2⟩⟩
theorem LinesR.more (h : LinesR w B A ls) (hB : B ≤ B') : LinesR w B' A ls := ⟨h.hd.more hB, fun l hl => ⟨(h.row l hl).1.more hB, (h.row l hl).2⟩⟩
/-- The header of a line. -/
theorem LinesR.at_ (h : LinesR w B A ls) {k : Nat} (hk : k < ls.length) : ∃ ad, A = some ad ∧ (ad.add (k * 2)).block < B ∧ w.cell? (ad.add (k * 2)) = some (.slice (ls[k]).ad (ls[k]).cs.length (ls[k]).cap) ∧ w.cell? ⟨(ad.add (k * 2)).block, (ad.add (k * 2)).off + 1, none⟩ = some (.bool (ls[k]).soft) := by
  obtain ⟨ad, rfl, hb, hc⟩ := h.hd.2 (by omega)
  refine ⟨ad, rfl, by rw [block_of_add]; exact hb, ?_, ?_⟩
  · exact hc (k * 2) _ (hdrs_at (i := 0) hk rfl)
  · rw [← add_lit' _ (by omega), add_of_add]
    exact hc (k * 2 + 1) _ (hdrs_at (i := 1) hk rfl)
theorem LinesR.hdr (h : LinesR w B A ls) {k : Nat} (hk : k < ls.length) {ad : Addr} (e : A = some ad) : ∀ i v, (ls[k]).arr.toList[i]? = some v → w.cell? ((ad.add (k * 2)).add i) = some v := by
  intro i v hv
  obtain ⟨ad', e', _, hc⟩ := h.hd.2 (by omega)
  rw [e] at e'
  injection e' with e'
  subst e'
  rw [add_of_add]
  exact hc _ v (hdrs_at hk hv)
theorem LinesR.cells (h : LinesR w B A ls) {k : Nat} (hk : k < ls.length) : Reads w B 16 (ls[k]).ad (ls[k]).cs.length (cvals (ls[k]).cs) := (h.row _ (List.getElem_mem hk)).1
end
end Go.Rep

namespace Go.Proofs
open Go.RowKit Go.Rep
set_option maxRecDepth 100000
/-- The runes of no column. -/
def marksT : List (Int × Int) := [(768, 879), (1155, 1161), (1425, 1469), (1552, 1562), (1611, 1631), (1750, 1756), (3633, 3633), (3636, 3642), (3655, 3662), (6832, 6911), (7616, 7679), (8203, 8207), (8400, 8447), (12330, 12335), (12441, 12442), (65024, 65039), (65056, 65071), (917760, 917999)]
/-- The runes of two columns. -/
def wideT : List (Int × Int) := [(4352, 4447), (9001, 9002), (11904, 12329), (12336, 12350), (12353, 12440), (12443, 13311), (13312, 19903), (19968, 42191), (43360, 43391), (44032, 55203), (63744, 64255), (65072, 65135), (65280, 65376), (65504, 65510), (127744, 128591), (128640, 128767), (129280, 129535), (131072, 196605), (196608, 262141)]
def tcells (l : List (Int × Int)) : List Value := (l.map fun x => [Value.int .i32 x.1, .int .i32 x.2]).flatten
def cmpI (a b r : Int) : Int := if b < r then -1 else if r < a then 1 else 0
def atT (T : List (Int × Int)) (i : Nat) : Int × Int := T.getD i (0, 0)
def bsT (T : List (Int × Int)) (r : Int) (i j : Nat) : Nat :=
  if i < j then if cmpI (atT T ((i + j) / 2)).1 (atT T ((i + j) / 2)).2 r < 0 then bsT T r ((i + j) / 2 + 1) j else bsT T r i ((i + j) / 2) else i
termination_by j - i
def inT (T : List (Int × Int)) (r : Int) : Bool := decide (bsT T r 0 T.length < T.length) && decide (cmpI (atT T (bsT T r 0 T.length)).1 (atT T (bsT T r 0 T.length)).2 r = 0)
/-- How many columns a rune has. -/
def wOf (r : Int) : Int := if r < 32 ∨ (127 ≤ r ∧ r < 160) ∨ (55296 ≤ r ∧ r ≤ 57343) ∨ 1114111 < r then -1 else if inT marksT r then 0 else if inT wideT r then 2 else 1
theorem tcells_length (l : List (Int × Int)) : (tcells l).length = l.length * 2 := by
  induction l with
  | nil => rfl
  | cons c l ih =>
    show ([Value.int .i32 c.1, .int .i32 c.2] ++ tcells l).length = (l.length + 1) * 2
    rw [List.length_append, ih]
    show 2 + l.length * 2 = _
    omega
theorem tcells_at {l : List (Int × Int)} {j i : Nat} {v : Value} (h : j < l.length) (hv : ([Value.int .i32 (atT l j).1, .int .i32 (atT l j).2] : List Value)[i]? = some v) : (tcells l)[j * 2 + i]? = some v := by
  induction l generalizing j with
  | nil => cases h
  | cons c l ih =>
    have hi : i < 2 := by
      rcases Nat.lt_or_ge i 2 with hi | hi
      · exact hi
      · rw [List.getElem?_eq_none hi] at hv; cases hv
    show ([Value.int .i32 c.1, .int .i32 c.2] ++ tcells l)[j * 2 + i]? = some v
    cases j with
    | zero => rw [Nat.zero_mul, Nat.zero_add, List.getElem?_append_left hi]; exact hv
    | succ j =>
      rw [show (j + 1) * 2 + i = 2 + (j * 2 + i) by omega, List.getElem?_append_right (by show 2 ≤ _; omega)]
      show (tcells l)[2 + (j * 2 + i) - 2]? = _
      rw [show 2 + (j * 2 + i) - 2 = j * 2 + i by omega]
      exact ih (by simpa using h) hv
theorem Reads.pairOf {w : World} {B : Nat} {ad : Addr} {T : List (Int × Int)} (h : Reads w B 2 (some ad) T.length (tcells T)) {j : Nat} (hj : j < T.length) : ∀ i v, (#[Value.int .i32 (atT T j).1, .int .i32 (atT T j).2] : Array Value).toList[i]? = some v → w.cell? ((ad.add (j * 2)).add i) = some v := by
  intro i v hv
  obtain ⟨ad', e, _, hc⟩ := h.2 (by omega)
  injection e with e
  subst e
  rw [add_of_add]
  exact hc _ v (tcells_at hj hv)
end Go.Proofs

namespace Go.Rep
open Go.RowKit
/-- A struct that is built, its cells known: inside a region that draws. -/
theorem step_build_lit {P : Program} {w : World} {ops : Array Oper} {o : Oper} {a : Act} {K : Act → World → Prop} {Q : Exit → Act → World → Prop} {E : Prop} (hg : o.guard = none) (t : TypeId) (parts : Array (Nat × Operand)) (ho : o.op = .build t parts) (cells : Array Value)
    (hb : P.built t (parts.map fun (i, x) => (i, a.eval x)).toList = some cells)
    (h : K (a.put o.dst (.agg cells)) w) : if Region.wanted o (yielded ops a.tmps) = true then Oper.wp P o a w K Q else E := by
  rw [if_pos (by simp [Region.wanted, hg])]
  refine wp_build t parts ho (by rw [hb]; rfl) ?_
  rw [hb]
  exact h
/-- A store inside a region whose run was written out by 'simp': what it comes to, and a fact of the world that it leaves. -/
theorem upon_skip {P : Program} {o : Oper} {a : Act} {K : Act → World → Prop} {Q : Exit → Act → World → Prop} {r : Result Next} {S : World → Prop} (w : World) (hr : r = .ok .skip w) (hS : S w) (h : ∀ w', S w' → K (a.put o.dst undef) w') : Oper.upon P o a K Q r := by
  subst hr
  exact h w hS
end Go.Rep

namespace Go.Rep
open Go.RowKit
/-- An event of a record. -/
structure Ev where
  at' : Int
  o : TOp
def Ev.cells (e : Ev) : List Value := .int .i64 e.at' :: e.o.cells
def evCells (l : List Ev) : List Value := l.flatMap Ev.cells
theorem evCells_length (x : List Ev) : (evCells x).length = x.length * 6 := by
  induction x with
  | nil => rfl
  | cons a t ih => unfold evCells at ih ⊢; rw [List.flatMap_cons, List.length_append, ih]; simp [Ev.cells, TOp.cells]; omega
theorem evCells_snoc (x : List Ev) (o : Ev) : evCells (x ++ [o]) = evCells x ++ o.cells := by simp [evCells]
theorem evCells_at (x : List Ev) (i j : Nat) (hi : i < x.length) (hj : j < 6) : (evCells x)[i * 6 + j]? = (x[i]).cells[j]? := by
  induction x generalizing i with
  | nil => simp at hi
  | cons a t ih =>
    have e : evCells (a :: t) = a.cells ++ evCells t := by simp [evCells]
    rw [e]
    cases i with
    | zero =>
      rw [List.getElem?_append_left (by simp [Ev.cells, TOp.cells]; omega)]
      simp
    | succ i =>
      have hi' : i < t.length := by simpa using hi
      rw [List.getElem?_append_right (by simp [Ev.cells, TOp.cells]; omega)]
      have e2 : (i + 1) * 6 + j - a.cells.length = i * 6 + j := by simp [Ev.cells, TOp.cells]; omega
      rw [e2, ih i hi']
      rfl
/-- An event that is read. -/
theorem Reads.ev {w : World} {B m k : Nat} {A : Option Addr} {xs : List Ev} (h : Reads w B 6 A m (evCells xs)) (hk : k < m) :
    ∃ ad e, A = some ad ∧ xs[k]? = some e ∧ w.cell? (ad.add (k * 6)) = some (.int .i64 e.at') ∧ w.cell? ⟨(ad.add (k * 6)).block, (ad.add (k * 6)).off + 1, none⟩ = some (.int .i64 e.o.k) ∧
      w.cell? ⟨(ad.add (k * 6)).block, (ad.add (k * 6)).off + 2, none⟩ = some (.string e.o.s) ∧ w.cell? ⟨(ad.add (k * 6)).block, (ad.add (k * 6)).off + 3, none⟩ = some (.int .i64 e.o.r) ∧
      w.cell? ⟨(ad.add (k * 6)).block, (ad.add (k * 6)).off + 4, none⟩ = some (.int .i64 e.o.c) ∧ w.cell? ⟨(ad.add (k * 6)).block, (ad.add (k * 6)).off + 5, none⟩ = some (.int .i64 e.o.n) := by
  obtain ⟨ad, rfl, _, hc⟩ := h.2 (by omega)
  have hl : xs.length = m := by have := h.1; rw [evCells_length] at this; omega
  have hk' : k < xs.length := by omega
  have g : ∀ j u, j < 6 → (xs[k]).cells[j]? = some u → w.cell? (ad.add (k * 6 + j)) = some u := fun j u hj hu => hc _ u ((evCells_at xs k j hk' hj).trans hu)
  refine ⟨ad, xs[k], rfl, List.getElem?_eq_getElem hk', g 0 _ (by omega) rfl, ?_, ?_, ?_, ?_, ?_⟩
  · rw [← add_lit' _ (by omega), add_of_add]; exact g 1 _ (by omega) rfl
  · rw [← add_lit' _ (by omega), add_of_add]; exact g 2 _ (by omega) rfl
  · rw [← add_lit' _ (by omega), add_of_add]; exact g 3 _ (by omega) rfl
  · rw [← add_lit' _ (by omega), add_of_add]; exact g 4 _ (by omega) rfl
  · rw [← add_lit' _ (by omega), add_of_add]; exact g 5 _ (by omega) rfl
theorem Reads.evs {w : World} {B m : Nat} {A : Option Addr} {xs : List Ev} (h : Reads w B 6 A m (evCells xs)) : xs.length = m := by have := h.1; rw [evCells_length] at this; omega
def sizeB (r c : Int) : Bool := decide (1 ≤ r) && decide (r ≤ 1000) && decide (1 ≤ c) && decide (c ≤ 1000)
def okOp (o : TOp) : Bool :=
  (o.k == 1 && decide (1 ≤ (o.s.size : Int)) && decide ((o.s.size : Int) ≤ 4096) && o.r == 0 && o.c == 0 && o.n == 0) ||
  (o.k == 2 && o.s.toList.isEmpty && sizeB o.r o.c && o.n == 0) ||
  (o.k == 3 && o.s.toList.isEmpty && o.r == 0 && o.c == 0 && o.n != 0 && decide (-1048576 ≤ o.n) && decide (o.n ≤ 1048576))
def evsB (last : Int) : List Ev → Bool
  | [] => true
  | e :: t => decide (last ≤ e.at') && decide (e.at' ≤ 1099511627776) && okOp e.o && evsB e.at' t
def validB (r c h : Int) (l : List Ev) : Bool := sizeB r c && decide (0 ≤ h) && decide (h ≤ 1048576) && decide (l.length ≤ 2000) && evsB 0 l
theorem evsB_step {last : Int} {l : List Ev} {k : Nat} {e : Ev} (h : l[k]? = some e) : evsB last (l.drop k) = (decide (last ≤ e.at') && decide (e.at' ≤ 1099511627776) && okOp e.o && evsB e.at' (l.drop (k + 1))) := by
  have hk : k < l.length := (List.getElem?_eq_some_iff.1 h).1
  rw [List.drop_eq_getElem_cons hk]
  have e1 : l[k] = e := (List.getElem?_eq_some_iff.1 h).2
  rw [e1]
  rfl
/-- May an event that writes be joined to the last one? -/
def canJoin (z e : Ev) : Bool := z.o.k == 1 && z.at' == e.at' && decide ((z.o.s.size : Int) + e.o.s.size ≤ 4096)
def glue (z e : Ev) : Ev := ⟨z.at', ⟨z.o.k, z.o.s ++ e.o.s, z.o.r, z.o.c, z.o.n⟩⟩
def joinStep (acc : List Ev) (e : Ev) : List Ev := match acc.getLast? with
  | none => acc ++ [e]
  | some z => if e.o.k == 1 && canJoin z e then acc.dropLast ++ [glue z e] else acc ++ [e]
/-- The first k events, joined. -/
def joinTo (l : List Ev) (k : Nat) : List Ev := (l.take k).foldl joinStep []
theorem joinTo_succ {l : List Ev} {k : Nat} {e : Ev} (h : l[k]? = some e) : joinTo l (k + 1) = joinStep (joinTo l k) e := by
  have hk : k < l.length := (List.getElem?_eq_some_iff.1 h).1
  unfold joinTo
  rw [List.take_succ_eq_append_getElem hk, List.foldl_append, (List.getElem?_eq_some_iff.1 h).2]
  rfl
theorem joinStep_nil (e : Ev) : joinStep [] e = [e] := rfl
theorem joinStep_other {xs : List Ev} {e : Ev} (h : ¬ e.o.k = 1) : joinStep xs e = xs ++ [e] := by
  unfold joinStep
  have : (e.o.k == 1) = false := by simpa using h
  cases xs.getLast? with
  | none => rfl
  | some z => simp [this]
theorem joinStep_no {zs : List Ev} {z e : Ev} (h : canJoin z e = false) : joinStep (zs ++ [z]) e = zs ++ [z] ++ [e] := by
  unfold joinStep
  simp [h]
theorem joinStep_yes {zs : List Ev} {z e : Ev} (hk : e.o.k = 1) (h : canJoin z e = true) : joinStep (zs ++ [z]) e = zs ++ [glue z e] := by
  unfold joinStep
  simp [h, hk]
theorem joinStep_length (xs : List Ev) (e : Ev) : (joinStep xs e).length ≤ xs.length + 1 := by
  unfold joinStep
  cases xs.getLast? with
  | none => simp
  | some z =>
    simp only []
    split <;> simp <;> omega
theorem evCells_glue (zs : List Ev) (z e : Ev) : (evCells (zs ++ [z])).set (zs.length * 6 + 2) (.string (z.o.s ++ e.o.s)) = evCells (zs ++ [glue z e]) := by
  rw [evCells_snoc, evCells_snoc, List.set_append_right _ _ (by rw [evCells_length]; omega), evCells_length]
  have : zs.length * 6 + 2 - zs.length * 6 = 2 := by omega
  rw [this]
  rfl
theorem ev_cell (e : Ev) : ∀ u ∈ e.cells, u.oneCell' = true := by
  intro u hu
  simp only [Ev.cells, TOp.cells, List.mem_cons, List.not_mem_nil, or_false] at hu
  rcases hu with rfl | rfl | rfl | rfl | rfl | rfl <;> rfl
theorem ev_new (w1 : World) (e : Ev) (T : TypeId) : ∀ (j : Nat) (u : Value), e.cells[j]? = some u → (w1.alloc (.cells #[.int .i64 e.at', .int .i64 e.o.k, .string e.o.s, .int .i64 e.o.r, .int .i64 e.o.c, .int .i64 e.o.n] T)).cell? ((⟨w1.heap.size, 0, none⟩ : Addr).add j) = some u := by
  intro j u hj
  have := (Blk.new w1 T #[.int .i64 e.at', .int .i64 e.o.k, .string e.o.s, .int .i64 e.o.r, .int .i64 e.o.c, .int .i64 e.o.n]).cell j
  rw [Addr.add_lit, Nat.zero_add, this]
  rw [← hj]
  show (e.cells.toArray)[j]? = _
  rw [List.getElem?_toArray]
theorem own_drewN {w : World} {base size n : Nat} {e : TypeId} {v : Value} {xs : List Value} (h : w.ownsRow base e size v n xs) (k : Nat) : (w.drewN k).ownsRow base e size v n xs := h
theorem own_far {w : World} {base size n X i : Nat} {e : TypeId} {v u : Value} {xs : List Value} (h : w.ownsRow base e size v n xs) (hX : X < base) : (w.setCell ⟨X, i, none⟩ u).ownsRow base e size v n xs :=
  h.kept (grown_set w X i u) (.inr fun e => by have := own_base h e; omega)
end Go.Rep

namespace Go.Rep
open Go.RowKit
theorem below_drewN {B : Nat} {a w : World} (h : Below B a w) (k : Nat) : Below B a (w.drewN k) := ⟨h.os, h.tape, h.output, h.size, h.block⟩
theorem okOp_small {o : TOp} (h : okOp o = true) : o.s.size ≤ 4096 := by
  unfold okOp at h
  simp only [Bool.or_eq_true, Bool.and_eq_true, decide_eq_true_eq] at h
  have he : o.s.toList.isEmpty = true → o.s.size ≤ 4096 := fun h => by
    have : o.s.size = 0 := by
      have h1 := List.isEmpty_iff.1 h
      rw [Go.Lib.toList_data] at h1
      show o.s.data.size = 0
      rw [← Array.length_toList, h1]
      rfl
    omega
  rcases h with (h | h) | h
  · omega
  · exact he h.1.1.2
  · exact he h.1.1.1.1.1.2
theorem evsB_small {last : Int} {l : List Ev} (h : evsB last l = true) : ∀ e ∈ l, e.o.s.size ≤ 4096 := by
  induction l generalizing last with
  | nil => simp
  | cons a t ih =>
    simp only [evsB, Bool.and_eq_true] at h
    intro e he
    rcases List.mem_cons.1 he with rfl | he
    · exact okOp_small h.1.2
    · exact ih h.2 e he
theorem joinStep_small {acc : List Ev} {e : Ev} (ha : ∀ z ∈ acc, z.o.s.size ≤ 4096) (he : e.o.s.size ≤ 4096) : ∀ z ∈ joinStep acc e, z.o.s.size ≤ 4096 := by
  have hs : ∀ z ∈ acc ++ [e], z.o.s.size ≤ 4096 := fun z hz => by
    rcases List.mem_append.1 hz with hz | hz
    · exact ha z hz
    · rw [List.mem_singleton.1 hz]
      exact he
  unfold joinStep
  cases acc.getLast? with
  | none => exact hs
  | some y =>
    simp only []
    split
    · rename_i hc
      simp only [canJoin, Bool.and_eq_true, decide_eq_true_eq] at hc
      intro z hz
      rcases List.mem_append.1 hz with hz | hz
      · exact ha z (List.dropLast_subset _ hz)
      · rw [List.mem_singleton.1 hz]
        show (y.o.s ++ e.o.s).size ≤ 4096
        rw [ByteArray.size_append]
        omega
    · exact hs
theorem foldJoin_small {l acc : List Ev} (ha : ∀ z ∈ acc, z.o.s.size ≤ 4096) (hl : ∀ e ∈ l, e.o.s.size ≤ 4096) : ∀ z ∈ l.foldl joinStep acc, z.o.s.size ≤ 4096 := by
  induction l generalizing acc with
  | nil => exact ha
  | cons a t ih => exact ih (joinStep_small ha (hl a (by simp))) fun e he => hl e (by simp [he])
theorem joinTo_small {r c h : Int} {l : List Ev} (hv : validB r c h l = true) (k : Nat) : ∀ z ∈ joinTo l k, z.o.s.size ≤ 4096 := by
  have hl : ∀ e ∈ l, e.o.s.size ≤ 4096 := evsB_small (last := 0) (by
    unfold validB at hv
    simp only [Bool.and_eq_true] at hv
    exact hv.2)
  exact foldJoin_small (by simp) fun e he => hl e (List.take_subset _ _ he)
theorem valid_small {r c h : Int} {l : List Ev} (hv : validB r c h l = true) : ∀ e ∈ l, e.o.s.size ≤ 4096 := evsB_small (last := 0) (by
  unfold validB at hv
  simp only [Bool.and_eq_true] at hv
  exact hv.2)
end Go.Rep

namespace Go.Rep
open Go.RowKit
/-- A list of bytes as a string. -/
def S (l : List UInt8) : ByteArray := ⟨l.toArray⟩
theorem S_app (a b : List UInt8) : S a ++ S b = S (a ++ b) := by
  apply ByteArray.ext
  simp [S]
theorem S_size (a : List UInt8) : (S a).size = a.length := by simp [S, ByteArray.size]
theorem S_list (a : List UInt8) : (S a).data.toList = a := by simp [S]
theorem S_of (s : ByteArray) : S s.data.toList = s := by
  apply ByteArray.ext
  simp [S]
theorem S_inj {a b : List UInt8} (h : S a = S b) : a = b := by
  have := congrArg (fun s : ByteArray => s.data.toList) h
  simpa [S] using this
/-- Two strings one behind the other, and that there is room. -/
theorem cat (a b : List UInt8) (x y : ByteArray) (m n ka kb k : Nat) (hx : x = S a) (hy : y = S b) (hm : x.size = m) (hn : y.size = n) (ha : a.length ≤ ka) (hb : b.length ≤ kb) (hk : ka + kb = k) (h : k ≤ 1000000000) :
    ∃ s z, Hid (s = a ++ b) ∧ s.length ≤ k ∧ x ++ y = S s ∧ ¬ 9223372036854775807 < m + n ∧ (S s).size = z := by
  subst hx hy hm hn hk
  exact ⟨_, _, Lib.hid rfl, by simp; omega, S_app a b, by rw [S_size, S_size]; omega, rfl⟩
theorem sized (l : List UInt8) : ∃ z, (S l).size = z := ⟨_, rfl⟩
/-- A hexadecimal digit. -/
def hexd (n : Nat) : UInt8 := UInt8.ofNat (if n < 10 then 48 + n else 87 + n)
def hex2 (c : UInt8) : List UInt8 := [hexd (c.toNat / 16), hexd (c.toNat % 16)]
def hexl (l : List UInt8) : List UInt8 := l.flatMap hex2
theorem hexl_length (l : List UInt8) : (hexl l).length = 2 * l.length := by
  induction l with
  | nil => rfl
  | cons a t ih => unfold hexl at ih ⊢; rw [List.flatMap_cons, List.length_append, ih]; simp [hex2]; omega
theorem hexl_take {l : List UInt8} {k : Nat} {c : UInt8} (h : l[k]? = some c) : hexl (l.take (k + 1)) = hexl (l.take k) ++ hex2 c := by
  have hk : k < l.length := (List.getElem?_eq_some_iff.1 h).1
  rw [List.take_succ_eq_append_getElem hk, (List.getElem?_eq_some_iff.1 h).2]
  simp [hexl]
/-- A number behind a space. -/
def numL (n : Int) : List UInt8 := 32 :: Lib.itoa n
def numsL (l : List Int) : List UInt8 := l.flatMap numL
def bodyL (o : TOp) : List UInt8 :=
  if o.k = 1 then [32, 119, 114, 105, 116, 101, 32] ++ hexl o.s.data.toList
  else if o.k = 2 then [32, 114, 101, 115, 105, 122, 101] ++ numL o.r ++ numL o.c
  else [32, 115, 99, 114, 111, 108, 108] ++ numL o.n
def evL (last : Int) (e : Ev) : List UInt8 := Lib.itoa (e.at' - last) ++ bodyL e.o ++ [10]
def evsL (last : Int) : List Ev → List UInt8
  | [] => []
  | e :: t => evL last e ++ evsL e.at' t
def headL (r c h : Int) : List UInt8 := [116, 101, 114, 109, 105, 110, 97, 108] ++ numL r ++ numL c ++ numL h ++ [10]
def textL (r c h : Int) (l : List Ev) : List UInt8 := headL r c h ++ evsL 0 l
def lastOf (last : Int) : List Ev → Int
  | [] => last
  | e :: t => lastOf e.at' t
theorem evsL_append (last : Int) (a b : List Ev) : evsL last (a ++ b) = evsL last a ++ evsL (lastOf last a) b := by
  induction a generalizing last with
  | nil => rfl
  | cons e t ih => simp [evsL, lastOf, ih]
theorem lastOf_append (last : Int) (a b : List Ev) : lastOf last (a ++ b) = lastOf (lastOf last a) b := by
  induction a generalizing last with
  | nil => rfl
  | cons e t ih => simp [lastOf, ih]
theorem itoa_len (n : Int) (h0 : -9223372036854775808 ≤ n) (h1 : n ≤ 9223372036854775807) : (Lib.itoa n).length ≤ 21 := Lib.itoa_length_le n h0 h1
theorem numL_len (n : Int) (h0 : -9223372036854775808 ≤ n) (h1 : n ≤ 9223372036854775807) : (numL n).length ≤ 22 := by have := itoa_len n h0 h1; simp [numL]; omega
theorem okOp_cases {o : TOp} (h : okOp o = true) :
    (o.k = 1 ∧ 1 ≤ o.s.size ∧ o.s.size ≤ 4096 ∧ o.r = 0 ∧ o.c = 0 ∧ o.n = 0) ∨ (o.k = 2 ∧ o.s = S [] ∧ 1 ≤ o.r ∧ o.r ≤ 1000 ∧ 1 ≤ o.c ∧ o.c ≤ 1000 ∧ o.n = 0) ∨
    (o.k = 3 ∧ o.s = S [] ∧ o.r = 0 ∧ o.c = 0 ∧ o.n ≠ 0 ∧ -1048576 ≤ o.n ∧ o.n ≤ 1048576) := by
  have he : o.s.toList.isEmpty = true → o.s = S [] := by
    intro h
    have h2 : o.s.toList = [] := by simpa using h
    have h3 : o.s.data.toList = [] := by rw [← Lib.toList_data]; exact h2
    rw [← S_of o.s, h3]
  simp only [okOp, sizeB, Bool.or_eq_true, Bool.and_eq_true, beq_iff_eq, decide_eq_true_eq, bne_iff_ne] at h
  rcases h with (⟨⟨⟨⟨⟨a, b⟩, c⟩, d⟩, e⟩, f⟩ | ⟨⟨⟨a, b⟩, ⟨⟨⟨c, d⟩, e⟩, f⟩⟩, g⟩) | ⟨⟨⟨⟨⟨⟨a, b⟩, c⟩, d⟩, e⟩, f⟩, g⟩
  · exact .inl ⟨a, by omega, by omega, d, e, f⟩
  · exact .inr (.inl ⟨a, he b, c, d, e, f, g⟩)
  · exact .inr (.inr ⟨a, he b, c, d, e, f, g⟩)
theorem bodyL_len {o : TOp} (h : okOp o = true) : (bodyL o).length ≤ 8210 := by
  rcases okOp_cases h with ⟨a, b, c, _⟩ | ⟨a, b, c, d, e, f, _⟩ | ⟨a, b, c, d, e, f, g⟩
  · have hs : o.s.data.toList.length = o.s.size := Array.length_toList
    unfold bodyL
    rw [if_pos a]
    simp only [List.length_append, hexl_length, List.length_cons, List.length_nil]
    omega
  · have h1 := numL_len o.r (by omega) (by omega)
    have h2 := numL_len o.c (by omega) (by omega)
    unfold bodyL
    rw [if_neg (by omega), if_pos a]
    simp only [List.length_append, List.length_cons, List.length_nil]
    omega
  · have h1 := numL_len o.n (by omega) (by omega)
    unfold bodyL
    rw [if_neg (by omega), if_neg (by omega)]
    simp only [List.length_append, List.length_cons, List.length_nil]
    omega
theorem evL_len {last : Int} {e : Ev} (h : okOp e.o = true) (h0 : -4611686018427387904 ≤ e.at' - last) (h1 : e.at' - last ≤ 4611686018427387904) : (evL last e).length ≤ 8240 := by
  have h2 := itoa_len (e.at' - last) (by omega) (by omega)
  have h3 := bodyL_len h
  simp only [evL, List.length_append, List.length_cons, List.length_nil]
  omega
theorem headL_len {r c h : Int} (h0 : -4611686018427387904 ≤ r) (h1 : r ≤ 4611686018427387904) (h2 : -4611686018427387904 ≤ c) (h3 : c ≤ 4611686018427387904) (h4 : -4611686018427387904 ≤ h) (h5 : h ≤ 4611686018427387904) : (headL r c h).length ≤ 80 := by
  have a1 := numL_len r (by omega) (by omega)
  have a2 := numL_len c (by omega) (by omega)
  have a3 := numL_len h (by omega) (by omega)
  simp only [headL, List.length_append, List.length_cons, List.length_nil]
  omega
theorem evsL_len {last : Int} {l : List Ev} (hl : evsB last l = true) (h0 : 0 ≤ last) (h1 : last ≤ 1099511627776) : (evsL last l).length ≤ 8240 * l.length := by
  induction l generalizing last with
  | nil => simp [evsL]
  | cons e t ih =>
    simp only [evsB, Bool.and_eq_true, decide_eq_true_eq] at hl
    obtain ⟨⟨⟨a, b⟩, c⟩, d⟩ := hl
    have := evL_len (last := last) c (by omega) (by omega)
    have h2 := ih d (by omega) (by omega)
    simp only [evsL, List.length_append, List.length_cons]
    omega
end Go.Rep

namespace Go.Rep
open Go.RowKit Go.ChangeShapes Go.WideShapes Go.Deep
section
variable {H : Type} {enc : TypeId × Value → H} {P : Program} {w : World} {base : Nat} {spare : Nat → Bool} {held : Bool}
theorem open_slice_fields {t e : TypeId} {fs : Array Field} {fuel : Nat} {cs : List Value} {x : DataW H × List MemPlace} (ht : P.underlying t = some (.slice e)) (he : P.underlying e = some (.struct fs))
    (hone : oneCellFields P fs = true) (hC : P.cellsOf e = fs.size) (h : DataW.trod enc P w base spare held fuel t cs = some x) :
    (cs = [.slice none 0 0] ∧ x = (.nil, [])) ∨
    ∃ (a : Addr) (len cap m : Nat) (D : Nat → DataW H) (Pl : Nat → List MemPlace), cs = [.slice (some a) len cap] ∧ base ≤ a.block ∧ len ≤ cap ∧ cap ≤ maxLen ∧ m = (if spare a.block then cap else len) ∧
      x = (.slice ((List.range len).map D) ((List.range (m - len)).map fun j => D (len + j)), MemPlace.row a (m * fs.size) ++ (List.range m).flatMap Pl) ∧
      ∀ i, i < m → ∃ (ys : List (DataW H × List MemPlace)) (n : Nat), D i = .agg (ys.map (·.1)) ∧ Pl i = ys.flatMap (·.2) ∧ ys.length = fs.size ∧
        ∀ (j : Nat) (f : Field), fs[j]? = some f → ∃ (v : Value) (y : DataW H × List MemPlace), w.cell? (a.add (i * fs.size + j)) = some v ∧ ys[j]? = some y ∧ DataW.trod enc P w base spare held n f.type [v] = some y := by
  rcases open_slice ht h with h0 | ⟨a, len, cap, m, n, D, Pl, hcs, hb, hl, hm, hmm, hx, hi⟩
  · exact .inl h0
  · refine .inr ⟨a, len, cap, m, D, Pl, hcs, hb, hl, hm, hmm, by rw [hC] at hx; exact hx, fun i him => ?_⟩
    obtain ⟨cs', hc, ht'⟩ := hi i him
    rw [hC] at hc
    obtain ⟨ys, n', hn', hy, hlen, hyl, hf⟩ := DataW.trod_struct he ht'
    obtain ⟨_, hcl, hat⟩ := World.cells?_some hc
    simp only [Prod.mk.injEq] at hy
    refine ⟨ys, n', hy.1, hy.2, hyl, fun j f hj => ?_⟩
    obtain ⟨ho, hk⟩ := hone_of hone j f hj
    have hjl : j < fs.size := (Array.getElem?_eq_some_iff.1 hj).1
    have hcell := hat j hjl
    have hv : cs'[j]? = some (cs'[j]'(by omega)) := List.getElem?_eq_getElem (by omega)
    have h1 := hf j f hj
    rw [ho, hk] at h1
    have hone' : (cs'.drop j).take 1 = [cs'[j]'(by omega)] := by
      rw [List.drop_eq_getElem_cons (by omega)]
      rfl
    rw [hone'] at h1
    have hys : ys[j]? = some (ys[j]'(by omega)) := List.getElem?_eq_getElem (by omega)
    refine ⟨_, _, ?_, hys, h1.trans hys⟩
    rw [← Go.Deep.add_add, hcell, hv]
end

section
variable {H : Type} {enc : TypeId × Value → H} {P : Program} {W : World} {base : Nat}
theorem block_lt {w : World} {a : Addr} {u : Value} (h : w.cell? a = some u) : a.block < w.heap.size := by
  rcases Nat.lt_or_ge a.block w.heap.size with h1 | h1
  · exact h1
  · simp [World.cell?, Array.getElem?_eq_none h1] at h
/-- An argument that is a slice of bytes. -/
theorem open_reads_bytes {t e : TypeId} {v : Value} {d : DataW H} {p : List MemPlace} {spare : Nat → Bool} (ht : P.underlying t = some (.slice e)) (he : P.underlying e = some (.int .u8)) (hc : P.cellsOf e = 1) (hval : Value.okWide P W .any base t v)
    (h : DataW.Trod enc P W 0 spare true t v d p) : ∃ A n c l, v = .slice A n c ∧ Reads W W.heap.size 1 A n (bcells l) ∧ n ≤ c ∧ c ≤ maxLen := by
  obtain ⟨a1, len, cap, rfl⟩ := okWide_slice ht hval
  obtain ⟨fuel, hf⟩ := h
  rcases open_ints ht he hc hf with ⟨hcs, _⟩ | ⟨a, len', cap', zs, hcs, _, hl, hm, hz, _, hcell, hwz⟩
  · simp [Value.cells] at hcs
    obtain ⟨rfl, rfl, rfl⟩ := hcs
    exact ⟨none, 0, 0, [], rfl, Reads.none_, Nat.le_refl _, Nat.zero_le _⟩
  · simp [Value.cells] at hcs
    obtain ⟨rfl, rfl, rfl⟩ := hcs
    have hzl : len ≤ zs.length := by rw [hz]; split <;> omega
    have hlen : ((zs.take len).map fun n => UInt8.ofNat n.toNat).length = len := by simp; omega
    refine ⟨some a, len, cap, (zs.take len).map fun n => UInt8.ofNat n.toNat, rfl, ⟨by rw [bcells_length, hlen]; omega, fun hn => ⟨a, rfl, ?_, fun j u hu => ?_⟩⟩, hl, hm⟩
    · have := block_lt (hcell 0 (by omega))
      rwa [block_of_add] at this
    · have hj : j < len := by
        have := (List.getElem?_eq_some_iff.1 hu).1
        rw [bcells_length, hlen] at this
        exact this
      have hjz : j < zs.length := by omega
      rw [hcell j hjz]
      have hr := bounds_u8 (hwz (zs[j]) (List.getElem_mem hjz))
      simp only [bcells, List.getElem?_map, List.getElem?_take, if_pos hj, List.getElem?_eq_getElem hjz, Option.map_some, Option.some.injEq] at hu
      rw [← hu, List.getD_eq_getElem?_getD, List.getElem?_eq_getElem hjz, Option.getD_some]
      congr 2
      obtain ⟨h1, h2⟩ := hr
      simp only [UInt8.toNat_ofNat']
      omega
/-- An argument that is a slice of structs of one-cell fields; of one of them, a string, something is asked. -/
theorem open_slice_strings {t e : TypeId} {fs : Array Field} {v : Value} {d : DataW H} {p : List MemPlace} {spare : Nat → Bool} (ht : P.underlying t = some (.slice e)) (he : P.underlying e = some (.struct fs)) (hone : oneCellFields P fs = true) (hC : P.cellsOf e = fs.size)
    (hval : Value.okWide P W .any base t v) (h : DataW.Trod enc P W 0 spare true t v d p) {j : Nat} {f : Field} (hj : fs[j]? = some f) (hf : P.underlying f.type = some .string) :
    ∃ A n c, v = .slice A n c ∧ n ≤ c ∧ c ≤ maxLen ∧ (0 < n → ∃ ad, A = some ad ∧ ad.block < W.heap.size) ∧ ∀ i, i < n → ∃ ad s, A = some ad ∧ W.cell? (ad.add (i * fs.size + j)) = some (.string s) ∧ s.size ≤ maxLen := by
  obtain ⟨a1, len, cap, rfl⟩ := okWide_slice ht hval
  obtain ⟨fuel, hfu⟩ := h
  rcases open_slice_fields ht he hone hC hfu with ⟨hcs, _⟩ | ⟨a, len', cap', m, D, Pl, hcs, _, hl, hm, hmm, _, hi⟩
  · simp [Value.cells] at hcs
    obtain ⟨rfl, rfl, rfl⟩ := hcs
    exact ⟨none, 0, 0, rfl, Nat.le_refl _, Nat.zero_le _, fun h => absurd h (by omega), fun i h => absurd h (by omega)⟩
  · simp [Value.cells] at hcs
    obtain ⟨rfl, rfl, rfl⟩ := hcs
    have hml : len ≤ m := by rw [hmm]; split <;> omega
    have get : ∀ i, i < len → ∃ s, W.cell? (a.add (i * fs.size + j)) = some (.string s) ∧ s.size ≤ maxLen := by
      intro i h
      obtain ⟨ys, n, _, _, _, hg⟩ := hi i (by omega)
      obtain ⟨v, y, h1, _, h3⟩ := hg j f hj
      obtain ⟨s, h4, _, h5⟩ := DataW.trod_string hf h3
      cases h4
      exact ⟨s, h1, h5⟩
    refine ⟨some a, len, cap, rfl, hl, hm, fun h0 => ⟨a, rfl, ?_⟩, fun i h => ?_⟩
    · obtain ⟨s, h1, _⟩ := get 0 h0
      have := block_lt h1
      rwa [block_of_add] at this
    · obtain ⟨s, h1, h2⟩ := get i h
      exact ⟨a, s, rfl, h1, h2⟩
end
end Go.Rep
