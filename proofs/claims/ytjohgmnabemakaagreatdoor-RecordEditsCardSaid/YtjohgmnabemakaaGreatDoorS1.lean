/- A part of the proof of RecordEdits. -/
import Derived.Test.YtjohgmnabemakaaGreatDoorQ4
import Derived.Maps.AppendAt
import Derived.Deep.RegionHeld3
import Derived.Deep.Light
import Derived.BigFrame
import Derived.Deep.CutBlock
namespace Go.Proofs.YtjohgmnabemakaaGreatDoor
open Go.RowKit Go.Rep
/-- Four records, each with a row of its own, and nothing in common. -/
structure Four (r c h : Int) (w0 : World) (X : Value) (G : Nat → Nat) (V : Nat → Value) (L : Nat → List Ev) (w : World) : Prop where
  bX : Blk w w0.heap.size 26 #[.int .i64 r, .int .i64 c, .int .i64 h, X]
  blk : ∀ i, i < 4 → Blk w (G i) 26 #[.int .i64 r, .int .i64 c, .int .i64 h, V i]
  row : ∀ i, i < 4 → w.ownsRow (w0.heap.size + 1) 35 6 (V i) (L i).length (evCells (L i))
  base : ∀ i, i < 4 → w0.heap.size + 1 ≤ G i
  gne : ∀ i j, i < 4 → j < 4 → i ≠ j → G i ≠ G j
  vne : ∀ i j, i < 4 → j < 4 → i ≠ j → (V i).ownBlock = none ∨ (V i).ownBlock ≠ (V j).ownBlock
  hb : Below w0.heap.size w0 w
/-- An event beside them. -/
structure FourY (r c h : Int) (w0 : World) (X : Value) (G : Nat → Nat) (V : Nat → Value) (L : Nat → List Ev) (gy : Nat) (e : Ev) (w : World) : Prop where
  four : Four r c h w0 X G V L w
  bY : Blk w gy 35 #[.int .i64 e.at', .int .i64 e.o.k, .string e.o.s, .int .i64 e.o.r, .int .i64 e.o.c, .int .i64 e.o.n]
  yne : ∀ i, i < 4 → (V i).ownBlock ≠ some gy
  ybase : w0.heap.size + 1 ≤ gy
theorem oneStep_length (xs : List Ev) (e : Ev) : (oneStep xs e).length ≤ xs.length + 1 := by
  unfold oneStep
  cases xs.getLast? with
  | none => simp
  | some z =>
    simp only []
    split <;> simp <;> omega
theorem oneTo_le {l : List Ev} : ∀ k, k ≤ l.length → (oneTo l k).length ≤ k := by
  intro k
  induction k with
  | zero => intro _; simp [oneTo]
  | succ k ih =>
    intro hk
    have he : l[k]? = some (l[k]'(by omega)) := List.getElem?_eq_getElem (by omega)
    rw [oneTo_succ he]
    have := oneStep_length (oneTo l k) (l[k]'(by omega))
    have := ih (by omega)
    omega
def upd {α : Type} (f : Nat → α) (i : Nat) (x : α) : Nat → α := fun j => if j = i then x else f j
theorem upd_same {α : Type} (f : Nat → α) (i : Nat) (x : α) : upd f i x i = x := by simp [upd]
theorem upd_ne {α : Type} (f : Nat → α) {i j : Nat} (x : α) (h : j ≠ i) : upd f i x j = f j := by simp [upd, h]
section
variable {r c h : Int} {w0 w w' : World} {X : Value} {G : Nat → Nat} {V : Nat → Value} {L : Nat → List Ev} {gy : Nat} {e : Ev}
theorem Four.size (H : Four r c h w0 X G V L w) : w0.heap.size ≤ w.heap.size := H.hb.size
theorem Four.vlt (H : Four r c h w0 X G V L w) {i : Nat} (hi : i < 4) {k : Nat} (hk : (V i).ownBlock = some k) : w0.heap.size + 1 ≤ k ∧ k < w.heap.size := (H.row i hi).lt k hk
theorem Four.gv (H : Four r c h w0 X G V L w) {i j : Nat} (hi : i < 4) (hj : j < 4) : (V j).ownBlock ≠ some (G i) := own_blk_ne (H.row j hj) (H.blk i hi) (by decide)
theorem Four.alloc (H : Four r c h w0 X G V L w) (o : Obj) : Four r c h w0 X G V L (w.alloc o) :=
  ⟨H.bX.alloc o, fun i hi => (H.blk i hi).alloc o, fun i hi => (H.row i hi).alloc o, H.base, H.gne, H.vne, H.hb.alloc H.size o⟩
theorem Four.drew (H : Four r c h w0 X G V L w) : Four r c h w0 X G V L w.drew :=
  ⟨H.bX, H.blk, H.row, H.base, H.gne, H.vne, H.hb.drew⟩
theorem Four.drewN (H : Four r c h w0 X G V L w) (n : Nat) : Four r c h w0 X G V L (w.drewN n) :=
  ⟨H.bX, H.blk, H.row, H.base, H.gne, H.vne, below_drewN H.hb n⟩
theorem FourY.drew (H : FourY r c h w0 X G V L gy e w) : FourY r c h w0 X G V L gy e w.drew := ⟨H.four.drew, H.bY, H.yne, H.ybase⟩
theorem FourY.drewN (H : FourY r c h w0 X G V L gy e w) (n : Nat) : FourY r c h w0 X G V L gy e (w.drewN n) := ⟨H.four.drewN n, H.bY, H.yne, H.ybase⟩
theorem FourY.alloc (H : FourY r c h w0 X G V L gy e w) (o : Obj) : FourY r c h w0 X G V L gy e (w.alloc o) := ⟨H.four.alloc o, H.bY.alloc o, H.yne, H.ybase⟩
theorem Four.new (H : Four r c h w0 X G V L w) (e : Ev) : FourY r c h w0 X G V L w.heap.size e (w.alloc (.cells #[.int .i64 e.at', .int .i64 e.o.k, .string e.o.s, .int .i64 e.o.r, .int .i64 e.o.c, .int .i64 e.o.n] 35)) := by
  have hlt := H.bX.lt
  refine ⟨H.alloc _, Blk.new w 35 _, fun i hi hk => ?_, by omega⟩
  have := (H.vlt hi hk).2
  omega
/-- A record's row has grown. -/
theorem Four.grown (H : Four r c h w0 X G V L w) {i : Nat} (hi : i < 4) {v : Value} {l' : List Ev} (hg : w.grownBy w' (V i).ownBlock) (hv : w'.ownsRow (w0.heap.size + 1) 35 6 v l'.length (evCells l'))
    (hn : v.ownBlock = (V i).ownBlock ∨ v.ownBlock = some w.heap.size) : Four r c h w0 X G (upd V i v) (upd L i l') (w'.setCell ⟨G i, 3, none⟩ v) := by
  have hX := H.bX.lt
  have hgi := H.base i hi
  have hgl := (H.blk i hi).lt
  have hvg : ∀ j, j < 4 → v.ownBlock ≠ some (G j) := by
    intro j hj hk
    rcases hn with hn | hn
    · exact H.gv hj hi (hn.symm.trans hk)
    · have := (H.blk j hj).lt
      rw [hn] at hk
      injection hk with hk
      omega
  have hvj : ∀ j, j < 4 → j ≠ i → (V j).ownBlock = none ∨ (V j).ownBlock ≠ v.ownBlock := by
    intro j hj hji
    rcases H.vne j i hj hi hji with hx | hx
    · exact .inl hx
    · rcases hn with hn | hn
      · exact .inr (by rw [hn]; exact hx)
      · refine .inr fun hk => ?_
        rw [hn] at hk
        have := (H.vlt hj hk).2
        omega
  refine ⟨?_, ?_, ?_, H.base, H.gne, ?_, ?_⟩
  · refine (H.bX.grown hg ?_).far (p := ⟨G i, 3, none⟩) (by show w0.heap.size ≠ G i; omega) _
    intro hk
    have := (H.vlt hi hk.symm).1
    omega
  · intro j hj
    have hb := (H.blk j hj).grown hg (fun hk => H.gv hj hi hk.symm)
    by_cases hji : j = i
    · subst hji
      rw [upd_same]
      exact hb.set_ 3 v
    · rw [upd_ne _ _ hji]
      exact hb.far (p := ⟨G i, 3, none⟩) (H.gne j i hj hi hji) _
  · intro j hj
    by_cases hji : j = i
    · subst hji
      rw [upd_same, upd_same]
      exact hv.kept (grown_set w' (G j) 3 v) (.inr (hvg j hj))
    · rw [upd_ne _ _ hji, upd_ne _ _ hji]
      exact ((H.row j hj).kept hg (H.vne j i hj hi hji)).kept (grown_set w' (G i) 3 v) (.inr (H.gv hi hj))
  · intro j k hj hk hjk
    by_cases hji : j = i
    · subst hji
      rw [upd_same, upd_ne _ _ (Ne.symm hjk)]
      rcases hvj k hk (Ne.symm hjk) with hx | hx
      · rw [hx]
        rcases hvv : v.ownBlock with _ | b
        · exact .inl rfl
        · exact .inr (by simp)
      · exact .inr (Ne.symm hx)
    · rw [upd_ne _ _ hji]
      by_cases hki : k = i
      · subst hki
        rw [upd_same]
        exact hvj j hj hji
      · rw [upd_ne _ _ hki]
        exact H.vne j k hj hk hjk
  · exact (H.hb.grown hg H.size (fun k hk => by have := (H.vlt hi hk).1; omega)).setCell (p := ⟨G i, 3, none⟩) (by show w0.heap.size ≤ G i; omega) _
theorem FourY.grown (H : FourY r c h w0 X G V L gy e w) {i : Nat} (hi : i < 4) {v : Value} {l' : List Ev} (hg : w.grownBy w' (V i).ownBlock) (hv : w'.ownsRow (w0.heap.size + 1) 35 6 v l'.length (evCells l'))
    (hn : v.ownBlock = (V i).ownBlock ∨ v.ownBlock = some w.heap.size) : FourY r c h w0 X G (upd V i v) (upd L i l') gy e (w'.setCell ⟨G i, 3, none⟩ v) := by
  have hgy := H.bY.lt
  refine ⟨H.four.grown hi hg hv hn, ?_, ?_, H.ybase⟩
  · refine (H.bY.grown hg (fun hk => H.yne i hi hk.symm)).far (p := ⟨G i, 3, none⟩) ?_ _
    exact Blk.ne_ H.bY (H.four.blk i hi) (by decide)
  · intro j hj hk
    by_cases hji : j = i
    · subst hji
      rw [upd_same] at hk
      rcases hn with hn | hn
      · exact H.yne j hj (hn.symm.trans hk)
      · rw [hn] at hk
        injection hk with hk
        omega
    · rw [upd_ne _ _ hji] at hk
      exact H.yne j hj hk
/-- A cell of a record's row is written. -/
theorem Four.cell (H : Four r c h w0 X G V L w) {i : Nat} (hi : i < 4) {g k : Nat} {u : Value} {l' : List Ev} (hg : (V i).ownBlock = some g)
    (hv : (w.setCell ⟨g, k, none⟩ u).ownsRow (w0.heap.size + 1) 35 6 (V i) l'.length (evCells l')) : Four r c h w0 X G V (upd L i l') (w.setCell ⟨g, k, none⟩ u) := by
  have hX := H.bX.lt
  have hgb := H.vlt hi hg
  refine ⟨H.bX.far (p := ⟨g, k, none⟩) (by show w0.heap.size ≠ g; omega) _, fun j hj => (H.blk j hj).far (p := ⟨g, k, none⟩) (fun hx => H.gv hj hi (hg.trans (congrArg some hx.symm))) _, ?_, H.base, H.gne, H.vne, H.hb.setCell (p := ⟨g, k, none⟩) (by show w0.heap.size ≤ g; omega) _⟩
  intro j hj
  by_cases hji : j = i
  · subst hji
    rw [upd_same]
    exact hv
  · rw [upd_ne _ _ hji]
    refine (H.row j hj).kept (grown_set w g k u) ?_
    rw [← hg]
    exact H.vne j i hj hi hji
theorem FourY.cell (H : FourY r c h w0 X G V L gy e w) {i : Nat} (hi : i < 4) {g k : Nat} {u : Value} {l' : List Ev} (hg : (V i).ownBlock = some g)
    (hv : (w.setCell ⟨g, k, none⟩ u).ownsRow (w0.heap.size + 1) 35 6 (V i) l'.length (evCells l')) : FourY r c h w0 X G V (upd L i l') gy e (w.setCell ⟨g, k, none⟩ u) :=
  ⟨H.four.cell hi hg hv, H.bY.far (p := ⟨g, k, none⟩) (fun hx => H.yne i hi (hg.trans (congrArg some hx.symm))) _, H.yne, H.ybase⟩
end
end Go.Proofs.YtjohgmnabemakaaGreatDoor

namespace Go.Proofs.YtjohgmnabemakaaGreatDoor
open Go.RowKit Go.Rep
set_option maxRecDepth 100000
abbrev rec0 (r c h : Int) : Array Value := #[.int .i64 r, .int .i64 c, .int .i64 h, .slice none 0 0]
def gs (g g1 g2 g3 : Nat) (i : Nat) : Nat := if i = 0 then g else if i = 1 then g1 else if i = 2 then g2 else g3
def vs (v : Value) (i : Nat) : Value := if i = 0 then v else .slice none 0 0
def ls (l : List Ev) (i : Nat) : List Ev := if i = 0 then l else []
def jn (xs : List Ev) (e : Ev) : Bool := match xs.getLast? with
  | none => false
  | some z => e.o.k == 1 && z.o.k == 1 && z.at' == e.at'
def okR (ti p : Int) : Bool := decide (1 ≤ ti) && decide (ti ≤ 1000) && decide (1 ≤ p) && decide (p ≤ 1000)
def longTo (ti p : Int) (l : List Ev) (k : Nat) : Bool := okR ti p && (l.take k).any (fun e => decide (1099511627776 < (fast ti p e).at'))
def speedK (ti p : Int) (l : List Ev) (k : Nat) : List Ev := if okR ti p then speedL ti p (l.take k) else []
/-- What the law cuts: its times wrap. -/
def shiftW (f : Int) (e : Ev) : Ev := ⟨wrap64 (e.at' - f), e.o⟩
def cutW (f t : Int) (l : List Ev) : List Ev := (l.filter (inCut f t)).map (shiftW f)
theorem cutW_succ {f t : Int} {l : List Ev} {k : Nat} {e : Ev} (h : l[k]? = some e) : cutW f t (l.take (k + 1)) = if inCut f t e then cutW f t (l.take k) ++ [shiftW f e] else cutW f t (l.take k) := by
  have hk : k < l.length := (List.getElem?_eq_some_iff.1 h).1
  unfold cutW
  rw [List.take_succ_eq_append_getElem hk, List.filter_append, List.map_append, (List.getElem?_eq_some_iff.1 h).2]
  by_cases hc : inCut f t e = true <;> simp [List.filter, hc]
theorem cutW_le {f t : Int} {l : List Ev} {k : Nat} : (cutW f t (l.take k)).length ≤ k := by
  unfold cutW
  rw [List.length_map]
  refine Nat.le_trans (List.length_filter_le _ _) ?_
  rw [List.length_take]
  omega
theorem speedK_le {ti p : Int} {l : List Ev} {k : Nat} : (speedK ti p l k).length ≤ k := by
  unfold speedK
  split
  · unfold speedL; rw [List.length_map, List.length_take]; omega
  · simp
theorem longTo_succ {ti p : Int} {l : List Ev} {k : Nat} {e : Ev} (h : l[k]? = some e) (ho : okR ti p = true) : longTo ti p l (k + 1) = (longTo ti p l k || decide (1099511627776 < e.at' * p / ti)) := by
  have hk : k < l.length := (List.getElem?_eq_some_iff.1 h).1
  unfold longTo
  rw [List.take_succ_eq_append_getElem hk, (List.getElem?_eq_some_iff.1 h).2, List.any_append, ho]
  first | (simp [fast]; done) | (simp [fast]; rfl) | (simp [fast]; congr)
theorem speedK_succ {ti p : Int} {l : List Ev} {k : Nat} {e : Ev} (h : l[k]? = some e) (ho : okR ti p = true) : speedK ti p l (k + 1) = speedK ti p l k ++ [fast ti p e] := by
  have hk : k < l.length := (List.getElem?_eq_some_iff.1 h).1
  unfold speedK
  rw [if_pos ho, if_pos ho, List.take_succ_eq_append_getElem hk, (List.getElem?_eq_some_iff.1 h).2]
  simp [speedL]
theorem okR_no {ti p : Int} {l : List Ev} (ho : okR ti p = false) (k k' : Nat) : longTo ti p l k = longTo ti p l k' ∧ speedK ti p l k = speedK ti p l k' := by
  simp [longTo, speedK, ho]
theorem small_all80 {l : List Ev} (h : smallB l = true) : ∀ e ∈ l, e.o.s.size ≤ 80 := by
  unfold smallB at h
  simp only [Bool.and_eq_true, List.all_eq_true, decide_eq_true_eq] at h
  exact h.2
theorem small80 {l : List Ev} (h : smallB l = true) (e : Ev) (he : e ∈ l) : e.o.s.size ≤ 80 := small_all80 h e he
theorem jn_snoc {zs : List Ev} {z e : Ev} (h : jn (zs ++ [z]) e = true) : e.o.k = 1 ∧ z.o.k = 1 ∧ z.at' = e.at' := by
  simp [jn] at h
  exact ⟨h.1.1, h.1.2, h.2⟩
theorem oneStep_jn {xs : List Ev} {e : Ev} (h : jn xs e = false) : oneStep xs e = xs ++ [e] := by
  unfold oneStep
  unfold jn at h
  cases hx : xs.getLast? with
  | none => rfl
  | some z =>
    rw [hx] at h
    simp only at h
    simp only [h]
    simp
/-- Pieces of a function's code. -/
def sq : Nat → Code → Code
  | 0, c => c
  | n + 1, .seq _ b => sq n b
  | _, c => c
def fs : Code → Code
  | .seq a _ => a
  | c => c
def sn : Code → Code
  | .seq _ b => b
  | c => c
def bodyOf (f : Func) : Code := match f.body with
  | some c => c
  | none => .skip
end Go.Proofs.YtjohgmnabemakaaGreatDoor

namespace Go.Proofs.YtjohgmnabemakaaGreatDoor
open Go.RowKit Go.Rep
set_option maxRecDepth 100000
/-- What stands behind the loop: five records, and what their rows read. -/
structure Fin4 (r c h : Int) (w0 : World) (A : Option Addr) (m cp g g1 g2 g3 : Nat) (A3 : Option Addr) (c3 : Nat) (A1 : Option Addr) (n1 c1 : Nat) (A2 : Option Addr) (n2 c2 : Nat) (A4 : Option Addr) (n4 c4 : Nat) (l L1 L2 L3 : List Ev) (N : Nat) (w : World) : Prop where
  bX : Blk w w0.heap.size 26 #[.int .i64 r, .int .i64 c, .int .i64 h, .slice A m cp]
  bO : Blk w g 26 #[.int .i64 r, .int .i64 c, .int .i64 h, .slice A3 m c3]
  b1 : Blk w g1 26 #[.int .i64 r, .int .i64 c, .int .i64 h, .slice A1 n1 c1]
  b2 : Blk w g2 26 #[.int .i64 r, .int .i64 c, .int .i64 h, .slice A2 n2 c2]
  b3 : Blk w g3 26 #[.int .i64 r, .int .i64 c, .int .i64 h, .slice A4 n4 c4]
  rX : Reads w N 6 A m (evCells l)
  rO : Reads w N 6 A3 m (evCells l)
  r1 : Reads w N 6 A1 n1 (evCells L1)
  r2 : Reads w N 6 A2 n2 (evCells L2)
  r3 : Reads w N 6 A4 n4 (evCells L3)
  hN : N ≤ w.heap.size
  hb : Below w0.heap.size w0 w
theorem Fin4.below {r c h : Int} {w0 : World} {A : Option Addr} {m cp g g1 g2 g3 : Nat} {A3 : Option Addr} {c3 : Nat} {A1 : Option Addr} {n1 c1 : Nat} {A2 : Option Addr} {n2 c2 : Nat} {A4 : Option Addr} {n4 c4 : Nat} {l L1 L2 L3 : List Ev} {N : Nat} {w w' : World} (H : Fin4 r c h w0 A m cp g g1 g2 g3 A3 c3 A1 n1 c1 A2 n2 c2 A4 n4 c4 l L1 L2 L3 N w) (hb : Below w.heap.size w w') : Fin4 r c h w0 A m cp g g1 g2 g3 A3 c3 A1 n1 c1 A2 n2 c2 A4 n4 c4 l L1 L2 L3 N w' :=
  ⟨H.bX.below hb H.bX.lt, H.bO.below hb H.bO.lt, H.b1.below hb H.b1.lt, H.b2.below hb H.b2.lt, H.b3.below hb H.b3.lt, H.rX.below (hb.mono H.hN), H.rO.below (hb.mono H.hN), H.r1.below (hb.mono H.hN), H.r2.below (hb.mono H.hN), H.r3.below (hb.mono H.hN), Nat.le_trans H.hN hb.size, H.hb.trans (hb.mono H.hb.size)⟩
theorem cutW_eq {f t : Int} {l : List Ev} (hv : evsB 0 l = true) (hf : 0 ≤ f) (hf2 : f ≤ 1099511627776) : cutW f t l = cutL f t l := by
  unfold cutW cutL
  refine List.map_congr_left fun e he => ?_
  have h := evsB_at hv e (List.mem_filter.1 he).1
  unfold shiftW shift
  rw [IntWalk.wrap64_in _ (by omega)]
theorem div_le {x y p t : Int} (h : x ≤ y) (hp : 1 ≤ p) (ht : 1 ≤ t) : x * p / t ≤ y * p / t :=
  Int.ediv_le_ediv (by omega) (Int.mul_le_mul_of_nonneg_right h (by omega))
theorem long_last {r c h ti p : Int} {l : List Ev} {m : Nat} (hv : validB r c h l = true) (hm : l.length = m) (ho : okR ti p = true) : longTo ti p l m = decide (1099511627776 < prevAt l m * p / ti) := by
  have hv' : evsB 0 l = true := by unfold validB at hv; simp only [Bool.and_eq_true] at hv; exact hv.2
  have ho' := ho
  simp only [okR, Bool.and_eq_true, decide_eq_true_eq] at ho'
  obtain ⟨⟨⟨o1, o2⟩, o3⟩, o4⟩ := ho'
  unfold longTo
  rw [ho, Bool.true_and, List.take_of_length_le (by omega)]
  rcases List.eq_nil_or_concat l with h0 | ⟨ys, z, h0⟩
  · subst h0
    have : m = 0 := by simpa using hm.symm
    subst this
    simp [prevAt]
  · have h1 : l = ys ++ [z] := by simpa using h0
    have hz : l.getLast? = some z := by rw [h1]; simp
    have hpr : prevAt l m = z.at' := by
      rw [← hm, h1]
      have : (ys ++ [z])[ys.length]? = some z := by simp
      have h2 := prevAt_succ this
      simpa using h2
    rw [hpr]
    by_cases hc : 1099511627776 < z.at' * p / ti
    · rw [decide_eq_true hc, List.any_eq_true]
      exact ⟨z, by rw [h1]; simp, by simp [fast, hc]⟩
    · rw [decide_eq_false hc, List.any_eq_false]
      intro e he
      have h3 := div_le (evsB_last hv' hz e he) o3 o1
      show ¬ (decide (1099511627776 < e.at' * p / ti) = true)
      rw [decide_eq_true_eq]
      omega
end Go.Proofs.YtjohgmnabemakaaGreatDoor
