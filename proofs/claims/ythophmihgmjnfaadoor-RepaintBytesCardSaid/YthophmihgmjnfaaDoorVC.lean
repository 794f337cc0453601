/- A part of the proof of RepaintBytes. -/
import Derived.Test.YthophmihgmjnfaaDoorVB
import Derived.Test.YthophmihgmjnfaaDoorGA
import Derived.Test.YthophmihgmjnfaaDoorGG
import Derived.Test.YthophmihgmjnfaaDoorP
import Derived.IntWalk
import Derived.Lib.SliceRun
set_option linter.unusedVariables false
set_option linter.unusedSimpArgs false
-- --
namespace Go.Proofs.YthophmihgmjnfaaDoor
open Go Go.RowKit Go.Rep Go.Sy
set_option maxRecDepth 100000
def cAt (l : List Cl) (i : Nat) : Cl := l.getD i ⟨0, 0, 0, 0, 0, ⟨⟨0, 0, 0, 0, 0⟩, ⟨0, 0, 0, 0, 0⟩, 0⟩⟩
theorem cAt_eq {l : List Cl} {i : Nat} (h : i < l.length) : l[i] = cAt l i := by unfold cAt; rw [List.getD_eq_getElem?_getD, List.getElem?_eq_getElem h]; rfl
theorem Reads.cAt_ {w : World} {B n : Nat} {ad : Addr} {l : List Cl} (h : Reads w B 16 (some ad) n (cvals l)) {j : Nat} (hj : j < l.length) : ∀ i v, (#[.int .i32 (cAt l j).r, .int .i32 (cAt l j).m0, .int .i32 (cAt l j).m1, .int .i32 (cAt l j).m2, .int .i64 (cAt l j).w, .int .i64 (cAt l j).p.f.k, .int .u8 (cAt l j).p.f.i, .int .u8 (cAt l j).p.f.r, .int .u8 (cAt l j).p.f.g, .int .u8 (cAt l j).p.f.b, .int .i64 (cAt l j).p.b.k, .int .u8 (cAt l j).p.b.i, .int .u8 (cAt l j).p.b.r, .int .u8 (cAt l j).p.b.g, .int .u8 (cAt l j).p.b.b, .int .u8 (cAt l j).p.fl] : Array Value).toList[i]? = some v → w.cell? ((ad.add (j * 16)).add i) = some v := by
  intro i v hv
  rw [← cAt_eq hj] at hv
  exact h.cellOf hj i v hv
theorem Reads.cOff {w : World} {B n : Nat} {ad : Addr} {l : List Cl} (h : Reads w B 16 (some ad) n (cvals l)) {j : Nat} (hj : j < l.length) (i : Nat) (hi : 0 < i) {v : Value} (hv : (#[.int .i32 (cAt l j).r, .int .i32 (cAt l j).m0, .int .i32 (cAt l j).m1, .int .i32 (cAt l j).m2, .int .i64 (cAt l j).w, .int .i64 (cAt l j).p.f.k, .int .u8 (cAt l j).p.f.i, .int .u8 (cAt l j).p.f.r, .int .u8 (cAt l j).p.f.g, .int .u8 (cAt l j).p.f.b, .int .i64 (cAt l j).p.b.k, .int .u8 (cAt l j).p.b.i, .int .u8 (cAt l j).p.b.r, .int .u8 (cAt l j).p.b.g, .int .u8 (cAt l j).p.b.b, .int .u8 (cAt l j).p.fl] : Array Value).toList[i]? = some v) : w.cell? ⟨(ad.add (j * 16)).block, (ad.add (j * 16)).off + i, none⟩ = some v := by
  rw [← add_lit' _ hi]
  exact Reads.cAt_ h hj i v hv
theorem Reads.penOff {w : World} {B n : Nat} {ad : Addr} {l : List Cl} (h : Reads w B 16 (some ad) n (cvals l)) {j : Nat} (hj : j < l.length) : ∀ i v, (#[.int .i64 (cAt l j).p.f.k, .int .u8 (cAt l j).p.f.i, .int .u8 (cAt l j).p.f.r, .int .u8 (cAt l j).p.f.g, .int .u8 (cAt l j).p.f.b, .int .i64 (cAt l j).p.b.k, .int .u8 (cAt l j).p.b.i, .int .u8 (cAt l j).p.b.r, .int .u8 (cAt l j).p.b.g, .int .u8 (cAt l j).p.b.b, .int .u8 (cAt l j).p.fl] : Array Value).toList[i]? = some v → w.cell? ((⟨(ad.add (j * 16)).block, (ad.add (j * 16)).off + 5, none⟩ : Addr).add i) = some v := by
  intro i v hv
  rw [← add_lit' _ (show 0 < 5 by decide), add_of_add]
  refine Reads.cAt_ h hj (5 + i) v ?_
  rw [Nat.add_comm]
  exact hv
theorem pick_op {l : List Oper} {i : Nat} {o : Oper} (h : l[i]? = some o) : (l.toArray)[i]? = some o := by simpa using h
def behindB (l : List Cl) (i : Nat) : Bool := decide (0 < i) && decide ((cAt l (i - 1)).w = 2)
def okAt (l : List Cl) (i : Nat) : Bool := validCl (cAt l i) && ((decide ((cAt l i).w = 0) == behindB l i) && (!(behindB l i && !decide ((cAt l i).p = (cAt l (i - 1)).p)) && !(decide ((cAt l i).w = 2) && decide (i + 1 = l.length))))
def rowUpTo (l : List Cl) : Nat → Bool
  | 0 => true
  | k + 1 => rowUpTo l k && okAt l k
def rowB (l : List Cl) : Bool := rowUpTo l l.length
theorem rowUpTo_bad {l : List Cl} {k n : Nat} (h : okAt l k = false) (hk : k < n) : rowUpTo l n = false := by
  induction n with
  | zero => omega
  | succ n ih =>
    show (rowUpTo l n && okAt l n) = false
    rcases Nat.lt_or_ge k n with h1 | h1
    · rw [ih h1, Bool.false_and]
    · obtain rfl : k = n := by omega
      rw [h, Bool.and_false]
theorem beval_ok (b : Bool) : (BE.ok b).val = b := by
  unfold BE.val BE.is
  cases b <;> simp
theorem pen_equal (a b : Pn) (w : World) : (Op.equal 44 (.agg a.arr) (.agg b.arr)).run Tryd.prog w = .ok (decide (a = b)) w := by
  have h := pen_eql a b w
  simp only [binOp, Sem.run_bind] at h
  cases hx : (Op.equal 44 (.agg a.arr) (.agg b.arr)).run Tryd.prog w with
  | ok v w' =>
    rw [hx] at h
    simp [Sem.run_pure, Result.andThen] at h
    obtain ⟨h1, h2⟩ := h
    rw [h1, h2]
  | _ => rw [hx] at h; simp [Result.andThen] at h
theorem runs_pure {P : Program} {f : FuncId} {args : Array Value} {w : World} {v : Value} {R : Ending → World → Prop} (h : Calls P f args w fun e w' => e = .returned v ∧ Below w.heap.size w w') (hR : ∀ w', Below w.heap.size w w' → R (.returned v) w') : Runs P f args w R :=
  ⟨h.mono fun _ w' ⟨he, hb⟩ => by subst he; exact hR w' hb⟩
theorem kept_of {lo : Nat} {F : Nat → Prop} {bs : List Nat} {w w' : World} (h : Below w.heap.size w w') : Kept lo F bs w w' := (Below.keeps h Nix).nix
theorem pen_at {w : World} {B n : Nat} {ad : Addr} {l : List Cl} (h : Reads w B 16 (some ad) n (cvals l)) {k : Nat} (hk : k < l.length) (i : Int) (hi : i = k) :
    At w ad (Int.toNat i * 16 + 5) [.int .i64 (cAt l k).p.f.k, .int .u8 (cAt l k).p.f.i, .int .u8 (cAt l k).p.f.r, .int .u8 (cAt l k).p.f.g, .int .u8 (cAt l k).p.f.b, .int .i64 (cAt l k).p.b.k, .int .u8 (cAt l k).p.b.i, .int .u8 (cAt l k).p.b.r, .int .u8 (cAt l k).p.b.g, .int .u8 (cAt l k).p.b.b, .int .u8 (cAt l k).p.fl] := by
  subst hi
  have hn := h.len
  obtain ⟨ad', e, _, hc⟩ := h.2 (by omega)
  injection e with e
  subst e
  intro i v hv
  have e : Int.toNat (k : Int) * 16 + 5 + i = k * 16 + (5 + i) := by rw [Int.toNat_natCast]; omega
  rw [e]
  refine hc _ v (cvals_at hk ?_)
  have : cAt l k = l[k] := by unfold cAt; simp [List.getElem?_eq_getElem hk]
  rw [← this]
  show ([Value.int .i32 (cAt l k).r, .int .i32 (cAt l k).m0, .int .i32 (cAt l k).m1, .int .i32 (cAt l k).m2, .int .i64 (cAt l k).w] ++ _)[5 + i]? = _
  rw [List.getElem?_append_right (by simp)]
  simpa using hv
theorem cell_at {w : World} {B n : Nat} {ad : Addr} {l : List Cl} (h : Reads w B 16 (some ad) n (cvals l)) {k : Nat} (hk : k < l.length) (i : Int) (hi : i = k) : At w ad (Int.toNat i * 16) (cAt l k).arr.toList := by
  subst hi
  intro i v hv
  obtain ⟨ad', e, _, hc⟩ := h.2 (by have := h.len; omega)
  injection e with e
  subst e
  rw [Int.toNat_natCast]
  refine hc _ v (cvals_at hk ?_)
  have : cAt l k = l[k] := by unfold cAt; simp [List.getElem?_eq_getElem hk]
  rw [← this]
  exact hv
theorem beval_eq0 (a b : Int) : (BE.eq a b).val = decide (a = b) := by unfold BE.val BE.is; by_cases h : a = b <;> simp [h]
theorem row_any {l : List Cl} {B cp : Nat} {A : Option Addr} {w : World} (hL : Laid w) (hl : Reads w B 16 A l.length (cvals l)) (hB : B ≤ w.heap.size) (hn : l.length ≤ 100000) : Calls Tryd.prog 25 #[.slice A l.length cp] w fun e w' => e = .returned (.bool (rowB l)) ∧ Below w.heap.size w w' := by
  have up : ∀ {w' : World}, Below w.heap.size w w' → Laid w' ∧ Reads w' B 16 A l.length (cvals l) := fun h => ⟨hL.low h, hl.below (h.mono hB)⟩
  refine Gets.below (vc23 A l.length cp ?_)
  refine ⟨fun i _ => ∃ j : Nat, i = j ∧ j ≤ l.length ∧ rowUpTo l j = true, fun i => l.length - i.toNat, fun w1 _ => ⟨0, rfl, Nat.zero_le _, rfl⟩, ?_⟩
  rintro i w1 hK1 ⟨j, rfl, hj, hup⟩
  obtain ⟨hL1, hr1⟩ := up hK1.below
  refine ⟨fun hlt => ?_, fun hge w2 _ _ => ?_⟩
  · have hjl : j < l.length := by omega
    obtain ⟨ad, rfl⟩ := hr1.some_ (by omega)
    refine ⟨ad, rfl, ⟨by omega, by omega⟩, _, _, _, _, _, _, _, _, _, _, _, _, _, _, _, _, cell_at hr1 hjl _ rfl, ?_⟩
    intro x hx
    have e1 : 0 < j → ((j : Int) - 1) = ((j - 1 : Nat) : Int) := fun h => by omega
    refine ⟨fun b _ => b = behindB l j, ⟨fun h0 => ⟨by unfold I64; omega, ad, rfl, ⟨by omega, by omega⟩, _, (cell_at hr1 (k := j - 1) (by omega) ((j : Int) - 1) (e1 (by omega))).one 4 rfl, fun w3 _ => ⟨fun h => ?_, fun h => ?_⟩⟩, fun h0 w3 _ => ?_⟩, ?_⟩
    · have : 0 < j := by omega
      unfold behindB; simp [h, this]
    · unfold behindB; simp [h]
    · have : ¬ 0 < j := by omega
      unfold behindB; simp [this]
    rintro b w3 hK3 rfl
    have hok : okAt l j = (validCl (cAt l j) && ((decide ((cAt l j).w = 0) == behindB l j) && (!(behindB l j && !decide ((cAt l j).p = (cAt l (j - 1)).p)) && !(decide ((cAt l j).w = 2) && decide (j + 1 = l.length))))) := rfl
    refine ⟨fun t _ => t = !okAt l j, ?_, ?_⟩
    · intro w4 hb4 _
      have hb04 : Below w.heap.size w w4 := hK3.below.trans (hb4.mono hK3.size)
      refine runs_pure (vcell_any (cAt l j) (up hb04).1) fun w5 hb5 => ⟨_, rfl, kept_of hb5, fun h w6 _ => ?_, fun hv => ?_⟩
      · rw [hok, h]; rfl
      · rw [beval_ok, beval_eq0]
        have hr5 := (up (hb04.trans (hb5.mono hb04.size))).2
        refine ⟨fun h w6 _ => ?_, fun hw => ⟨fun hbh => ⟨by unfold I64; omega, ?_⟩, fun hbh => ⟨fun h2 => ⟨by unfold I64; omega, fun w6 _ => ⟨fun h3 => ?_, fun h3 => ?_⟩⟩, fun h2 w6 _ => ?_⟩⟩⟩
        · have : (decide ((cAt l j).w = 0) == behindB l j) = false := by simpa using h
          rw [hok, this]; simp
        · have hj0 : 0 < j := by
            unfold behindB at hbh
            simp only [Bool.and_eq_true, decide_eq_true_eq] at hbh
            exact hbh.1
          refine ⟨ad, rfl, ⟨by omega, by omega⟩, _, _, _, _, _, _, _, _, _, _, _, pen_at hr5 (k := j - 1) (by omega) _ (e1 hj0), decide ((cAt l j).p = (cAt l (j - 1)).p), fun w' => pen_equal _ _ w', fun h w6 _ => ?_, fun h => ⟨fun h2 => ⟨by unfold I64; omega, fun w6 _ => ⟨fun h3 => ?_, fun h3 => ?_⟩⟩, fun h2 w6 _ => ?_⟩⟩
          · rw [hok, h, hbh]; simp
          · have : j + 1 = l.length := by omega
            rw [hok]; simp [h2, this]
          · have : ¬ j + 1 = l.length := by omega
            rw [hok, hv, h, hw, hbh]; simp [this]
          · rw [hok, hv, h, hw, hbh]; simp [h2]
        · have : j + 1 = l.length := by omega
          rw [hok]; simp [h2, this]
        · have : ¬ j + 1 = l.length := by omega
          rw [hok, hv, hw, hbh]; simp [this]
        · rw [hok, hv, hw, hbh]; simp [h2]
    · rintro t w4 hK4 rfl
      refine ⟨fun h w5 _ _ => ?_, fun h => ⟨by unfold I64; omega, fun w5 _ => ⟨⟨j + 1, by omega, by omega, ?_⟩, by dsimp only; omega⟩⟩⟩
      · have : okAt l j = false := by simpa using h
        rw [show rowB l = false from rowUpTo_bad this hjl]
      · have : okAt l j = true := by simpa using h
        unfold rowUpTo
        rw [hup, this]
        rfl
  · have : j = l.length := by omega
    subst this
    rw [show rowB l = true from hup]
end Go.Proofs.YthophmihgmjnfaaDoor

namespace Go.Proofs.YthophmihgmjnfaaDoor
open Go.RowKit Go.Rep
set_option maxRecDepth 100000
theorem written_any (c : Cl) (w : World) : Calls Tryd.prog 48 #[.agg #[.int .i32 c.r, .int .i32 c.m0, .int .i32 c.m1, .int .i32 c.m2, .int .i64 c.w, .int .i64 c.p.f.k, .int .u8 c.p.f.i, .int .u8 c.p.f.r, .int .u8 c.p.f.g, .int .u8 c.p.f.b, .int .i64 c.p.b.k, .int .u8 c.p.b.i, .int .u8 c.p.b.r, .int .u8 c.p.b.g, .int .u8 c.p.b.b, .int .u8 c.p.fl]] w fun e w' => e = .returned (.bool (c.r != 0)) ∧ Below w.heap.size w w' := by
  go_enter Tryd.func48, Tryd.ntmps48
  go_wp2
  go_ret
  exact ⟨rfl, (Below.refl _ _).alloc (Nat.le_refl _) _⟩
theorem cell_info : (Tryd.prog.info? 46).map (fun i => (i.zero, i.size, i.bytes)) = some (some (.agg #[.int .i32 0, .int .i32 0, .int .i32 0, .int .i32 0, .int .i64 0, .int .i64 0, .int .u8 0, .int .u8 0, .int .u8 0, .int .u8 0, .int .i64 0, .int .u8 0, .int .u8 0, .int .u8 0, .int .u8 0, .int .u8 0]), 16, 64) := by kernel_rfl
theorem line_info : (Tryd.prog.info? 29).map (fun i => (i.zero, i.size, i.bytes)) = some (some (.agg #[.slice none 0 0, .bool false]), 2, 32) := by kernel_rfl
theorem info_parts {P : Program} {e : TypeId} {z : Value} {s b : Nat} (h : (P.info? e).map (fun i => (i.zero, i.size, i.bytes)) = some (some z, s, b)) : ∃ i, P.info? e = some i ∧ i.zero = some z ∧ i.size = s ∧ i.bytes = b := by
  obtain ⟨i, h1, h2⟩ := Option.map_eq_some_iff.1 h
  injection h2 with h2 h3
  injection h3 with h3 h4
  exact ⟨i, h1, h2, h3, h4⟩
theorem own_nil_blk (w : World) : (w.alloc (.cells #[] 46)).ownsRow w.heap.size 46 16 (.slice (some ⟨w.heap.size, 0, none⟩) 0 0) 0 [] := ⟨rfl, .inr ⟨w.heap.size, 0, #[], rfl, Nat.le_refl _, heap_alloc_new w _, Nat.le_refl _, Nat.zero_le _, rfl, rfl⟩⟩
/-- A clone of cells: its own, unless they are none. -/
theorem clone_cells {l : List Cl} {B cp : Nat} {ad : Addr} {w : World} (hr : Reads w B 16 (some ad) l.length (cvals l)) (hB : B ≤ w.heap.size) (hn : l.length ≤ 100000) : Calls Tryd.prog 19 #[.slice (some ad) l.length cp] w fun e w' => ∃ A c, e = .returned (.slice A l.length c) ∧ w'.ownsRow w.heap.size 46 16 (.slice A l.length c) l.length (cvals l) ∧ Below w.heap.size w w' := by
  obtain ⟨i0, hi, hz0, hz1, hz2⟩ := info_parts cell_info
  have hq := Lib.run_eql_slice_nil (P := Tryd.prog) w 27 46 (some ad) l.length cp 0 0 Tryd.underlying27
  go_enter Tryd.func19, Tryd.ntmps19
  go_wp2_with (at_builtin; refine wpList_append_any _ rfl (.tmp 5) (.tmp 6) 27 rfl w.heap.size 46 i0 (.agg #[.int .i32 0, .int .i32 0, .int .i32 0, .int .i32 0, .int .i64 0, .int .i64 0, .int .u8 0, .int .u8 0, .int .u8 0, .int .u8 0, .int .i64 0, .int .u8 0, .int .u8 0, .int .u8 0, .int .u8 0, .int .u8 0]) 16 64 Tryd.underlying27 hi hz0 hz1 hz2 rfl (by decide) _ _ _ rfl (own_nil_blk w) B (some ad) l.length cp (cvals l) rfl (hr.alloc hB _) (cvals_one l) (by unfold maxLen; omega) (by omega) (by simp only [alloc_size]; omega) ?_; intro v7 w7 hown7 hg7 _)
  go_ret
  rw [Nat.zero_add, List.nil_append] at hown7
  obtain ⟨A7, c7, rfl, _, _, _⟩ := own_slice hown7
  have hbel : Below w.heap.size w w7 := by
    refine ((Below.refl _ _).alloc (Nat.le_refl _) _).grown hg7 (by simp) (fun j q => ?_)
    have : w.heap.size = j := Option.some.inj q
    omega
  exact ⟨A7, c7, rfl, hown7, hbel⟩
/-- At most 6 lines with at most 16 cells each. -/
def smallL (ls : List Ln) : Bool := (ls.take 7).all (fun l => decide (l.cs.length ≤ 16)) && decide (ls.length ≤ 6)
def smallTo (ls : List Ln) : Nat → Bool
  | 0 => true
  | k + 1 => smallTo ls k && (match ls[k]? with | some l => decide (l.cs.length ≤ 16) | none => true)
end Go.Proofs.YthophmihgmjnfaaDoor

namespace Go.Proofs.YthophmihgmjnfaaDoor
open Go.RowKit Go.Rep
set_option maxRecDepth 100000
def lAt (ls : List Ln) (i : Nat) : Ln := ls.getD i ⟨none, 0, [], false⟩
theorem lAt_eq {ls : List Ln} {i : Nat} (h : i < ls.length) : ls[i] = lAt ls i := by unfold lAt; rw [List.getD_eq_getElem?_getD, List.getElem?_eq_getElem h]; rfl
theorem lAt_mem {ls : List Ln} {i : Nat} (h : i < ls.length) : lAt ls i ∈ ls := by rw [← lAt_eq h]; exact List.getElem_mem h
theorem LinesR.lat {w : World} {B : Nat} {A : Option Addr} {ls : List Ln} (h : LinesR w B A ls) {k : Nat} (hk : k < ls.length) : ∃ ad, A = some ad ∧ (ad.add (k * 2)).block < B ∧ w.cell? (ad.add (k * 2)) = some (.slice (lAt ls k).ad (lAt ls k).cs.length (lAt ls k).cap) ∧ w.cell? ⟨(ad.add (k * 2)).block, (ad.add (k * 2)).off + 1, none⟩ = some (.bool (lAt ls k).soft) := by
  rw [← lAt_eq hk]
  exact h.at_ hk
def smallUp (ls : List Ln) : Nat → Bool
  | 0 => true
  | k + 1 => smallUp ls k && decide ((lAt ls k).cs.length ≤ 16)
def smallLs (ls : List Ln) : Bool := smallUp ls (min ls.length 7) && decide (ls.length ≤ 6)
theorem smallUp_bad {ls : List Ln} {k n : Nat} (h : ¬ (lAt ls k).cs.length ≤ 16) (hk : k < n) : smallUp ls n = false := by
  induction n with
  | zero => omega
  | succ n ih =>
    show (smallUp ls n && decide ((lAt ls n).cs.length ≤ 16)) = false
    rcases Nat.lt_or_ge k n with h1 | h1
    · rw [ih h1, Bool.false_and]
    · obtain rfl : k = n := by omega
      simp [h]
theorem smallUp_all {ls : List Ln} {n k : Nat} (h : smallUp ls n = true) (hk : k < n) : (lAt ls k).cs.length ≤ 16 := by
  rcases Nat.lt_or_ge 16 (lAt ls k).cs.length with h1 | h1
  · rw [smallUp_bad (by omega) hk] at h; cases h
  · exact h1
theorem smallLs_len {ls : List Ln} (h : smallLs ls = true) : ls.length ≤ 6 ∧ ∀ k, k < ls.length → (lAt ls k).cs.length ≤ 16 := by
  unfold smallLs at h
  simp only [Bool.and_eq_true, decide_eq_true_eq] at h
  refine ⟨h.2, fun k hk => smallUp_all h.1 (by omega)⟩
set_option maxHeartbeats 1000000 in
theorem small_any {ls : List Ln} {B cp : Nat} {A : Option Addr} {w : World} (hl : LinesR w B A ls) : Calls Tryd.prog 4 #[.slice A ls.length cp] w fun e w' => e = .returned (.bool (smallLs ls)) ∧ w = w' := by
  have HL := Lib.hid hl
  clear hl
  go_enter Tryd.func4, Tryd.ntmps4
  go_wp2
  go_loopw [3] (fun i wr => ∃ j : Nat, j ≤ ls.length ∧ j ≤ 7 ∧ i = .int .i64 j ∧ Hid (smallUp ls j = true) ∧ w = wr) (fun i _ => 7 - (intOf i).toNat)
  case atStart => exact ⟨0, Nat.zero_le _, by omega, rfl, Lib.hid rfl, rfl⟩
  case round =>
    obtain ⟨j, hj, hj7, rfl, hok, rfl⟩ := hrel
    by_cases h1 : j < ls.length
    · have h1' : (j : Int) < (ls.length : Int) := by omega
      by_cases h2 : j < 7
      · have h2' : (j : Int) < 7 := by omega
        obtain ⟨ad, rfl, -, c0, -⟩ := LinesR.lat HL.out h1
        by_cases h3 : (lAt ls j).cs.length ≤ 16
        · have h3' : ¬ (16 : Int) < ((lAt ls j).cs.length : Int) := by omega
          go_wp2
          go_roundw
          case rel => exact ⟨j + 1, by omega, by omega, by go_num, Lib.hid (by show (smallUp ls j && decide ((lAt ls j).cs.length ≤ 16)) = true; rw [hok.out]; simp [h3]), trivial⟩
          case measure => simp [intOf]; omega
        · have h3' : (16 : Int) < ((lAt ls j).cs.length : Int) := by omega
          go_wp2
          go_ret
          exact ⟨by rw [show smallLs ls = false by unfold smallLs; rw [smallUp_bad h3 (show j < min ls.length 7 by omega), Bool.false_and]]; rfl, rfl⟩
      · have h2' : ¬ (j : Int) < 7 := by omega
        have h4 : ¬ (ls.length : Int) ≤ 6 := by omega
        go_wp2
        go_ret
        exact ⟨by rw [show smallLs ls = false by unfold smallLs; rw [show decide (ls.length ≤ 6) = false by simp; omega, Bool.and_false]]; rfl, rfl⟩
    · have h1' : ¬ (j : Int) < (ls.length : Int) := by omega
      obtain rfl : j = ls.length := by omega
      by_cases h4 : ls.length ≤ 6
      · have h4' : (ls.length : Int) ≤ 6 := by omega
        have E := Lib.hid (show smallLs ls = true by unfold smallLs; rw [show min ls.length 7 = ls.length by omega, hok.out]; simp [h4])
        go_wp2
        go_ret
        exact ⟨by rw [E.out]; rfl, rfl⟩
      · have h4' : ¬ (ls.length : Int) ≤ 6 := by omega
        have E := Lib.hid (show smallLs ls = false by unfold smallLs; rw [show decide (ls.length ≤ 6) = false by simp; omega, Bool.and_false])
        go_wp2
        go_ret
        exact ⟨by rw [E.out]; rfl, rfl⟩
end Go.Proofs.YthophmihgmjnfaaDoor
