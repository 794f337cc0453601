/- A part of the proof of RepaintBytes. -/
import Derived.Test.YthophmihgmjnfaaDoorProg
import Derived.Test.YthophmihgmjnfaaDoorP
import Derived.Below
import Derived.IntWalk
import Derived.WalkKit
import Derived.ProofKit
import Derived.LoopTactic
import Derived.OwnWalk
import Derived.Maps.AppendAt
import Derived.Deep.Onto
import Derived.Lib.Hide
import Derived.Laws.Rows
import Derived.KernelRfl
import Derived.Deep.RegionLaw
import Derived.Deep.RegionHeld3
import Derived.Deep.CutBlock
import Derived.Deep.DeepCutAuto
import Derived.BigFrame
import Derived.Deep.QuietTactic
import Derived.BigQuiet
import Derived.Deep.Light
import Derived.Laws.ResultCell
set_option linter.unusedVariables false
set_option linter.unusedSimpArgs false
-- --
namespace Go.Proofs.YthophmihgmjnfaaDoor
open Go.RowKit Go.Rep
set_option maxRecDepth 100000
/-- In a toy; in a seat: from the tables that lie. -/
structure Laid (w : World) : Prop where
  size : Tryd.prog.globals.size ≤ w.heap.size
  ma : ∃ t, Blk w 1 t (tcells marksT).toArray
  wd : ∃ t, Blk w 2 t (tcells wideT).toArray
  st : ∃ t, Blk w 0 t #[.int .u8 1, .int .i64 1, .int .u8 2, .int .i64 2, .int .u8 4, .int .i64 3, .int .u8 8, .int .i64 4, .int .u8 16, .int .i64 5, .int .u8 32, .int .i64 7, .int .u8 64, .int .i64 8, .int .u8 128, .int .i64 9]
theorem gsize : Tryd.prog.globals.size = 7 := by kernel_rfl
theorem Laid.up {B : Nat} {w w' : World} (ht : Laid w) (hB : Tryd.prog.globals.size ≤ B) (h : Below B w w') : Laid w' := by
  have hz := gsize
  obtain ⟨t1, h1⟩ := ht.ma
  obtain ⟨t2, h2⟩ := ht.wd
  obtain ⟨t3, h3⟩ := ht.st
  exact ⟨Nat.le_trans ht.size h.size, ⟨t1, h1.below h (by omega)⟩, ⟨t2, h2.below h (by omega)⟩, ⟨t3, h3.below h (by omega)⟩⟩
theorem Laid.low {w w' : World} (ht : Laid w) (h : Below w.heap.size w w') : Laid w' := ht.up ht.size h
theorem tcells_reads {w : World} {g : Nat} {t : TypeId} {T : List (Int × Int)} (h : Blk w g t (tcells T).toArray) : Reads w (g + 1) 2 (some ⟨g, 0, none⟩) T.length (tcells T) := by
  refine ⟨tcells_length T, fun _ => ⟨_, rfl, Nat.lt_succ_self _, fun j u hu => ?_⟩⟩
  have := h.cell j
  rw [Addr.add_lit, Nat.zero_add, this]
  simpa using hu
end Go.Proofs.YthophmihgmjnfaaDoor

namespace Go.Proofs.YthophmihgmjnfaaDoor
open Go.RowKit Go.Rep
set_option maxRecDepth 100000
theorem cmp_any (a b r : Int) (w : World) : Calls Tryd.prog 65 #[.agg #[.int .i32 a, .int .i32 b], .int .i32 r] w fun e w' => e = .returned (.int .i64 (cmpI a b r)) ∧ Below w.heap.size w w' := by
  have hb : Below w.heap.size w (w.alloc (.cells #[.int .i32 a, .int .i32 b] 109)) := (Below.refl _ _).alloc (Nat.le_refl _) _
  by_cases h1 : b < r
  · have hf := Lib.hid (show cmpI a b r = -1 by simp [cmpI, h1])
    have d1 : decide (b < r) = true := by simpa using h1
    go_enter Tryd.func65, Tryd.ntmps65
    go_wp2
    go_ret
    exact ⟨by rw [hf.out]; rfl, hb⟩
  · have d1 : decide (b < r) = false := by simpa using h1
    by_cases h2 : r < a
    · have hf := Lib.hid (show cmpI a b r = 1 by simp [cmpI, h1, h2])
      have d2 : decide (r < a) = true := by simpa using h2
      go_enter Tryd.func65, Tryd.ntmps65
      go_wp2
      go_ret
      exact ⟨by rw [hf.out]; rfl, hb⟩
    · have hf := Lib.hid (show cmpI a b r = 0 by simp [cmpI, h1, h2])
      have d2 : decide (r < a) = false := by simpa using h2
      go_enter Tryd.func65, Tryd.ntmps65
      go_wp2
      go_ret
      exact ⟨by rw [hf.out]; rfl, hb⟩
set_option maxHeartbeats 1000000 in
theorem bs_any {T : List (Int × Int)} {r : Int} {B c : Nat} {ad : Addr} {w : World} (hT : Reads w B 2 (some ad) T.length (tcells T)) (hB : B ≤ w.heap.size) (hn : T.length ≤ 100) : Calls Tryd.prog 64 #[.slice (some ad) T.length c, .int .i32 r, .func (.func 65) #[] #[]] w fun e w' => e = .returned (.tuple #[.int .i64 (bsT T r 0 T.length), .bool (inT T r)]) ∧ Below w.heap.size w w' := by
  have HT := Lib.hid hT
  clear hT
  go_enter Tryd.func64, Tryd.ntmps64
  go_wp2
  go_loopw [9, 10, 11] (fun i j h wr => ∃ (a b : Nat), a ≤ b ∧ b ≤ T.length ∧ i = .int .i64 a ∧ j = .int .i64 b ∧ Hid (bsT T r a b = bsT T r 0 T.length) ∧ Below w.heap.size w wr) (fun i j _ _ => (intOf j).toNat - (intOf i).toNat)
  case atStart => exact ⟨0, T.length, Nat.zero_le _, Nat.le_refl _, rfl, rfl, Lib.hid rfl, Below.refl _ _⟩
  case round =>
    obtain ⟨a, b, hab, hbn, rfl, rfl, hbs, hbr⟩ := hrel
    have hsr := hbr.size
    by_cases hlt : a < b
    · have hlt' : (a : Int) < (b : Int) := by omega
      have hw1 : IntKind.i64.wrap ((a : Int) + (b : Int)) = ((a + b : Nat) : Int) := by rw [IntWalk.i64_in] <;> omega
      have hh : (a + b) / 2 < b := by omega
      have hT' := Reads.pairOf (HT.out.below (hbr.mono hB)) (show (a + b) / 2 < T.length by omega)
      have i1 : (0 : Int) ≤ ((a : Int) + (b : Int)) / 2 := by omega
      have i2 : ((a : Int) + (b : Int)) / 2 < (T.length : Int) := by omega
      have hw2 : IntKind.i64.wrap (((a : Int) + (b : Int)) / 2 + 1) = ((a : Int) + (b : Int)) / 2 + 1 := by rw [IntWalk.i64_in] <;> omega
      by_cases h3 : cmpI (atT T ((a + b) / 2)).1 (atT T ((a + b) / 2)).2 r < 0
      · have d3 : decide (cmpI (atT T ((a + b) / 2)).1 (atT T ((a + b) / 2)).2 r < 0) = true := by simpa using h3
        have e3 : bsT T r ((a + b) / 2 + 1) b = bsT T r 0 T.length := by rw [← hbs.out]; conv => rhs; rw [bsT]; simp only [if_pos hlt, if_pos h3]
        have E3 := Lib.hid e3
        clear e3
        go_wp2_with (first
          | (refine wpList_load_any 109 (.tmp 27) rfl (by rfl) (ad.add ((a + b) / 2 * 2)) rfl #[.int .i32 (atT T ((a + b) / 2)).1, .int .i32 (atT T ((a + b) / 2)).2] _ hT' Tryd.underlying109 rfl (by kernel_rfl) ?_)
          | (go_at_call 65; refine (cmp_any _ _ _ _).mono ?_; rintro e w1 ⟨rfl, hb1⟩))
        go_roundw
        case rel => exact ⟨(a + b) / 2 + 1, b, by omega, hbn, by show Value.int .i64 _ = .int .i64 _; congr 1, rfl, E3, hbr.trans (hb1.mono hsr)⟩
        case measure => simp [intOf]; omega
      · have d3 : decide (cmpI (atT T ((a + b) / 2)).1 (atT T ((a + b) / 2)).2 r < 0) = false := by simpa using h3
        have e3 : bsT T r a ((a + b) / 2) = bsT T r 0 T.length := by rw [← hbs.out]; conv => rhs; rw [bsT]; simp only [if_pos hlt, if_neg h3]
        have E3 := Lib.hid e3
        clear e3
        go_wp2_with (first
          | (refine wpList_load_any 109 (.tmp 27) rfl (by rfl) (ad.add ((a + b) / 2 * 2)) rfl #[.int .i32 (atT T ((a + b) / 2)).1, .int .i32 (atT T ((a + b) / 2)).2] _ hT' Tryd.underlying109 rfl (by kernel_rfl) ?_)
          | (go_at_call 65; refine (cmp_any _ _ _ _).mono ?_; rintro e w1 ⟨rfl, hb1⟩))
        go_roundw
        case rel => exact ⟨a, (a + b) / 2, by omega, by omega, rfl, by show Value.int .i64 _ = .int .i64 _; congr 1, E3, hbr.trans (hb1.mono hsr)⟩
        case measure => simp [intOf]; omega
    · obtain rfl : a = b := by omega
      have eb : bsT T r 0 T.length = a := by rw [← hbs.out, bsT, if_neg (Nat.lt_irrefl _)]
      by_cases ha : a < T.length
      · have ha' : (a : Int) < (T.length : Int) := by omega
        have hT' := Reads.pairOf (HT.out.below (hbr.mono hB)) ha
        have e5 : inT T r = decide (cmpI (atT T a).1 (atT T a).2 r = 0) := by unfold inT; rw [eb]; simp [ha]
        have E4 := Lib.hid eb
        have E5 := Lib.hid e5
        clear eb e5 hbs
        go_wp2_with (first
          | (refine wpList_load_any 109 (.tmp 43) rfl (by rfl) (ad.add (a * 2)) rfl #[.int .i32 (atT T a).1, .int .i32 (atT T a).2] _ hT' Tryd.underlying109 rfl (by kernel_rfl) ?_)
          | (go_at_call 65; refine (cmp_any _ _ _ _).mono ?_; rintro e w1 ⟨rfl, hb1⟩))
        go_ret2
        exact ⟨by rw [E4.out, E5.out]; rfl, hbr.trans (hb1.mono hsr)⟩
      · have ha' : ¬ (a : Int) < (T.length : Int) := by omega
        have e5 : inT T r = false := by unfold inT; rw [eb]; simp [ha]
        have E4 := Lib.hid eb
        have E5 := Lib.hid e5
        clear eb e5 hbs
        go_wp2
        go_ret2
        exact ⟨by rw [E4.out, E5.out]; rfl, hbr⟩
theorem in_any {T : List (Int × Int)} {r : Int} {B c : Nat} {ad : Addr} {w : World} (hT : Reads w B 2 (some ad) T.length (tcells T)) (hB : B ≤ w.heap.size) (hn : T.length ≤ 100) : Calls Tryd.prog 57 #[.slice (some ad) T.length c, .int .i32 r] w fun e w' => e = .returned (.bool (inT T r)) ∧ Below w.heap.size w w' := by
  go_enter Tryd.func57, Tryd.ntmps57
  go_wp2_with (go_at_call 64; refine (bs_any hT hB hn).mono ?_; rintro e w1 ⟨rfl, hb1⟩)
  go_ret
  exact ⟨rfl, hb1⟩
end Go.Proofs.YthophmihgmjnfaaDoor

namespace Go.Proofs.YthophmihgmjnfaaDoor
open Go.RowKit Go.Rep
set_option maxRecDepth 100000
set_option maxHeartbeats 2000000 in
theorem wof_any (r : Int) {w : World} (hL : Laid w) : Calls Tryd.prog 47 #[.int .i32 r] w fun e w' => e = .returned (.int .i64 (wOf r)) ∧ Below w.heap.size w w' := by
  obtain ⟨t1, h1⟩ := hL.ma
  obtain ⟨t2, h2⟩ := hL.wd
  have hz := gsize
  have hs := hL.size
  have r1 := tcells_reads h1
  have r2 := tcells_reads h2
  by_cases hc : r < 32 ∨ (127 ≤ r ∧ r < 160) ∨ (55296 ≤ r ∧ r ≤ 57343) ∨ 1114111 < r
  · have hf := Lib.hid (show wOf r = -1 by unfold wOf; rw [if_pos hc])
    go_enter Tryd.func47, Tryd.ntmps47
    go_wp2_with fail
    all_goals
      first
        | (go_ret; exact ⟨by rw [hf.out]; rfl, Below.refl _ _⟩)
        | (exfalso; omega)
  · have g1 : ¬ r < 32 := by omega
    have hd : (127 ≤ r → ¬ r < 160) ∧ (55296 ≤ r → ¬ r ≤ 57343) ∧ ¬ 1114111 < r := by omega
    by_cases hm : inT marksT r = true
    · have hf := Lib.hid (show wOf r = 0 by unfold wOf; rw [if_neg hc, if_pos hm])
      have HM := Lib.hid hm
      clear hm
      go_enter Tryd.func47, Tryd.ntmps47
      go_wp2_with (go_at_call 57; refine (in_any (T := marksT) r1 (by omega) (by decide)).mono ?_; rintro e w1 ⟨rfl, hb1⟩; rw [HM.out])
      all_goals
        first
          | (go_ret; exact ⟨by rw [hf.out]; rfl, hb1⟩)
          | (exfalso; omega)
    · have hm : inT marksT r = false := by simpa using hm
      have HM := Lib.hid hm
      clear hm
      by_cases hw : inT wideT r = true
      · have hf := Lib.hid (show wOf r = 2 by unfold wOf; rw [if_neg hc, HM.out, if_pos hw]; rfl)
        have HW := Lib.hid hw
        clear hw
        go_enter Tryd.func47, Tryd.ntmps47
        go_wp2_with (first
          | (go_at_call 57; have q := hb1; refine (in_any (T := wideT) (r2.below (hb1.mono (by omega))) (by have := hb1.size; omega) (by decide)).mono ?_; rintro e w2 ⟨rfl, hb2⟩; rw [HW.out])
          | (go_at_call 57; refine (in_any (T := marksT) r1 (by omega) (by decide)).mono ?_; rintro e w1 ⟨rfl, hb1⟩; rw [HM.out]))
        all_goals
          first
            | (go_ret; exact ⟨by rw [hf.out]; rfl, hb1.trans (hb2.mono hb1.size)⟩)
            | (exfalso; omega)
      · have hw : inT wideT r = false := by simpa using hw
        have hf := Lib.hid (show wOf r = 1 by unfold wOf; rw [if_neg hc, HM.out, hw]; rfl)
        have HW := Lib.hid hw
        clear hw
        go_enter Tryd.func47, Tryd.ntmps47
        go_wp2_with (first
          | (go_at_call 57; have q := hb1; refine (in_any (T := wideT) (r2.below (hb1.mono (by omega))) (by have := hb1.size; omega) (by decide)).mono ?_; rintro e w2 ⟨rfl, hb2⟩; rw [HW.out])
          | (go_at_call 57; refine (in_any (T := marksT) r1 (by omega) (by decide)).mono ?_; rintro e w1 ⟨rfl, hb1⟩; rw [HM.out]))
        all_goals
          first
            | (go_ret; exact ⟨by rw [hf.out]; rfl, hb1.trans (hb2.mono hb1.size)⟩)
            | (exfalso; omega)
end Go.Proofs.YthophmihgmjnfaaDoor

namespace Go.Proofs.YthophmihgmjnfaaDoor
open Go.RowKit Go.Rep
set_option maxRecDepth 100000
set_option maxHeartbeats 4000000
theorem marks_eq (n : Nat) (x y z x' y' z' : Int) (w : World) : (Op.equalIn (n + 2) 38 (.agg #[.int .i32 x, .int .i32 y, .int .i32 z]) (.agg #[.int .i32 x', .int .i32 y', .int .i32 z'])).run Tryd.prog w = .ok (decide (x = x') && (decide (y = y') && decide (z = z'))) w := by
  rw [Op.equalIn]
  simp [go_sem, show List.range' 0 3 = [0, 1, 2] from rfl]
  repeat' split
  all_goals simp [*]
theorem marks_eql (x y z x' y' z' : Int) (w : World) : (binOp .eql 38 (.agg #[.int .i32 x, .int .i32 y, .int .i32 z]) (.agg #[.int .i32 x', .int .i32 y', .int .i32 z'])).run Tryd.prog w = .ok (.bool (decide (x = x') && (decide (y = y') && decide (z = z')))) w := by
  have := marks_eq 9998 x y z x' y' z' w
  simp [binOp, Op.equal, Op.maxDepth, go_sem, this]
theorem col_eql (a b : Col) (w : World) : (binOp .eql 41 (.agg a.arr) (.agg b.arr)).run Tryd.prog w = .ok (.bool (decide (a = b))) w := by
  obtain ⟨a1, a2, a3, a4, a5⟩ := a
  obtain ⟨b1, b2, b3, b4, b5⟩ := b
  simp only [Col.mk.injEq]
  simp [binOp, Op.equal, Op.maxDepth, go_sem]
  repeat' split
  all_goals simp [*]
theorem col_neq (a b : Col) (w : World) : (binOp .neq 41 (.agg a.arr) (.agg b.arr)).run Tryd.prog w = .ok (.bool (!decide (a = b))) w := by
  obtain ⟨a1, a2, a3, a4, a5⟩ := a
  obtain ⟨b1, b2, b3, b4, b5⟩ := b
  simp only [Col.mk.injEq]
  simp [binOp, Op.equal, Op.maxDepth, go_sem]
  repeat' split
  all_goals simp [*]
theorem pen_eql (a b : Pn) (w : World) : (binOp .eql 44 (.agg a.arr) (.agg b.arr)).run Tryd.prog w = .ok (.bool (decide (a = b))) w := by
  obtain ⟨⟨a1, a2, a3, a4, a5⟩, ⟨a6, a7, a8, a9, a10⟩, a11⟩ := a
  obtain ⟨⟨b1, b2, b3, b4, b5⟩, ⟨b6, b7, b8, b9, b10⟩, b11⟩ := b
  simp only [Col.mk.injEq, Pn.mk.injEq]
  simp [binOp, Op.equal, Op.maxDepth, go_sem]
  repeat' split
  all_goals simp [*]
theorem pen_neq (a b : Pn) (w : World) : (binOp .neq 44 (.agg a.arr) (.agg b.arr)).run Tryd.prog w = .ok (.bool (!decide (a = b))) w := by
  obtain ⟨⟨a1, a2, a3, a4, a5⟩, ⟨a6, a7, a8, a9, a10⟩, a11⟩ := a
  obtain ⟨⟨b1, b2, b3, b4, b5⟩, ⟨b6, b7, b8, b9, b10⟩, b11⟩ := b
  simp only [Col.mk.injEq, Pn.mk.injEq]
  simp [binOp, Op.equal, Op.maxDepth, go_sem]
  repeat' split
  all_goals simp [*]
theorem cell_eql (a b : Cl) (w : World) : (binOp .eql 46 (.agg a.arr) (.agg b.arr)).run Tryd.prog w = .ok (.bool (decide (a = b))) w := by
  obtain ⟨a12, a13, a14, a15, a16, ⟨⟨a1, a2, a3, a4, a5⟩, ⟨a6, a7, a8, a9, a10⟩, a11⟩⟩ := a
  obtain ⟨b12, b13, b14, b15, b16, ⟨⟨b1, b2, b3, b4, b5⟩, ⟨b6, b7, b8, b9, b10⟩, b11⟩⟩ := b
  simp only [Col.mk.injEq, Pn.mk.injEq, Cl.mk.injEq]
  have hm := fun x y z u v t W => marks_eq 9997 x y z u v t W; simp [binOp, Op.equal, Op.maxDepth, go_sem, hm]
  by_cases h12 : a12 = b12
  case neg => simp [h12]
  subst h12
  by_cases h13 : a13 = b13
  case neg => simp [h13]
  subst h13
  by_cases h14 : a14 = b14
  case neg => simp [h14]
  subst h14
  by_cases h15 : a15 = b15
  case neg => simp [h15]
  subst h15
  by_cases h16 : a16 = b16
  case neg => simp [h16]
  subst h16
  by_cases h1 : a1 = b1
  case neg => simp [h1]
  subst h1
  by_cases h2 : a2 = b2
  case neg => simp [h2]
  subst h2
  by_cases h3 : a3 = b3
  case neg => simp [h3]
  subst h3
  by_cases h4 : a4 = b4
  case neg => simp [h4]
  subst h4
  by_cases h5 : a5 = b5
  case neg => simp [h5]
  subst h5
  by_cases h6 : a6 = b6
  case neg => simp [h6]
  subst h6
  by_cases h7 : a7 = b7
  case neg => simp [h7]
  subst h7
  by_cases h8 : a8 = b8
  case neg => simp [h8]
  subst h8
  by_cases h9 : a9 = b9
  case neg => simp [h9]
  subst h9
  by_cases h10 : a10 = b10
  case neg => simp [h10]
  subst h10
  by_cases h11 : a11 = b11
  case neg => simp [h11]
  subst h11
  simp
theorem cell_neq (a b : Cl) (w : World) : (binOp .neq 46 (.agg a.arr) (.agg b.arr)).run Tryd.prog w = .ok (.bool (!decide (a = b))) w := by
  obtain ⟨a12, a13, a14, a15, a16, ⟨⟨a1, a2, a3, a4, a5⟩, ⟨a6, a7, a8, a9, a10⟩, a11⟩⟩ := a
  obtain ⟨b12, b13, b14, b15, b16, ⟨⟨b1, b2, b3, b4, b5⟩, ⟨b6, b7, b8, b9, b10⟩, b11⟩⟩ := b
  simp only [Col.mk.injEq, Pn.mk.injEq, Cl.mk.injEq]
  have hm := fun x y z u v t W => marks_eq 9997 x y z u v t W; simp [binOp, Op.equal, Op.maxDepth, go_sem, hm]
  by_cases h12 : a12 = b12
  case neg => simp [h12]
  subst h12
  by_cases h13 : a13 = b13
  case neg => simp [h13]
  subst h13
  by_cases h14 : a14 = b14
  case neg => simp [h14]
  subst h14
  by_cases h15 : a15 = b15
  case neg => simp [h15]
  subst h15
  by_cases h16 : a16 = b16
  case neg => simp [h16]
  subst h16
  by_cases h1 : a1 = b1
  case neg => simp [h1]
  subst h1
  by_cases h2 : a2 = b2
  case neg => simp [h2]
  subst h2
  by_cases h3 : a3 = b3
  case neg => simp [h3]
  subst h3
  by_cases h4 : a4 = b4
  case neg => simp [h4]
  subst h4
  by_cases h5 : a5 = b5
  case neg => simp [h5]
  subst h5
  by_cases h6 : a6 = b6
  case neg => simp [h6]
  subst h6
  by_cases h7 : a7 = b7
  case neg => simp [h7]
  subst h7
  by_cases h8 : a8 = b8
  case neg => simp [h8]
  subst h8
  by_cases h9 : a9 = b9
  case neg => simp [h9]
  subst h9
  by_cases h10 : a10 = b10
  case neg => simp [h10]
  subst h10
  by_cases h11 : a11 = b11
  case neg => simp [h11]
  subst h11
  simp
end Go.Proofs.YthophmihgmjnfaaDoor
