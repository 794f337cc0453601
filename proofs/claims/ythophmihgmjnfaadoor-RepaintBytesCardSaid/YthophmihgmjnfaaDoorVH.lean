/- A part of the proof of RepaintBytes. -/
import Derived.Test.YthophmihgmjnfaaDoorVG
import Derived.Test.YthophmihgmjnfaaDoorP
import Derived.Lib.ItoaNum
import Derived.Lib.ItoaMem
import Derived.Lib.ItoaLen
import Derived.RegionTactic
import Derived.Deep.RegionLaw
import Derived.Test.YthophmihgmjnfaaDoorSH
import Derived.Lib.AppendIntMem
import Derived.Laws.Cover4
set_option linter.unusedVariables false
set_option linter.unusedSimpArgs false
-- --
namespace Go.Proofs.YthophmihgmjnfaaDoor
open Go.RowKit Go.Rep
set_option maxRecDepth 100000
def dgt (k : Nat) : UInt8 := UInt8.ofNat (48 + k)
theorem conv_one {k : Nat} (hk : k < 10) (W : World) (b : Nat) (hc : W.cell? ⟨b, 0, none⟩ = some (.int .u8 (48 + (k : Int)))) :
    (convert 48 9 (.slice (some ⟨b, 0, none⟩) 1 1)).run Tryd.prog W = .ok (.string ⟨#[dgt k]⟩) W := by
  have := run_convert_bytes_back (P := Tryd.prog) W 48 9 5 ⟨b, 0, none⟩ 1 [dgt k] Tryd.underlying48 Tryd.underlying5 Tryd.underlying9 (fun j hj => by
    simp at hj
    subst hj
    show W.cell? ⟨b, 0, none⟩ = _
    rw [hc]
    simp [dgt]
    omega)
  simpa using this
theorem dec_small (n : Nat) (hn : n < 10) (w : World) : Calls Tryd.prog 20 #[.int .i64 n] w fun e w' => e = .returned (.string ⟨#[dgt n]⟩) ∧ Below w.heap.size w w' := by
  have hcv := conv_one hn (w.alloc (.cells #[.int .u8 (48 + (n : Int))] 5)) w.heap.size (by simp)
  go_enter Tryd.func20, Tryd.ntmps20
  go_wp2
  go_ret
  exact ⟨rfl, (Below.refl _ _).alloc (Nat.le_refl _) _⟩
theorem str_app (a b : List UInt8) : ((⟨a.toArray⟩ : ByteArray) ++ ⟨b.toArray⟩) = ⟨(a ++ b).toArray⟩ := by
  apply ByteArray.ext
  simp
theorem dec_step (n q : Int) (l : List UInt8) (hn : 10 ≤ n) (hn2 : n ≤ 4611686018427387904) (hq0 : 0 ≤ q) (hq1 : q ≤ 4611686018427387904) (k : Nat) (hk : k < 10) (e1 : Int.tdiv n 10 = q) (e2 : Int.tmod n 10 = (k : Int)) (hl : l.length ≤ 30)
    (ih : ∀ w, Calls Tryd.prog 20 #[.int .i64 q] w fun e w' => e = .returned (.string ⟨l.toArray⟩) ∧ Below w.heap.size w w') (w : World) :
    Calls Tryd.prog 20 #[.int .i64 n] w fun e w' => e = .returned (.string ⟨(l ++ [dgt k]).toArray⟩) ∧ Below w.heap.size w w' := by
  have hw1 : IntKind.i64.wrap q = q := IntWalk.i64_in _ (by omega)
  have hwk : IntKind.i64.wrap (48 + (k : Int)) = 48 + (k : Int) := IntWalk.i64_in _ (by omega)
  have hwu : IntKind.u8.wrap (48 + (k : Int)) = 48 + (k : Int) := by rw [show IntKind.u8.wrap (48 + (k : Int)) = (48 + (k : Int)) % 256 from rfl]; omega
  have hcv := conv_one hk
  have B1 := Blk.new w 5 #[.int .u8 (48 + (k : Int))]
  have hlf : ¬ 9223372036854775807 < l.length + 1 := by omega
  go_enter Tryd.func20, Tryd.ntmps20
  go_upto_region 3 with fail
  go_region_law (first
    | (go_simp; go_at_call 20; refine (ih w.drew).mono ?_; rintro e w2 ⟨rfl, hb2⟩)
    | (go_simp; go_at_call 20; refine (ih (w.alloc (.cells #[.int .u8 (48 + (k : Int))] 5)).drew).mono ?_; rintro e w2 ⟨rfl, hb2⟩; have hc2 : w2.cell? ⟨w.heap.size, 0, none⟩ = some (.int .u8 (48 + (k : Int))) := (B1.drew.below hb2 B1.drew.lt).cell 0))
  all_goals
    go_wp2_with fail
    go_ret
    refine ⟨congrArg Ending.returned (congrArg Value.string (str_app l [dgt k])), ?_⟩
    first
      | exact (below_drewN (Below.refl _ _) 1).trans ((hb2.alloc hb2.size _).mono (by show w.heap.size ≤ w.heap.size; omega))
      | exact (below_drewN ((Below.refl w.heap.size w).alloc (Nat.le_refl _) (.cells #[.int .u8 (48 + (k : Int))] 5)) 1).trans (hb2.mono (by show w.heap.size ≤ (w.alloc (.cells #[.int .u8 (48 + (k : Int))] 5)).heap.size; simp))
theorem dec_len (n : Nat) (h : n ≤ 9223372036854775807) : (Lib.decDigits n).length ≤ 30 := by
  have := Lib.itoa_length_le n (by omega) (by omega)
  rw [Lib.itoa_nonneg] at this
  omega
theorem dec_nat : ∀ (n : Nat), n ≤ 4611686018427387904 → ∀ (w : World), Calls Tryd.prog 20 #[.int .i64 n] w fun e w' => e = .returned (.string ⟨(Lib.decDigits n).toArray⟩) ∧ Below w.heap.size w w' := by
  intro n
  induction n using Nat.strongRecOn with
  | _ n ih =>
    intro hn w
    by_cases h10 : n < 10
    · refine (dec_small n h10 w).mono ?_
      rintro e w' ⟨rfl, hb⟩
      refine ⟨?_, hb⟩
      rw [Lib.decDigits, dif_pos h10]; rfl
    · have hmod : n % 10 < 10 := by omega
      have := dec_step n ((n / 10 : Nat) : Int) (Lib.decDigits (n / 10)) (by omega) (by omega) (by omega) (by omega) (n % 10) hmod
        (by rw [Int.tdiv_eq_ediv_of_nonneg (by omega)]; exact rfl) (by rw [Int.tmod_eq_emod_of_nonneg (by omega)]; exact rfl) (dec_len _ (by omega)) (fun w => ih (n / 10) (by omega) (by omega) w) w
      rw [show Lib.decDigits n = Lib.decDigits (n / 10) ++ [dgt (n % 10)] by rw [Lib.decDigits, dif_neg h10]; rfl]
      exact this
end Go.Proofs.YthophmihgmjnfaaDoor

namespace Go.Proofs.YthophmihgmjnfaaDoor
open Go.RowKit Go.Rep
set_option maxRecDepth 100000
set_option linter.unusedSimpArgs false
/-- What the upper functions read beside: the powers of ten. -/
structure Laid2 (w : World) : Prop where
  lo : Laid w
  pw : Lib.TabIs Tryd.prog w "internal/strconv.uint64pow10" .u64 Lib.pow10Tab
theorem var_up {P : Program} {name : String} {g : Nat} {w w' : World} {B : Nat} (hg : P.globalNamed name = some g) (hlt : g < B) (hb : Below B w w') : w'.var? P name = w.var? P name := by
  unfold World.var?
  rw [hg]
  simp only [Option.bind_some]
  rw [hb.block g hlt]
theorem gpow : Tryd.prog.globalNamed "internal/strconv.uint64pow10" = some 3 := by kernel_rfl
theorem Laid2.up {B : Nat} {w w' : World} (ht : Laid2 w) (hB : Tryd.prog.globals.size ≤ B) (h : Below B w w') : Laid2 w' := by
  refine ⟨ht.lo.up hB h, ?_⟩
  unfold Lib.TabIs
  rw [var_up gpow (by have := gsize; omega) h]
  exact ht.pw
theorem Laid2.low {w w' : World} (ht : Laid2 w) (h : Below w.heap.size w w') : Laid2 w' := ht.up ht.lo.size h
theorem itoa_any (n : Int) (h0 : -4611686018427387904 ≤ n) (h1 : n ≤ 4611686018427387904) {w : World} (hw : Laid2 w) : Calls Tryd.prog 24 #[.int .i64 n] w fun e w' => e = .returned (.string (S (Lib.itoa n))) ∧ Below w.heap.size w w' := by
  refine (Tryd.strconv_Itoa n (by omega) (by omega) w hw.pw).mono ?_
  rintro e w' ⟨rfl, k, os, rfl⟩
  exact ⟨rfl, Lib.below_grow _ w (Nat.le_refl _) k os⟩
/-- The bytes that go to a place. -/
def goL (r c : Nat) : List UInt8 := [27, 91] ++ Lib.decDigits (r + 1) ++ [59] ++ Lib.decDigits (c + 1) ++ [72]
theorem goL_len (r c : Nat) (hr : r ≤ 100000) (hc : c ≤ 100000) : (goL r c).length ≤ 64 := by
  unfold goL
  simp only [List.length_append]
  have h1 := dec_len (r + 1) (by omega)
  have h2 := dec_len (c + 1) (by omega)
  simp
  omega
set_option maxHeartbeats 1000000 in
theorem at_any (r c : Nat) (hr : r ≤ 100000) (hc : c ≤ 100000) (w : World) : Calls Tryd.prog 12 #[.int .i64 r, .int .i64 c] w fun e w' => e = .returned (.string (S (goL r c))) ∧ Below w.heap.size w w' := by
  have hw1 : IntKind.i64.wrap ((r : Int) + 1) = ((r + 1 : Nat) : Int) := by rw [IntWalk.i64_in] <;> omega
  have hw2 : IntKind.i64.wrap ((c : Int) + 1) = ((c + 1 : Nat) : Int) := by rw [IntWalk.i64_in] <;> omega
  have l1 := dec_len (r + 1) (by omega)
  have l2 := dec_len (c + 1) (by omega)
  have d1 : ∀ w, Calls Tryd.prog 20 #[.int .i64 ((r + 1 : Nat) : Int)] w fun e w' => e = .returned (.string (S (Lib.decDigits (r + 1)))) ∧ Below w.heap.size w w' := dec_nat (r + 1) (by omega)
  have d2 : ∀ w, Calls Tryd.prog 20 #[.int .i64 ((c + 1 : Nat) : Int)] w fun e w' => e = .returned (.string (S (Lib.decDigits (c + 1)))) ∧ Below w.heap.size w w' := dec_nat (c + 1) (by omega)
  have E := Lib.hid (show goL r c = [27, 91] ++ Lib.decDigits (r + 1) ++ [59] ++ Lib.decDigits (c + 1) ++ [72] from rfl)
  obtain ⟨a, ha⟩ : ∃ a, Lib.decDigits (r + 1) = a := ⟨_, rfl⟩
  obtain ⟨b, hb⟩ : ∃ b, Lib.decDigits (c + 1) = b := ⟨_, rfl⟩
  rw [ha] at l1 d1 E
  rw [hb] at l2 d2 E
  clear ha hb hr hc
  obtain ⟨za, ya⟩ := sized a
  obtain ⟨zb, yb⟩ := sized b
  obtain ⟨s0, sz0, sE0, sl0, sq0, sn0, sy0⟩ := cat [27, 91] a ⟨#[27, 91]⟩ (S a) 2 za 2 30 32 rfl rfl rfl ya (by decide) l1 rfl (by decide)
  obtain ⟨s1, sz1, sE1, sl1, sq1, sn1, sy1⟩ := cat s0 [59] (S s0) ⟨#[59]⟩ sz0 1 32 1 33 rfl rfl sy0 rfl sl0 (by decide) rfl (by decide)
  obtain ⟨s2, sz2, sE2, sl2, sq2, sn2, sy2⟩ := cat s1 b (S s1) (S b) sz1 zb 33 30 63 rfl rfl sy1 yb sl1 l2 rfl (by decide)
  obtain ⟨s3, sz3, sE3, sl3, sq3, sn3, sy3⟩ := cat s2 [72] (S s2) ⟨#[72]⟩ sz2 1 63 1 64 rfl rfl sy2 rfl sl2 (by decide) rfl (by decide)
  go_enter Tryd.func12, Tryd.ntmps12
  go_wp2_with (first
    | (go_at_call 20; have q := hb1; refine (d2 _).mono ?_; rintro e w2 ⟨rfl, hb2⟩)
    | (go_at_call 20; refine (d1 _).mono ?_; rintro e w1 ⟨rfl, hb1⟩))
  go_ret
  exact ⟨by rw [E.out]; exact congrArg (fun x => Ending.returned (.string (S x))) (by rw [sE3.out, sE2.out, sE1.out, sE0.out]), hb1.trans (hb2.mono hb1.size)⟩
set_option maxHeartbeats 1000000 in
theorem go_any (r c : Nat) (hr : r ≤ 9998) (hc : c ≤ 9998) {w : World} (hL : Laid2 w) : Calls Tryd.prog 13 #[.int .i64 r, .int .i64 c] w fun e w' => e = .returned (.string (S (goL r c))) ∧ Below w.heap.size w w' := by
  have hw1 : IntKind.i64.wrap ((r : Int) + 1) = ((r + 1 : Nat) : Int) := by rw [IntWalk.i64_in] <;> omega
  have hw2 : IntKind.i64.wrap ((c : Int) + 1) = ((c + 1 : Nat) : Int) := by rw [IntWalk.i64_in] <;> omega
  have l1 := dec_len (r + 1) (by omega)
  have l2 := dec_len (c + 1) (by omega)
  have d1 := fun (w : World) hw => itoa_any ((r + 1 : Nat) : Int) (by omega) (by omega) (w := w) hw
  have d2 := fun (w : World) hw => itoa_any ((c + 1 : Nat) : Int) (by omega) (by omega) (w := w) hw
  have E := Lib.hid (show goL r c = [27, 91] ++ Lib.decDigits (r + 1) ++ [59] ++ Lib.decDigits (c + 1) ++ [72] from rfl)
  have i1 : Lib.itoa ((r + 1 : Nat) : Int) = Lib.decDigits (r + 1) := Lib.itoa_nonneg _
  have i2 : Lib.itoa ((c + 1 : Nat) : Int) = Lib.decDigits (c + 1) := Lib.itoa_nonneg _
  rw [i1] at d1
  rw [i2] at d2
  clear i1 i2
  obtain ⟨a, ha⟩ : ∃ a, Lib.decDigits (r + 1) = a := ⟨_, rfl⟩
  obtain ⟨b, hb⟩ : ∃ b, Lib.decDigits (c + 1) = b := ⟨_, rfl⟩
  rw [ha] at l1 d1 E
  rw [hb] at l2 d2 E
  clear ha hb
  have m1 : (0 : Int) ≤ (r : Int) := by omega
  have m2 : (r : Int) ≤ 9998 := by omega
  have m3 : (0 : Int) ≤ (c : Int) := by omega
  have m4 : (c : Int) ≤ 9998 := by omega
  have m5 : min (r : Int) 9998 = (r : Int) := by omega
  have m6 : min (c : Int) 9998 = (c : Int) := by omega
  have HL := Lib.hid hL
  clear hL
  obtain ⟨za, ya⟩ := sized a
  obtain ⟨zb, yb⟩ := sized b
  obtain ⟨s0, sz0, sE0, sl0, sq0, sn0, sy0⟩ := cat [27, 91] a ⟨#[27, 91]⟩ (S a) 2 za 2 30 32 rfl rfl rfl ya (by decide) l1 rfl (by decide)
  obtain ⟨s1, sz1, sE1, sl1, sq1, sn1, sy1⟩ := cat s0 [59] (S s0) ⟨#[59]⟩ sz0 1 32 1 33 rfl rfl sy0 rfl sl0 (by decide) rfl (by decide)
  obtain ⟨s2, sz2, sE2, sl2, sq2, sn2, sy2⟩ := cat s1 b (S s1) (S b) sz1 zb 33 30 63 rfl rfl sy1 yb sl1 l2 rfl (by decide)
  obtain ⟨s3, sz3, sE3, sl3, sq3, sn3, sy3⟩ := cat s2 [72] (S s2) ⟨#[72]⟩ sz2 1 63 1 64 rfl rfl sy2 rfl sl2 (by decide) rfl (by decide)
  go_enter Tryd.func13, Tryd.ntmps13
  go_wp2_with (first
    | (go_at_call 24; have q := hb1; refine (d2 _ (HL.out.low hb1)).mono ?_; rintro e w2 ⟨rfl, hb2⟩)
    | (go_at_call 24; refine (d1 _ HL.out).mono ?_; rintro e w1 ⟨rfl, hb1⟩))
  go_ret
  exact ⟨by rw [E.out]; exact congrArg (fun x => Ending.returned (.string (S x))) (by rw [sE3.out, sE2.out, sE1.out, sE0.out]), hb1.trans (hb2.mono hb1.size)⟩
end Go.Proofs.YthophmihgmjnfaaDoor

namespace Go.Proofs.YthophmihgmjnfaaDoor
open Go.RowKit Go.Rep
set_option maxRecDepth 100000
set_option linter.unusedSimpArgs false
def encL (i : Int) : List UInt8 := (Utf8.encode i).data.toList
theorem encL_len (i : Int) : (encL i).length ≤ 4 := encode_size_le i
def mkL (m : Int) : List UInt8 := if m = 0 then [] else encL m
def mAt (c : Cl) (k : Nat) : Int := if k = 0 then c.m0 else if k = 1 then c.m1 else c.m2
def cellUp (c : Cl) : Nat → List UInt8
  | 0 => encL c.r
  | k + 1 => cellUp c k ++ mkL (mAt c k)
theorem mkL_len (m : Int) : (mkL m).length ≤ 4 := by
  unfold mkL
  split
  · simp
  · exact encL_len m
theorem cellUp_len (c : Cl) (k : Nat) : (cellUp c k).length ≤ 4 + 4 * k := by
  induction k with
  | zero => exact encL_len _
  | succ k ih =>
    show (cellUp c k ++ mkL (mAt c k)).length ≤ _
    rw [List.length_append]
    have := mkL_len (mAt c k)
    omega
/-- The bytes of a cell. -/
def cellL (c : Cl) : List UInt8 := if c.w = 0 then [] else if c.r = 0 then [32] else cellUp c 3
theorem cellL_len (c : Cl) : (cellL c).length ≤ 16 := by
  unfold cellL
  split
  · simp
  · split
    · simp
    · exact cellUp_len c 3
set_option maxHeartbeats 2000000 in
theorem ctext_any (c : Cl) (w : World) : Calls Tryd.prog 23 #[.agg #[.int .i32 c.r, .int .i32 c.m0, .int .i32 c.m1, .int .i32 c.m2, .int .i64 c.w, .int .i64 c.p.f.k, .int .u8 c.p.f.i, .int .u8 c.p.f.r, .int .u8 c.p.f.g, .int .u8 c.p.f.b, .int .i64 c.p.b.k, .int .u8 c.p.b.i, .int .u8 c.p.b.r, .int .u8 c.p.b.g, .int .u8 c.p.b.b, .int .u8 c.p.fl]] w fun e w' => e = .returned (.string (S (cellL c))) ∧ Below w.heap.size w w' := by
  have B0 := Blk.new w 46 #[.int .i32 c.r, .int .i32 c.m0, .int .i32 c.m1, .int .i32 c.m2, .int .i64 c.w, .int .i64 c.p.f.k, .int .u8 c.p.f.i, .int .u8 c.p.f.r, .int .u8 c.p.f.g, .int .u8 c.p.f.b, .int .i64 c.p.b.k, .int .u8 c.p.b.i, .int .u8 c.p.b.r, .int .u8 c.p.b.g, .int .u8 c.p.b.b, .int .u8 c.p.fl]
  have hb0 : Below w.heap.size w (w.alloc (.cells #[.int .i32 c.r, .int .i32 c.m0, .int .i32 c.m1, .int .i32 c.m2, .int .i64 c.w, .int .i64 c.p.f.k, .int .u8 c.p.f.i, .int .u8 c.p.f.r, .int .u8 c.p.f.g, .int .u8 c.p.f.b, .int .i64 c.p.b.k, .int .u8 c.p.b.i, .int .u8 c.p.b.r, .int .u8 c.p.b.g, .int .u8 c.p.b.b, .int .u8 c.p.fl] 46)) := (Below.refl _ _).alloc (Nat.le_refl _) _
  by_cases hw : c.w = 0
  · have e1 : (c.w == 0) = true := beq_iff_eq.2 hw
    have E := Lib.hid (show cellL c = [] by unfold cellL; rw [if_pos hw])
    clear hw
    go_enter Tryd.func23, Tryd.ntmps23
    go_wp2
    go_ret
    exact ⟨by rw [E.out]; rfl, hb0⟩
  · have e1 : (c.w == 0) = false := beq_eq_false_iff_ne.2 hw
    by_cases hr : c.r = 0
    · have e2 : (c.r == 0) = true := beq_iff_eq.2 hr
      have E := Lib.hid (show cellL c = [32] by unfold cellL; rw [if_neg hw, if_pos hr])
      clear hw hr
      go_enter Tryd.func23, Tryd.ntmps23
      go_wp2
      go_ret
      exact ⟨by rw [E.out]; rfl, hb0⟩
    have e2 : (c.r == 0) = false := beq_eq_false_iff_ne.2 hr
    have E := Lib.hid (show cellL c = cellUp c 3 by unfold cellL; rw [if_neg hw, if_neg hr])
    have hes0 : Utf8.encode c.r = S (cellUp c 0) := (S_of _).symm
    clear hw hr
    go_enter Tryd.func23, Tryd.ntmps23
    go_upto_block 1 with (refine wpList_load_any 38 (.tmp 17) rfl (by rfl) ⟨w.heap.size, 1, none⟩ rfl #[.int .i32 c.m0, .int .i32 c.m1, .int .i32 c.m2] _ (Blk.part (o := 1) (B0) (by kernel_rfl)) Tryd.underlying38 rfl (by kernel_rfl) ?_)
    go_wp2
    go_loopw [3, 19] (fun s i wr => ∃ k : Nat, k ≤ 3 ∧ i = .int .i64 k ∧ s = .string (S (cellUp c k)) ∧ Below w.heap.size w wr ∧ Blk wr w.heap.size 46 #[.int .i32 c.r, .int .i32 c.m0, .int .i32 c.m1, .int .i32 c.m2, .int .i64 c.w, .int .i64 c.p.f.k, .int .u8 c.p.f.i, .int .u8 c.p.f.r, .int .u8 c.p.f.g, .int .u8 c.p.f.b, .int .i64 c.p.b.k, .int .u8 c.p.b.i, .int .u8 c.p.b.r, .int .u8 c.p.b.g, .int .u8 c.p.b.b, .int .u8 c.p.fl]) (fun _ i _ => 3 - (intOf i).toNat)
    case atStart => exact ⟨0, by omega, rfl, by rw [← hes0], hb0, B0⟩
    case round =>
    obtain ⟨k, hk, rfl, rfl, hbr, hBr⟩ := hrel
    clear hes0
    have hk4 : k = 0 ∨ k = 1 ∨ k = 2 ∨ k = 3 := by omega
    rcases hk4 with rfl | rfl | rfl | rfl
    · have qi : ∀ W, (Instr.index 38 (.agg #[.int .i32 c.m0, .int .i32 c.m1, .int .i32 c.m2]) (.int .i64 0)).run Tryd.prog W = .ok (.int .i32 c.m0) W := fun W => by kernel_rfl
      by_cases hm : c.m0 = 0
      · have e3 : (c.m0 != 0) = false := bne_eq_false_iff_eq.2 hm
        have ES := Lib.hid (show cellUp c 1 = cellUp c 0 by show cellUp c 0 ++ mkL c.m0 = _; unfold mkL; rw [if_pos hm, List.append_nil])
        clear hm
        go_wp2
        go_roundw
        case rel => exact ⟨1, by omega, by go_num, by rw [ES.out], hbr, hBr⟩
        case measure => simp [intOf]
      · have e3 : (c.m0 != 0) = true := bne_iff_ne.2 hm
        have ES := Lib.hid (show cellUp c 1 = cellUp c 0 ++ encL c.m0 by show cellUp c 0 ++ mkL c.m0 = _; unfold mkL; rw [if_neg hm])
        have hel := encL_len c.m0
        have hes : Utf8.encode c.m0 = S (encL c.m0) := (S_of _).symm
        have hul := cellUp_len c 0
        clear hm
        obtain ⟨p, hp⟩ : ∃ p, cellUp c 0 = p := ⟨_, rfl⟩
        obtain ⟨q, hq⟩ : ∃ q, encL c.m0 = q := ⟨_, rfl⟩
        rw [hp] at hul ES ⊢
        rw [hq] at hel hes ES
        clear hp hq
        obtain ⟨zp, yp⟩ := sized p
        obtain ⟨zq, yq⟩ := sized q
        obtain ⟨s0, sz0, sE0, sl0, sq0, sn0, sy0⟩ := cat p q (S p) (S q) zp zq 4 4 8 rfl rfl yp yq hul hel rfl (by decide)
        go_wp2
        go_roundw
        case rel => exact ⟨1, by omega, by go_num, by rw [ES.out, ← sE0.out], hbr, hBr⟩
        case measure => simp [intOf]
    · have qi : ∀ W, (Instr.index 38 (.agg #[.int .i32 c.m0, .int .i32 c.m1, .int .i32 c.m2]) (.int .i64 1)).run Tryd.prog W = .ok (.int .i32 c.m1) W := fun W => by kernel_rfl
      by_cases hm : c.m1 = 0
      · have e3 : (c.m1 != 0) = false := bne_eq_false_iff_eq.2 hm
        have ES := Lib.hid (show cellUp c 2 = cellUp c 1 by show cellUp c 1 ++ mkL c.m1 = _; unfold mkL; rw [if_pos hm, List.append_nil])
        clear hm
        go_wp2
        go_roundw
        case rel => exact ⟨2, by omega, by go_num, by rw [ES.out], hbr, hBr⟩
        case measure => simp [intOf]
      · have e3 : (c.m1 != 0) = true := bne_iff_ne.2 hm
        have ES := Lib.hid (show cellUp c 2 = cellUp c 1 ++ encL c.m1 by show cellUp c 1 ++ mkL c.m1 = _; unfold mkL; rw [if_neg hm])
        have hel := encL_len c.m1
        have hes : Utf8.encode c.m1 = S (encL c.m1) := (S_of _).symm
        have hul := cellUp_len c 1
        clear hm
        obtain ⟨p, hp⟩ : ∃ p, cellUp c 1 = p := ⟨_, rfl⟩
        obtain ⟨q, hq⟩ : ∃ q, encL c.m1 = q := ⟨_, rfl⟩
        rw [hp] at hul ES ⊢
        rw [hq] at hel hes ES
        clear hp hq
        obtain ⟨zp, yp⟩ := sized p
        obtain ⟨zq, yq⟩ := sized q
        obtain ⟨s0, sz0, sE0, sl0, sq0, sn0, sy0⟩ := cat p q (S p) (S q) zp zq 8 4 12 rfl rfl yp yq hul hel rfl (by decide)
        go_wp2
        go_roundw
        case rel => exact ⟨2, by omega, by go_num, by rw [ES.out, ← sE0.out], hbr, hBr⟩
        case measure => simp [intOf]
    · have qi : ∀ W, (Instr.index 38 (.agg #[.int .i32 c.m0, .int .i32 c.m1, .int .i32 c.m2]) (.int .i64 2)).run Tryd.prog W = .ok (.int .i32 c.m2) W := fun W => by kernel_rfl
      by_cases hm : c.m2 = 0
      · have e3 : (c.m2 != 0) = false := bne_eq_false_iff_eq.2 hm
        have ES := Lib.hid (show cellUp c 3 = cellUp c 2 by show cellUp c 2 ++ mkL c.m2 = _; unfold mkL; rw [if_pos hm, List.append_nil])
        clear hm
        go_wp2
        go_roundw
        case rel => exact ⟨3, by omega, by go_num, by rw [ES.out], hbr, hBr⟩
        case measure => simp [intOf]
      · have e3 : (c.m2 != 0) = true := bne_iff_ne.2 hm
        have ES := Lib.hid (show cellUp c 3 = cellUp c 2 ++ encL c.m2 by show cellUp c 2 ++ mkL c.m2 = _; unfold mkL; rw [if_neg hm])
        have hel := encL_len c.m2
        have hes : Utf8.encode c.m2 = S (encL c.m2) := (S_of _).symm
        have hul := cellUp_len c 2
        clear hm
        obtain ⟨p, hp⟩ : ∃ p, cellUp c 2 = p := ⟨_, rfl⟩
        obtain ⟨q, hq⟩ : ∃ q, encL c.m2 = q := ⟨_, rfl⟩
        rw [hp] at hul ES ⊢
        rw [hq] at hel hes ES
        clear hp hq
        obtain ⟨zp, yp⟩ := sized p
        obtain ⟨zq, yq⟩ := sized q
        obtain ⟨s0, sz0, sE0, sl0, sq0, sn0, sy0⟩ := cat p q (S p) (S q) zp zq 12 4 16 rfl rfl yp yq hul hel rfl (by decide)
        go_wp2
        go_roundw
        case rel => exact ⟨3, by omega, by go_num, by rw [ES.out, ← sE0.out], hbr, hBr⟩
        case measure => simp [intOf]
    · go_wp2
      go_ret
      exact ⟨by rw [E.out]; rfl, hbr⟩
def cellsL (l : List Cl) : List UInt8 := (l.map cellL).flatten
theorem cellsL_len (l : List Cl) : (cellsL l).length ≤ 16 * l.length := by
  induction l with
  | nil => simp [cellsL]
  | cons c l ih =>
    show (cellL c ++ cellsL l).length ≤ _
    rw [List.length_append, List.length_cons]
    have := cellL_len c
    omega
theorem cellsL_succ (l : List Cl) {j : Nat} (hj : j < l.length) : cellsL (l.take (j + 1)) = cellsL (l.take j) ++ cellL (cAt l j) := by
  rw [List.take_succ_eq_append_getElem hj, cAt_eq hj]
  simp [cellsL]
end Go.Proofs.YthophmihgmjnfaaDoor

namespace Go.Proofs.YthophmihgmjnfaaDoor
open Go.RowKit Go.Rep
set_option maxRecDepth 100000
set_option linter.unusedSimpArgs false
set_option maxHeartbeats 2000000 in
theorem texts_any {l : List Cl} {B cp : Nat} {A : Option Addr} {w : World} (hl : Reads w B 16 A l.length (cvals l)) (hB : B ≤ w.heap.size) (hn : l.length ≤ 1000) : Calls Tryd.prog 40 #[.slice A l.length cp] w fun e w' => e = .returned (.string (S (cellsL l))) ∧ Below w.heap.size w w' := by
  have HL := Lib.hid hl
  clear hl
  go_enter Tryd.func40, Tryd.ntmps40
  go_wp2
  go_loopw [3, 8] (fun s i wr => ∃ j : Nat, j ≤ l.length ∧ i = .int .i64 j ∧ s = .string (S (cellsL (l.take j))) ∧ Below w.heap.size w wr) (fun _ i _ => l.length - (intOf i).toNat)
  case atStart => exact ⟨0, Nat.zero_le _, rfl, rfl, Below.refl _ _⟩
  case round =>
    obtain ⟨j, hj, rfl, rfl, hbr⟩ := hrel
    have hsr := hbr.size
    by_cases hlt : j < l.length
    · have hlt' : (j : Int) < (l.length : Int) := by omega
      have RL := HL.out.below (hbr.mono hB)
      obtain ⟨ad, rfl⟩ := RL.some_ (by omega)
      have hc := Reads.cAt_ RL hlt
      have ES := Lib.hid (cellsL_succ l hlt)
      have hpl : (cellsL (l.take j)).length ≤ 16000 := by
        have := cellsL_len (l.take j)
        rw [List.length_take] at this
        omega
      have hql := cellL_len (cAt l j)
      have hct := ctext_any (cAt l j)
      obtain ⟨p, hp⟩ : ∃ p, cellsL (l.take j) = p := ⟨_, rfl⟩
      obtain ⟨q, hq⟩ : ∃ q, cellL (cAt l j) = q := ⟨_, rfl⟩
      rw [hp] at hpl ES ⊢
      rw [hq] at hql hct ES
      clear hp hq
      obtain ⟨zp, yp⟩ := sized p
      obtain ⟨zq, yq⟩ := sized q
      obtain ⟨s0, sz0, sE0, sl0, sq0, sn0, sy0⟩ := cat p q (S p) (S q) zp zq 16000 16 16016 rfl rfl yp yq hpl hql rfl (by decide)
      go_wp2_with (first
        | (refine wpList_load_blk 46 (.tmp 5) rfl (by rfl) _ rfl #[.int .i32 (cAt l j).r, .int .i32 (cAt l j).m0, .int .i32 (cAt l j).m1, .int .i32 (cAt l j).m2, .int .i64 (cAt l j).w, .int .i64 (cAt l j).p.f.k, .int .u8 (cAt l j).p.f.i, .int .u8 (cAt l j).p.f.r, .int .u8 (cAt l j).p.f.g, .int .u8 (cAt l j).p.f.b, .int .i64 (cAt l j).p.b.k, .int .u8 (cAt l j).p.b.i, .int .u8 (cAt l j).p.b.r, .int .u8 (cAt l j).p.b.g, .int .u8 (cAt l j).p.b.b, .int .u8 (cAt l j).p.fl] _ (B4) Tryd.underlying46 rfl (by kernel_rfl) ?_)
        | (go_at_call 23; refine (hct _).mono ?_; rintro e w5 ⟨rfl, hb5⟩)
        | (refine wpList_load_any 46 (.tmp 10) rfl (by rfl) (ad.add (j * 16)) rfl #[.int .i32 (cAt l j).r, .int .i32 (cAt l j).m0, .int .i32 (cAt l j).m1, .int .i32 (cAt l j).m2, .int .i64 (cAt l j).w, .int .i64 (cAt l j).p.f.k, .int .u8 (cAt l j).p.f.i, .int .u8 (cAt l j).p.f.r, .int .u8 (cAt l j).p.f.g, .int .u8 (cAt l j).p.f.b, .int .i64 (cAt l j).p.b.k, .int .u8 (cAt l j).p.b.i, .int .u8 (cAt l j).p.b.r, .int .u8 (cAt l j).p.b.g, .int .u8 (cAt l j).p.b.b, .int .u8 (cAt l j).p.fl] _ (hc) Tryd.underlying46 rfl (by kernel_rfl) ?_)
        | ((with_reducible refine wpList_store_blk rfl 46 (.tmp 5) (.tmp 11) rfl _ #[.int .i32 0, .int .i32 0, .int .i32 0, .int .i32 0, .int .i64 0, .int .i64 0, .int .u8 0, .int .u8 0, .int .u8 0, .int .u8 0, .int .i64 0, .int .u8 0, .int .u8 0, .int .u8 0, .int .u8 0, .int .u8 0] #[.int .i32 (cAt l j).r, .int .i32 (cAt l j).m0, .int .i32 (cAt l j).m1, .int .i32 (cAt l j).m2, .int .i64 (cAt l j).w, .int .i64 (cAt l j).p.f.k, .int .u8 (cAt l j).p.f.i, .int .u8 (cAt l j).p.f.r, .int .u8 (cAt l j).p.f.g, .int .u8 (cAt l j).p.f.b, .int .i64 (cAt l j).p.b.k, .int .u8 (cAt l j).p.b.i, .int .u8 (cAt l j).p.b.r, .int .u8 (cAt l j).p.b.g, .int .u8 (cAt l j).p.b.b, .int .u8 (cAt l j).p.fl] rfl rfl (Blk.new wr 46 _) (by kernel_rfl) rfl (by kernel_rfl) ?_); intro w4 hw4; have hb4 : Below wr.heap.size wr w4 := ((Below.refl _ _).alloc (Nat.le_refl _) _).trans hw4.below; have B4 := hw4.blk))
      go_roundw
      case rel => exact ⟨j + 1, by omega, by go_num, by rw [ES.out, ← sE0.out], (hbr.trans (hb4.mono hsr)).trans (hb5.mono (Nat.le_trans hsr hb4.size))⟩
      case measure => simp [intOf]; omega
    · obtain rfl : j = l.length := by omega
      have hlt' : ¬ ((l.length : Nat) : Int) < ((l.length : Nat) : Int) := by omega
      have E := Lib.hid (show cellsL (l.take l.length) = cellsL l by rw [List.take_length])
      go_wp2
      go_ret
      exact ⟨by rw [← E.out]; rfl, hbr⟩
end Go.Proofs.YthophmihgmjnfaaDoor

namespace Go.Proofs.YthophmihgmjnfaaDoor
open Go.RowKit Go.Rep
set_option maxRecDepth 100000
set_option linter.unusedSimpArgs false
theorem Reads.cFirst {w : World} {B n : Nat} {ad : Addr} {l : List Cl} (h : Reads w B 16 (some ad) n (cvals l)) {j : Nat} (hj : j < l.length) : w.cell? (ad.add (j * 16)) = some (.int .i32 (cAt l j).r) := by
  have := Reads.cAt_ h hj 0 _ rfl
  exact this
def bvals (l : List Bool) : List Value := l.map Value.bool
theorem bvals_length (l : List Bool) : (bvals l).length = l.length := by simp [bvals]
theorem bool_info : (Tryd.prog.info? 4).map (fun i => (i.zero, i.size, i.bytes)) = some (some (.bool false), 1, 1) := by kernel_rfl
theorem make_bools (n : Nat) (hn : n ≤ 100000) (W : World) : (Instr.makeSlice 53 (.int .i64 n) (.int .i64 n)).run Tryd.prog W = .ok (.slice (some ⟨W.heap.size, 0, none⟩) n n) (W.alloc (.cells (bvals (List.replicate n false)).toArray 4)) := by
  obtain ⟨i0, hi, hz0, hz1, hz2⟩ := info_parts bool_info
  have h := run_makeSlice (P := Tryd.prog) (w := W) 53 4 i0 (.bool false) Tryd.underlying53 hi hz0 .i64 .i64 n n (by omega) (by omega) (by rw [hz1]; omega) (by rw [hz2]; omega) (by omega)
  have e : madeCells (Value.bool false).cells (Int.toNat (n : Int) * 1) = (bvals (List.replicate n false)).toArray := by
    rw [Int.toNat_natCast, Nat.mul_one]
    apply Array.ext
    · simp [madeCells, bvals]
    · intro i h1 h2
      simp [madeCells, bvals, Value.cells, Nat.mod_one]
  rw [h, hz1, e]
  rfl
theorem bvals_set (m : List Bool) (j : Nat) (b : Bool) : (bvals m).toArray.setIfInBounds j (.bool b) = (bvals (m.set j b)).toArray := by
  simp [bvals, List.map_set]
theorem bvals_at (m : List Bool) {j : Nat} (hj : j < m.length) : (bvals m).toArray[j]? = some (.bool (m.getD j false)) := by
  simp [bvals, hj]
/-- The first column at or before one at which no cell is the second half of a wide one. -/
def downTo (a b : List Cl) : Nat → Nat
  | 0 => 0
  | f + 1 => if (cAt a (f + 1)).w = 0 ∨ (cAt b (f + 1)).w = 0 then downTo a b f else f + 1
theorem downTo_le (a b : List Cl) (f : Nat) : downTo a b f ≤ f := by
  induction f with
  | zero => exact Nat.le_refl _
  | succ f ih =>
    unfold downTo
    split <;> omega
def upTo (a b : List Cl) (n t : Nat) : Nat := if t < n ∧ ((cAt a t).w = 0 ∨ (cAt b t).w = 0) then upTo a b n (t + 1) else t
termination_by n - t
def markN (m : List Bool) (f : Nat) : Nat → List Bool
  | 0 => m
  | c + 1 => (markN m f c).set (f + c) true
theorem markN_len (m : List Bool) (f c : Nat) : (markN m f c).length = m.length := by
  induction c with
  | zero => rfl
  | succ c ih => unfold markN; rw [List.length_set, ih]
/-- Which columns are patched. -/
def chg (a b : List Cl) (n : Nat) : Nat → List Bool
  | 0 => List.replicate n false
  | i + 1 => if cAt a i = cAt b i ∨ (chg a b n i).getD i false = true then chg a b n i else markN (chg a b n i) (downTo a b i) (upTo a b n (i + 1) - downTo a b i)
theorem chg_len (a b : List Cl) (n i : Nat) : (chg a b n i).length = n := by
  induction i with
  | zero => unfold chg; simp
  | succ i ih =>
    unfold chg
    split
    · exact ih
    · rw [markN_len, ih]
theorem upTo_ge (a b : List Cl) (n t : Nat) (ht : t ≤ n) : t ≤ upTo a b n t ∧ upTo a b n t ≤ n := by
  generalize hk : n - t = k
  induction k generalizing t with
  | zero =>
    unfold upTo
    rw [if_neg (by omega)]
    omega
  | succ k ih =>
    unfold upTo
    split
    · have := ih (t + 1) (by omega) (by omega)
      omega
    · omega
end Go.Proofs.YthophmihgmjnfaaDoor
