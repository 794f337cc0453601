/- A part of the proof of RecordReads. -/
import Derived.Test.YtiglllddgikeiabGreatDoorM1
import Derived.Lib.ItoaNum
import Derived.Lib.ItoaMem
import Derived.Lib.ItoaLen
import Derived.IntWalk
import Derived.RegionTactic
import Derived.Deep.DeepCutAuto
import Derived.Deep.RegionLaw
import Derived.Deep.RegionHeld3
import Derived.Test.YtiglllddgikeiabGreatDoorAbsT
import Derived.LoopTactic
import Derived.Deep.QuietTactic
import Derived.Laws.DeepStrings4
import Derived.Test.YtiglllddgikeiabGreatDoorAbsP
namespace Go.Proofs.YtiglllddgikeiabGreatDoor
open Go.RowKit Go.Rep
set_option maxRecDepth 100000
def dgt (k : Nat) : UInt8 := UInt8.ofNat (48 + k)
theorem conv_one {k : Nat} (hk : k < 10) (W : World) (b : Nat) (hc : W.cell? ⟨b, 0, none⟩ = some (.int .u8 (48 + (k : Int)))) :
    (convert 90 9 (.slice (some ⟨b, 0, none⟩) 1 1)).run Tryz.prog W = .ok (.string ⟨#[dgt k]⟩) W := by
  have := run_convert_bytes_back (P := Tryz.prog) W 90 9 5 ⟨b, 0, none⟩ 1 [dgt k] Tryz.underlying90 Tryz.underlying5 Tryz.underlying9 (fun j hj => by
    simp at hj
    subst hj
    show W.cell? ⟨b, 0, none⟩ = _
    rw [hc]
    simp [dgt]
    omega)
  simpa using this
theorem dec_small (n : Nat) (hn : n < 10) (w : World) : Calls Tryz.prog 21 #[.int .i64 n] w fun e w' => e = .returned (.string ⟨#[dgt n]⟩) ∧ Below w.heap.size w w' := by
  have hcv := conv_one hn (w.alloc (.cells #[.int .u8 (48 + (n : Int))] 5)) w.heap.size (by simp)
  go_enter Tryz.func21, Tryz.ntmps21
  go_wp2
  go_ret
  exact ⟨rfl, (Below.refl _ _).alloc (Nat.le_refl _) _⟩
theorem str_app (a b : List UInt8) : ((⟨a.toArray⟩ : ByteArray) ++ ⟨b.toArray⟩) = ⟨(a ++ b).toArray⟩ := by
  apply ByteArray.ext
  simp
theorem dec_step (n q : Int) (l : List UInt8) (hn : 10 ≤ n) (hn2 : n ≤ 4611686018427387904) (hq0 : 0 ≤ q) (hq1 : q ≤ 4611686018427387904) (k : Nat) (hk : k < 10) (e1 : Int.tdiv n 10 = q) (e2 : Int.tmod n 10 = (k : Int)) (hl : l.length ≤ 30)
    (ih : ∀ w, Calls Tryz.prog 21 #[.int .i64 q] w fun e w' => e = .returned (.string ⟨l.toArray⟩) ∧ Below w.heap.size w w') (w : World) :
    Calls Tryz.prog 21 #[.int .i64 n] w fun e w' => e = .returned (.string ⟨(l ++ [dgt k]).toArray⟩) ∧ Below w.heap.size w w' := by
  have hw1 : IntKind.i64.wrap q = q := IntWalk.i64_in _ (by omega)
  have hwk : IntKind.i64.wrap (48 + (k : Int)) = 48 + (k : Int) := IntWalk.i64_in _ (by omega)
  have hwu : IntKind.u8.wrap (48 + (k : Int)) = 48 + (k : Int) := by rw [show IntKind.u8.wrap (48 + (k : Int)) = (48 + (k : Int)) % 256 from rfl]; omega
  have hcv := conv_one hk
  have B1 := Blk.new w 5 #[.int .u8 (48 + (k : Int))]
  have hlf : ¬ 9223372036854775807 < l.length + 1 := by omega
  go_enter Tryz.func21, Tryz.ntmps21
  go_upto_region 5 with fail
  go_region_law (first
    | (go_simp; go_at_call 21; refine (ih w.drew).mono ?_; rintro e w2 ⟨rfl, hb2⟩)
    | (go_simp; go_at_call 21; refine (ih (w.alloc (.cells #[.int .u8 (48 + (k : Int))] 5)).drew).mono ?_; rintro e w2 ⟨rfl, hb2⟩; have hc2 : w2.cell? ⟨w.heap.size, 0, none⟩ = some (.int .u8 (48 + (k : Int))) := (B1.drew.below hb2 B1.drew.lt).cell 0))
  all_goals
    go_wp2_with fail
    go_ret
    refine ⟨congrArg Ending.returned (congrArg Value.string (str_app l [dgt k])), ?_⟩
    first
      | exact (below_drewN (Below.refl _ _) 1).trans ((hb2.alloc hb2.size _).mono (by show w.heap.size ≤ w.heap.size; omega))
      | exact (below_drewN ((Below.refl w.heap.size w).alloc (Nat.le_refl _) (.cells #[.int .u8 (48 + (k : Int))] 5)) 1).trans (hb2.mono (by show w.heap.size ≤ (w.alloc (.cells #[.int .u8 (48 + (k : Int))] 5)).heap.size; simp))
theorem dec_len (n : Nat) (h : n ≤ 9223372036854775807) : (Lib.decDigits n).length ≤ 30 := by
  have := Lib.itoa_length_le n (by omega) (by omega)
  rw [Lib.itoa_nonneg] at this
  omega
theorem dec_nat : ∀ (n : Nat), n ≤ 4611686018427387904 → ∀ (w : World), Calls Tryz.prog 21 #[.int .i64 n] w fun e w' => e = .returned (.string ⟨(Lib.decDigits n).toArray⟩) ∧ Below w.heap.size w w' := by
  intro n
  induction n using Nat.strongRecOn with
  | _ n ih =>
    intro hn w
    by_cases h10 : n < 10
    · refine (dec_small n h10 w).mono ?_
      rintro e w' ⟨rfl, hb⟩
      refine ⟨?_, hb⟩
      rw [Lib.decDigits, dif_pos h10]; rfl
    · have hmod : n % 10 < 10 := by omega
      have := dec_step n ((n / 10 : Nat) : Int) (Lib.decDigits (n / 10)) (by omega) (by omega) (by omega) (by omega) (n % 10) hmod
        (by rw [Int.tdiv_eq_ediv_of_nonneg (by omega)]; exact rfl) (by rw [Int.tmod_eq_emod_of_nonneg (by omega)]; exact rfl) (dec_len _ (by omega)) (fun w => ih (n / 10) (by omega) (by omega) w) w
      rw [show Lib.decDigits n = Lib.decDigits (n / 10) ++ [dgt (n % 10)] by rw [Lib.decDigits, dif_neg h10]; rfl]
      exact this
theorem dec_any (n : Int) (h0 : -4611686018427387904 ≤ n) (h1 : n ≤ 4611686018427387904) (w : World) : Calls Tryz.prog 21 #[.int .i64 n] w fun e w' => e = .returned (.string ⟨(Lib.itoa n).toArray⟩) ∧ Below w.heap.size w w' := by
  by_cases hn : n < 0
  · obtain ⟨m, hm⟩ : ∃ m : Nat, n = -(m : Int) := ⟨n.natAbs, by omega⟩
    subst hm
    have hm1 : 1 ≤ m := by omega
    have ih := dec_nat m (by omega)
    rw [Lib.itoa_neg m hm1]
    have hw1 : IntKind.i64.wrap (m : Int) = (m : Int) := IntWalk.i64_in _ (by omega)
    have hlen := dec_len m (by omega)
    have hlf : ¬ 9223372036854775807 < 1 + (Lib.decDigits m).length := by omega
    have hmm : - -(m : Int) = (m : Int) := by omega
    have hneg : decide (-(m : Int) < 0) = true := by simpa using hn
    generalize hl : Lib.decDigits m = l at *
    clear hl
    go_enter Tryz.func21, Tryz.ntmps21
    go_wp2_with (go_at_call 21; refine (ih _).mono ?_; rintro e w2 ⟨rfl, hb2⟩)
    go_ret
    exact ⟨congrArg Ending.returned (congrArg Value.string (str_app [45] l)), hb2⟩
  · obtain ⟨m, rfl⟩ : ∃ m : Nat, n = (m : Int) := ⟨n.toNat, by omega⟩
    rw [Lib.itoa_nonneg]
    exact dec_nat m (by omega) w
end Go.Proofs.YtiglllddgikeiabGreatDoor

namespace Go.Proofs.YtiglllddgikeiabGreatDoor
open Go.RowKit Go.Rep
set_option maxRecDepth 100000
abbrev recO (r c h : Int) (A : Option Addr) (m cp : Nat) : Array Value := #[.int .i64 r, .int .i64 c, .int .i64 h, .slice A m cp]
/-- What is known of a string of one number. -/
theorem dec_S (n : Int) (h0 : -4611686018427387904 ≤ n) (h1 : n ≤ 4611686018427387904) (w : World) : Calls Tryz.prog 21 #[.int .i64 n] w fun e w' => e = .returned (.string (S (Lib.itoa n))) ∧ Below w.heap.size w w' := dec_any n h0 h1 w
/-- A digit, cut out of the sixteen. -/
theorem hexpiece (q : Nat) (hq : q < 16) (W : World) : (Instr.slice 9 (.string ⟨#[48, 49, 50, 51, 52, 53, 54, 55, 56, 57, 97, 98, 99, 100, 101, 102]⟩) (some (.int .u8 q)) (some (.int .u8 ((q : Int) + 1))) none).run Tryz.prog W = .ok (.string (S [hexd q])) W := by
  rw [run_slice_string_if W 9 _ _ _ _ _ Tryz.underlying9]
  have h16 : (ByteArray.mk #[48, 49, 50, 51, 52, 53, 54, 55, 56, 57, 97, 98, 99, 100, 101, 102]).size = 16 := rfl
  rw [if_pos (by rw [h16]; omega), if_pos (by omega)]
  congr 2
  rw [show ((q : Int) + 1).toNat = q + 1 by omega, show (q : Int).toNat = q by omega]
  have key : (List.range 16).map (fun q => (ByteArray.extract ⟨#[48, 49, 50, 51, 52, 53, 54, 55, 56, 57, 97, 98, 99, 100, 101, 102]⟩ q (q + 1)).data.toList) = (List.range 16).map (fun q => [hexd q]) := by kernel_rfl
  have h2 := congrArg (fun l => l[q]?) key
  simp only [List.getElem?_map, List.getElem?_range hq, Option.map_some, Option.some.injEq] at h2
  rw [← S_of (ByteArray.extract ⟨#[48, 49, 50, 51, 52, 53, 54, 55, 56, 57, 97, 98, 99, 100, 101, 102]⟩ q (q + 1)), h2]
section
variable {r c h : Int} {A : Option Addr} {m cp B : Nat} {l : List Ev} {w : World}
set_option maxHeartbeats 4000000 in
theorem text_any (hr : Reads w B 6 A m (evCells l)) (hB : B ≤ w.heap.size) (_hc : cp ≤ maxLen) (hmc : m ≤ cp) (hv : validB r c h l = true) :
    Calls Tryz.prog 7 #[.agg (recO r c h A m cp)] w fun e w' => e = .returned (.string (S (textL r c h l))) ∧ Below w.heap.size w w' := by
  obtain ⟨p1, p2, p3, p4, p5, p6, p7, _⟩ := valid_parts hv
  have hm2 : m ≤ 2000 := by rw [← hr.evs]; exact p7
  have HL := Lib.hid hr.evs
  have HV := Lib.hid hv
  clear hv
  have hra := hr.alloc hB (.cells (recO r c h A m cp) 26)
  have B1 := Blk.new w 26 (recO r c h A m cp)
  have hb0 : Below w.heap.size w (w.alloc (.cells (recO r c h A m cp) 26)) := (Below.refl _ _).alloc (Nat.le_refl _) _
  have zr := itoa_len r (by omega) (by omega)
  have zc := itoa_len c (by omega) (by omega)
  have zh := itoa_len h (by omega) (by omega)
  generalize hdr : Lib.itoa r = dr at *
  generalize hdc : Lib.itoa c = dc at *
  generalize hdh : Lib.itoa h = dh at *
  have HDr := Lib.hid hdr
  have HDc := Lib.hid hdc
  have HDh := Lib.hid hdh
  have cr := dec_S r (by omega) (by omega)
  have cc := dec_S c (by omega) (by omega)
  have ch := dec_S h (by omega) (by omega)
  rw [hdr] at cr
  rw [hdc] at cc
  rw [hdh] at ch
  clear hdr hdc hdh
  obtain ⟨zdr, ydr⟩ := sized dr
  obtain ⟨zdc, ydc⟩ := sized dc
  obtain ⟨zdh, ydh⟩ := sized dh
  obtain ⟨s0, sz0, sE0, sl0, sq0, sn0, sy0⟩ := cat [116, 101, 114, 109, 105, 110, 97, 108, 32] dr ⟨#[116, 101, 114, 109, 105, 110, 97, 108, 32]⟩ (S dr) 9 zdr 9 21 30 rfl rfl rfl ydr (by decide) zr rfl (by decide)
  obtain ⟨s1, sz1, sE1, sl1, sq1, sn1, sy1⟩ := cat s0 [32] (S s0) ⟨#[32]⟩ sz0 1 30 1 31 rfl rfl sy0 rfl sl0 (by decide) rfl (by decide)
  obtain ⟨s2, sz2, sE2, sl2, sq2, sn2, sy2⟩ := cat s1 dc (S s1) (S dc) sz1 zdc 31 21 52 rfl rfl sy1 ydc sl1 zc rfl (by decide)
  obtain ⟨s3, sz3, sE3, sl3, sq3, sn3, sy3⟩ := cat s2 [32] (S s2) ⟨#[32]⟩ sz2 1 52 1 53 rfl rfl sy2 rfl sl2 (by decide) rfl (by decide)
  obtain ⟨s4, sz4, sE4, sl4, sq4, sn4, sy4⟩ := cat s3 dh (S s3) (S dh) sz3 zdh 53 21 74 rfl rfl sy3 ydh sl3 zh rfl (by decide)
  obtain ⟨s5, sz5, sE5, sl5, sq5, sn5, sy5⟩ := cat s4 [10] (S s4) ⟨#[10]⟩ sz4 1 74 1 75 rfl rfl sy4 rfl sl4 (by decide) rfl (by decide)
  go_enter Tryz.func7, Tryz.ntmps7
  go_upto_region 1 with fail
  have a0 : (w.alloc (.cells (recO r c h A m cp) 26)).drew.cell? ⟨w.heap.size, 0, none⟩ = some (.int .i64 r) := (B1.drew).cell 0
  have a1 : (w.alloc (.cells (recO r c h A m cp) 26)).drew.cell? ⟨w.heap.size, 1, none⟩ = some (.int .i64 c) := (B1.drew).cell 1
  have a2 : (w.alloc (.cells (recO r c h A m cp) 26)).drew.cell? ⟨w.heap.size, 2, none⟩ = some (.int .i64 h) := (B1.drew).cell 2
  have a3 : (w.alloc (.cells (recO r c h A m cp) 26)).drew.cell? ⟨w.heap.size, 3, none⟩ = some (.slice A m cp) := (B1.drew).cell 3
  (go_region_held3 (fun w' => w'.cell? ⟨w.heap.size, 0, none⟩ = some (.int .i64 r) ∧ w'.cell? ⟨w.heap.size, 1, none⟩ = some (.int .i64 c) ∧ w'.cell? ⟨w.heap.size, 2, none⟩ = some (.int .i64 h)) (first | exact ⟨a0, a1, a2⟩ | exact ⟨b0, b1, b2⟩ | exact ⟨c0, c1, c2⟩ | exact ⟨d0, d1, d2⟩) (first
    | (have q := hb3; clear q; go_at_call 21; refine (ch w3).mono ?_; rintro e w4 ⟨rfl, hb4⟩; have B4 := B3.below hb4 B3.lt; have d0 : w4.cell? ⟨w.heap.size, 0, none⟩ = some (.int .i64 r) := (B4).cell 0; have d1 : w4.cell? ⟨w.heap.size, 1, none⟩ = some (.int .i64 c) := (B4).cell 1; have d2 : w4.cell? ⟨w.heap.size, 2, none⟩ = some (.int .i64 h) := (B4).cell 2; have d3 : w4.cell? ⟨w.heap.size, 3, none⟩ = some (.slice A m cp) := (B4).cell 3)
    | (have q := hb2; clear q; go_at_call 21; refine (cc w2).mono ?_; rintro e w3 ⟨rfl, hb3⟩; have B3 := B2.below hb3 B2.lt; have c0 : w3.cell? ⟨w.heap.size, 0, none⟩ = some (.int .i64 r) := (B3).cell 0; have c1 : w3.cell? ⟨w.heap.size, 1, none⟩ = some (.int .i64 c) := (B3).cell 1; have c2 : w3.cell? ⟨w.heap.size, 2, none⟩ = some (.int .i64 h) := (B3).cell 2; have c3 : w3.cell? ⟨w.heap.size, 3, none⟩ = some (.slice A m cp) := (B3).cell 3)
    | (go_at_call 21; refine (cr (w.alloc (.cells (recO r c h A m cp) 26)).drew).mono ?_; rintro e w2 ⟨rfl, hb2⟩; have B2 := B1.drew.below hb2 B1.drew.lt; have b0 : w2.cell? ⟨w.heap.size, 0, none⟩ = some (.int .i64 r) := (B2).cell 0; have b1 : w2.cell? ⟨w.heap.size, 1, none⟩ = some (.int .i64 c) := (B2).cell 1; have b2 : w2.cell? ⟨w.heap.size, 2, none⟩ = some (.int .i64 h) := (B2).cell 2; have b3 : w2.cell? ⟨w.heap.size, 3, none⟩ = some (.slice A m cp) := (B2).cell 3) | fail))
  have hb4' : Below w.heap.size w w4 := (((hb0.then _ (below_drewN (Below.refl _ _) 1)).then _ hb2).then _ hb3).then _ hb4
  have HW4 := Lib.hid hb4'
  clear a0 a1 a2 a3 b0 b1 b2 b3 c0 c1 c2 c3 d0 d1 d2 d3 hb2 hb3 hb4 B1 B2 B3 hra hb0 cr cc ch hb4'
  have ht0 : Hid (s5 = textTo r c h l 0) := Lib.hid (by rw [textTo_zero, sE5.out, sE4.out, sE3.out, sE2.out, sE1.out, sE0.out, ← HDr.out, ← HDc.out, ← HDh.out]; simp [headL, numL])
  go_wp2
  go_loopw [3, 4, 5] (fun x y i wr => ∃ (k : Nat) (acc : List UInt8), k ≤ m ∧ x = .string (S acc) ∧ y = .int .i64 (lastOf 0 (l.take k)) ∧ i = .int .i64 k ∧ Hid (acc = textTo r c h l k) ∧ Blk wr w.heap.size 26 (recO r c h A m cp) ∧ Below w.heap.size w wr) (fun _ _ i _ => m - (intOf i).toNat)
  case atStart => exact ⟨0, s5, Nat.zero_le _, rfl, rfl, rfl, ht0, B4, HW4.out⟩
  case round =>
    obtain ⟨k, acc, hk, rfl, rfl, rfl, hacc, hBr, hbr⟩ := hrel
    by_cases hlt : k < m
    · have hrr := hr.below (hbr.mono hB)
      obtain ⟨ad, e, rfl, he, x0, x1, x2, x3, x4, x5⟩ := hrr.ev hlt
      have b3 : wr.cell? ⟨w.heap.size, 3, none⟩ = some (.slice (some ad) m cp) := hBr.cell 3
      obtain ⟨ta, tk, ts, tr, tc, tn⟩ := e
      obtain ⟨hok, l0, l1, l2⟩ := valid_at HV.out he
      have hcs := okOp_cases hok
      dsimp only at x0 x1 x2 x3 x4 x5 l0 l1 l2 hcs
      have hsz := hbr.size
      have hrs := hBr.lt
      have zd := itoa_len (ta - lastOf 0 (l.take k)) (by omega) (by omega)
      have cd := dec_S (ta - lastOf 0 (l.take k)) (by omega) (by omega)
      have hwd : IntKind.i64.wrap (ta - lastOf 0 (l.take k)) = ta - lastOf 0 (l.take k) := IntWalk.i64_in _ (by omega)
      have hla : acc.length ≤ 20000000 := by rw [hacc.out]; exact textTo_len HV.out k
      obtain ⟨zacc, yacc⟩ := sized acc
      generalize hdd : Lib.itoa (ta - lastOf 0 (l.take k)) = dd at *
      have HD := Lib.hid hdd
      clear hdd
      obtain ⟨zdd, ydd⟩ := sized dd
      obtain ⟨t0, tz0, tE0, tl0, tq0, tn0, ty0⟩ := cat acc dd (S acc) (S dd) zacc zdd 20000000 21 20000021 rfl rfl yacc ydd hla zd rfl (by decide)
      have b3a : ∀ o, (wr.alloc o).cell? ⟨w.heap.size, 3, none⟩ = some (.slice (some ad) m cp) := fun o => (hBr.alloc o).cell 3
      have x0a : ∀ o, (wr.alloc o).cell? (ad.add (k * 6)) = some (.int .i64 ta) := fun o => ((hrr.alloc (by omega) o).evAt he).1
      have HE := Lib.hid he
      clear he
      have B6 := Blk.new wr 38 #[.int .i64 tk, .string ts, .int .i64 tr, .int .i64 tc, .int .i64 tn]
      rcases hcs with ⟨rfl, es1, es2, rfl, rfl, rfl⟩ | ⟨rfl, rfl, er1, er2, ec1, ec2, rfl⟩ | ⟨rfl, rfl, rfl, rfl, en0, en1, en2⟩
      · have hS : S ts.data.toList = ts := S_of ts
        obtain ⟨u0, uz0, uE0, ul0, uq0, un0, uy0⟩ := cat t0 [32, 119, 114, 105, 116, 101, 32] (S t0) ⟨#[32, 119, 114, 105, 116, 101, 32]⟩ tz0 7 20000021 7 20000028 rfl rfl ty0 rfl tl0 (by decide) rfl (by decide)
        go_wp2_with (first
          | (go_at_call 21; refine (cd (wr.alloc (.cells #[.int .i64 1, .string ts, .int .i64 0, .int .i64 0, .int .i64 0] 38))).mono ?_; rintro e5 w5 ⟨rfl, hb5⟩; have Bb5 := (hBr.alloc _).below hb5 (hBr.alloc _).lt; have B65 := B6.below hb5 B6.lt; have c3 : w5.cell? ⟨w.heap.size, 3, none⟩ = some (.slice (some ad) m cp) := Bb5.cell 3; obtain ⟨y0, y1, y2, y3, y4, y5⟩ := ((hrr.alloc (by omega) _).below (hb5.mono (by simp; omega))).evAt HE.out; have v0 : w5.cell? ⟨wr.heap.size, 0, none⟩ = some (.int .i64 1) := B65.cell 0; have v1 : w5.cell? ⟨wr.heap.size, 1, none⟩ = some (.string ts) := B65.cell 1))
        go_loopw [3, 7] (fun x i wq => ∃ (j n : Nat) (y : List UInt8), j ≤ ts.size ∧ x = .string (S y) ∧ i = .int .i64 j ∧ Hid (y = u0 ++ hexl (ts.data.toList.take j)) ∧ wq = w5.drewN n) (fun _ i _ => ts.size - (intOf i).toNat)
        case atStart => exact ⟨0, 0, u0, Nat.zero_le _, rfl, rfl, Lib.hid (by simp [hexl]), rfl⟩
        case round =>
          obtain ⟨j, n, y, hj, rfl, rfl, hy, rfl⟩ := hrel
          have q0 : (w5.drewN n).cell? ⟨wr.heap.size, 1, none⟩ = some (.string ts) := v1
          by_cases hjt : j < ts.size
          · have hj0 : (0 : Int) ≤ (j : Int) := by omega
            have hj1 : (j : Int) < (ts.size : Int) := by omega
            have hcl : ts.data.toList[j]? = some (ts[j]'hjt) := by
              rw [Array.getElem?_toList]
              exact Array.getElem?_eq_getElem hjt
            have hc256 : (ts[j]'hjt).toNat < 256 := UInt8.toNat_lt _
            have hqr : ∃ q v : Nat, (ts[j]'hjt).toNat / 16 = q ∧ (ts[j]'hjt).toNat % 16 = v ∧ IntKind.u8.wrap (((ts[j]'hjt).toNat : Int) / 16) = (q : Int) ∧ IntKind.u8.wrap ((q : Int) + 1) = (q : Int) + 1 ∧ IntKind.u8.wrap (((ts[j]'hjt).toNat : Int) % 16) = (v : Int) ∧ ((ts[j]'hjt).toNat : Int) % 16 = (v : Int) ∧ IntKind.u8.wrap (v : Int) = (v : Int) ∧ IntKind.u8.wrap ((v : Int) + 1) = (v : Int) + 1 := by
              have hw : ∀ x : Int, IntKind.u8.wrap x = x % 256 := fun x => rfl
              refine ⟨_, _, rfl, rfl, ?_, ?_, ?_, ?_, ?_, ?_⟩ <;> (try rw [hw]) <;> omega
            obtain ⟨q, v, hq, hv', g1, g2, g3, g4, g5, g6⟩ := hqr
            have g7 : Int.tmod ((ts[j]'hjt).toNat : Int) 16 = (v : Int) := by rw [Int.tmod_eq_emod_of_nonneg (by omega)]; exact g4
            have hq16 : q < 16 := by omega
            have hv16 : v < 16 := by omega
            have HQ := Lib.hid hq
            have HV' := Lib.hid hv'
            clear hq hv'
            have k1 := hexpiece q hq16
            have k2 := hexpiece v hv16
            have hs1 : (S [hexd q]).size = 1 := rfl
            have hs2 : (S [hexd v]).size = 1 := rfl
            have hyl : y.length ≤ 20010000 := by rw [hy.out, List.length_append, hexl_length, List.length_take]; omega
            obtain ⟨zy, yy⟩ := sized y
            obtain ⟨x0, xz0, xE0, xl0, xq0, xn0, xy0⟩ := cat y [hexd q] (S y) (S [hexd q]) zy 1 20010000 1 20010001 rfl rfl yy rfl hyl (by simp) rfl (by decide)
            obtain ⟨x1, xz1, xE1, xl1, xq1, xn1, xy1⟩ := cat x0 [hexd v] (S x0) (S [hexd v]) xz0 1 20010001 1 20010002 rfl rfl xy0 rfl xl0 (by simp) rfl (by decide)
            go_wp2
            go_quiet (fail)
            go_wp2_with fail
            go_roundw
            case rel =>
              refine ⟨j + 1, n + nq, x1, by omega, rfl, by go_num, Lib.hid ?_, rfl⟩
              rw [hexl_take hcl, xE1.out, xE0.out, hy.out]
              simp [hex2, HQ.out, HV'.out]
            case measure => simp [intOf]; omega
          · have hje : j = ts.size := by omega
            have hyl : y.length ≤ 20010000 := by rw [hy.out, List.length_append, hexl_length, List.length_take]; omega
            obtain ⟨zy, yy⟩ := sized y
            obtain ⟨x0, xz0, xE0, xl0, xq0, xn0, xy0⟩ := cat y [10] (S y) ⟨#[10]⟩ zy 1 20010000 1 20010001 rfl rfl yy rfl hyl (by decide) rfl (by decide)
            go_wp2
            go_roundw
            case rel =>
              have hB6 := hbr.then (wr.alloc (.cells #[.int .i64 1, .string ts, .int .i64 0, .int .i64 0, .int .i64 0] 38)) ((Below.refl _ _).alloc (Nat.le_refl _) _)
              have hB7 := (hB6.then _ hb5).then _ (below_drewN (Below.refl _ _) n)
              refine ⟨k + 1, x0, by omega, rfl, by rw [lastOf_succ HE.out], by go_num, Lib.hid ?_, Blk.below Bb5 (below_drewN (Below.refl _ _) n) Bb5.lt, hB7⟩
              rw [textTo_succ HE.out, xE0.out, hy.out, hje, uE0.out, tE0.out, hacc.out, ← HD.out]
              have htk : ts.data.toList.take ts.size = ts.data.toList := List.take_of_length_le (by rw [Array.length_toList]; exact Nat.le_refl _)
              rw [htk]
              simp [evL, bodyL]
            case measure => simp [intOf]; omega
      · have zr2 := itoa_len tr (by omega) (by omega)
        have zc2 := itoa_len tc (by omega) (by omega)
        have cr2 := dec_S tr (by omega) (by omega)
        have cc2 := dec_S tc (by omega) (by omega)
        generalize hdr2 : Lib.itoa tr = er at *
        generalize hdc2 : Lib.itoa tc = ec at *
        have HR := Lib.hid hdr2
        have HC := Lib.hid hdc2
        clear hdr2 hdc2
        obtain ⟨zer, yer⟩ := sized er
        obtain ⟨zec, yec⟩ := sized ec
        obtain ⟨u0, uz0, uE0, ul0, uq0, un0, uy0⟩ := cat t0 [32, 114, 101, 115, 105, 122, 101, 32] (S t0) ⟨#[32, 114, 101, 115, 105, 122, 101, 32]⟩ tz0 8 20000021 8 20000029 rfl rfl ty0 rfl tl0 (by decide) rfl (by decide)
        obtain ⟨u1, uz1, uE1, ul1, uq1, un1, uy1⟩ := cat u0 er (S u0) (S er) uz0 zer 20000029 21 20000050 rfl rfl uy0 yer ul0 zr2 rfl (by decide)
        obtain ⟨u2, uz2, uE2, ul2, uq2, un2, uy2⟩ := cat u1 [32] (S u1) ⟨#[32]⟩ uz1 1 20000050 1 20000051 rfl rfl uy1 rfl ul1 (by decide) rfl (by decide)
        obtain ⟨u3, uz3, uE3, ul3, uq3, un3, uy3⟩ := cat u2 ec (S u2) (S ec) uz2 zec 20000051 21 20000072 rfl rfl uy2 yec ul2 zc2 rfl (by decide)
        obtain ⟨u4, uz4, uE4, ul4, uq4, un4, uy4⟩ := cat u3 [10] (S u3) ⟨#[10]⟩ uz3 1 20000072 1 20000073 rfl rfl uy3 rfl ul3 (by decide) rfl (by decide)
        go_upto_region 19 with (first
          | (go_at_call 21; refine (cd (wr.alloc (.cells #[.int .i64 2, .string (S []), .int .i64 tr, .int .i64 tc, .int .i64 0] 38))).mono ?_; rintro e5 w5 ⟨rfl, hb5⟩; have Bb5 := (hBr.alloc _).below hb5 (hBr.alloc _).lt; have B65 := B6.below hb5 B6.lt; have c3 : w5.cell? ⟨w.heap.size, 3, none⟩ = some (.slice (some ad) m cp) := Bb5.cell 3; obtain ⟨y0, y1, y2, y3, y4, y5⟩ := ((hrr.alloc (by omega) _).below (hb5.mono (by simp; omega))).evAt HE.out; have v0 : w5.cell? ⟨wr.heap.size, 0, none⟩ = some (.int .i64 2) := B65.cell 0))
        have f2 : w5.drew.cell? ⟨wr.heap.size, 2, none⟩ = some (.int .i64 tr) := (B65.drew).cell 2
        have f3 : w5.drew.cell? ⟨wr.heap.size, 3, none⟩ = some (.int .i64 tc) := (B65.drew).cell 3
        first | (go_region_held3 (fun w' => w'.cell? ⟨wr.heap.size, 2, none⟩ = some (.int .i64 tr) ∧ w'.cell? ⟨wr.heap.size, 3, none⟩ = some (.int .i64 tc)) (first | exact ⟨f2, f3⟩ | exact ⟨g2, g3⟩ | exact ⟨h2, h3⟩) (first
          | (have q := hb6; clear q; go_at_call 21; refine (cc2 w6).mono ?_; rintro e7 w7 ⟨rfl, hb7⟩; have B67 := B66.below hb7 B66.lt; have h2 : w7.cell? ⟨wr.heap.size, 2, none⟩ = some (.int .i64 tr) := (B67).cell 2; have h3 : w7.cell? ⟨wr.heap.size, 3, none⟩ = some (.int .i64 tc) := (B67).cell 3)
          | (go_at_call 21; refine (cr2 w5.drew).mono ?_; rintro e6 w6 ⟨rfl, hb6⟩; have B66 := B65.drew.below hb6 B65.drew.lt; have g2 : w6.cell? ⟨wr.heap.size, 2, none⟩ = some (.int .i64 tr) := (B66).cell 2; have g3 : w6.cell? ⟨wr.heap.size, 3, none⟩ = some (.int .i64 tc) := (B66).cell 3)
          | fail)) | fail
        go_wp2_with fail
        go_roundw
        case rel =>
          have hB6 := hbr.then (wr.alloc (.cells #[.int .i64 2, .string (S []), .int .i64 tr, .int .i64 tc, .int .i64 0] 38)) ((Below.refl _ _).alloc (Nat.le_refl _) _)
          have hB7 := (((hB6.then _ hb5).then _ (below_drewN (Below.refl _ _) 1)).then _ hb6).then _ hb7
          refine ⟨k + 1, u4, by omega, rfl, by rw [lastOf_succ HE.out], by go_num, Lib.hid ?_, (Bb5.drew.below hb6 Bb5.drew.lt).below hb7 (Bb5.drew.below hb6 Bb5.drew.lt).lt, hB7⟩
          rw [textTo_succ HE.out, uE4.out, uE3.out, uE2.out, uE1.out, uE0.out, tE0.out, hacc.out, ← HR.out, ← HC.out, ← HD.out]
          simp [evL, bodyL, numL]
        case measure => simp [intOf]; omega
      · have zn := itoa_len tn (by omega) (by omega)
        have cn := dec_S tn (by omega) (by omega)
        generalize hdn : Lib.itoa tn = dn at *
        have HN := Lib.hid hdn
        clear hdn
        obtain ⟨zdn, ydn⟩ := sized dn
        obtain ⟨u0, uz0, uE0, ul0, uq0, un0, uy0⟩ := cat t0 [32, 115, 99, 114, 111, 108, 108, 32] (S t0) ⟨#[32, 115, 99, 114, 111, 108, 108, 32]⟩ tz0 8 20000021 8 20000029 rfl rfl ty0 rfl tl0 (by decide) rfl (by decide)
        obtain ⟨u1, uz1, uE1, ul1, uq1, un1, uy1⟩ := cat u0 dn (S u0) (S dn) uz0 zdn 20000029 21 20000050 rfl rfl uy0 ydn ul0 zn rfl (by decide)
        obtain ⟨u2, uz2, uE2, ul2, uq2, un2, uy2⟩ := cat u1 [10] (S u1) ⟨#[10]⟩ uz1 1 20000050 1 20000051 rfl rfl uy1 rfl ul1 (by decide) rfl (by decide)
        go_wp2_with (first
          | (have q := hb5; clear q; go_at_call 21; refine (cn _).mono ?_; rintro e6 w6 ⟨rfl, hb6⟩)
          | (go_at_call 21; refine (cd (wr.alloc (.cells #[.int .i64 3, .string (S []), .int .i64 0, .int .i64 0, .int .i64 tn] 38))).mono ?_; rintro e5 w5 ⟨rfl, hb5⟩; have Bb5 := (hBr.alloc _).below hb5 (hBr.alloc _).lt; have B65 := B6.below hb5 B6.lt; have c3 : w5.cell? ⟨w.heap.size, 3, none⟩ = some (.slice (some ad) m cp) := Bb5.cell 3; obtain ⟨y0, y1, y2, y3, y4, y5⟩ := ((hrr.alloc (by omega) _).below (hb5.mono (by simp; omega))).evAt HE.out; have v0 : w5.cell? ⟨wr.heap.size, 0, none⟩ = some (.int .i64 3) := B65.cell 0; have v4 : w5.cell? ⟨wr.heap.size, 4, none⟩ = some (.int .i64 tn) := B65.cell 4))
        go_roundw
        case rel =>
          have hB6 := hbr.then (wr.alloc (.cells #[.int .i64 3, .string (S []), .int .i64 0, .int .i64 0, .int .i64 tn] 38)) ((Below.refl _ _).alloc (Nat.le_refl _) _)
          have hB7 := (hB6.then _ hb5).then _ hb6
          refine ⟨k + 1, u2, by omega, rfl, by rw [lastOf_succ HE.out], by go_num, Lib.hid ?_, Bb5.below hb6 Bb5.lt, hB7⟩
          rw [textTo_succ HE.out, uE2.out, uE1.out, uE0.out, tE0.out, hacc.out, ← HN.out, ← HD.out]
          simp [evL, bodyL, numL]
        case measure => simp [intOf]; omega
    · obtain rfl : k = m := by omega
      have hb3 : wr.cell? ⟨w.heap.size, 3, none⟩ = some (.slice A k cp) := hBr.cell 3
      have hfin : Hid (acc = textL r c h l) := Lib.hid (by rw [hacc.out, textTo_all (by rw [HL.out]; exact Nat.le_refl _)])
      go_wp2
      go_ret
      exact ⟨by rw [hfin.out]; rfl, hbr⟩
end
end Go.Proofs.YtiglllddgikeiabGreatDoor
