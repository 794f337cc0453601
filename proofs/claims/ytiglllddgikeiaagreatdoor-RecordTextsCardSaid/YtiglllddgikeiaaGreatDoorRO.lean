/- The run of the law by the evaluator returns true, whatever the numbers. -/
import Derived.Test.YtiglllddgikeiaaGreatDoorM5
import Derived.Deep.RegionHeld3
namespace Go.Proofs.YtiglllddgikeiaaGreatDoor
open Go.RowKit Go.Rep
set_option maxRecDepth 100000
theorem prev_all {l : List Ev} {m : Nat} {e : Ev} (h0 : 0 < m) (he : l[m - 1]? = some e) : prevAt l m = e.at' := by
  have := prevAt_succ he
  rwa [show m - 1 + 1 = m by omega] at this
theorem ev_last {w : World} {B m : Nat} {ad : Addr} {xs : List Ev} {e : Ev} (h : Reads w B 6 (some ad) m (evCells xs)) (he : xs[m - 1]? = some e) : w.cell? (ad.add ((m - 1) * 6)) = some (.int .i64 e.at') := (h.evAt he).1
section
variable {r c h : Int} {A : Option Addr} {m cp B : Nat} {l : List Ev} {w : World}
set_option maxHeartbeats 4000000 in
theorem rt_large (hw : Laid w) (hr : Reads w B 6 A m (evCells l)) (hB : B ≤ w.heap.size) (hs : smallB l = false) :
    Calls Tryz.prog 3 #[.agg (recO r c h A m cp)] w fun e w' => e = .returned (.bool true) ∧ Below w.heap.size w w' := by
  have HS := Lib.hid hs
  clear hs
  have hb0 : Below w.heap.size w (w.alloc (.cells (recO r c h A m cp) 26)) := (Below.refl _ _).alloc (Nat.le_refl _) _
  have hra := hr.alloc hB (.cells (recO r c h A m cp) 26)
  have HW := Lib.hid hw
  go_enter Tryz.func3, Tryz.ntmps3
  go_wp2_with (first
    | (go_at_call 4; refine (small_any hra (by simp; omega)).mono ?_; rintro e w2 ⟨rfl, hb2⟩; rw [HS.out])
    | (go_at_call 5; refine (known_any (HW.out.up (hb0.then _ hb2))).mono ?_; rintro e w3 ⟨rfl, hb3⟩))
  go_ret
  exact ⟨rfl, (hb0.then _ hb2).then _ hb3⟩
set_option maxHeartbeats 8000000 in
theorem rt_small (hw : Laid w) (hr : Reads w B 6 A m (evCells l)) (hB : B ≤ w.heap.size) (hc : cp ≤ maxLen) (hmc : m ≤ cp) (hs : smallB l = true) :
    Calls Tryz.prog 3 #[.agg (recO r c h A m cp)] w fun e w' => e = .returned (.bool true) ∧ Below w.heap.size w w' := by
  have hm2 : m ≤ 20 := by
    rw [← hr.evs]
    unfold smallB at hs
    simp only [Bool.and_eq_true, decide_eq_true_eq] at hs
    exact hs.1
  have HS := Lib.hid hs
  clear hs
  have B0 := Blk.new w 26 (recO r c h A m cp)
  have hb0 : Below w.heap.size w (w.alloc (.cells (recO r c h A m cp) 26)) := (Below.refl _ _).alloc (Nat.le_refl _) _
  have hra := hr.alloc hB (.cells (recO r c h A m cp) 26)
  have HW := Lib.hid hw
  have hlm := hr.evs
  have HLM := Lib.hid hlm
  clear hlm
  obtain ⟨vb, hvb⟩ : ∃ vb, validB r c h l = vb := ⟨_, rfl⟩
  have HVB := Lib.hid hvb
  have htl : vb = true → (textL r c h l).length ≤ 200000 := fun e => text_size (by rw [hvb, e]) HS.out
  obtain ⟨tx, htx⟩ : ∃ tx, textL r c h l = tx := ⟨_, rfl⟩
  rw [htx] at htl
  have HTX := Lib.hid htx
  clear hvb htx
  have hwa : w.heap.size < (w.alloc (.cells (recO r c h A m cp) 26)).heap.size := by simp
  rcases Nat.eq_zero_or_pos m with h0 | h0
  · have hm0 : ¬ (0 : Int) < (m : Int) := by omega
    have HPA : Hid (prevAt l m = 0) := Lib.hid (by rw [h0]; rfl)
    clear h0
    go_enter Tryz.func3, Tryz.ntmps3
    go_upto_region 7 with (go_at_call 4; refine (small_any hra (by simp; omega)).mono ?_; rintro e w2 ⟨rfl, hb2⟩; rw [HS.out]; have B2 := B0.below hb2 hwa; have a0 : w2.cell? ⟨w.heap.size, 0, none⟩ = some (.int .i64 r) := B2.cell 0; have a1 : w2.cell? ⟨w.heap.size, 1, none⟩ = some (.int .i64 c) := B2.cell 1; have a2 : w2.cell? ⟨w.heap.size, 2, none⟩ = some (.int .i64 h) := B2.cell 2; have a3 : w2.cell? ⟨w.heap.size, 3, none⟩ = some (.slice A m cp) := B2.cell 3)
    have hB2 : Below w.heap.size w w2 := hb0.then _ hb2
    have hr2 := hr.below (hB2.mono hB)
    have hs2 := hB2.size
    have h2d : ∀ i, w2.drew.cell? ⟨w.heap.size, i, none⟩ = w2.cell? ⟨w.heap.size, i, none⟩ := fun i => rfl
    have x0 : w2.drew.cell? ⟨w.heap.size, 0, none⟩ = some (.int .i64 r) := (B2.drew).cell 0
    have x1 : w2.drew.cell? ⟨w.heap.size, 1, none⟩ = some (.int .i64 c) := (B2.drew).cell 1
    have x2 : w2.drew.cell? ⟨w.heap.size, 2, none⟩ = some (.int .i64 h) := (B2.drew).cell 2
    have x3 : w2.drew.cell? ⟨w.heap.size, 3, none⟩ = some (.slice A m cp) := (B2.drew).cell 3
    cases vb with
    | false =>
      first | (go_region_held3 (fun w' => w'.cell? ⟨w.heap.size, 0, none⟩ = some (.int .i64 r) ∧ w'.cell? ⟨w.heap.size, 1, none⟩ = some (.int .i64 c) ∧ w'.cell? ⟨w.heap.size, 2, none⟩ = some (.int .i64 h) ∧ w'.cell? ⟨w.heap.size, 3, none⟩ = some (.slice A m cp)) (first | exact ⟨x0, x1, x2, x3⟩ | exact ⟨y0, y1, y2, y3⟩ | exact ⟨z0, z1, z2, z3⟩ | exact ⟨u0, u1, u2, u3⟩) (first
        | (have qq := hb4; clear qq; go_at_call 8; refine (length_any hr4 (by omega) (by omega)).mono ?_; rintro e w5 ⟨rfl, hb5⟩; rw [HPA.out]; have B5 := B4.below hb5 B4.lt; have u0 : w5.cell? ⟨w.heap.size, 0, none⟩ = some (.int .i64 r) := (B5).cell 0; have u1 : w5.cell? ⟨w.heap.size, 1, none⟩ = some (.int .i64 c) := (B5).cell 1; have u2 : w5.cell? ⟨w.heap.size, 2, none⟩ = some (.int .i64 h) := (B5).cell 2; have u3 : w5.cell? ⟨w.heap.size, 3, none⟩ = some (.slice A m cp) := (B5).cell 3)
        | (have qq := hb3; clear qq; go_at_call 7; refine (lvalid_any hr3 (by omega) hc hmc).mono ?_; rintro e w4 ⟨rfl, hb4⟩; rw [HVB.out]; have B4 := B3.below hb4 B3.lt; have hB4 := hB3.then _ hb4; have hr4 := hr.below (hB4.mono hB); have hs4 := hB4.size; have z0 : w4.cell? ⟨w.heap.size, 0, none⟩ = some (.int .i64 r) := (B4).cell 0; have z1 : w4.cell? ⟨w.heap.size, 1, none⟩ = some (.int .i64 c) := (B4).cell 1; have z2 : w4.cell? ⟨w.heap.size, 2, none⟩ = some (.int .i64 h) := (B4).cell 2; have z3 : w4.cell? ⟨w.heap.size, 3, none⟩ = some (.slice A m cp) := (B4).cell 3)
        | (go_at_call 6; refine (valid_any (w := w2.drew) (hr2.drewN 1) (by show B ≤ w2.heap.size; omega) hc hmc).mono ?_; rintro e w3 ⟨rfl, hb3⟩; rw [HVB.out]; have B3 := B2.drew.below hb3 B2.drew.lt; have hB3 : Below w.heap.size w w3 := (below_drewN hB2 1).then _ hb3; have hr3 := hr.below (hB3.mono hB); have hs3 := hB3.size; have y0 : w3.cell? ⟨w.heap.size, 0, none⟩ = some (.int .i64 r) := (B3).cell 0; have y1 : w3.cell? ⟨w.heap.size, 1, none⟩ = some (.int .i64 c) := (B3).cell 1; have y2 : w3.cell? ⟨w.heap.size, 2, none⟩ = some (.int .i64 h) := (B3).cell 2; have y3 : w3.cell? ⟨w.heap.size, 3, none⟩ = some (.slice A m cp) := (B3).cell 3))) | fail
      have hB5 := hB4.then _ hb5
      have hr5 := hr.below (hB5.mono hB)
      have hs5 := hB5.size
      go_wp2_with (first
        | (have qq := hb7; clear qq; go_at_call 5; refine (known_any (HW.out.up hB7)).mono ?_; rintro e w8 ⟨rfl, hb8⟩)
        | (have qq := hb6; clear qq; go_at_call 9; refine (texts_bad hr6 (by omega) hc hmc HVB.out).mono ?_; rintro e w7 ⟨rfl, hb7⟩; have hB7 := hB6.then _ hb7)
        | (go_at_call 7; refine (lvalid_any hr5 (by omega) hc hmc).mono ?_; rintro e w6 ⟨rfl, hb6⟩; rw [HVB.out]; have B6 := B5.below hb6 B5.lt; have hB6 := hB5.then _ hb6; have hr6 := hr.below (hB6.mono hB); have hs6 := hB6.size; have v0 : w6.cell? ⟨w.heap.size, 0, none⟩ = some (.int .i64 r) := (B6).cell 0; have v1 : w6.cell? ⟨w.heap.size, 1, none⟩ = some (.int .i64 c) := (B6).cell 1; have v2 : w6.cell? ⟨w.heap.size, 2, none⟩ = some (.int .i64 h) := (B6).cell 2; have v3 : w6.cell? ⟨w.heap.size, 3, none⟩ = some (.slice A m cp) := (B6).cell 3))
      go_ret
      exact ⟨rfl, hB7.then _ hb8⟩
    | true =>
      first | (go_region_held3 (fun w' => w'.cell? ⟨w.heap.size, 0, none⟩ = some (.int .i64 r) ∧ w'.cell? ⟨w.heap.size, 1, none⟩ = some (.int .i64 c) ∧ w'.cell? ⟨w.heap.size, 2, none⟩ = some (.int .i64 h) ∧ w'.cell? ⟨w.heap.size, 3, none⟩ = some (.slice A m cp)) (first | exact ⟨x0, x1, x2, x3⟩ | exact ⟨y0, y1, y2, y3⟩ | exact ⟨z0, z1, z2, z3⟩ | exact ⟨u0, u1, u2, u3⟩) (first
        | (have qq := hb4; clear qq; go_at_call 8; refine (length_any hr4 (by omega) (by omega)).mono ?_; rintro e w5 ⟨rfl, hb5⟩; rw [HPA.out]; have B5 := B4.below hb5 B4.lt; have u0 : w5.cell? ⟨w.heap.size, 0, none⟩ = some (.int .i64 r) := (B5).cell 0; have u1 : w5.cell? ⟨w.heap.size, 1, none⟩ = some (.int .i64 c) := (B5).cell 1; have u2 : w5.cell? ⟨w.heap.size, 2, none⟩ = some (.int .i64 h) := (B5).cell 2; have u3 : w5.cell? ⟨w.heap.size, 3, none⟩ = some (.slice A m cp) := (B5).cell 3)
        | (have qq := hb3; clear qq; go_at_call 7; refine (lvalid_any hr3 (by omega) hc hmc).mono ?_; rintro e w4 ⟨rfl, hb4⟩; rw [HVB.out]; have B4 := B3.below hb4 B3.lt; have hB4 := hB3.then _ hb4; have hr4 := hr.below (hB4.mono hB); have hs4 := hB4.size; have z0 : w4.cell? ⟨w.heap.size, 0, none⟩ = some (.int .i64 r) := (B4).cell 0; have z1 : w4.cell? ⟨w.heap.size, 1, none⟩ = some (.int .i64 c) := (B4).cell 1; have z2 : w4.cell? ⟨w.heap.size, 2, none⟩ = some (.int .i64 h) := (B4).cell 2; have z3 : w4.cell? ⟨w.heap.size, 3, none⟩ = some (.slice A m cp) := (B4).cell 3)
        | (go_at_call 6; refine (valid_any (w := w2.drew) (hr2.drewN 1) (by show B ≤ w2.heap.size; omega) hc hmc).mono ?_; rintro e w3 ⟨rfl, hb3⟩; rw [HVB.out]; have B3 := B2.drew.below hb3 B2.drew.lt; have hB3 : Below w.heap.size w w3 := (below_drewN hB2 1).then _ hb3; have hr3 := hr.below (hB3.mono hB); have hs3 := hB3.size; have y0 : w3.cell? ⟨w.heap.size, 0, none⟩ = some (.int .i64 r) := (B3).cell 0; have y1 : w3.cell? ⟨w.heap.size, 1, none⟩ = some (.int .i64 c) := (B3).cell 1; have y2 : w3.cell? ⟨w.heap.size, 2, none⟩ = some (.int .i64 h) := (B3).cell 2; have y3 : w3.cell? ⟨w.heap.size, 3, none⟩ = some (.slice A m cp) := (B3).cell 3))) | fail
      have hB5 := hB4.then _ hb5
      have hr5 := hr.below (hB5.mono hB)
      have hs5 := hB5.size
      have htl2 := htl (by first | trivial | rfl)
      go_upto_region 11 with (go_at_call 7; refine (lvalid_any hr5 (by omega) hc hmc).mono ?_; rintro e w6 ⟨rfl, hb6⟩; rw [HVB.out]; have B6 := B5.below hb6 B5.lt; have hB6 := hB5.then _ hb6; have hr6 := hr.below (hB6.mono hB); have hs6 := hB6.size)
      have k0 : w6.drew.cell? ⟨w.heap.size, 0, none⟩ = some (.int .i64 r) := (B6.drew).cell 0
      have k1 : w6.drew.cell? ⟨w.heap.size, 1, none⟩ = some (.int .i64 c) := (B6.drew).cell 1
      have k2 : w6.drew.cell? ⟨w.heap.size, 2, none⟩ = some (.int .i64 h) := (B6.drew).cell 2
      have k3 : w6.drew.cell? ⟨w.heap.size, 3, none⟩ = some (.slice A m cp) := (B6.drew).cell 3
      first | (go_region_held3 (fun w' => w'.cell? ⟨w.heap.size, 0, none⟩ = some (.int .i64 r) ∧ w'.cell? ⟨w.heap.size, 1, none⟩ = some (.int .i64 c) ∧ w'.cell? ⟨w.heap.size, 2, none⟩ = some (.int .i64 h) ∧ w'.cell? ⟨w.heap.size, 3, none⟩ = some (.slice A m cp)) (first | exact ⟨k0, k1, k2, k3⟩ | exact ⟨l0, l1, l2, l3⟩ | exact ⟨o0, o1, o2, o3⟩ | exact ⟨p0, p1, p2, p3⟩ | exact ⟨q0, q1, q2, q3⟩ | exact ⟨s0, s1, s2, s3⟩) (first
        | (have qq := hb10; clear qq; go_at_call 5; refine (known_any (HW.out.up hB10)).mono ?_; rintro e w11 ⟨rfl, hb11⟩; have B11 := B10.below hb11 B10.lt; have s0 : w11.cell? ⟨w.heap.size, 0, none⟩ = some (.int .i64 r) := (B11).cell 0; have s1 : w11.cell? ⟨w.heap.size, 1, none⟩ = some (.int .i64 c) := (B11).cell 1; have s2 : w11.cell? ⟨w.heap.size, 2, none⟩ = some (.int .i64 h) := (B11).cell 2; have s3 : w11.cell? ⟨w.heap.size, 3, none⟩ = some (.slice A m cp) := (B11).cell 3)
        | (have qq := hb9; clear qq; go_at_call 11; refine (parses_any hr9 (by omega) (by omega) HVB.out (HW.out.up hB9) tx HTX (by omega)).mono ?_; rintro e w10 ⟨rfl, hb10⟩; have B10 := B9.below hb10 B9.lt; have hB10 := hB9.then _ hb10; have q0 : w10.cell? ⟨w.heap.size, 0, none⟩ = some (.int .i64 r) := (B10).cell 0; have q1 : w10.cell? ⟨w.heap.size, 1, none⟩ = some (.int .i64 c) := (B10).cell 1; have q2 : w10.cell? ⟨w.heap.size, 2, none⟩ = some (.int .i64 h) := (B10).cell 2; have q3 : w10.cell? ⟨w.heap.size, 3, none⟩ = some (.slice A m cp) := (B10).cell 3)
        | (have qq := hb8; clear qq; go_at_call 10; refine (text_v hr8 (by omega) hc hmc HVB.out tx HTX).mono ?_; rintro e w9 ⟨rfl, hb9⟩; have B9 := B8.below hb9 B8.lt; have hB9 := hB8.then _ hb9; have hr9 := hr.below (hB9.mono hB); have hs9 := hB9.size; have p0 : w9.cell? ⟨w.heap.size, 0, none⟩ = some (.int .i64 r) := (B9).cell 0; have p1 : w9.cell? ⟨w.heap.size, 1, none⟩ = some (.int .i64 c) := (B9).cell 1; have p2 : w9.cell? ⟨w.heap.size, 2, none⟩ = some (.int .i64 h) := (B9).cell 2; have p3 : w9.cell? ⟨w.heap.size, 3, none⟩ = some (.slice A m cp) := (B9).cell 3)
        | (have qq := hb7; clear qq; go_at_call 9; refine (texts_ok hr7 (by omega) hc hmc HVB.out (HW.out.up hB7) tx HTX).mono ?_; rintro e w8 ⟨rfl, hb8⟩; have B8 := B7.below hb8 B7.lt; have hB8 := hB7.then _ hb8; have hr8 := hr.below (hB8.mono hB); have hs8 := hB8.size; have o0 : w8.cell? ⟨w.heap.size, 0, none⟩ = some (.int .i64 r) := (B8).cell 0; have o1 : w8.cell? ⟨w.heap.size, 1, none⟩ = some (.int .i64 c) := (B8).cell 1; have o2 : w8.cell? ⟨w.heap.size, 2, none⟩ = some (.int .i64 h) := (B8).cell 2; have o3 : w8.cell? ⟨w.heap.size, 3, none⟩ = some (.slice A m cp) := (B8).cell 3)
        | (go_at_call 10; refine (text_v (w := w6.drew) (hr6.drewN 1) (by show B ≤ w6.heap.size; omega) hc hmc HVB.out tx HTX).mono ?_; rintro e w7 ⟨rfl, hb7⟩; have B7 := B6.drew.below hb7 B6.drew.lt; have hB7 : Below w.heap.size w w7 := (below_drewN hB6 1).then _ hb7; have hr7 := hr.below (hB7.mono hB); have hs7 := hB7.size; have l0 : w7.cell? ⟨w.heap.size, 0, none⟩ = some (.int .i64 r) := (B7).cell 0; have l1 : w7.cell? ⟨w.heap.size, 1, none⟩ = some (.int .i64 c) := (B7).cell 1; have l2 : w7.cell? ⟨w.heap.size, 2, none⟩ = some (.int .i64 h) := (B7).cell 2; have l3 : w7.cell? ⟨w.heap.size, 3, none⟩ = some (.slice A m cp) := (B7).cell 3))) | fail
      go_wp2_with fail
      go_ret
      exact ⟨rfl, hB10.then _ hb11⟩
  · obtain ⟨e0, he0⟩ : ∃ e, l[m - 1]? = some e := ⟨_, List.getElem?_eq_getElem (by rw [HLM.out]; omega)⟩
    have hpa := prev_all h0 he0
    obtain ⟨ad, hA, _⟩ := hr.2 h0
    subst hA
    have HE0 := Lib.hid he0
    obtain ⟨n, hn⟩ : ∃ n, e0.at' = n := ⟨_, rfl⟩
    rw [hn] at hpa
    have HPA := Lib.hid hpa
    have HNN := Lib.hid hn
    clear he0 hpa hn
    go_enter Tryz.func3, Tryz.ntmps3
    go_upto_region 7 with (go_at_call 4; refine (small_any hra (by simp; omega)).mono ?_; rintro e w2 ⟨rfl, hb2⟩; rw [HS.out]; have B2 := B0.below hb2 hwa; have a0 : w2.cell? ⟨w.heap.size, 0, none⟩ = some (.int .i64 r) := B2.cell 0; have a1 : w2.cell? ⟨w.heap.size, 1, none⟩ = some (.int .i64 c) := B2.cell 1; have a2 : w2.cell? ⟨w.heap.size, 2, none⟩ = some (.int .i64 h) := B2.cell 2; have a3 : w2.cell? ⟨w.heap.size, 3, none⟩ = some (.slice (some ad) m cp) := B2.cell 3; have e1 := ev_last (hr.below ((hb0.then _ hb2).mono hB)) HE0.out; rw [HNN.out] at e1; have hm1 : IntKind.i64.wrap ((m : Int) - 1) = ((m - 1 : Nat) : Int) := by rw [IntWalk.i64_in _ (by omega)]; omega)
    have hB2 : Below w.heap.size w w2 := hb0.then _ hb2
    have hr2 := hr.below (hB2.mono hB)
    have hs2 := hB2.size
    have h2d : ∀ i, w2.drew.cell? ⟨w.heap.size, i, none⟩ = w2.cell? ⟨w.heap.size, i, none⟩ := fun i => rfl
    have x0 : w2.drew.cell? ⟨w.heap.size, 0, none⟩ = some (.int .i64 r) := (B2.drew).cell 0
    have x1 : w2.drew.cell? ⟨w.heap.size, 1, none⟩ = some (.int .i64 c) := (B2.drew).cell 1
    have x2 : w2.drew.cell? ⟨w.heap.size, 2, none⟩ = some (.int .i64 h) := (B2.drew).cell 2
    have x3 : w2.drew.cell? ⟨w.heap.size, 3, none⟩ = some (.slice (some ad) m cp) := (B2.drew).cell 3
    cases vb with
    | false =>
      first | (go_region_held3 (fun w' => w'.cell? ⟨w.heap.size, 0, none⟩ = some (.int .i64 r) ∧ w'.cell? ⟨w.heap.size, 1, none⟩ = some (.int .i64 c) ∧ w'.cell? ⟨w.heap.size, 2, none⟩ = some (.int .i64 h) ∧ w'.cell? ⟨w.heap.size, 3, none⟩ = some (.slice (some ad) m cp)) (first | exact ⟨x0, x1, x2, x3⟩ | exact ⟨y0, y1, y2, y3⟩ | exact ⟨z0, z1, z2, z3⟩ | exact ⟨u0, u1, u2, u3⟩) (first
        | (have qq := hb4; clear qq; go_at_call 8; refine (length_any hr4 (by omega) (by omega)).mono ?_; rintro e w5 ⟨rfl, hb5⟩; rw [HPA.out]; have B5 := B4.below hb5 B4.lt; have u0 : w5.cell? ⟨w.heap.size, 0, none⟩ = some (.int .i64 r) := (B5).cell 0; have u1 : w5.cell? ⟨w.heap.size, 1, none⟩ = some (.int .i64 c) := (B5).cell 1; have u2 : w5.cell? ⟨w.heap.size, 2, none⟩ = some (.int .i64 h) := (B5).cell 2; have u3 : w5.cell? ⟨w.heap.size, 3, none⟩ = some (.slice (some ad) m cp) := (B5).cell 3)
        | (have qq := hb3; clear qq; go_at_call 7; refine (lvalid_any hr3 (by omega) hc hmc).mono ?_; rintro e w4 ⟨rfl, hb4⟩; rw [HVB.out]; have B4 := B3.below hb4 B3.lt; have hB4 := hB3.then _ hb4; have hr4 := hr.below (hB4.mono hB); have hs4 := hB4.size; have z0 : w4.cell? ⟨w.heap.size, 0, none⟩ = some (.int .i64 r) := (B4).cell 0; have z1 : w4.cell? ⟨w.heap.size, 1, none⟩ = some (.int .i64 c) := (B4).cell 1; have z2 : w4.cell? ⟨w.heap.size, 2, none⟩ = some (.int .i64 h) := (B4).cell 2; have z3 : w4.cell? ⟨w.heap.size, 3, none⟩ = some (.slice (some ad) m cp) := (B4).cell 3)
        | (go_at_call 6; refine (valid_any (w := w2.drew) (hr2.drewN 1) (by show B ≤ w2.heap.size; omega) hc hmc).mono ?_; rintro e w3 ⟨rfl, hb3⟩; rw [HVB.out]; have B3 := B2.drew.below hb3 B2.drew.lt; have hB3 : Below w.heap.size w w3 := (below_drewN hB2 1).then _ hb3; have hr3 := hr.below (hB3.mono hB); have hs3 := hB3.size; have y0 : w3.cell? ⟨w.heap.size, 0, none⟩ = some (.int .i64 r) := (B3).cell 0; have y1 : w3.cell? ⟨w.heap.size, 1, none⟩ = some (.int .i64 c) := (B3).cell 1; have y2 : w3.cell? ⟨w.heap.size, 2, none⟩ = some (.int .i64 h) := (B3).cell 2; have y3 : w3.cell? ⟨w.heap.size, 3, none⟩ = some (.slice (some ad) m cp) := (B3).cell 3))) | fail
      have hB5 := hB4.then _ hb5
      have hr5 := hr.below (hB5.mono hB)
      have hs5 := hB5.size
      go_wp2_with (first
        | (have qq := hb7; clear qq; go_at_call 5; refine (known_any (HW.out.up hB7)).mono ?_; rintro e w8 ⟨rfl, hb8⟩)
        | (have qq := hb6; clear qq; go_at_call 9; refine (texts_bad hr6 (by omega) hc hmc HVB.out).mono ?_; rintro e w7 ⟨rfl, hb7⟩; have hB7 := hB6.then _ hb7)
        | (go_at_call 7; refine (lvalid_any hr5 (by omega) hc hmc).mono ?_; rintro e w6 ⟨rfl, hb6⟩; rw [HVB.out]; have B6 := B5.below hb6 B5.lt; have hB6 := hB5.then _ hb6; have hr6 := hr.below (hB6.mono hB); have hs6 := hB6.size; have v0 : w6.cell? ⟨w.heap.size, 0, none⟩ = some (.int .i64 r) := (B6).cell 0; have v1 : w6.cell? ⟨w.heap.size, 1, none⟩ = some (.int .i64 c) := (B6).cell 1; have v2 : w6.cell? ⟨w.heap.size, 2, none⟩ = some (.int .i64 h) := (B6).cell 2; have v3 : w6.cell? ⟨w.heap.size, 3, none⟩ = some (.slice (some ad) m cp) := (B6).cell 3))
      go_ret
      exact ⟨rfl, hB7.then _ hb8⟩
    | true =>
      first | (go_region_held3 (fun w' => w'.cell? ⟨w.heap.size, 0, none⟩ = some (.int .i64 r) ∧ w'.cell? ⟨w.heap.size, 1, none⟩ = some (.int .i64 c) ∧ w'.cell? ⟨w.heap.size, 2, none⟩ = some (.int .i64 h) ∧ w'.cell? ⟨w.heap.size, 3, none⟩ = some (.slice (some ad) m cp)) (first | exact ⟨x0, x1, x2, x3⟩ | exact ⟨y0, y1, y2, y3⟩ | exact ⟨z0, z1, z2, z3⟩ | exact ⟨u0, u1, u2, u3⟩) (first
        | (have qq := hb4; clear qq; go_at_call 8; refine (length_any hr4 (by omega) (by omega)).mono ?_; rintro e w5 ⟨rfl, hb5⟩; rw [HPA.out]; have B5 := B4.below hb5 B4.lt; have u0 : w5.cell? ⟨w.heap.size, 0, none⟩ = some (.int .i64 r) := (B5).cell 0; have u1 : w5.cell? ⟨w.heap.size, 1, none⟩ = some (.int .i64 c) := (B5).cell 1; have u2 : w5.cell? ⟨w.heap.size, 2, none⟩ = some (.int .i64 h) := (B5).cell 2; have u3 : w5.cell? ⟨w.heap.size, 3, none⟩ = some (.slice (some ad) m cp) := (B5).cell 3)
        | (have qq := hb3; clear qq; go_at_call 7; refine (lvalid_any hr3 (by omega) hc hmc).mono ?_; rintro e w4 ⟨rfl, hb4⟩; rw [HVB.out]; have B4 := B3.below hb4 B3.lt; have hB4 := hB3.then _ hb4; have hr4 := hr.below (hB4.mono hB); have hs4 := hB4.size; have z0 : w4.cell? ⟨w.heap.size, 0, none⟩ = some (.int .i64 r) := (B4).cell 0; have z1 : w4.cell? ⟨w.heap.size, 1, none⟩ = some (.int .i64 c) := (B4).cell 1; have z2 : w4.cell? ⟨w.heap.size, 2, none⟩ = some (.int .i64 h) := (B4).cell 2; have z3 : w4.cell? ⟨w.heap.size, 3, none⟩ = some (.slice (some ad) m cp) := (B4).cell 3)
        | (go_at_call 6; refine (valid_any (w := w2.drew) (hr2.drewN 1) (by show B ≤ w2.heap.size; omega) hc hmc).mono ?_; rintro e w3 ⟨rfl, hb3⟩; rw [HVB.out]; have B3 := B2.drew.below hb3 B2.drew.lt; have hB3 : Below w.heap.size w w3 := (below_drewN hB2 1).then _ hb3; have hr3 := hr.below (hB3.mono hB); have hs3 := hB3.size; have y0 : w3.cell? ⟨w.heap.size, 0, none⟩ = some (.int .i64 r) := (B3).cell 0; have y1 : w3.cell? ⟨w.heap.size, 1, none⟩ = some (.int .i64 c) := (B3).cell 1; have y2 : w3.cell? ⟨w.heap.size, 2, none⟩ = some (.int .i64 h) := (B3).cell 2; have y3 : w3.cell? ⟨w.heap.size, 3, none⟩ = some (.slice (some ad) m cp) := (B3).cell 3))) | fail
      have hB5 := hB4.then _ hb5
      have hr5 := hr.below (hB5.mono hB)
      have hs5 := hB5.size
      have htl2 := htl (by first | trivial | rfl)
      go_upto_region 11 with (go_at_call 7; refine (lvalid_any hr5 (by omega) hc hmc).mono ?_; rintro e w6 ⟨rfl, hb6⟩; rw [HVB.out]; have B6 := B5.below hb6 B5.lt; have hB6 := hB5.then _ hb6; have hr6 := hr.below (hB6.mono hB); have hs6 := hB6.size)
      have k0 : w6.drew.cell? ⟨w.heap.size, 0, none⟩ = some (.int .i64 r) := (B6.drew).cell 0
      have k1 : w6.drew.cell? ⟨w.heap.size, 1, none⟩ = some (.int .i64 c) := (B6.drew).cell 1
      have k2 : w6.drew.cell? ⟨w.heap.size, 2, none⟩ = some (.int .i64 h) := (B6.drew).cell 2
      have k3 : w6.drew.cell? ⟨w.heap.size, 3, none⟩ = some (.slice (some ad) m cp) := (B6.drew).cell 3
      first | (go_region_held3 (fun w' => w'.cell? ⟨w.heap.size, 0, none⟩ = some (.int .i64 r) ∧ w'.cell? ⟨w.heap.size, 1, none⟩ = some (.int .i64 c) ∧ w'.cell? ⟨w.heap.size, 2, none⟩ = some (.int .i64 h) ∧ w'.cell? ⟨w.heap.size, 3, none⟩ = some (.slice (some ad) m cp)) (first | exact ⟨k0, k1, k2, k3⟩ | exact ⟨l0, l1, l2, l3⟩ | exact ⟨o0, o1, o2, o3⟩ | exact ⟨p0, p1, p2, p3⟩ | exact ⟨q0, q1, q2, q3⟩ | exact ⟨s0, s1, s2, s3⟩) (first
        | (have qq := hb10; clear qq; go_at_call 5; refine (known_any (HW.out.up hB10)).mono ?_; rintro e w11 ⟨rfl, hb11⟩; have B11 := B10.below hb11 B10.lt; have s0 : w11.cell? ⟨w.heap.size, 0, none⟩ = some (.int .i64 r) := (B11).cell 0; have s1 : w11.cell? ⟨w.heap.size, 1, none⟩ = some (.int .i64 c) := (B11).cell 1; have s2 : w11.cell? ⟨w.heap.size, 2, none⟩ = some (.int .i64 h) := (B11).cell 2; have s3 : w11.cell? ⟨w.heap.size, 3, none⟩ = some (.slice (some ad) m cp) := (B11).cell 3)
        | (have qq := hb9; clear qq; go_at_call 11; refine (parses_any hr9 (by omega) (by omega) HVB.out (HW.out.up hB9) tx HTX (by omega)).mono ?_; rintro e w10 ⟨rfl, hb10⟩; have B10 := B9.below hb10 B9.lt; have hB10 := hB9.then _ hb10; have q0 : w10.cell? ⟨w.heap.size, 0, none⟩ = some (.int .i64 r) := (B10).cell 0; have q1 : w10.cell? ⟨w.heap.size, 1, none⟩ = some (.int .i64 c) := (B10).cell 1; have q2 : w10.cell? ⟨w.heap.size, 2, none⟩ = some (.int .i64 h) := (B10).cell 2; have q3 : w10.cell? ⟨w.heap.size, 3, none⟩ = some (.slice (some ad) m cp) := (B10).cell 3)
        | (have qq := hb8; clear qq; go_at_call 10; refine (text_v hr8 (by omega) hc hmc HVB.out tx HTX).mono ?_; rintro e w9 ⟨rfl, hb9⟩; have B9 := B8.below hb9 B8.lt; have hB9 := hB8.then _ hb9; have hr9 := hr.below (hB9.mono hB); have hs9 := hB9.size; have p0 : w9.cell? ⟨w.heap.size, 0, none⟩ = some (.int .i64 r) := (B9).cell 0; have p1 : w9.cell? ⟨w.heap.size, 1, none⟩ = some (.int .i64 c) := (B9).cell 1; have p2 : w9.cell? ⟨w.heap.size, 2, none⟩ = some (.int .i64 h) := (B9).cell 2; have p3 : w9.cell? ⟨w.heap.size, 3, none⟩ = some (.slice (some ad) m cp) := (B9).cell 3)
        | (have qq := hb7; clear qq; go_at_call 9; refine (texts_ok hr7 (by omega) hc hmc HVB.out (HW.out.up hB7) tx HTX).mono ?_; rintro e w8 ⟨rfl, hb8⟩; have B8 := B7.below hb8 B7.lt; have hB8 := hB7.then _ hb8; have hr8 := hr.below (hB8.mono hB); have hs8 := hB8.size; have o0 : w8.cell? ⟨w.heap.size, 0, none⟩ = some (.int .i64 r) := (B8).cell 0; have o1 : w8.cell? ⟨w.heap.size, 1, none⟩ = some (.int .i64 c) := (B8).cell 1; have o2 : w8.cell? ⟨w.heap.size, 2, none⟩ = some (.int .i64 h) := (B8).cell 2; have o3 : w8.cell? ⟨w.heap.size, 3, none⟩ = some (.slice (some ad) m cp) := (B8).cell 3)
        | (go_at_call 10; refine (text_v (w := w6.drew) (hr6.drewN 1) (by show B ≤ w6.heap.size; omega) hc hmc HVB.out tx HTX).mono ?_; rintro e w7 ⟨rfl, hb7⟩; have B7 := B6.drew.below hb7 B6.drew.lt; have hB7 : Below w.heap.size w w7 := (below_drewN hB6 1).then _ hb7; have hr7 := hr.below (hB7.mono hB); have hs7 := hB7.size; have l0 : w7.cell? ⟨w.heap.size, 0, none⟩ = some (.int .i64 r) := (B7).cell 0; have l1 : w7.cell? ⟨w.heap.size, 1, none⟩ = some (.int .i64 c) := (B7).cell 1; have l2 : w7.cell? ⟨w.heap.size, 2, none⟩ = some (.int .i64 h) := (B7).cell 2; have l3 : w7.cell? ⟨w.heap.size, 3, none⟩ = some (.slice (some ad) m cp) := (B7).cell 3))) | fail
      go_wp2_with fail
      go_ret
      exact ⟨rfl, hB10.then _ hb11⟩
end
end Go.Proofs.YtiglllddgikeiaaGreatDoor
