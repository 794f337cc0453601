/- The run of the law by the evaluator returns true, whatever the numbers. -/
import Derived.Test.YtiglllddgikeiabGreatDoorM5
import Derived.Deep.RegionHeld3
namespace Go.Proofs.YtiglllddgikeiabGreatDoor
open Go.RowKit Go.Rep
set_option maxRecDepth 100000
theorem text_t {r c h : Int} {A : Option Addr} {m cp B : Nat} {l : List Ev} {w : World} (hr : Reads w B 6 A m (evCells l)) (hB : B ≤ w.heap.size) (hc : cp ≤ maxLen) (hmc : m ≤ cp) (hv : validB r c h l = true) (t : ByteArray) (ht : Hid (S (textL r c h l) = t)) :
    Calls Tryz.prog 7 #[.agg (recO r c h A m cp)] w fun e w' => e = .returned (.string t) ∧ Below w.heap.size w w' := by
  rw [← ht.out]
  exact text_any hr hB hc hmc hv
/-- Both ways in which Parse ends, in one wording. -/
theorem par_gen {s : ByteArray} {w : World} {e : Ending} {w' : World} (h : ParseP s w e w') : ∃ (r c h : Int) (l : List Ev) (A : Option Addr) (cp : Nat) (no : Int), e = .returned (.tuple #[.agg (recO r c h A l.length cp), .int .i64 no]) ∧ l.length ≤ cp ∧ cp ≤ maxLen ∧ Reads w' w'.heap.size 6 A l.length (evCells l) ∧
    Hid ((no = 0 ∧ validB r c h l = true ∧ S (textL r c h l) = s) ∨ (no = 6 ∧ r = 0 ∧ c = 0 ∧ h = 0 ∧ l = [] ∧ A = none ∧ cp = 0 ∧ ∀ r c h l, parsed s = some (r, c, h, l) → validB r c h l = true → S (textL r c h l) = s → False)) ∧ Below w.heap.size w w' := by
  obtain ⟨⟨r, c, h, l, v, rfl, hown, hv, ht, _⟩ | ⟨rfl, hn⟩, hb⟩ := h
  · obtain ⟨A, cp, rfl, h1, h2, h3⟩ := own_slice hown
    exact ⟨r, c, h, l, A, cp, 0, rfl, h1, h2, h3, Lib.hid (.inl ⟨rfl, hv, ht⟩), hb⟩
  · exact ⟨0, 0, 0, [], none, 0, 6, rfl, Nat.le_refl _, Nat.zero_le _, ⟨rfl, fun h => absurd h (Nat.lt_irrefl _)⟩, Lib.hid (.inr ⟨rfl, rfl, rfl, rfl, rfl, rfl, rfl, hn⟩), hb⟩
section
variable {r c h : Int} {A : Option Addr} {m cp B : Nat} {l : List Ev} {w : World} {a b : Int} {mo : ByteArray}
set_option maxHeartbeats 4000000 in
theorem rr_skip (hw : Laid w) (hr : Reads w B 6 A m (evCells l)) (hB : B ≤ w.heap.size) (hc : cp ≤ maxLen) (hmc : m ≤ cp) (hs : ¬ (smallB l = true ∧ validB r c h l = true ∧ mo.size ≤ 40)) :
    Calls Tryz.prog 3 #[.agg (recO r c h A m cp), .int .u16 a, .int .u8 b, .string mo] w fun e w' => e = .returned (.bool true) ∧ Below w.heap.size w w' := by
  have hb0 : Below w.heap.size w (w.alloc (.cells (recO r c h A m cp) 26)) := (Below.refl _ _).alloc (Nat.le_refl _) _
  have hra := hr.alloc hB (.cells (recO r c h A m cp) 26)
  have B0 := Blk.new w 26 (recO r c h A m cp)
  have hwa : w.heap.size < (w.alloc (.cells (recO r c h A m cp) 26)).heap.size := by simp
  have HW := Lib.hid hw
  obtain ⟨vs, hvs⟩ : ∃ vs, smallB l = vs := ⟨_, rfl⟩
  obtain ⟨vb, hvb⟩ : ∃ vb, validB r c h l = vb := ⟨_, rfl⟩
  rw [hvs, hvb] at hs
  have HS := Lib.hid hvs
  have HV := Lib.hid hvb
  clear hvs hvb
  cases vs with
  | false =>
    clear hs
    go_enter Tryz.func3, Tryz.ntmps3
    go_wp2_with (first
      | (go_at_call 4; refine (small_any hra (by simp; omega)).mono ?_; rintro e w2 ⟨rfl, hb2⟩; rw [HS.out])
      | (go_at_call 6; refine (known_any (HW.out.up (hb0.then _ hb2))).mono ?_; rintro e w3 ⟨rfl, hb3⟩))
    go_ret
    exact ⟨rfl, (hb0.then _ hb2).then _ hb3⟩
  | true =>
    cases vb with
    | false =>
      clear hs
      go_enter Tryz.func3, Tryz.ntmps3
      go_wp2_with (first
        | (go_at_call 4; refine (small_any hra (by simp; omega)).mono ?_; rintro e w2 ⟨rfl, hb2⟩; rw [HS.out]; have hB2 := hb0.then _ hb2; have B2 := B0.below hb2 hwa; have x0 : w2.cell? ⟨w.heap.size, 0, none⟩ = some (.int .i64 r) := (B2).cell 0; have x1 : w2.cell? ⟨w.heap.size, 1, none⟩ = some (.int .i64 c) := (B2).cell 1; have x2 : w2.cell? ⟨w.heap.size, 2, none⟩ = some (.int .i64 h) := (B2).cell 2; have x3 : w2.cell? ⟨w.heap.size, 3, none⟩ = some (.slice A m cp) := (B2).cell 3)
        | (go_at_call 5; refine (lvalid_any (hr.below (hB2.mono hB)) (by have := hB2.size; omega) hc hmc).mono ?_; rintro e w3 ⟨rfl, hb3⟩; rw [HV.out]; have hB3 := hB2.then _ hb3)
        | (go_at_call 6; refine (known_any (HW.out.up hB3)).mono ?_; rintro e w4 ⟨rfl, hb4⟩))
      go_ret
      exact ⟨rfl, hB3.then _ hb4⟩
    | true =>
      have hm : 40 < (mo.size : Int) := by
        rcases Nat.lt_or_ge 40 mo.size with h1 | h1
        · omega
        · exact absurd ⟨rfl, rfl, h1⟩ hs
      clear hs
      go_enter Tryz.func3, Tryz.ntmps3
      go_wp2_with (first
        | (go_at_call 4; refine (small_any hra (by simp; omega)).mono ?_; rintro e w2 ⟨rfl, hb2⟩; rw [HS.out]; have hB2 := hb0.then _ hb2; have B2 := B0.below hb2 hwa; have x0 : w2.cell? ⟨w.heap.size, 0, none⟩ = some (.int .i64 r) := (B2).cell 0; have x1 : w2.cell? ⟨w.heap.size, 1, none⟩ = some (.int .i64 c) := (B2).cell 1; have x2 : w2.cell? ⟨w.heap.size, 2, none⟩ = some (.int .i64 h) := (B2).cell 2; have x3 : w2.cell? ⟨w.heap.size, 3, none⟩ = some (.slice A m cp) := (B2).cell 3)
        | (go_at_call 5; refine (lvalid_any (hr.below (hB2.mono hB)) (by have := hB2.size; omega) hc hmc).mono ?_; rintro e w3 ⟨rfl, hb3⟩; rw [HV.out]; have hB3 := hB2.then _ hb3)
        | (go_at_call 6; refine (known_any (HW.out.up hB3)).mono ?_; rintro e w4 ⟨rfl, hb4⟩))
      go_ret
      exact ⟨rfl, hB3.then _ hb4⟩
set_option maxHeartbeats 8000000 in
theorem rr_main (hw : Laid w) (hr : Reads w B 6 A m (evCells l)) (hB : B ≤ w.heap.size) (hc : cp ≤ maxLen) (hmc : m ≤ cp) (hs : smallB l = true) (hv : validB r c h l = true) (hmo : mo.size ≤ 40) (ha0 : 0 ≤ a) (ha1 : a ≤ 65535) (hb0' : 0 ≤ b) (hb1 : b ≤ 255) :
    Calls Tryz.prog 3 #[.agg (recO r c h A m cp), .int .u16 a, .int .u8 b, .string mo] w fun e w' => e = .returned (.bool true) ∧ Below w.heap.size w w' := by
  have hb0 : Below w.heap.size w (w.alloc (.cells (recO r c h A m cp) 26)) := (Below.refl _ _).alloc (Nat.le_refl _) _
  have hra := hr.alloc hB (.cells (recO r c h A m cp) 26)
  have B0 := Blk.new w 26 (recO r c h A m cp)
  have hwa : w.heap.size < (w.alloc (.cells (recO r c h A m cp) 26)).heap.size := by simp
  have HW := Lib.hid hw
  have htl := text_size hv hs
  have hpt := parsed_text hv
  have HS := Lib.hid hs
  have HV := Lib.hid hv
  obtain ⟨tx, htx⟩ : ∃ tx, textL r c h l = tx := ⟨_, rfl⟩
  rw [htx] at htl hpt
  have HTX := Lib.hid htx
  have HPT := Lib.hid hpt
  clear hs hv htx hpt
  obtain ⟨z, hz⟩ := sized tx
  have hzl : z ≤ 200000 := by rw [← hz, S_size]; exact htl
  have hwr1 : IntKind.i64.wrap a = a := IntWalk.i64_in _ (by omega)
  have hwr2 : IntKind.i64.wrap ((z : Int) + 1) = (z : Int) + 1 := IntWalk.i64_in _ (by omega)
  have hwr3 : IntKind.i64.wrap b = b := IntWalk.i64_in _ (by omega)
  have hz0 : ¬ (z : Int) + 1 = 0 := by omega
  obtain ⟨i, hi0, hi⟩ : ∃ i : Nat, i ≤ z ∧ Int.tmod a ((z : Int) + 1) = (i : Int) := by
    refine ⟨(a % ((z : Int) + 1)).toNat, ?_, ?_⟩
    · have h1 := Int.emod_lt_of_pos a (show (0 : Int) < (z : Int) + 1 by omega)
      have h2 := Int.emod_nonneg a (show (z : Int) + 1 ≠ 0 by omega)
      omega
    · rw [Int.tmod_eq_emod_of_nonneg ha0]
      have h2 := Int.emod_nonneg a (show (z : Int) + 1 ≠ 0 by omega)
      omega
  have hwr4 : IntKind.i64.wrap ((i : Int) + b) = (i : Int) + b := IntWalk.i64_in _ (by omega)
  obtain ⟨k, hk0, hk⟩ : ∃ k : Nat, k ≤ z ∧ min (z : Int) ((i : Int) + b) = (k : Int) := ⟨(min (z : Int) ((i : Int) + b)).toNat, by omega, by omega⟩
  have hsl1 : ∀ W, (Instr.slice 9 (.string (S tx)) none (some (.int .i64 (i : Int))) none).run Tryz.prog W = .ok (.string ((S tx).extract 0 i)) W := by
    intro W
    have := run_slice_string_h (P := Tryz.prog) W 9 (S tx) Tryz.underlying9 .i64 (i : Int) (by omega) (by rw [hz]; omega)
    simpa using this
  have hsl2 : ∀ W, (Instr.slice 9 (.string (S tx)) (some (.int .i64 (k : Int))) none none).run Tryz.prog W = .ok (.string ((S tx).extract k z)) W := by
    intro W
    have := run_slice_string_l (P := Tryz.prog) W 9 (S tx) Tryz.underlying9 .i64 (k : Int) (by omega) (by rw [hz]; omega)
    rw [hz] at this
    simpa using this
  obtain ⟨p1, hp1⟩ : ∃ p, (S tx).extract 0 i = p := ⟨_, rfl⟩
  obtain ⟨p2, hp2⟩ : ∃ p, (S tx).extract k z = p := ⟨_, rfl⟩
  have hq1 : p1.size ≤ 200000 := by rw [← hp1, ByteArray.size_extract]; omega
  have hq2 : p2.size ≤ 200000 := by rw [← hp2, ByteArray.size_extract]; omega
  rw [hp1] at hsl1
  rw [hp2] at hsl2
  clear hp1 hp2
  obtain ⟨p3, hp3⟩ : ∃ p, p1 ++ mo = p := ⟨_, rfl⟩
  have hq3 : p3.size ≤ 200040 := by rw [← hp3, ByteArray.size_append]; omega
  obtain ⟨t, ht⟩ : ∃ p, p3 ++ p2 = p := ⟨_, rfl⟩
  have hqt : t.size ≤ 1000000 := by rw [← ht, ByteArray.size_append]; omega
  obtain ⟨z1, hz1⟩ : ∃ q, p1.size = q := ⟨_, rfl⟩
  obtain ⟨z2, hz2⟩ : ∃ q, p2.size = q := ⟨_, rfl⟩
  obtain ⟨z3, hz3⟩ : ∃ q, p3.size = q := ⟨_, rfl⟩
  obtain ⟨zm, hzm⟩ : ∃ q, mo.size = q := ⟨_, rfl⟩
  have hn1 : ¬ 9223372036854775807 < z1 + zm := by omega
  have hn2 : ¬ 9223372036854775807 < z3 + z2 := by omega
  have hm40 : ¬ 40 < (zm : Int) := by omega
  clear hq1 hq2 hq3
  go_enter Tryz.func3, Tryz.ntmps3
  go_upto_region 4 with (first
    | (have qq := hb3; clear qq; go_at_call 7; refine (text_v hr3 (by omega) hc hmc HV.out tx HTX).mono ?_; rintro e w4 ⟨rfl, hb4⟩; have hB4 := hB3.then _ hb4)
    | (have qq := hb2; clear qq; go_at_call 5; refine (lvalid_any (hr.below (hB2.mono hB)) (by have := hB2.size; omega) hc hmc).mono ?_; rintro e w3 ⟨rfl, hb3⟩; rw [HV.out]; have hB3 := hB2.then _ hb3; have hr3 := hr.below (hB3.mono hB); have hs3 := hB3.size; have B3 := B2.below hb3 B2.lt; have y0 : w3.cell? ⟨w.heap.size, 0, none⟩ = some (.int .i64 r) := (B3).cell 0; have y1 : w3.cell? ⟨w.heap.size, 1, none⟩ = some (.int .i64 c) := (B3).cell 1; have y2 : w3.cell? ⟨w.heap.size, 2, none⟩ = some (.int .i64 h) := (B3).cell 2; have y3 : w3.cell? ⟨w.heap.size, 3, none⟩ = some (.slice A m cp) := (B3).cell 3)
    | (go_at_call 4; refine (small_any hra (by simp; omega)).mono ?_; rintro e w2 ⟨rfl, hb2⟩; rw [HS.out]; have hB2 := hb0.then _ hb2; have B2 := B0.below hb2 hwa; have x0 : w2.cell? ⟨w.heap.size, 0, none⟩ = some (.int .i64 r) := (B2).cell 0; have x1 : w2.cell? ⟨w.heap.size, 1, none⟩ = some (.int .i64 c) := (B2).cell 1; have x2 : w2.cell? ⟨w.heap.size, 2, none⟩ = some (.int .i64 h) := (B2).cell 2; have x3 : w2.cell? ⟨w.heap.size, 3, none⟩ = some (.slice A m cp) := (B2).cell 3))
  go_upto_region 6 with fail
  go_quiet (fail)
  have hB4d : Below w.heap.size w (w4.drewN nq) := below_drewN hB4 nq
  have hpa := parse_any t hqt (HW.out.up hB4d)
  go_upto_region 8 with (go_at_call 8; refine hpa.mono ?_; rintro e w5 h5; obtain ⟨r1, c1, h1, l1, A1, cp1, no, rfl, hl1, hl2, hr5, HD, hb5⟩ := par_gen h5)
  have hB5 : Below w.heap.size w w5 := hB4d.then _ hb5
  have B5 := Blk.new w5 26 (recO r1 c1 h1 A1 l1.length cp1)
  have hB6 : Below w.heap.size w (w5.alloc (.cells (recO r1 c1 h1 A1 l1.length cp1) 26)) := hB5.alloc hB5.size _
  have hr6 := hr5.alloc (Nat.le_refl _) (.cells (recO r1 c1 h1 A1 l1.length cp1) 26)
  rcases HD.out with ⟨rfl, hv1, ht1⟩ | ⟨rfl, rfl, rfl, rfl, rfl, rfl, rfl, hne⟩
  · have HV1 := Lib.hid hv1
    have HT1 := Lib.hid ht1
    clear hv1 ht1
    have B6 := B5
    have hs6 : w5.heap.size < (w5.alloc (.cells (recO r1 c1 h1 A1 l1.length cp1) 26)).heap.size := by simp
    go_wp2_with (first
      | (have qq := hb8; clear qq; go_at_call 6; refine (known_any (HW.out.up hB8)).mono ?_; rintro e9 w9 ⟨rfl, hb9⟩)
      | (have qq := hb7; clear qq; go_at_call 7; refine (text_t hr7 hs7 hl2 hl1 HV1.out t HT1).mono ?_; rintro e8 w8 ⟨rfl, hb8⟩; have hB8 := hB7.then _ hb8)
      | (go_at_call 5; refine (lvalid_any hr6 (by simp) hl2 hl1).mono ?_; rintro e7 w7 ⟨rfl, hb7⟩; rw [HV1.out]; have hB7 := hB6.then _ hb7; have B7 := B6.below hb7 hs6; have hr7 := hr6.below (hb7.mono (by simp)); have hs7 : w5.heap.size ≤ w7.heap.size := by have := hb7.size; simp at this; omega
         have d0 : w7.cell? ⟨w5.heap.size, 0, none⟩ = some (.int .i64 r1) := B7.cell 0; have d1 : w7.cell? ⟨w5.heap.size, 1, none⟩ = some (.int .i64 c1) := B7.cell 1; have d2 : w7.cell? ⟨w5.heap.size, 2, none⟩ = some (.int .i64 h1) := B7.cell 2; have d3 : w7.cell? ⟨w5.heap.size, 3, none⟩ = some (.slice A1 l1.length cp1) := B7.cell 3))
    go_ret
    exact ⟨rfl, hB8.then _ hb9⟩
  · have hne2 : ¬ t = S tx := fun e => hne r c h l (by rw [e]; exact HPT.out) HV.out (by rw [HTX.out, e])
    have hne3 : (t.toList == (S tx).toList) = false := by
      rw [Lib.toList_data, Lib.toList_data]
      simp only [beq_eq_false_iff_ne, ne_eq]
      intro e
      exact hne2 (by rw [← S_of t, e, S_of])
    clear hne hne2
    have hz0 : Reads (w5.alloc (.cells zeroRec 26)) 0 6 none 0 (evCells []) := ⟨rfl, fun h => absurd h (Nat.lt_irrefl _)⟩
    go_wp2_with (first
      | (have qq := hb7; clear qq; go_at_call 6; refine (known_any (HW.out.up hB7)).mono ?_; rintro e9 w9 ⟨rfl, hb9⟩)
      | (go_at_call 9; refine (same_eq (cp := 0) (cp' := 0) hz0 (Nat.zero_le _) hz0 (Nat.zero_le _) (Nat.zero_le _)).mono ?_; rintro e7 w7 ⟨rfl, hb7⟩; have hB7 := hB6.then _ hb7))
    go_ret
    exact ⟨rfl, hB7.then _ hb9⟩
end
end Go.Proofs.YtiglllddgikeiabGreatDoor
