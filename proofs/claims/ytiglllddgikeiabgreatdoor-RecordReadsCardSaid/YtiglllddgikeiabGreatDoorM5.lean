/- A part of the proof of RecordReads. -/
import Derived.Test.YtiglllddgikeiabGreatDoorRK
import Derived.Test.YtiglllddgikeiabGreatDoorM4
import Derived.Test.YtiglllddgikeiabGreatDoorM1
namespace Go.Proofs.YtiglllddgikeiabGreatDoor
open Go.RowKit Go.Rep
set_option maxRecDepth 100000
theorem known_any {w : World} (hw : Laid w) : Calls Tryz.prog 6 #[] w fun e w' => e = .returned (.bool true) ∧ Below w.heap.size w w' := any_Known w hw
end Go.Proofs.YtiglllddgikeiabGreatDoor

namespace Go.Proofs.YtiglllddgikeiabGreatDoor
open Go.RowKit Go.Rep
set_option maxRecDepth 100000
theorem text_size {r c h : Int} {l : List Ev} (hv : validB r c h l = true) (hs : smallB l = true) : (textL r c h l).length ≤ 200000 := by
  obtain ⟨a1, a2, a3, a4, a5, a6, a7, hev⟩ := valid_parts hv
  have h1 := evsL_len hev (Int.le_refl _) (by omega)
  have h2 := headL_len (r := r) (c := c) (h := h) (by omega) (by omega) (by omega) (by omega) (by omega) (by omega)
  have h3 : l.length ≤ 20 := by
    unfold smallB at hs
    simp only [Bool.and_eq_true, decide_eq_true_eq] at hs
    exact hs.1
  unfold textL
  rw [List.length_append]
  omega
theorem par_ok {r c h : Int} {l : List Ev} {tx : List UInt8} {N m : Nat} (hlm : Hid (l.length = m)) {e : Ending} {w2 : World} (hpt : Hid (parsed (S tx) = some (r, c, h, l))) (hv : Hid (validB r c h l = true)) (htx : Hid (textL r c h l = tx))
    (h1 : (∃ (r1 c1 h1 : Int) (l1 : List Ev) (v : Value), e = .returned (.tuple #[.agg #[.int .i64 r1, .int .i64 c1, .int .i64 h1, v], .int .i64 0]) ∧ w2.ownsRow N 40 6 v l1.length (evCells l1) ∧ validB r1 c1 h1 l1 = true ∧ S (textL r1 c1 h1 l1) = S tx ∧ parsed (S tx) = some (r1, c1, h1, l1)) ∨
      (e = .returned (.tuple #[.agg zeroRec, .int .i64 6]) ∧ ∀ r1 c1 h1 l1, parsed (S tx) = some (r1, c1, h1, l1) → validB r1 c1 h1 l1 = true → S (textL r1 c1 h1 l1) = S tx → False)) :
    ∃ v, e = .returned (.tuple #[.agg #[.int .i64 r, .int .i64 c, .int .i64 h, v], .int .i64 0]) ∧ w2.ownsRow N 40 6 v m (evCells l) := by
  rw [← hlm.out]
  rcases h1 with ⟨r1, c1, h1, l1, v, q1, q2, _, _, q5⟩ | ⟨_, q2⟩
  · rw [hpt.out] at q5
    simp only [Option.some.injEq, Prod.mk.injEq] at q5
    obtain ⟨rfl, rfl, rfl, rfl⟩ := q5
    exact ⟨v, q1, q2⟩
  · exact absurd (q2 r c h l hpt.out hv.out (by rw [htx.out])) (fun h => h)
section
variable {r c h : Int} {A : Option Addr} {m cp B : Nat} {l : List Ev} {w : World}
theorem text_v (hr : Reads w B 6 A m (evCells l)) (hB : B ≤ w.heap.size) (hc : cp ≤ maxLen) (hmc : m ≤ cp) (hv : validB r c h l = true) (tx : List UInt8) (htx : Hid (textL r c h l = tx)) :
    Calls Tryz.prog 7 #[.agg (recO r c h A m cp)] w fun e w' => e = .returned (.string (S tx)) ∧ Below w.heap.size w w' := by
  rw [← htx.out]
  exact text_any hr hB hc hmc hv
set_option maxHeartbeats 2000000 in
theorem texts_bad (hr : Reads w B 6 A m (evCells l)) (hB : B ≤ w.heap.size) (hc : cp ≤ maxLen) (hmc : m ≤ cp) (hv : validB r c h l = false) :
    Calls Tryz.prog 13 #[.agg (recO r c h A m cp), .string ⟨#[]⟩, .int .i64 2] w fun e w' => e = .returned (.bool true) ∧ Below w.heap.size w w' := by
  have hb0 : Below w.heap.size w (w.alloc (.cells (recO r c h A m cp) 26)) := (Below.refl _ _).alloc (Nat.le_refl _) _
  have ht := rtext_bad (hr.alloc hB (.cells (recO r c h A m cp) 26)) (by simp; omega) hc hmc hv
  clear hv
  have hem : (S []).toList.isEmpty = true := by rw [Lib.toList_data]; rfl
  go_enter Tryz.func13, Tryz.ntmps13
  go_wp2_with (go_at_call 26; refine ht.mono ?_; rintro e w2 ⟨rfl, hb2⟩)
  go_ret
  exact ⟨rfl, hb0.then _ hb2⟩
set_option maxHeartbeats 2000000 in
theorem texts_ok (hr : Reads w B 6 A m (evCells l)) (hB : B ≤ w.heap.size) (hc : cp ≤ maxLen) (hmc : m ≤ cp) (hv : validB r c h l = true) (hw : Laid w) (tx : List UInt8) (htx : Hid (textL r c h l = tx)) :
    Calls Tryz.prog 13 #[.agg (recO r c h A m cp), .string (S tx), .int .i64 0] w fun e w' => e = .returned (.bool true) ∧ Below w.heap.size w w' := by
  have hb0 : Below w.heap.size w (w.alloc (.cells (recO r c h A m cp) 26)) := (Below.refl _ _).alloc (Nat.le_refl _) _
  have ht := rtext_ok (hr.alloc hB (.cells (recO r c h A m cp) 26)) (by simp; omega) hc hmc hv (hw.up hb0)
  rw [htx.out] at ht
  clear hv
  go_enter Tryz.func13, Tryz.ntmps13
  go_wp2_with (go_at_call 26; refine ht.mono ?_; rintro e w2 ⟨rfl, hb2⟩)
  go_ret
  exact ⟨by first | rfl | simp, hb0.then _ hb2⟩
set_option maxHeartbeats 2000000 in
/-- The text of a valid record is read as that record. -/
theorem parses_any (hr : Reads w B 6 A m (evCells l)) (hB : B ≤ w.heap.size) (hm : m ≤ 2000) (hv : validB r c h l = true) (hw : Laid w) (tx : List UInt8) (htx : Hid (textL r c h l = tx)) (hl : tx.length ≤ 1000000) :
    Calls Tryz.prog 20 #[.string (S tx), .agg (recO r c h A m cp), .int .i64 0] w fun e w' => e = .returned (.bool true) ∧ Below w.heap.size w w' := by
  have hb0 : Below w.heap.size w (w.alloc (.cells (recO r c h A m cp) 26)) := (Below.refl _ _).alloc (Nat.le_refl _) _
  have hp := parse_any (S tx) (by rw [S_size]; exact hl) (hw.up hb0)
  have hpt := parsed_text hv
  rw [htx.out] at hpt
  have HPT := Lib.hid hpt
  have HV := Lib.hid hv
  have hlm := hr.evs
  have HLM := Lib.hid hlm
  clear hpt hv hlm
  have B0 := Blk.new w 26 (recO r c h A m cp)
  have hsa : (w.alloc (.cells (recO r c h A m cp) 26)).heap.size = w.heap.size + 1 := by simp
  go_enter Tryz.func20, Tryz.ntmps20
  go_wp2_with (first
    | (have qq := hb2; clear qq; go_at_call 9; refine (same_eq (cp := c3) (cp' := cp) hr3' (by simp) hr2' (by have := hb2.size; simp at this ⊢; omega) hm).mono ?_; rintro e w5 ⟨rfl, hb5⟩)
    | (go_at_call 8; refine hp.mono ?_; rintro e w2 ⟨h1, hb2⟩; have hq : ∃ v, e = .returned (.tuple #[.agg #[.int .i64 r, .int .i64 c, .int .i64 h, v], .int .i64 0]) ∧ w2.ownsRow (w.alloc (.cells (recO r c h A m cp) 26)).heap.size 40 6 v m (evCells l) := par_ok HLM HPT HV htx h1; obtain ⟨v, rfl, hown⟩ := hq; obtain ⟨A3, c3, rfl, hc31, hc32, hr3⟩ := own_slice hown; have B2 := B0.below hb2 (by omega); have b0 : w2.cell? ⟨w.heap.size, 0, none⟩ = some (.int .i64 r) := B2.cell 0; have b1 : w2.cell? ⟨w.heap.size, 1, none⟩ = some (.int .i64 c) := B2.cell 1; have b2 : w2.cell? ⟨w.heap.size, 2, none⟩ = some (.int .i64 h) := B2.cell 2; have b3 : w2.cell? ⟨w.heap.size, 3, none⟩ = some (.slice A m cp) := B2.cell 3; have ba0 : ∀ o, (w2.alloc o).cell? ⟨w.heap.size, 0, none⟩ = some (.int .i64 r) := fun o => (B2.alloc o).cell 0; have ba1 : ∀ o, (w2.alloc o).cell? ⟨w.heap.size, 1, none⟩ = some (.int .i64 c) := fun o => (B2.alloc o).cell 1; have ba2 : ∀ o, (w2.alloc o).cell? ⟨w.heap.size, 2, none⟩ = some (.int .i64 h) := fun o => (B2.alloc o).cell 2; have ba3 : ∀ o, (w2.alloc o).cell? ⟨w.heap.size, 3, none⟩ = some (.slice A m cp) := fun o => (B2.alloc o).cell 3; have hr3' := hr3.alloc (Nat.le_refl _) (.cells #[.int .i64 r, .int .i64 c, .int .i64 h, .slice A3 m c3] 26); have hr2' := ((hr.alloc hB (.cells (recO r c h A m cp) 26)).below (hb2.mono (by omega))).alloc (by have := hb2.size; omega) (.cells #[.int .i64 r, .int .i64 c, .int .i64 h, .slice A3 m c3] 26)))
  go_ret
  exact ⟨rfl, ((hb0.then _ hb2).alloc (hb0.then _ hb2).size _).then _ hb5⟩
end
end Go.Proofs.YtiglllddgikeiabGreatDoor
