/- A part of the proof of RepaintBytes. -/
import Derived.Test.YthophmihgmjnfaaDoorVA
set_option linter.unusedVariables false
set_option linter.unusedSimpArgs false
-- --
namespace Go.Proofs.YthophmihgmjnfaaDoor
open Go.RowKit Go.Rep
set_option maxRecDepth 100000
theorem alloc_size (w : World) (o : Obj) : (w.alloc o).heap.size = w.heap.size + 1 := by simp
def validCol (c : Col) : Bool := if c.k = 0 then decide (c = ⟨0, 0, 0, 0, 0⟩) else if c.k = 1 then decide (c = ⟨1, c.i, 0, 0, 0⟩) else if c.k = 2 then decide (c = ⟨2, 0, c.r, c.g, c.b⟩) else false
theorem index_any (n : Int) (w : World) : Calls Tryd.prog 51 #[.int .u8 n] w fun e w' => e = .returned (.agg #[.int .i64 1, .int .u8 n, .int .u8 0, .int .u8 0, .int .u8 0]) ∧ Below w.heap.size w w' := by
  go_enter Tryd.func51, Tryd.ntmps51
  go_wp2
  refine bodyPost_ret (results_cell_row rfl _ _ _ _ _ (0, 0) _ rfl (Blk.new w 41 #[.int .i64 1, .int .u8 n, .int .u8 0, .int .u8 0, .int .u8 0]) Tryd.underlying41 rfl (by kernel_rfl)) rfl ?_
  exact ⟨rfl, (Below.refl _ _).alloc (Nat.le_refl _) _⟩
theorem true_any (x y z : Int) (w : World) : Calls Tryd.prog 52 #[.int .u8 x, .int .u8 y, .int .u8 z] w fun e w' => e = .returned (.agg #[.int .i64 2, .int .u8 0, .int .u8 x, .int .u8 y, .int .u8 z]) ∧ Below w.heap.size w w' := by
  go_enter Tryd.func52, Tryd.ntmps52
  go_wp2
  refine bodyPost_ret (results_cell_row rfl _ _ _ _ _ (0, 0) _ rfl (Blk.new w 41 #[.int .i64 2, .int .u8 0, .int .u8 x, .int .u8 y, .int .u8 z]) Tryd.underlying41 rfl (by kernel_rfl)) rfl ?_
  exact ⟨rfl, (Below.refl _ _).alloc (Nat.le_refl _) _⟩
set_option maxHeartbeats 1000000 in
theorem vcol_any (c : Col) (w : World) : Calls Tryd.prog 44 #[.agg #[.int .i64 c.k, .int .u8 c.i, .int .u8 c.r, .int .u8 c.g, .int .u8 c.b]] w fun e w' => e = .returned (.bool (validCol c)) ∧ Below w.heap.size w w' := by
  have q0 : ∀ W, (binOp .eql 41 (.agg #[.int .i64 c.k, .int .u8 c.i, .int .u8 c.r, .int .u8 c.g, .int .u8 c.b]) (.agg #[.int .i64 0, .int .u8 0, .int .u8 0, .int .u8 0, .int .u8 0])).run Tryd.prog W = .ok (.bool (decide (c = ⟨0, 0, 0, 0, 0⟩))) W := fun W => col_eql c ⟨0, 0, 0, 0, 0⟩ W
  have q1 : ∀ W, (binOp .eql 41 (.agg #[.int .i64 c.k, .int .u8 c.i, .int .u8 c.r, .int .u8 c.g, .int .u8 c.b]) (.agg #[.int .i64 1, .int .u8 c.i, .int .u8 0, .int .u8 0, .int .u8 0])).run Tryd.prog W = .ok (.bool (decide (c = ⟨1, c.i, 0, 0, 0⟩))) W := fun W => col_eql c ⟨1, c.i, 0, 0, 0⟩ W
  have q2 : ∀ W, (binOp .eql 41 (.agg #[.int .i64 c.k, .int .u8 c.i, .int .u8 c.r, .int .u8 c.g, .int .u8 c.b]) (.agg #[.int .i64 2, .int .u8 0, .int .u8 c.r, .int .u8 c.g, .int .u8 c.b])).run Tryd.prog W = .ok (.bool (decide (c = ⟨2, 0, c.r, c.g, c.b⟩))) W := fun W => col_eql c ⟨2, 0, c.r, c.g, c.b⟩ W
  have hB := Blk.new w 41 #[.int .i64 c.k, .int .u8 c.i, .int .u8 c.r, .int .u8 c.g, .int .u8 c.b]
  have hb0 : Below w.heap.size w (w.alloc (.cells #[.int .i64 c.k, .int .u8 c.i, .int .u8 c.r, .int .u8 c.g, .int .u8 c.b] 41)) := (Below.refl _ _).alloc (Nat.le_refl _) _
  by_cases h0 : c.k = 0
  · have e0 : (c.k == 0) = true := by simpa using h0
    have hf := Lib.hid (show validCol c = decide (c = ⟨0, 0, 0, 0, 0⟩) by unfold validCol; rw [if_pos h0])
    clear h0
    go_enter Tryd.func44, Tryd.ntmps44
    go_wp2_with (refine wpList_load_blk 41 (.tmp 1) rfl (by rfl) _ rfl #[.int .i64 c.k, .int .u8 c.i, .int .u8 c.r, .int .u8 c.g, .int .u8 c.b] _ (hB) Tryd.underlying41 rfl (by kernel_rfl) ?_)
    go_ret
    exact ⟨by rw [hf.out]; rfl, hb0⟩
  · have e0 : (c.k == 0) = false := by simpa using h0
    by_cases h1 : c.k = 1
    · have e1 : (c.k == 1) = true := by simpa using h1
      have hf := Lib.hid (show validCol c = decide (c = ⟨1, c.i, 0, 0, 0⟩) by unfold validCol; rw [if_neg h0, if_pos h1])
      clear h0 h1
      go_enter Tryd.func44, Tryd.ntmps44
      go_upto_region 5 with fail
      have a0 : (w.alloc (.cells #[.int .i64 c.k, .int .u8 c.i, .int .u8 c.r, .int .u8 c.g, .int .u8 c.b] 41)).drew.cell? ⟨w.heap.size, 0, none⟩ = some (.int .i64 c.k) := (hB.drew).cell 0
      have a1 : (w.alloc (.cells #[.int .i64 c.k, .int .u8 c.i, .int .u8 c.r, .int .u8 c.g, .int .u8 c.b] 41)).drew.cell? ⟨w.heap.size, 1, none⟩ = some (.int .u8 c.i) := (hB.drew).cell 1
      have a2 : (w.alloc (.cells #[.int .i64 c.k, .int .u8 c.i, .int .u8 c.r, .int .u8 c.g, .int .u8 c.b] 41)).drew.cell? ⟨w.heap.size, 2, none⟩ = some (.int .u8 c.r) := (hB.drew).cell 2
      have a3 : (w.alloc (.cells #[.int .i64 c.k, .int .u8 c.i, .int .u8 c.r, .int .u8 c.g, .int .u8 c.b] 41)).drew.cell? ⟨w.heap.size, 3, none⟩ = some (.int .u8 c.g) := (hB.drew).cell 3
      have a4 : (w.alloc (.cells #[.int .i64 c.k, .int .u8 c.i, .int .u8 c.r, .int .u8 c.g, .int .u8 c.b] 41)).drew.cell? ⟨w.heap.size, 4, none⟩ = some (.int .u8 c.b) := (hB.drew).cell 4
      go_region_held3 (fun w' => w'.cell? ⟨w.heap.size, 0, none⟩ = some (.int .i64 c.k) ∧ w'.cell? ⟨w.heap.size, 1, none⟩ = some (.int .u8 c.i) ∧ w'.cell? ⟨w.heap.size, 2, none⟩ = some (.int .u8 c.r) ∧ w'.cell? ⟨w.heap.size, 3, none⟩ = some (.int .u8 c.g) ∧ w'.cell? ⟨w.heap.size, 4, none⟩ = some (.int .u8 c.b)) (first | exact ⟨a0, a1, a2, a3, a4⟩ | exact ⟨b0, b1, b2, b3, b4⟩) (first
        | (go_at_call 51; refine (index_any _ _).mono ?_; rintro e w1 ⟨rfl, hb1⟩; have hB1 := hB.drew.below hb1 hB.lt; have b0 : w1.cell? ⟨w.heap.size, 0, none⟩ = some (.int .i64 c.k) := (hB1).cell 0; have b1 : w1.cell? ⟨w.heap.size, 1, none⟩ = some (.int .u8 c.i) := (hB1).cell 1; have b2 : w1.cell? ⟨w.heap.size, 2, none⟩ = some (.int .u8 c.r) := (hB1).cell 2; have b3 : w1.cell? ⟨w.heap.size, 3, none⟩ = some (.int .u8 c.g) := (hB1).cell 3; have b4 : w1.cell? ⟨w.heap.size, 4, none⟩ = some (.int .u8 c.b) := (hB1).cell 4))
      all_goals
        go_wp2_with fail
        go_ret
        exact ⟨by rw [hf.out]; rfl, hb0.drew.trans (hb1.mono (by rw [World.size_drew, alloc_size]; omega))⟩
    · have e1 : (c.k == 1) = false := by simpa using h1
      by_cases h2 : c.k = 2
      · have e2 : (c.k == 2) = true := by simpa using h2
        have hf := Lib.hid (show validCol c = decide (c = ⟨2, 0, c.r, c.g, c.b⟩) by unfold validCol; rw [if_neg h0, if_neg h1, if_pos h2])
        clear h0 h1 h2
        go_enter Tryd.func44, Tryd.ntmps44
        go_upto_region 7 with fail
        have a0 : (w.alloc (.cells #[.int .i64 c.k, .int .u8 c.i, .int .u8 c.r, .int .u8 c.g, .int .u8 c.b] 41)).drew.cell? ⟨w.heap.size, 0, none⟩ = some (.int .i64 c.k) := (hB.drew).cell 0
        have a1 : (w.alloc (.cells #[.int .i64 c.k, .int .u8 c.i, .int .u8 c.r, .int .u8 c.g, .int .u8 c.b] 41)).drew.cell? ⟨w.heap.size, 1, none⟩ = some (.int .u8 c.i) := (hB.drew).cell 1
        have a2 : (w.alloc (.cells #[.int .i64 c.k, .int .u8 c.i, .int .u8 c.r, .int .u8 c.g, .int .u8 c.b] 41)).drew.cell? ⟨w.heap.size, 2, none⟩ = some (.int .u8 c.r) := (hB.drew).cell 2
        have a3 : (w.alloc (.cells #[.int .i64 c.k, .int .u8 c.i, .int .u8 c.r, .int .u8 c.g, .int .u8 c.b] 41)).drew.cell? ⟨w.heap.size, 3, none⟩ = some (.int .u8 c.g) := (hB.drew).cell 3
        have a4 : (w.alloc (.cells #[.int .i64 c.k, .int .u8 c.i, .int .u8 c.r, .int .u8 c.g, .int .u8 c.b] 41)).drew.cell? ⟨w.heap.size, 4, none⟩ = some (.int .u8 c.b) := (hB.drew).cell 4
        go_region_held3 (fun w' => w'.cell? ⟨w.heap.size, 0, none⟩ = some (.int .i64 c.k) ∧ w'.cell? ⟨w.heap.size, 1, none⟩ = some (.int .u8 c.i) ∧ w'.cell? ⟨w.heap.size, 2, none⟩ = some (.int .u8 c.r) ∧ w'.cell? ⟨w.heap.size, 3, none⟩ = some (.int .u8 c.g) ∧ w'.cell? ⟨w.heap.size, 4, none⟩ = some (.int .u8 c.b)) (first | exact ⟨a0, a1, a2, a3, a4⟩ | exact ⟨b0, b1, b2, b3, b4⟩) (first
          | (go_at_call 52; refine (true_any _ _ _ _).mono ?_; rintro e w1 ⟨rfl, hb1⟩; have hB1 := hB.drew.below hb1 hB.lt; have b0 : w1.cell? ⟨w.heap.size, 0, none⟩ = some (.int .i64 c.k) := (hB1).cell 0; have b1 : w1.cell? ⟨w.heap.size, 1, none⟩ = some (.int .u8 c.i) := (hB1).cell 1; have b2 : w1.cell? ⟨w.heap.size, 2, none⟩ = some (.int .u8 c.r) := (hB1).cell 2; have b3 : w1.cell? ⟨w.heap.size, 3, none⟩ = some (.int .u8 c.g) := (hB1).cell 3; have b4 : w1.cell? ⟨w.heap.size, 4, none⟩ = some (.int .u8 c.b) := (hB1).cell 4))
        all_goals
          go_wp2_with fail
          go_ret
          exact ⟨by rw [hf.out]; rfl, hb0.drew.trans (hb1.mono (by rw [World.size_drew, alloc_size]; omega))⟩
      · have e2 : (c.k == 2) = false := by simpa using h2
        have hf := Lib.hid (show validCol c = false by unfold validCol; rw [if_neg h0, if_neg h1, if_neg h2])
        clear h0 h1 h2
        go_enter Tryd.func44, Tryd.ntmps44
        go_wp2_with fail
        go_ret
        exact ⟨by rw [hf.out]; rfl, hb0⟩
def validPn (p : Pn) : Bool := validCol p.f && validCol p.b
theorem vpn_any (p : Pn) (w : World) : Calls Tryd.prog 34 #[.agg #[.int .i64 p.f.k, .int .u8 p.f.i, .int .u8 p.f.r, .int .u8 p.f.g, .int .u8 p.f.b, .int .i64 p.b.k, .int .u8 p.b.i, .int .u8 p.b.r, .int .u8 p.b.g, .int .u8 p.b.b, .int .u8 p.fl]] w fun e w' => e = .returned (.bool (validPn p)) ∧ Below w.heap.size w w' := by
  have hB := Blk.new w 44 #[.int .i64 p.f.k, .int .u8 p.f.i, .int .u8 p.f.r, .int .u8 p.f.g, .int .u8 p.f.b, .int .i64 p.b.k, .int .u8 p.b.i, .int .u8 p.b.r, .int .u8 p.b.g, .int .u8 p.b.b, .int .u8 p.fl]
  have hb0 : Below w.heap.size w (w.alloc (.cells #[.int .i64 p.f.k, .int .u8 p.f.i, .int .u8 p.f.r, .int .u8 p.f.g, .int .u8 p.f.b, .int .i64 p.b.k, .int .u8 p.b.i, .int .u8 p.b.r, .int .u8 p.b.g, .int .u8 p.b.b, .int .u8 p.fl] 44)) := (Below.refl _ _).alloc (Nat.le_refl _) _
  by_cases h0 : validCol p.f = true
  · have H0 := Lib.hid h0
    have hf := Lib.hid (show validPn p = validCol p.b by unfold validPn; rw [h0, Bool.true_and])
    clear h0
    go_enter Tryd.func34, Tryd.ntmps34
    go_wp2_with (first
      | (refine wpList_load_any 41 (.tmp 7) rfl (by rfl) ⟨w.heap.size, 5, none⟩ rfl #[.int .i64 p.b.k, .int .u8 p.b.i, .int .u8 p.b.r, .int .u8 p.b.g, .int .u8 p.b.b] _ (Blk.part (o := 5) (hB1) (by kernel_rfl)) Tryd.underlying41 rfl (by kernel_rfl) ?_)
      | (refine wpList_load_any 41 (.tmp 3) rfl (by rfl) ⟨w.heap.size, 0, none⟩ rfl #[.int .i64 p.f.k, .int .u8 p.f.i, .int .u8 p.f.r, .int .u8 p.f.g, .int .u8 p.f.b] _ (Blk.part (o := 0) (hB) (by kernel_rfl)) Tryd.underlying41 rfl (by kernel_rfl) ?_)
      | (go_at_call 44; have q := hB1; refine (vcol_any p.b _).mono ?_; rintro e w2 ⟨rfl, hb2⟩)
      | (go_at_call 44; refine (vcol_any p.f _).mono ?_; rintro e w1 ⟨rfl, hb1⟩; rw [H0.out]; have hB1 := hB.below hb1 hB.lt; have hs1 := hb1.size))
    go_ret
    exact ⟨by rw [hf.out]; rfl, (hb0.trans (hb1.mono (by rw [alloc_size]; omega))).trans (hb2.mono (by rw [alloc_size] at hs1; omega))⟩
  · have h0' : validCol p.f = false := by simpa using h0
    have H0 := Lib.hid h0'
    have hf := Lib.hid (show validPn p = false by unfold validPn; rw [h0', Bool.false_and])
    clear h0 h0'
    go_enter Tryd.func34, Tryd.ntmps34
    go_wp2_with (first
      | (refine wpList_load_any 41 (.tmp 3) rfl (by rfl) ⟨w.heap.size, 0, none⟩ rfl #[.int .i64 p.f.k, .int .u8 p.f.i, .int .u8 p.f.r, .int .u8 p.f.g, .int .u8 p.f.b] _ (Blk.part (o := 0) (hB) (by kernel_rfl)) Tryd.underlying41 rfl (by kernel_rfl) ?_)
      | (go_at_call 44; refine (vcol_any p.f _).mono ?_; rintro e w1 ⟨rfl, hb1⟩; rw [H0.out]))
    go_ret
    exact ⟨by rw [hf.out]; rfl, hb0.trans (hb1.mono (by rw [alloc_size]; omega))⟩
end Go.Proofs.YthophmihgmjnfaaDoor

namespace Go.Proofs.YthophmihgmjnfaaDoor
open Go.RowKit Go.Rep
set_option maxRecDepth 100000
def okM (i : Nat) (m p : Int) : Bool := decide (m = 0) || (decide (wOf m = 0) && (decide (i = 0) || decide (p ≠ 0)))
def okMs (c : Cl) : Bool := okM 0 c.m0 0 && (okM 1 c.m1 c.m0 && okM 2 c.m2 c.m1)
def okUpTo (c : Cl) : Nat → Bool
  | 0 => true
  | 1 => okM 0 c.m0 0
  | 2 => okM 0 c.m0 0 && okM 1 c.m1 c.m0
  | _ => okMs c
/-- Whether a cell is valid. -/
def validCl (c : Cl) : Bool := validPn c.p && if c.r = 0 then (decide (c.w = 0) || decide (c.w = 1)) && (decide (c.m0 = 0) && (decide (c.m1 = 0) && decide (c.m2 = 0))) else okMs c && (decide (0 < c.w) && decide (c.w = wOf c.r))
theorem vcell_bad (c : Cl) {w : World} (hp : validPn c.p = false) : Calls Tryd.prog 38 #[.agg #[.int .i32 c.r, .int .i32 c.m0, .int .i32 c.m1, .int .i32 c.m2, .int .i64 c.w, .int .i64 c.p.f.k, .int .u8 c.p.f.i, .int .u8 c.p.f.r, .int .u8 c.p.f.g, .int .u8 c.p.f.b, .int .i64 c.p.b.k, .int .u8 c.p.b.i, .int .u8 c.p.b.r, .int .u8 c.p.b.g, .int .u8 c.p.b.b, .int .u8 c.p.fl]] w fun e w' => e = .returned (.bool (validCl c)) ∧ Below w.heap.size w w' := by
  have hB := Blk.new w 46 #[.int .i32 c.r, .int .i32 c.m0, .int .i32 c.m1, .int .i32 c.m2, .int .i64 c.w, .int .i64 c.p.f.k, .int .u8 c.p.f.i, .int .u8 c.p.f.r, .int .u8 c.p.f.g, .int .u8 c.p.f.b, .int .i64 c.p.b.k, .int .u8 c.p.b.i, .int .u8 c.p.b.r, .int .u8 c.p.b.g, .int .u8 c.p.b.b, .int .u8 c.p.fl]
  have hb0 : Below w.heap.size w (w.alloc (.cells #[.int .i32 c.r, .int .i32 c.m0, .int .i32 c.m1, .int .i32 c.m2, .int .i64 c.w, .int .i64 c.p.f.k, .int .u8 c.p.f.i, .int .u8 c.p.f.r, .int .u8 c.p.f.g, .int .u8 c.p.f.b, .int .i64 c.p.b.k, .int .u8 c.p.b.i, .int .u8 c.p.b.r, .int .u8 c.p.b.g, .int .u8 c.p.b.b, .int .u8 c.p.fl] 46)) := (Below.refl _ _).alloc (Nat.le_refl _) _
  have HP := Lib.hid hp
  have hf := Lib.hid (show validCl c = false by unfold validCl; rw [hp, Bool.false_and])
  clear hp
  go_enter Tryd.func38, Tryd.ntmps38
  go_wp2_with (first
    | (refine wpList_load_any 44 (.tmp 5) rfl (by rfl) ⟨w.heap.size, 5, none⟩ rfl #[.int .i64 c.p.f.k, .int .u8 c.p.f.i, .int .u8 c.p.f.r, .int .u8 c.p.f.g, .int .u8 c.p.f.b, .int .i64 c.p.b.k, .int .u8 c.p.b.i, .int .u8 c.p.b.r, .int .u8 c.p.b.g, .int .u8 c.p.b.b, .int .u8 c.p.fl] _ (Blk.part (o := 5) (hB) (by kernel_rfl)) Tryd.underlying44 rfl (by kernel_rfl) ?_)
    | (go_at_call 34; refine (vpn_any c.p _).mono ?_; rintro e w1 ⟨rfl, hb1⟩; rw [HP.out]))
  go_ret
  exact ⟨by rw [hf.out]; rfl, hb0.trans (hb1.mono (by rw [alloc_size]; omega))⟩
set_option maxHeartbeats 2000000 in
theorem vcell_zero (c : Cl) {w : World} (hp : validPn c.p = true) (hr : c.r = 0) : Calls Tryd.prog 38 #[.agg #[.int .i32 c.r, .int .i32 c.m0, .int .i32 c.m1, .int .i32 c.m2, .int .i64 c.w, .int .i64 c.p.f.k, .int .u8 c.p.f.i, .int .u8 c.p.f.r, .int .u8 c.p.f.g, .int .u8 c.p.f.b, .int .i64 c.p.b.k, .int .u8 c.p.b.i, .int .u8 c.p.b.r, .int .u8 c.p.b.g, .int .u8 c.p.b.b, .int .u8 c.p.fl]] w fun e w' => e = .returned (.bool (validCl c)) ∧ Below w.heap.size w w' := by
  have q0 : ∀ W, (binOp .eql 38 (.agg #[.int .i32 c.m0, .int .i32 c.m1, .int .i32 c.m2]) (.agg #[.int .i32 0, .int .i32 0, .int .i32 0])).run Tryd.prog W = .ok (.bool (decide (c.m0 = 0) && (decide (c.m1 = 0) && decide (c.m2 = 0)))) W := fun W => marks_eql c.m0 c.m1 c.m2 0 0 0 W
  have hB := Blk.new w 46 #[.int .i32 c.r, .int .i32 c.m0, .int .i32 c.m1, .int .i32 c.m2, .int .i64 c.w, .int .i64 c.p.f.k, .int .u8 c.p.f.i, .int .u8 c.p.f.r, .int .u8 c.p.f.g, .int .u8 c.p.f.b, .int .i64 c.p.b.k, .int .u8 c.p.b.i, .int .u8 c.p.b.r, .int .u8 c.p.b.g, .int .u8 c.p.b.b, .int .u8 c.p.fl]
  have hb0 : Below w.heap.size w (w.alloc (.cells #[.int .i32 c.r, .int .i32 c.m0, .int .i32 c.m1, .int .i32 c.m2, .int .i64 c.w, .int .i64 c.p.f.k, .int .u8 c.p.f.i, .int .u8 c.p.f.r, .int .u8 c.p.f.g, .int .u8 c.p.f.b, .int .i64 c.p.b.k, .int .u8 c.p.b.i, .int .u8 c.p.b.r, .int .u8 c.p.b.g, .int .u8 c.p.b.b, .int .u8 c.p.fl] 46)) := (Below.refl _ _).alloc (Nat.le_refl _) _
  have HP := Lib.hid hp
  have e0 : (c.r == 0) = true := by simpa using hr
  have hf := Lib.hid (show validCl c = ((decide (c.w = 0) || decide (c.w = 1)) && (decide (c.m0 = 0) && (decide (c.m1 = 0) && decide (c.m2 = 0)))) by unfold validCl; rw [hp, Bool.true_and, if_pos hr])
  clear hp hr
  by_cases hw : c.w = 0 ∨ c.w = 1
  · have e1 : (c.w == 0) = true ∨ (c.w == 0) = false ∧ (c.w == 1) = true := by rcases hw with h | h <;> simp [h]
    have hg : (decide (c.w = 0) || decide (c.w = 1)) = true := by simpa using hw
    have HG := Lib.hid hg
    clear hg hw
    rcases e1 with e1 | ⟨e1, e2⟩
    all_goals
      go_enter Tryd.func38, Tryd.ntmps38
      go_wp2_with (first
        | (refine wpList_load_any 44 (.tmp 5) rfl (by rfl) ⟨w.heap.size, 5, none⟩ rfl #[.int .i64 c.p.f.k, .int .u8 c.p.f.i, .int .u8 c.p.f.r, .int .u8 c.p.f.g, .int .u8 c.p.f.b, .int .i64 c.p.b.k, .int .u8 c.p.b.i, .int .u8 c.p.b.r, .int .u8 c.p.b.g, .int .u8 c.p.b.b, .int .u8 c.p.fl] _ (Blk.part (o := 5) (hB) (by kernel_rfl)) Tryd.underlying44 rfl (by kernel_rfl) ?_)
        | (refine wpList_load_any 38 (.tmp 21) rfl (by rfl) ⟨w.heap.size, 1, none⟩ rfl #[.int .i32 c.m0, .int .i32 c.m1, .int .i32 c.m2] _ (Blk.part (o := 1) (hB1) (by kernel_rfl)) Tryd.underlying38 rfl (by kernel_rfl) ?_)
        | (go_at_call 34; refine (vpn_any c.p _).mono ?_; rintro e w1 ⟨rfl, hb1⟩; rw [HP.out]; have hB1 := hB.below hb1 hB.lt; have x0 : w1.cell? ⟨w.heap.size, 0, none⟩ = some (.int .i32 c.r) := hB1.cell 0; have x4 : w1.cell? ⟨w.heap.size, 4, none⟩ = some (.int .i64 c.w) := hB1.cell 4))
      go_ret
      exact ⟨by rw [hf.out, HG.out, Bool.true_and]; rfl, hb0.trans (hb1.mono (by rw [alloc_size]; omega))⟩
  · have e1 : (c.w == 0) = false := by simp; omega
    have e2 : (c.w == 1) = false := by simp; omega
    have hg : (decide (c.w = 0) || decide (c.w = 1)) = false := by simpa using hw
    have HG := Lib.hid hg
    clear hg hw
    go_enter Tryd.func38, Tryd.ntmps38
    go_wp2_with (first
      | (refine wpList_load_any 44 (.tmp 5) rfl (by rfl) ⟨w.heap.size, 5, none⟩ rfl #[.int .i64 c.p.f.k, .int .u8 c.p.f.i, .int .u8 c.p.f.r, .int .u8 c.p.f.g, .int .u8 c.p.f.b, .int .i64 c.p.b.k, .int .u8 c.p.b.i, .int .u8 c.p.b.r, .int .u8 c.p.b.g, .int .u8 c.p.b.b, .int .u8 c.p.fl] _ (Blk.part (o := 5) (hB) (by kernel_rfl)) Tryd.underlying44 rfl (by kernel_rfl) ?_)
      | (go_at_call 34; refine (vpn_any c.p _).mono ?_; rintro e w1 ⟨rfl, hb1⟩; rw [HP.out]; have hB1 := hB.below hb1 hB.lt; have x0 : w1.cell? ⟨w.heap.size, 0, none⟩ = some (.int .i32 c.r) := hB1.cell 0; have x4 : w1.cell? ⟨w.heap.size, 4, none⟩ = some (.int .i64 c.w) := hB1.cell 4))
    go_ret
    exact ⟨by rw [hf.out, HG.out, Bool.false_and]; rfl, hb0.trans (hb1.mono (by rw [alloc_size]; omega))⟩
end Go.Proofs.YthophmihgmjnfaaDoor

namespace Go.Proofs.YthophmihgmjnfaaDoor
open Go.RowKit Go.Rep
set_option maxRecDepth 100000
theorem okUpTo_succ0 (c : Cl) : okUpTo c 1 = (okUpTo c 0 && okM 0 c.m0 0) := by simp [okUpTo]
theorem okUpTo_succ1 (c : Cl) : okUpTo c 2 = (okUpTo c 1 && okM 1 c.m1 c.m0) := by simp [okUpTo]
theorem okUpTo_succ2 (c : Cl) : okUpTo c 3 = (okUpTo c 2 && okM 2 c.m2 c.m1) := by simp [okUpTo, okMs, Bool.and_assoc]
set_option maxHeartbeats 4000000 in
theorem vcell_rune (c : Cl) {w : World} (hL : Laid w) (hp : validPn c.p = true) (hr : c.r ≠ 0) : Calls Tryd.prog 38 #[.agg #[.int .i32 c.r, .int .i32 c.m0, .int .i32 c.m1, .int .i32 c.m2, .int .i64 c.w, .int .i64 c.p.f.k, .int .u8 c.p.f.i, .int .u8 c.p.f.r, .int .u8 c.p.f.g, .int .u8 c.p.f.b, .int .i64 c.p.b.k, .int .u8 c.p.b.i, .int .u8 c.p.b.r, .int .u8 c.p.b.g, .int .u8 c.p.b.b, .int .u8 c.p.fl]] w fun e w' => e = .returned (.bool (validCl c)) ∧ Below w.heap.size w w' := by
  have hB := Blk.new w 46 #[.int .i32 c.r, .int .i32 c.m0, .int .i32 c.m1, .int .i32 c.m2, .int .i64 c.w, .int .i64 c.p.f.k, .int .u8 c.p.f.i, .int .u8 c.p.f.r, .int .u8 c.p.f.g, .int .u8 c.p.f.b, .int .i64 c.p.b.k, .int .u8 c.p.b.i, .int .u8 c.p.b.r, .int .u8 c.p.b.g, .int .u8 c.p.b.b, .int .u8 c.p.fl]
  have hb0 : Below w.heap.size w (w.alloc (.cells #[.int .i32 c.r, .int .i32 c.m0, .int .i32 c.m1, .int .i32 c.m2, .int .i64 c.w, .int .i64 c.p.f.k, .int .u8 c.p.f.i, .int .u8 c.p.f.r, .int .u8 c.p.f.g, .int .u8 c.p.f.b, .int .i64 c.p.b.k, .int .u8 c.p.b.i, .int .u8 c.p.b.r, .int .u8 c.p.b.g, .int .u8 c.p.b.b, .int .u8 c.p.fl] 46)) := (Below.refl _ _).alloc (Nat.le_refl _) _
  have HP := Lib.hid hp
  have e0 : (c.r == 0) = false := by simpa using hr
  have hf := Lib.hid (show validCl c = (okMs c && (decide (0 < c.w) && decide (c.w = wOf c.r))) by unfold validCl; rw [hp, Bool.true_and, if_neg hr])
  clear hp hr
  go_enter Tryd.func38, Tryd.ntmps38
  go_wp2_with (first
    | (refine wpList_load_any 44 (.tmp 5) rfl (by rfl) ⟨w.heap.size, 5, none⟩ rfl #[.int .i64 c.p.f.k, .int .u8 c.p.f.i, .int .u8 c.p.f.r, .int .u8 c.p.f.g, .int .u8 c.p.f.b, .int .i64 c.p.b.k, .int .u8 c.p.b.i, .int .u8 c.p.b.r, .int .u8 c.p.b.g, .int .u8 c.p.b.b, .int .u8 c.p.fl] _ (Blk.part (o := 5) (hB) (by kernel_rfl)) Tryd.underlying44 rfl (by kernel_rfl) ?_)
    | (refine wpList_load_any 38 (.tmp 26) rfl (by rfl) ⟨w.heap.size, 1, none⟩ rfl #[.int .i32 c.m0, .int .i32 c.m1, .int .i32 c.m2] _ (Blk.part (o := 1) (hB1) (by kernel_rfl)) Tryd.underlying38 rfl (by kernel_rfl) ?_)
    | (go_at_call 34; refine (vpn_any c.p _).mono ?_; rintro e w1 ⟨rfl, hb1⟩; rw [HP.out]; have hB1 := hB.below hb1 hB.lt; have x0 : w1.cell? ⟨w.heap.size, 0, none⟩ = some (.int .i32 c.r) := hB1.cell 0))
  have hbw1 : Below w.heap.size w w1 := hb0.trans (hb1.mono (by rw [alloc_size]; omega))
  go_loopw [28] (fun i wr => ∃ k : Nat, k ≤ 3 ∧ i = .int .i64 k ∧ Hid (okUpTo c k = true) ∧ Below w.heap.size w wr ∧ Blk wr w.heap.size 46 #[.int .i32 c.r, .int .i32 c.m0, .int .i32 c.m1, .int .i32 c.m2, .int .i64 c.w, .int .i64 c.p.f.k, .int .u8 c.p.f.i, .int .u8 c.p.f.r, .int .u8 c.p.f.g, .int .u8 c.p.f.b, .int .i64 c.p.b.k, .int .u8 c.p.b.i, .int .u8 c.p.b.r, .int .u8 c.p.b.g, .int .u8 c.p.b.b, .int .u8 c.p.fl]) (fun i _ => 3 - (intOf i).toNat)
  case atStart => exact ⟨0, by omega, rfl, Lib.hid rfl, hbw1, hB1⟩
  case round =>
    obtain ⟨k, hk, rfl, hok, hbr, hBr⟩ := hrel
    have hsr := hbr.size
    have hLa := hL
    clear x0
    have hk4 : k = 0 ∨ k = 1 ∨ k = 2 ∨ k = 3 := by omega
    rcases hk4 with rfl | rfl | rfl | rfl
    · have qi : ∀ W, (Instr.index 38 (.agg #[.int .i32 c.m0, .int .i32 c.m1, .int .i32 c.m2]) (.int .i64 0)).run Tryd.prog W = .ok (.int .i32 c.m0) W := fun W => by kernel_rfl
      by_cases hm : c.m0 = 0
      · have e1 : (c.m0 != 0) = false := by simpa using hm
        have ex : okM 0 c.m0 0 = true := by simp [okM, hm]
        have EX := Lib.hid ex
        clear hm ex
        go_wp2_with fail
        go_roundw
        case rel => exact ⟨1, by omega, by go_num, Lib.hid (by rw [okUpTo_succ0, hok.out, EX.out]; rfl), hbr, hBr⟩
        case measure => simp [intOf]
      · have e1 : (c.m0 != 0) = true := by simpa using hm
        by_cases hw : wOf c.m0 = 0
        · have e2 : (wOf c.m0 != 0) = false := by simpa using hw
          have ex : okM 0 c.m0 0 = true := by simp [okM, hw]
          have EX := Lib.hid ex
          clear hm hw ex
          go_wp2_with (go_at_call 47; refine (wof_any c.m0 (hLa.low hbr)).mono ?_; rintro e w1 ⟨rfl, hb1⟩)
          go_roundw
          case rel => exact ⟨1, by omega, by go_num, Lib.hid (by rw [okUpTo_succ0, hok.out, EX.out]; rfl), hbr.trans (hb1.mono hsr), hBr.below hb1 hBr.lt⟩
          case measure => simp [intOf]
        · have e2 : (wOf c.m0 != 0) = true := by simpa using hw
          have ex : okM 0 c.m0 0 = false := by simp [okM, hm, hw]
          have EX := Lib.hid (show okMs c = false by unfold okMs; rw [ex]; simp)
          clear hm hw ex
          go_wp2_with (go_at_call 47; refine (wof_any c.m0 (hLa.low hbr)).mono ?_; rintro e w1 ⟨rfl, hb1⟩)
          go_ret
          exact ⟨by rw [hf.out, EX.out]; rfl, hbr.trans (hb1.mono hsr)⟩
    · have qi : ∀ W, (Instr.index 38 (.agg #[.int .i32 c.m0, .int .i32 c.m1, .int .i32 c.m2]) (.int .i64 1)).run Tryd.prog W = .ok (.int .i32 c.m1) W := fun W => by kernel_rfl
      by_cases hm : c.m1 = 0
      · have e1 : (c.m1 != 0) = false := by simpa using hm
        have ex : okM 1 c.m1 c.m0 = true := by simp [okM, hm]
        have EX := Lib.hid ex
        clear hm ex
        go_wp2_with fail
        go_roundw
        case rel => exact ⟨2, by omega, by go_num, Lib.hid (by rw [okUpTo_succ1, hok.out, EX.out]; rfl), hbr, hBr⟩
        case measure => simp [intOf]
      · have e1 : (c.m1 != 0) = true := by simpa using hm
        by_cases hw : wOf c.m1 = 0
        · have e2 : (wOf c.m1 != 0) = false := by simpa using hw
          by_cases hp : c.m0 = 0
          · have e3 : (c.m0 == 0) = true := by simpa using hp
            have ex : okM 1 c.m1 c.m0 = false := by simp [okM, hp, hm]
            have EX := Lib.hid (show okMs c = false by unfold okMs; rw [ex]; simp)
            clear hm hw hp ex
            go_wp2_with (go_at_call 47; refine (wof_any c.m1 (hLa.low hbr)).mono ?_; rintro e w1 ⟨rfl, hb1⟩; have z1 : w1.cell? ⟨w.heap.size, 1, none⟩ = some (.int .i32 c.m0) := (hBr.below hb1 hBr.lt).cell 1)
            go_ret
            exact ⟨by rw [hf.out, EX.out]; rfl, hbr.trans (hb1.mono hsr)⟩
          · have e3 : (c.m0 == 0) = false := by simpa using hp
            have ex : okM 1 c.m1 c.m0 = true := by simp [okM, hp, hw]
            have EX := Lib.hid ex
            clear hm hw hp ex
            go_wp2_with (go_at_call 47; refine (wof_any c.m1 (hLa.low hbr)).mono ?_; rintro e w1 ⟨rfl, hb1⟩; have z1 : w1.cell? ⟨w.heap.size, 1, none⟩ = some (.int .i32 c.m0) := (hBr.below hb1 hBr.lt).cell 1)
            go_roundw
            case rel => exact ⟨2, by omega, by go_num, Lib.hid (by rw [okUpTo_succ1, hok.out, EX.out]; rfl), hbr.trans (hb1.mono hsr), hBr.below hb1 hBr.lt⟩
            case measure => simp [intOf]
        · have e2 : (wOf c.m1 != 0) = true := by simpa using hw
          have ex : okM 1 c.m1 c.m0 = false := by simp [okM, hm, hw]
          have EX := Lib.hid (show okMs c = false by unfold okMs; rw [ex]; simp)
          clear hm hw ex
          go_wp2_with (go_at_call 47; refine (wof_any c.m1 (hLa.low hbr)).mono ?_; rintro e w1 ⟨rfl, hb1⟩)
          go_ret
          exact ⟨by rw [hf.out, EX.out]; rfl, hbr.trans (hb1.mono hsr)⟩
    · have qi : ∀ W, (Instr.index 38 (.agg #[.int .i32 c.m0, .int .i32 c.m1, .int .i32 c.m2]) (.int .i64 2)).run Tryd.prog W = .ok (.int .i32 c.m2) W := fun W => by kernel_rfl
      by_cases hm : c.m2 = 0
      · have e1 : (c.m2 != 0) = false := by simpa using hm
        have ex : okM 2 c.m2 c.m1 = true := by simp [okM, hm]
        have EX := Lib.hid ex
        clear hm ex
        go_wp2_with fail
        go_roundw
        case rel => exact ⟨3, by omega, by go_num, Lib.hid (by rw [okUpTo_succ2, hok.out, EX.out]; rfl), hbr, hBr⟩
        case measure => simp [intOf]
      · have e1 : (c.m2 != 0) = true := by simpa using hm
        by_cases hw : wOf c.m2 = 0
        · have e2 : (wOf c.m2 != 0) = false := by simpa using hw
          by_cases hp : c.m1 = 0
          · have e3 : (c.m1 == 0) = true := by simpa using hp
            have ex : okM 2 c.m2 c.m1 = false := by simp [okM, hp, hm]
            have EX := Lib.hid (show okMs c = false by unfold okMs; rw [ex]; simp)
            clear hm hw hp ex
            go_wp2_with (go_at_call 47; refine (wof_any c.m2 (hLa.low hbr)).mono ?_; rintro e w1 ⟨rfl, hb1⟩; have z2 : w1.cell? ⟨w.heap.size, 2, none⟩ = some (.int .i32 c.m1) := (hBr.below hb1 hBr.lt).cell 2)
            go_ret
            exact ⟨by rw [hf.out, EX.out]; rfl, hbr.trans (hb1.mono hsr)⟩
          · have e3 : (c.m1 == 0) = false := by simpa using hp
            have ex : okM 2 c.m2 c.m1 = true := by simp [okM, hp, hw]
            have EX := Lib.hid ex
            clear hm hw hp ex
            go_wp2_with (go_at_call 47; refine (wof_any c.m2 (hLa.low hbr)).mono ?_; rintro e w1 ⟨rfl, hb1⟩; have z2 : w1.cell? ⟨w.heap.size, 2, none⟩ = some (.int .i32 c.m1) := (hBr.below hb1 hBr.lt).cell 2)
            go_roundw
            case rel => exact ⟨3, by omega, by go_num, Lib.hid (by rw [okUpTo_succ2, hok.out, EX.out]; rfl), hbr.trans (hb1.mono hsr), hBr.below hb1 hBr.lt⟩
            case measure => simp [intOf]
        · have e2 : (wOf c.m2 != 0) = true := by simpa using hw
          have ex : okM 2 c.m2 c.m1 = false := by simp [okM, hm, hw]
          have EX := Lib.hid (show okMs c = false by unfold okMs; rw [ex]; simp)
          clear hm hw ex
          go_wp2_with (go_at_call 47; refine (wof_any c.m2 (hLa.low hbr)).mono ?_; rintro e w1 ⟨rfl, hb1⟩)
          go_ret
          exact ⟨by rw [hf.out, EX.out]; rfl, hbr.trans (hb1.mono hsr)⟩
    · have hfin : okMs c = true := hok.out
      have HF := Lib.hid hfin
      clear hfin
      have LA := hLa.low hbr
      go_upto_region 11 with fail
      have a0 : wr.drew.cell? ⟨w.heap.size, 0, none⟩ = some (.int .i32 c.r) := hBr.cell 0
      have a4 : wr.drew.cell? ⟨w.heap.size, 4, none⟩ = some (.int .i64 c.w) := hBr.cell 4
      by_cases hw : 0 < c.w
      · have d1 : decide (0 < c.w) = true := by simpa using hw
        by_cases hv : c.w = wOf c.r
        · have d2 : (c.w == wOf c.r) = true := by simpa using hv
          have EF := Lib.hid (show validCl c = true by rw [hf.out, HF.out, ← hv, d1]; simp)
          clear hw hv
          go_region_held3 (fun w' => w'.cell? ⟨w.heap.size, 0, none⟩ = some (.int .i32 c.r) ∧ w'.cell? ⟨w.heap.size, 4, none⟩ = some (.int .i64 c.w)) (first | exact ⟨a0, a4⟩ | exact ⟨b0, b4⟩) (first
            | (go_at_call 47; refine (wof_any c.r (hLa.low hbr.drew)).mono ?_; rintro e w2 ⟨rfl, hb2⟩; have hB2 := hBr.drew.below hb2 hBr.lt; have b0 : w2.cell? ⟨w.heap.size, 0, none⟩ = some (.int .i32 c.r) := hB2.cell 0; have b4 : w2.cell? ⟨w.heap.size, 4, none⟩ = some (.int .i64 c.w) := hB2.cell 4))
          all_goals
            go_wp2_with fail
            go_ret
            exact ⟨by rw [EF.out]; rfl, hbr.drew.trans (hb2.mono hsr)⟩
        · have d2 : (c.w == wOf c.r) = false := by simpa using hv
          have EF := Lib.hid (show validCl c = false by rw [hf.out]; simp [hv])
          clear hw hv
          go_region_held3 (fun w' => w'.cell? ⟨w.heap.size, 0, none⟩ = some (.int .i32 c.r) ∧ w'.cell? ⟨w.heap.size, 4, none⟩ = some (.int .i64 c.w)) (first | exact ⟨a0, a4⟩ | exact ⟨b0, b4⟩) (first
            | (go_at_call 47; refine (wof_any c.r (hLa.low hbr.drew)).mono ?_; rintro e w2 ⟨rfl, hb2⟩; have hB2 := hBr.drew.below hb2 hBr.lt; have b0 : w2.cell? ⟨w.heap.size, 0, none⟩ = some (.int .i32 c.r) := hB2.cell 0; have b4 : w2.cell? ⟨w.heap.size, 4, none⟩ = some (.int .i64 c.w) := hB2.cell 4))
          all_goals
            go_wp2_with fail
            go_ret
            exact ⟨by rw [EF.out]; rfl, hbr.drew.trans (hb2.mono hsr)⟩
      · have d1 : decide (0 < c.w) = false := by simpa using hw
        have EF := Lib.hid (show validCl c = false by rw [hf.out, d1]; simp)
        clear hw
        go_region
        all_goals
          go_wp2_with fail
          go_ret
          exact ⟨by rw [EF.out]; rfl, hbr.drew⟩
theorem vcell_any (c : Cl) {w : World} (hL : Laid w) : Calls Tryd.prog 38 #[.agg #[.int .i32 c.r, .int .i32 c.m0, .int .i32 c.m1, .int .i32 c.m2, .int .i64 c.w, .int .i64 c.p.f.k, .int .u8 c.p.f.i, .int .u8 c.p.f.r, .int .u8 c.p.f.g, .int .u8 c.p.f.b, .int .i64 c.p.b.k, .int .u8 c.p.b.i, .int .u8 c.p.b.r, .int .u8 c.p.b.g, .int .u8 c.p.b.b, .int .u8 c.p.fl]] w fun e w' => e = .returned (.bool (validCl c)) ∧ Below w.heap.size w w' := by
  by_cases hp : validPn c.p = true
  · by_cases hr : c.r = 0
    · exact vcell_zero c hp hr
    · exact vcell_rune c hL hp hr
  · exact vcell_bad c (by simpa using hp)
end Go.Proofs.YthophmihgmjnfaaDoor
