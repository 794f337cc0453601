/- A part of the proof of RepaintBytes. -/
import Derived.Test.YthophmihgmjnfaaDoorVH
set_option linter.unusedVariables false
set_option linter.unusedSimpArgs false
-- --
namespace Go.Proofs.YthophmihgmjnfaaDoor
open Go.RowKit Go.Rep
set_option maxRecDepth 100000
set_option linter.unusedSimpArgs false
theorem downTo_stop {a b : List Cl} {f : Nat} (h1 : (cAt a f).w ≠ 0) (h2 : (cAt b f).w ≠ 0) : downTo a b f = f := by
  cases f with
  | zero => rfl
  | succ f =>
    unfold downTo
    rw [if_neg (by rintro (h | h); exact h1 h; exact h2 h)]
set_option maxHeartbeats 16000000 in
theorem changed_any {a b : List Cl} {n B ca cb : Nat} {Aa Ab : Option Addr} {w : World} (ra : Reads w B 16 Aa n (cvals a)) (rb : Reads w B 16 Ab n (cvals b)) (la : a.length = n) (lb : b.length = n) (hB : B ≤ w.heap.size) (hn : n ≤ 1000) (h0 : 0 < n → (cAt a 0).w ≠ 0 ∧ (cAt b 0).w ≠ 0) :
    Calls Tryd.prog 18 #[.slice Aa n ca, .slice Ab n cb] w fun e w' => e = .returned (.slice (some ⟨w.heap.size, 0, none⟩) n n) ∧ Blk w' w.heap.size 4 (bvals (chg a b n n)).toArray ∧ Below w.heap.size w w' := by
  have HA := Lib.hid ra
  have HB := Lib.hid rb
  clear ra rb
  have hmk := make_bools n (by omega)
  have hb0 : Below w.heap.size w (w.alloc (.cells (bvals (List.replicate n false)).toArray 4)) := (Below.refl _ _).alloc (Nat.le_refl _) _
  have hB0 : Blk (w.alloc (.cells (bvals (List.replicate n false)).toArray 4)) w.heap.size 4 (bvals (List.replicate n false)).toArray := Blk.new w 4 _
  go_enter Tryd.func18, Tryd.ntmps18
  go_wp2
  go_loopw [15] (fun i wr => ∃ j : Nat, j ≤ n ∧ i = .int .i64 j ∧ Blk wr w.heap.size 4 (bvals (chg a b n j)).toArray ∧ Below w.heap.size w wr) (fun i _ => n - (intOf i).toNat)
  case atStart => exact ⟨0, Nat.zero_le _, rfl, hB0, hb0⟩
  case round =>
    obtain ⟨j, hj, rfl, hBr, hbr⟩ := hrel
    have hsr := hbr.size
    clear hb0 hB0 hmk
    by_cases hlt : j < n
    · have hlt' : (j : Int) < (n : Int) := by omega
      have RA := HA.out.below (hbr.mono hB)
      have RB := HB.out.below (hbr.mono hB)
      obtain ⟨ada, rfl⟩ := RA.some_ (by omega)
      obtain ⟨adb, rfl⟩ := RB.some_ (by omega)
      have hja : j < a.length := by omega
      have hjb : j < b.length := by omega
      have qe : ∀ W, (binOp .eql 46 (.agg #[.int .i32 (cAt a j).r, .int .i32 (cAt a j).m0, .int .i32 (cAt a j).m1, .int .i32 (cAt a j).m2, .int .i64 (cAt a j).w, .int .i64 (cAt a j).p.f.k, .int .u8 (cAt a j).p.f.i, .int .u8 (cAt a j).p.f.r, .int .u8 (cAt a j).p.f.g, .int .u8 (cAt a j).p.f.b, .int .i64 (cAt a j).p.b.k, .int .u8 (cAt a j).p.b.i, .int .u8 (cAt a j).p.b.r, .int .u8 (cAt a j).p.b.g, .int .u8 (cAt a j).p.b.b, .int .u8 (cAt a j).p.fl]) (.agg #[.int .i32 (cAt b j).r, .int .i32 (cAt b j).m0, .int .i32 (cAt b j).m1, .int .i32 (cAt b j).m2, .int .i64 (cAt b j).w, .int .i64 (cAt b j).p.f.k, .int .u8 (cAt b j).p.f.i, .int .u8 (cAt b j).p.f.r, .int .u8 (cAt b j).p.f.g, .int .u8 (cAt b j).p.f.b, .int .i64 (cAt b j).p.b.k, .int .u8 (cAt b j).p.b.i, .int .u8 (cAt b j).p.b.r, .int .u8 (cAt b j).p.b.g, .int .u8 (cAt b j).p.b.b, .int .u8 (cAt b j).p.fl])).run Tryd.prog W = .ok (.bool (decide (cAt a j = cAt b j))) W := fun W => cell_eql (cAt a j) (cAt b j) W
      obtain ⟨mb, hmb_⟩ : ∃ mb, (chg a b n j).getD j false = mb := ⟨_, rfl⟩
      have hmb := Lib.hid hmb_
      clear hmb_
      go_upto_region 5 with fail
      have x0 : wr.drew.cell? (ada.add (j * 16)) = some (.int .i32 (cAt a j).r) := Reads.cFirst RA.drew hja
      have x1 : wr.drew.cell? ⟨(ada.add (j * 16)).block, (ada.add (j * 16)).off + 1, none⟩ = some (.int .i32 (cAt a j).m0) := Reads.cOff RA.drew hja 1 (by decide) rfl
      have x2 : wr.drew.cell? ⟨(ada.add (j * 16)).block, (ada.add (j * 16)).off + 2, none⟩ = some (.int .i32 (cAt a j).m1) := Reads.cOff RA.drew hja 2 (by decide) rfl
      have x3 : wr.drew.cell? ⟨(ada.add (j * 16)).block, (ada.add (j * 16)).off + 3, none⟩ = some (.int .i32 (cAt a j).m2) := Reads.cOff RA.drew hja 3 (by decide) rfl
      have x4 : wr.drew.cell? ⟨(ada.add (j * 16)).block, (ada.add (j * 16)).off + 4, none⟩ = some (.int .i64 (cAt a j).w) := Reads.cOff RA.drew hja 4 (by decide) rfl
      have x5 : wr.drew.cell? ⟨(ada.add (j * 16)).block, (ada.add (j * 16)).off + 5, none⟩ = some (.int .i64 (cAt a j).p.f.k) := Reads.cOff RA.drew hja 5 (by decide) rfl
      have x6 : wr.drew.cell? ⟨(ada.add (j * 16)).block, (ada.add (j * 16)).off + 6, none⟩ = some (.int .u8 (cAt a j).p.f.i) := Reads.cOff RA.drew hja 6 (by decide) rfl
      have x7 : wr.drew.cell? ⟨(ada.add (j * 16)).block, (ada.add (j * 16)).off + 7, none⟩ = some (.int .u8 (cAt a j).p.f.r) := Reads.cOff RA.drew hja 7 (by decide) rfl
      have x8 : wr.drew.cell? ⟨(ada.add (j * 16)).block, (ada.add (j * 16)).off + 8, none⟩ = some (.int .u8 (cAt a j).p.f.g) := Reads.cOff RA.drew hja 8 (by decide) rfl
      have x9 : wr.drew.cell? ⟨(ada.add (j * 16)).block, (ada.add (j * 16)).off + 9, none⟩ = some (.int .u8 (cAt a j).p.f.b) := Reads.cOff RA.drew hja 9 (by decide) rfl
      have x10 : wr.drew.cell? ⟨(ada.add (j * 16)).block, (ada.add (j * 16)).off + 10, none⟩ = some (.int .i64 (cAt a j).p.b.k) := Reads.cOff RA.drew hja 10 (by decide) rfl
      have x11 : wr.drew.cell? ⟨(ada.add (j * 16)).block, (ada.add (j * 16)).off + 11, none⟩ = some (.int .u8 (cAt a j).p.b.i) := Reads.cOff RA.drew hja 11 (by decide) rfl
      have x12 : wr.drew.cell? ⟨(ada.add (j * 16)).block, (ada.add (j * 16)).off + 12, none⟩ = some (.int .u8 (cAt a j).p.b.r) := Reads.cOff RA.drew hja 12 (by decide) rfl
      have x13 : wr.drew.cell? ⟨(ada.add (j * 16)).block, (ada.add (j * 16)).off + 13, none⟩ = some (.int .u8 (cAt a j).p.b.g) := Reads.cOff RA.drew hja 13 (by decide) rfl
      have x14 : wr.drew.cell? ⟨(ada.add (j * 16)).block, (ada.add (j * 16)).off + 14, none⟩ = some (.int .u8 (cAt a j).p.b.b) := Reads.cOff RA.drew hja 14 (by decide) rfl
      have x15 : wr.drew.cell? ⟨(ada.add (j * 16)).block, (ada.add (j * 16)).off + 15, none⟩ = some (.int .u8 (cAt a j).p.fl) := Reads.cOff RA.drew hja 15 (by decide) rfl
      have x16 : wr.drew.cell? (adb.add (j * 16)) = some (.int .i32 (cAt b j).r) := Reads.cFirst RB.drew hjb
      have x17 : wr.drew.cell? ⟨(adb.add (j * 16)).block, (adb.add (j * 16)).off + 1, none⟩ = some (.int .i32 (cAt b j).m0) := Reads.cOff RB.drew hjb 1 (by decide) rfl
      have x18 : wr.drew.cell? ⟨(adb.add (j * 16)).block, (adb.add (j * 16)).off + 2, none⟩ = some (.int .i32 (cAt b j).m1) := Reads.cOff RB.drew hjb 2 (by decide) rfl
      have x19 : wr.drew.cell? ⟨(adb.add (j * 16)).block, (adb.add (j * 16)).off + 3, none⟩ = some (.int .i32 (cAt b j).m2) := Reads.cOff RB.drew hjb 3 (by decide) rfl
      have x20 : wr.drew.cell? ⟨(adb.add (j * 16)).block, (adb.add (j * 16)).off + 4, none⟩ = some (.int .i64 (cAt b j).w) := Reads.cOff RB.drew hjb 4 (by decide) rfl
      have x21 : wr.drew.cell? ⟨(adb.add (j * 16)).block, (adb.add (j * 16)).off + 5, none⟩ = some (.int .i64 (cAt b j).p.f.k) := Reads.cOff RB.drew hjb 5 (by decide) rfl
      have x22 : wr.drew.cell? ⟨(adb.add (j * 16)).block, (adb.add (j * 16)).off + 6, none⟩ = some (.int .u8 (cAt b j).p.f.i) := Reads.cOff RB.drew hjb 6 (by decide) rfl
      have x23 : wr.drew.cell? ⟨(adb.add (j * 16)).block, (adb.add (j * 16)).off + 7, none⟩ = some (.int .u8 (cAt b j).p.f.r) := Reads.cOff RB.drew hjb 7 (by decide) rfl
      have x24 : wr.drew.cell? ⟨(adb.add (j * 16)).block, (adb.add (j * 16)).off + 8, none⟩ = some (.int .u8 (cAt b j).p.f.g) := Reads.cOff RB.drew hjb 8 (by decide) rfl
      have x25 : wr.drew.cell? ⟨(adb.add (j * 16)).block, (adb.add (j * 16)).off + 9, none⟩ = some (.int .u8 (cAt b j).p.f.b) := Reads.cOff RB.drew hjb 9 (by decide) rfl
      have x26 : wr.drew.cell? ⟨(adb.add (j * 16)).block, (adb.add (j * 16)).off + 10, none⟩ = some (.int .i64 (cAt b j).p.b.k) := Reads.cOff RB.drew hjb 10 (by decide) rfl
      have x27 : wr.drew.cell? ⟨(adb.add (j * 16)).block, (adb.add (j * 16)).off + 11, none⟩ = some (.int .u8 (cAt b j).p.b.i) := Reads.cOff RB.drew hjb 11 (by decide) rfl
      have x28 : wr.drew.cell? ⟨(adb.add (j * 16)).block, (adb.add (j * 16)).off + 12, none⟩ = some (.int .u8 (cAt b j).p.b.r) := Reads.cOff RB.drew hjb 12 (by decide) rfl
      have x29 : wr.drew.cell? ⟨(adb.add (j * 16)).block, (adb.add (j * 16)).off + 13, none⟩ = some (.int .u8 (cAt b j).p.b.g) := Reads.cOff RB.drew hjb 13 (by decide) rfl
      have x30 : wr.drew.cell? ⟨(adb.add (j * 16)).block, (adb.add (j * 16)).off + 14, none⟩ = some (.int .u8 (cAt b j).p.b.b) := Reads.cOff RB.drew hjb 14 (by decide) rfl
      have x31 : wr.drew.cell? ⟨(adb.add (j * 16)).block, (adb.add (j * 16)).off + 15, none⟩ = some (.int .u8 (cAt b j).p.fl) := Reads.cOff RB.drew hjb 15 (by decide) rfl
      have x32 : wr.drew.cell? ⟨w.heap.size, j, none⟩ = some (.bool mb) := (hBr.drew.cell j).trans ((bvals_at _ (by rw [chg_len]; exact hlt)).trans (by rw [hmb.out]))
      refine wp_region_noPanic ?_
      refine wp_region_held_drew (S := (fun w' => w'.cell? (ada.add (j * 16)) = some (.int .i32 (cAt a j).r) ∧ w'.cell? ⟨(ada.add (j * 16)).block, (ada.add (j * 16)).off + 1, none⟩ = some (.int .i32 (cAt a j).m0) ∧ w'.cell? ⟨(ada.add (j * 16)).block, (ada.add (j * 16)).off + 2, none⟩ = some (.int .i32 (cAt a j).m1) ∧ w'.cell? ⟨(ada.add (j * 16)).block, (ada.add (j * 16)).off + 3, none⟩ = some (.int .i32 (cAt a j).m2) ∧ w'.cell? ⟨(ada.add (j * 16)).block, (ada.add (j * 16)).off + 4, none⟩ = some (.int .i64 (cAt a j).w) ∧ w'.cell? ⟨(ada.add (j * 16)).block, (ada.add (j * 16)).off + 5, none⟩ = some (.int .i64 (cAt a j).p.f.k) ∧ w'.cell? ⟨(ada.add (j * 16)).block, (ada.add (j * 16)).off + 6, none⟩ = some (.int .u8 (cAt a j).p.f.i) ∧ w'.cell? ⟨(ada.add (j * 16)).block, (ada.add (j * 16)).off + 7, none⟩ = some (.int .u8 (cAt a j).p.f.r) ∧ w'.cell? ⟨(ada.add (j * 16)).block, (ada.add (j * 16)).off + 8, none⟩ = some (.int .u8 (cAt a j).p.f.g) ∧ w'.cell? ⟨(ada.add (j * 16)).block, (ada.add (j * 16)).off + 9, none⟩ = some (.int .u8 (cAt a j).p.f.b) ∧ w'.cell? ⟨(ada.add (j * 16)).block, (ada.add (j * 16)).off + 10, none⟩ = some (.int .i64 (cAt a j).p.b.k) ∧ w'.cell? ⟨(ada.add (j * 16)).block, (ada.add (j * 16)).off + 11, none⟩ = some (.int .u8 (cAt a j).p.b.i) ∧ w'.cell? ⟨(ada.add (j * 16)).block, (ada.add (j * 16)).off + 12, none⟩ = some (.int .u8 (cAt a j).p.b.r) ∧ w'.cell? ⟨(ada.add (j * 16)).block, (ada.add (j * 16)).off + 13, none⟩ = some (.int .u8 (cAt a j).p.b.g) ∧ w'.cell? ⟨(ada.add (j * 16)).block, (ada.add (j * 16)).off + 14, none⟩ = some (.int .u8 (cAt a j).p.b.b) ∧ w'.cell? ⟨(ada.add (j * 16)).block, (ada.add (j * 16)).off + 15, none⟩ = some (.int .u8 (cAt a j).p.fl) ∧ w'.cell? (adb.add (j * 16)) = some (.int .i32 (cAt b j).r) ∧ w'.cell? ⟨(adb.add (j * 16)).block, (adb.add (j * 16)).off + 1, none⟩ = some (.int .i32 (cAt b j).m0) ∧ w'.cell? ⟨(adb.add (j * 16)).block, (adb.add (j * 16)).off + 2, none⟩ = some (.int .i32 (cAt b j).m1) ∧ w'.cell? ⟨(adb.add (j * 16)).block, (adb.add (j * 16)).off + 3, none⟩ = some (.int .i32 (cAt b j).m2) ∧ w'.cell? ⟨(adb.add (j * 16)).block, (adb.add (j * 16)).off + 4, none⟩ = some (.int .i64 (cAt b j).w) ∧ w'.cell? ⟨(adb.add (j * 16)).block, (adb.add (j * 16)).off + 5, none⟩ = some (.int .i64 (cAt b j).p.f.k) ∧ w'.cell? ⟨(adb.add (j * 16)).block, (adb.add (j * 16)).off + 6, none⟩ = some (.int .u8 (cAt b j).p.f.i) ∧ w'.cell? ⟨(adb.add (j * 16)).block, (adb.add (j * 16)).off + 7, none⟩ = some (.int .u8 (cAt b j).p.f.r) ∧ w'.cell? ⟨(adb.add (j * 16)).block, (adb.add (j * 16)).off + 8, none⟩ = some (.int .u8 (cAt b j).p.f.g) ∧ w'.cell? ⟨(adb.add (j * 16)).block, (adb.add (j * 16)).off + 9, none⟩ = some (.int .u8 (cAt b j).p.f.b) ∧ w'.cell? ⟨(adb.add (j * 16)).block, (adb.add (j * 16)).off + 10, none⟩ = some (.int .i64 (cAt b j).p.b.k) ∧ w'.cell? ⟨(adb.add (j * 16)).block, (adb.add (j * 16)).off + 11, none⟩ = some (.int .u8 (cAt b j).p.b.i) ∧ w'.cell? ⟨(adb.add (j * 16)).block, (adb.add (j * 16)).off + 12, none⟩ = some (.int .u8 (cAt b j).p.b.r) ∧ w'.cell? ⟨(adb.add (j * 16)).block, (adb.add (j * 16)).off + 13, none⟩ = some (.int .u8 (cAt b j).p.b.g) ∧ w'.cell? ⟨(adb.add (j * 16)).block, (adb.add (j * 16)).off + 14, none⟩ = some (.int .u8 (cAt b j).p.b.b) ∧ w'.cell? ⟨(adb.add (j * 16)).block, (adb.add (j * 16)).off + 15, none⟩ = some (.int .u8 (cAt b j).p.fl) ∧ w'.cell? ⟨w.heap.size, j, none⟩ = some (.bool mb))) (by kernel_rfl) (by exact ⟨x0, x1, x2, x3, x4, x5, x6, x7, x8, x9, x10, x11, x12, x13, x14, x15, x16, x17, x18, x19, x20, x21, x22, x23, x24, x25, x26, x27, x28, x29, x30, x31, x32⟩) (fun hHeld => ?_)
      refine wpAnyH_take (i := 0) (v := ?_) (pick_op rfl) (by kernel_rfl) (by kernel_rfl) (by kernel_rfl) (fun _ _ _ h => h) (Or.inl ⟨by kernel_rfl, ?_⟩) hHeld ?_
      rotate_left
      · intro w_ hSw; (try dsimp only at hSw); go_simp; try with_reducible rfl
      try simp only [Act.put, List.setIfInBounds_toArray, List.set_cons_zero, List.set_cons_succ]
      refine wpAnyH_take (i := 1) (v := ?_) (pick_op rfl) (by kernel_rfl) (by kernel_rfl) (by kernel_rfl) (fun _ _ _ h => h) (Or.inl ⟨by kernel_rfl, ?_⟩) hHeld ?_
      rotate_left
      · intro w_ hSw; (try dsimp only at hSw); go_simp; try with_reducible rfl
      try simp only [Act.put, List.setIfInBounds_toArray, List.set_cons_zero, List.set_cons_succ]
      refine wpAnyH_take (i := 2) (v := ?_) (pick_op rfl) (by kernel_rfl) (by kernel_rfl) (by kernel_rfl) (fun _ _ _ h => h) (Or.inl ⟨by kernel_rfl, ?_⟩) hHeld ?_
      rotate_left
      · intro w_ hSw; (try dsimp only at hSw); go_simp; try with_reducible rfl
      try simp only [Act.put, List.setIfInBounds_toArray, List.set_cons_zero, List.set_cons_succ]
      refine wpAnyH_take (i := 3) (v := ?_) (pick_op rfl) (by kernel_rfl) (by kernel_rfl) (by kernel_rfl) (fun _ _ _ h => h) (Or.inl ⟨by kernel_rfl, ?_⟩) hHeld ?_
      rotate_left
      · intro w_ hSw; (try dsimp only at hSw); go_simp; try with_reducible rfl
      try simp only [Act.put, List.setIfInBounds_toArray, List.set_cons_zero, List.set_cons_succ]
      refine wpAnyH_take (i := 4) (v := ?_) (pick_op rfl) (by kernel_rfl) (by kernel_rfl) (by kernel_rfl) (fun _ _ _ h => h) (Or.inl ⟨by kernel_rfl, ?_⟩) hHeld ?_
      rotate_left
      · intro w_ hSw; (try dsimp only at hSw); go_simp; try with_reducible rfl
      try simp only [Act.put, List.setIfInBounds_toArray, List.set_cons_zero, List.set_cons_succ]
      refine wpAnyH_take (i := 5) (v := ?_) (pick_op rfl) (by kernel_rfl) (by kernel_rfl) (by kernel_rfl) (fun _ _ _ h => h) (Or.inl ⟨by kernel_rfl, ?_⟩) hHeld ?_
      rotate_left
      · intro w_ hSw; (try dsimp only at hSw); go_simp; try with_reducible rfl
      try simp only [Act.put, List.setIfInBounds_toArray, List.set_cons_zero, List.set_cons_succ]
      refine wpAnyH_take (i := 6) (v := ?_) (pick_op rfl) (by kernel_rfl) (by kernel_rfl) (by kernel_rfl) (fun _ _ _ h => h) (Or.inl ⟨by kernel_rfl, ?_⟩) hHeld ?_
      rotate_left
      · intro w_ hSw; (try dsimp only at hSw); go_simp; try with_reducible rfl
      try simp only [Act.put, List.setIfInBounds_toArray, List.set_cons_zero, List.set_cons_succ]
      refine wpAnyH_take (i := 7) (v := ?_) (pick_op rfl) (by kernel_rfl) (by kernel_rfl) (by kernel_rfl) (fun _ _ _ h => h) (Or.inl ⟨by kernel_rfl, ?_⟩) hHeld ?_
      rotate_left
      · intro w_ hSw; (try dsimp only at hSw); go_simp; try with_reducible rfl
      try simp only [Act.put, List.setIfInBounds_toArray, List.set_cons_zero, List.set_cons_succ]
      by_cases heq : cAt a j = cAt b j
      · have ep : decide (cAt a j = cAt b j) = true := decide_eq_true heq
        have HEQ := Lib.hid heq
        clear heq
        refine wpAnyH_take (i := 8) (v := ?_) (pick_op rfl) (by kernel_rfl) (by kernel_rfl) (by kernel_rfl) (fun _ _ _ h => h) (Or.inl ⟨by kernel_rfl, ?_⟩) hHeld ?_
        rotate_left
        · intro w_ hSw; (try dsimp only at hSw); go_simp; try with_reducible rfl
        try simp only [Act.put, List.setIfInBounds_toArray, List.set_cons_zero, List.set_cons_succ]
        refine wpAnyH_take (i := 9) (v := ?_) (pick_op rfl) (by kernel_rfl) (by kernel_rfl) (by kernel_rfl) (fun _ _ _ h => h) (Or.inl ⟨by kernel_rfl, ?_⟩) hHeld ?_
        rotate_left
        · intro w_ hSw; (try dsimp only at hSw); go_simp; try with_reducible rfl
        try simp only [Act.put, List.setIfInBounds_toArray, List.set_cons_zero, List.set_cons_succ]
        refine wpAnyH_take (i := 10) (pick_op rfl) (by kernel_rfl) (by kernel_rfl) (by kernel_rfl) (fun _ _ _ h => h) (Or.inr ⟨by kernel_rfl, rfl⟩) hHeld ?_
        try simp only [Act.put, List.setIfInBounds_toArray, List.set_cons_zero, List.set_cons_succ]
        refine wpAnyH_take (i := 11) (pick_op rfl) (by kernel_rfl) (by kernel_rfl) (by kernel_rfl) (fun _ _ _ h => h) (Or.inr ⟨by kernel_rfl, rfl⟩) hHeld ?_
        try simp only [Act.put, List.setIfInBounds_toArray, List.set_cons_zero, List.set_cons_succ]
        refine wpAnyH_take (i := 12) (pick_op rfl) (by kernel_rfl) (by kernel_rfl) (by kernel_rfl) (fun _ _ _ h => h) (Or.inr ⟨by kernel_rfl, rfl⟩) hHeld ?_
        try simp only [Act.put, List.setIfInBounds_toArray, List.set_cons_zero, List.set_cons_succ]
        refine wpAnyH_take (i := 13) (pick_op rfl) (by kernel_rfl) (by kernel_rfl) (by kernel_rfl) (fun _ _ _ h => h) (Or.inr ⟨by kernel_rfl, rfl⟩) hHeld ?_
        try simp only [Act.put, List.setIfInBounds_toArray, List.set_cons_zero, List.set_cons_succ]
        refine wpAnyH_take (i := 14) (v := ?_) (pick_op rfl) (by kernel_rfl) (by kernel_rfl) (by kernel_rfl) (fun _ _ _ h => h) (Or.inl ⟨by kernel_rfl, ?_⟩) hHeld ?_
        rotate_left
        · intro w_ hSw; (try dsimp only at hSw); go_simp; try with_reducible rfl
        try simp only [Act.put, List.setIfInBounds_toArray, List.set_cons_zero, List.set_cons_succ]
        refine wpAnyH_done (by kernel_rfl) ?_ _
        refine NoPanic.normal ?_
        go_wp2_with fail
        go_roundw
        case rel => exact ⟨j + 1, by omega, by go_num, by rw [show chg a b n (j + 1) = chg a b n j by show (if cAt a j = cAt b j ∨ (chg a b n j).getD j false = true then chg a b n j else markN (chg a b n j) (downTo a b j) (upTo a b n (j + 1) - downTo a b j)) = _; rw [if_pos (Or.inl HEQ.out)]]; exact hBr.drew, hbr.drew⟩
        case measure => simp [intOf]; omega
      · have ep : decide (cAt a j = cAt b j) = false := decide_eq_false heq
        have HEQ := Lib.hid heq
        clear heq
        refine wpAnyH_take (i := 8) (v := ?_) (pick_op rfl) (by kernel_rfl) (by kernel_rfl) (by kernel_rfl) (fun _ _ _ h => h) (Or.inl ⟨by kernel_rfl, ?_⟩) hHeld ?_
        rotate_left
        · intro w_ hSw; (try dsimp only at hSw); go_simp; try with_reducible rfl
        try simp only [Act.put, List.setIfInBounds_toArray, List.set_cons_zero, List.set_cons_succ]
        refine wpAnyH_take (i := 9) (v := ?_) (pick_op rfl) (by kernel_rfl) (by kernel_rfl) (by kernel_rfl) (fun _ _ _ h => h) (Or.inl ⟨by kernel_rfl, ?_⟩) hHeld ?_
        rotate_left
        · intro w_ hSw; (try dsimp only at hSw); go_simp; try with_reducible rfl
        try simp only [Act.put, List.setIfInBounds_toArray, List.set_cons_zero, List.set_cons_succ]
        refine wpAnyH_take (i := 10) (v := ?_) (pick_op rfl) (by kernel_rfl) (by kernel_rfl) (by kernel_rfl) (fun _ _ _ h => h) (Or.inl ⟨by kernel_rfl, ?_⟩) hHeld ?_
        rotate_left
        · intro w_ hSw; (try dsimp only at hSw); go_simp; try with_reducible rfl
        try simp only [Act.put, List.setIfInBounds_toArray, List.set_cons_zero, List.set_cons_succ]
        refine wpAnyH_take (i := 11) (v := ?_) (pick_op rfl) (by kernel_rfl) (by kernel_rfl) (by kernel_rfl) (fun _ _ _ h => h) (Or.inl ⟨by kernel_rfl, ?_⟩) hHeld ?_
        rotate_left
        · intro w_ hSw; (try dsimp only at hSw); go_simp; try with_reducible rfl
        try simp only [Act.put, List.setIfInBounds_toArray, List.set_cons_zero, List.set_cons_succ]
        refine wpAnyH_take (i := 12) (v := ?_) (pick_op rfl) (by kernel_rfl) (by kernel_rfl) (by kernel_rfl) (fun _ _ _ h => h) (Or.inl ⟨by kernel_rfl, ?_⟩) hHeld ?_
        rotate_left
        · intro w_ hSw; (try dsimp only at hSw); go_simp; try with_reducible rfl
        try simp only [Act.put, List.setIfInBounds_toArray, List.set_cons_zero, List.set_cons_succ]
        by_cases hm : mb = true
        · subst hm
          refine wpAnyH_take (i := 13) (v := ?_) (pick_op rfl) (by kernel_rfl) (by kernel_rfl) (by kernel_rfl) (fun _ _ _ h => h) (Or.inl ⟨by kernel_rfl, ?_⟩) hHeld ?_
          rotate_left
          · intro w_ hSw; (try dsimp only at hSw); go_simp; try with_reducible rfl
          try simp only [Act.put, List.setIfInBounds_toArray, List.set_cons_zero, List.set_cons_succ]
          refine wpAnyH_take (i := 14) (v := ?_) (pick_op rfl) (by kernel_rfl) (by kernel_rfl) (by kernel_rfl) (fun _ _ _ h => h) (Or.inl ⟨by kernel_rfl, ?_⟩) hHeld ?_
          rotate_left
          · intro w_ hSw; (try dsimp only at hSw); go_simp; try with_reducible rfl
          try simp only [Act.put, List.setIfInBounds_toArray, List.set_cons_zero, List.set_cons_succ]
          refine wpAnyH_done (by kernel_rfl) ?_ _
          refine NoPanic.normal ?_
          go_wp2_with fail
          go_roundw
          case rel => exact ⟨j + 1, by omega, by go_num, by rw [show chg a b n (j + 1) = chg a b n j by show (if cAt a j = cAt b j ∨ (chg a b n j).getD j false = true then chg a b n j else markN (chg a b n j) (downTo a b j) (upTo a b n (j + 1) - downTo a b j)) = _; rw [if_pos (Or.inr hmb.out)]]; exact hBr.drew, hbr.drew⟩
          case measure => simp [intOf]; omega
        · obtain rfl : mb = false := by simpa using hm
          clear hm
          refine wpAnyH_take (i := 13) (v := ?_) (pick_op rfl) (by kernel_rfl) (by kernel_rfl) (by kernel_rfl) (fun _ _ _ h => h) (Or.inl ⟨by kernel_rfl, ?_⟩) hHeld ?_
          rotate_left
          · intro w_ hSw; (try dsimp only at hSw); go_simp; try with_reducible rfl
          try simp only [Act.put, List.setIfInBounds_toArray, List.set_cons_zero, List.set_cons_succ]
          refine wpAnyH_take (i := 14) (v := ?_) (pick_op rfl) (by kernel_rfl) (by kernel_rfl) (by kernel_rfl) (fun _ _ _ h => h) (Or.inl ⟨by kernel_rfl, ?_⟩) hHeld ?_
          rotate_left
          · intro w_ hSw; (try dsimp only at hSw); go_simp; try with_reducible rfl
          try simp only [Act.put, List.setIfInBounds_toArray, List.set_cons_zero, List.set_cons_succ]
          refine wpAnyH_done (by kernel_rfl) ?_ _
          refine NoPanic.normal ?_
          have EC := Lib.hid (show chg a b n (j + 1) = markN (chg a b n j) (downTo a b j) (upTo a b n (j + 1) - downTo a b j) by show (if cAt a j = cAt b j ∨ (chg a b n j).getD j false = true then chg a b n j else markN (chg a b n j) (downTo a b j) (upTo a b n (j + 1) - downTo a b j)) = _; rw [if_neg (by rw [hmb.out]; rintro (h | h); exact HEQ.out h; cases h)])
          obtain ⟨wd, hwd⟩ : ∃ wd, wd = wr.drew := ⟨_, rfl⟩
          rw [← hwd]
          have Bd : Blk wd w.heap.size 4 (bvals (chg a b n j)).toArray := by rw [hwd]; exact hBr.drew
          have hbd : Below w.heap.size w wd := by rw [hwd]; exact hbr.drew
          have RAd : Reads wd B 16 (some ada) n (cvals a) := by rw [hwd]; exact RA.drew
          have RBd : Reads wd B 16 (some adb) n (cvals b) := by rw [hwd]; exact RB.drew
          clear hwd hBr RA RB hbr hmb HEQ ep x32 x0 x1 x2 x3 x4 x5 x6 x7 x8 x9 x10 x11 x12 x13 x14 x15 x16 x17 x18 x19 x20 x21 x22 x23 x24 x25 x26 x27 x28 x29 x30 x31
          have HM := chg_len a b n j
          obtain ⟨m, hm⟩ : ∃ m, chg a b n j = m := ⟨_, rfl⟩
          rw [hm] at Bd EC HM
          clear hm
          go_wp2_with fail
          go_loopw [7] (fun u wx => ∃ f : Nat, f ≤ j ∧ u = .int .i64 f ∧ Hid (downTo a b f = downTo a b j) ∧ wd = wx) (fun u _ => (intOf u).toNat)
          case atStart => exact ⟨j, Nat.le_refl _, rfl, Lib.hid rfl, rfl⟩
          case round =>
            obtain ⟨f, hf, rfl, hdf, hwx⟩ := hrel
            subst hwx
            have f1 : (f : Int) < (n : Int) := by omega
            have ya : wd.cell? ⟨(ada.add (f * 16)).block, (ada.add (f * 16)).off + 4, none⟩ = some (.int .i64 (cAt a f).w) := Reads.cOff RAd (by omega) 4 (by decide) rfl
            have yb : wd.cell? ⟨(adb.add (f * 16)).block, (adb.add (f * 16)).off + 4, none⟩ = some (.int .i64 (cAt b f).w) := Reads.cOff RBd (by omega) 4 (by decide) rfl
            by_cases hza : (cAt a f).w = 0
            · have e1 : ((cAt a f).w == 0) = true := beq_iff_eq.2 hza
              obtain ⟨f, rfl⟩ : ∃ f', f = f' + 1 := ⟨f - 1, by rcases Nat.eq_zero_or_pos f with h | h; subst h; exact absurd hza (h0 (by omega)).1; omega⟩
              have EW : IntKind.i64.wrap (((f + 1 : Nat) : Int) - 1) = (f : Int) := by rw [IntWalk.i64_in] <;> omega
              have ED := Lib.hid (show downTo a b (f + 1) = downTo a b f by conv => lhs; unfold downTo; rw [if_pos (.inl hza)])
              clear hza
              go_wp2
              go_roundw
              case rel => exact ⟨f, by omega, by first | rfl | (show Value.int .i64 _ = .int .i64 _; congr 1; omega), Lib.hid (by rw [← ED.out]; exact hdf.out), trivial⟩
              case measure => first | (simp [intOf]; done) | (simp [intOf]; omega)
            · have e1 : ((cAt a f).w == 0) = false := beq_eq_false_iff_ne.2 hza
              by_cases hzb : (cAt b f).w = 0
              · have e2 : ((cAt b f).w == 0) = true := beq_iff_eq.2 hzb
                obtain ⟨f, rfl⟩ : ∃ f', f = f' + 1 := ⟨f - 1, by rcases Nat.eq_zero_or_pos f with h | h; subst h; exact absurd hzb (h0 (by omega)).2; omega⟩
                have EW : IntKind.i64.wrap (((f + 1 : Nat) : Int) - 1) = (f : Int) := by rw [IntWalk.i64_in] <;> omega
                have ED := Lib.hid (show downTo a b (f + 1) = downTo a b f by conv => lhs; unfold downTo; rw [if_pos (.inr hzb)])
                clear hza hzb
                go_wp2
                go_roundw
                case rel => exact ⟨f, by omega, by first | rfl | (show Value.int .i64 _ = .int .i64 _; congr 1; omega), Lib.hid (by rw [← ED.out]; exact hdf.out), trivial⟩
                case measure => first | (simp [intOf]; done) | (simp [intOf]; omega)
              · have e2 : ((cAt b f).w == 0) = false := beq_eq_false_iff_ne.2 hzb
                have EF := Lib.hid (show downTo a b j = f by rw [← hdf.out]; exact downTo_stop hza hzb)
                clear hza hzb hdf
                rw [EF.out] at EC
                go_wp2_with fail
                go_loopw [8] (fun u wx => ∃ t : Nat, j + 1 ≤ t ∧ t ≤ n ∧ u = .int .i64 t ∧ Hid (upTo a b n t = upTo a b n (j + 1)) ∧ wd = wx) (fun u _ => n - (intOf u).toNat)
                case atStart => exact ⟨j + 1, Nat.le_refl _, by omega, by go_num, Lib.hid rfl, rfl⟩
                case round =>
                  obtain ⟨t, ht1, ht2, rfl, hut, hwx⟩ := hrel
                  subst hwx
                  clear ya yb
                  by_cases ht : t < n
                  · have t1 : (t : Int) < (n : Int) := by omega
                    have ya : wd.cell? ⟨(ada.add (t * 16)).block, (ada.add (t * 16)).off + 4, none⟩ = some (.int .i64 (cAt a t).w) := Reads.cOff RAd (by omega) 4 (by decide) rfl
                    have yb : wd.cell? ⟨(adb.add (t * 16)).block, (adb.add (t * 16)).off + 4, none⟩ = some (.int .i64 (cAt b t).w) := Reads.cOff RBd (by omega) 4 (by decide) rfl
                    by_cases hza : (cAt a t).w = 0
                    · have e1 : ((cAt a t).w == 0) = true := beq_iff_eq.2 hza
                      have EU := Lib.hid (show upTo a b n t = upTo a b n (t + 1) by conv => lhs; unfold upTo; rw [if_pos ⟨ht, .inl hza⟩])
                      clear hza
                      go_wp2
                      go_roundw
                      case rel => exact ⟨t + 1, by omega, by omega, by go_num, Lib.hid (by rw [← EU.out]; exact hut.out), trivial⟩
                      case measure => simp [intOf]; omega
                    · have e1 : ((cAt a t).w == 0) = false := beq_eq_false_iff_ne.2 hza
                      by_cases hzb : (cAt b t).w = 0
                      · have e2 : ((cAt b t).w == 0) = true := beq_iff_eq.2 hzb
                        have EU := Lib.hid (show upTo a b n t = upTo a b n (t + 1) by conv => lhs; unfold upTo; rw [if_pos ⟨ht, .inr hzb⟩])
                        clear hza hzb
                        go_wp2
                        go_roundw
                        case rel => exact ⟨t + 1, by omega, by omega, by go_num, Lib.hid (by rw [← EU.out]; exact hut.out), trivial⟩
                        case measure => simp [intOf]; omega
                      · have e2 : ((cAt b t).w == 0) = false := beq_eq_false_iff_ne.2 hzb
                        have EX := Lib.hid (show upTo a b n (j + 1) = t by rw [← hut.out]; unfold upTo; rw [if_neg (by rintro ⟨_, h | h⟩; exact hza h; exact hzb h)])
                        clear hza hzb hut
                        rw [EX.out] at EC
                        go_wp2_with fail
                        go_loopw [9] (fun u wx => ∃ k : Nat, f ≤ k ∧ k ≤ t ∧ u = .int .i64 k ∧ Blk wx w.heap.size 4 (bvals (markN m f (k - f))).toArray ∧ Below w.heap.size w wx) (fun u _ => t - (intOf u).toNat)
                        case atStart => exact ⟨f, Nat.le_refl _, by omega, rfl, by rw [Nat.sub_self]; exact Bd, hbd⟩
                        case round =>
                          obtain ⟨k, hk1, hk2, rfl, Bk, hbk⟩ := hrel
                          by_cases hkt : k < t
                          · have k1 : (k : Int) < (t : Int) := by omega
                            have k2 : (k : Int) < (n : Int) := by omega
                            have c1 : wr.cell? ⟨w.heap.size, k, none⟩ = some (.bool ((markN m f (k - f)).getD k false)) := (Bk.cell k).trans (bvals_at _ (by rw [markN_len, HM]; omega))
                            have c2 := Bk.frozen k
                            go_wp2
                            go_roundw
                            case rel => exact ⟨k + 1, by omega, by omega, by go_num, by rw [show k + 1 - f = (k - f) + 1 by omega]; show Blk _ _ _ (bvals ((markN m f (k - f)).set (f + (k - f)) true)).toArray; rw [show f + (k - f) = k by omega, ← bvals_set]; exact Bk.set_ k _, hbk.setCell (p := ⟨w.heap.size, k, none⟩) (Nat.le_refl _) _⟩
                            case measure => simp [intOf]; omega
                          · obtain rfl : k = t := by omega
                            have k1 : ¬ (k : Int) < (k : Int) := by omega
                            go_wp2
                            go_roundw
                            case rel => exact ⟨j + 1, by omega, by go_num, by rw [EC.out]; exact Bk, hbk⟩
                            case measure => simp [intOf]; omega
                  · obtain rfl : t = n := by omega
                    have t1 : ¬ (t : Int) < (t : Int) := by omega
                    have EX := Lib.hid (show upTo a b t (j + 1) = t by rw [← hut.out]; unfold upTo; rw [if_neg (by omega)])
                    clear hut
                    rw [EX.out] at EC
                    go_wp2_with fail
                    go_loopw [9] (fun u wx => ∃ k : Nat, f ≤ k ∧ k ≤ t ∧ u = .int .i64 k ∧ Blk wx w.heap.size 4 (bvals (markN m f (k - f))).toArray ∧ Below w.heap.size w wx) (fun u _ => t - (intOf u).toNat)
                    case atStart => exact ⟨f, Nat.le_refl _, by omega, rfl, by rw [Nat.sub_self]; exact Bd, hbd⟩
                    case round =>
                      obtain ⟨k, hk1, hk2, rfl, Bk, hbk⟩ := hrel
                      by_cases hkt : k < t
                      · have k1 : (k : Int) < (t : Int) := by omega
                        have k2 : (k : Int) < (t : Int) := by omega
                        have c1 : wr.cell? ⟨w.heap.size, k, none⟩ = some (.bool ((markN m f (k - f)).getD k false)) := (Bk.cell k).trans (bvals_at _ (by rw [markN_len, HM]; omega))
                        have c2 := Bk.frozen k
                        go_wp2
                        go_roundw
                        case rel => exact ⟨k + 1, by omega, by omega, by go_num, by rw [show k + 1 - f = (k - f) + 1 by omega]; show Blk _ _ _ (bvals ((markN m f (k - f)).set (f + (k - f)) true)).toArray; rw [show f + (k - f) = k by omega, ← bvals_set]; exact Bk.set_ k _, hbk.setCell (p := ⟨w.heap.size, k, none⟩) (Nat.le_refl _) _⟩
                        case measure => simp [intOf]; omega
                      · obtain rfl : k = t := by omega
                        have k1 : ¬ (k : Int) < (k : Int) := by omega
                        go_wp2
                        go_roundw
                        case rel => exact ⟨j + 1, by omega, by go_num, by rw [EC.out]; exact Bk, hbk⟩
                        case measure => simp [intOf]; omega
    · obtain rfl : j = n := by omega
      have hlt' : ¬ ((j : Nat) : Int) < ((j : Nat) : Int) := by omega
      go_wp2
      go_ret
      exact ⟨rfl, hBr, hbr⟩
end Go.Proofs.YthophmihgmjnfaaDoor
