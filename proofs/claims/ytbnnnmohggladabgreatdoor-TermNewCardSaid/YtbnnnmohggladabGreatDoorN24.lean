/- A part of the proof of TermNew. -/
import Derived.Test.YtbnnnmohggladabGreatDoorNB
import Derived.Test.YtbnnnmohggladabGreatDoorND
namespace Go.Proofs.YtbnnnmohggladabGreatDoor
open Go.RowKit Go.Rep
set_option maxRecDepth 100000
def RMadeP (w : World) (s n m h : Nat) (w' : World) : Prop := ∃ p g v b st, Blk w' s 89 (SR n m h (.pointer (some ⟨p, 0, none⟩)) st true true ((n : Int) - 1)) ∧ Blk w' p 216 #[.pointer (some ⟨g, 0, none⟩), b, .int .i64 0, .int .i64 0, .int .i64 0, .bool false, .int .i64 0, .int .u8 0, .int .u8 0, .int .u8 0, .int .u8 0, .int .i64 0, .int .u8 0, .int .u8 0, .int .u8 0, .int .u8 0, .int .u8 0, .bool false, .int .i64 0, .int .i64 0, .int .i64 0, .bool false] ∧ Blk w' g 166 #[.int .i64 m, v] ∧ Lines w' w.heap.size v n m ∧ Below s w w'
set_option maxHeartbeats 4000000 in
theorem ref_reset {s n m h : Nat} {w : World} (n0 : 1 ≤ n) (hn : n ≤ 1000) (hm : m ≤ 1000) (hS : Blk w s 89 (SR n m h (.pointer none) (.pointer none) false false 0)) : Calls Tryz.prog 51 #[.pointer (some ⟨s, 0, none⟩)] w fun e w' => (∃ u, e = .returned u) ∧ RMadeP w s n m h w' := by
  have hsw := hS.lt
  have hwr : IntKind.i64.wrap ((n : Int) - 1) = (n : Int) - 1 := by rw [IntWalk.i64_in] <;> omega
  have x0 : w.cell? ⟨s, 0, none⟩ = some (.int .i64 n) := hS.cell 0
  have x1 : w.cell? ⟨s, 1, none⟩ = some (.int .i64 m) := hS.cell 1
  have x0d : w.drew.cell? ⟨s, 0, none⟩ = some (.int .i64 n) := hS.cell 0
  have x1d : w.drew.cell? ⟨s, 1, none⟩ = some (.int .i64 m) := hS.cell 1
  go_enter Tryz.func51, Tryz.ntmps51
  go_upto_region 0 with fail
  go_cut [] (fun wx => ∃ p g v b q3, Blk wx s 89 (SR n m h (.pointer (some ⟨p, 0, none⟩)) (.pointer q3) false false 0) ∧ w.heap.size ≤ p ∧ w.heap.size ≤ g ∧ Blk wx p 216 #[.pointer (some ⟨g, 0, none⟩), b, .int .i64 0, .int .i64 0, .int .i64 0, .bool false, .int .i64 0, .int .u8 0, .int .u8 0, .int .u8 0, .int .u8 0, .int .i64 0, .int .u8 0, .int .u8 0, .int .u8 0, .int .u8 0, .int .u8 0, .bool false, .int .i64 0, .int .i64 0, .int .i64 0, .bool false] ∧ Blk wx g 166 #[.int .i64 m, v] ∧ Lines wx w.heap.size v n m ∧ Off s w wx)
  case first =>
    go_region_law (first
      | (go_simp; go_at_call 83; refine (pair_new hn hm _).mono ?_; rintro e w1 ⟨p, g, v, b, rfl, hp, hg, hP, hB, hL, hb1⟩; have hS1 := hS.drew.below hb1 hsw; have y1 : w1.cell? ⟨s, 1, none⟩ = some (.int .i64 m) := hS1.cell 1; have hs1 := hS1.lt)
      | (go_simp; go_at_call 84; refine (stops_new hm _).mono ?_; rintro e w2 ⟨q2, rfl, ⟨q3, rfl⟩, hb2⟩; have hS2 := hS1.below hb2 hs1; have z5 : w2.cell? ⟨s, 5, none⟩ = some (.pointer none) := hS2.cell 5; have f5 := hS2.frozen 5; have hS3 := hS2.set_ 5 (.pointer (some ⟨p, 0, none⟩)); have z31 : (w2.setCell ⟨s, 5, none⟩ (.pointer (some ⟨p, 0, none⟩))).cell? ⟨s, 31, none⟩ = some (.pointer none) := hS3.cell 31; have f31 := hS3.frozen 31))
    all_goals
      go_wp2_with fail
      go_meet
      have hp' : w.heap.size ≤ p := hp
      have hg' : w.heap.size ≤ g := hg
      have ho : Off s w1 ((w2.setCell ⟨s, 5, none⟩ (.pointer (some ⟨p, 0, none⟩))).setCell ⟨s, 31, none⟩ (.pointer q3)) := off_trans (off_below hb2) (off_trans off_set off_set)
      exact ⟨p, g, v, b, q3, hS3.set_ 31 _, hp', hg', blk_off ho hP (by omega), blk_off ho hB (by omega), lines_off ho hL (by exact hsw), off_trans (off_below ((Below.refl w.heap.size w).drew.trans hb1)) ho⟩
  case rest =>
    obtain ⟨p, g, v, b, q3, hS2, hp, hg, hP, hB, hL, ho2⟩ := hcut
    have y0 : wc.cell? ⟨s, 0, none⟩ = some (.int .i64 n) := hS2.cell 0
    clear x0 x1 x0d x1d
    go_wp2_with (first
      | (go_at_call 85; refine (rmodes_new _).mono ?_; rintro e w7 ⟨rfl, hb7⟩; have hS7 := hS2.below hb7 hS2.lt; have ho7 := off_below (s := s) hb7)
      | ((with_reducible refine wpList_store_part rfl 39 (.tmp 31) (.tmp 26) rfl s 6 89 (SR n m h (.pointer (some ⟨p, 0, none⟩)) (.pointer q3) false false 0) #[.int .i64 0, .int .i64 0, .bool false] (SR n m h (.pointer (some ⟨p, 0, none⟩)) (.pointer q3) false false 0) rfl rfl (hS7) (by kernel_rfl) (Nat.le_of_ble_eq_true (by kernel_rfl)) (by kernel_rfl) (by kernel_rfl) ?_); intro w8 hw8; have ho8 := off_trans ho7 (off_stored hw8))
      | ((with_reducible refine wpList_store_part rfl 47 (.tmp 33) (.tmp 27) rfl s 9 89 (SR n m h (.pointer (some ⟨p, 0, none⟩)) (.pointer q3) false false 0) #[.int .i64 0, .int .u8 0, .int .u8 0, .int .u8 0, .int .u8 0, .int .i64 0, .int .u8 0, .int .u8 0, .int .u8 0, .int .u8 0, .int .u8 0] (SR n m h (.pointer (some ⟨p, 0, none⟩)) (.pointer q3) false false 0) rfl rfl (hw8.blk) (by kernel_rfl) (Nat.le_of_ble_eq_true (by kernel_rfl)) (by kernel_rfl) (by kernel_rfl) ?_); intro w9 hw9; have ho9 := off_trans ho8 (off_stored hw9))
      | ((with_reducible refine wpList_store_part rfl 41 (.tmp 35) (.tmp 28) rfl s 20 89 (SR n m h (.pointer (some ⟨p, 0, none⟩)) (.pointer q3) false false 0) #[.bool true, .bool false, .bool false, .bool true, .bool false, .bool false, .bool false, .int .i64 0, .int .i64 0] (SR n m h (.pointer (some ⟨p, 0, none⟩)) (.pointer q3) true true 0) rfl rfl (hw9.blk) (by kernel_rfl) (Nat.le_of_ble_eq_true (by kernel_rfl)) (by kernel_rfl) (by kernel_rfl) ?_); intro w10 hw10; have ho10 := off_trans ho9 (off_stored hw10))
      | ((with_reducible refine wpList_store_part rfl 84 (.tmp 37) (.tmp 29) rfl s 32 89 (SR n m h (.pointer (some ⟨p, 0, none⟩)) (.pointer q3) true true 0) #[.int .i64 0, .int .i64 0, .int .i64 0] (SR n m h (.pointer (some ⟨p, 0, none⟩)) (.pointer q3) true true 0) rfl rfl (hw10.blk) (by kernel_rfl) (Nat.le_of_ble_eq_true (by kernel_rfl)) (by kernel_rfl) (by kernel_rfl) ?_); intro w11 hw11; have ho11 := off_trans ho10 (off_stored hw11); have y10 : w11.cell? ⟨s, 0, none⟩ = some (.int .i64 n) := hw11.blk.cell 0)
      | ((with_reducible refine wpList_store_part rfl 79 (.tmp 49) (.tmp 46) rfl s 29 89 (SR n m h (.pointer (some ⟨p, 0, none⟩)) (.pointer q3) true true 0) #[.int .i64 0, .int .i64 ((n : Int) - 1)] (SR n m h (.pointer (some ⟨p, 0, none⟩)) (.pointer q3) true true ((n : Int) - 1)) rfl rfl (hw11.blk) (by kernel_rfl) (Nat.le_of_ble_eq_true (by kernel_rfl)) (by kernel_rfl) (by kernel_rfl) ?_); intro w12 hw12; have ho12 := off_trans ho11 (off_stored hw12))
      | ((with_reducible refine wpList_store_part rfl 87 (.tmp 51) (.tmp 47) rfl s 35 89 (SR n m h (.pointer (some ⟨p, 0, none⟩)) (.pointer q3) true true ((n : Int) - 1)) #[.int .i64 0, .int .i64 0, .bool false, .int .i64 0, .int .u8 0, .int .u8 0, .int .u8 0, .int .u8 0, .int .i64 0, .int .u8 0, .int .u8 0, .int .u8 0, .int .u8 0, .int .u8 0, .bool false, .int .i64 0, .int .i64 0, .int .i64 0, .int .i64 0, .int .i64 0, .bool false, .int .i64 0, .int .u8 0, .int .u8 0, .int .u8 0, .int .u8 0, .int .i64 0, .int .u8 0, .int .u8 0, .int .u8 0, .int .u8 0, .int .u8 0, .bool false, .int .i64 0, .int .i64 0, .int .i64 0] (SR n m h (.pointer (some ⟨p, 0, none⟩)) (.pointer q3) true true ((n : Int) - 1)) rfl rfl (hw12.blk) (by kernel_rfl) (Nat.le_of_ble_eq_true (by kernel_rfl)) (by kernel_rfl) (by kernel_rfl) ?_); intro w13 hw13; have ho13 := off_trans ho12 (off_stored hw13); have y72 : w13.cell? ⟨s, 72, none⟩ = some (.string .empty) := hw13.blk.cell 72; have f72 := hw13.blk.frozen 72))
    go_end0
    have ho14 := off_trans ho13 (off_set (s := s) (i := 72) (u := .string .empty))
    exact ⟨⟨_, rfl⟩, p, g, v, b, _, hw13.blk.set_ 72 _, blk_off ho14 hP (by omega), blk_off ho14 hB (by omega), lines_off ho14 hL hsw, off_to (off_trans ho2 ho14) (by omega)⟩
theorem ref_new {n m h : Nat} {w : World} (n0 : 1 ≤ n) (hn : n ≤ 1000) (hm : m ≤ 1000) : Calls Tryz.prog 25 #[.agg #[.int .i64 n, .int .i64 m, .int .i64 h]] w fun e w' => ∃ s, e = .returned (.pointer (some ⟨s, 0, none⟩)) ∧ w.heap.size ≤ s ∧ (∃ p g v b st, Blk w' s 89 (SR n m h (.pointer (some ⟨p, 0, none⟩)) st true true ((n : Int) - 1)) ∧ Blk w' p 216 #[.pointer (some ⟨g, 0, none⟩), b, .int .i64 0, .int .i64 0, .int .i64 0, .bool false, .int .i64 0, .int .u8 0, .int .u8 0, .int .u8 0, .int .u8 0, .int .i64 0, .int .u8 0, .int .u8 0, .int .u8 0, .int .u8 0, .int .u8 0, .bool false, .int .i64 0, .int .i64 0, .int .i64 0, .bool false] ∧ Blk w' g 166 #[.int .i64 m, v] ∧ Lines w' w.heap.size v n m) ∧ Below w.heap.size w w' := by
  have hc := Blk.new w 23 #[.int .i64 n, .int .i64 m, .int .i64 h]
  have hb0 : Below w.heap.size w (w.alloc (.cells #[.int .i64 n, .int .i64 m, .int .i64 h] 23)) := (Below.refl _ _).alloc (Nat.le_refl _) _
  have x0 := hc.cell 0
  have x1 := hc.cell 1
  have x2 := hc.cell 2
  have hS := Blk.new (w.alloc (.cells #[.int .i64 n, .int .i64 m, .int .i64 h] 23)) 89 (SR n m h (.pointer none) (.pointer none) false false 0)
  rw [alloc_size] at hS
  go_enter Tryz.func25, Tryz.ntmps25
  go_wp2_with (first
    | (refine wpList_build_lit rfl 89 _ rfl (SR n m h (.pointer none) (.pointer none) false false 0) (by kernel_rfl) ?_)
    | (go_at_call 51; refine (ref_reset n0 hn hm hS).mono ?_; rintro e w1 ⟨⟨u, rfl⟩, p, g, v, b, st, hS1, hP, hB, hL, hb1⟩))
  go_ret
  exact ⟨w.heap.size + 1, rfl, by omega, ⟨p, g, v, b, st, hS1, hP, hB, lines_mono hL (by simp only [alloc_size]; omega)⟩, (hb0.alloc (by rw [alloc_size]; omega) _).trans (hb1.mono (by omega))⟩
end Go.Proofs.YtbnnnmohggladabGreatDoor
