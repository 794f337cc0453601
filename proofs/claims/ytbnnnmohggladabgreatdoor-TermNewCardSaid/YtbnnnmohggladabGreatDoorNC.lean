/- A part of the proof of TermNew. -/
import Derived.Test.YtbnnnmohggladabGreatDoorNB
import Derived.Test.YtbnnnmohggladabGreatDoorAbsN
import Derived.BigRegionIn
import Derived.Deep.RegionHeld3
import Derived.Deep.CutBlock
import Derived.Deep.DeepCutAuto
import Derived.BigFrame
import Derived.Deep.QuietTactic
import Derived.BigQuiet
import Derived.Deep.Light
import Derived.Deep.RegionLaw
namespace Go.Proofs.YtbnnnmohggladabGreatDoor
open Go.RowKit Go.Rep
set_option maxRecDepth 100000
section
variable {r q h : Nat} {w : World}
theorem rzero_no (hR : Blk w r 208 (RING h)) : Calls Tryz.prog 112 #[.pointer (some ⟨r, 0, none⟩)] w fun e w' => e = .returned (.bool false) ∧ w = w' := by
  have x1 : w.cell? ⟨r, 1, none⟩ = some (.int .i64 64) := hR.cell 1
  go_enter Tryz.func112, Tryz.ntmps112
  go_wp2
  go_ret
  exact ⟨rfl, rfl⟩
theorem rnext_ok (hR : Blk w r 208 (RING h)) : Calls Tryz.prog 94 #[.pointer (some ⟨r, 0, none⟩)] w fun e w' => e = .returned (.int .i64 0) ∧ w = w' := by
  have x3 : w.cell? ⟨r, 3, none⟩ = some (.int .i64 0) := hR.cell 3
  go_enter Tryz.func94, Tryz.ntmps94
  go_wp2_with (go_at_call 112; refine (rzero_no hR).mono ?_; rintro e w1 ⟨rfl, rfl⟩)
  go_ret
  exact ⟨rfl, rfl⟩
theorem rfirst_ok (hR : Blk w r 208 (RING h)) : Calls Tryz.prog 74 #[.pointer (some ⟨r, 0, none⟩)] w fun e w' => e = .returned (.int .i64 0) ∧ w = w' := by
  have x2 : w.cell? ⟨r, 2, none⟩ = some (.int .i64 0) := hR.cell 2
  go_enter Tryz.func74, Tryz.ntmps74
  go_wp2_with (go_at_call 112; refine (rzero_no hR).mono ?_; rintro e w1 ⟨rfl, rfl⟩)
  go_ret
  exact ⟨rfl, rfl⟩
theorem rlen_ok (hR : Blk w r 208 (RING h)) : Calls Tryz.prog 67 #[.pointer (some ⟨r, 0, none⟩)] w fun e w' => e = .returned (.int .i64 0) ∧ w = w' := by
  go_enter Tryz.func67, Tryz.ntmps67
  go_wp2_with (first
    | (go_at_call 94; refine (rnext_ok hR).mono ?_; rintro e w1 ⟨rfl, rfl⟩)
    | (go_at_call 74; refine (rfirst_ok hR).mono ?_; rintro e w1 ⟨rfl, rfl⟩))
  go_ret
  exact ⟨rfl, rfl⟩
theorem hnone_no (hQ : Blk w q 144 #[.pointer (some ⟨r, 0, none⟩)]) : Calls Tryz.prog 66 #[.pointer (some ⟨q, 0, none⟩)] w fun e w' => e = .returned (.bool false) ∧ w = w' := by
  have x0 : w.cell? ⟨q, 0, none⟩ = some (.pointer (some ⟨r, 0, none⟩)) := hQ.cell 0
  go_enter Tryz.func66, Tryz.ntmps66
  go_wp2
  go_ret
  exact ⟨rfl, rfl⟩
theorem hfirst_ok (hQ : Blk w q 144 #[.pointer (some ⟨r, 0, none⟩)]) (hR : Blk w r 208 (RING h)) : Calls Tryz.prog 44 #[.pointer (some ⟨q, 0, none⟩)] w fun e w' => e = .returned (.int .i64 0) ∧ w = w' := by
  have x0 : w.cell? ⟨q, 0, none⟩ = some (.pointer (some ⟨r, 0, none⟩)) := hQ.cell 0
  go_enter Tryz.func44, Tryz.ntmps44
  go_wp2_with (first
    | (go_at_call 66; refine (hnone_no hQ).mono ?_; rintro e w1 ⟨rfl, rfl⟩)
    | (go_at_call 74; refine (rfirst_ok hR).mono ?_; rintro e w1 ⟨rfl, rfl⟩))
  go_ret
  exact ⟨rfl, rfl⟩
theorem pages_none {l : Nat} (hR : Blk w r 208 (RING h)) : Calls Tryz.prog 133 #[.pointer (some ⟨r, 0, none⟩), .func (.yield l) #[] #[]] w fun e w' => (∃ v, e = .returned v) ∧ Below w.heap.size w w' := by
  have x4 : w.cell? ⟨r, 4, none⟩ = some (.slice none 0 0) := hR.cell 4
  go_enter Tryz.func133, Tryz.ntmps133
  go_wp2
  go_loopw [11] (fun i wr => i = .int .i64 0 ∧ wr = w) (fun _ _ => 0)
  case atStart => exact ⟨rfl, rfl⟩
  case round =>
    obtain ⟨rfl, rfl⟩ := hrel
    go_wp2
    go_end0
    exact ⟨⟨_, rfl⟩, Below.refl _ _⟩
end
end Go.Proofs.YtbnnnmohggladabGreatDoor

namespace Go.Proofs.YtbnnnmohggladabGreatDoor
open Go.RowKit Go.Rep
set_option maxRecDepth 100000
attribute [local go_sem] Oper.semAt_some
section
variable {r q h : Nat} {w : World}
set_option maxHeartbeats 2000000 in
theorem ring_copy (hR : Blk w r 208 (RING h)) : Calls Tryz.prog 92 #[.pointer (some ⟨r, 0, none⟩)] w fun e w' => ∃ p, e = .returned (.pointer (some ⟨p, 0, none⟩)) ∧ w.heap.size ≤ p ∧ Blk w' p 208 (RING h) ∧ Below w.heap.size w w' := by
  have y0 : w.cell? ⟨r, 0, none⟩ = some (.int .i64 h) := hR.cell 0
  have y1 : w.cell? ⟨r, 1, none⟩ = some (.int .i64 64) := hR.cell 1
  have y2 : w.cell? ⟨r, 2, none⟩ = some (.int .i64 0) := hR.cell 2
  have y3 : w.cell? ⟨r, 3, none⟩ = some (.int .i64 0) := hR.cell 3
  have y4 : w.cell? ⟨r, 4, none⟩ = some (.slice none 0 0) := hR.cell 4
  refine (callsIn_wide (n := 3)).1 ?_
  refine callsIn_of_wp_marks Tryz.func92 rfl trivial ?_ rfl
  simp only [Tryz.ntmps92, List.size_toArray, List.length_cons, List.length_nil, Nat.reduceAdd, Nat.reduceSub, Array.replicate_succ, Array.replicate_zero, List.push_toArray, List.append_toArray, List.nil_append, List.cons_append]
  gi_wp2_with (refine ⟨trivial, ?_⟩; gi_at_call 112; refine (callsIn_wide.2 (rzero_no hR)).mono ?_; rintro e w1 ⟨rfl, rfl⟩)
  refine wpIn_range_none (gf := 133) rfl (enters_of Tryz.func133 (by kernel_rfl) rfl) ?_ ?_
  · intro l W hb
    exact pages_none (hR.below (((Below.refl w.heap.size w).alloc (Nat.le_refl _) _).trans (hb.mono (by rw [World.size_alloc]; omega))) hR.lt)
  · intro D W hD hb hK
    have hbw := ((Below.refl w.heap.size w).alloc (Nat.le_refl _) (.cells (RING h) 208)).trans (hb.mono (by rw [World.size_alloc]; omega))
    have hB : Blk W w.heap.size 208 (RING h) := (Blk.new w 208 (RING h)).below hb (by rw [World.size_alloc]; omega)
    gi_wp2
    refine ⟨by simp, .inl ⟨_, _, rfl, run_takeDeferred hK, ?_⟩⟩
    exact ⟨_, results_tmp rfl _ _ _, w.heap.size, rfl, Nat.le_refl _, put_blk hB hK, put_below hbw (by rw [World.size_alloc] at hD; omega)⟩
end
end Go.Proofs.YtbnnnmohggladabGreatDoor

namespace Go.Proofs.YtbnnnmohggladabGreatDoor
open Go.RowKit Go.Rep
set_option maxRecDepth 100000
theorem zero_no {s n m : Nat} {bt : Int} {pa : Addr} {q st : Value} {w : World} {a b : Bool} (hS : Blk w s 118 (SC n m (.pointer (some pa)) q st a b bt)) : Calls Tryz.prog 52 #[.pointer (some ⟨s, 0, none⟩)] w fun e w' => e = .returned (.bool false) ∧ w = w' := by
  have x0 : w.cell? ⟨s, 2, none⟩ = some (.pointer (some pa)) := hS.cell 2
  go_enter Tryz.func52, Tryz.ntmps52
  go_wp2
  go_ret
  exact ⟨rfl, rfl⟩
section
variable {s n m : Nat} {bt : Int} {pa : Addr} {q st : Value} {w : World} (hS : Blk w s 118 (SC n m (.pointer (some pa)) q st true true bt))
include hS
theorem scr_cursor : Calls Tryz.prog 36 #[.pointer (some ⟨s, 0, none⟩)] w fun e w' => e = .returned (.agg #[.int .i64 0, .int .i64 0, .bool false]) ∧ Below w.heap.size w w' := by
  have hS1 := hS.alloc (.cells #[.int .i64 0, .int .i64 0, .bool false] 39)
  go_enter Tryz.func36, Tryz.ntmps36
  go_wp2_with (first
    | (go_at_call 52; refine (zero_no (hS.alloc _)).mono ?_; rintro e w1 ⟨rfl, rfl⟩)
    | (refine wpList_load_any 39 (.tmp 8) rfl (by rfl) ⟨s, 4, none⟩ rfl #[.int .i64 0, .int .i64 0, .bool false] _ (Blk.part (o := 4) (hS1) (by kernel_rfl)) Tryz.underlying39 rfl (by kernel_rfl) ?_)
    | ((with_reducible refine wpList_store_blk rfl 39 (.tmp 2) (.tmp 9) rfl _ #[.int .i64 0, .int .i64 0, .bool false] #[.int .i64 0, .int .i64 0, .bool false] rfl rfl (Blk.new w 39 _) (by kernel_rfl) rfl (by kernel_rfl) ?_); intro w2 hw2))
  refine bodyPost_ret (results_cell_row rfl _ _ _ _ _ (0, 0) _ rfl (hw2.blk) Tryz.underlying39 rfl (by kernel_rfl)) rfl ?_
  exact ⟨rfl, ((Below.refl w.heap.size w).alloc (Nat.le_refl _) (.cells #[.int .i64 0, .int .i64 0, .bool false] 39)).trans hw2.below⟩
theorem scr_modes : Calls Tryz.prog 37 #[.pointer (some ⟨s, 0, none⟩)] w fun e w' => e = .returned (.agg #[.bool true, .bool false, .bool false, .bool true, .bool false, .bool false, .bool false, .int .i64 0, .int .i64 0]) ∧ Below w.heap.size w w' := by
  have hS1 := hS.alloc (.cells #[.bool false, .bool false, .bool false, .bool false, .bool false, .bool false, .bool false, .int .i64 0, .int .i64 0] 41)
  go_enter Tryz.func37, Tryz.ntmps37
  go_wp2_with (first
    | (go_at_call 52; refine (zero_no (hS.alloc _)).mono ?_; rintro e w1 ⟨rfl, rfl⟩)
    | (refine wpList_load_any 41 (.tmp 8) rfl (by rfl) ⟨s, 18, none⟩ rfl #[.bool true, .bool false, .bool false, .bool true, .bool false, .bool false, .bool false, .int .i64 0, .int .i64 0] _ (Blk.part (o := 18) (hS1) (by kernel_rfl)) Tryz.underlying41 rfl (by kernel_rfl) ?_)
    | ((with_reducible refine wpList_store_blk rfl 41 (.tmp 2) (.tmp 9) rfl _ #[.bool false, .bool false, .bool false, .bool false, .bool false, .bool false, .bool false, .int .i64 0, .int .i64 0] #[.bool true, .bool false, .bool false, .bool true, .bool false, .bool false, .bool false, .int .i64 0, .int .i64 0] rfl rfl (Blk.new w 41 _) (by kernel_rfl) rfl (by kernel_rfl) ?_); intro w2 hw2))
  refine bodyPost_ret (results_cell_row rfl _ _ _ _ _ (0, 0) _ rfl (hw2.blk) Tryz.underlying41 rfl (by kernel_rfl)) rfl ?_
  exact ⟨rfl, ((Below.refl w.heap.size w).alloc (Nat.le_refl _) (.cells #[.bool false, .bool false, .bool false, .bool false, .bool false, .bool false, .bool false, .int .i64 0, .int .i64 0] 41)).trans hw2.below⟩
theorem scr_pen : Calls Tryz.prog 38 #[.pointer (some ⟨s, 0, none⟩)] w fun e w' => e = .returned (.agg #[.int .i64 0, .int .u8 0, .int .u8 0, .int .u8 0, .int .u8 0, .int .i64 0, .int .u8 0, .int .u8 0, .int .u8 0, .int .u8 0, .int .u8 0]) ∧ Below w.heap.size w w' := by
  have hS1 := hS.alloc (.cells #[.int .i64 0, .int .u8 0, .int .u8 0, .int .u8 0, .int .u8 0, .int .i64 0, .int .u8 0, .int .u8 0, .int .u8 0, .int .u8 0, .int .u8 0] 47)
  go_enter Tryz.func38, Tryz.ntmps38
  go_wp2_with (first
    | (go_at_call 52; refine (zero_no (hS.alloc _)).mono ?_; rintro e w1 ⟨rfl, rfl⟩)
    | (refine wpList_load_any 47 (.tmp 8) rfl (by rfl) ⟨s, 7, none⟩ rfl #[.int .i64 0, .int .u8 0, .int .u8 0, .int .u8 0, .int .u8 0, .int .i64 0, .int .u8 0, .int .u8 0, .int .u8 0, .int .u8 0, .int .u8 0] _ (Blk.part (o := 7) (hS1) (by kernel_rfl)) Tryz.underlying47 rfl (by kernel_rfl) ?_)
    | ((with_reducible refine wpList_store_blk rfl 47 (.tmp 2) (.tmp 9) rfl _ #[.int .i64 0, .int .u8 0, .int .u8 0, .int .u8 0, .int .u8 0, .int .i64 0, .int .u8 0, .int .u8 0, .int .u8 0, .int .u8 0, .int .u8 0] #[.int .i64 0, .int .u8 0, .int .u8 0, .int .u8 0, .int .u8 0, .int .i64 0, .int .u8 0, .int .u8 0, .int .u8 0, .int .u8 0, .int .u8 0] rfl rfl (Blk.new w 47 _) (by kernel_rfl) rfl (by kernel_rfl) ?_); intro w2 hw2))
  refine bodyPost_ret (results_cell_row rfl _ _ _ _ _ (0, 0) _ rfl (hw2.blk) Tryz.underlying47 rfl (by kernel_rfl)) rfl ?_
  exact ⟨rfl, ((Below.refl w.heap.size w).alloc (Nat.le_refl _) (.cells #[.int .i64 0, .int .u8 0, .int .u8 0, .int .u8 0, .int .u8 0, .int .i64 0, .int .u8 0, .int .u8 0, .int .u8 0, .int .u8 0, .int .u8 0] 47)).trans hw2.below⟩
theorem scr_title : Calls Tryz.prog 39 #[.pointer (some ⟨s, 0, none⟩)] w fun e w' => e = .returned (.string .empty) ∧ w = w' := by
  have x0 : w.cell? ⟨s, 69, none⟩ = some (.string .empty) := hS.cell 69
  go_enter Tryz.func39, Tryz.ntmps39
  go_wp2_with (go_at_call 52; refine (zero_no hS).mono ?_; rintro e w1 ⟨rfl, rfl⟩)
  go_ret
  exact ⟨rfl, rfl⟩
theorem scr_cols : Calls Tryz.prog 33 #[.pointer (some ⟨s, 0, none⟩)] w fun e w' => e = .returned (.int .i64 m) ∧ w = w' := by
  have x0 : w.cell? ⟨s, 1, none⟩ = some (.int .i64 m) := hS.cell 1
  go_enter Tryz.func33, Tryz.ntmps33
  go_wp2_with (go_at_call 52; refine (zero_no hS).mono ?_; rintro e w1 ⟨rfl, rfl⟩)
  go_ret
  exact ⟨rfl, rfl⟩
end
end Go.Proofs.YtbnnnmohggladabGreatDoor

namespace Go.Proofs.YtbnnnmohggladabGreatDoor
open Go.RowKit Go.Rep
set_option maxRecDepth 100000
attribute [local go_sem] Oper.semAt_some
section
variable {r q h : Nat} {w : World}
theorem blk_at {w : World} {k : Nat} {t : TypeId} {cs : Array Value} (h : k = w.heap.size) : Blk (w.alloc (.cells cs t)) k t cs := h ▸ Blk.new w t cs
theorem hist_copy (hQ : Blk w q 144 #[.pointer (some ⟨r, 0, none⟩)]) (hR : Blk w r 208 (RING h)) : Calls Tryz.prog 57 #[.pointer (some ⟨q, 0, none⟩)] w fun e w' => ∃ r' q', e = .returned (.pointer (some ⟨q', 0, none⟩)) ∧ w.heap.size ≤ r' ∧ w.heap.size ≤ q' ∧ Blk w' q' 144 #[.pointer (some ⟨r', 0, none⟩)] ∧ Blk w' r' 208 (RING h) ∧ Below w.heap.size w w' := by
  have x0 : w.cell? ⟨q, 0, none⟩ = some (.pointer (some ⟨r, 0, none⟩)) := hQ.cell 0
  go_enter Tryz.func57, Tryz.ntmps57
  go_wp2_with (first
    | (go_at_call 66; refine (hnone_no hQ).mono ?_; rintro e w1 ⟨rfl, rfl⟩)
    | (go_at_call 92; refine (ring_copy hR).mono ?_; rintro e w1 ⟨r2, rfl, hr2, hR2, hb2⟩))
  have hs1 := hb2.size
  go_ret
  exact ⟨r2, w1.heap.size, rfl, hr2, hs1, Blk.new w1 144 _, hR2.alloc _, hb2.alloc hs1 _⟩
theorem scr_history {s n m : Nat} {bt : Int} {pa : Addr} {st : Value} (hS : Blk w s 118 (SC n m (.pointer (some pa)) (.pointer (some ⟨q, 0, none⟩)) st true true bt)) (hQ : Blk w q 144 #[.pointer (some ⟨r, 0, none⟩)]) (hR : Blk w r 208 (RING h)) : Calls Tryz.prog 30 #[.pointer (some ⟨s, 0, none⟩)] w fun e w' => ∃ r' q', e = .returned (.pointer (some ⟨q', 0, none⟩)) ∧ w.heap.size ≤ r' ∧ w.heap.size ≤ q' ∧ Blk w' q' 144 #[.pointer (some ⟨r', 0, none⟩)] ∧ Blk w' r' 208 (RING h) ∧ Below w.heap.size w w' := by
  have x3 : w.cell? ⟨s, 3, none⟩ = some (.pointer (some ⟨q, 0, none⟩)) := hS.cell 3
  go_enter Tryz.func30, Tryz.ntmps30
  go_wp2_with (first
    | (go_at_call 52; refine (zero_no hS).mono ?_; rintro e w1 ⟨rfl, rfl⟩)
    | (go_at_call 57; refine (hist_copy hQ hR).mono ?_; rintro e w1 ⟨r2, q2, rfl, hr2, hq2, hQ2, hR2, hb2⟩))
  go_ret
  exact ⟨r2, q2, rfl, hr2, hq2, hQ2, hR2, hb2⟩
set_option maxHeartbeats 2000000 in
theorem range_none (hR : Blk w r 208 (RING h)) : Calls Tryz.prog 93 #[.pointer (some ⟨r, 0, none⟩), .int .i64 0, .int .i64 0] w fun e w' => e = .returned (.tuple #[.slice none 0 0, .int .i64 0]) ∧ Below w.heap.size w w' := by
  have hR4 : Blk ((((w.alloc (.cells #[.int .i64 0] 3)).alloc (.cells #[.int .i64 0] 3)).alloc (.cells #[.slice none 0 0] 36)).alloc (.cells #[.int .i64 0] 51)) r 208 (RING h) := (((hR.alloc _).alloc _).alloc _).alloc _
  have hb4 : Below w.heap.size w ((((w.alloc (.cells #[.int .i64 0] 3)).alloc (.cells #[.int .i64 0] 3)).alloc (.cells #[.slice none 0 0] 36)).alloc (.cells #[.int .i64 0] 51)) := ((((Below.refl _ _).alloc (Nat.le_refl _) _).alloc (by simp) _).alloc (by simp; omega) _).alloc (by simp; omega) _
  have hb6 : Below w.heap.size w ((((((w.alloc (.cells #[.int .i64 0] 3)).alloc (.cells #[.int .i64 0] 3)).alloc (.cells #[.slice none 0 0] 36)).alloc (.cells #[.int .i64 0] 51)).alloc (.cells #[.slice none 0 0] 36)).alloc (.cells #[.int .i64 0] 3)) := (hb4.alloc (by simp; omega) _).alloc (by simp; omega) _
  have y2 : ((((w.alloc (.cells #[.int .i64 0] 3)).alloc (.cells #[.int .i64 0] 3)).alloc (.cells #[.slice none 0 0] 36)).alloc (.cells #[.int .i64 0] 51)).cell? ⟨r, 2, none⟩ = some (.int .i64 0) := hR4.cell 2
  have y3 : ((((w.alloc (.cells #[.int .i64 0] 3)).alloc (.cells #[.int .i64 0] 3)).alloc (.cells #[.slice none 0 0] 36)).alloc (.cells #[.int .i64 0] 51)).cell? ⟨r, 3, none⟩ = some (.int .i64 0) := hR4.cell 3
  have y2a : (((((w.alloc (.cells #[.int .i64 0] 3)).alloc (.cells #[.int .i64 0] 3)).alloc (.cells #[.slice none 0 0] 36)).alloc (.cells #[.int .i64 0] 51)).alloc (.cells #[.slice none 0 0] 36)).cell? ⟨r, 2, none⟩ = some (.int .i64 0) := (hR4.alloc _).cell 2
  have y2b : (((((w.alloc (.cells #[.int .i64 0] 3)).alloc (.cells #[.int .i64 0] 3)).alloc (.cells #[.slice none 0 0] 36)).alloc (.cells #[.int .i64 0] 51)).alloc (.cells #[.slice none 0 0] 36)).drew.drew.cell? ⟨r, 2, none⟩ = some (.int .i64 0) := (hR4.alloc _).cell 2
  have y2d : ((((w.alloc (.cells #[.int .i64 0] 3)).alloc (.cells #[.int .i64 0] 3)).alloc (.cells #[.slice none 0 0] 36)).alloc (.cells #[.int .i64 0] 51)).drew.cell? ⟨r, 2, none⟩ = some (.int .i64 0) := hR4.cell 2
  have y3d : ((((w.alloc (.cells #[.int .i64 0] 3)).alloc (.cells #[.int .i64 0] 3)).alloc (.cells #[.slice none 0 0] 36)).alloc (.cells #[.int .i64 0] 51)).drew.cell? ⟨r, 3, none⟩ = some (.int .i64 0) := hR4.cell 3
  refine (callsIn_wide (n := 3)).1 ?_
  refine callsIn_of_wp_marks Tryz.func93 rfl trivial ?_ rfl
  simp only [Tryz.ntmps93, List.size_toArray, List.length_cons, List.length_nil, Nat.reduceAdd, Nat.reduceSub, Array.replicate_succ, Array.replicate_zero, List.push_toArray, List.append_toArray, List.nil_append, List.cons_append]
  gi_wp2_with (refine ⟨trivial, ?_⟩; gi_at_call 112; refine (callsIn_wide.2 (rzero_no hR4)).mono ?_; rintro e w1 ⟨rfl, rfl⟩)
  gi_region
  gi_wp2
  gi_region
  gi_wp2
  refine wpIn_range_none (gf := 133) rfl (enters_of Tryz.func133 (by kernel_rfl) rfl) ?_ ?_
  · intro l W hb
    exact pages_none (Blk.below (w := ((((((w.alloc (.cells #[.int .i64 0] 3)).alloc (.cells #[.int .i64 0] 3)).alloc (.cells #[.slice none 0 0] 36)).alloc (.cells #[.int .i64 0] 51)).alloc (.cells #[.slice none 0 0] 36)).alloc (.cells #[.int .i64 0] 3)).drew.drew) ((hR4.alloc _).alloc _ |>.drew |>.drew) hb (Blk.lt (w := ((((((w.alloc (.cells #[.int .i64 0] 3)).alloc (.cells #[.int .i64 0] 3)).alloc (.cells #[.slice none 0 0] 36)).alloc (.cells #[.int .i64 0] 51)).alloc (.cells #[.slice none 0 0] 36)).alloc (.cells #[.int .i64 0] 3)).drew.drew) ((hR4.alloc _).alloc _ |>.drew |>.drew)))
  · intro D W hD hb hK
    have hz : W.heap.size ≥ w.heap.size + 1 + 1 + 1 + 1 + 1 + 1 := by have := hb.size; simp at this; omega
    have hDz : w.heap.size + 1 + 1 + 1 + 1 + 1 + 1 ≤ D := by simp at hD; omega
    have C2 : Blk W (w.heap.size + 1 + 1) 36 #[.slice none 0 0] := Blk.below (w := ((((((w.alloc (.cells #[.int .i64 0] 3)).alloc (.cells #[.int .i64 0] 3)).alloc (.cells #[.slice none 0 0] 36)).alloc (.cells #[.int .i64 0] 51)).alloc (.cells #[.slice none 0 0] 36)).alloc (.cells #[.int .i64 0] 3)).drew.drew) (((blk_at (by simp)).alloc _).alloc _ |>.alloc _ |>.drew |>.drew) hb (by simp <;> omega)
    have C3 : Blk W (w.heap.size + 1 + 1 + 1) 51 #[.int .i64 0] := Blk.below (w := ((((((w.alloc (.cells #[.int .i64 0] 3)).alloc (.cells #[.int .i64 0] 3)).alloc (.cells #[.slice none 0 0] 36)).alloc (.cells #[.int .i64 0] 51)).alloc (.cells #[.slice none 0 0] 36)).alloc (.cells #[.int .i64 0] 3)).drew.drew) (((blk_at (by simp)).alloc _).alloc _ |>.drew |>.drew) hb (by simp <;> omega)
    have C4 : Blk W (w.heap.size + 1 + 1 + 1 + 1) 36 #[.slice none 0 0] := Blk.below (w := ((((((w.alloc (.cells #[.int .i64 0] 3)).alloc (.cells #[.int .i64 0] 3)).alloc (.cells #[.slice none 0 0] 36)).alloc (.cells #[.int .i64 0] 51)).alloc (.cells #[.slice none 0 0] 36)).alloc (.cells #[.int .i64 0] 3)).drew.drew) ((blk_at (by simp)).alloc _ |>.drew |>.drew) hb (by simp <;> omega)
    have e2 : W.cell? ⟨w.heap.size + 1 + 1, 0, none⟩ = some (.slice none 0 0) := C2.cell 0
    have e3 : W.cell? ⟨w.heap.size + 1 + 1 + 1, 0, none⟩ = some (.int .i64 0) := C3.cell 0
    have e4 : W.cell? ⟨w.heap.size + 1 + 1 + 1 + 1, 0, none⟩ = some (.slice none 0 0) := C4.cell 0
    have f2 := C2.frozen 0
    have f3 := C3.frozen 0
    have hbw : Below w.heap.size w W := hb6.drew.drew.trans (hb.mono (by simp <;> omega))
    have Q2 : Blk ((W.setCell ⟨w.heap.size + 1 + 1, 0, none⟩ (.slice none 0 0)).setCell ⟨w.heap.size + 1 + 1 + 1, 0, none⟩ (.int .i64 0)) (w.heap.size + 1 + 1) 36 #[.slice none 0 0] := (C2.set_ 0 (.slice none 0 0)).far (by show w.heap.size + 1 + 1 ≠ w.heap.size + 1 + 1 + 1; omega) _
    have Q3 : Blk ((W.setCell ⟨w.heap.size + 1 + 1, 0, none⟩ (.slice none 0 0)).setCell ⟨w.heap.size + 1 + 1 + 1, 0, none⟩ (.int .i64 0)) (w.heap.size + 1 + 1 + 1) 51 #[.int .i64 0] := (C3.far (p := ⟨w.heap.size + 1 + 1, 0, none⟩) (by show w.heap.size + 1 + 1 + 1 ≠ w.heap.size + 1 + 1; omega) (.slice none 0 0)).set_ 0 (.int .i64 0)
    have hK2 : ((W.setCell ⟨w.heap.size + 1 + 1, 0, none⟩ (.slice none 0 0)).setCell ⟨w.heap.size + 1 + 1 + 1, 0, none⟩ (.int .i64 0)).heap[D]? = some (.deferred (some [])) := by
      rw [Below.heap_setCell _ _ _ _ (by show D ≠ w.heap.size + 1 + 1 + 1; omega), Below.heap_setCell _ _ _ _ (by show D ≠ w.heap.size + 1 + 1; omega)]
      exact hK
    have hbz := (hbw.setCell (p := ⟨w.heap.size + 1 + 1, 0, none⟩) (by show w.heap.size ≤ w.heap.size + 1 + 1; omega) (.slice none 0 0)).setCell (p := ⟨w.heap.size + 1 + 1 + 1, 0, none⟩) (by show w.heap.size ≤ w.heap.size + 1 + 1 + 1; omega) (.int .i64 0)
    have z2 := (put_blk (o := .deferred none) Q2 hK2).cell 0
    have z3 := (put_blk (o := .deferred none) Q3 hK2).cell 0
    clear C2 C3 C4
    gi_wp2
    refine ⟨by simp, .inl ⟨_, _, rfl, run_takeDeferred hK2, ?_⟩⟩
    exact ⟨.tuple #[.slice none 0 0, .int .i64 0], by simp [results, go_sem, z2, z3], rfl, put_below hbz (by omega)⟩
set_option maxHeartbeats 1000000 in
theorem last_none (hQ : Blk w q 144 #[.pointer (some ⟨r, 0, none⟩)]) (hR : Blk w r 208 (RING h)) : Calls Tryz.prog 61 #[.pointer (some ⟨q, 0, none⟩), .int .i64 1048576] w fun e w' => e = .returned (.slice none 0 0) ∧ Below w.heap.size w w' := by
  have x0 : w.cell? ⟨q, 0, none⟩ = some (.pointer (some ⟨r, 0, none⟩)) := hQ.cell 0
  have x0d : w.drew.cell? ⟨q, 0, none⟩ = some (.pointer (some ⟨r, 0, none⟩)) := hQ.cell 0
  go_enter Tryz.func61, Tryz.ntmps61
  go_upto_region 3 with (go_at_call 66; refine (hnone_no hQ).mono ?_; rintro e w1 ⟨rfl, rfl⟩)
  go_region_held3 (fun w' => w'.cell? ⟨q, 0, none⟩ = some (.pointer (some ⟨r, 0, none⟩))) (first | exact x0d | exact x0 | exact y0) (first
    | (go_at_call 94; refine (rnext_ok hR.drew).mono ?_; rintro e w1 ⟨rfl, rfl⟩)
    | (go_at_call 67; refine (rlen_ok hR.drew).mono ?_; rintro e w1 ⟨rfl, rfl⟩)
    | (go_at_call 93; refine (range_none hR.drew).mono ?_; rintro e w2 ⟨rfl, hb1⟩; have y0 : w2.cell? ⟨q, 0, none⟩ = some (.pointer (some ⟨r, 0, none⟩)) := (hQ.drew.below hb1 hQ.lt).cell 0))
  all_goals
    go_wp2_with fail
    go_ret
    exact ⟨rfl, (Below.refl _ _).drew.trans hb1⟩
theorem all_none (hQ : Blk w q 144 #[.pointer (some ⟨r, 0, none⟩)]) (hR : Blk w r 208 (RING h)) : Calls Tryz.prog 43 #[.pointer (some ⟨q, 0, none⟩)] w fun e w' => e = .returned (.slice none 0 0) ∧ Below w.heap.size w w' := by
  go_enter Tryz.func43, Tryz.ntmps43
  go_wp2_with (go_at_call 61; refine (last_none hQ hR).mono ?_; rintro e w1 ⟨rfl, hb1⟩)
  go_ret
  exact ⟨rfl, hb1⟩
end
end Go.Proofs.YtbnnnmohggladabGreatDoor

namespace Go.Proofs.YtbnnnmohggladabGreatDoor
open Go.RowKit Go.Rep
set_option maxRecDepth 100000
set_option maxHeartbeats 4000000 in
/-- A new screen. -/
def NewP (w : World) (n m h : Nat) (w' : World) (s : Nat) : Prop := ∃ q r p g v b st, w.heap.size ≤ s ∧ Blk w' s 118 (SC n m (.pointer (some ⟨p, 0, none⟩)) (.pointer (some ⟨q, 0, none⟩)) st true true ((n : Int) - 1)) ∧ Blk w' q 144 #[.pointer (some ⟨r, 0, none⟩)] ∧ Blk w' r 208 (RING h) ∧ Blk w' p 181 #[.pointer (some ⟨g, 0, none⟩), b, .int .i64 0, .int .i64 0, .pointer none] ∧ Blk w' g 183 #[.int .i64 m, v] ∧ Lines w' w.heap.size v n m ∧ Below w.heap.size w w'
set_option maxHeartbeats 4000000 in
theorem scr_new {n m h : Nat} {w : World} (n0 : 1 ≤ n) (hn : n ≤ 1000) (m0 : 1 ≤ m) (hm : m ≤ 1000) (hh : h ≤ 1048576) : Calls Tryz.prog 19 #[.agg #[.int .i64 n, .int .i64 m, .int .i64 h]] w fun e w' => ∃ s, e = .returned (.tuple #[.pointer (some ⟨s, 0, none⟩), .int .i64 0]) ∧ NewP w n m h w' s := by
  have hf : fineB (n : Int) (m : Int) (h : Int) = true := by simp [fineB]; omega
  have hc := Blk.new w 23 #[.int .i64 n, .int .i64 m, .int .i64 h]
  have hb0 : Below w.heap.size w (w.alloc (.cells #[.int .i64 n, .int .i64 m, .int .i64 h] 23)) := (Below.refl _ _).alloc (Nat.le_refl _) _
  have HF := Lib.hid hf
  clear hf
  go_enter Tryz.func19, Tryz.ntmps19
  go_wp2_with (first
    | (refine wpList_build_lit rfl 118 _ rfl (SC n m (.pointer none) (.pointer (some ⟨q, 0, none⟩)) (.pointer none) false false 0) (by kernel_rfl) ?_)
    | (go_at_call 45; refine (right_any _ _ _ _).mono ?_; rintro e w1 ⟨rfl, hb1⟩; rw [HF.out]; have hc1 := hc.below hb1 hc.lt; have x0 : w1.cell? ⟨w.heap.size, 0, none⟩ = some (.int .i64 n) := hc1.cell 0; have x1 : w1.cell? ⟨w.heap.size, 1, none⟩ = some (.int .i64 m) := hc1.cell 1; have x2 : w1.cell? ⟨w.heap.size, 2, none⟩ = some (.int .i64 h) := hc1.cell 2; have hs1 : w.heap.size + 1 ≤ w1.heap.size := (by have := hb1.size; rw [alloc_size] at this; exact this); have hbw1 := hb0.trans (hb1.mono (by rw [alloc_size]; omega)))
    | (go_at_call 46; refine (hist_new hh _).mono ?_; rintro e w2 ⟨r, q, rfl, hr, hq, hQ, hR, hb2⟩; have hc2 := hc1.below hb2 (by omega); have y0 : w2.cell? ⟨w.heap.size, 0, none⟩ = some (.int .i64 n) := hc2.cell 0; have y1 : w2.cell? ⟨w.heap.size, 1, none⟩ = some (.int .i64 m) := hc2.cell 1; have hs2 := hb2.size; have hbw2 := hbw1.trans (hb2.mono (by omega)); have hS := Blk.new w2 118 (SC n m (.pointer none) (.pointer (some ⟨q, 0, none⟩)) (.pointer none) false false 0); have hql := hQ.lt; have hrl := hR.lt)
    | (go_at_call 47; refine (scr_reset n0 hn m0 hm hS).mono ?_; rintro e w3 ⟨rfl, p, g, v, b, st, hS3, hp, hg, hP, hB, hL, hb3⟩))
  go_ret2
  rw [alloc_size] at hL
  exact ⟨w2.heap.size, rfl, q, r, p, g, v, b, st, by omega, hS3, (hQ.alloc _).below hb3 hql, (hR.alloc _).below hb3 hrl, hP, hB, lines_mono hL (by omega), (hbw2.alloc (by omega) _).trans (hb3.mono (by omega))⟩
theorem scr_new_no {r c h : Int} {w : World} (hf : fineB r c h = false) : Calls Tryz.prog 19 #[.agg #[.int .i64 r, .int .i64 c, .int .i64 h]] w fun e w' => e = .returned (.tuple #[.pointer none, .int .i64 2]) ∧ Below w.heap.size w w' := by
  have hc := Blk.new w 23 #[.int .i64 r, .int .i64 c, .int .i64 h]
  have hb0 : Below w.heap.size w (w.alloc (.cells #[.int .i64 r, .int .i64 c, .int .i64 h] 23)) := (Below.refl _ _).alloc (Nat.le_refl _) _
  have HF := Lib.hid hf
  clear hf
  go_enter Tryz.func19, Tryz.ntmps19
  go_wp2_with (go_at_call 45; refine (right_any _ _ _ _).mono ?_; rintro e w1 ⟨rfl, hb1⟩; rw [HF.out])
  go_ret2
  exact ⟨rfl, hb0.trans (hb1.mono (by rw [alloc_size]; omega))⟩
end Go.Proofs.YtbnnnmohggladabGreatDoor
