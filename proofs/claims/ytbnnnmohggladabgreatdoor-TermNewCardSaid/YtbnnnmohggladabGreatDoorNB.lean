/- A part of the proof of TermNew. -/
import Derived.Test.YtbnnnmohggladabGreatDoorNA
import Derived.Laws.ResultCell
import Derived.Maps.OwnIn
import Derived.Maps.Own
namespace Go.Proofs.YtbnnnmohggladabGreatDoor
open Go.RowKit Go.Rep
set_option maxRecDepth 100000
def fineB (r c h : Int) : Bool := decide (1 ≤ r ∧ r ≤ 1000 ∧ 1 ≤ c ∧ c ≤ 1000 ∧ 0 ≤ h ∧ h ≤ 1048576)
set_option maxHeartbeats 2000000 in
theorem right_any (r c h : Int) (w : World) : Calls Tryz.prog 45 #[.agg #[.int .i64 r, .int .i64 c, .int .i64 h]] w fun e w' => e = .returned (.bool (fineB r c h)) ∧ Below w.heap.size w w' := by
  have hb : Below w.heap.size w (w.alloc (.cells #[.int .i64 r, .int .i64 c, .int .i64 h] 23)) := (Below.refl _ _).alloc (Nat.le_refl _) _
  by_cases a1 : 1 ≤ r
  · by_cases a2 : r ≤ 1000
    · by_cases a3 : 1 ≤ c
      · by_cases a4 : c ≤ 1000
        · by_cases a5 : 0 ≤ h
          · by_cases a6 : h ≤ 1048576
            · have hf := Lib.hid (show fineB r c h = true by simp [fineB, a1, a2, a3, a4, a5, a6])
              go_enter Tryz.func45, Tryz.ntmps45
              go_wp2
              go_ret
              exact ⟨by rw [hf.out]; rfl, hb⟩
            all_goals
              have hf := Lib.hid (show fineB r c h = false by simp [fineB, a1, a2, a3, a4, a5, a6])
              go_enter Tryz.func45, Tryz.ntmps45
              go_wp2
              go_ret
              exact ⟨by rw [hf.out]; rfl, hb⟩
          · have hf := Lib.hid (show fineB r c h = false by simp [fineB, a1, a2, a3, a4, a5])
            go_enter Tryz.func45, Tryz.ntmps45
            go_wp2
            go_ret
            exact ⟨by rw [hf.out]; rfl, hb⟩
        · have hf := Lib.hid (show fineB r c h = false by simp [fineB, a1, a2, a3, a4])
          go_enter Tryz.func45, Tryz.ntmps45
          go_wp2
          go_ret
          exact ⟨by rw [hf.out]; rfl, hb⟩
      · have hf := Lib.hid (show fineB r c h = false by simp [fineB, a1, a2, a3])
        go_enter Tryz.func45, Tryz.ntmps45
        go_wp2
        go_ret
        exact ⟨by rw [hf.out]; rfl, hb⟩
    · have hf := Lib.hid (show fineB r c h = false by simp [fineB, a1, a2])
      go_enter Tryz.func45, Tryz.ntmps45
      go_wp2
      go_ret
      exact ⟨by rw [hf.out]; rfl, hb⟩
  · have hf := Lib.hid (show fineB r c h = false by simp [fineB, a1])
    go_enter Tryz.func45, Tryz.ntmps45
    go_wp2
    go_ret
    exact ⟨by rw [hf.out]; rfl, hb⟩
end Go.Proofs.YtbnnnmohggladabGreatDoor

namespace Go.Proofs.YtbnnnmohggladabGreatDoor
open Go.RowKit Go.Rep
set_option maxRecDepth 100000
theorem modes_new (w : World) : Calls Tryz.prog 79 #[] w fun e w' => e = .returned (.agg #[.bool true, .bool false, .bool false, .bool true, .bool false, .bool false, .bool false, .int .i64 0, .int .i64 0]) ∧ Below w.heap.size w w' := by
  go_enter Tryz.func79, Tryz.ntmps79
  go_wp2_with ((with_reducible refine wpList_store_blk rfl 41 (.tmp 0) (.tmp 1) rfl _ #[.bool false, .bool false, .bool false, .bool false, .bool false, .bool false, .bool false, .int .i64 0, .int .i64 0] #[.bool true, .bool false, .bool false, .bool true, .bool false, .bool false, .bool false, .int .i64 0, .int .i64 0] rfl rfl (Blk.new w 41 _) (by kernel_rfl) rfl (by kernel_rfl) ?_); intro w2 hw2)
  refine bodyPost_ret (results_cell_row rfl _ _ _ _ _ (0, 0) _ rfl (hw2.blk) Tryz.underlying41 rfl (by kernel_rfl)) rfl ?_
  exact ⟨rfl, ((Below.refl w.heap.size w).alloc (Nat.le_refl _) (.cells #[.bool false, .bool false, .bool false, .bool false, .bool false, .bool false, .bool false, .int .i64 0, .int .i64 0] 41)).trans hw2.below⟩
theorem rmodes_new (w : World) : Calls Tryz.prog 85 #[] w fun e w' => e = .returned (.agg #[.bool true, .bool false, .bool false, .bool true, .bool false, .bool false, .bool false, .int .i64 0, .int .i64 0]) ∧ Below w.heap.size w w' := by
  go_enter Tryz.func85, Tryz.ntmps85
  go_wp2_with ((with_reducible refine wpList_store_blk rfl 41 (.tmp 0) (.tmp 1) rfl _ #[.bool false, .bool false, .bool false, .bool false, .bool false, .bool false, .bool false, .int .i64 0, .int .i64 0] #[.bool true, .bool false, .bool false, .bool true, .bool false, .bool false, .bool false, .int .i64 0, .int .i64 0] rfl rfl (Blk.new w 41 _) (by kernel_rfl) rfl (by kernel_rfl) ?_); intro w2 hw2)
  refine bodyPost_ret (results_cell_row rfl _ _ _ _ _ (0, 0) _ rfl (hw2.blk) Tryz.underlying41 rfl (by kernel_rfl)) rfl ?_
  exact ⟨rfl, ((Below.refl w.heap.size w).alloc (Nat.le_refl _) (.cells #[.bool false, .bool false, .bool false, .bool false, .bool false, .bool false, .bool false, .int .i64 0, .int .i64 0] 41)).trans hw2.below⟩
theorem saved_new (w : World) : Calls Tryz.prog 80 #[] w fun e w' => e = .returned (.agg #[.int .i64 0, .int .i64 0, .bool false, .int .i64 0, .int .u8 0, .int .u8 0, .int .u8 0, .int .u8 0, .int .i64 0, .int .u8 0, .int .u8 0, .int .u8 0, .int .u8 0, .int .u8 0, .bool false, .int .i64 0, .int .i64 0, .int .i64 0]) ∧ Below w.heap.size w w' := by
  go_enter Tryz.func80, Tryz.ntmps80
  go_wp2_with ((with_reducible refine wpList_store_blk rfl 86 (.tmp 0) (.tmp 1) rfl _ #[.int .i64 0, .int .i64 0, .bool false, .int .i64 0, .int .u8 0, .int .u8 0, .int .u8 0, .int .u8 0, .int .i64 0, .int .u8 0, .int .u8 0, .int .u8 0, .int .u8 0, .int .u8 0, .bool false, .int .i64 0, .int .i64 0, .int .i64 0] #[.int .i64 0, .int .i64 0, .bool false, .int .i64 0, .int .u8 0, .int .u8 0, .int .u8 0, .int .u8 0, .int .i64 0, .int .u8 0, .int .u8 0, .int .u8 0, .int .u8 0, .int .u8 0, .bool false, .int .i64 0, .int .i64 0, .int .i64 0] rfl rfl (Blk.new w 86 _) (by kernel_rfl) rfl (by kernel_rfl) ?_); intro w2 hw2)
  refine bodyPost_ret (results_cell_row rfl _ _ _ _ _ (0, 0) _ rfl (hw2.blk) Tryz.underlying86 rfl (by kernel_rfl)) rfl ?_
  exact ⟨rfl, ((Below.refl w.heap.size w).alloc (Nat.le_refl _) (.cells #[.int .i64 0, .int .i64 0, .bool false, .int .i64 0, .int .u8 0, .int .u8 0, .int .u8 0, .int .u8 0, .int .i64 0, .int .u8 0, .int .u8 0, .int .u8 0, .int .u8 0, .int .u8 0, .bool false, .int .i64 0, .int .i64 0, .int .i64 0] 86)).trans hw2.below⟩

theorem whole_any {n : Nat} (h1 : 1 ≤ n) (hn : n ≤ 1000) (w : World) : Calls Tryz.prog 78 #[.int .i64 n] w fun e w' => e = .returned (.tuple #[.agg #[.int .i64 0, .int .i64 ((n : Int) - 1)], .int .i64 0]) ∧ Below w.heap.size w w' := by
  have g1 : ¬ (n : Int) < 1 := by omega
  have g2 : ¬ (1000 : Int) < (n : Int) := by omega
  have hwr : IntKind.i64.wrap ((n : Int) - 1) = (n : Int) - 1 := by rw [IntWalk.i64_in] <;> omega
  go_enter Tryz.func78, Tryz.ntmps78
  go_wp2_with ((with_reducible refine wpList_store_blk rfl 79 (.tmp 2) (.tmp 13) rfl _ #[.int .i64 0, .int .i64 0] #[.int .i64 0, .int .i64 ((n : Int) - 1)] rfl rfl (Blk.new w 79 _) (by kernel_rfl) rfl (by kernel_rfl) ?_); intro w2 hw2)
  have b0 : w2.cell? ⟨w.heap.size, 0, none⟩ = some (.int .i64 0) := hw2.blk.cell 0
  have b1 : w2.cell? ⟨w.heap.size, 1, none⟩ = some (.int .i64 ((n : Int) - 1)) := hw2.blk.cell 1
  refine bodyPost_ret (v := .tuple #[.agg #[.int .i64 0, .int .i64 ((n : Int) - 1)], .int .i64 0]) (by simp [results, go_sem, b0, b1]) rfl ?_
  exact ⟨rfl, ((Below.refl w.heap.size w).alloc (Nat.le_refl _) (.cells #[.int .i64 0, .int .i64 0] 79)).trans hw2.below⟩
def RING (h : Nat) : Array Value := #[.int .i64 h, .int .i64 64, .int .i64 0, .int .i64 0, .slice none 0 0]
theorem ring_new {h : Nat} (hh : h ≤ 1048576) (w : World) : Calls Tryz.prog 75 #[.int .i64 h, .int .i64 64] w fun e w' => e = .returned (.tuple #[.pointer (some ⟨w.heap.size, 0, none⟩), .int .i64 0]) ∧ w' = w.alloc (.cells (RING h) 208) := by
  have g1 : ¬ (h : Int) < 0 := by omega
  have g2 : ¬ (1048576 : Int) < (h : Int) := by omega
  go_enter Tryz.func75, Tryz.ntmps75
  go_wp2
  go_ret2
  exact ⟨rfl, rfl⟩
theorem hist_new {h : Nat} (hh : h ≤ 1048576) (w : World) : Calls Tryz.prog 46 #[.int .i64 h] w fun e w' => ∃ r q, e = .returned (.tuple #[.pointer (some ⟨q, 0, none⟩), .int .i64 0]) ∧ w.heap.size ≤ r ∧ w.heap.size ≤ q ∧ Blk w' q 144 #[.pointer (some ⟨r, 0, none⟩)] ∧ Blk w' r 208 (RING h) ∧ Below w.heap.size w w' := by
  go_enter Tryz.func46, Tryz.ntmps46
  go_wp2_with (go_at_call 75; refine (ring_new hh _).mono ?_; rintro e w1 ⟨rfl, h1⟩; have hB : Blk w1 w.heap.size 208 (RING h) := (by rw [h1]; exact Blk.new w 208 _); have hb1 : Below w.heap.size w w1 := (by rw [h1]; exact (Below.refl _ _).alloc (Nat.le_refl _) _); clear h1; have hs1 := hb1.size)
  go_ret2
  exact ⟨w.heap.size, w1.heap.size, rfl, Nat.le_refl _, hs1, Blk.new w1 144 _, hB.alloc _, hb1.alloc hs1 _⟩
end Go.Proofs.YtbnnnmohggladabGreatDoor

namespace Go.Proofs.YtbnnnmohggladabGreatDoor
open Go.RowKit Go.Rep
set_option maxRecDepth 100000
/-- A screen's cells. -/
def SC (n m : Nat) (pr q st : Value) (ma mb : Bool) (bt : Int) : Array Value := #[.int .i64 n, .int .i64 m, pr, q, .int .i64 0, .int .i64 0, .bool false, .int .i64 0, .int .u8 0, .int .u8 0, .int .u8 0, .int .u8 0, .int .i64 0, .int .u8 0, .int .u8 0, .int .u8 0, .int .u8 0, .int .u8 0, .bool ma, .bool false, .bool false, .bool mb, .bool false, .bool false, .bool false, .int .i64 0, .int .i64 0, .int .i64 0, .int .i64 bt, st, .int .i64 0, .int .i64 0, .int .i64 0, .int .i64 0, .int .i64 0, .bool false, .int .i64 0, .int .u8 0, .int .u8 0, .int .u8 0, .int .u8 0, .int .i64 0, .int .u8 0, .int .u8 0, .int .u8 0, .int .u8 0, .int .u8 0, .bool false, .int .i64 0, .int .i64 0, .int .i64 0, .int .i64 0, .int .i64 0, .bool false, .int .i64 0, .int .u8 0, .int .u8 0, .int .u8 0, .int .u8 0, .int .i64 0, .int .u8 0, .int .u8 0, .int .u8 0, .int .u8 0, .int .u8 0, .bool false, .int .i64 0, .int .i64 0, .int .i64 0, .string .empty, .string .empty, .string .empty, .int .i64 0]
/-- The cells of the reference's screen. -/
def SR (n m h : Nat) (pr st : Value) (ma mb : Bool) (bt : Int) : Array Value := #[.int .i64 n, .int .i64 m, .int .i64 h, .slice none 0 0, .int .i64 0, pr, .int .i64 0, .int .i64 0, .bool false, .int .i64 0, .int .u8 0, .int .u8 0, .int .u8 0, .int .u8 0, .int .i64 0, .int .u8 0, .int .u8 0, .int .u8 0, .int .u8 0, .int .u8 0, .bool ma, .bool false, .bool false, .bool mb, .bool false, .bool false, .bool false, .int .i64 0, .int .i64 0, .int .i64 0, .int .i64 bt, st, .int .i64 0, .int .i64 0, .int .i64 0, .int .i64 0, .int .i64 0, .bool false, .int .i64 0, .int .u8 0, .int .u8 0, .int .u8 0, .int .u8 0, .int .i64 0, .int .u8 0, .int .u8 0, .int .u8 0, .int .u8 0, .int .u8 0, .bool false, .int .i64 0, .int .i64 0, .int .i64 0, .int .i64 0, .int .i64 0, .bool false, .int .i64 0, .int .u8 0, .int .u8 0, .int .u8 0, .int .u8 0, .int .i64 0, .int .u8 0, .int .u8 0, .int .u8 0, .int .u8 0, .int .u8 0, .bool false, .int .i64 0, .int .i64 0, .int .i64 0, .string .empty, .string .empty, .string .empty, .int .i64 0]
end Go.Proofs.YtbnnnmohggladabGreatDoor

namespace Go.Proofs.YtbnnnmohggladabGreatDoor
open Go.RowKit Go.Rep
set_option maxRecDepth 100000
set_option maxHeartbeats 4000000 in
theorem alt_new {n m : Nat} (n0 : 1 ≤ n) (hn : n ≤ 1000) (m0 : 1 ≤ m) (hm : m ≤ 1000) (w : World) : Calls Tryz.prog 76 #[.int .i64 n, .int .i64 m] w fun e w' => ∃ p g v b, e = .returned (.tuple #[.pointer (some ⟨p, 0, none⟩), .int .i64 0]) ∧ w.heap.size ≤ p ∧ w.heap.size ≤ g ∧ Blk w' p 181 #[.pointer (some ⟨g, 0, none⟩), b, .int .i64 0, .int .i64 0, .pointer none] ∧ Blk w' g 183 #[.int .i64 m, v] ∧ Lines w' w.heap.size v n m ∧ Below w.heap.size w w' := by
  go_enter Tryz.func76, Tryz.ntmps76
  go_wp2
  go_loopw [12] (fun i wr => ∃ (k : Nat) (a b : Value), k ≤ 2 ∧ i = .int .i64 k ∧ Blk wr w.heap.size 181 #[a, b, .int .i64 0, .int .i64 0, .pointer none] ∧ Below w.heap.size w wr ∧ Hid (0 < k → ∃ g v, a = .pointer (some ⟨g, 0, none⟩) ∧ w.heap.size ≤ g ∧ Blk wr g 183 #[.int .i64 m, v] ∧ Lines wr w.heap.size v n m)) (fun i _ => 2 - (intOf i).toNat)
  case atStart => exact ⟨0, .pointer none, .pointer none, by omega, rfl, Blk.new w 181 _, (Below.refl _ _).alloc (Nat.le_refl _) _, Lib.hid (fun h => absurd h (by omega))⟩
  case round =>
    obtain ⟨k, a, b, hk, rfl, hP, hbr, hG⟩ := hrel
    have hsr := hbr.size
    have hlt := hP.lt
    by_cases h0 : k = 0
    · subst h0
      clear hG
      go_wp2_with (go_at_call 113; refine (grid_new n0 hn m0 hm _).mono ?_; rintro e w2 ⟨g2, v2, rfl, hg2, hB2, hL2, hb2⟩; have hP2 := hP.below hb2 hlt; have y0 : w2.cell? ⟨w.heap.size, 0, none⟩ = some a := hP2.cell 0; have f0 := hP2.frozen 0)
      go_roundw
      case rel => exact ⟨1, .pointer (some ⟨g2, 0, none⟩), b, by omega, by go_num, hP2.set_ 0 _, (hbr.trans (hb2.mono hsr)).setCell (p := ⟨w.heap.size, 0, none⟩) (Nat.le_refl _) _, Lib.hid fun _ => ⟨g2, v2, rfl, by omega, hB2.far (by show g2 ≠ w.heap.size; omega) _, lines_mono (lines_set hL2 (by show w.heap.size < wr.heap.size; omega)) hsr⟩⟩
      case measure => simp [intOf]
    · by_cases h1 : k = 1
      · subst h1
        obtain ⟨g, v, rfl, hg, hBg, hLg⟩ := hG.out (by omega)
        clear hG
        go_wp2_with (go_at_call 113; refine (grid_new n0 hn m0 hm _).mono ?_; rintro e w2 ⟨g2, v2, rfl, hg2, hB2, hL2, hb2⟩; have hP2 := hP.below hb2 hlt; have y1 : w2.cell? ⟨w.heap.size, 1, none⟩ = some b := hP2.cell 1; have f1 := hP2.frozen 1)
        have hne : g ≠ w.heap.size := hBg.ne_ hP (by decide)
        go_roundw
        case rel => exact ⟨2, .pointer (some ⟨g, 0, none⟩), _, by omega, by go_num, hP2.set_ 1 _, (hbr.trans (hb2.mono hsr)).setCell (p := ⟨w.heap.size, 1, none⟩) (Nat.le_refl _) _, Lib.hid fun _ => ⟨g, v, rfl, hg, (hBg.below hb2 hBg.lt).far hne _, lines_far (lines_below hLg hb2) hP2 (by decide) (by decide)⟩⟩
        case measure => simp [intOf]
      · obtain rfl : k = 2 := by omega
        obtain ⟨g, v, rfl, hg, hBg, hLg⟩ := hG.out (by omega)
        clear hG
        go_wp2
        go_ret2
        exact ⟨w.heap.size, g, v, b, rfl, Nat.le_refl _, hg, hP, hBg, hLg, hbr⟩
end Go.Proofs.YtbnnnmohggladabGreatDoor

namespace Go.Proofs.YtbnnnmohggladabGreatDoor
open Go.RowKit Go.Rep
set_option maxRecDepth 100000
open Go.Maps in
set_option maxHeartbeats 4000000 in
theorem tabs_fill {s b m : Nat} (hm : m ≤ 1000) (w : World) (hB : Blk w s 212 #[.int .i64 m, .map (some b)]) (hbs : b < s) (hM : w.ownsMap (H := Unit) Tryz.prog 3 (plainElem Tryz.prog 4) b 0 (.map [])) : Calls Tryz.prog 114 #[.pointer (some ⟨s, 0, none⟩), .int .i64 0] w fun e w' => (∃ u, e = .returned u) ∧ Below b w w' := by
  have hgw := hM.lt
  go_enter Tryz.func114, Tryz.ntmps114
  go_wp2
  go_loopw [4] (fun i wr => ∃ (k : Nat) (D : DataW Unit), 8 * k ≤ 1000 ∧ i = .int .i64 ((8 + 8 * k : Nat) : Int) ∧ Blk wr s 212 #[.int .i64 m, .map (some b)] ∧ wr.ownsMap (H := Unit) Tryz.prog 3 (plainElem Tryz.prog 4) b k D ∧ Below b w wr) (fun i _ => 1008 - (intOf i).toNat)
  case atStart => exact ⟨0, .map [], by omega, rfl, hB, hM, Below.refl _ _⟩
  case round =>
    obtain ⟨k, D, hk, rfl, hBr, hMr, hbr⟩ := hrel
    have x0 : wr.cell? ⟨s, 0, none⟩ = some (.int .i64 m) := hBr.cell 0
    have x1 : wr.cell? ⟨s, 1, none⟩ = some (.map (some b)) := hBr.cell 1
    have hml : k < maxLen := by unfold maxLen; omega
    by_cases hlt : 8 + 8 * k < m
    · have hlt' : ((8 + 8 * k : Nat) : Int) < (m : Int) := by omega
      have hge : (0 : Int) ≤ ((8 + 8 * k : Nat) : Int) := by omega
      have hwf : (Lit.int .i64 ((8 + 8 * k : Nat) : Int)).wf = true := by
        have : IntKind.i64.wrap ((8 + 8 * k : Nat) : Int) = ((8 + 8 * k : Nat) : Int) := by rw [IntWalk.i64_in] <;> omega
        have h0 : IntKind.i64.min = -9223372036854775808 := rfl
        simp [Lit.wf]
        omega
      have hwr : IntKind.i64.wrap (((8 + 8 * k : Nat) : Int) + 8) = ((8 + 8 * (k + 1) : Nat) : Int) := by rw [IntWalk.i64_in] <;> omega
      go_wp2_with (at_mapUpdate; refine wpList_mapUpdate_own _ rfl (.tmp 19) (.tmp 20) (.const (.bool true)) 210 rfl 3 4 (int_keyed Tryz.underlying3) Tryz.underlying210 _ b k D rfl hMr hml _ _ _ rfl rfl (keyOf_int_mk Tryz.underlying3 hwf) _ [] (plainElem_bool Tryz.underlying4 true) ?_; intro w1 hM1 hg1)
      go_roundw
      case rel => exact ⟨k + 1, _, by omega, by first | rfl | go_num, hBr.grown hg1 (by simp; omega), hM1, hbr.grown hg1 (by have := hMr.lt; omega) (fun j q => by cases q; exact Nat.le_refl _)⟩
      case measure => simp [intOf]; omega
    · have hge : ¬ ((8 + 8 * k : Nat) : Int) < (m : Int) := by omega
      go_wp2
      go_end0
      exact ⟨⟨_, rfl⟩, hbr⟩
theorem tabs_new {m : Nat} (m0 : 1 ≤ m) (hm : m ≤ 1000) (w : World) : Calls Tryz.prog 77 #[.int .i64 m] w fun e w' => ∃ q, e = .returned (.tuple #[.pointer (some q), .int .i64 0]) ∧ Below w.heap.size w w' := by
  have g1 : ¬ (m : Int) < 1 := by omega
  have g2 : ¬ (1000 : Int) < (m : Int) := by omega
  have hmm := @run_makeMap Tryz.prog
  have hM := (World.ownsMap_made (H := Unit) w Tryz.prog 3 (plainElem Tryz.prog 4)).alloc (.cells #[.int .i64 m, .map (some w.heap.size)] 212)
  have hB := blk_two w (.map #[] 0) 212 #[.int .i64 m, .map (some w.heap.size)]
  have hb0 := ((Below.refl w.heap.size w).alloc (Nat.le_refl _) (.map #[] 0)).alloc (by rw [alloc_size]; omega) (.cells #[.int .i64 m, .map (some w.heap.size)] 212)
  go_enter Tryz.func77, Tryz.ntmps77
  go_wp2_with (go_at_call 114; refine (tabs_fill hm _ hB (by omega) hM).mono ?_; rintro e w1 ⟨⟨u, rfl⟩, hb1⟩)
  go_ret2
  exact ⟨_, rfl, hb0.trans hb1⟩
end Go.Proofs.YtbnnnmohggladabGreatDoor

namespace Go.Proofs.YtbnnnmohggladabGreatDoor
open Go.RowKit Go.Rep
set_option maxRecDepth 100000
/-- All lies as it lay, but for one block. -/
def Off (s : Nat) (w w' : World) : Prop := w'.os = w.os ∧ w'.tape = w.tape ∧ w'.output = w.output ∧ w.heap.size ≤ w'.heap.size ∧ ∀ k, k < w.heap.size → k ≠ s → w'.heap[k]? = w.heap[k]?
section
variable {s : Nat} {w w' w2 : World}
theorem off_refl : Off s w w := ⟨rfl, rfl, rfl, Nat.le_refl _, fun _ _ _ => rfl⟩
theorem off_trans (h : Off s w w') (k : Off s w' w2) : Off s w w2 := ⟨k.1.trans h.1, k.2.1.trans h.2.1, k.2.2.1.trans h.2.2.1, Nat.le_trans h.2.2.2.1 k.2.2.2.1, fun i hi hs => (k.2.2.2.2 i (Nat.lt_of_lt_of_le hi h.2.2.2.1) hs).trans (h.2.2.2.2 i hi hs)⟩
theorem off_below (h : Below w.heap.size w w') : Off s w w' := ⟨h.os, h.tape, h.output, h.size, fun k hk _ => h.block k hk⟩
theorem off_stored {t : TypeId} {cs : Array Value} (h : Stored w w' s t cs) : Off s w w' := ⟨h.below.os, h.below.tape, h.below.output, by rw [h.size]; exact Nat.le_refl _, fun k _ hs => h.far k hs⟩
theorem off_set {i : Nat} {u : Value} : Off s w (w.setCell ⟨s, i, none⟩ u) :=
  have h := (Below.refl s w).setCell (p := ⟨s, i, none⟩) (Nat.le_refl _) u
  ⟨h.os, h.tape, h.output, h.size, fun k _ hs => Below.heap_setCell w ⟨s, i, none⟩ u k hs⟩
theorem off_to (h : Off s w w') (hs : s ≤ w.heap.size) : Below s w w' := ⟨h.1, h.2.1, h.2.2.1, h.2.2.2.1, fun k hk => h.2.2.2.2 k (by omega) (by omega)⟩
theorem blk_off {g : Nat} {t : TypeId} {cs : Array Value} (h : Off s w w') (hB : Blk w g t cs) (hg : g ≠ s) : Blk w' g t cs := (h.2.2.2.2 g hB.lt hg).trans hB
theorem own_off {base e size n : Nat} {v : Value} {xs : List Value} (h : Off s w w') (ho : w.ownsRow base e size v n xs) (hs : s < base) : w'.ownsRow base e size v n xs := by
  obtain ⟨hl, h1 | ⟨k, cap, cur, hu, hB, hk, hn, hm, hz, ht⟩⟩ := ho
  · exact ⟨hl, .inl h1⟩
  · exact ⟨hl, .inr ⟨k, cap, cur, hu, hB, (h.2.2.2.2 k (Blk.lt (t := e) hk) (by omega)).trans hk, hn, hm, hz, ht⟩⟩
theorem lines_off {b n m : Nat} {v : Value} (h : Off s w w') (hL : Lines w b v n m) (hs : s < b) : Lines w' b v n m := by
  obtain ⟨vs, ho, hx⟩ := hL
  exact ⟨vs, own_off h ho hs, fun i hi => by obtain ⟨A, c, q1, q2, q3⟩ := hx i hi; exact ⟨A, c, q1, q2, own_off h q3 hs⟩⟩
end
def MadeP (w : World) (s n m : Nat) (q : Value) (w' : World) : Prop := ∃ p g v b st, Blk w' s 118 (SC n m (.pointer (some ⟨p, 0, none⟩)) q st true true ((n : Int) - 1)) ∧ w.heap.size ≤ p ∧ w.heap.size ≤ g ∧ Blk w' p 181 #[.pointer (some ⟨g, 0, none⟩), b, .int .i64 0, .int .i64 0, .pointer none] ∧ Blk w' g 183 #[.int .i64 m, v] ∧ Lines w' w.heap.size v n m ∧ Below s w w'
set_option maxHeartbeats 4000000 in
theorem scr_reset {s n m : Nat} {q : Value} {w : World} (n0 : 1 ≤ n) (hn : n ≤ 1000) (m0 : 1 ≤ m) (hm : m ≤ 1000) (hS : Blk w s 118 (SC n m (.pointer none) q (.pointer none) false false 0)) : Calls Tryz.prog 47 #[.pointer (some ⟨s, 0, none⟩)] w fun e w' => e = .returned (.int .i64 0) ∧ MadeP w s n m q w' := by
  have hsw := hS.lt
  have x0 : w.cell? ⟨s, 0, none⟩ = some (.int .i64 n) := hS.cell 0
  have x1 : w.cell? ⟨s, 1, none⟩ = some (.int .i64 m) := hS.cell 1
  have x0d : w.drew.cell? ⟨s, 0, none⟩ = some (.int .i64 n) := hS.cell 0
  have x1d : w.drew.cell? ⟨s, 1, none⟩ = some (.int .i64 m) := hS.cell 1
  go_enter Tryz.func47, Tryz.ntmps47
  go_upto_region 1 with fail
  go_cut [2] (fun u wx => u = .int .i64 0 ∧ ∃ p g v b, Blk wx s 118 (SC n m (.pointer (some ⟨p, 0, none⟩)) q (.pointer none) false false 0) ∧ w.heap.size ≤ p ∧ w.heap.size ≤ g ∧ Blk wx p 181 #[.pointer (some ⟨g, 0, none⟩), b, .int .i64 0, .int .i64 0, .pointer none] ∧ Blk wx g 183 #[.int .i64 m, v] ∧ Lines wx w.heap.size v n m ∧ Off s w wx)
  case first =>
    go_region_law (go_simp; go_at_call 76; refine (alt_new n0 hn m0 hm _).mono ?_; rintro e w1 ⟨p, g, v, b, rfl, hp, hg, hP, hB, hL, hb1⟩; have hS1 := hS.drew.below hb1 hsw; have z2 : w1.cell? ⟨s, 2, none⟩ = some (.pointer none) := hS1.cell 2; have f2 := hS1.frozen 2)
    all_goals
      go_wp2_with fail
      go_meet
      have ho : Off s w (w1.setCell ⟨s, 2, none⟩ (.pointer (some ⟨p, 0, none⟩))) := off_trans (off_below ((Below.refl w.heap.size w).drew.trans hb1)) off_set
      have hp' : w.heap.size ≤ p := hp
      have hg' : w.heap.size ≤ g := hg
      exact ⟨rfl, p, g, v, b, hS1.set_ 2 _, hp', hg', blk_off off_set hP (by omega), blk_off off_set hB (by omega), lines_off off_set hL (by exact hsw), ho⟩
  case rest =>
    obtain ⟨rfl, p, g, v, b, hS2, hp, hg, hP, hB, hL, ho2⟩ := hcut
    have hsx := hS2.lt
    have y0 : wc.cell? ⟨s, 0, none⟩ = some (.int .i64 n) := hS2.cell 0
    have y1 : wc.cell? ⟨s, 1, none⟩ = some (.int .i64 m) := hS2.cell 1
    clear x0 x1 x0d x1d
    go_wp2_with (first
      | (go_at_call 77; refine (tabs_new m0 hm _).mono ?_; rintro e w3 ⟨q3, rfl, hb3⟩; have hS3 := hS2.below hb3 hsx; have y29 : w3.cell? ⟨s, 29, none⟩ = some (.pointer none) := hS3.cell 29; have f29 := hS3.frozen 29; have hS4 : Blk (w3.setCell ⟨s, 29, none⟩ (.pointer (some q3))) s 118 (SC n m (.pointer (some ⟨p, 0, none⟩)) q (.pointer (some q3)) false false 0) := hS3.set_ 29 _; have y30 : (w3.setCell ⟨s, 29, none⟩ (.pointer (some q3))).cell? ⟨s, 0, none⟩ = some (.int .i64 n) := hS4.cell 0; have ho4 := off_trans (off_below hb3) (off_set (s := s) (i := 29) (u := (.pointer (some q3)))))
      | (go_at_call 78; refine (whole_any n0 hn _).mono ?_; rintro e w5 ⟨rfl, hb5⟩; have hS5 := hS4.below hb5 hS4.lt; have ho5 := off_trans ho4 (off_below hb5))
      | ((with_reducible refine wpList_store_part rfl 79 (.tmp 45) (.tmp 42) rfl s 27 118 (SC n m (.pointer (some ⟨p, 0, none⟩)) q (.pointer (some q3)) false false 0) #[.int .i64 0, .int .i64 ((n : Int) - 1)] (SC n m (.pointer (some ⟨p, 0, none⟩)) q (.pointer (some q3)) false false ((n : Int) - 1)) rfl rfl (hS5) (by kernel_rfl) (Nat.le_of_ble_eq_true (by kernel_rfl)) (by kernel_rfl) (by kernel_rfl) ?_); intro w6 hw6; have ho6 := off_trans ho5 (off_stored hw6))
      | (go_at_call 79; refine (modes_new _).mono ?_; rintro e w7 ⟨rfl, hb7⟩; have hS7 := hw6.blk.below hb7 hw6.blk.lt; have ho7 := off_trans ho6 (off_below hb7))
      | ((with_reducible refine wpList_store_part rfl 39 (.tmp 55) (.tmp 50) rfl s 4 118 (SC n m (.pointer (some ⟨p, 0, none⟩)) q (.pointer (some q3)) false false ((n : Int) - 1)) #[.int .i64 0, .int .i64 0, .bool false] (SC n m (.pointer (some ⟨p, 0, none⟩)) q (.pointer (some q3)) false false ((n : Int) - 1)) rfl rfl (hS7) (by kernel_rfl) (Nat.le_of_ble_eq_true (by kernel_rfl)) (by kernel_rfl) (by kernel_rfl) ?_); intro w8 hw8; have ho8 := off_trans ho7 (off_stored hw8))
      | ((with_reducible refine wpList_store_part rfl 47 (.tmp 57) (.tmp 51) rfl s 7 118 (SC n m (.pointer (some ⟨p, 0, none⟩)) q (.pointer (some q3)) false false ((n : Int) - 1)) #[.int .i64 0, .int .u8 0, .int .u8 0, .int .u8 0, .int .u8 0, .int .i64 0, .int .u8 0, .int .u8 0, .int .u8 0, .int .u8 0, .int .u8 0] (SC n m (.pointer (some ⟨p, 0, none⟩)) q (.pointer (some q3)) false false ((n : Int) - 1)) rfl rfl (hw8.blk) (by kernel_rfl) (Nat.le_of_ble_eq_true (by kernel_rfl)) (by kernel_rfl) (by kernel_rfl) ?_); intro w9 hw9; have ho9 := off_trans ho8 (off_stored hw9))
      | ((with_reducible refine wpList_store_part rfl 41 (.tmp 59) (.tmp 52) rfl s 18 118 (SC n m (.pointer (some ⟨p, 0, none⟩)) q (.pointer (some q3)) false false ((n : Int) - 1)) #[.bool true, .bool false, .bool false, .bool true, .bool false, .bool false, .bool false, .int .i64 0, .int .i64 0] (SC n m (.pointer (some ⟨p, 0, none⟩)) q (.pointer (some q3)) true true ((n : Int) - 1)) rfl rfl (hw9.blk) (by kernel_rfl) (Nat.le_of_ble_eq_true (by kernel_rfl)) (by kernel_rfl) (by kernel_rfl) ?_); intro w10 hw10; have ho10 := off_trans ho9 (off_stored hw10))
      | ((with_reducible refine wpList_store_part rfl 84 (.tmp 61) (.tmp 53) rfl s 30 118 (SC n m (.pointer (some ⟨p, 0, none⟩)) q (.pointer (some q3)) true true ((n : Int) - 1)) #[.int .i64 0, .int .i64 0, .int .i64 0] (SC n m (.pointer (some ⟨p, 0, none⟩)) q (.pointer (some q3)) true true ((n : Int) - 1)) rfl rfl (hw10.blk) (by kernel_rfl) (Nat.le_of_ble_eq_true (by kernel_rfl)) (by kernel_rfl) (by kernel_rfl) ?_); intro w11 hw11; have ho11 := off_trans ho10 (off_stored hw11))
      | (go_at_call 80; have hh := ho12; refine (saved_new _).mono ?_; rintro e w13 ⟨rfl, hb13⟩; have hS13 := hS12.below hb13 hS12.lt; have ho13 := off_trans ho12 (off_below hb13))
      | (go_at_call 80; refine (saved_new _).mono ?_; rintro e w12 ⟨rfl, hb12⟩; have hS12 := hw11.blk.below hb12 hw11.blk.lt; have ho12 := off_trans ho11 (off_below hb12))
      | ((with_reducible refine wpList_store_part rfl 87 (.tmp 67) (.tmp 65) rfl s 33 118 (SC n m (.pointer (some ⟨p, 0, none⟩)) q (.pointer (some q3)) true true ((n : Int) - 1)) #[.int .i64 0, .int .i64 0, .bool false, .int .i64 0, .int .u8 0, .int .u8 0, .int .u8 0, .int .u8 0, .int .i64 0, .int .u8 0, .int .u8 0, .int .u8 0, .int .u8 0, .int .u8 0, .bool false, .int .i64 0, .int .i64 0, .int .i64 0, .int .i64 0, .int .i64 0, .bool false, .int .i64 0, .int .u8 0, .int .u8 0, .int .u8 0, .int .u8 0, .int .i64 0, .int .u8 0, .int .u8 0, .int .u8 0, .int .u8 0, .int .u8 0, .bool false, .int .i64 0, .int .i64 0, .int .i64 0] (SC n m (.pointer (some ⟨p, 0, none⟩)) q (.pointer (some q3)) true true ((n : Int) - 1)) rfl rfl (hS13) (by kernel_rfl) (Nat.le_of_ble_eq_true (by kernel_rfl)) (by kernel_rfl) (by kernel_rfl) ?_); intro w14 hw14; have ho14 := off_trans ho13 (off_stored hw14); have y70 : w14.cell? ⟨s, 70, none⟩ = some (.string .empty) := hw14.blk.cell 70; have f70 := hw14.blk.frozen 70))
    go_ret
    have ho15 := off_trans ho14 (off_set (s := s) (i := 70) (u := .string .empty))
    exact ⟨rfl, p, g, v, b, _, hw14.blk.set_ 70 _, hp, hg, blk_off ho15 hP (by omega), blk_off ho15 hB (by omega), lines_off ho15 hL hsw, off_to (off_trans ho2 ho15) (by omega)⟩
end Go.Proofs.YtbnnnmohggladabGreatDoor
