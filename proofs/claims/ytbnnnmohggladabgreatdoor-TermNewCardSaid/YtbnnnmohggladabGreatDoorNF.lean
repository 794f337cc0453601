/- A part of the proof of TermNew. -/
import Derived.Test.YtbnnnmohggladabGreatDoorN17
import Derived.Test.YtbnnnmohggladabGreatDoorNC
import Derived.Test.YtbnnnmohggladabGreatDoorN24
import Derived.Test.YtbnnnmohggladabGreatDoorN15
import Derived.Lib.SliceRun
namespace Go.Proofs.YtbnnnmohggladabGreatDoor
open Go.RowKit Go.Rep
set_option maxRecDepth 100000
theorem line_same {m B c1 c2 : Nat} {a1 a2 : Addr} {w : World} (h1 : Reads w B 16 (some a1) m (bl m)) (h2 : Reads w B 16 (some a2) m (bl m)) (hB : B ≤ w.heap.size) (hm : m ≤ 1000) : Calls Tryz.prog 48 #[.agg #[.slice (some a1) m c1, .bool false], .agg #[.slice (some a2) m c2, .bool false]] w fun e w' => e = .returned (.bool true) ∧ Below w.heap.size w w' := by
  have hb0 := ((Below.refl w.heap.size w).alloc (Nat.le_refl _) (.cells #[.slice (some a1) m c1, .bool false] 104)).alloc (by simp only [alloc_size]; omega) (.cells #[.slice (some a2) m c2, .bool false] 104)
  have r1 := (h1.alloc hB (.cells #[.slice (some a1) m c1, .bool false] 104)).alloc (by simp only [alloc_size]; omega) (.cells #[.slice (some a2) m c2, .bool false] 104)
  have r2 := (h2.alloc hB (.cells #[.slice (some a1) m c1, .bool false] 104)).alloc (by simp only [alloc_size]; omega) (.cells #[.slice (some a2) m c2, .bool false] 104)
  have b0 := (Blk.new w 104 #[.slice (some a1) m c1, .bool false]).alloc (.cells #[.slice (some a2) m c2, .bool false] 104)
  have b1 := blk_two w (.cells #[.slice (some a1) m c1, .bool false] 104) 104 #[.slice (some a2) m c2, .bool false]
  have x0 := b0.cell 0
  have x1 := b0.cell 1
  have y0 := b1.cell 0
  have y1 := b1.cell 1
  go_enter Tryz.func48, Tryz.ntmps48
  go_wp2_with (go_at_call 81; refine (cells_same r1 r2 hm).mono ?_; rintro e w1 ⟨rfl, hb1⟩)
  go_ret
  exact ⟨rfl, hb0.trans (hb1.mono (by simp only [alloc_size]; omega))⟩
set_option maxHeartbeats 2000000 in
theorem all_same {n m b1 b2 c1 c2 : Nat} {A1 A2 : Option Addr} {w : World} (h1 : Lines w b1 (.slice A1 n c1) n m) (h2 : Lines w b2 (.slice A2 n c2) n m) (hn : n ≤ 1000) (m0 : 1 ≤ m) (hm : m ≤ 1000) : Calls Tryz.prog 23 #[.slice A1 n c1, .slice A2 n c2] w fun e w' => e = .returned (.bool true) ∧ Below w.heap.size w w' := by
  have H1 := Lib.hid h1
  have H2 := Lib.hid h2
  clear h1 h2
  go_enter Tryz.func23, Tryz.ntmps23
  go_wp2
  go_loopw [5] (fun i wr => ∃ j : Nat, j ≤ n ∧ i = .int .i64 j ∧ Below w.heap.size w wr) (fun i _ => n - (intOf i).toNat)
  case atStart => exact ⟨0, Nat.zero_le _, rfl, Below.refl _ _⟩
  case round =>
    obtain ⟨j, hj, rfl, hbr⟩ := hrel
    have hsr := hbr.size
    by_cases hlt : j < n
    · have hlt' : (j : Int) < (n : Int) := by omega
      obtain ⟨d1, k1, e1, rfl, hx, r1⟩ := line_at (lines_below H1.out hbr) hlt m0
      obtain ⟨d2, k2, e2, rfl, hy, r2⟩ := line_at (lines_below H2.out hbr) hlt m0
      have x0 : wr.cell? (d1.add (j * 2)) = some (.slice (some k1) m e1) := (by have := hx.out 0 _ rfl; rw [addr_add0] at this; exact this)
      have x1 : wr.cell? ⟨(d1.add (j * 2)).block, (d1.add (j * 2)).off + 1, none⟩ = some (.bool false) := (by have := hx.out 1 _ rfl; rw [addr_add1 _ 1 (by decide)] at this; exact this)
      have y0 : wr.cell? (d2.add (j * 2)) = some (.slice (some k2) m e2) := (by have := hy.out 0 _ rfl; rw [addr_add0] at this; exact this)
      have y1 : wr.cell? ⟨(d2.add (j * 2)).block, (d2.add (j * 2)).off + 1, none⟩ = some (.bool false) := (by have := hy.out 1 _ rfl; rw [addr_add1 _ 1 (by decide)] at this; exact this)
      have x0d : wr.drew.cell? (d1.add (j * 2)) = some (.slice (some k1) m e1) := x0
      have x1d : wr.drew.cell? ⟨(d1.add (j * 2)).block, (d1.add (j * 2)).off + 1, none⟩ = some (.bool false) := x1
      have y0d : wr.drew.cell? (d2.add (j * 2)) = some (.slice (some k2) m e2) := y0
      have y1d : wr.drew.cell? ⟨(d2.add (j * 2)).block, (d2.add (j * 2)).off + 1, none⟩ = some (.bool false) := y1
      go_upto_block 1 with fail
      go_cut [] (fun wx => Below w.heap.size w wx)
      case first =>
        go_wp2_with fail
        go_region_law (first
          | (go_simp; go_at_call 48; refine (line_same r1.drew r2.drew (Nat.le_refl _) hm).mono ?_; rintro e w1 ⟨rfl, hb1⟩))
        all_goals
          go_wp2_with fail
          go_meet
          exact hbr.trans (((Below.refl wr.heap.size wr).drew.trans hb1).mono hsr)
      case rest =>
        go_wp2
        go_roundw
        case rel => exact ⟨j + 1, by omega, by go_num, hcut⟩
        case measure => simp [intOf]; omega
    · obtain rfl : j = n := by omega
      go_wp2
      go_ret
      exact ⟨rfl, hbr⟩
end Go.Proofs.YtbnnnmohggladabGreatDoor

namespace Go.Proofs.YtbnnnmohggladabGreatDoor
open Go.RowKit Go.Rep
set_option maxRecDepth 100000
theorem cur_same (w : World) : (binOp .neq 39 (.agg #[.int .i64 0, .int .i64 0, .bool false]) (.agg #[.int .i64 0, .int .i64 0, .bool false])).run Tryz.prog w = .ok (.bool false) w := by kernel_rfl
theorem modes_same (w : World) : (binOp .eql 41 (.agg #[.bool true, .bool false, .bool false, .bool true, .bool false, .bool false, .bool false, .int .i64 0, .int .i64 0]) (.agg #[.bool true, .bool false, .bool false, .bool true, .bool false, .bool false, .bool false, .int .i64 0, .int .i64 0])).run Tryz.prog w = .ok (.bool true) w := by kernel_rfl
theorem pen_same (w : World) : (binOp .eql 47 (.agg #[.int .i64 0, .int .u8 0, .int .u8 0, .int .u8 0, .int .u8 0, .int .i64 0, .int .u8 0, .int .u8 0, .int .u8 0, .int .u8 0, .int .u8 0]) (.agg #[.int .i64 0, .int .u8 0, .int .u8 0, .int .u8 0, .int .u8 0, .int .i64 0, .int .u8 0, .int .u8 0, .int .u8 0, .int .u8 0, .int .u8 0])).run Tryz.prog w = .ok (.bool true) w := by kernel_rfl
theorem reg_same (bt : Int) (w : World) : (binOp .eql 79 (.agg #[.int .i64 0, .int .i64 bt]) (.agg #[.int .i64 0, .int .i64 bt])).run Tryz.prog w = .ok (.bool true) w := by
  simp [binOp, Op.equal, Op.maxDepth, go_sem]
theorem scr_lines {s n m p g bb : Nat} {bt : Int} {q st b v : Value} {w : World} (hS : Blk w s 118 (SC n m (.pointer (some ⟨p, 0, none⟩)) q st true true bt)) (hP : Blk w p 181 #[.pointer (some ⟨g, 0, none⟩), b, .int .i64 0, .int .i64 0, .pointer none]) (hB : Blk w g 183 #[.int .i64 m, v]) (hL : Lines w bb v n m) (n0 : 1 ≤ n) (hn : n ≤ 1000) (m0 : 1 ≤ m) (hm : m ≤ 1000) : Calls Tryz.prog 32 #[.pointer (some ⟨s, 0, none⟩)] w fun e w' => ∃ u, e = .returned u ∧ Lines w' w.heap.size u n m ∧ Below w.heap.size w w' := by
  have x2 : w.cell? ⟨s, 2, none⟩ = some (.pointer (some ⟨p, 0, none⟩)) := hS.cell 2
  go_enter Tryz.func32, Tryz.ntmps32
  go_wp2_with (first
    | (go_at_call 52; refine (zero_no hS).mono ?_; rintro e w1 ⟨rfl, rfl⟩)
    | (go_at_call 64; refine (pair_grid hP hB hL n0 hn m0 hm).mono ?_; rintro e w2 ⟨p2, u2, rfl, hp2, hB2, hL2, hb2⟩; have hs2 := hb2.size)
    | (go_at_call 65; refine (grid_lines hB2 hL2 n0 hn m0 hm).mono ?_; rintro e w3 ⟨u3, rfl, hL3, hb3⟩))
  go_ret
  exact ⟨_, rfl, lines_mono hL3 hs2, hb2.trans (hb3.mono hs2)⟩
theorem ref_lines {s n m h p g bb : Nat} {bt : Int} {st b v : Value} {w : World} (hS : Blk w s 89 (SR n m h (.pointer (some ⟨p, 0, none⟩)) st true true bt)) (hP : Blk w p 216 #[.pointer (some ⟨g, 0, none⟩), b, .int .i64 0, .int .i64 0, .int .i64 0, .bool false, .int .i64 0, .int .u8 0, .int .u8 0, .int .u8 0, .int .u8 0, .int .i64 0, .int .u8 0, .int .u8 0, .int .u8 0, .int .u8 0, .int .u8 0, .bool false, .int .i64 0, .int .i64 0, .int .i64 0, .bool false]) (hB : Blk w g 166 #[.int .i64 m, v]) (hL : Lines w bb v n m) (hn : n ≤ 1000) (m0 : 1 ≤ m) (hm : m ≤ 1000) : Calls Tryz.prog 50 #[.pointer (some ⟨s, 0, none⟩)] w fun e w' => ∃ u, e = .returned u ∧ Lines w' w.heap.size u n m ∧ Below w.heap.size w w' := by
  obtain ⟨A, c, rfl, -, -, -⟩ := own_slice hL.choose_spec.1
  have x5 : w.cell? ⟨s, 5, none⟩ = some (.pointer (some ⟨p, 0, none⟩)) := hS.cell 5
  have y1 : w.cell? ⟨g, 1, none⟩ = some (.slice A n c) := hB.cell 1
  go_enter Tryz.func50, Tryz.ntmps50
  go_wp2_with (first
    | (go_at_call 82; refine (rgrid_ok x5 hP).mono ?_; rintro e w1 ⟨rfl, rfl⟩)
    | (go_at_call 49; refine (copies_ok hL hn m0 hm).mono ?_; rintro e w2 ⟨u2, rfl, hL2, hb2⟩))
  go_ret
  exact ⟨_, rfl, hL2, hb2⟩
end Go.Proofs.YtbnnnmohggladabGreatDoor

namespace Go.Proofs.YtbnnnmohggladabGreatDoor
open Go.RowKit Go.Rep
set_option maxRecDepth 100000
theorem sclone_empty (w : World) : Calls Tryz.prog 86 #[.string .empty] w fun e w' => e = .returned (.string .empty) ∧ w = w' := by
  go_enter Tryz.func86, Tryz.ntmps86
  go_wp2
  go_ret
  exact ⟨rfl, rfl⟩
theorem clone_empty (w : World) : Calls Tryz.prog 53 #[.string .empty] w fun e w' => e = .returned (.string .empty) ∧ w = w' := by
  go_enter Tryz.func53, Tryz.ntmps53
  go_wp2_with (go_at_call 86; refine (sclone_empty _).mono ?_; rintro e w1 ⟨rfl, rfl⟩)
  go_ret
  exact ⟨rfl, rfl⟩
theorem scr_replies {s n m : Nat} {bt : Int} {pa : Addr} {q st : Value} {w : World} (hS : Blk w s 118 (SC n m (.pointer (some pa)) q st true true bt)) : Calls Tryz.prog 27 #[.pointer (some ⟨s, 0, none⟩)] w fun e w' => e = .returned (.string .empty) ∧ Below s w w' := by
  have x71 : w.cell? ⟨s, 71, none⟩ = some (.string .empty) := hS.cell 71
  have f71 := hS.frozen 71
  go_enter Tryz.func27, Tryz.ntmps27
  go_wp2_with (first
    | (go_at_call 52; refine (zero_no hS).mono ?_; rintro e w1 ⟨rfl, rfl⟩)
    | (go_at_call 53; refine (clone_empty _).mono ?_; rintro e w1 ⟨rfl, rfl⟩))
  go_ret
  exact ⟨rfl, (Below.refl _ _).setCell (p := ⟨s, 71, none⟩) (Nat.le_refl _) _⟩
end Go.Proofs.YtbnnnmohggladabGreatDoor

namespace Go.Proofs.YtbnnnmohggladabGreatDoor
open Go.RowKit Go.Rep
set_option maxRecDepth 100000
def nearI (x lo hi : Int) : Int := if x < lo then lo else if hi < x then hi else x
theorem near_any (x lo hi : Int) (w : World) : Calls Tryz.prog 10 #[.int .i64 x, .int .i64 lo, .int .i64 hi] w fun e w' => e = .returned (.int .i64 (nearI x lo hi)) ∧ w = w' := by
  by_cases h1 : x < lo
  · have hf := Lib.hid (show nearI x lo hi = lo by simp [nearI, h1])
    have d1 : decide (x < lo) = true := by simpa using h1
    go_enter Tryz.func10, Tryz.ntmps10
    go_wp2
    go_ret
    exact ⟨by rw [hf.out]; rfl, rfl⟩
  · by_cases h2 : hi < x
    · have hf := Lib.hid (show nearI x lo hi = hi by simp [nearI, h1, h2])
      have d1 : decide (x < lo) = false := by simpa using h1
      have d2 : decide (hi < x) = true := by simpa using h2
      go_enter Tryz.func10, Tryz.ntmps10
      go_wp2
      go_ret
      exact ⟨by rw [hf.out]; rfl, rfl⟩
    · have hf := Lib.hid (show nearI x lo hi = x by simp [nearI, h1, h2])
      have d1 : decide (x < lo) = false := by simpa using h1
      have d2 : decide (hi < x) = false := by simpa using h2
      go_enter Tryz.func10, Tryz.ntmps10
      go_wp2
      go_ret
      exact ⟨by rw [hf.out]; rfl, rfl⟩

theorem clampi_any (x lo hi : Int) (h : lo ≤ hi) (w : World) : Calls Tryz.prog 18 #[.int .i64 x, .int .i64 lo, .int .i64 hi] w fun e w' => e = .returned (.int .i64 (nearI x lo hi)) ∧ w = w' := by
  by_cases h2 : hi < x
  · have h3 : ¬ x < lo := by omega
    have hf := Lib.hid (show nearI x lo hi = hi by simp [nearI, h2, h3])
    go_enter Tryz.func18, Tryz.ntmps18
    go_wp2
    all_goals
      go_ret
      refine ⟨?_, rfl⟩
      rw [hf.out]
      first | rfl | (have e : lo = hi := by omega
                     rw [e]; rfl)
  · by_cases h1 : x < lo
    · have hf := Lib.hid (show nearI x lo hi = lo by simp [nearI, h1])
      go_enter Tryz.func18, Tryz.ntmps18
      go_wp2
      go_ret
      exact ⟨by rw [hf.out]; rfl, rfl⟩
    · have hf := Lib.hid (show nearI x lo hi = x by simp [nearI, h1, h2])
      go_enter Tryz.func18, Tryz.ntmps18
      go_wp2
      all_goals
        go_ret
        refine ⟨?_, rfl⟩
        rw [hf.out]
        first | rfl | (have e : lo = x := by omega
                       rw [e]; rfl)
theorem view_new {n : Nat} (n0 : 1 ≤ n) (hn : n ≤ 1000) (w : World) : Calls Tryz.prog 20 #[.int .i64 n] w fun e w' => e = .returned (.tuple #[.pointer (some ⟨w.heap.size, 0, none⟩), .int .i64 0]) ∧ w' = w.alloc (.cells #[.int .i64 n, .int .i64 0] 121) := by
  have g1 : ¬ (n : Int) < 1 := by omega
  have g2 : ¬ (1000 : Int) < (n : Int) := by omega
  go_enter Tryz.func20, Tryz.ntmps20
  go_wp2
  go_ret2
  exact ⟨rfl, rfl⟩
theorem vzero_no {n v : Nat} {w : World} (n0 : 1 ≤ n) (hV : Blk w v 121 #[.int .i64 n, .int .i64 0]) : Calls Tryz.prog 58 #[.pointer (some ⟨v, 0, none⟩)] w fun e w' => e = .returned (.bool false) ∧ w = w' := by
  have x0 : w.cell? ⟨v, 0, none⟩ = some (.int .i64 n) := hV.cell 0
  have hne : ((n : Int) == 0) = false := by simp; omega
  go_enter Tryz.func58, Tryz.ntmps58
  go_wp2
  go_ret
  exact ⟨rfl, rfl⟩
theorem vback_ok {n v : Nat} {w : World} (n0 : 1 ≤ n) (hV : Blk w v 121 #[.int .i64 n, .int .i64 0]) : Calls Tryz.prog 34 #[.pointer (some ⟨v, 0, none⟩)] w fun e w' => e = .returned (.int .i64 0) ∧ w = w' := by
  have x1 : w.cell? ⟨v, 1, none⟩ = some (.int .i64 0) := hV.cell 1
  go_enter Tryz.func34, Tryz.ntmps34
  go_wp2_with (go_at_call 58; refine (vzero_no n0 hV).mono ?_; rintro e w1 ⟨rfl, rfl⟩)
  go_ret
  exact ⟨rfl, rfl⟩
theorem clamped_none (w : World) : Calls Tryz.prog 60 #[.agg #[.int .i64 0, .int .i64 0]] w fun e w' => e = .returned (.int .i64 0) ∧ Below w.heap.size w w' := by
  go_enter Tryz.func60, Tryz.ntmps60
  go_wp2
  go_ret
  exact ⟨rfl, (Below.refl _ _).alloc (Nat.le_refl _) _⟩
section
variable {r q h : Nat} {w : World}
theorem nothing_no (hQ : Blk w q 144 #[.pointer (some ⟨r, 0, none⟩)]) (hR : Blk w r 208 (RING h)) : Calls Tryz.prog 59 #[.pointer (some ⟨q, 0, none⟩)] w fun e w' => e = .returned (.bool false) ∧ Below w.heap.size w w' := by
  go_enter Tryz.func59, Tryz.ntmps59
  go_wp2_with (go_at_call 57; refine (hist_copy hQ hR).mono ?_; rintro e w1 ⟨r', q', rfl, hr', hq', hQ', hR', hb1⟩)
  go_ret
  exact ⟨rfl, hb1⟩
theorem hlen_ok (hQ : Blk w q 144 #[.pointer (some ⟨r, 0, none⟩)]) (hR : Blk w r 208 (RING h)) : Calls Tryz.prog 35 #[.pointer (some ⟨q, 0, none⟩)] w fun e w' => e = .returned (.int .i64 0) ∧ w = w' := by
  have x0 : w.cell? ⟨q, 0, none⟩ = some (.pointer (some ⟨r, 0, none⟩)) := hQ.cell 0
  go_enter Tryz.func35, Tryz.ntmps35
  go_wp2_with (first
    | (go_at_call 66; refine (hnone_no hQ).mono ?_; rintro e w1 ⟨rfl, rfl⟩)
    | (go_at_call 67; refine (rlen_ok hR).mono ?_; rintro e w1 ⟨rfl, rfl⟩))
  go_ret
  exact ⟨rfl, rfl⟩
theorem hnext_ok (hQ : Blk w q 144 #[.pointer (some ⟨r, 0, none⟩)]) (hR : Blk w r 208 (RING h)) : Calls Tryz.prog 63 #[.pointer (some ⟨q, 0, none⟩)] w fun e w' => e = .returned (.int .i64 0) ∧ w = w' := by
  have x0 : w.cell? ⟨q, 0, none⟩ = some (.pointer (some ⟨r, 0, none⟩)) := hQ.cell 0
  go_enter Tryz.func63, Tryz.ntmps63
  go_wp2_with (first
    | (go_at_call 66; refine (hnone_no hQ).mono ?_; rintro e w1 ⟨rfl, rfl⟩)
    | (go_at_call 94; refine (rnext_ok hR).mono ?_; rintro e w1 ⟨rfl, rfl⟩))
  go_ret
  exact ⟨rfl, rfl⟩
theorem last_zero (hQ : Blk w q 144 #[.pointer (some ⟨r, 0, none⟩)]) : Calls Tryz.prog 61 #[.pointer (some ⟨q, 0, none⟩), .int .i64 0] w fun e w' => e = .returned (.slice none 0 0) ∧ w = w' := by
  go_enter Tryz.func61, Tryz.ntmps61
  go_wp2_with (go_at_call 66; refine (hnone_no hQ).mono ?_; rintro e w1 ⟨rfl, rfl⟩)
  go_ret
  exact ⟨rfl, rfl⟩
end
end Go.Proofs.YtbnnnmohggladabGreatDoor
