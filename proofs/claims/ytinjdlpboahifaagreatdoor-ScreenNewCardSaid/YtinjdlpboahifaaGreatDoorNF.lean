/- A part of the proof of ScreenNew. -/
import Derived.Test.YtinjdlpboahifaaGreatDoorN17
import Derived.Test.YtinjdlpboahifaaGreatDoorNC
import Derived.Test.YtinjdlpboahifaaGreatDoorN24
import Derived.Test.YtinjdlpboahifaaGreatDoorN15
namespace Go.Proofs.YtinjdlpboahifaaGreatDoor
open Go.RowKit Go.Rep
set_option maxRecDepth 100000
theorem line_same {m B c1 c2 : Nat} {a1 a2 : Addr} {w : World} (h1 : Reads w B 16 (some a1) m (bl m)) (h2 : Reads w B 16 (some a2) m (bl m)) (hB : B ≤ w.heap.size) (hm : m ≤ 1000) : Calls Tryz.prog 55 #[.agg #[.slice (some a1) m c1, .bool false], .agg #[.slice (some a2) m c2, .bool false]] w fun e w' => e = .returned (.bool true) ∧ Below w.heap.size w w' := by
  have hb0 := ((Below.refl w.heap.size w).alloc (Nat.le_refl _) (.cells #[.slice (some a1) m c1, .bool false] 92)).alloc (by simp only [alloc_size]; omega) (.cells #[.slice (some a2) m c2, .bool false] 92)
  have r1 := (h1.alloc hB (.cells #[.slice (some a1) m c1, .bool false] 92)).alloc (by simp only [alloc_size]; omega) (.cells #[.slice (some a2) m c2, .bool false] 92)
  have r2 := (h2.alloc hB (.cells #[.slice (some a1) m c1, .bool false] 92)).alloc (by simp only [alloc_size]; omega) (.cells #[.slice (some a2) m c2, .bool false] 92)
  have b0 := (Blk.new w 92 #[.slice (some a1) m c1, .bool false]).alloc (.cells #[.slice (some a2) m c2, .bool false] 92)
  have b1 := blk_two w (.cells #[.slice (some a1) m c1, .bool false] 92) 92 #[.slice (some a2) m c2, .bool false]
  have x0 := b0.cell 0
  have x1 := b0.cell 1
  have y0 := b1.cell 0
  have y1 := b1.cell 1
  go_enter Tryz.func55, Tryz.ntmps55
  go_wp2_with (go_at_call 88; refine (cells_same r1 r2 hm).mono ?_; rintro e w1 ⟨rfl, hb1⟩)
  go_ret
  exact ⟨rfl, hb0.trans (hb1.mono (by simp only [alloc_size]; omega))⟩
set_option maxHeartbeats 2000000 in
theorem all_same {n m b1 b2 c1 c2 : Nat} {A1 A2 : Option Addr} {w : World} (h1 : Lines w b1 (.slice A1 n c1) n m) (h2 : Lines w b2 (.slice A2 n c2) n m) (hn : n ≤ 1000) (m0 : 1 ≤ m) (hm : m ≤ 1000) : Calls Tryz.prog 22 #[.slice A1 n c1, .slice A2 n c2] w fun e w' => e = .returned (.bool true) ∧ Below w.heap.size w w' := by
  have H1 := Lib.hid h1
  have H2 := Lib.hid h2
  clear h1 h2
  go_enter Tryz.func22, Tryz.ntmps22
  go_wp2
  go_loopw [5] (fun i wr => ∃ j : Nat, j ≤ n ∧ i = .int .i64 j ∧ Below w.heap.size w wr) (fun i _ => n - (intOf i).toNat)
  case atStart => exact ⟨0, Nat.zero_le _, rfl, Below.refl _ _⟩
  case round =>
    obtain ⟨j, hj, rfl, hbr⟩ := hrel
    have hsr := hbr.size
    by_cases hlt : j < n
    · have hlt' : (j : Int) < (n : Int) := by omega
      obtain ⟨d1, k1, e1, rfl, hx, r1⟩ := line_at (lines_below H1.out hbr) hlt m0
      obtain ⟨d2, k2, e2, rfl, hy, r2⟩ := line_at (lines_below H2.out hbr) hlt m0
      have x0 : wr.cell? (d1.add (j * 2)) = some (.slice (some k1) m e1) := (by have := hx.out 0 _ rfl; rw [addr_add0] at this; exact this)
      have x1 : wr.cell? ⟨(d1.add (j * 2)).block, (d1.add (j * 2)).off + 1, none⟩ = some (.bool false) := (by have := hx.out 1 _ rfl; rw [addr_add1 _ 1 (by decide)] at this; exact this)
      have y0 : wr.cell? (d2.add (j * 2)) = some (.slice (some k2) m e2) := (by have := hy.out 0 _ rfl; rw [addr_add0] at this; exact this)
      have y1 : wr.cell? ⟨(d2.add (j * 2)).block, (d2.add (j * 2)).off + 1, none⟩ = some (.bool false) := (by have := hy.out 1 _ rfl; rw [addr_add1 _ 1 (by decide)] at this; exact this)
      have x0d : wr.drew.cell? (d1.add (j * 2)) = some (.slice (some k1) m e1) := x0
      have x1d : wr.drew.cell? ⟨(d1.add (j * 2)).block, (d1.add (j * 2)).off + 1, none⟩ = some (.bool false) := x1
      have y0d : wr.drew.cell? (d2.add (j * 2)) = some (.slice (some k2) m e2) := y0
      have y1d : wr.drew.cell? ⟨(d2.add (j * 2)).block, (d2.add (j * 2)).off + 1, none⟩ = some (.bool false) := y1
      go_upto_block 1 with fail
      go_cut [] (fun wx => Below w.heap.size w wx)
      case first =>
        go_wp2_with fail
        go_region_law (first
          | (go_simp; go_at_call 55; refine (line_same r1.drew r2.drew (Nat.le_refl _) hm).mono ?_; rintro e w1 ⟨rfl, hb1⟩))
        all_goals
          go_wp2_with fail
          go_meet
          exact hbr.trans (((Below.refl wr.heap.size wr).drew.trans hb1).mono hsr)
      case rest =>
        go_wp2
        go_roundw
        case rel => exact ⟨j + 1, by omega, by go_num, hcut⟩
        case measure => simp [intOf]; omega
    · obtain rfl : j = n := by omega
      go_wp2
      go_ret
      exact ⟨rfl, hbr⟩
end Go.Proofs.YtinjdlpboahifaaGreatDoor

namespace Go.Proofs.YtinjdlpboahifaaGreatDoor
open Go.RowKit Go.Rep
set_option maxRecDepth 100000
theorem cur_same (w : World) : (binOp .neq 47 (.agg #[.int .i64 0, .int .i64 0, .bool false]) (.agg #[.int .i64 0, .int .i64 0, .bool false])).run Tryz.prog w = .ok (.bool false) w := by kernel_rfl
theorem modes_same (w : World) : (binOp .eql 55 (.agg #[.bool true, .bool false, .bool false, .bool true, .bool false, .bool false, .bool false, .int .i64 0, .int .i64 0]) (.agg #[.bool true, .bool false, .bool false, .bool true, .bool false, .bool false, .bool false, .int .i64 0, .int .i64 0])).run Tryz.prog w = .ok (.bool true) w := by kernel_rfl
theorem pen_same (w : World) : (binOp .eql 53 (.agg #[.int .i64 0, .int .u8 0, .int .u8 0, .int .u8 0, .int .u8 0, .int .i64 0, .int .u8 0, .int .u8 0, .int .u8 0, .int .u8 0, .int .u8 0]) (.agg #[.int .i64 0, .int .u8 0, .int .u8 0, .int .u8 0, .int .u8 0, .int .i64 0, .int .u8 0, .int .u8 0, .int .u8 0, .int .u8 0, .int .u8 0])).run Tryz.prog w = .ok (.bool true) w := by kernel_rfl
theorem reg_same (bt : Int) (w : World) : (binOp .eql 57 (.agg #[.int .i64 0, .int .i64 bt]) (.agg #[.int .i64 0, .int .i64 bt])).run Tryz.prog w = .ok (.bool true) w := by
  simp [binOp, Op.equal, Op.maxDepth, go_sem]
theorem scr_lines {s n m p g bb : Nat} {bt : Int} {q st b v : Value} {w : World} (hS : Blk w s 67 (SC n m (.pointer (some ⟨p, 0, none⟩)) q st true true bt)) (hP : Blk w p 133 #[.pointer (some ⟨g, 0, none⟩), b, .int .i64 0, .int .i64 0, .pointer none]) (hB : Blk w g 135 #[.int .i64 m, v]) (hL : Lines w bb v n m) (n0 : 1 ≤ n) (hn : n ≤ 1000) (m0 : 1 ≤ m) (hm : m ≤ 1000) : Calls Tryz.prog 25 #[.pointer (some ⟨s, 0, none⟩)] w fun e w' => ∃ u, e = .returned u ∧ Lines w' w.heap.size u n m ∧ Below w.heap.size w w' := by
  have x2 : w.cell? ⟨s, 2, none⟩ = some (.pointer (some ⟨p, 0, none⟩)) := hS.cell 2
  go_enter Tryz.func25, Tryz.ntmps25
  go_wp2_with (first
    | (go_at_call 36; refine (zero_no hS).mono ?_; rintro e w1 ⟨rfl, rfl⟩)
    | (go_at_call 59; refine (pair_grid hP hB hL n0 hn m0 hm).mono ?_; rintro e w2 ⟨p2, u2, rfl, hp2, hB2, hL2, hb2⟩; have hs2 := hb2.size)
    | (go_at_call 41; refine (grid_lines hB2 hL2 n0 hn m0 hm).mono ?_; rintro e w3 ⟨u3, rfl, hL3, hb3⟩))
  go_ret
  exact ⟨_, rfl, lines_mono hL3 hs2, hb2.trans (hb3.mono hs2)⟩
theorem ref_lines {s n m h p g bb : Nat} {bt : Int} {st b v : Value} {w : World} (hS : Blk w s 75 (SR n m h (.pointer (some ⟨p, 0, none⟩)) st true true bt)) (hP : Blk w p 173 #[.pointer (some ⟨g, 0, none⟩), b, .int .i64 0, .int .i64 0, .int .i64 0, .bool false, .int .i64 0, .int .u8 0, .int .u8 0, .int .u8 0, .int .u8 0, .int .i64 0, .int .u8 0, .int .u8 0, .int .u8 0, .int .u8 0, .int .u8 0, .bool false, .int .i64 0, .int .i64 0, .int .i64 0, .bool false]) (hB : Blk w g 121 #[.int .i64 m, v]) (hL : Lines w bb v n m) (hn : n ≤ 1000) (m0 : 1 ≤ m) (hm : m ≤ 1000) : Calls Tryz.prog 26 #[.pointer (some ⟨s, 0, none⟩)] w fun e w' => ∃ u, e = .returned u ∧ Lines w' w.heap.size u n m ∧ Below w.heap.size w w' := by
  obtain ⟨A, c, rfl, -, -, -⟩ := own_slice hL.choose_spec.1
  have x5 : w.cell? ⟨s, 5, none⟩ = some (.pointer (some ⟨p, 0, none⟩)) := hS.cell 5
  have y1 : w.cell? ⟨g, 1, none⟩ = some (.slice A n c) := hB.cell 1
  go_enter Tryz.func26, Tryz.ntmps26
  go_wp2_with (first
    | (go_at_call 61; refine (rgrid_ok x5 hP).mono ?_; rintro e w1 ⟨rfl, rfl⟩)
    | (go_at_call 60; refine (copies_ok hL hn m0 hm).mono ?_; rintro e w2 ⟨u2, rfl, hL2, hb2⟩))
  go_ret
  exact ⟨_, rfl, hL2, hb2⟩
end Go.Proofs.YtinjdlpboahifaaGreatDoor
