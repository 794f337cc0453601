/- A part of the proof of TermNew. -/
import Derived.Test.YtbnnnmohggladabGreatDoorND
namespace Go.Proofs.YtbnnnmohggladabGreatDoor
open Go.RowKit Go.Rep
set_option maxRecDepth 100000
set_option maxHeartbeats 2000000 in
theorem grid_copy {g n m b : Nat} {v : Value} {w : World} (hB : Blk w g 183 #[.int .i64 m, v]) (hL : Lines w b v n m) (n0 : 1 ≤ n) (hn : n ≤ 1000) (m0 : 1 ≤ m) (hm : m ≤ 1000) : Calls Tryz.prog 96 #[.pointer (some ⟨g, 0, none⟩)] w fun e w' => ∃ p u, e = .returned (.pointer (some ⟨p, 0, none⟩)) ∧ w.heap.size ≤ p ∧ Blk w' p 183 #[.int .i64 m, u] ∧ Lines w' w.heap.size u n m ∧ Below w.heap.size w w' := by
  have x0 : w.cell? ⟨g, 0, none⟩ = some (.int .i64 m) := hB.cell 0
  have x0d : w.drew.cell? ⟨g, 0, none⟩ = some (.int .i64 m) := hB.cell 0
  go_enter Tryz.func96, Tryz.ntmps96
  go_upto_region 3 with (go_at_call 97; refine (gnone_no hB m0).mono ?_; rintro e w1 ⟨rfl, rfl⟩)
  go_region_law (go_simp; go_at_call 65; refine (grid_lines hB.drew (lines_drew hL) n0 hn m0 hm).mono ?_; rintro e w2 ⟨u2, rfl, hL2, hb2⟩; obtain ⟨A2, c2, rfl, -, -, -⟩ := own_slice hL2.choose_spec.1; have hs2 : w.heap.size ≤ w2.heap.size := hb2.size; have hB2 := hB.drew.below hb2 hB.lt; have x2 : w2.cell? ⟨g, 0, none⟩ = some (.int .i64 m) := hB2.cell 0)
  all_goals
    go_wp2_with fail
    go_ret
    exact ⟨w2.heap.size, .slice A2 n c2, rfl, hs2, Blk.new w2 183 _, lines_below hL2 ((Below.refl _ _).alloc (Nat.le_refl _) _), ((Below.refl _ _).drew.trans hb2).alloc hs2 _⟩
theorem pnone_no {p g : Nat} {b : Value} {w : World} (hP : Blk w p 181 #[.pointer (some ⟨g, 0, none⟩), b, .int .i64 0, .int .i64 0, .pointer none]) : Calls Tryz.prog 95 #[.pointer (some ⟨p, 0, none⟩)] w fun e w' => e = .returned (.bool false) ∧ w = w' := by
  have x0 : w.cell? ⟨p, 0, none⟩ = some (.pointer (some ⟨g, 0, none⟩)) := hP.cell 0
  go_enter Tryz.func95, Tryz.ntmps95
  go_wp2
  go_ret
  exact ⟨rfl, rfl⟩
theorem pair_grid {p g n m bb : Nat} {b v : Value} {w : World} (hP : Blk w p 181 #[.pointer (some ⟨g, 0, none⟩), b, .int .i64 0, .int .i64 0, .pointer none]) (hB : Blk w g 183 #[.int .i64 m, v]) (hL : Lines w bb v n m) (n0 : 1 ≤ n) (hn : n ≤ 1000) (m0 : 1 ≤ m) (hm : m ≤ 1000) : Calls Tryz.prog 64 #[.pointer (some ⟨p, 0, none⟩)] w fun e w' => ∃ p u, e = .returned (.pointer (some ⟨p, 0, none⟩)) ∧ w.heap.size ≤ p ∧ Blk w' p 183 #[.int .i64 m, u] ∧ Lines w' w.heap.size u n m ∧ Below w.heap.size w w' := by
  have x0 : w.cell? ⟨p, 0, none⟩ = some (.pointer (some ⟨g, 0, none⟩)) := hP.cell 0
  have x2 : w.cell? ⟨p, 2, none⟩ = some (.int .i64 0) := hP.cell 2
  have x0d : w.drew.cell? ⟨p, 0, none⟩ = some (.pointer (some ⟨g, 0, none⟩)) := hP.cell 0
  have x2d : w.drew.cell? ⟨p, 2, none⟩ = some (.int .i64 0) := hP.cell 2
  go_enter Tryz.func64, Tryz.ntmps64
  go_upto_region 3 with (go_at_call 95; refine (pnone_no hP).mono ?_; rintro e w1 ⟨rfl, rfl⟩)
  go_region_law (go_simp; go_at_call 96; refine (grid_copy hB.drew (lines_drew hL) n0 hn m0 hm).mono ?_; rintro e w2 ⟨p2, u2, rfl, hp2, hB2, hL2, hb2⟩)
  all_goals
    go_wp2_with fail
    go_ret
    exact ⟨p2, u2, rfl, hp2, hB2, hL2, (Below.refl _ _).drew.trans hb2⟩
end Go.Proofs.YtbnnnmohggladabGreatDoor
