/- A part of the proof of TermNew. -/
import Derived.Test.YtbnnnmohggladabGreatDoorT3
namespace Go.Proofs.YtbnnnmohggladabGreatDoor
open Go.RowKit Go.Rep
set_option maxRecDepth 100000
/-- The headers of lines, copied into another list. -/
theorem lines_headers {w w' : World} {b n m : Nat} {v' : Value} {vs : List Value} (hx : ∀ i, i < n → ∃ A c, vs[i * 2]? = some (.slice A m c) ∧ vs[i * 2 + 1]? = some (.bool false) ∧ w.ownsRow b 134 16 (.slice A m c) m (bl m)) (hb : Below w.heap.size w w') (ho : w'.ownsRow b 104 2 v' n vs) : Lines w' b v' n m :=
  ⟨vs, ho, fun i hi => by obtain ⟨A, c, q1, q2, q3⟩ := hx i hi; exact ⟨A, c, q1, q2, own_below q3 hb⟩⟩
theorem headers_one {w : World} {b n m : Nat} {vs : List Value} (hl : vs.length = n * 2) (hx : ∀ i, i < n → ∃ A c, vs[i * 2]? = some (.slice A m c) ∧ vs[i * 2 + 1]? = some (.bool false) ∧ w.ownsRow b 134 16 (.slice A m c) m (bl m)) : ∀ u ∈ vs, u.oneCell' = true := by
  intro u hu
  obtain ⟨j, hj, rfl⟩ := List.getElem_of_mem hu
  obtain ⟨A, c, q1, q2, -⟩ := hx (j / 2) (by omega)
  rcases Nat.mod_two_eq_zero_or_one j with h | h
  · have e : j / 2 * 2 = j := by omega
    rw [e, List.getElem?_eq_getElem hj] at q1
    injection q1 with q1
    rw [q1]; rfl
  · have e : j / 2 * 2 + 1 = j := by omega
    rw [e, List.getElem?_eq_getElem hj] at q2
    injection q2 with q2
    rw [q2]; rfl
theorem term_replies {lo t n m h : Nat} {w : World} (H : TermAt w lo t n m h) : Calls Tryz.prog 9 #[.pointer (some ⟨t, 0, none⟩)] w fun e w' => e = .returned (.string .empty) ∧ Below lo w w' := by
  obtain ⟨pp, s, v, q, r, p, g, bb, b, vv, st, h0, h1, h2, h3⟩ := H
  have x1 : w.cell? ⟨t, 1, none⟩ = some (.pointer (some ⟨s, 0, none⟩)) := h1.cell 1
  go_enter Tryz.func9, Tryz.ntmps9
  go_wp2_with (first
    | (go_at_call 26; refine (tzero_no h1).mono ?_; rintro e w1 ⟨rfl, rfl⟩)
    | (go_at_call 27; refine (scr_replies h3.scr).mono ?_; rintro e w1 ⟨rfl, hb1⟩))
  go_ret
  exact ⟨rfl, hb1.mono h0⟩
set_option maxHeartbeats 4000000 in
theorem term_all {lo t n m h : Nat} {w : World} (H : TermAt w lo t n m h) (n0 : 1 ≤ n) (hn : n ≤ 1000) (m0 : 1 ≤ m) (hm : m ≤ 1000) : Calls Tryz.prog 17 #[.pointer (some ⟨t, 0, none⟩)] w fun e w' => ∃ A c, e = .returned (.tuple #[.slice A n c, .int .i64 0, .int .i64 0]) ∧ Lines w' w.heap.size (.slice A n c) n m ∧ Below w.heap.size w w' := by
  obtain ⟨i0, hi, hz0, hz1, hz2⟩ := info_parts line_info
  obtain ⟨pp, s, v, q, r, p, g, bb, b, vv, st, h0, h1, h2, h3⟩ := H
  have x1 : w.cell? ⟨t, 1, none⟩ = some (.pointer (some ⟨s, 0, none⟩)) := h1.cell 1
  go_enter Tryz.func17, Tryz.ntmps17
  go_upto_region 4 with (first
    | (go_at_call 26; refine (tzero_no h1).mono ?_; rintro e w1 ⟨rfl, rfl⟩)
    | (go_at_call 30; refine (scr_history h3.scr h3.hist h3.ring).mono ?_; rintro e w1 ⟨r', q', rfl, hr', hq', hQ', hR', hb1⟩; have hs1 := hb1.size; have H1 := h3.below hb1; have y1 : w1.drew.cell? ⟨t, 1, none⟩ = some (.pointer (some ⟨s, 0, none⟩)) := (h1.below hb1 h1.lt).cell 1))
  go_region_law (first
    | (go_simp; go_at_call 43; refine (all_none hQ'.drew hR'.drew).mono ?_; rintro e w2 ⟨rfl, hb2⟩; have hb2' : Below w1.heap.size w1 w2 := (Below.refl _ _).drew.trans hb2; have hs2 := hb2'.size; have H2 := H1.below hb2'; have y2 : w2.cell? ⟨t, 1, none⟩ = some (.pointer (some ⟨s, 0, none⟩)) := ((h1.below hb1 h1.lt).below hb2' (by have := h1.lt; omega)).cell 1)
    | (go_simp; go_at_call 32; refine (scr_lines H2.scr H2.pair H2.grid H2.lines n0 hn m0 hm).mono ?_; rintro e w3 ⟨u3, rfl, ⟨vs, hown3, hx3⟩, hb3⟩; obtain ⟨A3, c3, rfl, hc3, hc3', hr3⟩ := own_slice hown3; have hs3 := hb3.size; have hl3 := hown3.1; have hx3' := Lib.hid hx3; clear hx3)
    | (refine step_append_any _ rfl (.tmp 14) (.tmp 19) 36 rfl w.heap.size 104 i0 (.agg #[.slice none 0 0, .bool false]) 2 32 Tryz.underlying36 hi hz0 hz1 hz2 rfl (by decide) (.slice none 0 0) 0 [] (by kernel_rfl) (World.ownsRow_nil _ w.heap.size 104 2) _ A3 n c3 vs (by kernel_rfl) (hr3) (headers_one hl3 hx3'.out) (by unfold maxLen; omega) (by omega) (by omega) ?_; intro v4 w4 hown4 hg4 _; rw [Nat.zero_add, List.nil_append] at hown4; obtain ⟨A4, c4, rfl, hc4, _, _⟩ := own_slice hown4; have hb4 : Below w3.heap.size w3 w4 := (Below.refl _ _).grown hg4 (Nat.le_refl _) (fun j q => by cases q))
    | (go_simp; go_at_call 44; refine (hfirst_ok (hQ'.below (hb2'.trans ((hb3.mono hs2).trans (hb4.mono (by omega)))) hQ'.lt) (hR'.below (hb2'.trans ((hb3.mono hs2).trans (hb4.mono (by omega)))) hR'.lt)).mono ?_; rintro e w5 ⟨rfl, rfl⟩))
  all_goals
    go_wp2_with fail
    go_ret3
    exact ⟨A4, c4, rfl, lines_headers (w := w3) (fun i hi => by obtain ⟨A, c, q1, q2, q3⟩ := hx3'.out i hi; exact ⟨A, c, q1, q2, q3.mono (by omega)⟩) hb4 hown4, hb1.trans ((hb2'.trans ((hb3.mono hs2).trans (hb4.mono (by omega)))).mono hs1)⟩
end Go.Proofs.YtbnnnmohggladabGreatDoor

namespace Go.Proofs.YtbnnnmohggladabGreatDoor
open Go.RowKit Go.Rep
set_option maxRecDepth 100000
/-- What lies of the reference's new terminal. -/
def RTermAt (w : World) (t n m h : Nat) : Prop := ∃ s p g bb b v st, Blk w t 96 #[.string .empty, .string .empty, .slice none 0 0, .pointer (some ⟨s, 0, none⟩), .int .i64 0] ∧ RefAt w s n m h p g bb b v st
theorem RTermAt.below {w w' : World} {t n m h : Nat} (H : RTermAt w t n m h) (hb : Below w.heap.size w w') : RTermAt w' t n m h := by
  obtain ⟨s, p, g, bb, b, v, st, h1, h2⟩ := H
  exact ⟨s, p, g, bb, b, v, st, h1.below hb h1.lt, h2.below hb⟩
theorem rterm_new {r c h : Int} {n m k : Nat} (en : nearI r 1 1000 = n) (em : nearI c 1 1000 = m) (ek : nearI h 0 1048576 = k) (n0 : 1 ≤ n) (hn : n ≤ 1000) (hm : m ≤ 1000) (w : World) : Calls Tryz.prog 8 #[.agg #[.int .i64 r, .int .i64 c, .int .i64 h]] w fun e w' => ∃ t, e = .returned (.pointer (some ⟨t, 0, none⟩)) ∧ w.heap.size ≤ t ∧ RTermAt w' t n m k ∧ Below w.heap.size w w' := by
  have hc := Blk.new w 23 #[.int .i64 r, .int .i64 c, .int .i64 h]
  have EN := Lib.hid en
  have EM := Lib.hid em
  have EK := Lib.hid ek
  clear en em ek
  go_enter Tryz.func8, Tryz.ntmps8
  go_wp2_with (first
    | (refine wpList_load_blk 23 (.tmp 1) rfl (by rfl) _ rfl #[.int .i64 r, .int .i64 c, .int .i64 h] _ (hc) Tryz.underlying23 rfl (by kernel_rfl) ?_)
    | (go_at_call 4; refine (rclamp_any _ _ _ _).mono ?_; rintro e w1 ⟨rfl, hb1⟩; rw [EN.out, EM.out, EK.out]; have hs1 := hb1.size)
    | (go_at_call 25; refine (ref_new n0 hn hm).mono ?_; rintro e w2 ⟨s, rfl, hs, ⟨p, g, v, b, st, k1, k2, k3, k4⟩, hb2⟩; have hs2 := hb2.size))
  go_ret
  have hbw : Below w.heap.size w w2 := (((Below.refl w.heap.size w).alloc (Nat.le_refl _) _).trans (hb1.mono (by simp only [alloc_size]; omega))).trans (hb2.mono (by simp only [alloc_size] at hs1; omega))
  have hsw := hbw.size
  exact ⟨w2.heap.size, rfl, hsw, ⟨s, p, g, _, b, v, st, Blk.new w2 96 _, (RefAt.mk k1 k2 k3 k4).below ((Below.refl _ _).alloc (Nat.le_refl _) _)⟩, hbw.alloc hsw _⟩
theorem copies_none (w : World) : Calls Tryz.prog 49 #[.slice none 0 0] w fun e w' => e = .returned (.slice none 0 0) ∧ w = w' := by
  go_enter Tryz.func49, Tryz.ntmps49
  go_wp2
  refine wp_loop_rounds 1 ?_
  rw [rounds_succ]
  go_wp2
  go_ret
  exact ⟨rfl, rfl⟩
set_option maxHeartbeats 4000000 in
theorem rterm_all {t n m h : Nat} {w : World} (H : RTermAt w t n m h) (n0 : 1 ≤ n) (hn : n ≤ 1000) (m0 : 1 ≤ m) (hm : m ≤ 1000) : Calls Tryz.prog 24 #[.pointer (some ⟨t, 0, none⟩)] w fun e w' => ∃ A c, e = .returned (.slice A n c) ∧ Lines w' w.heap.size (.slice A n c) n m ∧ Below w.heap.size w w' := by
  obtain ⟨i0, hi, hz0, hz1, hz2⟩ := info_parts line_info
  obtain ⟨s, p, g, bb, b, v, st, h1, h2⟩ := H
  have x3 : w.drew.cell? ⟨t, 3, none⟩ = some (.pointer (some ⟨s, 0, none⟩)) := h1.cell 3
  have y3 : w.drew.cell? ⟨s, 3, none⟩ = some (.slice none 0 0) := h2.scr.cell 3
  have H2 : RefAt w.drew s n m h p g bb b v st := h2.below (Below.refl _ _).drew
  go_enter Tryz.func24, Tryz.ntmps24
  go_upto_region 1 with fail
  go_region_law (first
    | (go_simp; go_at_call 49; refine (copies_none _).mono ?_; rintro e w2 ⟨rfl, rfl⟩)
    | (go_simp; go_at_call 50; refine (ref_lines H2.scr H2.pair H2.grid H2.lines hn m0 hm).mono ?_; rintro e w3 ⟨u3, rfl, ⟨vs, hown3, hx3⟩, hb3⟩; obtain ⟨A3, c3, rfl, hc3, hc3', hr3⟩ := own_slice hown3; have hs3 : w.heap.size ≤ w3.heap.size := hb3.size; have hl3 := hown3.1; have hx3' := Lib.hid hx3; clear hx3)
    | (refine step_append_any _ rfl (.tmp 10) (.tmp 15) 36 rfl w.heap.size 104 i0 (.agg #[.slice none 0 0, .bool false]) 2 32 Tryz.underlying36 hi hz0 hz1 hz2 rfl (by decide) (.slice none 0 0) 0 [] (by kernel_rfl) (World.ownsRow_nil _ w.heap.size 104 2) _ A3 n c3 vs (by kernel_rfl) (hr3) (headers_one hl3 hx3'.out) (by unfold maxLen; omega) (by omega) (by omega) ?_; intro v4 w4 hown4 hg4 _; rw [Nat.zero_add, List.nil_append] at hown4; obtain ⟨A4, c4, rfl, hc4, _, _⟩ := own_slice hown4; have hb4 : Below w3.heap.size w3 w4 := (Below.refl _ _).grown hg4 (Nat.le_refl _) (fun j q => by cases q)))
  all_goals
    go_wp2_with fail
    go_ret
    exact ⟨A4, c4, rfl, lines_headers (w := w3) hx3'.out hb4 hown4, (Below.refl _ _).drew.trans (hb3.trans (hb4.mono hs3))⟩
end Go.Proofs.YtbnnnmohggladabGreatDoor
