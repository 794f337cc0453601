/- A part of the proof of TermNew. -/
import Derived.Test.YtbnnnmohggladabGreatDoorNT
import Derived.Test.YtbnnnmohggladabGreatDoorAbsN
namespace Go.Proofs.YtbnnnmohggladabGreatDoor
open Go.RowKit Go.Rep
set_option maxRecDepth 100000
set_option maxHeartbeats 4000000 in
theorem term_snap {lo t n m h : Nat} {w : World} (H : TermAt w lo t n m h) (n0 : 1 ≤ n) (hn : n ≤ 1000) (m0 : 1 ≤ m) (hm : m ≤ 1000) : Calls Tryz.prog 14 #[.pointer (some ⟨t, 0, none⟩)] w fun e w' => ∃ A c, e = .returned (.agg #[.slice A n c, .int .i64 m, .int .i64 0, .int .i64 0, .int .i64 0, .int .i64 0, .int .i64 0, .bool false, .bool true, .bool false, .bool false, .bool true, .bool false, .bool false, .bool false, .int .i64 0, .int .i64 0, .int .i64 0, .int .u8 0, .int .u8 0, .int .u8 0, .int .u8 0, .int .i64 0, .int .u8 0, .int .u8 0, .int .u8 0, .int .u8 0, .int .u8 0, .string .empty]) ∧ Lines w' w.heap.size (.slice A n c) n m ∧ Below w.heap.size w w' := by
  obtain ⟨pp, s, v, q, r, p, g, bb, b, vv, st, h0, h1, h2, h3⟩ := H
  have hb0 : Below w.heap.size w (w.alloc (.cells #[.slice none 0 0, .int .i64 0, .int .i64 0, .int .i64 0, .int .i64 0, .int .i64 0, .int .i64 0, .bool false, .bool false, .bool false, .bool false, .bool false, .bool false, .bool false, .bool false, .int .i64 0, .int .i64 0, .int .i64 0, .int .u8 0, .int .u8 0, .int .u8 0, .int .u8 0, .int .i64 0, .int .u8 0, .int .u8 0, .int .u8 0, .int .u8 0, .int .u8 0, .string .empty] 49)) := (Below.refl _ _).alloc (Nat.le_refl _) _
  have hz := Blk.new w 49 #[.slice none 0 0, .int .i64 0, .int .i64 0, .int .i64 0, .int .i64 0, .int .i64 0, .int .i64 0, .bool false, .bool false, .bool false, .bool false, .bool false, .bool false, .bool false, .bool false, .int .i64 0, .int .i64 0, .int .i64 0, .int .u8 0, .int .u8 0, .int .u8 0, .int .u8 0, .int .i64 0, .int .u8 0, .int .u8 0, .int .u8 0, .int .u8 0, .int .u8 0, .string .empty]
  have T1 := h1.alloc (.cells #[.slice none 0 0, .int .i64 0, .int .i64 0, .int .i64 0, .int .i64 0, .int .i64 0, .int .i64 0, .bool false, .bool false, .bool false, .bool false, .bool false, .bool false, .bool false, .bool false, .int .i64 0, .int .i64 0, .int .i64 0, .int .u8 0, .int .u8 0, .int .u8 0, .int .u8 0, .int .i64 0, .int .u8 0, .int .u8 0, .int .u8 0, .int .u8 0, .int .u8 0, .string .empty] 49)
  have V1 := h2.alloc (.cells #[.slice none 0 0, .int .i64 0, .int .i64 0, .int .i64 0, .int .i64 0, .int .i64 0, .int .i64 0, .bool false, .bool false, .bool false, .bool false, .bool false, .bool false, .bool false, .bool false, .int .i64 0, .int .i64 0, .int .i64 0, .int .u8 0, .int .u8 0, .int .u8 0, .int .u8 0, .int .i64 0, .int .u8 0, .int .u8 0, .int .u8 0, .int .u8 0, .int .u8 0, .string .empty] 49)
  have S1 := h3.below hb0
  have x1 : (w.alloc (.cells #[.slice none 0 0, .int .i64 0, .int .i64 0, .int .i64 0, .int .i64 0, .int .i64 0, .int .i64 0, .bool false, .bool false, .bool false, .bool false, .bool false, .bool false, .bool false, .bool false, .int .i64 0, .int .i64 0, .int .i64 0, .int .u8 0, .int .u8 0, .int .u8 0, .int .u8 0, .int .i64 0, .int .u8 0, .int .u8 0, .int .u8 0, .int .u8 0, .int .u8 0, .string .empty] 49)).cell? ⟨t, 1, none⟩ = some (.pointer (some ⟨s, 0, none⟩)) := T1.cell 1
  go_enter Tryz.func14, Tryz.ntmps14
  go_upto_region 4 with (first
    | (go_at_call 26; refine (tzero_no T1).mono ?_; rintro e w1 ⟨rfl, rfl⟩)
    | (go_at_call 30; refine (scr_history S1.scr S1.hist S1.ring).mono ?_; rintro e w1 ⟨r', q', rfl, hr', hq', QQ, RR, hb1⟩; have hs1 := hb1.size; have T2 := (T1.below hb1 T1.lt).drew; have V2 := (V1.below hb1 V1.lt).drew; have S2 := (S1.below hb1).below (Below.refl _ _).drew; have Z2 := (hz.below hb1 hz.lt).drew; have Q2 := QQ.drew; have R2 := RR.drew; have y1 : w1.drew.cell? ⟨t, 1, none⟩ = some (.pointer (some ⟨s, 0, none⟩)) := (T2).cell 1; have y2 : w1.drew.cell? ⟨t, 2, none⟩ = some (.pointer (some ⟨v, 0, none⟩)) := (T2).cell 2))
  go_region_law (first
    | (go_simp; go_at_call 32; refine (scr_lines S2.scr S2.pair S2.grid S2.lines n0 hn m0 hm).mono ?_; rintro e w3 ⟨u3, rfl, hL3, hb3⟩; obtain ⟨A3, c3, rfl, -, -, -⟩ := own_slice hL3.choose_spec.1; have hs3 := hb3.size; have T3 := T2.below hb3 T2.lt; have V3 := V2.below hb3 V2.lt; have S3 := S2.below hb3; have Z3 := Z2.below hb3 Z2.lt; have Q3 := Q2.below hb3 Q2.lt; have R3 := R2.below hb3 R2.lt; have z1 : w3.cell? ⟨t, 1, none⟩ = some (.pointer (some ⟨s, 0, none⟩)) := (T3).cell 1; have z2 : w3.cell? ⟨t, 2, none⟩ = some (.pointer (some ⟨v, 0, none⟩)) := (T3).cell 2)
    | (go_simp; go_at_call 31; refine (vlines_ok V3 Q3 R3 hL3 n0 hn m0 hm).mono ?_; rintro e w4 ⟨u4, rfl, hL4, hb4⟩; obtain ⟨A4, c4, rfl, -, -, -⟩ := own_slice hL4.choose_spec.1; have hs4 := hb4.size))
  all_goals
    have hbw4 : Below (w.heap.size + 1) (w.alloc (.cells #[.slice none 0 0, .int .i64 0, .int .i64 0, .int .i64 0, .int .i64 0, .int .i64 0, .int .i64 0, .bool false, .bool false, .bool false, .bool false, .bool false, .bool false, .bool false, .bool false, .int .i64 0, .int .i64 0, .int .i64 0, .int .u8 0, .int .u8 0, .int .u8 0, .int .u8 0, .int .i64 0, .int .u8 0, .int .u8 0, .int .u8 0, .int .u8 0, .int .u8 0, .string .empty] 49)) w4 := (hb1.trans (((Below.refl _ _).drew.trans (hb3.trans (hb4.mono hs3))).mono hs1)).mono (by rw [alloc_size]; omega)
    have hs14 : w.heap.size + 1 ≤ w4.heap.size := (by have := hbw4.size; rw [alloc_size] at this; exact this)
    have T4 := T3.below hb4 T3.lt
    have V4 := V3.below hb4 V3.lt
    have S4 := S3.below hb4
    have Z4 := Z3.below hb4 Z3.lt
    have Q4 := Q3.below hb4 Q3.lt
    have R4 := R3.below hb4 R3.lt
    have hL4' := lines_mono (b' := w.heap.size + 1) hL4 (by rw [World.size_drew] at hs3; rw [alloc_size] at hs1; omega)
    clear hL4 hL3 T3 V3 S3 Z3 Q3 R3 z1 z2 T2 V2 S2 Z2 Q2 R2 y1 y2 hb3 hb4 hb1 QQ RR hs3 hs4 hs1
    have TL := Lib.hid hL4'
    clear hL4'
    have S5 := S4.below (Below.refl _ _).drew
    have T5 := T4.drew
    have Z5 := Z4.drew
    have a1 : w4.drew.cell? ⟨t, 1, none⟩ = some (.pointer (some ⟨s, 0, none⟩)) := (T5).cell 1; have a2 : w4.drew.cell? ⟨t, 2, none⟩ = some (.pointer (some ⟨v, 0, none⟩)) := (T5).cell 2
    clear S4 T4
    go_upto_region 5 with fail
    go_region_held3 (fun w' => w'.cell? ⟨t, 1, none⟩ = some (.pointer (some ⟨s, 0, none⟩)) ∧ w'.cell? ⟨t, 2, none⟩ = some (.pointer (some ⟨v, 0, none⟩))) (first | exact ⟨a1, a2⟩ | exact ⟨b1, b2⟩ | exact ⟨c1, c2⟩ | exact ⟨d1, d2⟩ | exact ⟨e1, e2⟩) (first
      | (go_at_call 33; refine (scr_cols S5.scr).mono ?_; rintro e w0 ⟨rfl, rfl⟩)
      | (go_at_call 34; refine (vback_ok n0 V4.drew).mono ?_; rintro e w0 ⟨rfl, rfl⟩)
      | (go_at_call 35; refine (hlen_ok Q4.drew R4.drew).mono ?_; rintro e w0 ⟨rfl, rfl⟩)
      | (go_at_call 36; refine (scr_cursor S5.scr).mono ?_; rintro e w5 ⟨rfl, hb5⟩; have hs5 : w4.heap.size ≤ w5.heap.size := hb5.size; have S6 := S5.below hb5; have T6 := T5.below hb5 T5.lt; have Z6 := Z5.below hb5 Z5.lt; have b1 : w5.cell? ⟨t, 1, none⟩ = some (.pointer (some ⟨s, 0, none⟩)) := (T6).cell 1; have b2 : w5.cell? ⟨t, 2, none⟩ = some (.pointer (some ⟨v, 0, none⟩)) := (T6).cell 2)
      | (go_at_call 37; refine (scr_modes S6.scr).mono ?_; rintro e w6 ⟨rfl, hb6⟩; have hs6 := hb6.size; have S7 := S6.below hb6; have T7 := T6.below hb6 T6.lt; have Z7 := Z6.below hb6 Z6.lt; have c1 : w6.cell? ⟨t, 1, none⟩ = some (.pointer (some ⟨s, 0, none⟩)) := (T7).cell 1; have c2 : w6.cell? ⟨t, 2, none⟩ = some (.pointer (some ⟨v, 0, none⟩)) := (T7).cell 2)
      | (go_at_call 38; refine (scr_pen S7.scr).mono ?_; rintro e w7 ⟨rfl, hb7⟩; have hs7 := hb7.size; have S8 := S7.below hb7; have T8 := T7.below hb7 T7.lt; have Z8 := Z7.below hb7 Z7.lt; have d1 : w7.cell? ⟨t, 1, none⟩ = some (.pointer (some ⟨s, 0, none⟩)) := (T8).cell 1; have d2 : w7.cell? ⟨t, 2, none⟩ = some (.pointer (some ⟨v, 0, none⟩)) := (T8).cell 2)
      | (go_at_call 39; refine (scr_title S8.scr).mono ?_; rintro e w0 ⟨rfl, rfl⟩)
      | (refine upon_skip (S := fun w' => Stored w7 w' w.heap.size 49 #[.slice A4 n c4, .int .i64 m, .int .i64 0, .int .i64 0, .int .i64 0, .int .i64 0, .int .i64 0, .bool false, .bool true, .bool false, .bool false, .bool true, .bool false, .bool false, .bool false, .int .i64 0, .int .i64 0, .int .i64 0, .int .u8 0, .int .u8 0, .int .u8 0, .int .u8 0, .int .i64 0, .int .u8 0, .int .u8 0, .int .u8 0, .int .u8 0, .int .u8 0, .string .empty]) (w7.setRow w.heap.size #[.slice A4 n c4, .int .i64 m, .int .i64 0, .int .i64 0, .int .i64 0, .int .i64 0, .int .i64 0, .bool false, .bool true, .bool false, .bool false, .bool true, .bool false, .bool false, .bool false, .int .i64 0, .int .i64 0, .int .i64 0, .int .u8 0, .int .u8 0, .int .u8 0, .int .u8 0, .int .i64 0, .int .u8 0, .int .u8 0, .int .u8 0, .int .u8 0, .int .u8 0, .string .empty]) (by refine Eq.trans ?_ (congrArg (fun r => Result.andThen r fun _ w' => Result.ok Next.skip w') (run_storeVar_part (P := Tryz.prog) w.heap.size 0 49 49 #[.slice none 0 0, .int .i64 0, .int .i64 0, .int .i64 0, .int .i64 0, .int .i64 0, .int .i64 0, .bool false, .bool false, .bool false, .bool false, .bool false, .bool false, .bool false, .bool false, .int .i64 0, .int .i64 0, .int .i64 0, .int .u8 0, .int .u8 0, .int .u8 0, .int .u8 0, .int .i64 0, .int .u8 0, .int .u8 0, .int .u8 0, .int .u8 0, .int .u8 0, .string .empty] #[.slice A4 n c4, .int .i64 m, .int .i64 0, .int .i64 0, .int .i64 0, .int .i64 0, .int .i64 0, .bool false, .bool true, .bool false, .bool false, .bool true, .bool false, .bool false, .bool false, .int .i64 0, .int .i64 0, .int .i64 0, .int .u8 0, .int .u8 0, .int .u8 0, .int .u8 0, .int .i64 0, .int .u8 0, .int .u8 0, .int .u8 0, .int .u8 0, .int .u8 0, .string .empty] Z8 (by kernel_rfl) (Nat.le_of_ble_eq_true (by kernel_rfl)) (by kernel_rfl))); go_simp) (stored_row Z8) ?_; intro w8 hw8; have T9 : Blk w8 t 73 #[.pointer (some ⟨pp, 0, none⟩), .pointer (some ⟨s, 0, none⟩), .pointer (some ⟨v, 0, none⟩)] := (hw8.far t (by have := h1.lt; omega)).trans T8; have e1 : w8.cell? ⟨t, 1, none⟩ = some (.pointer (some ⟨s, 0, none⟩)) := (T9).cell 1; have e2 : w8.cell? ⟨t, 2, none⟩ = some (.pointer (some ⟨v, 0, none⟩)) := (T9).cell 2)
      | fail)
    all_goals
      have b57 : Below w4.heap.size w4 w7 := (((Below.refl _ _).drew.trans hb5).trans (hb6.mono hs5)).trans (hb7.mono (Nat.le_trans hs5 hs6))
      have hL8 := lines_off (off_stored hw8) (lines_below TL.out b57) (Nat.lt_succ_self _)
      have hbz : Below w.heap.size w w8 := (hb0.trans (hbw4.mono (by omega))).trans ((b57.mono (by omega)).trans hw8.below)
      go_wp2_with fail
      refine bodyPost_ret (results_cell_row rfl _ _ _ _ _ (0, 0) _ rfl (hw8.blk) Tryz.underlying49 rfl (by kernel_rfl)) rfl ?_
      exact ⟨A4, c4, rfl, lines_mono hL8 (by omega), hbz⟩
end Go.Proofs.YtbnnnmohggladabGreatDoor
