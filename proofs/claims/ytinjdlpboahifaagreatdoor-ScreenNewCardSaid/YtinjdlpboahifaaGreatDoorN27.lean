/- A part of the proof of ScreenNew. -/
import Derived.Test.YtinjdlpboahifaaGreatDoorNF
import Derived.Deep.RegionHeld3
namespace Go.Proofs.YtinjdlpboahifaaGreatDoor
open Go.RowKit Go.Rep
set_option maxRecDepth 100000
theorem lines_none (w : World) : Lines w w.heap.size (.slice none 0 0) 0 1 := ⟨[], World.ownsRow_nil _ _ _ _, fun i h => absurd h (by omega)⟩
/-- What lies of a new screen. -/
structure ScrAt (w : World) (s n m h : Nat) (q r p g bb : Nat) (b v st : Value) : Prop where
  scr : Blk w s 67 (SC n m (.pointer (some ⟨p, 0, none⟩)) (.pointer (some ⟨q, 0, none⟩)) st true true ((n : Int) - 1))
  hist : Blk w q 109 #[.pointer (some ⟨r, 0, none⟩)]
  ring : Blk w r 161 (RING h)
  pair : Blk w p 133 #[.pointer (some ⟨g, 0, none⟩), b, .int .i64 0, .int .i64 0, .pointer none]
  grid : Blk w g 135 #[.int .i64 m, v]
  lines : Lines w bb v n m
theorem ScrAt.below {w w' : World} {s n m h q r p g bb : Nat} {b v st : Value} (H : ScrAt w s n m h q r p g bb b v st) (hb : Below w.heap.size w w') : ScrAt w' s n m h q r p g bb b v st :=
  ⟨H.scr.below hb H.scr.lt, H.hist.below hb H.hist.lt, H.ring.below hb H.ring.lt, H.pair.below hb H.pair.lt, H.grid.below hb H.grid.lt, lines_below H.lines hb⟩
/-- What lies of the reference's new screen. -/
structure RefAt (w : World) (s n m h : Nat) (p g bb : Nat) (b v st : Value) : Prop where
  scr : Blk w s 75 (SR n m h (.pointer (some ⟨p, 0, none⟩)) st true true ((n : Int) - 1))
  pair : Blk w p 173 #[.pointer (some ⟨g, 0, none⟩), b, .int .i64 0, .int .i64 0, .int .i64 0, .bool false, .int .i64 0, .int .u8 0, .int .u8 0, .int .u8 0, .int .u8 0, .int .i64 0, .int .u8 0, .int .u8 0, .int .u8 0, .int .u8 0, .int .u8 0, .bool false, .int .i64 0, .int .i64 0, .int .i64 0, .bool false]
  grid : Blk w g 121 #[.int .i64 m, v]
  lines : Lines w bb v n m
theorem RefAt.below {w w' : World} {s n m h p g bb : Nat} {b v st : Value} (H : RefAt w s n m h p g bb b v st) (hb : Below w.heap.size w w') : RefAt w' s n m h p g bb b v st :=
  ⟨H.scr.below hb H.scr.lt, H.pair.below hb H.pair.lt, H.grid.below hb H.grid.lt, lines_below H.lines hb⟩
set_option maxHeartbeats 8000000 in
theorem same_ok {n m h s q r p g bb sr hr pr gr br : Nat} {b v st b' v' st' : Value} {w : World} (H : ScrAt w s n m h q r p g bb b v st) (R : RefAt w sr n m hr pr gr br b' v' st') (n0 : 1 ≤ n) (hn : n ≤ 1000) (m0 : 1 ≤ m) (hm : m ≤ 1000) : Calls Tryz.prog 8 #[.pointer (some ⟨s, 0, none⟩), .pointer (some ⟨sr, 0, none⟩)] w fun e w' => e = .returned (.bool true) ∧ Below w.heap.size w w' := by
  have c1 := cur_same
  have c2 := modes_same
  have c3 := pen_same
  go_enter Tryz.func8, Tryz.ntmps8
  go_upto_region 2 with (go_at_call 21; refine (scr_history H.scr H.hist H.ring).mono ?_; rintro e w1 ⟨r2, q2, rfl, hr2, hq2, hQ2, hR2, hb1⟩; have H1 := H.below hb1; have R1 := R.below hb1; have hs1 := hb1.size)
  go_cut [45] (fun u wx => u = .bool false ∧ Below w1.heap.size w1 wx)
  case first =>
    have Ra := R1.scr.drew
    have ta_3 : w1.drew.cell? ⟨sr, 3, none⟩ = some (.slice none 0 0) := Ra.cell 3
    have ta_4 : w1.drew.cell? ⟨sr, 4, none⟩ = some (.int .i64 0) := Ra.cell 4
    have ta_6 : w1.drew.cell? ⟨sr, 6, none⟩ = some (.int .i64 0) := Ra.cell 6
    have ta_7 : w1.drew.cell? ⟨sr, 7, none⟩ = some (.int .i64 0) := Ra.cell 7
    have ta_8 : w1.drew.cell? ⟨sr, 8, none⟩ = some (.bool false) := Ra.cell 8
    go_region_held3 (fun w' => w'.cell? ⟨sr, 3, none⟩ = some (.slice none 0 0) ∧ w'.cell? ⟨sr, 4, none⟩ = some (.int .i64 0) ∧ w'.cell? ⟨sr, 6, none⟩ = some (.int .i64 0) ∧ w'.cell? ⟨sr, 7, none⟩ = some (.int .i64 0) ∧ w'.cell? ⟨sr, 8, none⟩ = some (.bool false)) (first | exact ⟨tg_3, tg_4, tg_6, tg_7, tg_8⟩ | exact ⟨tf_3, tf_4, tf_6, tf_7, tf_8⟩ | exact ⟨te_3, te_4, te_6, te_7, te_8⟩ | exact ⟨td_3, td_4, td_6, td_7, td_8⟩ | exact ⟨tc_3, tc_4, tc_6, tc_7, tc_8⟩ | exact ⟨tb_3, tb_4, tb_6, tb_7, tb_8⟩ | exact ⟨ta_3, ta_4, ta_6, ta_7, ta_8⟩) (first
      | (go_at_call 23; refine (all_none hQ2.drew hR2.drew).mono ?_; rintro e w2 ⟨rfl, hb2⟩; have Rb := Ra.below hb2 Ra.lt; have tb_3 : w2.cell? ⟨sr, 3, none⟩ = some (.slice none 0 0) := Rb.cell 3; have tb_4 : w2.cell? ⟨sr, 4, none⟩ = some (.int .i64 0) := Rb.cell 4; have tb_6 : w2.cell? ⟨sr, 6, none⟩ = some (.int .i64 0) := Rb.cell 6; have tb_7 : w2.cell? ⟨sr, 7, none⟩ = some (.int .i64 0) := Rb.cell 7; have tb_8 : w2.cell? ⟨sr, 8, none⟩ = some (.bool false) := Rb.cell 8; have bb2 : Below w1.heap.size w1 w2 := (Below.refl _ _).drew.trans hb2)
      | (go_at_call 22; have hh := hL5; refine (all_same hL4' hL5 hn m0 hm).mono ?_; rintro e w6 ⟨rfl, hb6⟩; have Rf := Re.below hb6 Re.lt; have tf_3 : w6.cell? ⟨sr, 3, none⟩ = some (.slice none 0 0) := Rf.cell 3; have tf_4 : w6.cell? ⟨sr, 4, none⟩ = some (.int .i64 0) := Rf.cell 4; have tf_6 : w6.cell? ⟨sr, 6, none⟩ = some (.int .i64 0) := Rf.cell 6; have tf_7 : w6.cell? ⟨sr, 7, none⟩ = some (.int .i64 0) := Rf.cell 7; have tf_8 : w6.cell? ⟨sr, 8, none⟩ = some (.bool false) := Rf.cell 8; have bb6 : Below w1.heap.size w1 w6 := bb5.trans (hb6.mono bb5.size))
      | (go_at_call 22; refine (all_same (lines_none _) (lines_none _) (by omega) (Nat.le_refl _) (by omega)).mono ?_; rintro e w3 ⟨rfl, hb3⟩; have Rc := Rb.below hb3 Rb.lt; have tc_3 : w3.cell? ⟨sr, 3, none⟩ = some (.slice none 0 0) := Rc.cell 3; have tc_4 : w3.cell? ⟨sr, 4, none⟩ = some (.int .i64 0) := Rc.cell 4; have tc_6 : w3.cell? ⟨sr, 6, none⟩ = some (.int .i64 0) := Rc.cell 6; have tc_7 : w3.cell? ⟨sr, 7, none⟩ = some (.int .i64 0) := Rc.cell 7; have tc_8 : w3.cell? ⟨sr, 8, none⟩ = some (.bool false) := Rc.cell 8; have bb3 : Below w1.heap.size w1 w3 := bb2.trans (hb3.mono bb2.size))
      | (go_at_call 24; refine (hfirst_ok (hQ2.below bb3 hQ2.lt) (hR2.below bb3 hR2.lt)).mono ?_; rintro e w0 ⟨rfl, rfl⟩)
      | (go_at_call 25; refine (scr_lines (H1.below bb3).scr (H1.below bb3).pair (H1.below bb3).grid (H1.below bb3).lines n0 hn m0 hm).mono ?_; rintro e w4 ⟨u4, rfl, hL4, hb4⟩; obtain ⟨A4, c4, rfl, -, -, -⟩ := own_slice hL4.choose_spec.1; have Rd := Rc.below hb4 Rc.lt; have td_3 : w4.cell? ⟨sr, 3, none⟩ = some (.slice none 0 0) := Rd.cell 3; have td_4 : w4.cell? ⟨sr, 4, none⟩ = some (.int .i64 0) := Rd.cell 4; have td_6 : w4.cell? ⟨sr, 6, none⟩ = some (.int .i64 0) := Rd.cell 6; have td_7 : w4.cell? ⟨sr, 7, none⟩ = some (.int .i64 0) := Rd.cell 7; have td_8 : w4.cell? ⟨sr, 8, none⟩ = some (.bool false) := Rd.cell 8; have bb4 : Below w1.heap.size w1 w4 := bb3.trans (hb4.mono bb3.size))
      | (go_at_call 26; refine (ref_lines (R1.below bb4).scr (R1.below bb4).pair (R1.below bb4).grid (R1.below bb4).lines hn m0 hm).mono ?_; rintro e w5 ⟨u5, rfl, hL5, hb5⟩; obtain ⟨A5, c5, rfl, -, -, -⟩ := own_slice hL5.choose_spec.1; have Re := Rd.below hb5 Rd.lt; have te_3 : w5.cell? ⟨sr, 3, none⟩ = some (.slice none 0 0) := Re.cell 3; have te_4 : w5.cell? ⟨sr, 4, none⟩ = some (.int .i64 0) := Re.cell 4; have te_6 : w5.cell? ⟨sr, 6, none⟩ = some (.int .i64 0) := Re.cell 6; have te_7 : w5.cell? ⟨sr, 7, none⟩ = some (.int .i64 0) := Re.cell 7; have te_8 : w5.cell? ⟨sr, 8, none⟩ = some (.bool false) := Re.cell 8; have bb5 : Below w1.heap.size w1 w5 := bb4.trans (hb5.mono bb4.size); have hL4' := lines_below hL4 hb5)
      | (go_at_call 27; refine (scr_cursor (H1.below bb6).scr).mono ?_; rintro e w7 ⟨rfl, hb7⟩; have Rg := Rf.below hb7 Rf.lt; have tg_3 : w7.cell? ⟨sr, 3, none⟩ = some (.slice none 0 0) := Rg.cell 3; have tg_4 : w7.cell? ⟨sr, 4, none⟩ = some (.int .i64 0) := Rg.cell 4; have tg_6 : w7.cell? ⟨sr, 6, none⟩ = some (.int .i64 0) := Rg.cell 6; have tg_7 : w7.cell? ⟨sr, 7, none⟩ = some (.int .i64 0) := Rg.cell 7; have tg_8 : w7.cell? ⟨sr, 8, none⟩ = some (.bool false) := Rg.cell 8; have bb7 : Below w1.heap.size w1 w7 := bb6.trans (hb7.mono bb6.size)))
    all_goals
      go_wp2_with fail
      go_meet
      exact ⟨rfl, bb7⟩
  case rest =>
    obtain ⟨rfl, hbx⟩ := hcut
    have Hc := H1.below hbx
    have Rc0 := R1.below hbx
    have hbwx := hb1.trans (hbx.mono hs1)
    clear H1 R1 hbx H R
    go_upto_region 4 with fail
    have Ra := Rc0.scr.drew
    have ta_20 : wc.drew.cell? ⟨sr, 20, none⟩ = some (.bool true) := Ra.cell 20
    have ta_21 : wc.drew.cell? ⟨sr, 21, none⟩ = some (.bool false) := Ra.cell 21
    have ta_22 : wc.drew.cell? ⟨sr, 22, none⟩ = some (.bool false) := Ra.cell 22
    have ta_23 : wc.drew.cell? ⟨sr, 23, none⟩ = some (.bool true) := Ra.cell 23
    have ta_24 : wc.drew.cell? ⟨sr, 24, none⟩ = some (.bool false) := Ra.cell 24
    have ta_25 : wc.drew.cell? ⟨sr, 25, none⟩ = some (.bool false) := Ra.cell 25
    have ta_26 : wc.drew.cell? ⟨sr, 26, none⟩ = some (.bool false) := Ra.cell 26
    have ta_27 : wc.drew.cell? ⟨sr, 27, none⟩ = some (.int .i64 0) := Ra.cell 27
    have ta_28 : wc.drew.cell? ⟨sr, 28, none⟩ = some (.int .i64 0) := Ra.cell 28
    have ta_9 : wc.drew.cell? ⟨sr, 9, none⟩ = some (.int .i64 0) := Ra.cell 9
    have ta_10 : wc.drew.cell? ⟨sr, 10, none⟩ = some (.int .u8 0) := Ra.cell 10
    have ta_11 : wc.drew.cell? ⟨sr, 11, none⟩ = some (.int .u8 0) := Ra.cell 11
    have ta_12 : wc.drew.cell? ⟨sr, 12, none⟩ = some (.int .u8 0) := Ra.cell 12
    have ta_13 : wc.drew.cell? ⟨sr, 13, none⟩ = some (.int .u8 0) := Ra.cell 13
    have ta_14 : wc.drew.cell? ⟨sr, 14, none⟩ = some (.int .i64 0) := Ra.cell 14
    have ta_15 : wc.drew.cell? ⟨sr, 15, none⟩ = some (.int .u8 0) := Ra.cell 15
    have ta_16 : wc.drew.cell? ⟨sr, 16, none⟩ = some (.int .u8 0) := Ra.cell 16
    have ta_17 : wc.drew.cell? ⟨sr, 17, none⟩ = some (.int .u8 0) := Ra.cell 17
    have ta_18 : wc.drew.cell? ⟨sr, 18, none⟩ = some (.int .u8 0) := Ra.cell 18
    have ta_19 : wc.drew.cell? ⟨sr, 19, none⟩ = some (.int .u8 0) := Ra.cell 19
    have ta_71 : wc.drew.cell? ⟨sr, 71, none⟩ = some (.string .empty) := Ra.cell 71
    have ta_72 : wc.drew.cell? ⟨sr, 72, none⟩ = some (.string .empty) := Ra.cell 72
    have ta_29 : wc.drew.cell? ⟨sr, 29, none⟩ = some (.int .i64 0) := Ra.cell 29
    have ta_30 : wc.drew.cell? ⟨sr, 30, none⟩ = some (.int .i64 ((n : Int) - 1)) := Ra.cell 30
    have ta_0 : wc.drew.cell? ⟨sr, 0, none⟩ = some (.int .i64 n) := Ra.cell 0
    have ta_1 : wc.drew.cell? ⟨sr, 1, none⟩ = some (.int .i64 m) := Ra.cell 1
    go_region_held3 (fun w' => w'.cell? ⟨sr, 20, none⟩ = some (.bool true) ∧ w'.cell? ⟨sr, 21, none⟩ = some (.bool false) ∧ w'.cell? ⟨sr, 22, none⟩ = some (.bool false) ∧ w'.cell? ⟨sr, 23, none⟩ = some (.bool true) ∧ w'.cell? ⟨sr, 24, none⟩ = some (.bool false) ∧ w'.cell? ⟨sr, 25, none⟩ = some (.bool false) ∧ w'.cell? ⟨sr, 26, none⟩ = some (.bool false) ∧ w'.cell? ⟨sr, 27, none⟩ = some (.int .i64 0) ∧ w'.cell? ⟨sr, 28, none⟩ = some (.int .i64 0) ∧ w'.cell? ⟨sr, 9, none⟩ = some (.int .i64 0) ∧ w'.cell? ⟨sr, 10, none⟩ = some (.int .u8 0) ∧ w'.cell? ⟨sr, 11, none⟩ = some (.int .u8 0) ∧ w'.cell? ⟨sr, 12, none⟩ = some (.int .u8 0) ∧ w'.cell? ⟨sr, 13, none⟩ = some (.int .u8 0) ∧ w'.cell? ⟨sr, 14, none⟩ = some (.int .i64 0) ∧ w'.cell? ⟨sr, 15, none⟩ = some (.int .u8 0) ∧ w'.cell? ⟨sr, 16, none⟩ = some (.int .u8 0) ∧ w'.cell? ⟨sr, 17, none⟩ = some (.int .u8 0) ∧ w'.cell? ⟨sr, 18, none⟩ = some (.int .u8 0) ∧ w'.cell? ⟨sr, 19, none⟩ = some (.int .u8 0) ∧ w'.cell? ⟨sr, 71, none⟩ = some (.string .empty) ∧ w'.cell? ⟨sr, 72, none⟩ = some (.string .empty) ∧ w'.cell? ⟨sr, 29, none⟩ = some (.int .i64 0) ∧ w'.cell? ⟨sr, 30, none⟩ = some (.int .i64 ((n : Int) - 1)) ∧ w'.cell? ⟨sr, 0, none⟩ = some (.int .i64 n) ∧ w'.cell? ⟨sr, 1, none⟩ = some (.int .i64 m)) (first | exact ⟨td_20, td_21, td_22, td_23, td_24, td_25, td_26, td_27, td_28, td_9, td_10, td_11, td_12, td_13, td_14, td_15, td_16, td_17, td_18, td_19, td_71, td_72, td_29, td_30, td_0, td_1⟩ | exact ⟨tc_20, tc_21, tc_22, tc_23, tc_24, tc_25, tc_26, tc_27, tc_28, tc_9, tc_10, tc_11, tc_12, tc_13, tc_14, tc_15, tc_16, tc_17, tc_18, tc_19, tc_71, tc_72, tc_29, tc_30, tc_0, tc_1⟩ | exact ⟨tb_20, tb_21, tb_22, tb_23, tb_24, tb_25, tb_26, tb_27, tb_28, tb_9, tb_10, tb_11, tb_12, tb_13, tb_14, tb_15, tb_16, tb_17, tb_18, tb_19, tb_71, tb_72, tb_29, tb_30, tb_0, tb_1⟩ | exact ⟨ta_20, ta_21, ta_22, ta_23, ta_24, ta_25, ta_26, ta_27, ta_28, ta_9, ta_10, ta_11, ta_12, ta_13, ta_14, ta_15, ta_16, ta_17, ta_18, ta_19, ta_71, ta_72, ta_29, ta_30, ta_0, ta_1⟩) (first
      | (go_at_call 28; refine (scr_modes Hc.scr.drew).mono ?_; rintro e w2 ⟨rfl, hb2⟩; have Rb := Ra.below hb2 Ra.lt; have tb_20 : w2.cell? ⟨sr, 20, none⟩ = some (.bool true) := Rb.cell 20; have tb_21 : w2.cell? ⟨sr, 21, none⟩ = some (.bool false) := Rb.cell 21; have tb_22 : w2.cell? ⟨sr, 22, none⟩ = some (.bool false) := Rb.cell 22; have tb_23 : w2.cell? ⟨sr, 23, none⟩ = some (.bool true) := Rb.cell 23; have tb_24 : w2.cell? ⟨sr, 24, none⟩ = some (.bool false) := Rb.cell 24; have tb_25 : w2.cell? ⟨sr, 25, none⟩ = some (.bool false) := Rb.cell 25; have tb_26 : w2.cell? ⟨sr, 26, none⟩ = some (.bool false) := Rb.cell 26; have tb_27 : w2.cell? ⟨sr, 27, none⟩ = some (.int .i64 0) := Rb.cell 27; have tb_28 : w2.cell? ⟨sr, 28, none⟩ = some (.int .i64 0) := Rb.cell 28; have tb_9 : w2.cell? ⟨sr, 9, none⟩ = some (.int .i64 0) := Rb.cell 9; have tb_10 : w2.cell? ⟨sr, 10, none⟩ = some (.int .u8 0) := Rb.cell 10; have tb_11 : w2.cell? ⟨sr, 11, none⟩ = some (.int .u8 0) := Rb.cell 11; have tb_12 : w2.cell? ⟨sr, 12, none⟩ = some (.int .u8 0) := Rb.cell 12; have tb_13 : w2.cell? ⟨sr, 13, none⟩ = some (.int .u8 0) := Rb.cell 13; have tb_14 : w2.cell? ⟨sr, 14, none⟩ = some (.int .i64 0) := Rb.cell 14; have tb_15 : w2.cell? ⟨sr, 15, none⟩ = some (.int .u8 0) := Rb.cell 15; have tb_16 : w2.cell? ⟨sr, 16, none⟩ = some (.int .u8 0) := Rb.cell 16; have tb_17 : w2.cell? ⟨sr, 17, none⟩ = some (.int .u8 0) := Rb.cell 17; have tb_18 : w2.cell? ⟨sr, 18, none⟩ = some (.int .u8 0) := Rb.cell 18; have tb_19 : w2.cell? ⟨sr, 19, none⟩ = some (.int .u8 0) := Rb.cell 19; have tb_71 : w2.cell? ⟨sr, 71, none⟩ = some (.string .empty) := Rb.cell 71; have tb_72 : w2.cell? ⟨sr, 72, none⟩ = some (.string .empty) := Rb.cell 72; have tb_29 : w2.cell? ⟨sr, 29, none⟩ = some (.int .i64 0) := Rb.cell 29; have tb_30 : w2.cell? ⟨sr, 30, none⟩ = some (.int .i64 ((n : Int) - 1)) := Rb.cell 30; have tb_0 : w2.cell? ⟨sr, 0, none⟩ = some (.int .i64 n) := Rb.cell 0; have tb_1 : w2.cell? ⟨sr, 1, none⟩ = some (.int .i64 m) := Rb.cell 1; have bb2 : Below wc.heap.size wc w2 := (Below.refl _ _).drew.trans hb2)
      | (go_at_call 29; refine (scr_pen (Hc.below bb2).scr).mono ?_; rintro e w3 ⟨rfl, hb3⟩; have Rc := Rb.below hb3 Rb.lt; have tc_20 : w3.cell? ⟨sr, 20, none⟩ = some (.bool true) := Rc.cell 20; have tc_21 : w3.cell? ⟨sr, 21, none⟩ = some (.bool false) := Rc.cell 21; have tc_22 : w3.cell? ⟨sr, 22, none⟩ = some (.bool false) := Rc.cell 22; have tc_23 : w3.cell? ⟨sr, 23, none⟩ = some (.bool true) := Rc.cell 23; have tc_24 : w3.cell? ⟨sr, 24, none⟩ = some (.bool false) := Rc.cell 24; have tc_25 : w3.cell? ⟨sr, 25, none⟩ = some (.bool false) := Rc.cell 25; have tc_26 : w3.cell? ⟨sr, 26, none⟩ = some (.bool false) := Rc.cell 26; have tc_27 : w3.cell? ⟨sr, 27, none⟩ = some (.int .i64 0) := Rc.cell 27; have tc_28 : w3.cell? ⟨sr, 28, none⟩ = some (.int .i64 0) := Rc.cell 28; have tc_9 : w3.cell? ⟨sr, 9, none⟩ = some (.int .i64 0) := Rc.cell 9; have tc_10 : w3.cell? ⟨sr, 10, none⟩ = some (.int .u8 0) := Rc.cell 10; have tc_11 : w3.cell? ⟨sr, 11, none⟩ = some (.int .u8 0) := Rc.cell 11; have tc_12 : w3.cell? ⟨sr, 12, none⟩ = some (.int .u8 0) := Rc.cell 12; have tc_13 : w3.cell? ⟨sr, 13, none⟩ = some (.int .u8 0) := Rc.cell 13; have tc_14 : w3.cell? ⟨sr, 14, none⟩ = some (.int .i64 0) := Rc.cell 14; have tc_15 : w3.cell? ⟨sr, 15, none⟩ = some (.int .u8 0) := Rc.cell 15; have tc_16 : w3.cell? ⟨sr, 16, none⟩ = some (.int .u8 0) := Rc.cell 16; have tc_17 : w3.cell? ⟨sr, 17, none⟩ = some (.int .u8 0) := Rc.cell 17; have tc_18 : w3.cell? ⟨sr, 18, none⟩ = some (.int .u8 0) := Rc.cell 18; have tc_19 : w3.cell? ⟨sr, 19, none⟩ = some (.int .u8 0) := Rc.cell 19; have tc_71 : w3.cell? ⟨sr, 71, none⟩ = some (.string .empty) := Rc.cell 71; have tc_72 : w3.cell? ⟨sr, 72, none⟩ = some (.string .empty) := Rc.cell 72; have tc_29 : w3.cell? ⟨sr, 29, none⟩ = some (.int .i64 0) := Rc.cell 29; have tc_30 : w3.cell? ⟨sr, 30, none⟩ = some (.int .i64 ((n : Int) - 1)) := Rc.cell 30; have tc_0 : w3.cell? ⟨sr, 0, none⟩ = some (.int .i64 n) := Rc.cell 0; have tc_1 : w3.cell? ⟨sr, 1, none⟩ = some (.int .i64 m) := Rc.cell 1; have bb3 : Below wc.heap.size wc w3 := bb2.trans (hb3.mono bb2.size))
      | (go_at_call 30; refine (scr_title (Hc.below bb3).scr).mono ?_; rintro e w0 ⟨rfl, rfl⟩)
      | (go_at_call 31; refine (scr_link (Hc.below bb3).scr).mono ?_; rintro e w0 ⟨rfl, rfl⟩)
      | (go_at_call 32; refine (scr_region (Hc.below bb3).scr).mono ?_; rintro e w4 ⟨rfl, hb4⟩; have Rd := Rc.below hb4 Rc.lt; have td_20 : w4.cell? ⟨sr, 20, none⟩ = some (.bool true) := Rd.cell 20; have td_21 : w4.cell? ⟨sr, 21, none⟩ = some (.bool false) := Rd.cell 21; have td_22 : w4.cell? ⟨sr, 22, none⟩ = some (.bool false) := Rd.cell 22; have td_23 : w4.cell? ⟨sr, 23, none⟩ = some (.bool true) := Rd.cell 23; have td_24 : w4.cell? ⟨sr, 24, none⟩ = some (.bool false) := Rd.cell 24; have td_25 : w4.cell? ⟨sr, 25, none⟩ = some (.bool false) := Rd.cell 25; have td_26 : w4.cell? ⟨sr, 26, none⟩ = some (.bool false) := Rd.cell 26; have td_27 : w4.cell? ⟨sr, 27, none⟩ = some (.int .i64 0) := Rd.cell 27; have td_28 : w4.cell? ⟨sr, 28, none⟩ = some (.int .i64 0) := Rd.cell 28; have td_9 : w4.cell? ⟨sr, 9, none⟩ = some (.int .i64 0) := Rd.cell 9; have td_10 : w4.cell? ⟨sr, 10, none⟩ = some (.int .u8 0) := Rd.cell 10; have td_11 : w4.cell? ⟨sr, 11, none⟩ = some (.int .u8 0) := Rd.cell 11; have td_12 : w4.cell? ⟨sr, 12, none⟩ = some (.int .u8 0) := Rd.cell 12; have td_13 : w4.cell? ⟨sr, 13, none⟩ = some (.int .u8 0) := Rd.cell 13; have td_14 : w4.cell? ⟨sr, 14, none⟩ = some (.int .i64 0) := Rd.cell 14; have td_15 : w4.cell? ⟨sr, 15, none⟩ = some (.int .u8 0) := Rd.cell 15; have td_16 : w4.cell? ⟨sr, 16, none⟩ = some (.int .u8 0) := Rd.cell 16; have td_17 : w4.cell? ⟨sr, 17, none⟩ = some (.int .u8 0) := Rd.cell 17; have td_18 : w4.cell? ⟨sr, 18, none⟩ = some (.int .u8 0) := Rd.cell 18; have td_19 : w4.cell? ⟨sr, 19, none⟩ = some (.int .u8 0) := Rd.cell 19; have td_71 : w4.cell? ⟨sr, 71, none⟩ = some (.string .empty) := Rd.cell 71; have td_72 : w4.cell? ⟨sr, 72, none⟩ = some (.string .empty) := Rd.cell 72; have td_29 : w4.cell? ⟨sr, 29, none⟩ = some (.int .i64 0) := Rd.cell 29; have td_30 : w4.cell? ⟨sr, 30, none⟩ = some (.int .i64 ((n : Int) - 1)) := Rd.cell 30; have td_0 : w4.cell? ⟨sr, 0, none⟩ = some (.int .i64 n) := Rd.cell 0; have td_1 : w4.cell? ⟨sr, 1, none⟩ = some (.int .i64 m) := Rd.cell 1; have bb4 : Below wc.heap.size wc w4 := bb3.trans (hb4.mono bb3.size))
      | (go_at_call 33; refine (scr_rows (Hc.below bb4).scr).mono ?_; rintro e w0 ⟨rfl, rfl⟩)
      | (go_at_call 34; refine (scr_cols (Hc.below bb4).scr).mono ?_; rintro e w0 ⟨rfl, rfl⟩))
    all_goals
      go_wp2_with fail
      go_ret
      exact ⟨rfl, hbwx.trans (bb4.mono (by have := hbwx.size; omega))⟩
end Go.Proofs.YtinjdlpboahifaaGreatDoor
