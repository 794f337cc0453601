/- A part of the proof of RecordMany. -/
import Derived.Test.YtemodjeooieehaaGreatDoorM0
namespace Go.Proofs.YtemodjeooieehaaGreatDoor
open Go.RowKit Go.Rep
set_option maxRecDepth 100000
abbrev s2 : ByteArray := ⟨#[97, 98]⟩
set_option maxHeartbeats 8000000 in
theorem many_walk2 (m : Nat) (h1 : 1998 ≤ m) (h2 : m ≤ 2002) (W : World) (hw : Laid W) : Calls Tryz.prog 3 #[.int .i64 m, .int .i64 2] W (Yes W.heap.size W) := by
  obtain ⟨i0, hi, hz0, hz1, hz2⟩ := info_parts ev_info
  have hG : Tryz.prog.globals.size ≤ W.heap.size := hw.size
  go_enter Tryz.func3, Tryz.ntmps3
  go_wp2
  go_loopw [7] (fun i wr => ∃ (k : Nat) (v : Value), k ≤ m ∧ i = .int .i64 k ∧ Blk wr W.heap.size 27 #[.int .i64 1, .int .i64 1, .int .i64 0, v] ∧ wr.ownsRow (W.heap.size + 1) 32 6 v k (evCells (List.replicate k (ev7 s2))) ∧ Below W.heap.size W wr) (fun i _ => m - (intOf i).toNat)
  case atStart => exact ⟨0, .slice none 0 0, Nat.zero_le _, rfl, Blk.new W 27 _, World.ownsRow_nil _ _ _ _, (Below.refl _ _).alloc (Nat.le_refl _) _⟩
  case round =>
    obtain ⟨k, v, hk, rfl, bX, hown, hbr⟩ := hrel
    have hsz := hbr.size
    have hXlt := bX.lt
    have hneX := own_blk_ne hown bX (by decide)
    have x3 : wr.cell? ⟨W.heap.size, 3, none⟩ = some v := bX.cell 3
    by_cases hlt : k < m
    · go_upto_block 1 with fail
      go_cut [] (fun wx => ∃ v' : Value, Blk wx W.heap.size 27 #[.int .i64 1, .int .i64 1, .int .i64 0, v'] ∧ wx.ownsRow (W.heap.size + 1) 32 6 v' (k + 1) (evCells (List.replicate (k + 1) (ev7 s2))) ∧ Below W.heap.size W wx)
      case first =>
        go_wp2_with fail
        go_region_law (first
          | (go_simp; go_at_call 5; refine (write_any s2 _).mono ?_; rintro e w2 ⟨rfl, hb2⟩; have bX2 := (bX.drew).below hb2 hXlt; have x32 : w2.cell? ⟨W.heap.size, 3, none⟩ = some v := bX2.cell 3; have x32a : (w2.alloc (.cells #[.int .i64 7, .int .i64 1, .string s2, .int .i64 0, .int .i64 0, .int .i64 0] 32)).cell? ⟨W.heap.size, 3, none⟩ = some v := (bX2.alloc _).cell 3; have hs2 : wr.heap.size ≤ w2.heap.size := hb2.size; have own2 := own_grown (World.ownsRow.drew hown) (below_grown hb2); have hbw2 : Below W.heap.size W w2 := hbr.drew.trans (hb2.mono hsz))
          | (refine step_append_lies _ (by rfl) _ _ _ (by rfl) (W.heap.size + 1) 32 i0 (.agg zero6) 6 56 Tryz.underlying25 hi hz0 hz1 hz2 rfl (by decide) v k (evCells (List.replicate k (ev7 s2))) (by rfl) (own2.alloc _) ⟨w2.heap.size, 0, none⟩ 1 1 (ev7 s2).cells (by rfl) (by rfl) (ev_new w2 (ev7 s2) _) (ev_cell _) (by omega) (by unfold maxLen; omega) (by omega) (by simp; omega) (w2.heap.size + 1) (by simp) ?_; intro gg cap w3 hown3 hg3 _ _; have bX3 := (bX2.alloc (.cells #[.int .i64 7, .int .i64 1, .string s2, .int .i64 0, .int .i64 0, .int .i64 0] 32)).grown hg3 (fun q => hneX q.symm); have x33 : w3.cell? ⟨W.heap.size, 3, none⟩ = some v := bX3.cell 3; have f33 := bX3.frozen 3))
        all_goals
          go_wp2_with fail
          go_meet
          refine ⟨.slice (some ⟨gg, 0, none⟩) (k + 1) cap, bX3.set_ 3 _, ?_, (((hbw2.alloc (by omega) _).grown hg3 (by simp; omega) (fun j q => by have := own_base hown q; omega)).setCell (p := ⟨W.heap.size, 3, none⟩) (Nat.le_refl _) _)⟩
          have h9 := own_far (X := W.heap.size) (i := 3) (u := .slice (some ⟨gg, 0, none⟩) (k + 1) cap) hown3 (by omega)
          rw [rep_snoc] at h9
          exact h9
      case rest =>
        obtain ⟨v', bX', hown', hbr'⟩ := hcut
        go_wp2
        go_roundw
        case rel => exact ⟨k + 1, v', by omega, by go_num, bX', hown', hbr'⟩
        case measure => simp [intOf]; omega
    · obtain rfl : k = m := by omega
      obtain ⟨A, c1, rfl, hlc, hcm, hx⟩ := own_slice hown
      have hT := tab_up hG hbr hw
      have x0 : wr.cell? ⟨W.heap.size, 0, none⟩ = some (.int .i64 1) := bX.cell 0
      have x1 : wr.cell? ⟨W.heap.size, 1, none⟩ = some (.int .i64 1) := bX.cell 1
      have x2 : wr.cell? ⟨W.heap.size, 2, none⟩ = some (.int .i64 0) := bX.cell 2
      by_cases h2000 : k ≤ 2000
      · have hv : validB 1 1 0 (List.replicate k (ev7 s2)) = true := (validB_yes (by simp) ⟨rfl, by decide, by decide, h2000⟩).trans (evs_rep (by decide) (by decide) k 0 (by decide))
        have HV := Lib.hid hv
        clear hv
        obtain ⟨L, hL⟩ : ∃ L, joinTo (List.replicate k (ev7 s2)) k = L := ⟨_, rfl⟩
        have hM := join_many (s := s2) (size := 2) (each := 2048) rfl (by decide) (by decide) (by decide) (show 0 < k by omega) hL
        obtain ⟨n, hn⟩ : ∃ n, n = L.length := ⟨_, rfl⟩
        rw [← hn] at hM
        obtain ⟨hM1, hM2, hM3⟩ := hM
        have HM := Lib.hid hM3
        have HN := Lib.hid hn
        have HL := Lib.hid hL
        clear hM3 hn hL
        go_wp2_with (go_at_call 9; refine (join_yes hx (Nat.le_refl _) hcm hlc h2000 HV.out).mono ?_; rintro e w2 ⟨v2, rfl, hown2, hb2⟩; rw [List.length_replicate, HL.out, ← HN.out] at hown2; obtain ⟨A2, c2, rfl, hlc2, hcm2, hx2⟩ := own_slice hown2; have bY := Blk.new w2 27 #[.int .i64 1, .int .i64 1, .int .i64 0, .slice A2 n c2]; have y3 : (w2.alloc (.cells #[.int .i64 1, .int .i64 1, .int .i64 0, .slice A2 n c2] 27)).cell? ⟨w2.heap.size, 3, none⟩ = some (.slice A2 n c2) := bY.cell 3)
        go_quiet (fail)
        go_wp2
        have hx2' := (hx2.alloc (Nat.le_refl _) (.cells #[.int .i64 1, .int .i64 1, .int .i64 0, .slice A2 n c2] 27)).drewN nq
        have hb12 : Below W.heap.size W ((w2.alloc (.cells #[.int .i64 1, .int .i64 1, .int .i64 0, .slice A2 n c2] 27)).drewN nq) := below_drewN ((hbr.trans (hb2.mono hsz)).alloc (by have := hb2.size; omega) _) nq
        have hT2 := tab_up hG hb12 hw
        have hy3 : ((w2.alloc (.cells #[.int .i64 1, .int .i64 1, .int .i64 0, .slice A2 n c2] 27)).drewN nq).cell? ⟨w2.heap.size, 3, none⟩ = some (.slice A2 n c2) := y3
        clear x0 x1 x2 x3 hT hbr hown bX hneX hx hb2 hlt y3
        generalize hwq : (w2.alloc (.cells #[.int .i64 1, .int .i64 1, .int .i64 0, .slice A2 n c2] 27)).drewN nq = wq at hx2' hb12 hT2 hy3 ⊢
        clear hwq
        go_loop [11, 12] (fun sm i => ∃ (j S : Nat), j ≤ n ∧ i = .int .i64 j ∧ sm = .int .i64 S ∧ (j < n → S = j * 4096) ∧ (j = n → S = k * 2)) (fun _ i => n - (intOf i).toNat)
        case atStart => exact ⟨0, 0, Nat.zero_le _, rfl, rfl, fun _ => by simp, fun h => by omega⟩
        case round =>
          obtain ⟨j, S, hj, rfl, rfl, hS1, hS2⟩ := hrel
          by_cases hlt : j < n
          · obtain ⟨ad, e, rfl, he, z0, z1, z2, z3, z4, z5⟩ := hx2'.ev hlt
            have hE := HM.out j e he
            have hSj := hS1 hlt
            have a1 : S ≤ j * 4096 := by omega
            have a2 : j * 4096 ≤ S := by omega
            clear he z0 z1 z3 z4 z5 hS1 hS2 hSj
            by_cases hlast : j + 1 < n
            · have hs := hE.1 hlast
              have a3 : e.o.s.size ≤ 4096 := by omega
              have a4 : 4096 ≤ e.o.s.size := by omega
              clear hE hs
              exact absurd hlast (by omega)
            · have hs := hE.2 (by omega)
              have a3 : e.o.s.size ≤ (k - j * 2048) * 2 := by omega
              have a4 : (k - j * 2048) * 2 ≤ e.o.s.size := by omega
              clear hE hs
              go_wp2
              go_round
              case rel =>
                refine ⟨u4, _, _, ⟨j + 1, by omega, ?_, S + e.o.s.size, ?_, fun _ => by omega, fun _ => by omega⟩, rfl, rfl, rfl⟩
                · go_num
                · go_num
              case measure => simp [intOf]; omega
          · obtain rfl : j = n := by omega
            have hSn := hS2 rfl
            have a1 : S ≤ k * 2 := by omega
            have a2 : k * 2 ≤ S := by omega
            clear hS1 hS2 hSn
            go_wp2_with (go_at_call 4; refine (any_Known _ hT2).mono ?_; rintro e w5 ⟨rfl, hb5⟩)
            go_ret
            exact ⟨rfl, hb12.trans (hb5.mono hb12.size)⟩
      · have hv : validB 1 1 0 (List.replicate k (ev7 s2)) = false := validB_no (m := k) (by simp) (fun h => h2000 h.2.2.2)
        have HV := Lib.hid hv
        clear hv
        go_wp2_with (first
          | (go_at_call 6; refine (valid_any hx (Nat.le_refl _) hcm hlc).mono ?_; rintro e w2 ⟨rfl, hb2⟩; rw [HV.out]; have bX2 := bX.below hb2 hXlt; have hx2 := hx.below hb2; have s2 := hb2.size; have u0 : w2.cell? ⟨W.heap.size, 0, none⟩ = some (.int .i64 1) := bX2.cell 0; have u1 : w2.cell? ⟨W.heap.size, 1, none⟩ = some (.int .i64 1) := bX2.cell 1; have u2 : w2.cell? ⟨W.heap.size, 2, none⟩ = some (.int .i64 0) := bX2.cell 2; have u3 : w2.cell? ⟨W.heap.size, 3, none⟩ = some (.slice A k c1) := bX2.cell 3)
          | (go_at_call 7; refine (texts_no hx2 hb2.size hcm hlc HV.out).mono ?_; rintro e w3 ⟨rfl, hb3⟩; have hb3' := hb3.mono s2; have bX3 := bX2.below hb3' hXlt; have hx3 := hx2.below hb3'; have s3 := hb3.size; have p0 : w3.cell? ⟨W.heap.size, 0, none⟩ = some (.int .i64 1) := bX3.cell 0; have p1 : w3.cell? ⟨W.heap.size, 1, none⟩ = some (.int .i64 1) := bX3.cell 1; have p2 : w3.cell? ⟨W.heap.size, 2, none⟩ = some (.int .i64 0) := bX3.cell 2; have p3 : w3.cell? ⟨W.heap.size, 3, none⟩ = some (.slice A k c1) := bX3.cell 3; have hb13 := hb2.trans hb3'; have hT3 := tab_up (Nat.le_trans hG hsz) hb13 hT)
          | (go_at_call 8; refine (joins_no hT3 hx3 hb13.size hcm hlc HV.out).mono ?_; rintro e w4 ⟨rfl, hb4⟩; have hb14 := hb13.trans (hb4.mono hb13.size); have hT4 := tab_up (Nat.le_trans hG hsz) hb14 hT)
          | (go_at_call 4; refine (any_Known _ hT4).mono ?_; rintro e w5 ⟨rfl, hb5⟩; have hb15 := hb14.trans (hb5.mono hb14.size)))
        go_ret
        exact ⟨rfl, hbr.trans (hb15.mono hsz)⟩
end Go.Proofs.YtemodjeooieehaaGreatDoor
