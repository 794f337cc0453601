/- A part of the proof of TermNew. -/
import Derived.Test.YtbnnnmohggladabGreatDoorNF
import Derived.Deep.RegionHeld3
namespace Go.Proofs.YtbnnnmohggladabGreatDoor
open Go.RowKit Go.Rep
set_option maxRecDepth 100000
set_option maxHeartbeats 4000000 in
theorem vlines_ok {n m v r q h b c : Nat} {A : Option Addr} {w : World} (hV : Blk w v 121 #[.int .i64 n, .int .i64 0]) (hQ : Blk w q 144 #[.pointer (some ⟨r, 0, none⟩)]) (hR : Blk w r 208 (RING h)) (hL : Lines w b (.slice A n c) n m) (n0 : 1 ≤ n) (hn : n ≤ 1000) (m0 : 1 ≤ m) (hm : m ≤ 1000) : Calls Tryz.prog 31 #[.pointer (some ⟨v, 0, none⟩), .pointer (some ⟨q, 0, none⟩), .slice A n c] w fun e w' => ∃ u, e = .returned (.tuple #[u, .int .i64 0, .int .i64 0]) ∧ Lines w' w.heap.size u n m ∧ Below w.heap.size w w' := by
  have HL := Lib.hid hL
  clear hL
  go_enter Tryz.func31, Tryz.ntmps31
  go_upto_region 5 with (first
    | (go_at_call 58; refine (vzero_no n0 hV).mono ?_; rintro e w1 ⟨rfl, rfl⟩)
    | (go_at_call 59; refine (nothing_no hQ hR).mono ?_; rintro e w1 ⟨rfl, hb1⟩; have hV1 := hV.below hb1 hV.lt; have hQ1 := hQ.below hb1 hQ.lt; have hR1 := hR.below hb1 hR.lt; have x0 : w1.cell? ⟨v, 0, none⟩ = some (.int .i64 n) := hV1.cell 0; have x1 : w1.cell? ⟨v, 1, none⟩ = some (.int .i64 0) := hV1.cell 1; have x1d : w1.drew.cell? ⟨v, 1, none⟩ = some (.int .i64 0) := hV1.cell 1))
  go_region_law (go_simp; first
    | (go_at_call 35; refine (hlen_ok hQ1.drew hR1.drew).mono ?_; rintro e w2 ⟨rfl, rfl⟩)
    | (go_at_call 60; refine (clamped_none _).mono ?_; rintro e w2 ⟨rfl, hb2⟩))
  all_goals
    have hs1 := hb1.size
    have hbw2 : Below w.heap.size w w2 := hb1.trans (((Below.refl _ _).drew.trans hb2).mono hs1)
    have hbz : Below w1.heap.size w1 w2 := (Below.refl _ _).drew.trans hb2
    have hV2 := hV1.below hbz hV1.lt
    have hQ2 := hQ1.below hbz hQ1.lt
    have hR2 := hR1.below hbz hR1.lt
    have y0 : w2.cell? ⟨v, 0, none⟩ = some (.int .i64 n) := hV2.cell 0
    have hL2 := Lib.hid (lines_below HL.out hbw2)
    clear hb1 hb2 hV1 hQ1 hR1 x0 x1 x1d hbz
    go_wp2_with (go_at_call 61; refine (last_zero hQ2).mono ?_; rintro e w3 ⟨rfl, rfl⟩)
    obtain ⟨A', c', e', hnc, -, -⟩ := own_slice hL2.out.choose_spec.1
    injection e' with e1 e2 e3
    subst e1
    subst e3
    have g1 : ¬ (c : Int) < (n : Int) := by omega
    have g2 : ¬ c < n := by omega
    have g3 : ¬ c = 0 := by omega
    have hF : Option.map (fun x : Addr => x.add (0 * 2)) A = A := by cases A <;> simp [addr_add0]
    refine wp_loop_rounds 1 ?_
    rw [rounds_succ]
    go_wp2_with fail
    clear hV2 hQ2 hR2 y0
    obtain ⟨j0, hj, hj0, hj1, hj2⟩ := info_parts line_info
    go_loopw [10, 68] (fun u i wr => ∃ (k : Nat), k ≤ n ∧ i = .int .i64 k ∧ Lines wr w.heap.size u k m ∧ Below w.heap.size w wr) (fun _ i _ => n - (intOf i).toNat)
    case atStart => exact ⟨0, Nat.zero_le _, rfl, ⟨[], World.ownsRow_nil _ _ _ _, fun i h => by omega⟩, hbw2⟩
    case round =>
      obtain ⟨k, hk, rfl, ⟨vs, hown, hx⟩, hbr⟩ := hrel
      have hHX := Lib.hid hx
      clear hx
      have hsr := hbr.size
      by_cases hlt : k < n
      · have hlt' : (k : Int) < (n : Int) := by omega
        obtain ⟨ad, ak, ck, rfl, hyc, hrk⟩ := line_at (lines_below HL.out hbr) hlt m0
        go_upto_block 4 with fail
        go_cut [10] (fun u' wx => Lines wx w.heap.size u' (k + 1) m ∧ Below w.heap.size w wx)
        case first =>
          go_wp2_with (first
            | (refine wpList_load_any 104 (.tmp 70) rfl (by rfl) (ad.add (k * 2)) rfl #[.slice (some ak) m ck, .bool false] _ hyc.out Tryz.underlying104 rfl (by kernel_rfl) ?_)
            | ((with_reducible refine wpList_store_blk rfl 104 (.tmp 14) (.tmp 71) rfl _ #[.slice none 0 0, .bool false] #[.slice (some ak) m ck, .bool false] rfl rfl (Blk.new wr 104 _) (by kernel_rfl) rfl (by kernel_rfl) ?_); intro w4 hw4; have hs4 : w4.heap.size = wr.heap.size + 1 := (by rw [hw4.size, alloc_size]); have hb4 : Below wr.heap.size wr w4 := ((Below.refl _ _).alloc (Nat.le_refl _) _).trans hw4.below; have B4 := hw4.blk; have z0 : w4.drew.cell? ⟨wr.heap.size, 0, none⟩ = some (.slice (some ak) m ck) := B4.cell 0; have z1 : w4.drew.cell? ⟨wr.heap.size, 1, none⟩ = some (.bool false) := B4.cell 1))
          go_region_law (first
            | (go_simp; go_at_call 62; refine (cells_clone ((hrk.below hb4).drew) (by rw [World.size_drew]; omega) hm).mono ?_; rintro e w5 ⟨v5, rfl, hown5, hb5⟩; obtain ⟨A5, c5, rfl, _, _, _⟩ := own_slice hown5; have hs5 : wr.heap.size + 1 ≤ w5.heap.size := (by have := hb5.size; rw [World.size_drew] at this; omega); have hb5' : Below wr.heap.size wr w5 := hb4.trans ((Below.refl _ _).drew.trans (hb5.mono (by rw [World.size_drew]; omega))); have z1' : w5.cell? ⟨wr.heap.size, 1, none⟩ = some (.bool false) := ((B4.drew).below hb5 (by rw [World.size_drew]; omega)).cell 1; have hbX : Below wr.heap.size wr (w5.alloc (.cells #[.slice A5 m c5, .bool false] 104)) := hb5'.alloc (by omega) _; have ho5 : (w5.alloc (.cells #[.slice A5 m c5, .bool false] 104)).ownsRow w.heap.size 134 16 (.slice A5 m c5) m (bl m) := (World.ownsRow.mono hown5 (by rw [World.size_drew]; omega)).alloc _; have hownX := own_below hown hbX)
            | (refine step_append_any _ rfl (.tmp 72) (.tmp 79) 36 rfl w.heap.size 104 j0 (.agg #[.slice none 0 0, .bool false]) 2 32 Tryz.underlying36 hj hj0 hj1 hj2 rfl (by decide) u10 k vs (by kernel_rfl) (hownX) (w5.heap.size + 1) (some ⟨w5.heap.size, 0, none⟩) 1 1 [.slice A5 m c5, .bool false] (by kernel_rfl) (reads_line w5 _ _ 104) (by intro u hu; simp only [List.mem_cons, List.not_mem_nil, or_false] at hu; rcases hu with rfl | rfl <;> rfl) (by unfold maxLen; omega) (by omega) (by simp only [alloc_size]; omega) ?_; intro v6 w6 hown6 hg6 _))
          all_goals
            go_wp2_with fail
            go_meet
            exact ⟨lines_app hown hHX.out hbX ho5 hown6 hg6, (hbr.trans (hbX.mono hsr)).grown hg6 (by rw [alloc_size]; omega) (fun j q => (own_lt hownX q).1)⟩
        case rest =>
          obtain ⟨hL6, hb6⟩ := hcut
          go_wp2
          go_roundw
          case rel => exact ⟨k + 1, by omega, by go_num, hL6, hb6⟩
          case measure => simp [intOf]; omega
      · obtain rfl : k = n := by omega
        go_wp2_with (go_at_call 63; refine (hnext_ok (hQ.below hbr hQ.lt) (hR.below hbr hR.lt)).mono ?_; rintro e w3 ⟨rfl, rfl⟩)
        go_ret3
        exact ⟨_, rfl, ⟨vs, hown, hHX.out⟩, hbr⟩
end Go.Proofs.YtbnnnmohggladabGreatDoor
