/- A part of the proof of TermNew. -/
import Derived.Test.YtbnnnmohggladabGreatDoorT2
import Derived.Test.YtbnnnmohggladabGreatDoorN27
namespace Go.Proofs.YtbnnnmohggladabGreatDoor
open Go.RowKit Go.Rep
set_option maxRecDepth 100000
theorem tzero_no {t pp s v : Nat} {w : World} (hT : Blk w t 73 #[.pointer (some ⟨pp, 0, none⟩), .pointer (some ⟨s, 0, none⟩), .pointer (some ⟨v, 0, none⟩)]) : Calls Tryz.prog 26 #[.pointer (some ⟨t, 0, none⟩)] w fun e w' => e = .returned (.bool false) ∧ w = w' := by
  have x1 : w.cell? ⟨t, 1, none⟩ = some (.pointer (some ⟨s, 0, none⟩)) := hT.cell 1
  go_enter Tryz.func26, Tryz.ntmps26
  go_wp2
  go_ret
  exact ⟨rfl, rfl⟩
set_option maxHeartbeats 1000000 in
theorem rclamp_any (r c h : Int) (w : World) : Calls Tryz.prog 4 #[.agg #[.int .i64 r, .int .i64 c, .int .i64 h]] w fun e w' => e = .returned (.agg #[.int .i64 (nearI r 1 1000), .int .i64 (nearI c 1 1000), .int .i64 (nearI h 0 1048576)]) ∧ Below w.heap.size w w' := by
  have b0 := (Blk.new w 23 #[.int .i64 r, .int .i64 c, .int .i64 h]).alloc (.cells #[.int .i64 0, .int .i64 0, .int .i64 0] 23)
  have b1 := blk_two w (.cells #[.int .i64 r, .int .i64 c, .int .i64 h] 23) 23 #[.int .i64 0, .int .i64 0, .int .i64 0]
  have hb0 := ((Below.refl w.heap.size w).alloc (Nat.le_refl _) (.cells #[.int .i64 r, .int .i64 c, .int .i64 h] 23)).alloc (by simp only [alloc_size]; omega) (.cells #[.int .i64 0, .int .i64 0, .int .i64 0] 23)
  go_enter Tryz.func4, Tryz.ntmps4
  go_upto_region 1 with fail
  go_region_law (go_simp; go_at_call 10; refine (near_any _ _ _ _).mono ?_; rintro e w1 ⟨rfl, rfl⟩)
  all_goals
    go_wp2_with fail
    have b2 := blk_two w (.cells #[.int .i64 r, .int .i64 c, .int .i64 h] 23) 23 #[.int .i64 (nearI r 1 1000), .int .i64 (nearI c 1 1000), .int .i64 (nearI h 0 1048576)]
    refine bodyPost_ret (results_cell_row rfl _ _ _ _ _ (0, 0) _ rfl (b2.drew) Tryz.underlying23 rfl (by kernel_rfl)) rfl ?_
    exact ⟨rfl, ((((Below.refl w.heap.size w).alloc (Nat.le_refl _) _).alloc (by simp only [alloc_size]; omega) _).drew)⟩
theorem stored_below {w w' : World} {g : Nat} {t : TypeId} {cs : Array Value} (h : Stored w w' g t cs) : Below g w w' := h.below.mono (Nat.le_refl _)
/-- What lies of a new terminal. -/
def TermAt (w : World) (lo t n m h : Nat) : Prop := ∃ pp s v q r p g bb b vv st, lo ≤ s ∧ Blk w t 73 #[.pointer (some ⟨pp, 0, none⟩), .pointer (some ⟨s, 0, none⟩), .pointer (some ⟨v, 0, none⟩)] ∧ Blk w v 121 #[.int .i64 n, .int .i64 0] ∧ ScrAt w s n m h q r p g bb b vv st
theorem TermAt.below {w w' : World} {lo t n m h : Nat} (H : TermAt w lo t n m h) (hb : Below w.heap.size w w') : TermAt w' lo t n m h := by
  obtain ⟨pp, s, v, q, r, p, g, bb, b, vv, st, h0, h1, h2, h3⟩ := H
  exact ⟨pp, s, v, q, r, p, g, bb, b, vv, st, h0, h1.below hb h1.lt, h2.below hb h2.lt, h3.below hb⟩
theorem made_term {n m k s : Nat} {w w1 w2 : World} {cs : Array Value} (hN : NewP w1 n m k w2 s) (hpre : Below w.heap.size w w1) : ∃ t, Ending.returned (.pointer (some ⟨(w2.heap.size + 1 + 1), 0, none⟩)) = .returned (.pointer (some ⟨t, 0, none⟩)) ∧ w.heap.size ≤ t ∧ TermAt (((w2.alloc (.cells #[.int .i64 n, .int .i64 0] 121)).alloc (.cells cs 71)).alloc (.cells #[.pointer (some ⟨(w2.heap.size + 1), 0, none⟩), .pointer (some ⟨s, 0, none⟩), .pointer (some ⟨w2.heap.size, 0, none⟩)] 73)) w.heap.size t n m k ∧ Below w.heap.size w (((w2.alloc (.cells #[.int .i64 n, .int .i64 0] 121)).alloc (.cells cs 71)).alloc (.cells #[.pointer (some ⟨(w2.heap.size + 1), 0, none⟩), .pointer (some ⟨s, 0, none⟩), .pointer (some ⟨w2.heap.size, 0, none⟩)] 73)) := by
  obtain ⟨q, r1, p, g, v1, b, st, hs, z1, z2, z3, z4, z5, z6, hb2⟩ := hN
  have H2 : ScrAt w2 s n m k q r1 p g _ b v1 st := ⟨z1, z2, z3, z4, z5, z6⟩
  have hsp := hpre.size
  have hbw : Below w.heap.size w w2 := hpre.trans (hb2.mono hsp)
  have hsw : w.heap.size ≤ w2.heap.size := hbw.size
  have hb3 : ∀ (x y z : Obj), Below w2.heap.size w2 (((w2.alloc x).alloc y).alloc z) := fun x y z => (((Below.refl _ _).alloc (Nat.le_refl _) x).alloc (by simp only [alloc_size]; omega) y).alloc (by simp only [alloc_size]; omega) z
  have hT : ∀ (x y : Obj) (cs : Array Value), Blk (((w2.alloc x).alloc y).alloc (.cells cs 73)) (w2.heap.size + 1 + 1) 73 cs := fun x y cs => by
    have := Blk.new ((w2.alloc x).alloc y) 73 cs
    rw [alloc_size, alloc_size] at this
    exact this
  exact ⟨_, rfl, by omega, ⟨_, _, _, q, r1, p, g, _, b, v1, st, by omega, hT _ _ _, ((Blk.new w2 121 #[.int .i64 n, .int .i64 0]).alloc _).alloc _, H2.below (hb3 _ _ _)⟩, hbw.trans ((hb3 _ _ _).mono hsw)⟩
set_option maxHeartbeats 4000000 in
theorem term_new {r c h : Int} {n m k : Nat} (en : nearI r 1 1000 = n) (em : nearI c 1 1000 = m) (ek : nearI h 0 1048576 = k) (n0 : 1 ≤ n) (hn : n ≤ 1000) (m0 : 1 ≤ m) (hm : m ≤ 1000) (hk : k ≤ 1048576) (w : World) : Calls Tryz.prog 6 #[.agg #[.int .i64 r, .int .i64 c, .int .i64 h]] w fun e w' => ∃ t, e = .returned (.pointer (some ⟨t, 0, none⟩)) ∧ w.heap.size ≤ t ∧ TermAt w' w.heap.size t n m k ∧ Below w.heap.size w w' := by
  have hc := Blk.new w 23 #[.int .i64 r, .int .i64 c, .int .i64 h]
  go_enter Tryz.func6, Tryz.ntmps6
  go_upto_region 1 with fail
  go_region_law (go_simp; go_at_call 18; refine (clampi_any _ _ _ (by decide) _).mono ?_; rintro e w1 ⟨rfl, rfl⟩)
  all_goals
    have hd := (Blk.new w 23 #[.int .i64 n, .int .i64 m, .int .i64 k]).drew
    have y0 := hd.cell 0
    have hpre : Below w.heap.size w _ := ((Below.refl w.heap.size w).alloc (Nat.le_refl _) (.cells #[.int .i64 n, .int .i64 m, .int .i64 k] 23)).drew
    go_wp2_with (first
      | (refine wpList_load_blk 23 (.tmp 1) rfl (by rfl) _ rfl #[.int .i64 n, .int .i64 m, .int .i64 k] _ (hd) Tryz.underlying23 rfl (by kernel_rfl) ?_)
      | (go_at_call 19; refine (scr_new n0 hn m0 hm hk).mono ?_; rintro e w2 ⟨s, rfl, hN⟩; have hN0 := hN; obtain ⟨q, r1, p, g, v1, b, st, hs, -, -, -, -, -, -, hb2⟩ := hN0; have hs2 := hb2.size; have hd2 := hd.below hb2 hd.lt; have y2 : w2.cell? ⟨w.heap.size, 0, none⟩ = some (.int .i64 n) := hd2.cell 0)
      | (go_at_call 20; refine (view_new n0 hn _).mono ?_; rintro e w3 ⟨rfl, rfl⟩))
    go_ret
    exact made_term hN hpre
end Go.Proofs.YtbnnnmohggladabGreatDoor
