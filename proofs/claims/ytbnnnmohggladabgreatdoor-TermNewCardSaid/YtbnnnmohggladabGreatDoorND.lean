/- A part of the proof of TermNew. -/
import Derived.Test.YtbnnnmohggladabGreatDoorNA
import Derived.Lib.SliceRun
import Derived.Deep.CutBlock
import Derived.Deep.DeepCutAuto
import Derived.BigFrame
import Derived.Deep.QuietTactic
import Derived.BigQuiet
import Derived.Deep.Light
import Derived.Deep.RegionLaw
namespace Go.Proofs.YtbnnnmohggladabGreatDoor
open Go.RowKit Go.Rep
set_option maxRecDepth 100000
theorem bool_info : (Tryz.prog.info? 4).map (fun i => (i.zero, i.size, i.bytes)) = some (some (.bool false), 1, 1) := by kernel_rfl
theorem reads_lit (w : World) (u : Value) (t : TypeId) : Reads (w.alloc (.cells #[u] t)) (w.heap.size + 1) 1 (some ⟨w.heap.size, 0, none⟩) 1 [u] := by
  refine ⟨rfl, fun _ => ⟨_, rfl, Nat.lt_succ_self _, fun j x hx => ?_⟩⟩
  rw [add0, (Blk.new w t #[u]).cell j, ← hx]
  simp
set_option maxHeartbeats 2000000 in
theorem stops_fill {g m : Nat} (hm : m ≤ 1000) (w : World) (hB : Blk w g 219 #[.slice none 0 0]) : Calls Tryz.prog 117 #[.pointer (some ⟨g, 0, none⟩), .int .i64 m] w fun e w' => (∃ u, e = .returned u) ∧ Below g w w' := by
  obtain ⟨i0, hi, hz0, hz1, hz2⟩ := info_parts bool_info
  have hgw := hB.lt
  go_enter Tryz.func117, Tryz.ntmps117
  go_wp2
  go_loopw [4, 5] (fun v i wr => ∃ (k : Nat) (xs : List Value), k ≤ m ∧ i = .int .i64 k ∧ wr.ownsRow w.heap.size 4 1 v k xs ∧ Blk wr g 219 #[.slice none 0 0] ∧ Below w.heap.size w wr) (fun _ i _ => m - (intOf i).toNat)
  case atStart => exact ⟨0, [], Nat.zero_le _, rfl, World.ownsRow_nil _ _ _ _, hB, Below.refl _ _⟩
  case round =>
    obtain ⟨k, xs, hk, rfl, hown, hBr, hbr⟩ := hrel
    have x0 : wr.cell? ⟨g, 0, none⟩ = some (.slice none 0 0) := hBr.cell 0
    have f0 : wr.frozen? ⟨g, 0, none⟩ = false := hBr.frozen 0
    have hsr := hbr.size
    by_cases hlt : k < m
    · have hlt' : (k : Int) < (m : Int) := by omega
      have hneg : ¬ (k : Int) < 0 := by omega
      by_cases h0 : 0 < k
      all_goals
        first | (have h0' : (0 : Int) < (k : Int) := by omega) | (have h0' : ¬ (0 : Int) < (k : Int) := by omega)
        go_wp2_with (at_builtin; refine wpList_append_any _ rfl (.tmp 28) (.tmp 36) 217 rfl w.heap.size 4 i0 (.bool false) 1 1 Tryz.underlying217 hi hz0 hz1 hz2 rfl (by decide) _ _ _ rfl (hown.alloc _) _ _ _ _ [_] rfl (reads_lit wr _ _) (by intro u hu; simp only [List.mem_singleton] at hu; subst hu; rfl) (by unfold maxLen; omega) (by omega) (by simp only [alloc_size]; omega) ?_; intro v7 w7 hown7 hg7 _)
        go_roundw
        case rel => exact ⟨k + 1, _, by omega, by go_num, hown7, (hBr.alloc _).grown hg7 (own_blk_ne hown hBr (by decide)).symm, (hbr.alloc hsr _).grown hg7 (by rw [alloc_size]; omega) (fun j q => (own_lt hown q).1)⟩
        case measure => simp [intOf]; omega
    · obtain rfl : k = m := by omega
      obtain ⟨A3, c3, rfl, _, _, _⟩ := own_slice hown
      go_wp2
      go_end0
      exact ⟨⟨_, rfl⟩, Below.setCell (B := g) (p := ⟨g, 0, none⟩) (hbr.mono (by omega)) (Nat.le_refl _) _⟩
theorem stops_new {m : Nat} (hm : m ≤ 1000) (w : World) : Calls Tryz.prog 84 #[.int .i64 m] w fun e w' => ∃ q, e = .returned q ∧ (∃ a, q = .pointer a) ∧ Below w.heap.size w w' := by
  have hB := Blk.new w 219 #[.slice none 0 0]
  go_enter Tryz.func84, Tryz.ntmps84
  go_wp2_with (go_at_call 117; refine (stops_fill hm _ hB).mono ?_; rintro e w1 ⟨⟨u, rfl⟩, hb1⟩)
  go_ret
  exact ⟨_, rfl, ⟨_, rfl⟩, ((Below.refl _ _).alloc (Nat.le_refl _) _).trans hb1⟩
end Go.Proofs.YtbnnnmohggladabGreatDoor

namespace Go.Proofs.YtbnnnmohggladabGreatDoor
open Go.RowKit Go.Rep
set_option maxRecDepth 100000
theorem own_nil_blk (w : World) : (w.alloc (.cells #[] 134)).ownsRow w.heap.size 134 16 (.slice (some ⟨w.heap.size, 0, none⟩) 0 0) 0 [] := ⟨rfl, .inr ⟨w.heap.size, 0, #[], rfl, Nat.le_refl _, heap_alloc_new w _, Nat.le_refl _, Nat.zero_le _, rfl, rfl⟩⟩
theorem lines_app {w wX w3 : World} {b n m c2 : Nat} {A2 : Option Addr} {v v' : Value} {vs : List Value} (hown : w.ownsRow b 104 2 v n vs) (hx : ∀ i, i < n → ∃ A c, vs[i * 2]? = some (.slice A m c) ∧ vs[i * 2 + 1]? = some (.bool false) ∧ w.ownsRow b 134 16 (.slice A m c) m (bl m))
    (hb : Below w.heap.size w wX) (ho : wX.ownsRow b 134 16 (.slice A2 m c2) m (bl m)) (hown3 : w3.ownsRow b 104 2 v' (n + 1) (vs ++ [.slice A2 m c2, .bool false])) (hg3 : wX.grownBy w3 v.ownBlock) : Lines w3 b v' (n + 1) m := by
  have hX := own_below hown hb
  have hl : vs.length = n * 2 := hown.1
  refine ⟨_, hown3, fun i hi => ?_⟩
  rcases Nat.lt_or_ge i n with h1 | h1
  · obtain ⟨A, c, q1, q2, q3⟩ := hx i h1
    refine ⟨A, c, by rw [List.getElem?_append_left (by omega)]; exact q1, by rw [List.getElem?_append_left (by omega)]; exact q2, ?_⟩
    have q4 := own_below q3 hb
    exact q4.kept hg3 (own_ne q4 hX (by decide))
  · obtain rfl : i = n := by omega
    refine ⟨A2, c2, by rw [List.getElem?_append_right (by omega), hl, Nat.sub_self]; rfl, by rw [List.getElem?_append_right (by omega), hl, show i * 2 + 1 - i * 2 = 1 by omega]; rfl, ?_⟩
    exact ho.kept hg3 (own_ne ho hX (by decide))
theorem cells_clone {m B cp : Nat} {ad : Addr} {w : World} (hr : Reads w B 16 (some ad) m (bl m)) (hB : B ≤ w.heap.size) (hm : m ≤ 1000) : Calls Tryz.prog 62 #[.slice (some ad) m cp] w fun e w' => ∃ v, e = .returned v ∧ w'.ownsRow w.heap.size 134 16 v m (bl m) ∧ Below w.heap.size w w' := by
  obtain ⟨i0, hi, hz0, hz1, hz2⟩ := info_parts cell_info
  have hq := Lib.run_eql_slice_nil (P := Tryz.prog) w 101 134 (some ad) m cp 0 0 Tryz.underlying101
  go_enter Tryz.func62, Tryz.ntmps62
  go_wp2_with (at_builtin; refine wpList_append_any _ rfl (.tmp 5) (.tmp 6) 101 rfl w.heap.size 134 i0 (.agg #[.int .i32 0, .int .i32 0, .int .i32 0, .int .i32 0, .int .i64 0, .int .i64 0, .int .u8 0, .int .u8 0, .int .u8 0, .int .u8 0, .int .i64 0, .int .u8 0, .int .u8 0, .int .u8 0, .int .u8 0, .int .u8 0]) 16 64 Tryz.underlying101 hi hz0 hz1 hz2 rfl (by decide) _ _ _ rfl (own_nil_blk w) B (some ad) m cp (bl m) rfl (hr.alloc hB _) (bl_one) (by unfold maxLen; omega) (by omega) (by simp only [alloc_size]; omega) ?_; intro v7 w7 hown7 hg7 _)
  go_ret
  have hbel : Below w.heap.size w w7 := by
    refine ((Below.refl _ _).alloc (Nat.le_refl _) _).grown hg7 (by simp) (fun j q => ?_)
    have : w.heap.size = j := Option.some.inj q
    omega
  refine ⟨_, rfl, ?_, hbel⟩
  rw [Nat.zero_add] at hown7
  exact hown7
set_option maxHeartbeats 2000000 in
theorem line_copy {m B cp : Nat} {ad : Addr} {w : World} (hr : Reads w B 16 (some ad) m (bl m)) (hB : B ≤ w.heap.size) (hm : m ≤ 1000) : Calls Tryz.prog 98 #[.agg #[.slice (some ad) m cp, .bool false]] w fun e w' => ∃ A c, e = .returned (.agg #[.slice A m c, .bool false]) ∧ w'.ownsRow w.heap.size 134 16 (.slice A m c) m (bl m) ∧ Below w.heap.size w w' := by
  have b0 := (Blk.new w 104 #[.slice (some ad) m cp, .bool false]).alloc (.cells #[.slice none 0 0, .bool false] 104)
  have b1 := blk_two w (.cells #[.slice (some ad) m cp, .bool false] 104) 104 #[.slice none 0 0, .bool false]
  have hb0 := ((Below.refl w.heap.size w).alloc (Nat.le_refl _) (.cells #[.slice (some ad) m cp, .bool false] 104)).alloc (by simp only [alloc_size]; omega) (.cells #[.slice none 0 0, .bool false] 104)
  have hr0 := (hr.alloc hB (.cells #[.slice (some ad) m cp, .bool false] 104)).alloc (by simp only [alloc_size]; omega) (.cells #[.slice none 0 0, .bool false] 104)
  go_enter Tryz.func98, Tryz.ntmps98
  go_wp2_with (first
    | (go_at_call 62; refine (cells_clone hr0 (by simp only [alloc_size]; omega) hm).mono ?_; rintro e w2 ⟨v2, rfl, hown2, hb2⟩; obtain ⟨A2, c2, rfl, _, _, _⟩ := own_slice hown2; have hs2 : w.heap.size + 1 + 1 ≤ w2.heap.size := (by have := hb2.size; simp only [alloc_size] at this; exact this); have p0 := b0.below hb2 (by simp only [alloc_size]; omega); have p1 := b1.below hb2 (by simp only [alloc_size]; omega); have x0 : w2.cell? ⟨w.heap.size, 0, none⟩ = some (.slice (some ad) m cp) := p0.cell 0; have f0 := p0.frozen 0; have hp0 := p0.set_ 0 (.slice A2 m c2); have hp1 := p1.far (p := ⟨w.heap.size, 0, none⟩) (by show w.heap.size + 1 ≠ w.heap.size; omega) (.slice A2 m c2); have hbw2 := hb0.trans (hb2.mono (by simp only [alloc_size]; omega)); simp only [alloc_size] at hown2)
    | (refine wpList_load_blk 104 (.tmp 1) rfl (by rfl) _ rfl #[.slice A2 m c2, .bool false] _ (hp0) Tryz.underlying104 rfl (by kernel_rfl) ?_)
    | ((with_reducible refine wpList_store_blk rfl 104 (.tmp 2) (.tmp 7) rfl _ #[.slice none 0 0, .bool false] #[.slice A2 m c2, .bool false] rfl rfl (hp1) (by kernel_rfl) rfl (by kernel_rfl) ?_); intro w4 hw4))
  refine bodyPost_ret (results_cell_row rfl _ _ _ _ _ (0, 0) _ rfl (hw4.blk) Tryz.underlying104 rfl (by kernel_rfl)) rfl ?_
  have hbs : Below w.heap.size w2 (w2.setCell ⟨w.heap.size, 0, none⟩ (.slice A2 m c2)) := (Below.refl _ _).setCell (p := ⟨w.heap.size, 0, none⟩) (Nat.le_refl _) _
  refine ⟨A2, c2, rfl, ?_, hbw2.trans (hbs.trans (hw4.below.mono (by omega)))⟩
  exact (own_store (own_set hown2 (by show w.heap.size < w.heap.size + 1 + 1; omega)) hw4 (by omega)).mono (by omega)
end Go.Proofs.YtbnnnmohggladabGreatDoor

namespace Go.Proofs.YtbnnnmohggladabGreatDoor
open Go.RowKit Go.Rep
set_option maxRecDepth 100000
/-- Where the k-th line of a list lies. -/
theorem line_at {w : World} {b n m k c : Nat} {A : Option Addr} (h : Lines w b (.slice A n c) n m) (hk : k < n) (hm : 0 < m) : ∃ ad ak ck, A = some ad ∧ Hid (∀ j v, (#[.slice (some ak) m ck, .bool false] : Array Value).toList[j]? = some v → w.cell? ((ad.add (k * 2)).add j) = some v) ∧ Reads w w.heap.size 16 (some ak) m (bl m) := by
  obtain ⟨vs, ho, hx⟩ := h
  obtain ⟨A', ck, q1, q2, q3⟩ := hx k hk
  have hr := Reads.of_own ho
  have hr3 := Reads.of_own q3
  obtain ⟨ad, rfl, _, hc⟩ := hr.2 (by omega)
  obtain ⟨ak, rfl, _, _⟩ := hr3.2 hm
  refine ⟨ad, ak, ck, rfl, Lib.hid fun j v hj => ?_, hr3⟩
  rw [add_of_add]
  apply hc
  match j, hj with
  | 0, hj => rw [Nat.add_zero, q1]; exact hj
  | 1, hj => rw [q2]; exact hj
  | j + 2, hj => simp at hj
theorem addr_add0 (a : Addr) : a.add 0 = a := by unfold Addr.add; simp
theorem addr_add1 (a : Addr) (i : Nat) (h : 0 < i) : a.add i = ⟨a.block, a.off + i, none⟩ := by unfold Addr.add; rw [if_neg (by omega)]
theorem gnone_no {g : Nat} {m : Nat} {w : World} {v : Value} (hB : Blk w g 183 #[.int .i64 m, v]) (m0 : 1 ≤ m) : Calls Tryz.prog 97 #[.pointer (some ⟨g, 0, none⟩)] w fun e w' => e = .returned (.bool false) ∧ w = w' := by
  have x0 : w.cell? ⟨g, 0, none⟩ = some (.int .i64 m) := hB.cell 0
  have hne : ((m : Int) == 0) = false := by simp; omega
  go_enter Tryz.func97, Tryz.ntmps97
  go_wp2
  go_ret
  exact ⟨rfl, rfl⟩
set_option maxHeartbeats 4000000 in
theorem grid_lines {g n m b : Nat} {v : Value} {w : World} (hB : Blk w g 183 #[.int .i64 m, v]) (hL : Lines w b v n m) (n0 : 1 ≤ n) (hn : n ≤ 1000) (m0 : 1 ≤ m) (hm : m ≤ 1000) : Calls Tryz.prog 65 #[.pointer (some ⟨g, 0, none⟩)] w fun e w' => ∃ u, e = .returned u ∧ Lines w' w.heap.size u n m ∧ Below w.heap.size w w' := by
  obtain ⟨i0, hi, hz0, hz1, hz2⟩ := info_parts line_info
  obtain ⟨A, c, rfl, -, -, -⟩ := own_slice hL.choose_spec.1
  have x1 : w.cell? ⟨g, 1, none⟩ = some (.slice A n c) := hB.cell 1
  have HL := Lib.hid hL
  clear hL
  go_enter Tryz.func65, Tryz.ntmps65
  go_wp2_with (go_at_call 97; refine (gnone_no hB m0).mono ?_; rintro e w1 ⟨rfl, rfl⟩)
  go_loopw [3, 13] (fun u i wr => ∃ (k : Nat), k ≤ n ∧ i = .int .i64 k ∧ Lines wr w.heap.size u k m ∧ Below w.heap.size w wr) (fun _ i _ => n - (intOf i).toNat)
  case atStart => exact ⟨0, Nat.zero_le _, rfl, ⟨[], World.ownsRow_nil _ _ _ _, fun i h => by omega⟩, Below.refl _ _⟩
  case round =>
    obtain ⟨k, hk, rfl, ⟨vs, hown, hx⟩, hbr⟩ := hrel
    have hHX := Lib.hid hx
    clear hx
    have hsr := hbr.size
    by_cases hlt : k < n
    · have hlt' : (k : Int) < (n : Int) := by omega
      obtain ⟨ad, ak, ck, rfl, hyc, hrk⟩ := line_at (lines_below HL.out hbr) hlt m0
      go_wp2_with (first
        | (refine wpList_load_any 104 (.tmp 15) rfl (by rfl) (ad.add (k * 2)) rfl #[.slice (some ak) m ck, .bool false] _ hyc.out Tryz.underlying104 rfl (by kernel_rfl) ?_)
        | ((with_reducible refine wpList_store_blk rfl 104 (.tmp 5) (.tmp 16) rfl _ #[.slice none 0 0, .bool false] #[.slice (some ak) m ck, .bool false] rfl rfl (Blk.new wr 104 _) (by kernel_rfl) rfl (by kernel_rfl) ?_); intro w4 hw4; have hs4 : w4.heap.size = wr.heap.size + 1 := (by rw [hw4.size, alloc_size]); have hb4 : Below wr.heap.size wr w4 := ((Below.refl _ _).alloc (Nat.le_refl _) _).trans hw4.below)
        | (refine wpList_load_blk 104 (.tmp 5) rfl (by rfl) _ rfl #[.slice (some ak) m ck, .bool false] _ (hw4.blk) Tryz.underlying104 rfl (by kernel_rfl) ?_)
        | (go_at_call 98; refine (line_copy (hrk.below hb4) (by omega) hm).mono ?_; rintro e w5 ⟨A5, c5, rfl, hown5, hb5⟩; have hs5 := hb5.size; have hbX : Below wr.heap.size wr (w5.alloc (.cells #[.slice A5 m c5, .bool false] 104)) := (hb4.trans (hb5.mono (by omega))).alloc (by omega) _; have ho5 : (w5.alloc (.cells #[.slice A5 m c5, .bool false] 104)).ownsRow w.heap.size 134 16 (.slice A5 m c5) m (bl m) := (World.ownsRow.mono hown5 (by omega)).alloc _; have hownX := own_below hown hbX)
        | (at_builtin; refine wpList_append_any _ rfl (.tmp 17) (.tmp 20) 36 rfl w.heap.size 104 i0 (.agg #[.slice none 0 0, .bool false]) 2 32 Tryz.underlying36 hi hz0 hz1 hz2 rfl (by decide) _ _ _ rfl (hownX) _ _ _ _ [.slice A5 m c5, .bool false] rfl (reads_line w5 _ _ 104) (by intro u hu; simp only [List.mem_cons, List.not_mem_nil, or_false] at hu; rcases hu with rfl | rfl <;> rfl) (by unfold maxLen; omega) (by omega) (by simp only [alloc_size]; omega) ?_; intro v6 w6 hown6 hg6 _))
      have hL6 := lines_app hown hHX.out hbX ho5 hown6 hg6
      have hb6 := (hbr.trans (hbX.mono hsr)).grown hg6 (by rw [alloc_size]; omega) (fun j q => (own_lt hownX q).1)
      clear hown6 hg6 hownX ho5
      go_roundw
      case rel => exact ⟨k + 1, by omega, by go_num, hL6, hb6⟩
      case measure => simp [intOf]; omega
    · obtain rfl : k = n := by omega
      go_wp2
      go_ret
      exact ⟨_, rfl, ⟨vs, hown, hHX.out⟩, hbr⟩
end Go.Proofs.YtbnnnmohggladabGreatDoor

namespace Go.Proofs.YtbnnnmohggladabGreatDoor
open Go.RowKit Go.Rep
set_option maxRecDepth 100000
theorem used_ok {p g : Nat} {b : Value} {w : World} (hP : Blk w p 216 #[.pointer (some ⟨g, 0, none⟩), b, .int .i64 0, .int .i64 0, .int .i64 0, .bool false, .int .i64 0, .int .u8 0, .int .u8 0, .int .u8 0, .int .u8 0, .int .i64 0, .int .u8 0, .int .u8 0, .int .u8 0, .int .u8 0, .int .u8 0, .bool false, .int .i64 0, .int .i64 0, .int .i64 0, .bool false]) : Calls Tryz.prog 115 #[.pointer (some ⟨p, 0, none⟩)] w fun e w' => e = .returned (.pointer (some ⟨g, 0, none⟩)) ∧ w = w' := by
  have x0 : w.cell? ⟨p, 0, none⟩ = some (.pointer (some ⟨g, 0, none⟩)) := hP.cell 0
  have x2 : w.cell? ⟨p, 2, none⟩ = some (.int .i64 0) := hP.cell 2
  go_enter Tryz.func115, Tryz.ntmps115
  go_wp2
  go_ret
  exact ⟨rfl, rfl⟩
theorem rgrid_ok {s p g : Nat} {b : Value} {w : World} (x5 : w.cell? ⟨s, 5, none⟩ = some (.pointer (some ⟨p, 0, none⟩))) (hP : Blk w p 216 #[.pointer (some ⟨g, 0, none⟩), b, .int .i64 0, .int .i64 0, .int .i64 0, .bool false, .int .i64 0, .int .u8 0, .int .u8 0, .int .u8 0, .int .u8 0, .int .i64 0, .int .u8 0, .int .u8 0, .int .u8 0, .int .u8 0, .int .u8 0, .bool false, .int .i64 0, .int .i64 0, .int .i64 0, .bool false]) : Calls Tryz.prog 82 #[.pointer (some ⟨s, 0, none⟩)] w fun e w' => e = .returned (.pointer (some ⟨g, 0, none⟩)) ∧ w = w' := by
  go_enter Tryz.func82, Tryz.ntmps82
  go_wp2_with (go_at_call 115; refine (used_ok hP).mono ?_; rintro e w1 ⟨rfl, rfl⟩)
  go_ret
  exact ⟨rfl, rfl⟩
set_option maxHeartbeats 4000000 in
theorem copies_ok {n m b c : Nat} {A : Option Addr} {w : World} (hL : Lines w b (.slice A n c) n m) (hn : n ≤ 1000) (m0 : 1 ≤ m) (hm : m ≤ 1000) : Calls Tryz.prog 49 #[.slice A n c] w fun e w' => ∃ u, e = .returned u ∧ Lines w' w.heap.size u n m ∧ Below w.heap.size w w' := by
  obtain ⟨i0, hi, hz0, hz1, hz2⟩ := info_parts cell_info
  obtain ⟨j0, hj, hj0, hj1, hj2⟩ := info_parts line_info
  have HL := Lib.hid hL
  clear hL
  go_enter Tryz.func49, Tryz.ntmps49
  go_wp2
  go_loopw [3, 4] (fun u i wr => ∃ (k : Nat), k ≤ n ∧ i = .int .i64 k ∧ Lines wr w.heap.size u k m ∧ Below w.heap.size w wr) (fun _ i _ => n - (intOf i).toNat)
  case atStart => exact ⟨0, Nat.zero_le _, rfl, ⟨[], World.ownsRow_nil _ _ _ _, fun i h => by omega⟩, Below.refl _ _⟩
  case round =>
    obtain ⟨k, hk, rfl, ⟨vs, hown, hx⟩, hbr⟩ := hrel
    have hHX := Lib.hid hx
    clear hx
    have hsr := hbr.size
    by_cases hlt : k < n
    · have hlt' : (k : Int) < (n : Int) := by omega
      obtain ⟨ad, ak, ck, rfl, hyc, hrk⟩ := line_at (lines_below HL.out hbr) hlt m0
      have y0d : wr.drew.cell? (ad.add (k * 2)) = some (.slice (some ak) m ck) := (by have := hyc.out 0 _ rfl; rw [addr_add0] at this; exact this)
      have y1 : wr.cell? ⟨(ad.add (k * 2)).block, (ad.add (k * 2)).off + 1, none⟩ = some (.bool false) := (by have := hyc.out 1 _ rfl; rw [addr_add1 _ 1 (by decide)] at this; exact this)
      have y1d : wr.drew.cell? ⟨(ad.add (k * 2)).block, (ad.add (k * 2)).off + 1, none⟩ = some (.bool false) := y1
      have hadl : (ad.add (k * 2)).block < wr.heap.size := block_lt_of_cell (a := ⟨(ad.add (k * 2)).block, (ad.add (k * 2)).off + 1, none⟩) y1
      go_upto_block 1 with fail
      go_cut [3] (fun u' wx => Lines wx w.heap.size u' (k + 1) m ∧ Below w.heap.size w wx)
      case first =>
        go_wp2_with fail
        go_region_law (first
          | (refine step_append_any _ rfl (.const (.slice none 0 0)) (.tmp 16) 101 rfl wr.heap.size 134 i0 (.agg #[.int .i32 0, .int .i32 0, .int .i32 0, .int .i32 0, .int .i64 0, .int .i64 0, .int .u8 0, .int .u8 0, .int .u8 0, .int .u8 0, .int .i64 0, .int .u8 0, .int .u8 0, .int .u8 0, .int .u8 0, .int .u8 0]) 16 64 Tryz.underlying101 hi hz0 hz1 hz2 rfl (by decide) (.slice none 0 0) 0 [] (by kernel_rfl) (World.ownsRow_nil _ wr.heap.size 134 16) _ (some ak) m ck (bl m) (by kernel_rfl) (hrk.drew) (bl_one) (by unfold maxLen; omega) (by omega) (Nat.le_refl _) ?_; intro v5 w5 hown5 hg5 _; rw [Nat.zero_add, List.nil_append] at hown5; obtain ⟨A5, c5, rfl, _, _, _⟩ := own_slice hown5; have hb5 : Below wr.heap.size wr w5 := ((Below.refl _ _).drew).grown hg5 (Nat.le_refl _) (fun j q => by cases q); have hs5 := hb5.size; have z1 : w5.cell? ⟨(ad.add (k * 2)).block, (ad.add (k * 2)).off + 1, none⟩ = some (.bool false) := (hb5.cell (p := ⟨(ad.add (k * 2)).block, (ad.add (k * 2)).off + 1, none⟩) hadl).trans y1; have hbX : Below wr.heap.size wr (w5.alloc (.cells #[.slice A5 m c5, .bool false] 104)) := hb5.alloc hs5 _; have ho5 : (w5.alloc (.cells #[.slice A5 m c5, .bool false] 104)).ownsRow w.heap.size 134 16 (.slice A5 m c5) m (bl m) := (World.ownsRow.mono hown5 hsr).alloc _; have hownX := own_below hown hbX)
          | (refine step_append_any _ rfl (.tmp 11) (.tmp 24) 36 rfl w.heap.size 104 j0 (.agg #[.slice none 0 0, .bool false]) 2 32 Tryz.underlying36 hj hj0 hj1 hj2 rfl (by decide) u3 k vs (by kernel_rfl) (hownX) (w5.heap.size + 1) (some ⟨w5.heap.size, 0, none⟩) 1 1 [.slice A5 m c5, .bool false] (by kernel_rfl) (reads_line w5 _ _ 104) (by intro u hu; simp only [List.mem_cons, List.not_mem_nil, or_false] at hu; rcases hu with rfl | rfl <;> rfl) (by unfold maxLen; omega) (by omega) (by simp only [alloc_size]; omega) ?_; intro v6 w6 hown6 hg6 _))
        all_goals
          go_wp2_with fail
          go_meet
          exact ⟨lines_app hown hHX.out hbX ho5 hown6 hg6, (hbr.trans (hbX.mono hsr)).grown hg6 (by rw [alloc_size]; omega) (fun j q => (own_lt hownX q).1)⟩
      case rest =>
        obtain ⟨hL6, hb6⟩ := hcut
        go_wp2
        go_roundw
        case rel => exact ⟨k + 1, by omega, by go_num, hL6, hb6⟩
        case measure => simp [intOf]; omega
    · obtain rfl : k = n := by omega
      go_wp2
      go_ret
      exact ⟨_, rfl, ⟨vs, hown, hHX.out⟩, hbr⟩
end Go.Proofs.YtbnnnmohggladabGreatDoor
