/- A part of the proof of ReplayLongs. -/
import Derived.Test.YtekbfckpnooloaaGreatDoorWRun
import Derived.Test.YtekbfckpnooloaaGreatDoorWWrite
namespace Go.Proofs.YtekbfckpnooloaaGreatDoor
open Go.RowKit Go.Rep Go.ChangeShapes Go.WideShapes
set_option maxRecDepth 100000
theorem byte_info : (Tryz.prog.info? 5).map (fun i => (i.zero, i.size, i.bytes)) = some (some (.int .u8 0), 1, 1) := by kernel_rfl
theorem made_zeros (n : Nat) : (madeCells (Value.int .u8 0).cells (n * 1)).toList = bcells (List.replicate n 0) := by
  apply List.ext_getElem?
  intro i
  simp only [madeCells, bcells, Array.toList_map, List.getElem?_map, Array.getElem?_toList, Nat.mul_one, Array.getElem?_range, List.getElem?_replicate]
  by_cases h : i < n
  · simp [h, Value.cells, Nat.mod_one]
  · simp [h]
theorem below_grown {w w' : World} (h : Below w.heap.size w w') : w.grownBy w' none := ⟨h.os, h.tape, h.output, h.size, fun k hk _ => h.block k hk⟩
theorem own_grown {w w' : World} {base size n : Nat} {e : TypeId} {v : Value} {xs : List Value} (h : w.ownsRow base e size v n xs) (hg : w.grownBy w' none) : w'.ownsRow base e size v n xs := h.kept hg (by cases hv : v.ownBlock <;> simp)
set_option maxHeartbeats 8000000 in
theorem long_few (many ops : Nat) (h1 : 4094 ≤ many) (h2 : many ≤ 4098) (h3 : ops = 63 ∨ ops = 64 ∨ ops = 65) (h4 : many ≤ 4096) (W : World) (hw : Tabbed W) : Calls Tryz.prog 4 #[.int .i64 many, .int .i64 ops] W (Yes W.heap.size W) := by
  obtain ⟨i0, hi, hz0, hz1, hz2⟩ := info_parts byte_info
  obtain ⟨j0, hj, hy0, hy1, hy2⟩ := info_parts op_info
  have hG : Tryz.prog.globals.size ≤ W.heap.size := hw.1
  have h63 : 63 ≤ ops := by omega
  have h65 : ops ≤ 65 := by omega
  have H3 := Lib.hid h3
  clear h3
  have hz := opsAt_zeros many many 0 rfl (Nat.zero_le _)
  rw [Nat.sub_zero] at hz
  have HZ := Lib.hid hz
  clear hz
  go_enter Tryz.func4, Tryz.ntmps4
  go_wp2_with (first
    | ((with_reducible refine wpList_make_full _ rfl (.tmp 29) (.tmp 29) 22 rfl W.heap.size 5 i0 (.int .u8 0) 1 Tryz.underlying22 hi hz0 hz1 .i64 .i64 (many : Int) (many : Int) many rfl rfl rfl rfl (by rw [hz2]; omega) (by unfold maxLen; omega) (Nat.le_refl _) ?_); intro w1 hown1 hg1; rw [made_zeros] at hown1; have hr1 := Reads.of_own hown1; have hb1 := (Below.refl W.heap.size W).grown hg1 (Nat.le_refl _) (fun j e => by cases e))
    | (go_at_call 9; refine (parse_any hr1 (Nat.le_refl _) h4 (Nat.le_refl _) (by unfold maxLen; omega)).mono ?_; rintro e w2 ⟨v2, rfl, hv2, hb2⟩; rw [HZ.out] at hv2; simp only [List.length_replicate] at hv2; obtain ⟨A2, c2, rfl, _, _, _⟩ := own_slice hv2; have hb12 := hb1.trans (hb2.mono hb1.size))
    | ((with_reducible refine wpList_make_full _ rfl (.tmp 36) (.tmp 36) 22 rfl W.heap.size 5 i0 (.int .u8 0) 1 Tryz.underlying22 hi hz0 hz1 .i64 .i64 (many : Int) (many : Int) many rfl rfl rfl rfl (by rw [hz2]; omega) (by unfold maxLen; omega) hb12.size ?_); intro w3 hown3 hg3; rw [made_zeros] at hown3; have hr3 := Reads.of_own hown3; have hb13 := hb12.grown hg3 hb12.size (fun j e => by cases e); have hT3 := tab_up hG hb13 hw)
    | (go_at_call 10; refine (run_ok hT3 hr3 (Nat.le_refl _) h4 (Nat.le_refl _) (by unfold maxLen; omega)).mono ?_; rintro e w4 ⟨a4, rfl, hb4⟩; have hb14 := hb13.trans (hb4.mono hb13.size)))
  go_loopw [9, 10] (fun v i wr => ∃ k : Nat, k ≤ ops ∧ i = .int .i64 k ∧ wr.ownsRow W.heap.size 38 5 v k (opCells (List.replicate k o63)) ∧ Below W.heap.size W wr) (fun _ i _ => ops - (intOf i).toNat)
  case atStart => exact ⟨0, Nat.zero_le _, rfl, World.ownsRow_nil _ _ _ _, hb14⟩
  case round =>
    obtain ⟨k, hk, rfl, hown, hbr⟩ := hrel
    by_cases hlt : k < ops
    · go_wp2_with (first
        | ((with_reducible refine wpList_make_full _ rfl (.const (.int .i64 63)) (.const (.int .i64 63)) 22 rfl W.heap.size 5 i0 (.int .u8 0) 1 Tryz.underlying22 hi hz0 hz1 .i64 .i64 63 63 63 rfl rfl rfl rfl (by rw [hz2]; omega) (by unfold maxLen; omega) hbr.size ?_); intro w5 hown5 hg5; rw [made_zeros] at hown5; have hcv : (convert 22 9 (.slice (some ⟨wr.heap.size, 0, none⟩) 63 63)).run Tryz.prog w5 = .ok (.string s63) w5 := run_conv_reads (P := Tryz.prog) (Reads.of_own hown5) 22 5 Tryz.underlying22 Tryz.underlying5 63 9 Tryz.underlying9; have hb5 := hbr.grown hg5 hbr.size (fun j e => by cases e))
        | (go_at_call 11; refine (wop_any s63 _).mono ?_; rintro e w6 ⟨rfl, hb6⟩; have hb56 := hb5.trans (hb6.mono hb5.size))
        | (at_builtin; refine wpList_append_own _ rfl (.tmp 46) (.tmp 50) 26 rfl W.heap.size 38 j0 (.agg zero5) 5 48 Tryz.underlying26 hj hy0 hy1 hy2 rfl (by decide) _ k (opCells (List.replicate k o63)) rfl ((own_grown (own_grown hown hg5) (below_grown hb6)).alloc _) ⟨w6.heap.size, 0, none⟩ 1 1 o63.cells rfl rfl (op_new _ o63 _) (op_cell _) (by unfold maxLen; omega) (by omega) (by have := hb56.size; simp; omega) ?_; intro v7 w7 hown7 hg7 _))
      go_roundw
      case rel =>
        refine ⟨k + 1, by omega, by go_num, ?_, (hb56.alloc hb56.size _).grown hg7 (by have := hb56.size; simp; omega) (fun j e => own_base hown e)⟩
        rw [List.replicate_succ', opCells_snoc]
        exact hown7
      case measure => simp [intOf]; omega
    · obtain rfl : k = ops := by omega
      have hTr := tab_up hG hbr hw
      rcases H3.out with rfl | rfl | rfl
      · go_wp2_with (first
          | (go_at_call 12; refine (write_all hTr hG (by omega) hown).mono ?_; rintro e w8 ⟨x, rfl, hx, hb8⟩; obtain ⟨A7, c7, rfl⟩ : ∃ A c, x = .tuple #[.slice A 4032 c, .int .i64 0] := (by simpa [outOf] using hx); have hb18 := hbr.trans (hb8.mono hbr.size))
          | (go_at_call 6; refine (any_Known _ (tab_up hG hb18 hw)).mono ?_; rintro e w9 ⟨rfl, hb9⟩))
        go_ret
        exact ⟨rfl, hb18.trans (hb9.mono hb18.size)⟩
      · go_wp2_with (first
          | (go_at_call 12; refine (write_all hTr hG (by omega) hown).mono ?_; rintro e w8 ⟨x, rfl, hx, hb8⟩; obtain ⟨A7, c7, rfl⟩ : ∃ A c, x = .tuple #[.slice A 4096 c, .int .i64 0] := (by simpa [outOf] using hx); have hb18 := hbr.trans (hb8.mono hbr.size))
          | (go_at_call 6; refine (any_Known _ (tab_up hG hb18 hw)).mono ?_; rintro e w9 ⟨rfl, hb9⟩))
        go_ret
        exact ⟨rfl, hb18.trans (hb9.mono hb18.size)⟩
      · go_wp2_with (first
          | (go_at_call 12; refine (write_all hTr hG (by omega) hown).mono ?_; rintro e w8 ⟨x, rfl, hx, hb8⟩; obtain rfl : x = .tuple #[.slice none 0 0, .int .i64 5] := (by simpa [outOf] using hx); have hb18 := hbr.trans (hb8.mono hbr.size))
          | (go_at_call 6; refine (any_Known _ (tab_up hG hb18 hw)).mono ?_; rintro e w9 ⟨rfl, hb9⟩))
        go_ret
        exact ⟨rfl, hb18.trans (hb9.mono hb18.size)⟩
set_option maxHeartbeats 8000000 in
theorem long_more (many ops : Nat) (h1 : 4094 ≤ many) (h2 : many ≤ 4098) (h3 : ops = 63 ∨ ops = 64 ∨ ops = 65) (h4 : 4096 < many) (W : World) (hw : Tabbed W) : Calls Tryz.prog 4 #[.int .i64 many, .int .i64 ops] W (Yes W.heap.size W) := by
  obtain ⟨i0, hi, hz0, hz1, hz2⟩ := info_parts byte_info
  obtain ⟨j0, hj, hy0, hy1, hy2⟩ := info_parts op_info
  have hG : Tryz.prog.globals.size ≤ W.heap.size := hw.1
  have h63 : 63 ≤ ops := by omega
  have h65 : ops ≤ 65 := by omega
  have H3 := Lib.hid h3
  clear h3
  go_enter Tryz.func4, Tryz.ntmps4
  go_wp2_with (first
    | ((with_reducible refine wpList_make_full _ rfl (.tmp 29) (.tmp 29) 22 rfl W.heap.size 5 i0 (.int .u8 0) 1 Tryz.underlying22 hi hz0 hz1 .i64 .i64 (many : Int) (many : Int) many rfl rfl rfl rfl (by rw [hz2]; omega) (by unfold maxLen; omega) (Nat.le_refl _) ?_); intro w1 hown1 hg1; rw [made_zeros] at hown1; have hr1 := Reads.of_own hown1; have hb1 := (Below.refl W.heap.size W).grown hg1 (Nat.le_refl _) (fun j e => by cases e))
    | (go_at_call 9; refine (parse_long _ h4).mono ?_; rintro e w2 ⟨rfl, rfl⟩; have hb12 := hb1)
    | ((with_reducible refine wpList_make_full _ rfl (.tmp 36) (.tmp 36) 22 rfl W.heap.size 5 i0 (.int .u8 0) 1 Tryz.underlying22 hi hz0 hz1 .i64 .i64 (many : Int) (many : Int) many rfl rfl rfl rfl (by rw [hz2]; omega) (by unfold maxLen; omega) hb12.size ?_); intro w3 hown3 hg3; rw [made_zeros] at hown3; have hr3 := Reads.of_own hown3; have hb13 := hb12.grown hg3 hb12.size (fun j e => by cases e); have hT3 := tab_up hG hb13 hw)
    | (go_at_call 10; refine (run_long _ h4).mono ?_; rintro e w4 ⟨rfl, hb4⟩; have hb14 := hb13.trans (hb4.mono hb13.size)))
  go_loopw [9, 10] (fun v i wr => ∃ k : Nat, k ≤ ops ∧ i = .int .i64 k ∧ wr.ownsRow W.heap.size 38 5 v k (opCells (List.replicate k o63)) ∧ Below W.heap.size W wr) (fun _ i _ => ops - (intOf i).toNat)
  case atStart => exact ⟨0, Nat.zero_le _, rfl, World.ownsRow_nil _ _ _ _, hb14⟩
  case round =>
    obtain ⟨k, hk, rfl, hown, hbr⟩ := hrel
    by_cases hlt : k < ops
    · go_wp2_with (first
        | ((with_reducible refine wpList_make_full _ rfl (.const (.int .i64 63)) (.const (.int .i64 63)) 22 rfl W.heap.size 5 i0 (.int .u8 0) 1 Tryz.underlying22 hi hz0 hz1 .i64 .i64 63 63 63 rfl rfl rfl rfl (by rw [hz2]; omega) (by unfold maxLen; omega) hbr.size ?_); intro w5 hown5 hg5; rw [made_zeros] at hown5; have hcv : (convert 22 9 (.slice (some ⟨wr.heap.size, 0, none⟩) 63 63)).run Tryz.prog w5 = .ok (.string s63) w5 := run_conv_reads (P := Tryz.prog) (Reads.of_own hown5) 22 5 Tryz.underlying22 Tryz.underlying5 63 9 Tryz.underlying9; have hb5 := hbr.grown hg5 hbr.size (fun j e => by cases e))
        | (go_at_call 11; refine (wop_any s63 _).mono ?_; rintro e w6 ⟨rfl, hb6⟩; have hb56 := hb5.trans (hb6.mono hb5.size))
        | (at_builtin; refine wpList_append_own _ rfl (.tmp 46) (.tmp 50) 26 rfl W.heap.size 38 j0 (.agg zero5) 5 48 Tryz.underlying26 hj hy0 hy1 hy2 rfl (by decide) _ k (opCells (List.replicate k o63)) rfl ((own_grown (own_grown hown hg5) (below_grown hb6)).alloc _) ⟨w6.heap.size, 0, none⟩ 1 1 o63.cells rfl rfl (op_new _ o63 _) (op_cell _) (by unfold maxLen; omega) (by omega) (by have := hb56.size; simp; omega) ?_; intro v7 w7 hown7 hg7 _))
      go_roundw
      case rel =>
        refine ⟨k + 1, by omega, by go_num, ?_, (hb56.alloc hb56.size _).grown hg7 (by have := hb56.size; simp; omega) (fun j e => own_base hown e)⟩
        rw [List.replicate_succ', opCells_snoc]
        exact hown7
      case measure => simp [intOf]; omega
    · obtain rfl : k = ops := by omega
      have hTr := tab_up hG hbr hw
      rcases H3.out with rfl | rfl | rfl
      · go_wp2_with (first
          | (go_at_call 12; refine (write_all hTr hG (by omega) hown).mono ?_; rintro e w8 ⟨x, rfl, hx, hb8⟩; obtain ⟨A7, c7, rfl⟩ : ∃ A c, x = .tuple #[.slice A 4032 c, .int .i64 0] := (by simpa [outOf] using hx); have hb18 := hbr.trans (hb8.mono hbr.size))
          | (go_at_call 6; refine (any_Known _ (tab_up hG hb18 hw)).mono ?_; rintro e w9 ⟨rfl, hb9⟩))
        go_ret
        exact ⟨rfl, hb18.trans (hb9.mono hb18.size)⟩
      · go_wp2_with (first
          | (go_at_call 12; refine (write_all hTr hG (by omega) hown).mono ?_; rintro e w8 ⟨x, rfl, hx, hb8⟩; obtain ⟨A7, c7, rfl⟩ : ∃ A c, x = .tuple #[.slice A 4096 c, .int .i64 0] := (by simpa [outOf] using hx); have hb18 := hbr.trans (hb8.mono hbr.size))
          | (go_at_call 6; refine (any_Known _ (tab_up hG hb18 hw)).mono ?_; rintro e w9 ⟨rfl, hb9⟩))
        go_ret
        exact ⟨rfl, hb18.trans (hb9.mono hb18.size)⟩
      · go_wp2_with (first
          | (go_at_call 12; refine (write_all hTr hG (by omega) hown).mono ?_; rintro e w8 ⟨x, rfl, hx, hb8⟩; obtain rfl : x = .tuple #[.slice none 0 0, .int .i64 5] := (by simpa [outOf] using hx); have hb18 := hbr.trans (hb8.mono hbr.size))
          | (go_at_call 6; refine (any_Known _ (tab_up hG hb18 hw)).mono ?_; rintro e w9 ⟨rfl, hb9⟩))
        go_ret
        exact ⟨rfl, hb18.trans (hb9.mono hb18.size)⟩
theorem walk_ReplayLongs (r c : Int) (W : World) (hw : Tabbed W) : Calls Tryz.prog 4 #[.int .i64 r, .int .i64 c] W (Yes W.heap.size W) := by
  by_cases h1 : r < 4094
  · go_enter Tryz.func4, Tryz.ntmps4
    go_wp2_with (go_at_call 6; refine (any_Known _ hw).mono ?_; rintro e w1 ⟨rfl, hb⟩)
    go_ret
    exact ⟨rfl, hb⟩
  by_cases h2 : 4098 < r
  · go_enter Tryz.func4, Tryz.ntmps4
    go_wp2_with (go_at_call 6; refine (any_Known _ hw).mono ?_; rintro e w1 ⟨rfl, hb⟩)
    go_ret
    exact ⟨rfl, hb⟩
  by_cases h3 : c < 63
  · go_enter Tryz.func4, Tryz.ntmps4
    go_wp2_with (go_at_call 6; refine (any_Known _ hw).mono ?_; rintro e w1 ⟨rfl, hb⟩)
    go_ret
    exact ⟨rfl, hb⟩
  by_cases h4 : 65 < c
  · go_enter Tryz.func4, Tryz.ntmps4
    go_wp2_with (go_at_call 6; refine (any_Known _ hw).mono ?_; rintro e w1 ⟨rfl, hb⟩)
    go_ret
    exact ⟨rfl, hb⟩
  obtain ⟨many, rfl⟩ := Int.eq_ofNat_of_zero_le (a := r) (by omega)
  obtain ⟨ops, rfl⟩ := Int.eq_ofNat_of_zero_le (a := c) (by omega)
  by_cases h5 : many ≤ 4096
  · exact long_few many ops (by omega) (by omega) (by omega) h5 W hw
  · exact long_more many ops (by omega) (by omega) (by omega) (by omega) W hw
theorem open_ReplayLongs {H : Type} {enc : TypeId × Value → H} {W : World} {base : Nat} {args : Array Value} {ds : List (DataW H)} {before : List MemPlace}
    (hval : ∀ (j : Nat) (t : TypeId) (v : Value), (#[3, 3] : Array TypeId)[j]? = some t → args[j]? = some v → Value.okWide Tryz.prog W .any base t v)
    (hA : DataW.TrodAll enc Tryz.prog W 0 (fun _ => true) true [3, 3] args.toList ds before)
    (_ : (DataW.weightsEach Tryz.prog Tryz.f4.params.toList ds).all (· ≤ reachBytes) = true)
    (hS : W.ShapedOpen Tryz.prog) (hL : laidMet Tryz.prog Rows.replayLongsRow.laid W) : Calls Tryz.prog 4 args W fun e W' => e = .returned (.bool true) ∧ Below W.heap.size W W' := by
  obtain ⟨v, v', d, d', p, p', rfl, rfl, rfl, h0, h1⟩ := trodAll_two hA
  obtain ⟨r, rfl, rfl, rfl, _⟩ := open_int Tryz.underlying3 (hval 0 3 v rfl rfl) h0
  obtain ⟨c, rfl, rfl, rfl, _⟩ := open_int Tryz.underlying3 (hval 1 3 v' rfl rfl) h1
  exact walk_ReplayLongs r c W (tabs_met hS hL)
end Go.Proofs.YtekbfckpnooloaaGreatDoor
