/- A part of the proof of ReplayParses. -/
import Derived.Test.YtekbfckpnooloaaGreatDoorPD
import Derived.Test.YtekbfckpnooloaaGreatDoorPE
import Derived.Test.YtekbfckpnooloaaGreatDoorPF
import Derived.Test.YtekbfckpnooloaaGreatDoorWYes
import Derived.Test.YtekbfckpnooloaaGreatDoorAbsP
namespace Go.Proofs.YtekbfckpnooloaaGreatDoor
open Go.RowKit Go.Abs Go.Rep Go.ChangeShapes Go.WideShapes
set_option maxRecDepth 100000
theorem parses_true {A : Option Addr} {n c B base : Nat} {l : List UInt8} {w : World} {vw : Value} (hr : Reads w B 1 A n (bcells l)) (hB : B ≤ w.heap.size) (hn : n ≤ 4096) (hnc : n ≤ c) (hc : c ≤ maxLen)
    (hv : w.ownsRow base 38 5 vw (opsAt l 0).length (opCells (opsAt l 0))) : Calls Tryz.prog 7 #[.slice A n c, .int .i64 0, vw] w (Yes w.heap.size w) := by
  obtain ⟨A2, c2, rfl, _, _, hy⟩ := own_slice hv
  have hm : (opsAt l 0).length ≤ 4096 := by have := opsAt_length l 0; have := hr.bytes; omega
  go_enter Tryz.func7, Tryz.ntmps7
  go_wp2_with (first
    | (go_at_call 9; refine (parse_any hr hB hn hnc hc).mono ?_; rintro e w1 ⟨v, rfl, hv1, hb1⟩; obtain ⟨A1, c1, rfl, _, _, hx⟩ := own_slice hv1; have hy1 := hy.below hb1)
    | (go_at_call 21; refine (same_any hx hy1 hm).mono ?_; rintro e w2 ⟨rfl, q, rfl⟩))
  go_ret
  exact ⟨rfl, hb1.trans ⟨rfl, rfl, rfl, Nat.le_refl _, fun _ _ => rfl⟩⟩
theorem byte_info : (Tryz.prog.info? 5).map (fun i => (i.zero, i.size, i.bytes)) = some (some (.int .u8 0), 1, 1) := by kernel_rfl
theorem byte_cell (l : List UInt8) : ∀ u ∈ bcells l, u.oneCell' = true := by
  intro u hu
  simp only [bcells, List.mem_map] at hu
  obtain ⟨x, _, rfl⟩ := hu
  rfl
set_option maxHeartbeats 1000000 in
theorem walk_ReplayParses {A : Option Addr} {n c : Nat} {l : List UInt8} (W : World) (hw : Tabbed W) (hr : Reads W W.heap.size 1 A n (bcells l)) (hnc : n ≤ c) (hc : c ≤ maxLen) : Calls Tryz.prog 3 #[.slice A n c] W (Yes W.heap.size W) := by
  by_cases h3 : 300 < n
  · go_enter Tryz.func3, Tryz.ntmps3
    go_wp2_with (go_at_call 6; refine (any_Known _ hw).mono ?_; rintro e w1 ⟨rfl, hb⟩)
    go_ret
    exact ⟨rfl, hb⟩
  · obtain ⟨i0, hi, hz0, hz1, hz2⟩ := info_parts byte_info
    go_enter Tryz.func3, Tryz.ntmps3
    go_wp2_with (first
      | (at_builtin; refine wpList_append_any _ rfl (.const (.slice none 0 0)) (.tmp 8) 22 rfl W.heap.size 5 i0 (.int .u8 0) 1 1 Tryz.underlying22 hi hz0 hz1 hz2 rfl (by decide) (.slice none 0 0) 0 [] rfl (World.ownsRow_nil _ _ _ _) W.heap.size A n c (bcells l) rfl hr (byte_cell l) (by unfold maxLen; omega) (by omega) (Nat.le_refl _) ?_; intro v1 w1 hown1 hg1 _; simp only [Nat.zero_add, List.nil_append] at hown1; obtain ⟨A1, c1, rfl, hn1, hc1, hr1⟩ := own_slice hown1; have hb1 := (Below.refl W.heap.size W).grown hg1 (Nat.le_refl _) (fun j e => by simp [Value.ownBlock] at e); have hrb := hr.below hb1)
      | (go_at_call 8; refine (refparse_any hrb hb1.size (by omega) hnc hc).mono ?_; rintro e w2 ⟨v2, rfl, hv2, hb2⟩; have hr2 := hr1.below hb2; have hrb2 := hrb.below (hb2.mono hb1.size); have hb12 := hb1.trans (hb2.mono hb1.size))
      | (go_at_call 7; refine (parses_true hr2 hb2.size (by omega) hn1 hc1 hv2).mono ?_; rintro e w3 ⟨rfl, hb3⟩; have hcv1 := run_conv_reads (P := Tryz.prog) (hr2.below (hb3.mono hb2.size)) 22 5 Tryz.underlying22 Tryz.underlying5 c1 9 Tryz.underlying9; have hcv2 := run_conv_reads (P := Tryz.prog) (hrb2.below (hb3.mono hb12.size)) 22 5 Tryz.underlying22 Tryz.underlying5 c 9 Tryz.underlying9; have hb13 := hb12.trans (hb3.mono hb12.size))
      | (go_at_call 6; refine (any_Known _ (tab_up hw.1 hb13 hw)).mono ?_; rintro e w4 ⟨rfl, hb4⟩))
    go_ret
    exact ⟨rfl, hb13.trans (hb4.mono hb13.size)⟩
theorem open_ReplayParses {H : Type} {enc : TypeId × Value → H} {W : World} {base : Nat} {args : Array Value} {ds : List (DataW H)} {before : List MemPlace}
    (hval : ∀ (j : Nat) (t : TypeId) (v : Value), (#[22] : Array TypeId)[j]? = some t → args[j]? = some v → Value.okWide Tryz.prog W .any base t v)
    (hA : DataW.TrodAll enc Tryz.prog W 0 (fun _ => true) true [22] args.toList ds before)
    (_ : (DataW.weightsEach Tryz.prog Tryz.f3.params.toList ds).all (· ≤ reachBytes) = true)
    (hS : W.ShapedOpen Tryz.prog) (hL : laidMet Tryz.prog Rows.replayParsesRow.laid W) : Calls Tryz.prog 3 args W fun e W' => e = .returned (.bool true) ∧ Below W.heap.size W W' := by
  obtain ⟨v, d, rfl, rfl, h0⟩ := trodAll_one hA
  obtain ⟨A, n, c, l, rfl, hr, hnc, hc⟩ := open_reads_bytes Tryz.underlying22 Tryz.underlying5 (by kernel_rfl) (hval 0 22 v rfl rfl) h0
  exact walk_ReplayParses W (tabs_met hS hL) hr hnc hc
end Go.Proofs.YtekbfckpnooloaaGreatDoor
