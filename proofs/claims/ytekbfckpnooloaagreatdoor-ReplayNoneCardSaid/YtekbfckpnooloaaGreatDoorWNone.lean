/- A part of the proof of ReplayNone. -/
import Derived.Test.YtekbfckpnooloaaGreatDoorWYes
import Derived.Test.YtekbfckpnooloaaGreatDoorAbsP
import Derived.WalkKit
import Derived.ProofKit
import Derived.LoopTactic
import Derived.Outline
namespace Go.Proofs.YtekbfckpnooloaaGreatDoor
open Go.RowKit Go.Abs Go.Rep Go.ChangeShapes Go.WideShapes
set_option maxRecDepth 100000
theorem zero_nil (w : World) : Calls Tryz.prog 29 #[.pointer none] w fun e w' => e = .returned (.bool true) ∧ w = w' := by
  go_enter Tryz.func29, Tryz.ntmps29
  go_wp2
  go_ret
  exact ⟨rfl, rfl⟩
theorem zero_empty {w : World} {N : Nat} (h : w.cell? ⟨N, 1, none⟩ = some (.pointer none)) : Calls Tryz.prog 29 #[.pointer (some ⟨N, 0, none⟩)] w fun e w' => e = .returned (.bool true) ∧ w = w' := by
  go_enter Tryz.func29, Tryz.ntmps29
  go_wp2
  go_ret
  exact ⟨rfl, rfl⟩
theorem all_zero {w : World} {p : Value} (hz : Calls Tryz.prog 29 #[p] w fun e w' => e = .returned (.bool true) ∧ w = w') :
    Calls Tryz.prog 25 #[p] w fun e w' => e = .returned (.tuple #[.slice none 0 0, .int .i64 0, .int .i64 1]) ∧ w = w' := by
  go_enter Tryz.func25, Tryz.ntmps25
  go_wp2_with (go_at_call 29; refine hz.mono ?_; rintro e w1 ⟨rfl, rfl⟩)
  go_ret3
  exact ⟨rfl, rfl⟩
theorem do_zero {w : World} {p v : Value} (hz : Calls Tryz.prog 29 #[p] w fun e w' => e = .returned (.bool true) ∧ w = w') :
    Calls Tryz.prog 13 #[p, v] w fun e w' => e = .returned (.int .i64 1) ∧ w = w' := by
  go_enter Tryz.func13, Tryz.ntmps13
  go_wp2_with (go_at_call 25; refine (all_zero hz).mono ?_; rintro e w1 ⟨rfl, rfl⟩)
  go_ret
  exact ⟨rfl, rfl⟩
set_option maxHeartbeats 1000000 in
theorem walk_ReplayNone {A : Option Addr} {n c : Nat} (W : World) (hw : Tabbed W) (hs : ∀ i, i < n → ∃ ad s, A = some ad ∧ W.cell? (ad.add (i * 5 + 1)) = some (.string s) ∧ s.size ≤ maxLen) :
    Calls Tryz.prog 5 #[.slice A n c] W (Yes W.heap.size W) := by
  by_cases h10 : 10 < n
  · go_enter Tryz.func5, Tryz.ntmps5
    go_wp2_with (go_at_call 6; refine (any_Known _ hw).mono ?_; rintro e w1 ⟨rfl, hb⟩)
    go_ret
    exact ⟨rfl, hb⟩
  · go_enter Tryz.func5, Tryz.ntmps5
    go_wp2
    go_loop [3] (fun i => ∃ k : Nat, k ≤ n ∧ i = .int .i64 k) (fun i => n - (intOf i).toNat)
    case atStart => exact ⟨0, Nat.zero_le _, rfl⟩
    case round =>
      obtain ⟨k, hk, rfl⟩ := hrel
      by_cases hlt : k < n
      · obtain ⟨ad, s, rfl, hcell, hm⟩ := hs k hlt
        rw [← add_of_add, add_lit' _ (by omega)] at hcell
        unfold maxLen at hm
        by_cases h80 : 80 < s.size
        · go_wp2_with (go_at_call 6; refine (any_Known _ hw).mono ?_; rintro e w1 ⟨rfl, hb⟩)
          go_ret
          exact ⟨rfl, hb⟩
        · go_wp2
          go_round
          case rel => exact ⟨k + 1, by omega, by go_num⟩
          case measure => simp [intOf]; omega
      · go_wp2_with (first
          | (go_at_call 13; (with_reducible refine (do_zero (zero_nil _)).mono ?_); rintro e w1 ⟨rfl, rfl⟩)
          | (go_at_call 13; refine (do_zero (zero_empty (by simp))).mono ?_; rintro e w1 ⟨rfl, rfl⟩)
          | (go_at_call 6; refine (any_Known _ (tab_up hw.1 ((Below.refl _ _).alloc (Nat.le_refl _) _) hw)).mono ?_; rintro e w4 ⟨rfl, hb4⟩))
        go_ret
        exact ⟨rfl, ((Below.refl _ _).alloc (Nat.le_refl _) _).trans (hb4.mono (by simp))⟩
theorem open_ReplayNone {H : Type} {enc : TypeId × Value → H} {W : World} {base : Nat} {args : Array Value} {ds : List (DataW H)} {before : List MemPlace}
    (hval : ∀ (j : Nat) (t : TypeId) (v : Value), (#[26] : Array TypeId)[j]? = some t → args[j]? = some v → Value.okWide Tryz.prog W .any base t v)
    (hA : DataW.TrodAll enc Tryz.prog W 0 (fun _ => true) true [26] args.toList ds before)
    (_ : (DataW.weightsEach Tryz.prog Tryz.f5.params.toList ds).all (· ≤ reachBytes) = true)
    (hS : W.ShapedOpen Tryz.prog) (hL : laidMet Tryz.prog Rows.replayNoneRow.laid W) : Calls Tryz.prog 5 args W fun e W' => e = .returned (.bool true) ∧ Below W.heap.size W W' := by
  obtain ⟨v, d, rfl, rfl, h0⟩ := trodAll_one hA
  obtain ⟨A, n, c, rfl, _, _, _, hs⟩ := open_slice_strings Tryz.underlying26 Tryz.underlying38 (by kernel_rfl) (by kernel_rfl) (hval 0 26 v rfl rfl) h0 (j := 1) rfl Tryz.underlying9
  exact walk_ReplayNone W (tabs_met hS hL) hs
end Go.Proofs.YtekbfckpnooloaaGreatDoor
