/- A part of the proof of ScreenReplies. -/
import Derived.Test.YtmoeainaojbiiaaGreatDoorSWalk
import Derived.Test.YtmoeainaojbiiaaGreatDoorCKnown
import Derived.LoopTactic
import Derived.Outline
namespace Go.Proofs.YtmoeainaojbiiaaGreatDoor
open Go.RowKit Go.Abs Go.ChangeShapes Go.WideShapes
set_option maxRecDepth 100000
theorem tab_up {B : Nat} {w w' : World} (hB : Tryz.prog.globals.size ≤ B) (h : Below B w w') (ht : Tabbed w) : Tabbed w' :=
  ⟨Nat.le_trans ht.1 h.size, fun t htm => by
    obtain ⟨a, b, c, d, e, f⟩ := ht.2 t htm
    exact ⟨a, b, c, d, e, by rw [h.block _ (Nat.lt_of_lt_of_le a hB)]; exact f⟩⟩
theorem says_str {B : Nat} {a : Addr} {k : Nat} {own : Nat → Prop} {w : World} (hk : k ≤ 682) (hS : Scr B a k own w) :
    Calls Tryz.prog 8 #[.pointer (some a)] w fun e w' => ∃ (s : ByteArray) (own' : Nat → Prop), e = .returned (.string s) ∧ s.size = 6 * k ∧ Scr B a 0 own' w' ∧ Below B w w' :=
  (says_any hk hS).mono fun _ _ ⟨own', h1, h2, h3⟩ => ⟨_, own', h1, by simp [ByteArray.size, rep_length], h2, h3⟩
theorem says_no {B : Nat} {a : Addr} {own : Nat → Prop} {w : World} (hS : Scr B a 0 own w) :
    Calls Tryz.prog 8 #[.pointer (some a)] w fun e w' => e = .returned (.string ByteArray.empty) ∧ Below B w w' :=
  (says_any (Nat.zero_le _) hS).mono fun _ _ ⟨_, h1, _, h3⟩ => ⟨h1, h3⟩
/-- Before a round. -/
def Mid (B : Nat) (W : World) (a : Addr) (m : Nat) (i : Value) (wr : World) : Prop :=
  ∃ (k : Nat) (own : Nat → Prop), k ≤ m ∧ i = .int .i64 (k : Int) ∧ Scr B a (min k 682) own wr ∧ Below B W wr
/-- The answer. -/
def Yes (B : Nat) (W : World) (e : Ending) (w' : World) : Prop := e = .returned (.bool true) ∧ Below B W w'
theorem walk_ScreenReplies (m : Nat) (hm : m < 65536) (W : World) (hw : Tabbed W) : Calls Tryz.prog 3 #[.int .u16 (m : Int)] W (Yes W.heap.size W) := by
  by_cases h8 : 800 < m
  · go_enter Tryz.func3, Tryz.ntmps3
    go_wp2_with (go_at_call 5; refine (any_Known _ hw).mono ?_; rintro e w1 ⟨rfl, hb⟩)
    go_ret
    exact ⟨rfl, hb⟩
  · go_enter Tryz.func3, Tryz.ntmps3
    go_wp2_with (go_at_call 6; refine (made_any _ hw).mono ?_; rintro e w1 ⟨a, own, rfl, hS, hb⟩)
    go_loopw [4] (fun i wr => Mid W.heap.size W a m i wr) (fun i _ => m - (intOf i).toNat)
    case atStart => exact ⟨0, own, Nat.zero_le _, rfl, hS, hb⟩
    case round =>
      obtain ⟨k, own', hk, rfl, hS', hb'⟩ := hrel
      by_cases hlt : k < m
      · go_wp2_with (go_at_call 7; refine (does_any hS').mono ?_; rintro e w2 ⟨own2, rfl, hS2, hb2⟩)
        go_roundw
        case rel => exact ⟨k + 1, own2, by omega, by go_num, hS2, hb'.trans hb2⟩
        case measure => simp [intOf]; omega
      · obtain rfl : k = m := by omega
        by_cases h6 : k ≤ 682
        · have hmin : min k 682 = k := by omega
          rw [hmin] at hS'
          clear hmin
          go_wp2_with (first
            | (go_at_call 8; refine (says_str (by omega) hS').mono ?_; rintro e w2 ⟨s2, own2, rfl, hz, hS2, hb2⟩)
            | (go_at_call 8; refine (says_no hS2).mono ?_; rintro e w3 ⟨rfl, hb3⟩)
            | (go_at_call 5; refine (any_Known _ (tab_up hw.1 ((hb'.trans hb2).trans hb3) hw)).mono ?_; rintro e w4 ⟨rfl, hb4⟩))
          go_ret
          have hb5 := (hb'.trans hb2).trans hb3
          exact ⟨rfl, hb5.trans (hb4.mono hb5.size)⟩
        · have hmin : min k 682 = 682 := by omega
          rw [hmin] at hS'
          clear hmin
          go_wp2_with (first
            | (go_at_call 8; refine (says_str (by omega) hS').mono ?_; rintro e w2 ⟨s2, own2, rfl, hz, hS2, hb2⟩)
            | (go_at_call 8; refine (says_no hS2).mono ?_; rintro e w3 ⟨rfl, hb3⟩)
            | (go_at_call 5; refine (any_Known _ (tab_up hw.1 ((hb'.trans hb2).trans hb3) hw)).mono ?_; rintro e w4 ⟨rfl, hb4⟩))
          go_ret
          have hb5 := (hb'.trans hb2).trans hb3
          exact ⟨rfl, hb5.trans (hb4.mono hb5.size)⟩
theorem open_ScreenReplies {H : Type} {enc : TypeId × Value → H} {W : World} {base : Nat} {args : Array Value} {ds : List (DataW H)} {before : List MemPlace}
    (hval : ∀ (j : Nat) (t : TypeId) (v : Value), (#[22] : Array TypeId)[j]? = some t → args[j]? = some v → Value.okWide Tryz.prog W .any base t v)
    (hA : DataW.TrodAll enc Tryz.prog W 0 (fun _ => true) true [22] args.toList ds before)
    (_ : (DataW.weightsEach Tryz.prog Tryz.f3.params.toList ds).all (· ≤ reachBytes) = true)
    (hS : W.ShapedOpen Tryz.prog) (hL : laidMet Tryz.prog Rows.screenRepliesRow.laid W) : Calls Tryz.prog 3 args W fun e W' => e = .returned (.bool true) ∧ Below W.heap.size W W' := by
  obtain ⟨v, d, rfl, rfl, h0⟩ := trodAll_one hA
  obtain ⟨r, rfl, rfl, rfl, hr⟩ := open_int Tryz.underlying22 (hval 0 22 v rfl rfl) h0
  have hb : 0 ≤ r ∧ r ≤ 65535 := by
    simp [Lit.wf, IntKind.min, IntKind.max, IntKind.signed, IntKind.bits] at hr
    exact hr
  obtain ⟨m, rfl⟩ := Int.eq_ofNat_of_zero_le hb.1
  exact walk_ScreenReplies m (by have := hb.2; omega) W (tabs_met hS hL)
end Go.Proofs.YtmoeainaojbiiaaGreatDoor
