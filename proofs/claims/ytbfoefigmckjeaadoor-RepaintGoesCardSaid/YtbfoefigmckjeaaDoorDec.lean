/- The function decimal of the statements answers the decimal numeral of each number below 10000. No conditions. -/
import Derived.Test.YtbfoefigmckjeaaDoorKnown
namespace Go.Abs
set_option maxRecDepth 100000
theorem d0 : allF okDec 1000 0 = true := by kernel_rfl
theorem d1 : allF okDec 1000 1000 = true := by kernel_rfl
theorem d2 : allF okDec 1000 2000 = true := by kernel_rfl
theorem d3 : allF okDec 1000 3000 = true := by kernel_rfl
theorem d4 : allF okDec 1000 4000 = true := by kernel_rfl
theorem d5 : allF okDec 1000 5000 = true := by kernel_rfl
theorem d6 : allF okDec 1000 6000 = true := by kernel_rfl
theorem d7 : allF okDec 1000 7000 = true := by kernel_rfl
theorem d8 : allF okDec 1000 8000 = true := by kernel_rfl
theorem d9 : allF okDec 1000 9000 = true := by kernel_rfl
end Go.Abs

namespace Go.Abs
open Go.Proofs Go.RowKit
set_option maxRecDepth 100000
theorem okDec_all (n : Nat) (h : n < 10000) : okDec n = true := by
  have hn : n = 1000 * (n / 1000) + n % 1000 := by omega
  have h2 : n % 1000 < 1000 := by omega
  have h3 : n / 1000 < 10 := by omega
  generalize n / 1000 = q at hn h3
  generalize n % 1000 = r at hn h2
  subst hn
  have hq : q = 0 ∨ q = 1 ∨ q = 2 ∨ q = 3 ∨ q = 4 ∨ q = 5 ∨ q = 6 ∨ q = 7 ∨ q = 8 ∨ q = 9 := by omega
  rcases hq with rfl | rfl | rfl | rfl | rfl | rfl | rfl | rfl | rfl | rfl
  · exact allF_get okDec _ _ d0 r h2
  · exact allF_get okDec _ _ d1 r h2
  · exact allF_get okDec _ _ d2 r h2
  · exact allF_get okDec _ _ d3 r h2
  · exact allF_get okDec _ _ d4 r h2
  · exact allF_get okDec _ _ d5 r h2
  · exact allF_get okDec _ _ d6 r h2
  · exact allF_get okDec _ _ d7 r h2
  · exact allF_get okDec _ _ d8 r h2
  · exact allF_get okDec _ _ d9 r h2
theorem gsize : Tryd.prog.globals.size = 7 := by kernel_rfl
theorem globals_le {P : Program} {B : Nat} {σ : Real} {h : Heap} {w : World} (H : Rel P B σ h w) : P.globals.size ≤ w.heap.size := by
  rcases Nat.eq_zero_or_pos P.globals.size with e | e
  · omega
  · obtain ⟨b, h1, h2, _⟩ := H.glob (P.globals.size - 1) (by omega)
    have := H.live _ _ _ h1
    omega
theorem enters21 {c : Code} (hb : Tryd.f21.body = some c) (args : Array Value) (w : World) : (callFunc 21 args).run Tryd.prog w = .ok (.enter 21 args) w := by
  have h1 : Tryd.f21.name ≠ "runtime.NumGoroutine" := by decide
  simp [callFunc, Tryd.func21, h1, hb]
def DecAt (n : Nat) : Prop := ∀ w : World, Tryd.prog.globals.size ≤ w.heap.size → Calls Tryd.prog 21 #[.int .i64 n] w fun e w' => e = .returned (.string ⟨(dec 6 n).toArray⟩) ∧ Below w.heap.size w w'
theorem spec_sound {B : Nat} {m : Nat} (ih : ∀ k, k < m → DecAt k) : CallSound Tryd.prog B (spec m) := by
  intro f args h v h' σ w o a K Q hc H hargs hfree hK
  unfold spec at hc
  split at hc
  · rename_i n
    split at hc
    · rename_i hlt
      rw [Nat.blt_eq] at hlt
      cases hc
      obtain ⟨c, hb⟩ : ∃ c, Tryd.f21.body = some c := ⟨_, rfl⟩
      rw [show (concs σ [AVal.int .i64 (.ofNat n)]).toArray = #[Value.int .i64 (n : Int)] from rfl, enters21 hb]
      rw [Oper.upon_enter]
      refine (ih n hlt w (globals_le H)).mono fun e w' he => ?_
      obtain ⟨rfl, hb⟩ := he
      exact hK σ w' trivial (Post.of_below H hb)
    · cases hc
  · cases hc
theorem dec_at : ∀ n, n < 10000 → DecAt n := by
  intro n
  induction n using Nat.strongRecOn with
  | _ n ih =>
    intro hn w hw
    have hok := okDec_all n hn
    unfold okDec at hok
    split at hok
    · rename_i s h' hs
      have hse : s = dec 6 n := by simpa using hok
      subst hse
      rw [← gsize] at hs
      have H : Rel Tryd.prog w.heap.size (startAt Tryd.prog.globals.size []) (start Tryd.prog.globals.size []) w := start_rel hw (fun t ht => by cases ht)
      refine (calls_step Tryd.checked.mixed (good_of good) (spec_sound fun k hk => ih k hk (by omega)) hs Tryd.func21 rfl H ⟨trivial, trivial⟩ (start_free _ _ _)).mono fun e w' he => ?_
      obtain ⟨σ', h1, h2, h3⟩ := he
      exact ⟨h1, h3.below H⟩
    · cases hok
end Go.Abs
