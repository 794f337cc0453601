/- A part of the proof of ReplayLongs. -/
import Derived.Test.YtekbfckpnooloaaGreatDoorWYes
import Derived.Test.YtekbfckpnooloaaGreatDoorAbsP
import Derived.WalkKit
import Derived.ProofKit
import Derived.LoopTactic
import Derived.OwnWalk
namespace Go.Proofs.YtekbfckpnooloaaGreatDoor
open Go.RowKit Go.Rep
set_option maxRecDepth 100000
/-- F11: an operation that writes. -/
theorem wop_any (s : ByteArray) (w : World) : Calls Tryz.prog 11 #[.string s] w fun e w' => e = .returned (.agg #[.int .i64 1, .string s, .int .i64 0, .int .i64 0, .int .i64 0]) ∧ Below w.heap.size w w' := by
  go_enter Tryz.func11, Tryz.ntmps11
  go_wp2
  refine bodyPost_ret (v := .agg #[.int .i64 1, .string s, .int .i64 0, .int .i64 0, .int .i64 0]) (by simp [results, Tryz.results11, go_sem]) rfl ⟨rfl, ?_⟩
  exact (Below.refl _ _).alloc (Nat.le_refl _) _
/-- A script that is too long. -/
theorem parse_long {A : Option Addr} {n c : Nat} (w : World) (h : 4096 < n) : Calls Tryz.prog 9 #[.slice A n c] w fun e w' => e = .returned (.tuple #[.slice none 0 0, .int .i64 5]) ∧ w = w' := by
  go_enter Tryz.func9, Tryz.ntmps9
  go_wp2
  go_ret2
  exact ⟨rfl, rfl⟩
theorem run_long {A : Option Addr} {n c : Nat} (w : World) (h : 4096 < n) : Calls Tryz.prog 10 #[.agg #[.int .i64 1, .int .i64 1, .int .i64 0], .slice A n c] w fun e w' => e = .returned (.tuple #[.pointer none, .int .i64 5]) ∧ Below w.heap.size w w' := by
  go_enter Tryz.func10, Tryz.ntmps10
  go_wp2_with (go_at_call 9; refine (parse_long _ h).mono ?_; rintro e w1 ⟨rfl, rfl⟩)
  go_ret2
  exact ⟨rfl, (Below.refl _ _).alloc (Nat.le_refl _) _⟩
end Go.Proofs.YtekbfckpnooloaaGreatDoor
