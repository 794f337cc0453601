/- A part of the proof of RecordMany. -/
import Derived.Test.YtemodjeooieehaaGreatDoorProg
import Derived.Test.YtemodjeooieehaaGreatDoorAbsP
import Derived.WalkKit
import Derived.ProofKit
import Derived.LoopTactic
import Derived.Outline
namespace Go.Proofs.YtemodjeooieehaaGreatDoor
open Go.RowKit Go.Rep
set_option maxRecDepth 100000
theorem size_any (r c : Int) (w : World) : Calls Tryz.prog 17 #[.int .i64 r, .int .i64 c] w fun e w' => e = .returned (.bool (sizeB r c)) ∧ w = w' := by
  go_enter Tryz.func17, Tryz.ntmps17
  go_wp2
  all_goals
    go_ret
    refine ⟨congrArg Ending.returned (congrArg Value.bool ?_), rfl⟩
    simp [sizeB] <;> omega
set_option maxHeartbeats 1000000 in
theorem allowed_any (o : TOp) (w : World) : Calls Tryz.prog 18 #[.agg #[.int .i64 o.k, .string o.s, .int .i64 o.r, .int .i64 o.c, .int .i64 o.n]] w fun e w' => e = .returned (.bool (okOp o)) ∧ Below w.heap.size w w' := by
  go_enter Tryz.func18, Tryz.ntmps18
  go_wp2_with (go_at_call 17; refine (size_any _ _ _).mono ?_; rintro e w1 ⟨rfl, rfl⟩)
  all_goals
    go_ret
    refine ⟨congrArg Ending.returned (congrArg Value.bool ?_), (Below.refl _ _).alloc (Nat.le_refl _) _⟩
    first
      | (simp [okOp, *]; done)
      | (simp [okOp, *]; omega)
      | (simp_all [okOp]; done)
      | (simp_all [okOp]; omega)
end Go.Proofs.YtemodjeooieehaaGreatDoor
