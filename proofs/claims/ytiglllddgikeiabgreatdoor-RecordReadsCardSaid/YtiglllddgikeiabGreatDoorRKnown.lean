/- The run of the law by the evaluator returns true, whatever the numbers. -/
import Derived.Test.YtiglllddgikeiabGreatDoorGood
import Derived.Test.YtiglllddgikeiabGreatDoorQKnowna
import Derived.Test.YtiglllddgikeiabGreatDoorAbsR
namespace Go.Proofs.YtiglllddgikeiabGreatDoor
open Go.Abs
set_option maxRecDepth 100000
noncomputable def recs_Known : List Rec := [rKnown0, rKnown1, rKnown2]
theorem look_Known : LookSound Tryz.prog (fun f args h => (recsRun recs_Known f args h).opt) := (look_cons sKnown0 (look_cons sKnown1 (look_cons sKnown2 look_nil)))
/-- The variable ErrSyntax; where it leads lies an object of which nothing is known. -/
noncomputable def err0 : Tab := ⟨0, 79, 1, [.iface 263 (.ptr (some ⟨15, 0, 0⟩))]⟩
theorem run_Known : (fstep okMask Tryz.prog (fcallO Tryz.prog okMask 12884901888 60 (recsRun recs_Known) noY) (fun i hd => fcallO Tryz.prog okMask 12884901888 60 (recsRun recs_Known) (fext noY i hd)) 6 [] (Abs.start 16 (err0 :: tabs))).val = some (.bool true) := by kernel_rfl
end Go.Proofs.YtiglllddgikeiabGreatDoor
