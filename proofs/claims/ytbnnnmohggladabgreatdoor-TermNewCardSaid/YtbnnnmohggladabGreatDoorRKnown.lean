/- The run of the law by the evaluator returns true, whatever the numbers. -/
import Derived.Test.YtbnnnmohggladabGreatDoorGood
import Derived.Test.YtbnnnmohggladabGreatDoorQKnowna
import Derived.Test.YtbnnnmohggladabGreatDoorQKnownb
import Derived.Test.YtbnnnmohggladabGreatDoorQKnownc
import Derived.Test.YtbnnnmohggladabGreatDoorAbsR
namespace Go.Proofs.YtbnnnmohggladabGreatDoor
open Go.Abs
set_option maxRecDepth 100000
noncomputable def recs_Known : List Rec := [rKnown0, rKnown1, rKnown2, rKnown3, rKnown4, rKnown5, rKnown6, rKnown7, rKnown8, rKnown9, rKnown10]
theorem look_Known : LookSound Tryz.prog (fun f args h => (recsRun recs_Known f args h).opt) := (look_cons sKnown0 (look_cons sKnown1 (look_cons sKnown2 (look_cons sKnown3 (look_cons sKnown4 (look_cons sKnown5 (look_cons sKnown6 (look_cons sKnown7 (look_cons sKnown8 (look_cons sKnown9 (look_cons sKnown10 look_nil)))))))))))
theorem run_Known : (fstep okMask Tryz.prog (fcallO Tryz.prog okMask 12986543856688543303680 60 (recsRun recs_Known) noY) (fun i hd => fcallO Tryz.prog okMask 12986543856688543303680 60 (recsRun recs_Known) (fext noY i hd)) 5 [] (Abs.start 15 tabs)).val = some (.bool true) := by kernel_rfl
end Go.Proofs.YtbnnnmohggladabGreatDoor
