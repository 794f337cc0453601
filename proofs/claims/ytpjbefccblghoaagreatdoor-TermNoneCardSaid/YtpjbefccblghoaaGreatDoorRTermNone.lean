/- The run of the law by the evaluator returns true, whatever the numbers. -/
import Derived.Test.YtpjbefccblghoaaGreatDoorGood
import Derived.Test.YtpjbefccblghoaaGreatDoorQTermNonea
import Derived.Test.YtpjbefccblghoaaGreatDoorQTermNoneb
import Derived.Test.YtpjbefccblghoaaGreatDoorQTermNonec
namespace Go.Proofs.YtpjbefccblghoaaGreatDoor
open Go.Abs
set_option maxRecDepth 100000
noncomputable def recs_TermNone : List Rec := [rTermNone0, rTermNone1, rTermNone2, rTermNone3, rTermNone4, rTermNone5, rTermNone6, rTermNone7, rTermNone8, rTermNone9, rTermNone10]
theorem look_TermNone : LookSound Tryz.prog (fun f args h => (recsRun recs_TermNone f args h).opt) := (look_cons sTermNone0 (look_cons sTermNone1 (look_cons sTermNone2 (look_cons sTermNone3 (look_cons sTermNone4 (look_cons sTermNone5 (look_cons sTermNone6 (look_cons sTermNone7 (look_cons sTermNone8 (look_cons sTermNone9 (look_cons sTermNone10 look_nil)))))))))))
/-- The run, whatever the numbers. -/
theorem run_TermNone (n0 n1 : Int) : (fstep okMask Tryz.prog (fcallO Tryz.prog okMask 792634084173053952 60 (recsRun recs_TermNone) noY) (fun i hd => fcallO Tryz.prog okMask 792634084173053952 60 (recsRun recs_TermNone) (fext noY i hd)) 3 [.int .i64 n0, .int .i64 n1] (Abs.start 15 tabs)).val = some (.bool true) := by kernel_rfl
end Go.Proofs.YtpjbefccblghoaaGreatDoor
