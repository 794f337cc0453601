/- The run of the law by the evaluator returns true, whatever the numbers. -/
import Derived.Test.YtekbfckpnooloaaGreatDoorGood
import Derived.Test.YtekbfckpnooloaaGreatDoorQKnowna
import Derived.Test.YtekbfckpnooloaaGreatDoorAbsR
namespace Go.Proofs.YtekbfckpnooloaaGreatDoor
open Go.Abs
set_option maxRecDepth 100000
noncomputable def recs_Known : List Rec := [rKnown0]
theorem look_Known : LookSound Tryz.prog (fun f args h => (recsRun recs_Known f args h).opt) := (look_cons sKnown0 look_nil)
theorem run_Known : (fstep okMask Tryz.prog (fcallO Tryz.prog okMask 1024 60 (recsRun recs_Known) noY) (fun i hd => fcallO Tryz.prog okMask 1024 60 (recsRun recs_Known) (fext noY i hd)) 6 [] (Abs.start 15 tabs)).val = some (.bool true) := by kernel_rfl
end Go.Proofs.YtekbfckpnooloaaGreatDoor
