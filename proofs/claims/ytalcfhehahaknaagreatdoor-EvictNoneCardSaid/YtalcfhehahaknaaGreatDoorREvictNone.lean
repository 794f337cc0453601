/- The run of the law by the evaluator returns true, whatever the numbers. -/
import Derived.Test.YtalcfhehahaknaaGreatDoorGood
namespace Go.Proofs.YtalcfhehahaknaaGreatDoor
open Go.Abs
set_option maxRecDepth 100000
/-- The run, whatever the numbers. -/
theorem run_EvictNone (n0 n1 n2 : Int) : (fcall Tryz.prog okMask 60 3 [.int .i64 n0, .agg [.int .i64 n1, .int .i64 n2]] (Abs.start 15 tabs)).val = some (.bool true) := by kernel_rfl
end Go.Proofs.YtalcfhehahaknaaGreatDoor
