/- The run of the law by the evaluator returns true, whatever the numbers. -/
import Derived.Test.YtiglllddgikeiabGreatDoorGood
namespace Go.Proofs.YtiglllddgikeiabGreatDoor
open Go.Abs
set_option maxRecDepth 100000
theorem same_run : (fcall Tryz.prog okMask 60 9 [.agg [.int .i64 0, .int .i64 0, .int .i64 0, .slice none 0 (.exact 0)], .agg [.int .i64 0, .int .i64 0, .int .i64 0, .slice none 0 (.exact 0)]] (Abs.start 15 tabs)).val = some (.bool true) := by kernel_rfl
end Go.Proofs.YtiglllddgikeiabGreatDoor
