/- A part of the proof of ScreenReplies. -/
import Derived.Test.YtmoeainaojbiiaaGreatDoorSDef
namespace Go.Proofs.YtmoeainaojbiiaaGreatDoor
open Go.Abs
set_option maxRecDepth 100000
theorem made_ends : endsAt 15 (.ptr (some scrAt)) (scr 0) 60 (fstep okMask Tryz.prog (fcallO Tryz.prog okMask 0 60 noS noY) (fun i hd => fcallO Tryz.prog okMask 0 60 noS (fext noY i hd)) 6 [.agg [.int .i64 (.ofNat 2), .int .i64 (.ofNat 9), .int .i64 (.ofNat 0)]] (heapL (tabObjs tabs) 15)) = true := by kernel_rfl
theorem full_ends : fullAt = true := by kernel_rfl
end Go.Proofs.YtmoeainaojbiiaaGreatDoor
