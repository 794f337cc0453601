/- The run of the law by the evaluator returns true, whatever the numbers. -/
import Derived.Test.YtmoeainaojbiiaaGreatDoorGood
import Derived.Test.YtmoeainaojbiiaaGreatDoorQScreenNonea
import Derived.Test.YtmoeainaojbiiaaGreatDoorQScreenNoneb
import Derived.Test.YtmoeainaojbiiaaGreatDoorQScreenNonec
import Derived.Test.YtmoeainaojbiiaaGreatDoorQScreenNoned
namespace Go.Proofs.YtmoeainaojbiiaaGreatDoor
open Go.Abs
set_option maxRecDepth 100000
noncomputable def recs_ScreenNone : List Rec := [rScreenNone0, rScreenNone1, rScreenNone2, rScreenNone3, rScreenNone4, rScreenNone5, rScreenNone6, rScreenNone7, rScreenNone8, rScreenNone9, rScreenNone10, rScreenNone11]
theorem look_ScreenNone : LookSound Tryz.prog (fun f args h => (recsRun recs_ScreenNone f args h).opt) := (look_cons sScreenNone0 (look_cons sScreenNone1 (look_cons sScreenNone2 (look_cons sScreenNone3 (look_cons sScreenNone4 (look_cons sScreenNone5 (look_cons sScreenNone6 (look_cons sScreenNone7 (look_cons sScreenNone8 (look_cons sScreenNone9 (look_cons sScreenNone10 (look_cons sScreenNone11 look_nil))))))))))))
/-- The run, whatever the numbers. -/
theorem run_ScreenNone (n0 n1 : Int) : (fstep okMask Tryz.prog (fcallO Tryz.prog okMask 2061735297024 60 (recsRun recs_ScreenNone) noY) (fun i hd => fcallO Tryz.prog okMask 2061735297024 60 (recsRun recs_ScreenNone) (fext noY i hd)) 4 [.int .i64 n0, .int .i64 n1] (Abs.start 15 tabs)).val = some (.bool true) := by kernel_rfl
end Go.Proofs.YtmoeainaojbiiaaGreatDoor
