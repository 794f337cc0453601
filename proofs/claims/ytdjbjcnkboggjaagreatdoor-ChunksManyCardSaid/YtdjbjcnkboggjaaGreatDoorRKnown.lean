/- The run of the law by the evaluator returns true, whatever the numbers. -/
import Derived.Test.YtdjbjcnkboggjaaGreatDoorGood
import Derived.Test.YtdjbjcnkboggjaaGreatDoorT2
import Derived.Test.YtdjbjcnkboggjaaGreatDoorAbsH
namespace Go.Proofs.YtdjbjcnkboggjaaGreatDoor
open Go.Abs
set_option maxRecDepth 100000
open Go.RowKit Go.Rep
/-- Cut of 5000 bytes into pieces of one byte each: an error. -/
noncomputable def rHand : Rec := {
  f := 6
  next := 108
  args := [.slice (some ⟨106, 0, 0⟩) 5000 (.exact 5000), .slice (some ⟨107, 0, 0⟩) 1 (.exact 1)]
  objs := [(106, .cells (ACells.made 5 1 (List.replicate 5000 (.int .u8 (.ofNat 0))))), (107, .cells (ACells.made 5 1 [.int .u8 (.ofNat 1)]))]
  v := .tuple [.slice none 0 (.exact 0), .int .i64 (.ofNat 5)]
  out := []
  next' := 108
  low := 108 }
theorem hand_name : Tryz.f6.name ≠ "runtime.NumGoroutine" := by decide
theorem sHand : RecSound Tryz.prog rHand := by
  refine rec_hand Tryz.func6 rfl hand_name rfl rfl (fun σ => ⟨⟨_, rfl⟩, trivial, trivial⟩) fun B σ h w H hin hargs => ?_
  obtain ⟨A, e1, r1⟩ := H.reads_made (l := List.replicate 5000 0) hargs.1 (hin (106, _) (List.mem_cons_self ..)) (List.length_replicate ..) (zeros_conc 5000)
  obtain ⟨Ac, e2, r2⟩ := H.reads_made (l := [1]) hargs.2.1 (hin (107, _) (List.mem_cons_of_mem _ (List.mem_cons_self ..))) rfl (fun _ => rfl)
  have e : concs σ rHand.args = [.slice A 5000 5000, .slice Ac 1 1] := by
    show [conc σ _, conc σ _] = _
    rw [e1, e2]
  rw [e]
  exact zeros_long (Nat.le_refl _) (by decide) (by decide) (Nat.le_refl _) r1 r2
theorem look_Known : LookSound Tryz.prog (fun f args h => (recsRun [rHand] f args h).opt) := look_cons sHand look_nil
theorem run_Known : (fstep okMask Tryz.prog (fcallO Tryz.prog okMask 64 60 (recsRun [rHand]) noY) (fun i hd => fcallO Tryz.prog okMask 64 60 (recsRun [rHand]) (fext noY i hd)) 5 [] (Abs.start 15 tabs)).val = some (.bool true) := by kernel_rfl
end Go.Proofs.YtdjbjcnkboggjaaGreatDoor
