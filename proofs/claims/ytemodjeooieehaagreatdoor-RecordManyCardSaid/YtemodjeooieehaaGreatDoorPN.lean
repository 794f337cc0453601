/- A part of the proof of RecordMany. -/
import Derived.Test.YtemodjeooieehaaGreatDoorPV
import Derived.Deep.QuietTactic
import Derived.BigQuiet
import Derived.StillTailTactics
import Derived.OwnWalk
import Derived.IntWalk
namespace Go.Proofs.YtemodjeooieehaaGreatDoor
open Go.RowKit Go.Rep
set_option maxRecDepth 100000
abbrev zero6 : Array Value := #[.int .i64 0, .int .i64 0, .string { data := #[] }, .int .i64 0, .int .i64 0, .int .i64 0]
theorem ev_info : (Tryz.prog.info? 32).map (fun i => (i.zero, i.size, i.bytes)) = some (some (.agg zero6), 6, 56) := by kernel_rfl
abbrev zeroRec : Array Value := #[.int .i64 0, .int .i64 0, .int .i64 0, .slice none 0 0]
def JoinP (r c h : Int) (l : List Ev) (w : World) (e : Ending) (w' : World) : Prop :=
  (validB r c h l = false → e = .returned (.tuple #[.agg zeroRec, .int .i64 2]) ∧ Below w.heap.size w w') ∧
  (validB r c h l = true → ∃ v, e = .returned (.tuple #[.agg #[.int .i64 r, .int .i64 c, .int .i64 h, v], .int .i64 0]) ∧ w'.ownsRow w.heap.size 32 6 v (joinTo l l.length).length (evCells (joinTo l l.length)) ∧ Below w.heap.size w w')
theorem res_rec {fn : Func} {t u : Tmp} (e : fn.results = #[.cell t 27, .tmp u]) {w1 : World} {b : Nat} {x0 x1 x2 v t3 : Value} {tmps : Array Value} (q0 : w1.cell? ⟨b, 0, none⟩ = some x0) (q1 : w1.cell? ⟨b, 1, none⟩ = some x1) (q2 : w1.cell? ⟨b, 2, none⟩ = some x2) (q3 : w1.cell? ⟨b, 3, none⟩ = some v)
    (ht : tmps[t]?.getD undef = .pointer (some ⟨b, 0, none⟩)) (h3 : tmps[u]?.getD undef = t3) :
    (results fn tmps).run Tryz.prog w1 = .ok (.tuple #[.agg #[x0, x1, x2, v], t3]) w1 := by
  simp [results, e, go_sem, q0, q1, q2, q3, ht, h3]
set_option maxHeartbeats 2000000 in
theorem join_no {r c h : Int} {A : Option Addr} {m cp B : Nat} {l : List Ev} {w : World} (hr : Reads w B 6 A m (evCells l)) (hB : B ≤ w.heap.size) (hc : cp ≤ maxLen) (hmc : m ≤ cp) (hv : validB r c h l = false) :
    Calls Tryz.prog 9 #[.agg #[.int .i64 r, .int .i64 c, .int .i64 h, .slice A m cp]] w fun e w' => e = .returned (.tuple #[.agg zeroRec, .int .i64 2]) ∧ Below w.heap.size w w' := by
  have HV := Lib.hid hv
  clear hv
  go_enter Tryz.func9, Tryz.ntmps9
  go_wp2_with (go_at_call 6; refine (valid_any ((hr.alloc hB _).alloc (by simp; omega) _) (by simp; omega) hc hmc).mono ?_; rintro e w1 ⟨rfl, hb1⟩; rw [HV.out]; have b2 : Blk w1 (w.heap.size + 1) 27 zeroRec := (congrArg (fun n => Blk w1 n 27 zeroRec) (show (w.alloc (.cells #[.int .i64 r, .int .i64 c, .int .i64 h, .slice A m cp] 27)).heap.size = w.heap.size + 1 by simp)).mp ((Blk.new (w.alloc (.cells #[.int .i64 r, .int .i64 c, .int .i64 h, .slice A m cp] 27)) 27 zeroRec).below hb1 (by simp)); have p0 : w1.cell? ⟨w.heap.size + 1, 0, none⟩ = some (.int .i64 0) := b2.cell 0; have p1 : w1.cell? ⟨w.heap.size + 1, 1, none⟩ = some (.int .i64 0) := b2.cell 1; have p2 : w1.cell? ⟨w.heap.size + 1, 2, none⟩ = some (.int .i64 0) := b2.cell 2; have p3 : w1.cell? ⟨w.heap.size + 1, 3, none⟩ = some (.slice none 0 0) := b2.cell 3; have f0 : w1.frozen? ⟨w.heap.size + 1, 0, none⟩ = false := b2.frozen 0; have f1 : w1.frozen? ⟨w.heap.size + 1, 1, none⟩ = false := b2.frozen 1; have f2 : w1.frozen? ⟨w.heap.size + 1, 2, none⟩ = false := b2.frozen 2; have f3 : w1.frozen? ⟨w.heap.size + 1, 3, none⟩ = false := b2.frozen 3)
  have hb2 : Below w.heap.size w w1 := Below.trans (((Below.refl w.heap.size w).alloc (Nat.le_refl _) _).alloc (by simp) _) (hb1.mono (by simp; omega))
  have hle : w.heap.size ≤ w.heap.size + 1 := by omega
  have b3 := (((b2.set_ 0 (.int .i64 0)).set_ 1 (.int .i64 0)).set_ 2 (.int .i64 0)).set_ 3 (.slice none 0 0)
  refine bodyPost_ret (res_rec rfl (b3.cell 0) (b3.cell 1) (b3.cell 2) (b3.cell 3) rfl rfl) rfl ?_
  exact ⟨rfl, (((hb2.setCell hle _).setCell hle _).setCell hle _).setCell hle _⟩
end Go.Proofs.YtemodjeooieehaaGreatDoor
