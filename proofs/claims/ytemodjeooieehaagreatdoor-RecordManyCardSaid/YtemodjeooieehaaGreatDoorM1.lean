/- A part of the proof of RecordMany. -/
import Derived.Test.YtemodjeooieehaaGreatDoorPJ
import Derived.Test.YtemodjeooieehaaGreatDoorCKnown
import Derived.WalkKit
import Derived.ProofKit
import Derived.LoopTactic
import Derived.OwnWalk
import Derived.RegionTactic
import Derived.Deep.QuietTactic
import Derived.Deep.DeepCutAuto
import Derived.Deep.CutBlock
import Derived.Deep.RegionLaw
import Derived.Deep.AppendLies
namespace Go.Proofs.YtemodjeooieehaaGreatDoor
open Go.RowKit Go.Rep
set_option maxRecDepth 100000
theorem write_any (s : ByteArray) (w : World) : Calls Tryz.prog 5 #[.int .i64 7, .string s] w fun e w' => e = .returned (.agg #[.int .i64 7, .int .i64 1, .string s, .int .i64 0, .int .i64 0, .int .i64 0]) ∧ Below w.heap.size w w' := by
  go_enter Tryz.func5, Tryz.ntmps5
  go_wp2
  refine bodyPost_ret (v := .agg #[.int .i64 7, .int .i64 1, .string s, .int .i64 0, .int .i64 0, .int .i64 0]) (by simp [results, Tryz.results5, go_sem]) rfl ⟨rfl, ?_⟩
  exact (Below.refl _ _).alloc (Nat.le_refl _) _
section
variable {r c h : Int} {A : Option Addr} {m cp B : Nat} {l : List Ev} {w : World}
theorem text_no (hr : Reads w B 6 A m (evCells l)) (hB : B ≤ w.heap.size) (hc : cp ≤ maxLen) (hmc : m ≤ cp) (hv : validB r c h l = false) :
    Calls Tryz.prog 19 #[.agg #[.int .i64 r, .int .i64 c, .int .i64 h, .slice A m cp]] w fun e w' => e = .returned (.tuple #[.string ⟨#[]⟩, .int .i64 2]) ∧ Below w.heap.size w w' := by
  have HV := Lib.hid hv
  clear hv
  go_enter Tryz.func19, Tryz.ntmps19
  go_wp2_with (go_at_call 6; refine (valid_any (hr.alloc hB _) (by simp; omega) hc hmc).mono ?_; rintro e w1 ⟨rfl, hb1⟩; rw [HV.out])
  go_ret2
  exact ⟨rfl, ((Below.refl _ _).alloc (Nat.le_refl _) _).trans (hb1.mono (by simp))⟩
theorem texts_no (hr : Reads w B 6 A m (evCells l)) (hB : B ≤ w.heap.size) (hc : cp ≤ maxLen) (hmc : m ≤ cp) (hv : validB r c h l = false) :
    Calls Tryz.prog 7 #[.agg #[.int .i64 r, .int .i64 c, .int .i64 h, .slice A m cp], .string ⟨#[]⟩, .int .i64 2] w fun e w' => e = .returned (.bool true) ∧ Below w.heap.size w w' := by
  have HV := Lib.hid hv
  clear hv
  go_enter Tryz.func7, Tryz.ntmps7
  go_wp2_with (go_at_call 19; refine (text_no (hr.alloc hB _) (by simp; omega) hc hmc HV.out).mono ?_; rintro e w1 ⟨rfl, hb1⟩)
  go_ret
  exact ⟨rfl, ((Below.refl _ _).alloc (Nat.le_refl _) _).trans (hb1.mono (by simp))⟩
theorem joins_no (hw : Laid w) (hr : Reads w B 6 A m (evCells l)) (hB : B ≤ w.heap.size) (hc : cp ≤ maxLen) (hmc : m ≤ cp) (hv : validB r c h l = false) :
    Calls Tryz.prog 8 #[.agg #[.int .i64 r, .int .i64 c, .int .i64 h, .slice A m cp], .agg zeroRec, .int .i64 2] w fun e w' => e = .returned (.bool true) ∧ Below w.heap.size w w' := by
  have HV := Lib.hid hv
  clear hv
  have hG : Tryz.prog.globals.size ≤ w.heap.size := hw.size
  go_enter Tryz.func8, Tryz.ntmps8
  go_wp2_with (first
    | (go_at_call 9; refine (join_no ((hr.alloc hB _).alloc (by simp; omega) _) (by simp; omega) hc hmc HV.out).mono ?_; rintro e w1 ⟨rfl, hb1⟩; have b1 : Blk w1 (w.heap.size + 1) 27 zeroRec := (congrArg (fun n => Blk w1 n 27 zeroRec) (show (w.alloc (.cells #[.int .i64 r, .int .i64 c, .int .i64 h, .slice A m cp] 27)).heap.size = w.heap.size + 1 by simp)).mp ((Blk.new (w.alloc (.cells #[.int .i64 r, .int .i64 c, .int .i64 h, .slice A m cp] 27)) 27 zeroRec).below hb1 (by simp)); have hbw : Below w.heap.size w w1 := (((Below.refl w.heap.size w).alloc (Nat.le_refl _) _).alloc (by simp) _).trans (hb1.mono (by simp; omega)); have b2 := b1.alloc (.cells zeroRec 27); have q0 : (w1.alloc (.cells zeroRec 27)).cell? ⟨w.heap.size + 1, 0, none⟩ = some (.int .i64 0) := b2.cell 0; have q1 : (w1.alloc (.cells zeroRec 27)).cell? ⟨w.heap.size + 1, 1, none⟩ = some (.int .i64 0) := b2.cell 1; have q2 : (w1.alloc (.cells zeroRec 27)).cell? ⟨w.heap.size + 1, 2, none⟩ = some (.int .i64 0) := b2.cell 2; have q3 : (w1.alloc (.cells zeroRec 27)).cell? ⟨w.heap.size + 1, 3, none⟩ = some (.slice none 0 0) := b2.cell 3; have hbw2 := hbw.alloc hbw.size (.cells zeroRec 27); have hT := tab_up hG hbw2 hw)
    | (go_at_call 20; refine (same_zero _ hT).mono ?_; rintro e w2 ⟨rfl, hb2⟩))
  go_ret
  exact ⟨rfl, hbw2.trans (hb2.mono hbw2.size)⟩
end
end Go.Proofs.YtemodjeooieehaaGreatDoor
