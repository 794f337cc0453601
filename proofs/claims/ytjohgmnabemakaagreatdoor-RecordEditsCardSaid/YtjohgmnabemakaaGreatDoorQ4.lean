/- A part of the proof of RecordEdits. -/
import Derived.Test.YtjohgmnabemakaaGreatDoorQ3
import Derived.Test.YtjohgmnabemakaaGreatDoorQ1
import Derived.Test.YtjohgmnabemakaaGreatDoorQ2
import Derived.Test.YtjohgmnabemakaaGreatDoorCKnown
namespace Go.Proofs.YtjohgmnabemakaaGreatDoor
open Go.RowKit Go.Rep
set_option maxRecDepth 100000
section
variable {r c h f t p : Int} {A : Option Addr} {m cp B : Nat} {l : List Ev} {w : World}
/-- Nothing, and an error. -/
def NoP (n : Int) (w : World) (e : Ending) (w' : World) : Prop := e = .returned (.tuple #[.agg zeroRec, .int .i64 n]) ∧ Below w.heap.size w w'
set_option maxHeartbeats 4000000 in
theorem cut_no (hr : Reads w B 6 A m (evCells l)) (hB : B ≤ w.heap.size) (hc : cp ≤ maxLen) (hmc : m ≤ cp) (hv : validB r c h l = false) :
    Calls Tryz.prog 20 #[.agg #[.int .i64 r, .int .i64 c, .int .i64 h, .slice A m cp], .int .i64 f, .int .i64 t] w (NoP 2 w) := by
  have HV := Lib.hid hv
  clear hv
  go_enter Tryz.func20, Tryz.ntmps20
  go_wp2_with (go_at_call 23; refine (valid_any ((hr.alloc hB _).alloc (by simp; omega) _) (by simp; omega) hc hmc).mono ?_; rintro e w1 ⟨rfl, hb1⟩; rw [HV.out]; have b1 := ((Blk.new w 26 #[.int .i64 r, .int .i64 c, .int .i64 h, .slice A m cp]).alloc (.cells zeroRec 26)).below hb1 (by simp; omega); have b2 : Blk w1 (w.heap.size + 1) 26 zeroRec := (congrArg (fun n => Blk w1 n 26 zeroRec) (show (w.alloc (.cells #[.int .i64 r, .int .i64 c, .int .i64 h, .slice A m cp] 26)).heap.size = w.heap.size + 1 by simp)).mp ((Blk.new (w.alloc (.cells #[.int .i64 r, .int .i64 c, .int .i64 h, .slice A m cp] 26)) 26 zeroRec).below hb1 (by simp)); have hbw1 : Below w.heap.size w w1 := Below.trans (((Below.refl w.heap.size w).alloc (Nat.le_refl _) _).alloc (by simp) _) (hb1.mono (by simp; omega)); have hs1 : w.heap.size + 2 ≤ w1.heap.size := (by have := hb1.size; simp at this; omega); have q3 : w1.cell? ⟨w.heap.size, 3, none⟩ = some (.slice A m cp) := b1.cell 3; have q0 : w1.cell? ⟨w.heap.size, 0, none⟩ = some (.int .i64 r) := b1.cell 0; have q1 : w1.cell? ⟨w.heap.size, 1, none⟩ = some (.int .i64 c) := b1.cell 1; have q2 : w1.cell? ⟨w.heap.size, 2, none⟩ = some (.int .i64 h) := b1.cell 2; have p0 : w1.cell? ⟨w.heap.size + 1, 0, none⟩ = some (.int .i64 0) := b2.cell 0; have p1 : w1.cell? ⟨w.heap.size + 1, 1, none⟩ = some (.int .i64 0) := b2.cell 1; have p2 : w1.cell? ⟨w.heap.size + 1, 2, none⟩ = some (.int .i64 0) := b2.cell 2; have p3 : w1.cell? ⟨w.heap.size + 1, 3, none⟩ = some (.slice none 0 0) := b2.cell 3; have f0 := b2.frozen 0; have f1 := b2.frozen 1; have f2 := b2.frozen 2; have f3 := b2.frozen 3)
  have hle : w.heap.size ≤ w.heap.size + 1 := by omega
  have b3 := (((b2.set_ 0 (.int .i64 0)).set_ 1 (.int .i64 0)).set_ 2 (.int .i64 0)).set_ 3 (.slice none 0 0)
  refine bodyPost_ret (res_rec rfl (b3.cell 0) (b3.cell 1) (b3.cell 2) (b3.cell 3) rfl rfl) rfl ?_
  exact ⟨rfl, (((hbw1.setCell hle _).setCell hle _).setCell hle _).setCell hle _⟩
set_option maxHeartbeats 4000000 in
theorem cut_arg (hr : Reads w B 6 A m (evCells l)) (hB : B ≤ w.heap.size) (hc : cp ≤ maxLen) (hmc : m ≤ cp) (hv : validB r c h l = true) (hbad : f < 0 ∨ 1099511627776 < f ∨ t < 0 ∨ 1099511627776 < t) :
    Calls Tryz.prog 20 #[.agg #[.int .i64 r, .int .i64 c, .int .i64 h, .slice A m cp], .int .i64 f, .int .i64 t] w (NoP 2 w) := by
  have HV := Lib.hid hv
  clear hv
  by_cases s0 : f < 0
  · clear hbad
    go_enter Tryz.func20, Tryz.ntmps20
    go_wp2_with (go_at_call 23; refine (valid_any ((hr.alloc hB _).alloc (by simp; omega) _) (by simp; omega) hc hmc).mono ?_; rintro e w1 ⟨rfl, hb1⟩; rw [HV.out]; have b1 := ((Blk.new w 26 #[.int .i64 r, .int .i64 c, .int .i64 h, .slice A m cp]).alloc (.cells zeroRec 26)).below hb1 (by simp; omega); have b2 : Blk w1 (w.heap.size + 1) 26 zeroRec := (congrArg (fun n => Blk w1 n 26 zeroRec) (show (w.alloc (.cells #[.int .i64 r, .int .i64 c, .int .i64 h, .slice A m cp] 26)).heap.size = w.heap.size + 1 by simp)).mp ((Blk.new (w.alloc (.cells #[.int .i64 r, .int .i64 c, .int .i64 h, .slice A m cp] 26)) 26 zeroRec).below hb1 (by simp)); have hbw1 : Below w.heap.size w w1 := Below.trans (((Below.refl w.heap.size w).alloc (Nat.le_refl _) _).alloc (by simp) _) (hb1.mono (by simp; omega)); have hs1 : w.heap.size + 2 ≤ w1.heap.size := (by have := hb1.size; simp at this; omega); have q3 : w1.cell? ⟨w.heap.size, 3, none⟩ = some (.slice A m cp) := b1.cell 3; have q0 : w1.cell? ⟨w.heap.size, 0, none⟩ = some (.int .i64 r) := b1.cell 0; have q1 : w1.cell? ⟨w.heap.size, 1, none⟩ = some (.int .i64 c) := b1.cell 1; have q2 : w1.cell? ⟨w.heap.size, 2, none⟩ = some (.int .i64 h) := b1.cell 2; have p0 : w1.cell? ⟨w.heap.size + 1, 0, none⟩ = some (.int .i64 0) := b2.cell 0; have p1 : w1.cell? ⟨w.heap.size + 1, 1, none⟩ = some (.int .i64 0) := b2.cell 1; have p2 : w1.cell? ⟨w.heap.size + 1, 2, none⟩ = some (.int .i64 0) := b2.cell 2; have p3 : w1.cell? ⟨w.heap.size + 1, 3, none⟩ = some (.slice none 0 0) := b2.cell 3; have f0 := b2.frozen 0; have f1 := b2.frozen 1; have f2 := b2.frozen 2; have f3 := b2.frozen 3)
    have hle : w.heap.size ≤ w.heap.size + 1 := by omega
    have b3 := (((b2.set_ 0 (.int .i64 0)).set_ 1 (.int .i64 0)).set_ 2 (.int .i64 0)).set_ 3 (.slice none 0 0)
    refine bodyPost_ret (res_rec rfl (b3.cell 0) (b3.cell 1) (b3.cell 2) (b3.cell 3) rfl rfl) rfl ?_
    exact ⟨rfl, (((hbw1.setCell hle _).setCell hle _).setCell hle _).setCell hle _⟩
  · skip
    by_cases s1 : 1099511627776 < f
    · clear hbad
      go_enter Tryz.func20, Tryz.ntmps20
      go_wp2_with (go_at_call 23; refine (valid_any ((hr.alloc hB _).alloc (by simp; omega) _) (by simp; omega) hc hmc).mono ?_; rintro e w1 ⟨rfl, hb1⟩; rw [HV.out]; have b1 := ((Blk.new w 26 #[.int .i64 r, .int .i64 c, .int .i64 h, .slice A m cp]).alloc (.cells zeroRec 26)).below hb1 (by simp; omega); have b2 : Blk w1 (w.heap.size + 1) 26 zeroRec := (congrArg (fun n => Blk w1 n 26 zeroRec) (show (w.alloc (.cells #[.int .i64 r, .int .i64 c, .int .i64 h, .slice A m cp] 26)).heap.size = w.heap.size + 1 by simp)).mp ((Blk.new (w.alloc (.cells #[.int .i64 r, .int .i64 c, .int .i64 h, .slice A m cp] 26)) 26 zeroRec).below hb1 (by simp)); have hbw1 : Below w.heap.size w w1 := Below.trans (((Below.refl w.heap.size w).alloc (Nat.le_refl _) _).alloc (by simp) _) (hb1.mono (by simp; omega)); have hs1 : w.heap.size + 2 ≤ w1.heap.size := (by have := hb1.size; simp at this; omega); have q3 : w1.cell? ⟨w.heap.size, 3, none⟩ = some (.slice A m cp) := b1.cell 3; have q0 : w1.cell? ⟨w.heap.size, 0, none⟩ = some (.int .i64 r) := b1.cell 0; have q1 : w1.cell? ⟨w.heap.size, 1, none⟩ = some (.int .i64 c) := b1.cell 1; have q2 : w1.cell? ⟨w.heap.size, 2, none⟩ = some (.int .i64 h) := b1.cell 2; have p0 : w1.cell? ⟨w.heap.size + 1, 0, none⟩ = some (.int .i64 0) := b2.cell 0; have p1 : w1.cell? ⟨w.heap.size + 1, 1, none⟩ = some (.int .i64 0) := b2.cell 1; have p2 : w1.cell? ⟨w.heap.size + 1, 2, none⟩ = some (.int .i64 0) := b2.cell 2; have p3 : w1.cell? ⟨w.heap.size + 1, 3, none⟩ = some (.slice none 0 0) := b2.cell 3; have f0 := b2.frozen 0; have f1 := b2.frozen 1; have f2 := b2.frozen 2; have f3 := b2.frozen 3)
      have hle : w.heap.size ≤ w.heap.size + 1 := by omega
      have b3 := (((b2.set_ 0 (.int .i64 0)).set_ 1 (.int .i64 0)).set_ 2 (.int .i64 0)).set_ 3 (.slice none 0 0)
      refine bodyPost_ret (res_rec rfl (b3.cell 0) (b3.cell 1) (b3.cell 2) (b3.cell 3) rfl rfl) rfl ?_
      exact ⟨rfl, (((hbw1.setCell hle _).setCell hle _).setCell hle _).setCell hle _⟩
    · skip
      by_cases s2 : t < 0
      · clear hbad
        go_enter Tryz.func20, Tryz.ntmps20
        go_wp2_with (go_at_call 23; refine (valid_any ((hr.alloc hB _).alloc (by simp; omega) _) (by simp; omega) hc hmc).mono ?_; rintro e w1 ⟨rfl, hb1⟩; rw [HV.out]; have b1 := ((Blk.new w 26 #[.int .i64 r, .int .i64 c, .int .i64 h, .slice A m cp]).alloc (.cells zeroRec 26)).below hb1 (by simp; omega); have b2 : Blk w1 (w.heap.size + 1) 26 zeroRec := (congrArg (fun n => Blk w1 n 26 zeroRec) (show (w.alloc (.cells #[.int .i64 r, .int .i64 c, .int .i64 h, .slice A m cp] 26)).heap.size = w.heap.size + 1 by simp)).mp ((Blk.new (w.alloc (.cells #[.int .i64 r, .int .i64 c, .int .i64 h, .slice A m cp] 26)) 26 zeroRec).below hb1 (by simp)); have hbw1 : Below w.heap.size w w1 := Below.trans (((Below.refl w.heap.size w).alloc (Nat.le_refl _) _).alloc (by simp) _) (hb1.mono (by simp; omega)); have hs1 : w.heap.size + 2 ≤ w1.heap.size := (by have := hb1.size; simp at this; omega); have q3 : w1.cell? ⟨w.heap.size, 3, none⟩ = some (.slice A m cp) := b1.cell 3; have q0 : w1.cell? ⟨w.heap.size, 0, none⟩ = some (.int .i64 r) := b1.cell 0; have q1 : w1.cell? ⟨w.heap.size, 1, none⟩ = some (.int .i64 c) := b1.cell 1; have q2 : w1.cell? ⟨w.heap.size, 2, none⟩ = some (.int .i64 h) := b1.cell 2; have p0 : w1.cell? ⟨w.heap.size + 1, 0, none⟩ = some (.int .i64 0) := b2.cell 0; have p1 : w1.cell? ⟨w.heap.size + 1, 1, none⟩ = some (.int .i64 0) := b2.cell 1; have p2 : w1.cell? ⟨w.heap.size + 1, 2, none⟩ = some (.int .i64 0) := b2.cell 2; have p3 : w1.cell? ⟨w.heap.size + 1, 3, none⟩ = some (.slice none 0 0) := b2.cell 3; have f0 := b2.frozen 0; have f1 := b2.frozen 1; have f2 := b2.frozen 2; have f3 := b2.frozen 3)
        have hle : w.heap.size ≤ w.heap.size + 1 := by omega
        have b3 := (((b2.set_ 0 (.int .i64 0)).set_ 1 (.int .i64 0)).set_ 2 (.int .i64 0)).set_ 3 (.slice none 0 0)
        refine bodyPost_ret (res_rec rfl (b3.cell 0) (b3.cell 1) (b3.cell 2) (b3.cell 3) rfl rfl) rfl ?_
        exact ⟨rfl, (((hbw1.setCell hle _).setCell hle _).setCell hle _).setCell hle _⟩
      · skip
        by_cases s3 : 1099511627776 < t
        · clear hbad
          go_enter Tryz.func20, Tryz.ntmps20
          go_wp2_with (go_at_call 23; refine (valid_any ((hr.alloc hB _).alloc (by simp; omega) _) (by simp; omega) hc hmc).mono ?_; rintro e w1 ⟨rfl, hb1⟩; rw [HV.out]; have b1 := ((Blk.new w 26 #[.int .i64 r, .int .i64 c, .int .i64 h, .slice A m cp]).alloc (.cells zeroRec 26)).below hb1 (by simp; omega); have b2 : Blk w1 (w.heap.size + 1) 26 zeroRec := (congrArg (fun n => Blk w1 n 26 zeroRec) (show (w.alloc (.cells #[.int .i64 r, .int .i64 c, .int .i64 h, .slice A m cp] 26)).heap.size = w.heap.size + 1 by simp)).mp ((Blk.new (w.alloc (.cells #[.int .i64 r, .int .i64 c, .int .i64 h, .slice A m cp] 26)) 26 zeroRec).below hb1 (by simp)); have hbw1 : Below w.heap.size w w1 := Below.trans (((Below.refl w.heap.size w).alloc (Nat.le_refl _) _).alloc (by simp) _) (hb1.mono (by simp; omega)); have hs1 : w.heap.size + 2 ≤ w1.heap.size := (by have := hb1.size; simp at this; omega); have q3 : w1.cell? ⟨w.heap.size, 3, none⟩ = some (.slice A m cp) := b1.cell 3; have q0 : w1.cell? ⟨w.heap.size, 0, none⟩ = some (.int .i64 r) := b1.cell 0; have q1 : w1.cell? ⟨w.heap.size, 1, none⟩ = some (.int .i64 c) := b1.cell 1; have q2 : w1.cell? ⟨w.heap.size, 2, none⟩ = some (.int .i64 h) := b1.cell 2; have p0 : w1.cell? ⟨w.heap.size + 1, 0, none⟩ = some (.int .i64 0) := b2.cell 0; have p1 : w1.cell? ⟨w.heap.size + 1, 1, none⟩ = some (.int .i64 0) := b2.cell 1; have p2 : w1.cell? ⟨w.heap.size + 1, 2, none⟩ = some (.int .i64 0) := b2.cell 2; have p3 : w1.cell? ⟨w.heap.size + 1, 3, none⟩ = some (.slice none 0 0) := b2.cell 3; have f0 := b2.frozen 0; have f1 := b2.frozen 1; have f2 := b2.frozen 2; have f3 := b2.frozen 3)
          have hle : w.heap.size ≤ w.heap.size + 1 := by omega
          have b3 := (((b2.set_ 0 (.int .i64 0)).set_ 1 (.int .i64 0)).set_ 2 (.int .i64 0)).set_ 3 (.slice none 0 0)
          refine bodyPost_ret (res_rec rfl (b3.cell 0) (b3.cell 1) (b3.cell 2) (b3.cell 3) rfl rfl) rfl ?_
          exact ⟨rfl, (((hbw1.setCell hle _).setCell hle _).setCell hle _).setCell hle _⟩
        · skip
          exact absurd hbad (by omega)
set_option maxHeartbeats 4000000 in
theorem cut_order (hr : Reads w B 6 A m (evCells l)) (hB : B ≤ w.heap.size) (hc : cp ≤ maxLen) (hmc : m ≤ cp) (hv : validB r c h l = true) (hf : 0 ≤ f) (hf2 : f ≤ 1099511627776) (ht : 0 ≤ t) (ht2 : t ≤ 1099511627776) (hft : t < f) :
    Calls Tryz.prog 20 #[.agg #[.int .i64 r, .int .i64 c, .int .i64 h, .slice A m cp], .int .i64 f, .int .i64 t] w (NoP 13 w) := by
  have HV := Lib.hid hv
  clear hv
  go_enter Tryz.func20, Tryz.ntmps20
  go_wp2_with (go_at_call 23; refine (valid_any ((hr.alloc hB _).alloc (by simp; omega) _) (by simp; omega) hc hmc).mono ?_; rintro e w1 ⟨rfl, hb1⟩; rw [HV.out]; have b1 := ((Blk.new w 26 #[.int .i64 r, .int .i64 c, .int .i64 h, .slice A m cp]).alloc (.cells zeroRec 26)).below hb1 (by simp; omega); have b2 : Blk w1 (w.heap.size + 1) 26 zeroRec := (congrArg (fun n => Blk w1 n 26 zeroRec) (show (w.alloc (.cells #[.int .i64 r, .int .i64 c, .int .i64 h, .slice A m cp] 26)).heap.size = w.heap.size + 1 by simp)).mp ((Blk.new (w.alloc (.cells #[.int .i64 r, .int .i64 c, .int .i64 h, .slice A m cp] 26)) 26 zeroRec).below hb1 (by simp)); have hbw1 : Below w.heap.size w w1 := Below.trans (((Below.refl w.heap.size w).alloc (Nat.le_refl _) _).alloc (by simp) _) (hb1.mono (by simp; omega)); have hs1 : w.heap.size + 2 ≤ w1.heap.size := (by have := hb1.size; simp at this; omega); have q3 : w1.cell? ⟨w.heap.size, 3, none⟩ = some (.slice A m cp) := b1.cell 3; have q0 : w1.cell? ⟨w.heap.size, 0, none⟩ = some (.int .i64 r) := b1.cell 0; have q1 : w1.cell? ⟨w.heap.size, 1, none⟩ = some (.int .i64 c) := b1.cell 1; have q2 : w1.cell? ⟨w.heap.size, 2, none⟩ = some (.int .i64 h) := b1.cell 2; have p0 : w1.cell? ⟨w.heap.size + 1, 0, none⟩ = some (.int .i64 0) := b2.cell 0; have p1 : w1.cell? ⟨w.heap.size + 1, 1, none⟩ = some (.int .i64 0) := b2.cell 1; have p2 : w1.cell? ⟨w.heap.size + 1, 2, none⟩ = some (.int .i64 0) := b2.cell 2; have p3 : w1.cell? ⟨w.heap.size + 1, 3, none⟩ = some (.slice none 0 0) := b2.cell 3; have f0 := b2.frozen 0; have f1 := b2.frozen 1; have f2 := b2.frozen 2; have f3 := b2.frozen 3)
  have hle : w.heap.size ≤ w.heap.size + 1 := by omega
  have b3 := (((b2.set_ 0 (.int .i64 0)).set_ 1 (.int .i64 0)).set_ 2 (.int .i64 0)).set_ 3 (.slice none 0 0)
  refine bodyPost_ret (res_rec rfl (b3.cell 0) (b3.cell 1) (b3.cell 2) (b3.cell 3) rfl rfl) rfl ?_
  exact ⟨rfl, (((hbw1.setCell hle _).setCell hle _).setCell hle _).setCell hle _⟩
set_option maxHeartbeats 4000000 in
theorem speed_no (hr : Reads w B 6 A m (evCells l)) (hB : B ≤ w.heap.size) (hc : cp ≤ maxLen) (hmc : m ≤ cp) (hv : validB r c h l = false) :
    Calls Tryz.prog 21 #[.agg #[.int .i64 r, .int .i64 c, .int .i64 h, .slice A m cp], .int .i64 t, .int .i64 p] w (NoP 2 w) := by
  have HV := Lib.hid hv
  clear hv
  go_enter Tryz.func21, Tryz.ntmps21
  go_wp2_with (go_at_call 23; refine (valid_any ((hr.alloc hB _).alloc (by simp; omega) _) (by simp; omega) hc hmc).mono ?_; rintro e w1 ⟨rfl, hb1⟩; rw [HV.out]; have b1 := ((Blk.new w 26 #[.int .i64 r, .int .i64 c, .int .i64 h, .slice A m cp]).alloc (.cells zeroRec 26)).below hb1 (by simp; omega); have b2 : Blk w1 (w.heap.size + 1) 26 zeroRec := (congrArg (fun n => Blk w1 n 26 zeroRec) (show (w.alloc (.cells #[.int .i64 r, .int .i64 c, .int .i64 h, .slice A m cp] 26)).heap.size = w.heap.size + 1 by simp)).mp ((Blk.new (w.alloc (.cells #[.int .i64 r, .int .i64 c, .int .i64 h, .slice A m cp] 26)) 26 zeroRec).below hb1 (by simp)); have hbw1 : Below w.heap.size w w1 := Below.trans (((Below.refl w.heap.size w).alloc (Nat.le_refl _) _).alloc (by simp) _) (hb1.mono (by simp; omega)); have hs1 : w.heap.size + 2 ≤ w1.heap.size := (by have := hb1.size; simp at this; omega); have q3 : w1.cell? ⟨w.heap.size, 3, none⟩ = some (.slice A m cp) := b1.cell 3; have q0 : w1.cell? ⟨w.heap.size, 0, none⟩ = some (.int .i64 r) := b1.cell 0; have q1 : w1.cell? ⟨w.heap.size, 1, none⟩ = some (.int .i64 c) := b1.cell 1; have q2 : w1.cell? ⟨w.heap.size, 2, none⟩ = some (.int .i64 h) := b1.cell 2; have p0 : w1.cell? ⟨w.heap.size + 1, 0, none⟩ = some (.int .i64 0) := b2.cell 0; have p1 : w1.cell? ⟨w.heap.size + 1, 1, none⟩ = some (.int .i64 0) := b2.cell 1; have p2 : w1.cell? ⟨w.heap.size + 1, 2, none⟩ = some (.int .i64 0) := b2.cell 2; have p3 : w1.cell? ⟨w.heap.size + 1, 3, none⟩ = some (.slice none 0 0) := b2.cell 3; have f0 := b2.frozen 0; have f1 := b2.frozen 1; have f2 := b2.frozen 2; have f3 := b2.frozen 3)
  have hle : w.heap.size ≤ w.heap.size + 1 := by omega
  have b3 := (((b2.set_ 0 (.int .i64 0)).set_ 1 (.int .i64 0)).set_ 2 (.int .i64 0)).set_ 3 (.slice none 0 0)
  refine bodyPost_ret (res_rec rfl (b3.cell 0) (b3.cell 1) (b3.cell 2) (b3.cell 3) rfl rfl) rfl ?_
  exact ⟨rfl, (((hbw1.setCell hle _).setCell hle _).setCell hle _).setCell hle _⟩
set_option maxHeartbeats 4000000 in
theorem speed_arg (hr : Reads w B 6 A m (evCells l)) (hB : B ≤ w.heap.size) (hc : cp ≤ maxLen) (hmc : m ≤ cp) (hv : validB r c h l = true) (hbad : t < 1 ∨ 1000 < t ∨ p < 1 ∨ 1000 < p) :
    Calls Tryz.prog 21 #[.agg #[.int .i64 r, .int .i64 c, .int .i64 h, .slice A m cp], .int .i64 t, .int .i64 p] w (NoP 2 w) := by
  have HV := Lib.hid hv
  clear hv
  by_cases s0 : t < 1
  · clear hbad
    go_enter Tryz.func21, Tryz.ntmps21
    go_wp2_with (go_at_call 23; refine (valid_any ((hr.alloc hB _).alloc (by simp; omega) _) (by simp; omega) hc hmc).mono ?_; rintro e w1 ⟨rfl, hb1⟩; rw [HV.out]; have b1 := ((Blk.new w 26 #[.int .i64 r, .int .i64 c, .int .i64 h, .slice A m cp]).alloc (.cells zeroRec 26)).below hb1 (by simp; omega); have b2 : Blk w1 (w.heap.size + 1) 26 zeroRec := (congrArg (fun n => Blk w1 n 26 zeroRec) (show (w.alloc (.cells #[.int .i64 r, .int .i64 c, .int .i64 h, .slice A m cp] 26)).heap.size = w.heap.size + 1 by simp)).mp ((Blk.new (w.alloc (.cells #[.int .i64 r, .int .i64 c, .int .i64 h, .slice A m cp] 26)) 26 zeroRec).below hb1 (by simp)); have hbw1 : Below w.heap.size w w1 := Below.trans (((Below.refl w.heap.size w).alloc (Nat.le_refl _) _).alloc (by simp) _) (hb1.mono (by simp; omega)); have hs1 : w.heap.size + 2 ≤ w1.heap.size := (by have := hb1.size; simp at this; omega); have q3 : w1.cell? ⟨w.heap.size, 3, none⟩ = some (.slice A m cp) := b1.cell 3; have q0 : w1.cell? ⟨w.heap.size, 0, none⟩ = some (.int .i64 r) := b1.cell 0; have q1 : w1.cell? ⟨w.heap.size, 1, none⟩ = some (.int .i64 c) := b1.cell 1; have q2 : w1.cell? ⟨w.heap.size, 2, none⟩ = some (.int .i64 h) := b1.cell 2; have p0 : w1.cell? ⟨w.heap.size + 1, 0, none⟩ = some (.int .i64 0) := b2.cell 0; have p1 : w1.cell? ⟨w.heap.size + 1, 1, none⟩ = some (.int .i64 0) := b2.cell 1; have p2 : w1.cell? ⟨w.heap.size + 1, 2, none⟩ = some (.int .i64 0) := b2.cell 2; have p3 : w1.cell? ⟨w.heap.size + 1, 3, none⟩ = some (.slice none 0 0) := b2.cell 3; have f0 := b2.frozen 0; have f1 := b2.frozen 1; have f2 := b2.frozen 2; have f3 := b2.frozen 3)
    have hle : w.heap.size ≤ w.heap.size + 1 := by omega
    have b3 := (((b2.set_ 0 (.int .i64 0)).set_ 1 (.int .i64 0)).set_ 2 (.int .i64 0)).set_ 3 (.slice none 0 0)
    refine bodyPost_ret (res_rec rfl (b3.cell 0) (b3.cell 1) (b3.cell 2) (b3.cell 3) rfl rfl) rfl ?_
    exact ⟨rfl, (((hbw1.setCell hle _).setCell hle _).setCell hle _).setCell hle _⟩
  · skip
    by_cases s1 : 1000 < t
    · clear hbad
      go_enter Tryz.func21, Tryz.ntmps21
      go_wp2_with (go_at_call 23; refine (valid_any ((hr.alloc hB _).alloc (by simp; omega) _) (by simp; omega) hc hmc).mono ?_; rintro e w1 ⟨rfl, hb1⟩; rw [HV.out]; have b1 := ((Blk.new w 26 #[.int .i64 r, .int .i64 c, .int .i64 h, .slice A m cp]).alloc (.cells zeroRec 26)).below hb1 (by simp; omega); have b2 : Blk w1 (w.heap.size + 1) 26 zeroRec := (congrArg (fun n => Blk w1 n 26 zeroRec) (show (w.alloc (.cells #[.int .i64 r, .int .i64 c, .int .i64 h, .slice A m cp] 26)).heap.size = w.heap.size + 1 by simp)).mp ((Blk.new (w.alloc (.cells #[.int .i64 r, .int .i64 c, .int .i64 h, .slice A m cp] 26)) 26 zeroRec).below hb1 (by simp)); have hbw1 : Below w.heap.size w w1 := Below.trans (((Below.refl w.heap.size w).alloc (Nat.le_refl _) _).alloc (by simp) _) (hb1.mono (by simp; omega)); have hs1 : w.heap.size + 2 ≤ w1.heap.size := (by have := hb1.size; simp at this; omega); have q3 : w1.cell? ⟨w.heap.size, 3, none⟩ = some (.slice A m cp) := b1.cell 3; have q0 : w1.cell? ⟨w.heap.size, 0, none⟩ = some (.int .i64 r) := b1.cell 0; have q1 : w1.cell? ⟨w.heap.size, 1, none⟩ = some (.int .i64 c) := b1.cell 1; have q2 : w1.cell? ⟨w.heap.size, 2, none⟩ = some (.int .i64 h) := b1.cell 2; have p0 : w1.cell? ⟨w.heap.size + 1, 0, none⟩ = some (.int .i64 0) := b2.cell 0; have p1 : w1.cell? ⟨w.heap.size + 1, 1, none⟩ = some (.int .i64 0) := b2.cell 1; have p2 : w1.cell? ⟨w.heap.size + 1, 2, none⟩ = some (.int .i64 0) := b2.cell 2; have p3 : w1.cell? ⟨w.heap.size + 1, 3, none⟩ = some (.slice none 0 0) := b2.cell 3; have f0 := b2.frozen 0; have f1 := b2.frozen 1; have f2 := b2.frozen 2; have f3 := b2.frozen 3)
      have hle : w.heap.size ≤ w.heap.size + 1 := by omega
      have b3 := (((b2.set_ 0 (.int .i64 0)).set_ 1 (.int .i64 0)).set_ 2 (.int .i64 0)).set_ 3 (.slice none 0 0)
      refine bodyPost_ret (res_rec rfl (b3.cell 0) (b3.cell 1) (b3.cell 2) (b3.cell 3) rfl rfl) rfl ?_
      exact ⟨rfl, (((hbw1.setCell hle _).setCell hle _).setCell hle _).setCell hle _⟩
    · skip
      by_cases s2 : p < 1
      · clear hbad
        go_enter Tryz.func21, Tryz.ntmps21
        go_wp2_with (go_at_call 23; refine (valid_any ((hr.alloc hB _).alloc (by simp; omega) _) (by simp; omega) hc hmc).mono ?_; rintro e w1 ⟨rfl, hb1⟩; rw [HV.out]; have b1 := ((Blk.new w 26 #[.int .i64 r, .int .i64 c, .int .i64 h, .slice A m cp]).alloc (.cells zeroRec 26)).below hb1 (by simp; omega); have b2 : Blk w1 (w.heap.size + 1) 26 zeroRec := (congrArg (fun n => Blk w1 n 26 zeroRec) (show (w.alloc (.cells #[.int .i64 r, .int .i64 c, .int .i64 h, .slice A m cp] 26)).heap.size = w.heap.size + 1 by simp)).mp ((Blk.new (w.alloc (.cells #[.int .i64 r, .int .i64 c, .int .i64 h, .slice A m cp] 26)) 26 zeroRec).below hb1 (by simp)); have hbw1 : Below w.heap.size w w1 := Below.trans (((Below.refl w.heap.size w).alloc (Nat.le_refl _) _).alloc (by simp) _) (hb1.mono (by simp; omega)); have hs1 : w.heap.size + 2 ≤ w1.heap.size := (by have := hb1.size; simp at this; omega); have q3 : w1.cell? ⟨w.heap.size, 3, none⟩ = some (.slice A m cp) := b1.cell 3; have q0 : w1.cell? ⟨w.heap.size, 0, none⟩ = some (.int .i64 r) := b1.cell 0; have q1 : w1.cell? ⟨w.heap.size, 1, none⟩ = some (.int .i64 c) := b1.cell 1; have q2 : w1.cell? ⟨w.heap.size, 2, none⟩ = some (.int .i64 h) := b1.cell 2; have p0 : w1.cell? ⟨w.heap.size + 1, 0, none⟩ = some (.int .i64 0) := b2.cell 0; have p1 : w1.cell? ⟨w.heap.size + 1, 1, none⟩ = some (.int .i64 0) := b2.cell 1; have p2 : w1.cell? ⟨w.heap.size + 1, 2, none⟩ = some (.int .i64 0) := b2.cell 2; have p3 : w1.cell? ⟨w.heap.size + 1, 3, none⟩ = some (.slice none 0 0) := b2.cell 3; have f0 := b2.frozen 0; have f1 := b2.frozen 1; have f2 := b2.frozen 2; have f3 := b2.frozen 3)
        have hle : w.heap.size ≤ w.heap.size + 1 := by omega
        have b3 := (((b2.set_ 0 (.int .i64 0)).set_ 1 (.int .i64 0)).set_ 2 (.int .i64 0)).set_ 3 (.slice none 0 0)
        refine bodyPost_ret (res_rec rfl (b3.cell 0) (b3.cell 1) (b3.cell 2) (b3.cell 3) rfl rfl) rfl ?_
        exact ⟨rfl, (((hbw1.setCell hle _).setCell hle _).setCell hle _).setCell hle _⟩
      · skip
        by_cases s3 : 1000 < p
        · clear hbad
          go_enter Tryz.func21, Tryz.ntmps21
          go_wp2_with (go_at_call 23; refine (valid_any ((hr.alloc hB _).alloc (by simp; omega) _) (by simp; omega) hc hmc).mono ?_; rintro e w1 ⟨rfl, hb1⟩; rw [HV.out]; have b1 := ((Blk.new w 26 #[.int .i64 r, .int .i64 c, .int .i64 h, .slice A m cp]).alloc (.cells zeroRec 26)).below hb1 (by simp; omega); have b2 : Blk w1 (w.heap.size + 1) 26 zeroRec := (congrArg (fun n => Blk w1 n 26 zeroRec) (show (w.alloc (.cells #[.int .i64 r, .int .i64 c, .int .i64 h, .slice A m cp] 26)).heap.size = w.heap.size + 1 by simp)).mp ((Blk.new (w.alloc (.cells #[.int .i64 r, .int .i64 c, .int .i64 h, .slice A m cp] 26)) 26 zeroRec).below hb1 (by simp)); have hbw1 : Below w.heap.size w w1 := Below.trans (((Below.refl w.heap.size w).alloc (Nat.le_refl _) _).alloc (by simp) _) (hb1.mono (by simp; omega)); have hs1 : w.heap.size + 2 ≤ w1.heap.size := (by have := hb1.size; simp at this; omega); have q3 : w1.cell? ⟨w.heap.size, 3, none⟩ = some (.slice A m cp) := b1.cell 3; have q0 : w1.cell? ⟨w.heap.size, 0, none⟩ = some (.int .i64 r) := b1.cell 0; have q1 : w1.cell? ⟨w.heap.size, 1, none⟩ = some (.int .i64 c) := b1.cell 1; have q2 : w1.cell? ⟨w.heap.size, 2, none⟩ = some (.int .i64 h) := b1.cell 2; have p0 : w1.cell? ⟨w.heap.size + 1, 0, none⟩ = some (.int .i64 0) := b2.cell 0; have p1 : w1.cell? ⟨w.heap.size + 1, 1, none⟩ = some (.int .i64 0) := b2.cell 1; have p2 : w1.cell? ⟨w.heap.size + 1, 2, none⟩ = some (.int .i64 0) := b2.cell 2; have p3 : w1.cell? ⟨w.heap.size + 1, 3, none⟩ = some (.slice none 0 0) := b2.cell 3; have f0 := b2.frozen 0; have f1 := b2.frozen 1; have f2 := b2.frozen 2; have f3 := b2.frozen 3)
          have hle : w.heap.size ≤ w.heap.size + 1 := by omega
          have b3 := (((b2.set_ 0 (.int .i64 0)).set_ 1 (.int .i64 0)).set_ 2 (.int .i64 0)).set_ 3 (.slice none 0 0)
          refine bodyPost_ret (res_rec rfl (b3.cell 0) (b3.cell 1) (b3.cell 2) (b3.cell 3) rfl rfl) rfl ?_
          exact ⟨rfl, (((hbw1.setCell hle _).setCell hle _).setCell hle _).setCell hle _⟩
        · skip
          exact absurd hbad (by omega)
set_option maxHeartbeats 4000000 in
theorem speed_long (hr : Reads w B 6 A m (evCells l)) (hB : B ≤ w.heap.size) (hc : cp ≤ maxLen) (hmc : m ≤ cp) (hv : validB r c h l = true) (hm2 : m ≤ 2000) (ht1 : 1 ≤ t) (ht2 : t ≤ 1000) (hp1 : 1 ≤ p) (hp2 : p ≤ 1000) (hl : 1099511627776 < prevAt l m * p / t) :
    Calls Tryz.prog 21 #[.agg #[.int .i64 r, .int .i64 c, .int .i64 h, .slice A m cp], .int .i64 t, .int .i64 p] w (NoP 5 w) := by
  have HV := Lib.hid hv
  have hat : ∀ e ∈ l, 0 ≤ e.at' ∧ e.at' ≤ 1099511627776 := evsB_at (last := 0) (by unfold validB at hv; simp only [Bool.and_eq_true] at hv; exact hv.2)
  have hq0 : 0 ≤ prevAt l m ∧ prevAt l m ≤ 1099511627776 := by
    cases m with
    | zero => exact ⟨Int.le_refl _, by simp [prevAt]⟩
    | succ k =>
      have hk : k < l.length := by rw [hr.evs]; omega
      rw [prevAt_succ (List.getElem?_eq_getElem hk)]
      exact hat _ (List.getElem_mem hk)
  obtain ⟨hq1, hq2⟩ := hq0
  obtain ⟨w1_, w2_, w3_, w4_⟩ := wrapped hq1 hq2 hp1 hp2 ht1
  clear hat
  clear hv
  go_enter Tryz.func21, Tryz.ntmps21
  go_wp2_with (first
      | (go_at_call 23; refine (valid_any ((hr.alloc hB _).alloc (by simp; omega) _) (by simp; omega) hc hmc).mono ?_; rintro e w1 ⟨rfl, hb1⟩; rw [HV.out]; have b1 := ((Blk.new w 26 #[.int .i64 r, .int .i64 c, .int .i64 h, .slice A m cp]).alloc (.cells zeroRec 26)).below hb1 (by simp; omega); have b2 : Blk w1 (w.heap.size + 1) 26 zeroRec := (congrArg (fun n => Blk w1 n 26 zeroRec) (show (w.alloc (.cells #[.int .i64 r, .int .i64 c, .int .i64 h, .slice A m cp] 26)).heap.size = w.heap.size + 1 by simp)).mp ((Blk.new (w.alloc (.cells #[.int .i64 r, .int .i64 c, .int .i64 h, .slice A m cp] 26)) 26 zeroRec).below hb1 (by simp)); have hbw1 : Below w.heap.size w w1 := Below.trans (((Below.refl w.heap.size w).alloc (Nat.le_refl _) _).alloc (by simp) _) (hb1.mono (by simp; omega)); have hs1 : w.heap.size + 2 ≤ w1.heap.size := (by have := hb1.size; simp at this; omega); have q3 : w1.cell? ⟨w.heap.size, 3, none⟩ = some (.slice A m cp) := b1.cell 3; have q0 : w1.cell? ⟨w.heap.size, 0, none⟩ = some (.int .i64 r) := b1.cell 0; have q1 : w1.cell? ⟨w.heap.size, 1, none⟩ = some (.int .i64 c) := b1.cell 1; have q2 : w1.cell? ⟨w.heap.size, 2, none⟩ = some (.int .i64 h) := b1.cell 2; have hr1 := ((hr.alloc hB (.cells #[.int .i64 r, .int .i64 c, .int .i64 h, .slice A m cp] 26)).alloc (by simp; omega) (.cells zeroRec 26)).below (hb1.mono (by simp; omega)))
      | (go_at_call 16; refine (length_any hr1 (by omega) hm2).mono ?_; rintro e w2 ⟨rfl, hb2⟩; have b2' := b2.below hb2 (by omega); have hbw2 := hbw1.trans (hb2.mono hbw1.size); have p0 : w2.cell? ⟨w.heap.size + 1, 0, none⟩ = some (.int .i64 0) := b2'.cell 0; have p1 : w2.cell? ⟨w.heap.size + 1, 1, none⟩ = some (.int .i64 0) := b2'.cell 1; have p2 : w2.cell? ⟨w.heap.size + 1, 2, none⟩ = some (.int .i64 0) := b2'.cell 2; have p3 : w2.cell? ⟨w.heap.size + 1, 3, none⟩ = some (.slice none 0 0) := b2'.cell 3; have f0 := b2'.frozen 0; have f1 := b2'.frozen 1; have f2 := b2'.frozen 2; have f3 := b2'.frozen 3))
  have hle : w.heap.size ≤ w.heap.size + 1 := by omega
  have b3 := (((b2'.set_ 0 (.int .i64 0)).set_ 1 (.int .i64 0)).set_ 2 (.int .i64 0)).set_ 3 (.slice none 0 0)
  refine bodyPost_ret (res_rec rfl (b3.cell 0) (b3.cell 1) (b3.cell 2) (b3.cell 3) rfl rfl) rfl ?_
  exact ⟨rfl, (((hbw2.setCell hle _).setCell hle _).setCell hle _).setCell hle _⟩
end
end Go.Proofs.YtjohgmnabemakaaGreatDoor

namespace Go.Proofs.YtjohgmnabemakaaGreatDoor
open Go.RowKit Go.Rep
set_option maxRecDepth 100000
section
variable {r c h f t p : Int} {A A' : Option Addr} {m n cp cp' B B' : Nat} {l : List Ev} {w : World}
def YesP (w : World) (e : Ending) (w' : World) : Prop := e = .returned (.bool true) ∧ Below w.heap.size w w'
set_option maxHeartbeats 4000000 in
theorem joins_no (hr : Reads w B 6 A m (evCells l)) (hB : B ≤ w.heap.size) (hc : cp ≤ maxLen) (hmc : m ≤ cp) (hv : validB r c h l = false) :
    Calls Tryz.prog 7 #[.agg #[.int .i64 r, .int .i64 c, .int .i64 h, .slice A m cp], .agg zeroRec, .int .i64 2] w (YesP w) := by
  have HV := Lib.hid hv
  clear hv
  go_enter Tryz.func7, Tryz.ntmps7
  go_wp2_with (first
    | (go_at_call 19; refine (join_no ((hr.alloc hB _).alloc (by simp; omega) _) (by simp; omega) hc hmc HV.out).mono ?_; rintro e w1 ⟨rfl, hb1⟩; have bW : Blk w1 (w.heap.size + 1) 26 zeroRec := (congrArg (fun n_ => Blk w1 n_ 26 zeroRec) (show (w.alloc (.cells #[.int .i64 r, .int .i64 c, .int .i64 h, .slice A m cp] 26)).heap.size = w.heap.size + 1 by simp)).mp ((Blk.new (w.alloc (.cells #[.int .i64 r, .int .i64 c, .int .i64 h, .slice A m cp] 26)) 26 zeroRec).below hb1 (by simp)); have g0 : (w1.alloc (.cells zeroRec 26)).cell? ⟨w.heap.size + 1, 0, none⟩ = some (.int .i64 0) := (bW.alloc (.cells zeroRec 26)).cell 0; have g1 : (w1.alloc (.cells zeroRec 26)).cell? ⟨w.heap.size + 1, 1, none⟩ = some (.int .i64 0) := (bW.alloc (.cells zeroRec 26)).cell 1; have g2 : (w1.alloc (.cells zeroRec 26)).cell? ⟨w.heap.size + 1, 2, none⟩ = some (.int .i64 0) := (bW.alloc (.cells zeroRec 26)).cell 2; have g3 : (w1.alloc (.cells zeroRec 26)).cell? ⟨w.heap.size + 1, 3, none⟩ = some (.slice none 0 0) := (bW.alloc (.cells zeroRec 26)).cell 3; have hbw1 : Below w.heap.size w w1 := Below.trans (((Below.refl w.heap.size w).alloc (Nat.le_refl _) _).alloc (by simp) _) (hb1.mono (by simp; omega)); have hs1 := hb1.size; simp at hs1; have hbw2 := hbw1.alloc hbw1.size (.cells zeroRec 26); have y0 : (w1.alloc (.cells zeroRec 26)).cell? ⟨w1.heap.size, 0, none⟩ = some (.int .i64 0) := (Blk.new w1 26 zeroRec).cell 0; have y1 : (w1.alloc (.cells zeroRec 26)).cell? ⟨w1.heap.size, 1, none⟩ = some (.int .i64 0) := (Blk.new w1 26 zeroRec).cell 1; have y2 : (w1.alloc (.cells zeroRec 26)).cell? ⟨w1.heap.size, 2, none⟩ = some (.int .i64 0) := (Blk.new w1 26 zeroRec).cell 2; have y3 : (w1.alloc (.cells zeroRec 26)).cell? ⟨w1.heap.size, 3, none⟩ = some (.slice none 0 0) := (Blk.new w1 26 zeroRec).cell 3)
    | (go_at_call 10; refine (same_eq (B := 0) (B' := 0) (l := []) Reads.none_ (Nat.zero_le _) Reads.none_ (Nat.zero_le _) (by omega)).mono ?_; rintro e w2 ⟨rfl, hb2⟩))
  go_ret
  exact ⟨rfl, hbw2.trans (hb2.mono hbw2.size)⟩
set_option maxHeartbeats 4000000 in
theorem joins_yes (hr : Reads w B 6 A m (evCells l)) (hB : B ≤ w.heap.size) (hc : cp ≤ maxLen) (hmc : m ≤ cp) (hm2 : m ≤ 2000) (hv : validB r c h l = true) (hr' : Reads w B' 6 A' n (evCells (joinTo l l.length))) (hB' : B' ≤ w.heap.size) (hn : n ≤ 2000) :
    Calls Tryz.prog 7 #[.agg #[.int .i64 r, .int .i64 c, .int .i64 h, .slice A m cp], .agg #[.int .i64 r, .int .i64 c, .int .i64 h, .slice A' n cp'], .int .i64 0] w (YesP w) := by
  have HV := Lib.hid hv
  have HN := Lib.hid hr'.evs
  clear hv
  go_enter Tryz.func7, Tryz.ntmps7
  go_wp2_with (first
    | (go_at_call 19; refine (join_yes ((hr.alloc hB _).alloc (by simp; omega) _) (by simp; omega) hc hmc hm2 HV.out).mono ?_; rintro e w1 ⟨v, rfl, hown, hb1⟩; rw [HN.out] at hown; obtain ⟨A1, c1, rfl, _, _, hx⟩ := own_slice hown; have bW : Blk w1 (w.heap.size + 1) 26 #[.int .i64 r, .int .i64 c, .int .i64 h, .slice A' n cp'] := (congrArg (fun n_ => Blk w1 n_ 26 #[.int .i64 r, .int .i64 c, .int .i64 h, .slice A' n cp']) (show (w.alloc (.cells #[.int .i64 r, .int .i64 c, .int .i64 h, .slice A m cp] 26)).heap.size = w.heap.size + 1 by simp)).mp ((Blk.new (w.alloc (.cells #[.int .i64 r, .int .i64 c, .int .i64 h, .slice A m cp] 26)) 26 #[.int .i64 r, .int .i64 c, .int .i64 h, .slice A' n cp']).below hb1 (by simp)); have g0 : (w1.alloc (.cells #[.int .i64 r, .int .i64 c, .int .i64 h, .slice A1 n c1] 26)).cell? ⟨w.heap.size + 1, 0, none⟩ = some (.int .i64 r) := (bW.alloc (.cells #[.int .i64 r, .int .i64 c, .int .i64 h, .slice A1 n c1] 26)).cell 0; have g1 : (w1.alloc (.cells #[.int .i64 r, .int .i64 c, .int .i64 h, .slice A1 n c1] 26)).cell? ⟨w.heap.size + 1, 1, none⟩ = some (.int .i64 c) := (bW.alloc (.cells #[.int .i64 r, .int .i64 c, .int .i64 h, .slice A1 n c1] 26)).cell 1; have g2 : (w1.alloc (.cells #[.int .i64 r, .int .i64 c, .int .i64 h, .slice A1 n c1] 26)).cell? ⟨w.heap.size + 1, 2, none⟩ = some (.int .i64 h) := (bW.alloc (.cells #[.int .i64 r, .int .i64 c, .int .i64 h, .slice A1 n c1] 26)).cell 2; have g3 : (w1.alloc (.cells #[.int .i64 r, .int .i64 c, .int .i64 h, .slice A1 n c1] 26)).cell? ⟨w.heap.size + 1, 3, none⟩ = some (.slice A' n cp') := (bW.alloc (.cells #[.int .i64 r, .int .i64 c, .int .i64 h, .slice A1 n c1] 26)).cell 3; have hbw1 : Below w.heap.size w w1 := Below.trans (((Below.refl w.heap.size w).alloc (Nat.le_refl _) _).alloc (by simp) _) (hb1.mono (by simp; omega)); have hs1 := hb1.size; simp at hs1; have hbw2 := hbw1.alloc hbw1.size (.cells #[.int .i64 r, .int .i64 c, .int .i64 h, .slice A1 n c1] 26); have hx2 := hx.alloc (Nat.le_refl _) (.cells #[.int .i64 r, .int .i64 c, .int .i64 h, .slice A1 n c1] 26); have hr2 := (((hr'.alloc hB' (.cells #[.int .i64 r, .int .i64 c, .int .i64 h, .slice A m cp] 26)).alloc (by simp; omega) (.cells #[.int .i64 r, .int .i64 c, .int .i64 h, .slice A' n cp'] 26)).below (hb1.mono (by simp; omega))).alloc (by omega) (.cells #[.int .i64 r, .int .i64 c, .int .i64 h, .slice A1 n c1] 26))
    | (go_at_call 10; refine (same_eq hx2 (by simp) hr2 (by simp; omega) hn).mono ?_; rintro e w2 ⟨rfl, hb2⟩))
  go_ret
  exact ⟨rfl, hbw2.trans (hb2.mono hbw2.size)⟩
set_option maxHeartbeats 4000000 in
theorem cuts_no (hr : Reads w B 6 A m (evCells l)) (hB : B ≤ w.heap.size) (hc : cp ≤ maxLen) (hmc : m ≤ cp) (hv : validB r c h l = false) :
    Calls Tryz.prog 8 #[.agg #[.int .i64 r, .int .i64 c, .int .i64 h, .slice A m cp], .int .i64 f, .int .i64 t, .agg zeroRec, .int .i64 2] w (YesP w) := by
  have HV := Lib.hid hv
  clear hv
  go_enter Tryz.func8, Tryz.ntmps8
  go_wp2_with (first
    | (go_at_call 20; refine (cut_no ((hr.alloc hB _).alloc (by simp; omega) _) (by simp; omega) hc hmc HV.out).mono ?_; rintro e w1 ⟨rfl, hb1⟩; have bW : Blk w1 (w.heap.size + 1) 26 zeroRec := (congrArg (fun n_ => Blk w1 n_ 26 zeroRec) (show (w.alloc (.cells #[.int .i64 r, .int .i64 c, .int .i64 h, .slice A m cp] 26)).heap.size = w.heap.size + 1 by simp)).mp ((Blk.new (w.alloc (.cells #[.int .i64 r, .int .i64 c, .int .i64 h, .slice A m cp] 26)) 26 zeroRec).below hb1 (by simp)); have g0 : (w1.alloc (.cells zeroRec 26)).cell? ⟨w.heap.size + 1, 0, none⟩ = some (.int .i64 0) := (bW.alloc (.cells zeroRec 26)).cell 0; have g1 : (w1.alloc (.cells zeroRec 26)).cell? ⟨w.heap.size + 1, 1, none⟩ = some (.int .i64 0) := (bW.alloc (.cells zeroRec 26)).cell 1; have g2 : (w1.alloc (.cells zeroRec 26)).cell? ⟨w.heap.size + 1, 2, none⟩ = some (.int .i64 0) := (bW.alloc (.cells zeroRec 26)).cell 2; have g3 : (w1.alloc (.cells zeroRec 26)).cell? ⟨w.heap.size + 1, 3, none⟩ = some (.slice none 0 0) := (bW.alloc (.cells zeroRec 26)).cell 3; have hbw1 : Below w.heap.size w w1 := Below.trans (((Below.refl w.heap.size w).alloc (Nat.le_refl _) _).alloc (by simp) _) (hb1.mono (by simp; omega)); have hs1 := hb1.size; simp at hs1; have hbw2 := hbw1.alloc hbw1.size (.cells zeroRec 26); have y0 : (w1.alloc (.cells zeroRec 26)).cell? ⟨w1.heap.size, 0, none⟩ = some (.int .i64 0) := (Blk.new w1 26 zeroRec).cell 0; have y1 : (w1.alloc (.cells zeroRec 26)).cell? ⟨w1.heap.size, 1, none⟩ = some (.int .i64 0) := (Blk.new w1 26 zeroRec).cell 1; have y2 : (w1.alloc (.cells zeroRec 26)).cell? ⟨w1.heap.size, 2, none⟩ = some (.int .i64 0) := (Blk.new w1 26 zeroRec).cell 2; have y3 : (w1.alloc (.cells zeroRec 26)).cell? ⟨w1.heap.size, 3, none⟩ = some (.slice none 0 0) := (Blk.new w1 26 zeroRec).cell 3)
    | (go_at_call 10; refine (same_eq (B := 0) (B' := 0) (l := []) Reads.none_ (Nat.zero_le _) Reads.none_ (Nat.zero_le _) (by omega)).mono ?_; rintro e w2 ⟨rfl, hb2⟩))
  go_ret
  exact ⟨rfl, hbw2.trans (hb2.mono hbw2.size)⟩
set_option maxHeartbeats 4000000 in
theorem cuts_arg (hr : Reads w B 6 A m (evCells l)) (hB : B ≤ w.heap.size) (hc : cp ≤ maxLen) (hmc : m ≤ cp) (hv : validB r c h l = true) (hbad : f < 0 ∨ 1099511627776 < f ∨ t < 0 ∨ 1099511627776 < t) :
    Calls Tryz.prog 8 #[.agg #[.int .i64 r, .int .i64 c, .int .i64 h, .slice A m cp], .int .i64 f, .int .i64 t, .agg zeroRec, .int .i64 2] w (YesP w) := by
  have HV := Lib.hid hv
  clear hv
  go_enter Tryz.func8, Tryz.ntmps8
  go_wp2_with (first
    | (go_at_call 20; refine (cut_arg ((hr.alloc hB _).alloc (by simp; omega) _) (by simp; omega) hc hmc HV.out hbad).mono ?_; rintro e w1 ⟨rfl, hb1⟩; have bW : Blk w1 (w.heap.size + 1) 26 zeroRec := (congrArg (fun n_ => Blk w1 n_ 26 zeroRec) (show (w.alloc (.cells #[.int .i64 r, .int .i64 c, .int .i64 h, .slice A m cp] 26)).heap.size = w.heap.size + 1 by simp)).mp ((Blk.new (w.alloc (.cells #[.int .i64 r, .int .i64 c, .int .i64 h, .slice A m cp] 26)) 26 zeroRec).below hb1 (by simp)); have g0 : (w1.alloc (.cells zeroRec 26)).cell? ⟨w.heap.size + 1, 0, none⟩ = some (.int .i64 0) := (bW.alloc (.cells zeroRec 26)).cell 0; have g1 : (w1.alloc (.cells zeroRec 26)).cell? ⟨w.heap.size + 1, 1, none⟩ = some (.int .i64 0) := (bW.alloc (.cells zeroRec 26)).cell 1; have g2 : (w1.alloc (.cells zeroRec 26)).cell? ⟨w.heap.size + 1, 2, none⟩ = some (.int .i64 0) := (bW.alloc (.cells zeroRec 26)).cell 2; have g3 : (w1.alloc (.cells zeroRec 26)).cell? ⟨w.heap.size + 1, 3, none⟩ = some (.slice none 0 0) := (bW.alloc (.cells zeroRec 26)).cell 3; have hbw1 : Below w.heap.size w w1 := Below.trans (((Below.refl w.heap.size w).alloc (Nat.le_refl _) _).alloc (by simp) _) (hb1.mono (by simp; omega)); have hs1 := hb1.size; simp at hs1; have hbw2 := hbw1.alloc hbw1.size (.cells zeroRec 26); have y0 : (w1.alloc (.cells zeroRec 26)).cell? ⟨w1.heap.size, 0, none⟩ = some (.int .i64 0) := (Blk.new w1 26 zeroRec).cell 0; have y1 : (w1.alloc (.cells zeroRec 26)).cell? ⟨w1.heap.size, 1, none⟩ = some (.int .i64 0) := (Blk.new w1 26 zeroRec).cell 1; have y2 : (w1.alloc (.cells zeroRec 26)).cell? ⟨w1.heap.size, 2, none⟩ = some (.int .i64 0) := (Blk.new w1 26 zeroRec).cell 2; have y3 : (w1.alloc (.cells zeroRec 26)).cell? ⟨w1.heap.size, 3, none⟩ = some (.slice none 0 0) := (Blk.new w1 26 zeroRec).cell 3)
    | (go_at_call 10; refine (same_eq (B := 0) (B' := 0) (l := []) Reads.none_ (Nat.zero_le _) Reads.none_ (Nat.zero_le _) (by omega)).mono ?_; rintro e w2 ⟨rfl, hb2⟩))
  go_ret
  exact ⟨rfl, hbw2.trans (hb2.mono hbw2.size)⟩
set_option maxHeartbeats 4000000 in
theorem cuts_order (hr : Reads w B 6 A m (evCells l)) (hB : B ≤ w.heap.size) (hc : cp ≤ maxLen) (hmc : m ≤ cp) (hv : validB r c h l = true) (hf : 0 ≤ f) (hf2 : f ≤ 1099511627776) (ht : 0 ≤ t) (ht2 : t ≤ 1099511627776) (hft : t < f) :
    Calls Tryz.prog 8 #[.agg #[.int .i64 r, .int .i64 c, .int .i64 h, .slice A m cp], .int .i64 f, .int .i64 t, .agg zeroRec, .int .i64 13] w (YesP w) := by
  have HV := Lib.hid hv
  clear hv
  go_enter Tryz.func8, Tryz.ntmps8
  go_wp2_with (first
    | (go_at_call 20; refine (cut_order ((hr.alloc hB _).alloc (by simp; omega) _) (by simp; omega) hc hmc HV.out hf hf2 ht ht2 hft).mono ?_; rintro e w1 ⟨rfl, hb1⟩; have bW : Blk w1 (w.heap.size + 1) 26 zeroRec := (congrArg (fun n_ => Blk w1 n_ 26 zeroRec) (show (w.alloc (.cells #[.int .i64 r, .int .i64 c, .int .i64 h, .slice A m cp] 26)).heap.size = w.heap.size + 1 by simp)).mp ((Blk.new (w.alloc (.cells #[.int .i64 r, .int .i64 c, .int .i64 h, .slice A m cp] 26)) 26 zeroRec).below hb1 (by simp)); have g0 : (w1.alloc (.cells zeroRec 26)).cell? ⟨w.heap.size + 1, 0, none⟩ = some (.int .i64 0) := (bW.alloc (.cells zeroRec 26)).cell 0; have g1 : (w1.alloc (.cells zeroRec 26)).cell? ⟨w.heap.size + 1, 1, none⟩ = some (.int .i64 0) := (bW.alloc (.cells zeroRec 26)).cell 1; have g2 : (w1.alloc (.cells zeroRec 26)).cell? ⟨w.heap.size + 1, 2, none⟩ = some (.int .i64 0) := (bW.alloc (.cells zeroRec 26)).cell 2; have g3 : (w1.alloc (.cells zeroRec 26)).cell? ⟨w.heap.size + 1, 3, none⟩ = some (.slice none 0 0) := (bW.alloc (.cells zeroRec 26)).cell 3; have hbw1 : Below w.heap.size w w1 := Below.trans (((Below.refl w.heap.size w).alloc (Nat.le_refl _) _).alloc (by simp) _) (hb1.mono (by simp; omega)); have hs1 := hb1.size; simp at hs1; have hbw2 := hbw1.alloc hbw1.size (.cells zeroRec 26); have y0 : (w1.alloc (.cells zeroRec 26)).cell? ⟨w1.heap.size, 0, none⟩ = some (.int .i64 0) := (Blk.new w1 26 zeroRec).cell 0; have y1 : (w1.alloc (.cells zeroRec 26)).cell? ⟨w1.heap.size, 1, none⟩ = some (.int .i64 0) := (Blk.new w1 26 zeroRec).cell 1; have y2 : (w1.alloc (.cells zeroRec 26)).cell? ⟨w1.heap.size, 2, none⟩ = some (.int .i64 0) := (Blk.new w1 26 zeroRec).cell 2; have y3 : (w1.alloc (.cells zeroRec 26)).cell? ⟨w1.heap.size, 3, none⟩ = some (.slice none 0 0) := (Blk.new w1 26 zeroRec).cell 3)
    | (go_at_call 10; refine (same_eq (B := 0) (B' := 0) (l := []) Reads.none_ (Nat.zero_le _) Reads.none_ (Nat.zero_le _) (by omega)).mono ?_; rintro e w2 ⟨rfl, hb2⟩))
  go_ret
  exact ⟨rfl, hbw2.trans (hb2.mono hbw2.size)⟩
set_option maxHeartbeats 4000000 in
theorem cuts_yes (hr : Reads w B 6 A m (evCells l)) (hB : B ≤ w.heap.size) (hc : cp ≤ maxLen) (hmc : m ≤ cp) (hm2 : m ≤ 2000) (hv : validB r c h l = true) (hf : 0 ≤ f) (hft : f ≤ t) (ht : t ≤ 1099511627776) (hr' : Reads w B' 6 A' n (evCells (cutL f t l))) (hB' : B' ≤ w.heap.size) (hn : n ≤ 2000) :
    Calls Tryz.prog 8 #[.agg #[.int .i64 r, .int .i64 c, .int .i64 h, .slice A m cp], .int .i64 f, .int .i64 t, .agg #[.int .i64 r, .int .i64 c, .int .i64 h, .slice A' n cp'], .int .i64 0] w (YesP w) := by
  have HV := Lib.hid hv
  have HN := Lib.hid hr'.evs
  clear hv
  go_enter Tryz.func8, Tryz.ntmps8
  go_wp2_with (first
    | (go_at_call 20; refine (cut_yes ((hr.alloc hB _).alloc (by simp; omega) _) (by simp; omega) hc hmc hm2 HV.out hf hft ht).mono ?_; rintro e w1 ⟨v, rfl, hown, hb1⟩; rw [HN.out] at hown; obtain ⟨A1, c1, rfl, _, _, hx⟩ := own_slice hown; have bW : Blk w1 (w.heap.size + 1) 26 #[.int .i64 r, .int .i64 c, .int .i64 h, .slice A' n cp'] := (congrArg (fun n_ => Blk w1 n_ 26 #[.int .i64 r, .int .i64 c, .int .i64 h, .slice A' n cp']) (show (w.alloc (.cells #[.int .i64 r, .int .i64 c, .int .i64 h, .slice A m cp] 26)).heap.size = w.heap.size + 1 by simp)).mp ((Blk.new (w.alloc (.cells #[.int .i64 r, .int .i64 c, .int .i64 h, .slice A m cp] 26)) 26 #[.int .i64 r, .int .i64 c, .int .i64 h, .slice A' n cp']).below hb1 (by simp)); have g0 : (w1.alloc (.cells #[.int .i64 r, .int .i64 c, .int .i64 h, .slice A1 n c1] 26)).cell? ⟨w.heap.size + 1, 0, none⟩ = some (.int .i64 r) := (bW.alloc (.cells #[.int .i64 r, .int .i64 c, .int .i64 h, .slice A1 n c1] 26)).cell 0; have g1 : (w1.alloc (.cells #[.int .i64 r, .int .i64 c, .int .i64 h, .slice A1 n c1] 26)).cell? ⟨w.heap.size + 1, 1, none⟩ = some (.int .i64 c) := (bW.alloc (.cells #[.int .i64 r, .int .i64 c, .int .i64 h, .slice A1 n c1] 26)).cell 1; have g2 : (w1.alloc (.cells #[.int .i64 r, .int .i64 c, .int .i64 h, .slice A1 n c1] 26)).cell? ⟨w.heap.size + 1, 2, none⟩ = some (.int .i64 h) := (bW.alloc (.cells #[.int .i64 r, .int .i64 c, .int .i64 h, .slice A1 n c1] 26)).cell 2; have g3 : (w1.alloc (.cells #[.int .i64 r, .int .i64 c, .int .i64 h, .slice A1 n c1] 26)).cell? ⟨w.heap.size + 1, 3, none⟩ = some (.slice A' n cp') := (bW.alloc (.cells #[.int .i64 r, .int .i64 c, .int .i64 h, .slice A1 n c1] 26)).cell 3; have hbw1 : Below w.heap.size w w1 := Below.trans (((Below.refl w.heap.size w).alloc (Nat.le_refl _) _).alloc (by simp) _) (hb1.mono (by simp; omega)); have hs1 := hb1.size; simp at hs1; have hbw2 := hbw1.alloc hbw1.size (.cells #[.int .i64 r, .int .i64 c, .int .i64 h, .slice A1 n c1] 26); have hx2 := hx.alloc (Nat.le_refl _) (.cells #[.int .i64 r, .int .i64 c, .int .i64 h, .slice A1 n c1] 26); have hr2 := (((hr'.alloc hB' (.cells #[.int .i64 r, .int .i64 c, .int .i64 h, .slice A m cp] 26)).alloc (by simp; omega) (.cells #[.int .i64 r, .int .i64 c, .int .i64 h, .slice A' n cp'] 26)).below (hb1.mono (by simp; omega))).alloc (by omega) (.cells #[.int .i64 r, .int .i64 c, .int .i64 h, .slice A1 n c1] 26))
    | (go_at_call 10; refine (same_eq hx2 (by simp) hr2 (by simp; omega) hn).mono ?_; rintro e w2 ⟨rfl, hb2⟩))
  go_ret
  exact ⟨rfl, hbw2.trans (hb2.mono hbw2.size)⟩
set_option maxHeartbeats 4000000 in
theorem speeds_no (hr : Reads w B 6 A m (evCells l)) (hB : B ≤ w.heap.size) (hc : cp ≤ maxLen) (hmc : m ≤ cp) (hv : validB r c h l = false) :
    Calls Tryz.prog 9 #[.agg #[.int .i64 r, .int .i64 c, .int .i64 h, .slice A m cp], .int .i64 t, .int .i64 p, .agg zeroRec, .int .i64 2] w (YesP w) := by
  have HV := Lib.hid hv
  clear hv
  go_enter Tryz.func9, Tryz.ntmps9
  go_wp2_with (first
    | (go_at_call 21; refine (speed_no ((hr.alloc hB _).alloc (by simp; omega) _) (by simp; omega) hc hmc HV.out).mono ?_; rintro e w1 ⟨rfl, hb1⟩; have bW : Blk w1 (w.heap.size + 1) 26 zeroRec := (congrArg (fun n_ => Blk w1 n_ 26 zeroRec) (show (w.alloc (.cells #[.int .i64 r, .int .i64 c, .int .i64 h, .slice A m cp] 26)).heap.size = w.heap.size + 1 by simp)).mp ((Blk.new (w.alloc (.cells #[.int .i64 r, .int .i64 c, .int .i64 h, .slice A m cp] 26)) 26 zeroRec).below hb1 (by simp)); have g0 : (w1.alloc (.cells zeroRec 26)).cell? ⟨w.heap.size + 1, 0, none⟩ = some (.int .i64 0) := (bW.alloc (.cells zeroRec 26)).cell 0; have g1 : (w1.alloc (.cells zeroRec 26)).cell? ⟨w.heap.size + 1, 1, none⟩ = some (.int .i64 0) := (bW.alloc (.cells zeroRec 26)).cell 1; have g2 : (w1.alloc (.cells zeroRec 26)).cell? ⟨w.heap.size + 1, 2, none⟩ = some (.int .i64 0) := (bW.alloc (.cells zeroRec 26)).cell 2; have g3 : (w1.alloc (.cells zeroRec 26)).cell? ⟨w.heap.size + 1, 3, none⟩ = some (.slice none 0 0) := (bW.alloc (.cells zeroRec 26)).cell 3; have hbw1 : Below w.heap.size w w1 := Below.trans (((Below.refl w.heap.size w).alloc (Nat.le_refl _) _).alloc (by simp) _) (hb1.mono (by simp; omega)); have hs1 := hb1.size; simp at hs1; have hbw2 := hbw1.alloc hbw1.size (.cells zeroRec 26); have y0 : (w1.alloc (.cells zeroRec 26)).cell? ⟨w1.heap.size, 0, none⟩ = some (.int .i64 0) := (Blk.new w1 26 zeroRec).cell 0; have y1 : (w1.alloc (.cells zeroRec 26)).cell? ⟨w1.heap.size, 1, none⟩ = some (.int .i64 0) := (Blk.new w1 26 zeroRec).cell 1; have y2 : (w1.alloc (.cells zeroRec 26)).cell? ⟨w1.heap.size, 2, none⟩ = some (.int .i64 0) := (Blk.new w1 26 zeroRec).cell 2; have y3 : (w1.alloc (.cells zeroRec 26)).cell? ⟨w1.heap.size, 3, none⟩ = some (.slice none 0 0) := (Blk.new w1 26 zeroRec).cell 3)
    | (go_at_call 10; refine (same_eq (B := 0) (B' := 0) (l := []) Reads.none_ (Nat.zero_le _) Reads.none_ (Nat.zero_le _) (by omega)).mono ?_; rintro e w2 ⟨rfl, hb2⟩))
  go_ret
  exact ⟨rfl, hbw2.trans (hb2.mono hbw2.size)⟩
set_option maxHeartbeats 4000000 in
theorem speeds_arg (hr : Reads w B 6 A m (evCells l)) (hB : B ≤ w.heap.size) (hc : cp ≤ maxLen) (hmc : m ≤ cp) (hv : validB r c h l = true) (hbad : t < 1 ∨ 1000 < t ∨ p < 1 ∨ 1000 < p) :
    Calls Tryz.prog 9 #[.agg #[.int .i64 r, .int .i64 c, .int .i64 h, .slice A m cp], .int .i64 t, .int .i64 p, .agg zeroRec, .int .i64 2] w (YesP w) := by
  have HV := Lib.hid hv
  clear hv
  go_enter Tryz.func9, Tryz.ntmps9
  go_wp2_with (first
    | (go_at_call 21; refine (speed_arg ((hr.alloc hB _).alloc (by simp; omega) _) (by simp; omega) hc hmc HV.out hbad).mono ?_; rintro e w1 ⟨rfl, hb1⟩; have bW : Blk w1 (w.heap.size + 1) 26 zeroRec := (congrArg (fun n_ => Blk w1 n_ 26 zeroRec) (show (w.alloc (.cells #[.int .i64 r, .int .i64 c, .int .i64 h, .slice A m cp] 26)).heap.size = w.heap.size + 1 by simp)).mp ((Blk.new (w.alloc (.cells #[.int .i64 r, .int .i64 c, .int .i64 h, .slice A m cp] 26)) 26 zeroRec).below hb1 (by simp)); have g0 : (w1.alloc (.cells zeroRec 26)).cell? ⟨w.heap.size + 1, 0, none⟩ = some (.int .i64 0) := (bW.alloc (.cells zeroRec 26)).cell 0; have g1 : (w1.alloc (.cells zeroRec 26)).cell? ⟨w.heap.size + 1, 1, none⟩ = some (.int .i64 0) := (bW.alloc (.cells zeroRec 26)).cell 1; have g2 : (w1.alloc (.cells zeroRec 26)).cell? ⟨w.heap.size + 1, 2, none⟩ = some (.int .i64 0) := (bW.alloc (.cells zeroRec 26)).cell 2; have g3 : (w1.alloc (.cells zeroRec 26)).cell? ⟨w.heap.size + 1, 3, none⟩ = some (.slice none 0 0) := (bW.alloc (.cells zeroRec 26)).cell 3; have hbw1 : Below w.heap.size w w1 := Below.trans (((Below.refl w.heap.size w).alloc (Nat.le_refl _) _).alloc (by simp) _) (hb1.mono (by simp; omega)); have hs1 := hb1.size; simp at hs1; have hbw2 := hbw1.alloc hbw1.size (.cells zeroRec 26); have y0 : (w1.alloc (.cells zeroRec 26)).cell? ⟨w1.heap.size, 0, none⟩ = some (.int .i64 0) := (Blk.new w1 26 zeroRec).cell 0; have y1 : (w1.alloc (.cells zeroRec 26)).cell? ⟨w1.heap.size, 1, none⟩ = some (.int .i64 0) := (Blk.new w1 26 zeroRec).cell 1; have y2 : (w1.alloc (.cells zeroRec 26)).cell? ⟨w1.heap.size, 2, none⟩ = some (.int .i64 0) := (Blk.new w1 26 zeroRec).cell 2; have y3 : (w1.alloc (.cells zeroRec 26)).cell? ⟨w1.heap.size, 3, none⟩ = some (.slice none 0 0) := (Blk.new w1 26 zeroRec).cell 3)
    | (go_at_call 10; refine (same_eq (B := 0) (B' := 0) (l := []) Reads.none_ (Nat.zero_le _) Reads.none_ (Nat.zero_le _) (by omega)).mono ?_; rintro e w2 ⟨rfl, hb2⟩))
  go_ret
  exact ⟨rfl, hbw2.trans (hb2.mono hbw2.size)⟩
set_option maxHeartbeats 4000000 in
theorem speeds_long (hr : Reads w B 6 A m (evCells l)) (hB : B ≤ w.heap.size) (hc : cp ≤ maxLen) (hmc : m ≤ cp) (hv : validB r c h l = true) (hm2 : m ≤ 2000) (ht1 : 1 ≤ t) (ht2 : t ≤ 1000) (hp1 : 1 ≤ p) (hp2 : p ≤ 1000) (hl : 1099511627776 < prevAt l m * p / t) :
    Calls Tryz.prog 9 #[.agg #[.int .i64 r, .int .i64 c, .int .i64 h, .slice A m cp], .int .i64 t, .int .i64 p, .agg zeroRec, .int .i64 5] w (YesP w) := by
  have HV := Lib.hid hv
  clear hv
  go_enter Tryz.func9, Tryz.ntmps9
  go_wp2_with (first
    | (go_at_call 21; refine (speed_long ((hr.alloc hB _).alloc (by simp; omega) _) (by simp; omega) hc hmc HV.out hm2 ht1 ht2 hp1 hp2 hl).mono ?_; rintro e w1 ⟨rfl, hb1⟩; have bW : Blk w1 (w.heap.size + 1) 26 zeroRec := (congrArg (fun n_ => Blk w1 n_ 26 zeroRec) (show (w.alloc (.cells #[.int .i64 r, .int .i64 c, .int .i64 h, .slice A m cp] 26)).heap.size = w.heap.size + 1 by simp)).mp ((Blk.new (w.alloc (.cells #[.int .i64 r, .int .i64 c, .int .i64 h, .slice A m cp] 26)) 26 zeroRec).below hb1 (by simp)); have g0 : (w1.alloc (.cells zeroRec 26)).cell? ⟨w.heap.size + 1, 0, none⟩ = some (.int .i64 0) := (bW.alloc (.cells zeroRec 26)).cell 0; have g1 : (w1.alloc (.cells zeroRec 26)).cell? ⟨w.heap.size + 1, 1, none⟩ = some (.int .i64 0) := (bW.alloc (.cells zeroRec 26)).cell 1; have g2 : (w1.alloc (.cells zeroRec 26)).cell? ⟨w.heap.size + 1, 2, none⟩ = some (.int .i64 0) := (bW.alloc (.cells zeroRec 26)).cell 2; have g3 : (w1.alloc (.cells zeroRec 26)).cell? ⟨w.heap.size + 1, 3, none⟩ = some (.slice none 0 0) := (bW.alloc (.cells zeroRec 26)).cell 3; have hbw1 : Below w.heap.size w w1 := Below.trans (((Below.refl w.heap.size w).alloc (Nat.le_refl _) _).alloc (by simp) _) (hb1.mono (by simp; omega)); have hs1 := hb1.size; simp at hs1; have hbw2 := hbw1.alloc hbw1.size (.cells zeroRec 26); have y0 : (w1.alloc (.cells zeroRec 26)).cell? ⟨w1.heap.size, 0, none⟩ = some (.int .i64 0) := (Blk.new w1 26 zeroRec).cell 0; have y1 : (w1.alloc (.cells zeroRec 26)).cell? ⟨w1.heap.size, 1, none⟩ = some (.int .i64 0) := (Blk.new w1 26 zeroRec).cell 1; have y2 : (w1.alloc (.cells zeroRec 26)).cell? ⟨w1.heap.size, 2, none⟩ = some (.int .i64 0) := (Blk.new w1 26 zeroRec).cell 2; have y3 : (w1.alloc (.cells zeroRec 26)).cell? ⟨w1.heap.size, 3, none⟩ = some (.slice none 0 0) := (Blk.new w1 26 zeroRec).cell 3)
    | (go_at_call 10; refine (same_eq (B := 0) (B' := 0) (l := []) Reads.none_ (Nat.zero_le _) Reads.none_ (Nat.zero_le _) (by omega)).mono ?_; rintro e w2 ⟨rfl, hb2⟩))
  go_ret
  exact ⟨rfl, hbw2.trans (hb2.mono hbw2.size)⟩
set_option maxHeartbeats 4000000 in
theorem speeds_yes (hr : Reads w B 6 A m (evCells l)) (hB : B ≤ w.heap.size) (hc : cp ≤ maxLen) (hmc : m ≤ cp) (hm2 : m ≤ 2000) (hv : validB r c h l = true) (ht1 : 1 ≤ t) (ht2 : t ≤ 1000) (hp1 : 1 ≤ p) (hp2 : p ≤ 1000) (hl : prevAt l m * p / t ≤ 1099511627776) (hr' : Reads w B' 6 A' n (evCells (speedL t p l))) (hB' : B' ≤ w.heap.size) (hn : n ≤ 2000) :
    Calls Tryz.prog 9 #[.agg #[.int .i64 r, .int .i64 c, .int .i64 h, .slice A m cp], .int .i64 t, .int .i64 p, .agg #[.int .i64 r, .int .i64 c, .int .i64 h, .slice A' n cp'], .int .i64 0] w (YesP w) := by
  have HV := Lib.hid hv
  have HN := Lib.hid hr'.evs
  clear hv
  have hln : l.length = n := by rw [← hr'.evs]; simp [speedL]
  have HLN := Lib.hid hln
  clear hln
  go_enter Tryz.func9, Tryz.ntmps9
  go_wp2_with (first
    | (go_at_call 21; refine (speed_yes ((hr.alloc hB _).alloc (by simp; omega) _) (by simp; omega) hc hmc hm2 HV.out ht1 ht2 hp1 hp2 hl).mono ?_; rintro e w1 ⟨v, rfl, hown, hb1⟩; rw [HLN.out] at hown; obtain ⟨A1, c1, rfl, _, _, hx⟩ := own_slice hown; have bW : Blk w1 (w.heap.size + 1) 26 #[.int .i64 r, .int .i64 c, .int .i64 h, .slice A' n cp'] := (congrArg (fun n_ => Blk w1 n_ 26 #[.int .i64 r, .int .i64 c, .int .i64 h, .slice A' n cp']) (show (w.alloc (.cells #[.int .i64 r, .int .i64 c, .int .i64 h, .slice A m cp] 26)).heap.size = w.heap.size + 1 by simp)).mp ((Blk.new (w.alloc (.cells #[.int .i64 r, .int .i64 c, .int .i64 h, .slice A m cp] 26)) 26 #[.int .i64 r, .int .i64 c, .int .i64 h, .slice A' n cp']).below hb1 (by simp)); have g0 : (w1.alloc (.cells #[.int .i64 r, .int .i64 c, .int .i64 h, .slice A1 n c1] 26)).cell? ⟨w.heap.size + 1, 0, none⟩ = some (.int .i64 r) := (bW.alloc (.cells #[.int .i64 r, .int .i64 c, .int .i64 h, .slice A1 n c1] 26)).cell 0; have g1 : (w1.alloc (.cells #[.int .i64 r, .int .i64 c, .int .i64 h, .slice A1 n c1] 26)).cell? ⟨w.heap.size + 1, 1, none⟩ = some (.int .i64 c) := (bW.alloc (.cells #[.int .i64 r, .int .i64 c, .int .i64 h, .slice A1 n c1] 26)).cell 1; have g2 : (w1.alloc (.cells #[.int .i64 r, .int .i64 c, .int .i64 h, .slice A1 n c1] 26)).cell? ⟨w.heap.size + 1, 2, none⟩ = some (.int .i64 h) := (bW.alloc (.cells #[.int .i64 r, .int .i64 c, .int .i64 h, .slice A1 n c1] 26)).cell 2; have g3 : (w1.alloc (.cells #[.int .i64 r, .int .i64 c, .int .i64 h, .slice A1 n c1] 26)).cell? ⟨w.heap.size + 1, 3, none⟩ = some (.slice A' n cp') := (bW.alloc (.cells #[.int .i64 r, .int .i64 c, .int .i64 h, .slice A1 n c1] 26)).cell 3; have hbw1 : Below w.heap.size w w1 := Below.trans (((Below.refl w.heap.size w).alloc (Nat.le_refl _) _).alloc (by simp) _) (hb1.mono (by simp; omega)); have hs1 := hb1.size; simp at hs1; have hbw2 := hbw1.alloc hbw1.size (.cells #[.int .i64 r, .int .i64 c, .int .i64 h, .slice A1 n c1] 26); have hx2 := hx.alloc (Nat.le_refl _) (.cells #[.int .i64 r, .int .i64 c, .int .i64 h, .slice A1 n c1] 26); have hr2 := (((hr'.alloc hB' (.cells #[.int .i64 r, .int .i64 c, .int .i64 h, .slice A m cp] 26)).alloc (by simp; omega) (.cells #[.int .i64 r, .int .i64 c, .int .i64 h, .slice A' n cp'] 26)).below (hb1.mono (by simp; omega))).alloc (by omega) (.cells #[.int .i64 r, .int .i64 c, .int .i64 h, .slice A1 n c1] 26))
    | (go_at_call 10; refine (same_eq hx2 (by simp) hr2 (by simp; omega) hn).mono ?_; rintro e w2 ⟨rfl, hb2⟩))
  go_ret
  exact ⟨rfl, hbw2.trans (hb2.mono hbw2.size)⟩
end
end Go.Proofs.YtjohgmnabemakaaGreatDoor

namespace Go.Proofs.YtjohgmnabemakaaGreatDoor
open Go.RowKit Go.Rep
set_option maxRecDepth 100000
section
variable {r c h f t ti p : Int} {A : Option Addr} {m cp B : Nat} {l : List Ev} {w : World}
theorem lvalid_any (hr : Reads w B 6 A m (evCells l)) (hB : B ≤ w.heap.size) (hc : cp ≤ maxLen) (hmc : m ≤ cp) :
    Calls Tryz.prog 6 #[.agg #[.int .i64 r, .int .i64 c, .int .i64 h, .slice A m cp]] w (ValidP r c h l w) := by
  by_cases hall : sizeB r c = true ∧ 0 ≤ h ∧ h ≤ 1048576 ∧ m ≤ 2000
  · exact lvalid_yes hr hB hc hmc hall
  · exact lvalid_no hr hall
/-- A record that is not small. -/
theorem edits_large (hw : Laid w) (hr : Reads w B 6 A m (evCells l)) (hB : B ≤ w.heap.size) (hs : smallB l = false) :
    Calls Tryz.prog 3 #[.agg #[.int .i64 r, .int .i64 c, .int .i64 h, .slice A m cp], .int .i64 f, .int .i64 t, .int .i64 ti, .int .i64 p] w (YesP w) := by
  have HS := Lib.hid hs
  have hG := hw.size
  clear hs
  go_enter Tryz.func3, Tryz.ntmps3
  go_wp2_with (first
    | (go_at_call 4; refine (small_any (hr.alloc hB _) (by simp; omega)).mono ?_; rintro e w1 ⟨rfl, hb1⟩; rw [HS.out]; have hbw1 : Below w.heap.size w w1 := ((Below.refl _ _).alloc (Nat.le_refl _) _).trans (hb1.mono (by simp)); have hT1 := tab_up hG hbw1 hw)
    | (go_at_call 5; refine (any_Known _ hT1).mono ?_; rintro e w2 ⟨rfl, hb2⟩))
  go_ret
  exact ⟨rfl, hbw1.trans (hb2.mono hbw1.size)⟩
set_option maxHeartbeats 4000000 in
/-- A small record that is not valid. -/
theorem edits_invalid (hw : Laid w) (hr : Reads w B 6 A m (evCells l)) (hB : B ≤ w.heap.size) (hc : cp ≤ maxLen) (hmc : m ≤ cp) (hs : smallB l = true) (hv : validB r c h l = false) :
    Calls Tryz.prog 3 #[.agg #[.int .i64 r, .int .i64 c, .int .i64 h, .slice A m cp], .int .i64 f, .int .i64 t, .int .i64 ti, .int .i64 p] w (YesP w) := by
  have HS := Lib.hid hs
  have HV := Lib.hid hv
  have hG := hw.size
  clear hs hv
  go_enter Tryz.func3, Tryz.ntmps3
  go_wp2_with (first
    | (go_at_call 4; refine (small_any (hr.alloc hB _) (by simp; omega)).mono ?_; rintro e w1 ⟨rfl, hb1⟩; rw [HS.out]; have hr1 := (hr.alloc hB (.cells #[.int .i64 r, .int .i64 c, .int .i64 h, .slice A m cp] 26)).below (hb1.mono (by simp; omega)); have hbw1 : Below w.heap.size w w1 := ((Below.refl _ _).alloc (Nat.le_refl _) _).trans (hb1.mono (by simp)); have hs1 := hb1.size; simp at hs1; have b1 := (Blk.new w 26 #[.int .i64 r, .int .i64 c, .int .i64 h, .slice A m cp]).below hb1 (by simp); have q0 : w1.cell? ⟨w.heap.size, 0, none⟩ = some (.int .i64 r) := b1.cell 0; have q1 : w1.cell? ⟨w.heap.size, 1, none⟩ = some (.int .i64 c) := b1.cell 1; have q2 : w1.cell? ⟨w.heap.size, 2, none⟩ = some (.int .i64 h) := b1.cell 2; have q3 : w1.cell? ⟨w.heap.size, 3, none⟩ = some (.slice A m cp) := b1.cell 3)
    | (go_at_call 6; refine (lvalid_any hr1 (by omega) hc hmc).mono ?_; rintro e w2 ⟨rfl, hb2⟩; rw [HV.out]; have hr2 := hr1.below (hb2.mono (by omega)); have hbw2 := hbw1.trans (hb2.mono hbw1.size); have hs2 := hb2.size; have b2 := b1.below hb2 (by omega); have d0 : w2.cell? ⟨w.heap.size, 0, none⟩ = some (.int .i64 r) := b2.cell 0; have d1 : w2.cell? ⟨w.heap.size, 1, none⟩ = some (.int .i64 c) := b2.cell 1; have d2 : w2.cell? ⟨w.heap.size, 2, none⟩ = some (.int .i64 h) := b2.cell 2; have d3 : w2.cell? ⟨w.heap.size, 3, none⟩ = some (.slice A m cp) := b2.cell 3)
    | (go_at_call 7; refine (joins_no hr2 (by omega) hc hmc HV.out).mono ?_; rintro e w3 ⟨rfl, hb3⟩; have hr3 := hr2.below (hb3.mono (by omega)); have hbw3 := hbw2.trans (hb3.mono hbw2.size); have hs3 := hb3.size; have b3 := b2.below hb3 (by omega); have j0 : w3.cell? ⟨w.heap.size, 0, none⟩ = some (.int .i64 r) := b3.cell 0; have j1 : w3.cell? ⟨w.heap.size, 1, none⟩ = some (.int .i64 c) := b3.cell 1; have j2 : w3.cell? ⟨w.heap.size, 2, none⟩ = some (.int .i64 h) := b3.cell 2; have j3 : w3.cell? ⟨w.heap.size, 3, none⟩ = some (.slice A m cp) := b3.cell 3)
    | (go_at_call 8; refine (cuts_no hr3 (by omega) hc hmc HV.out).mono ?_; rintro e w4 ⟨rfl, hb4⟩; have hr4 := hr3.below (hb4.mono (by omega)); have hbw4 := hbw3.trans (hb4.mono hbw3.size); have hs4 := hb4.size; have b4 := b3.below hb4 (by omega); have k0 : w4.cell? ⟨w.heap.size, 0, none⟩ = some (.int .i64 r) := b4.cell 0; have k1 : w4.cell? ⟨w.heap.size, 1, none⟩ = some (.int .i64 c) := b4.cell 1; have k2 : w4.cell? ⟨w.heap.size, 2, none⟩ = some (.int .i64 h) := b4.cell 2; have k3 : w4.cell? ⟨w.heap.size, 3, none⟩ = some (.slice A m cp) := b4.cell 3)
    | (go_at_call 9; refine (speeds_no hr4 (by omega) hc hmc HV.out).mono ?_; rintro e w5 ⟨rfl, hb5⟩; have hbw5 := hbw4.trans (hb5.mono hbw4.size); have hT5 := tab_up hG hbw5 hw)
    | (go_at_call 5; refine (any_Known _ hT5).mono ?_; rintro e w6 ⟨rfl, hb6⟩; have hbw6 := hbw5.trans (hb6.mono hbw5.size)))
  go_ret
  exact ⟨rfl, hbw6⟩
end
end Go.Proofs.YtjohgmnabemakaaGreatDoor
