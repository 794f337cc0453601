/- A part of the proof of RecordEdits. -/
import Derived.Test.YtjohgmnabemakaaGreatDoorP2
import Derived.Test.YtjohgmnabemakaaGreatDoorAbsP
import Derived.LoopTactic
import Derived.Lib.Hide
import Derived.Deep.DeepCutAuto
import Derived.Deep.Onto
namespace Go.Proofs.YtjohgmnabemakaaGreatDoor
open Go.RowKit Go.Rep
set_option maxRecDepth 100000
def smallB (l : List Ev) : Bool := decide (l.length ≤ 20) && l.all (fun e => decide (e.o.s.size ≤ 80))
section
variable {r c h : Int} {A : Option Addr} {m cp B : Nat} {l : List Ev} {w : World}
set_option maxHeartbeats 2000000 in
theorem small_any (hr : Reads w B 6 A m (evCells l)) (hB : B ≤ w.heap.size) :
    Calls Tryz.prog 4 #[.agg #[.int .i64 r, .int .i64 c, .int .i64 h, .slice A m cp]] w fun e w' => e = .returned (.bool (smallB l)) ∧ Below w.heap.size w w' := by
  have HL := Lib.hid hr.evs
  have hb0 : Below w.heap.size w (w.alloc (.cells #[.int .i64 r, .int .i64 c, .int .i64 h, .slice A m cp] 26)) := (Below.refl _ _).alloc (Nat.le_refl _) _
  have hra := hr.alloc hB (.cells #[.int .i64 r, .int .i64 c, .int .i64 h, .slice A m cp] 26)
  go_enter Tryz.func4, Tryz.ntmps4
  go_wp2
  go_loop [3] (fun i => ∃ k : Nat, k ≤ m ∧ k ≤ 21 ∧ i = .int .i64 k ∧ Hid (∀ e ∈ l.take k, e.o.s.size ≤ 80)) (fun i => m - (intOf i).toNat)
  case atStart => exact ⟨0, Nat.zero_le _, by omega, rfl, Lib.hid (by simp)⟩
  case round =>
    obtain ⟨k, hk, hk21, rfl, hS⟩ := hrel
    by_cases hlt : k < m
    · by_cases h21 : k < 21
      · obtain ⟨ad, e, rfl, he, x0, x1, x2, x3, x4, x5⟩ := hra.ev hlt
        have HE := Lib.hid he
        clear he x0 x1 x3 x4 x5
        by_cases h80 : e.o.s.size ≤ 80
        · go_wp2
          go_round
          case rel =>
            refine ⟨k + 1, by omega, by omega, by go_num, Lib.hid ?_⟩
            intro y hy
            rw [List.take_succ_eq_append_getElem (List.getElem?_eq_some_iff.1 HE.out).1] at hy
            rcases List.mem_append.1 hy with hy | hy
            · exact hS.out y hy
            · rw [List.mem_singleton.1 hy, (List.getElem?_eq_some_iff.1 HE.out).2]
              exact h80
          case measure => simp [intOf]; omega
        · have hf : smallB l = false := by
            unfold smallB
            have : l.all (fun e => decide (e.o.s.size ≤ 80)) = false := by
              rw [List.all_eq_false]
              exact ⟨e, List.mem_of_getElem? HE.out, by simpa using h80⟩
            rw [this, Bool.and_false]
          have HF := Lib.hid hf
          clear hf
          go_wp2
          go_ret
          exact ⟨by rw [HF.out]; rfl, hb0⟩
      · have hf : smallB l = false := by
          unfold smallB
          have : decide (l.length ≤ 20) = false := by simpa using (by have := HL.out; omega)
          rw [this, Bool.false_and]
        have HF := Lib.hid hf
        clear hf
        go_wp2
        go_ret
        exact ⟨by rw [HF.out]; simp; omega, hb0⟩
    · obtain rfl : k = m := by omega
      have hf : smallB l = decide (k ≤ 20) := by
        unfold smallB
        have h1 : l.all (fun e => decide (e.o.s.size ≤ 80)) = true := by
          rw [List.all_eq_true]
          intro e he
          have := hS.out e (by rw [List.take_of_length_le (by have := HL.out; omega)]; exact he)
          simpa using this
        rw [h1, Bool.and_true, HL.out]
      have HF := Lib.hid hf
      clear hf
      go_wp2
      go_ret
      exact ⟨by rw [HF.out]; simp; omega, hb0⟩
/-- A record whose events are those of the other one. -/
theorem same_eq {r c h : Int} {A A' : Option Addr} {m cp cp' B B' : Nat} {l : List Ev} {w : World} (hr : Reads w B 6 A m (evCells l)) (hB : B ≤ w.heap.size) (hr' : Reads w B' 6 A' m (evCells l)) (hB' : B' ≤ w.heap.size) (hm : m ≤ 2000) :
    Calls Tryz.prog 10 #[.agg #[.int .i64 r, .int .i64 c, .int .i64 h, .slice A m cp], .agg #[.int .i64 r, .int .i64 c, .int .i64 h, .slice A' m cp']] w fun e w' => e = .returned (.bool true) ∧ Below w.heap.size w w' := by
  have hra := (hr.alloc hB (.cells #[.int .i64 r, .int .i64 c, .int .i64 h, .slice A m cp] 26)).alloc (by simp; omega) (.cells #[.int .i64 r, .int .i64 c, .int .i64 h, .slice A' m cp'] 26)
  have hra' := (hr'.alloc hB' (.cells #[.int .i64 r, .int .i64 c, .int .i64 h, .slice A m cp] 26)).alloc (by simp; omega) (.cells #[.int .i64 r, .int .i64 c, .int .i64 h, .slice A' m cp'] 26)
  have hb0 : Below w.heap.size w ((w.alloc (.cells #[.int .i64 r, .int .i64 c, .int .i64 h, .slice A m cp] 26)).alloc (.cells #[.int .i64 r, .int .i64 c, .int .i64 h, .slice A' m cp'] 26)) := ((Below.refl _ _).alloc (Nat.le_refl _) _).alloc (by simp) _
  go_enter Tryz.func10, Tryz.ntmps10
  go_wp2
  go_loopw [5] (fun i wr => ∃ k q : Nat, k ≤ m ∧ i = .int .i64 k ∧ wr = ((w.alloc (.cells #[.int .i64 r, .int .i64 c, .int .i64 h, .slice A m cp] 26)).alloc (.cells #[.int .i64 r, .int .i64 c, .int .i64 h, .slice A' m cp'] 26)).drewN q) (fun i _ => m - (intOf i).toNat)
  case atStart => exact ⟨0, 0, Nat.zero_le _, rfl, rfl⟩
  case round =>
    obtain ⟨k, q, hk, rfl, rfl⟩ := hrel
    by_cases hlt : k < m
    · obtain ⟨ad, e, rfl, he, x0, x1, x2, x3, x4, x5⟩ := hra.ev hlt
      obtain ⟨ad', e', rfl, he', y0, y1, y2, y3, y4, y5⟩ := hra'.ev hlt
      obtain rfl : e = e' := Option.some.inj (he.symm.trans he')
      clear he he'
      go_wp2
      go_quiet (fail)
      go_wp2
      go_roundw
      case rel => exact ⟨k + 1, q + nq, by omega, by go_num, rfl⟩
      case measure => simp [intOf]; omega
    · obtain rfl : k = m := by omega
      go_wp2
      go_ret
      exact ⟨rfl, below_drewN hb0 q⟩
end
end Go.Proofs.YtjohgmnabemakaaGreatDoor

namespace Go.Proofs.YtjohgmnabemakaaGreatDoor
open Go.RowKit Go.Rep
set_option maxRecDepth 100000
section
variable {r c h f t : Int} {A : Option Addr} {m cp B : Nat} {l : List Ev} {w : World}
def CutP (r c h f t : Int) (l : List Ev) (w : World) (e : Ending) (w' : World) : Prop := ∃ v, e = .returned (.tuple #[.agg #[.int .i64 r, .int .i64 c, .int .i64 h, v], .int .i64 0]) ∧ w'.ownsRow w.heap.size 35 6 v (cutL f t l).length (evCells (cutL f t l)) ∧ Below w.heap.size w w'
set_option maxHeartbeats 8000000 in
theorem cut_yes (hr : Reads w B 6 A m (evCells l)) (hB : B ≤ w.heap.size) (hc : cp ≤ maxLen) (hmc : m ≤ cp) (hm2 : m ≤ 2000) (hv : validB r c h l = true) (hf : 0 ≤ f) (hft : f ≤ t) (ht : t ≤ 1099511627776) :
    Calls Tryz.prog 20 #[.agg #[.int .i64 r, .int .i64 c, .int .i64 h, .slice A m cp], .int .i64 f, .int .i64 t] w (CutP r c h f t l w) := by
  have HV := Lib.hid hv
  have HL := Lib.hid hr.evs
  have hat : ∀ e ∈ l, 0 ≤ e.at' ∧ e.at' ≤ 1099511627776 := evsB_at (last := 0) (by unfold validB at hv; simp only [Bool.and_eq_true] at hv; exact hv.2)
  have HAT := Lib.hid hat
  clear hat
  obtain ⟨i0, hi, hz0, hz1, hz2⟩ := info_parts ev_info
  clear hv
  go_enter Tryz.func20, Tryz.ntmps20
  go_wp2_with (go_at_call 23; refine (valid_any ((hr.alloc hB _).alloc (by simp; omega) _) (by simp; omega) hc hmc).mono ?_; rintro e w1 ⟨rfl, hb1⟩; rw [HV.out]; have b1 := ((Blk.new w 26 #[.int .i64 r, .int .i64 c, .int .i64 h, .slice A m cp]).alloc (.cells zeroRec 26)).below hb1 (by simp; omega); have b2 : Blk w1 (w.heap.size + 1) 26 zeroRec := (congrArg (fun n => Blk w1 n 26 zeroRec) (show (w.alloc (.cells #[.int .i64 r, .int .i64 c, .int .i64 h, .slice A m cp] 26)).heap.size = w.heap.size + 1 by simp)).mp ((Blk.new (w.alloc (.cells #[.int .i64 r, .int .i64 c, .int .i64 h, .slice A m cp] 26)) 26 zeroRec).below hb1 (by simp)); have q0 : w1.cell? ⟨w.heap.size, 0, none⟩ = some (.int .i64 r) := b1.cell 0; have q1 : w1.cell? ⟨w.heap.size, 1, none⟩ = some (.int .i64 c) := b1.cell 1; have q2 : w1.cell? ⟨w.heap.size, 2, none⟩ = some (.int .i64 h) := b1.cell 2; have q3 : w1.cell? ⟨w.heap.size, 3, none⟩ = some (.slice A m cp) := b1.cell 3; have q3a : (w1.alloc (.cells #[.int .i64 r, .int .i64 c, .int .i64 h, .slice none 0 0] 26)).cell? ⟨w.heap.size, 3, none⟩ = some (.slice A m cp) := (b1.alloc _).cell 3)
  have hs1 := hb1.size
  simp at hs1
  go_loopw [43] (fun i wr => ∃ (k n : Nat) (xs : List Ev) (v : Value), k ≤ m ∧ i = .int .i64 k ∧ Blk wr (w.heap.size + 1) 26 zeroRec ∧ Blk wr w1.heap.size 26 #[.int .i64 r, .int .i64 c, .int .i64 h, v] ∧ wr.ownsRow (w1.heap.size + 1) 35 6 v n (evCells xs) ∧ n ≤ k ∧ Below w.heap.size w wr ∧ Hid (n = xs.length ∧ cutL f t (l.take k) = xs)) (fun i _ => m - (intOf i).toNat)
  case atStart =>
    exact ⟨0, 0, [], .slice none 0 0, Nat.zero_le _, rfl, b2.alloc _, Blk.new w1 26 _, World.ownsRow_nil _ _ _ _, Nat.le_refl _, ((((Below.refl w.heap.size w).alloc (Nat.le_refl _) _).alloc (by simp) _).trans (hb1.mono (by simp; omega))).alloc (by omega) _, Lib.hid ⟨rfl, rfl⟩⟩
  case round =>
    obtain ⟨k, n, xs, v, hk, rfl, bZ, bX, hown, hnk, hbr, hJ⟩ := hrel
    have hsz := hbr.size
    have hXlt := bX.lt
    have hneX := own_blk_ne hown bX (by decide)
    have hneZ := own_blk_ne hown bZ (by decide)
    clear q0 q1 q2 q3 q3a
    have x3 : wr.cell? ⟨w1.heap.size, 3, none⟩ = some v := bX.cell 3
    obtain ⟨A1, c1, rfl, _, _, _⟩ := own_slice hown
    by_cases hlt : k < m
    · obtain ⟨ad, e, rfl, he, y0, y1, y2, y3, y4, y5⟩ := ((hr.more hB).below hbr).ev hlt
      have HJ := Lib.hid (cutL_succ (f := f) (t := t) he)
      have ha0 := (HAT.out e (List.mem_of_getElem? he)).1
      have ha1 := (HAT.out e (List.mem_of_getElem? he)).2
      clear he
      by_cases hin : f ≤ e.at' ∧ e.at' ≤ t
      · obtain ⟨hin1, hin2⟩ := hin
        have HIN := Lib.hid (show inCut f t e = true by simp [inCut, hin1, hin2])
        have bX6 := bX.alloc (.cells #[.int .i64 (e.at' - f), .int .i64 e.o.k, .string e.o.s, .int .i64 e.o.r, .int .i64 e.o.c, .int .i64 e.o.n] 35)
        have bZ6 := bZ.alloc (.cells #[.int .i64 (e.at' - f), .int .i64 e.o.k, .string e.o.s, .int .i64 e.o.r, .int .i64 e.o.c, .int .i64 e.o.n] 35)
        have own6 := hown.alloc (.cells #[.int .i64 (e.at' - f), .int .i64 e.o.k, .string e.o.s, .int .i64 e.o.r, .int .i64 e.o.c, .int .i64 e.o.n] 35)
        go_wp2_with (at_builtin; refine wpList_append_own _ rfl (.tmp 63) (.tmp 65) 24 rfl (w1.heap.size + 1) 35 i0 (.agg zero6) 6 56 Tryz.underlying24 hi hz0 hz1 hz2 rfl (by decide) _ n (evCells xs) rfl (own6.alloc _) ⟨wr.heap.size + 1, 0, none⟩ 1 1 (shift f e).cells rfl rfl (ev_new' (n := wr.heap.size + 1) (by simp) (shift f e) _) (ev_cell (shift f e)) (by unfold maxLen; omega) (by omega) (by simp; omega) ?_; intro v7 w7 hown7 hg7 _; obtain ⟨A7, c7, rfl, _, _, _⟩ := own_slice hown7; have bX7 := (bX6.alloc (.cells #[.int .i64 (e.at' - f), .int .i64 e.o.k, .string e.o.s, .int .i64 e.o.r, .int .i64 e.o.c, .int .i64 e.o.n] 35)).grown hg7 (fun q => hneX q.symm); have bZ7 := (bZ6.alloc (.cells #[.int .i64 (e.at' - f), .int .i64 e.o.k, .string e.o.s, .int .i64 e.o.r, .int .i64 e.o.c, .int .i64 e.o.n] 35)).grown hg7 (fun q => hneZ q.symm); have c37 : w7.cell? ⟨w1.heap.size, 3, none⟩ = some (.slice A1 n c1) := bX7.cell 3; have f37 := bX7.frozen 3)
        go_roundw
        case rel =>
          refine ⟨k + 1, n + 1, xs ++ [shift f e], .slice A7 (n + 1) c7, by omega, by go_num, bZ7.far (p := ⟨w1.heap.size, 3, none⟩) (by show w.heap.size + 1 ≠ w1.heap.size; omega) _, bX7.set_ 3 _, ?_, by omega, ?_, Lib.hid ⟨by rw [List.length_append, ← hJ.out.1]; rfl, by rw [HJ.out, if_pos HIN.out, hJ.out.2]⟩⟩
          · have := own_far (X := w1.heap.size) (i := 3) (u := .slice A7 (n + 1) c7) (ev_snoc hown7 hJ.out.1) (by omega)
            rw [List.length_append, ← hJ.out.1] at this
            exact this
          · exact (((hbr.alloc hsz _).alloc (by simp; omega) _).grown hg7 (by simp; omega) (fun j q => by have := own_base hown q; omega)).setCell (by show w.heap.size ≤ w1.heap.size; omega) _
        case measure => simp [intOf]; omega
      · have HIN := Lib.hid (show ¬ inCut f t e = true by simp [inCut]; omega)
        by_cases hin1 : f ≤ e.at'
        · have hin2 : ¬ e.at' ≤ t := fun h2 => hin ⟨hin1, h2⟩
          clear hin
          go_wp2
          go_roundw
          case rel => exact ⟨k + 1, n, xs, .slice A1 n c1, by omega, by go_num, bZ.alloc _, bX.alloc _, hown.alloc _, by omega, hbr.alloc hsz _, Lib.hid ⟨hJ.out.1, by rw [HJ.out, if_neg HIN.out, hJ.out.2]⟩⟩
          case measure => simp [intOf]; omega
        · clear hin
          go_wp2
          go_roundw
          case rel => exact ⟨k + 1, n, xs, .slice A1 n c1, by omega, by go_num, bZ.alloc _, bX.alloc _, hown.alloc _, by omega, hbr.alloc hsz _, Lib.hid ⟨hJ.out.1, by rw [HJ.out, if_neg HIN.out, hJ.out.2]⟩⟩
          case measure => simp [intOf]; omega
    · obtain rfl : k = m := by omega
      have x0 : wr.cell? ⟨w1.heap.size, 0, none⟩ = some (.int .i64 r) := bX.cell 0
      have x1 : wr.cell? ⟨w1.heap.size, 1, none⟩ = some (.int .i64 c) := bX.cell 1
      have x2 : wr.cell? ⟨w1.heap.size, 2, none⟩ = some (.int .i64 h) := bX.cell 2
      have p0 : wr.cell? ⟨w.heap.size + 1, 0, none⟩ = some (.int .i64 0) := bZ.cell 0
      have p1 : wr.cell? ⟨w.heap.size + 1, 1, none⟩ = some (.int .i64 0) := bZ.cell 1
      have p2 : wr.cell? ⟨w.heap.size + 1, 2, none⟩ = some (.int .i64 0) := bZ.cell 2
      have p3 : wr.cell? ⟨w.heap.size + 1, 3, none⟩ = some (.slice none 0 0) := bZ.cell 3
      have f0 := bZ.frozen 0
      have f1 := bZ.frozen 1
      have f2 := bZ.frozen 2
      have f3 := bZ.frozen 3
      go_wp2
      have hle : w.heap.size ≤ w.heap.size + 1 := by omega
      have b3 := (((bZ.set_ 0 (.int .i64 r)).set_ 1 (.int .i64 c)).set_ 2 (.int .i64 h)).set_ 3 (.slice A1 n c1)
      have hfa : w.heap.size + 1 < w1.heap.size + 1 := by omega
      refine bodyPost_ret (res_rec rfl (b3.cell 0) (b3.cell 1) (b3.cell 2) (b3.cell 3) rfl rfl) rfl ?_
      have hj : cutL f t l = xs := by rw [← hJ.out.2, List.take_of_length_le (by have := HL.out; omega)]
      refine ⟨_, rfl, ?_, (((hbr.setCell hle _).setCell hle _).setCell hle _).setCell hle _⟩
      rw [hj, ← hJ.out.1]
      exact World.ownsRow.mono (own_far (own_far (own_far (own_far hown hfa) hfa) hfa) hfa) (by omega)
end
end Go.Proofs.YtjohgmnabemakaaGreatDoor
