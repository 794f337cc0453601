/- A part of the proof of RecordReads. -/
import Derived.Test.YtiglllddgikeiabGreatDoorProg
import Derived.Test.YtiglllddgikeiabGreatDoorAbsP
import Derived.WalkKit
import Derived.ProofKit
import Derived.LoopTactic
import Derived.Outline
import Derived.RegionTactic
import Derived.Lib.Hide
import Derived.Deep.QuietTactic
import Derived.BigQuiet
import Derived.StillTailTactics
import Derived.OwnWalk
import Derived.IntWalk
import Derived.Deep.DeepCutAuto
import Derived.Deep.Onto
import Derived.Lib.SliceRun
namespace Go.Proofs.YtiglllddgikeiabGreatDoor
open Go.RowKit Go.Rep
set_option maxRecDepth 100000
theorem size_any (r c : Int) (w : World) : Calls Tryz.prog 58 #[.int .i64 r, .int .i64 c] w fun e w' => e = .returned (.bool (sizeB r c)) ∧ w = w' := by
  go_enter Tryz.func58, Tryz.ntmps58
  go_wp2
  all_goals
    go_ret
    refine ⟨congrArg Ending.returned (congrArg Value.bool ?_), rfl⟩
    simp [sizeB] <;> omega
set_option maxHeartbeats 1000000 in
theorem allowed_any (o : TOp) (w : World) : Calls Tryz.prog 59 #[.agg #[.int .i64 o.k, .string o.s, .int .i64 o.r, .int .i64 o.c, .int .i64 o.n]] w fun e w' => e = .returned (.bool (okOp o)) ∧ Below w.heap.size w w' := by
  go_enter Tryz.func59, Tryz.ntmps59
  go_wp2_with (go_at_call 58; refine (size_any _ _ _).mono ?_; rintro e w1 ⟨rfl, rfl⟩)
  all_goals
    go_ret
    refine ⟨congrArg Ending.returned (congrArg Value.bool ?_), (Below.refl _ _).alloc (Nat.le_refl _) _⟩
    first
      | (simp [okOp, *]; done)
      | (simp [okOp, *]; omega)
      | (simp_all [okOp]; done)
      | (simp_all [okOp]; omega)
end Go.Proofs.YtiglllddgikeiabGreatDoor

namespace Go.Proofs.YtiglllddgikeiabGreatDoor
open Go.RowKit Go.Rep
set_option maxRecDepth 100000
set_option maxHeartbeats 4000000 in
theorem lallowed_any (o : TOp) (w : World) : Calls Tryz.prog 10 #[.agg #[.int .i64 o.k, .string o.s, .int .i64 o.r, .int .i64 o.c, .int .i64 o.n]] w fun e w' => e = .returned (.bool (okOp o)) ∧ Below w.heap.size w w' := by
  by_cases h1 : o.k = 1
  · have hk : (o.k == 1) = true := by simpa using h1
    go_enter Tryz.func10, Tryz.ntmps10
    go_wp2
    all_goals
      go_ret
      refine ⟨congrArg Ending.returned (congrArg Value.bool ?_), ?_⟩
      · first
          | (simp [okOp, sizeB, *]; done)
          | (simp [okOp, sizeB, *]; omega)
          | (simp_all [okOp, sizeB]; done)
          | (simp_all [okOp, sizeB]; omega)
      · first
          | exact ((Below.refl _ _).alloc (Nat.le_refl _) _).alloc (by simp) _
          | exact (((Below.refl _ _).alloc (Nat.le_refl _) _).alloc (by simp) _).drew
  · have hk1 : (o.k == 1) = false := by simpa using h1
    by_cases h2 : o.k = 2
    · have hk : (o.k == 2) = true := by simpa using h2
      go_enter Tryz.func10, Tryz.ntmps10
      go_wp2
      go_region
      all_goals (try go_wp2)
      all_goals
        go_ret
        refine ⟨congrArg Ending.returned (congrArg Value.bool ?_), ?_⟩
        · first
            | (simp [okOp, sizeB, *]; done)
            | (simp [okOp, sizeB, *]; omega)
            | (simp_all [okOp, sizeB]; done)
            | (simp_all [okOp, sizeB]; omega)
        · first
            | exact ((Below.refl _ _).alloc (Nat.le_refl _) _).alloc (by simp) _
            | exact (((Below.refl _ _).alloc (Nat.le_refl _) _).alloc (by simp) _).drew
    · have hk2 : (o.k == 2) = false := by simpa using h2
      go_enter Tryz.func10, Tryz.ntmps10
      go_wp2
      all_goals
        go_ret
        refine ⟨congrArg Ending.returned (congrArg Value.bool ?_), ?_⟩
        · first
            | (simp [okOp, sizeB, *]; done)
            | (simp [okOp, sizeB, *]; omega)
            | (simp_all [okOp, sizeB]; done)
            | (simp_all [okOp, sizeB]; omega)
        · first
            | exact ((Below.refl _ _).alloc (Nat.le_refl _) _).alloc (by simp) _
            | exact (((Below.refl _ _).alloc (Nat.le_refl _) _).alloc (by simp) _).drew
end Go.Proofs.YtiglllddgikeiabGreatDoor

namespace Go.Proofs.YtiglllddgikeiabGreatDoor
open Go.RowKit Go.Rep
set_option maxRecDepth 100000
def ValidP (r c h : Int) (l : List Ev) (w : World) (e : Ending) (w' : World) : Prop := e = .returned (.bool (validB r c h l)) ∧ Below w.heap.size w w'
theorem validB_no {r c h : Int} {l : List Ev} {m : Nat} (hl : l.length = m) (hn : ¬ (sizeB r c = true ∧ 0 ≤ h ∧ h ≤ 1048576 ∧ m ≤ 2000)) : validB r c h l = false := by
  unfold validB
  rw [hl]
  by_cases h1 : sizeB r c = true
  · by_cases h2 : 0 ≤ h
    · by_cases h3 : h ≤ 1048576
      · have h4 : ¬ m ≤ 2000 := fun h4 => hn ⟨h1, h2, h3, h4⟩
        simp [h4]
      · simp [h3]
    · simp [h2]
  · simp [h1]
theorem validB_yes {r c h : Int} {l : List Ev} {m : Nat} (hl : l.length = m) (hn : sizeB r c = true ∧ 0 ≤ h ∧ h ≤ 1048576 ∧ m ≤ 2000) : validB r c h l = evsB 0 l := by
  obtain ⟨h1, h2, h3, h4⟩ := hn
  unfold validB
  rw [hl]
  simp [h1, h2, h3, h4]
set_option maxHeartbeats 4000000 in
theorem valid_any {r c h : Int} {A : Option Addr} {m cp B : Nat} {l : List Ev} {w : World} (hr : Reads w B 6 A m (evCells l)) (hB : B ≤ w.heap.size) (hc : cp ≤ maxLen) (hmc : m ≤ cp) :
    Calls Tryz.prog 30 #[.agg #[.int .i64 r, .int .i64 c, .int .i64 h, .slice A m cp]] w (ValidP r c h l w) := by
  have hcm : cp ≤ 9223372036854775807 := hc
  have HL := Lib.hid hr.evs
  by_cases hall : sizeB r c = true ∧ 0 ≤ h ∧ h ≤ 1048576 ∧ m ≤ 2000
  · have hv := validB_yes hr.evs hall
    have HV := Lib.hid hv
    clear hv
    obtain ⟨a1, a2, a3, a4⟩ := hall
    go_enter Tryz.func30, Tryz.ntmps30
    go_wp2_with (go_at_call 58; refine (size_any _ _ _).mono ?_; rintro e w1 ⟨rfl, rfl⟩)
    go_loopw [3, 35] (fun la i wr => ∃ (k : Nat) (last : Int), k ≤ m ∧ i = .int .i64 k ∧ la = .int .i64 last ∧ Hid (evsB 0 l = evsB last (l.drop k)) ∧ Below w.heap.size w wr) (fun _ i _ => m - (intOf i).toNat)
    case atStart => exact ⟨0, 0, Nat.zero_le _, rfl, rfl, Lib.hid rfl, (Below.refl _ _).alloc (Nat.le_refl _) _⟩
    case round =>
      obtain ⟨k, last, hk, rfl, rfl, hE, hbr⟩ := hrel
      by_cases hlt : k < m
      · obtain ⟨ad, e, rfl, he, x0, x1, x2, x3, x4, x5⟩ := ((hr.more hB).below hbr).ev hlt
        have HS := Lib.hid (evsB_step (last := last) he)
        clear he
        have hsz := hbr.size
        by_cases hg : last ≤ e.at' ∧ e.at' ≤ 1099511627776 ∧ okOp e.o = true
        · obtain ⟨g1, g2, g3⟩ := hg
          go_wp2_with (go_at_call 59; refine (allowed_any e.o _).mono ?_; rintro e2 w2 ⟨rfl, hb2⟩; have z0 : w2.cell? ⟨wr.heap.size, 0, none⟩ = some (.int .i64 e.at') := ((Blk.new wr _ _).below hb2 (by simp)).cell 0)
          go_roundw
          case rel =>
            refine ⟨k + 1, e.at', by omega, by go_num, rfl, Lib.hid ?_, (hbr.alloc hsz _).trans (hb2.mono (by simp; omega))⟩
            rw [hE.out, HS.out]
            simp [g1, g2, g3]
          case measure => simp [intOf]; omega
        · have hf : (decide (last ≤ e.at') && decide (e.at' ≤ 1099511627776) && okOp e.o && evsB e.at' (l.drop (k + 1))) = false := by
            by_cases g1 : last ≤ e.at'
            · by_cases g2 : e.at' ≤ 1099511627776
              · have g3 : ¬ okOp e.o = true := fun g3 => hg ⟨g1, g2, g3⟩
                simp [g3]
              · simp [g2]
            · simp [g1]
          have HF := Lib.hid hf
          clear hf
          by_cases g1 : last ≤ e.at'
          · by_cases g2 : e.at' ≤ 1099511627776
            · have g3 : okOp e.o = false := by
                cases hk : okOp e.o with
                | false => rfl
                | true => exact absurd ⟨g1, g2, hk⟩ hg
              clear hg
              go_wp2_with (go_at_call 59; refine (allowed_any e.o _).mono ?_; rintro e2 w2 ⟨rfl, hb2⟩)
              go_ret
              exact ⟨by rw [HV.out, hE.out, HS.out, HF.out]; rfl, (hbr.alloc hsz _).trans (hb2.mono (by simp; omega))⟩
            · clear hg
              go_wp2
              go_ret
              exact ⟨by rw [HV.out, hE.out, HS.out, HF.out]; rfl, hbr.alloc hsz _⟩
          · clear hg
            go_wp2
            go_ret
            exact ⟨by rw [HV.out, hE.out, HS.out, HF.out]; rfl, hbr.alloc hsz _⟩
      · obtain rfl : k = m := by omega
        have hE2 : evsB 0 l = true := by
          rw [hE.out, List.drop_eq_nil_of_le (by have := HL.out; omega)]
          rfl
        have HE2 := Lib.hid hE2
        clear hE2
        go_wp2
        go_ret
        exact ⟨by rw [HV.out, HE2.out]; rfl, hbr⟩
  · have hv := validB_no hr.evs hall
    have HV := Lib.hid hv
    clear hv
    by_cases h1 : sizeB r c = true
    · by_cases h2 : 0 ≤ h
      · by_cases h3 : h ≤ 1048576
        · have h4 : ¬ m ≤ 2000 := fun h4 => hall ⟨h1, h2, h3, h4⟩
          clear hall
          go_enter Tryz.func30, Tryz.ntmps30
          go_wp2_with (go_at_call 58; refine (size_any _ _ _).mono ?_; rintro e w1 ⟨rfl, rfl⟩)
          go_ret
          exact ⟨by rw [HV.out]; rfl, (Below.refl _ _).alloc (Nat.le_refl _) _⟩
        · clear hall
          go_enter Tryz.func30, Tryz.ntmps30
          go_wp2_with (go_at_call 58; refine (size_any _ _ _).mono ?_; rintro e w1 ⟨rfl, rfl⟩)
          go_ret
          exact ⟨by rw [HV.out]; rfl, (Below.refl _ _).alloc (Nat.le_refl _) _⟩
      · clear hall
        go_enter Tryz.func30, Tryz.ntmps30
        go_wp2_with (go_at_call 58; refine (size_any _ _ _).mono ?_; rintro e w1 ⟨rfl, rfl⟩)
        go_ret
        exact ⟨by rw [HV.out]; rfl, (Below.refl _ _).alloc (Nat.le_refl _) _⟩
    · have h1' : sizeB r c = false := by simpa using h1
      clear hall h1
      go_enter Tryz.func30, Tryz.ntmps30
      go_wp2_with (go_at_call 58; refine (size_any _ _ _).mono ?_; rintro e w1 ⟨rfl, rfl⟩)
      go_ret
      exact ⟨by rw [HV.out]; rfl, (Below.refl _ _).alloc (Nat.le_refl _) _⟩
end Go.Proofs.YtiglllddgikeiabGreatDoor

namespace Go.Proofs.YtiglllddgikeiabGreatDoor
open Go.RowKit Go.Rep
set_option maxRecDepth 100000
abbrev zero6 : Array Value := #[.int .i64 0, .int .i64 0, .string { data := #[] }, .int .i64 0, .int .i64 0, .int .i64 0]
theorem ev_info : (Tryz.prog.info? 40).map (fun i => (i.zero, i.size, i.bytes)) = some (some (.agg zero6), 6, 56) := by kernel_rfl
abbrev zeroRec : Array Value := #[.int .i64 0, .int .i64 0, .int .i64 0, .slice none 0 0]
def JoinP (r c h : Int) (l : List Ev) (w : World) (e : Ending) (w' : World) : Prop :=
  (validB r c h l = false → e = .returned (.tuple #[.agg zeroRec, .int .i64 2]) ∧ Below w.heap.size w w') ∧
  (validB r c h l = true → ∃ v, e = .returned (.tuple #[.agg #[.int .i64 r, .int .i64 c, .int .i64 h, v], .int .i64 0]) ∧ w'.ownsRow w.heap.size 40 6 v (joinTo l l.length).length (evCells (joinTo l l.length)) ∧ Below w.heap.size w w')
theorem res_rec {fn : Func} {t u : Tmp} (e : fn.results = #[.cell t 26, .tmp u]) {w1 : World} {b : Nat} {x0 x1 x2 v t3 : Value} {tmps : Array Value} (q0 : w1.cell? ⟨b, 0, none⟩ = some x0) (q1 : w1.cell? ⟨b, 1, none⟩ = some x1) (q2 : w1.cell? ⟨b, 2, none⟩ = some x2) (q3 : w1.cell? ⟨b, 3, none⟩ = some v)
    (ht : tmps[t]?.getD undef = .pointer (some ⟨b, 0, none⟩)) (h3 : tmps[u]?.getD undef = t3) :
    (results fn tmps).run Tryz.prog w1 = .ok (.tuple #[.agg #[x0, x1, x2, v], t3]) w1 := by
  simp [results, e, go_sem, q0, q1, q2, q3, ht, h3]
end Go.Proofs.YtiglllddgikeiabGreatDoor

namespace Go.Proofs.YtiglllddgikeiabGreatDoor
open Go.RowKit Go.Rep
set_option maxRecDepth 100000
def smallB (l : List Ev) : Bool := decide (l.length ≤ 20) && l.all (fun e => decide (e.o.s.size ≤ 80))
section
variable {r c h : Int} {A : Option Addr} {m cp B : Nat} {l : List Ev} {w : World}
set_option maxHeartbeats 2000000 in
theorem small_any (hr : Reads w B 6 A m (evCells l)) (hB : B ≤ w.heap.size) :
    Calls Tryz.prog 4 #[.agg #[.int .i64 r, .int .i64 c, .int .i64 h, .slice A m cp]] w fun e w' => e = .returned (.bool (smallB l)) ∧ Below w.heap.size w w' := by
  have HL := Lib.hid hr.evs
  have hb0 : Below w.heap.size w (w.alloc (.cells #[.int .i64 r, .int .i64 c, .int .i64 h, .slice A m cp] 26)) := (Below.refl _ _).alloc (Nat.le_refl _) _
  have hra := hr.alloc hB (.cells #[.int .i64 r, .int .i64 c, .int .i64 h, .slice A m cp] 26)
  go_enter Tryz.func4, Tryz.ntmps4
  go_wp2
  go_loop [3] (fun i => ∃ k : Nat, k ≤ m ∧ k ≤ 21 ∧ i = .int .i64 k ∧ Hid (∀ e ∈ l.take k, e.o.s.size ≤ 80)) (fun i => m - (intOf i).toNat)
  case atStart => exact ⟨0, Nat.zero_le _, by omega, rfl, Lib.hid (by simp)⟩
  case round =>
    obtain ⟨k, hk, hk21, rfl, hS⟩ := hrel
    by_cases hlt : k < m
    · by_cases h21 : k < 21
      · obtain ⟨ad, e, rfl, he, x0, x1, x2, x3, x4, x5⟩ := hra.ev hlt
        have HE := Lib.hid he
        clear he x0 x1 x3 x4 x5
        by_cases h80 : e.o.s.size ≤ 80
        · go_wp2
          go_round
          case rel =>
            refine ⟨k + 1, by omega, by omega, by go_num, Lib.hid ?_⟩
            intro y hy
            rw [List.take_succ_eq_append_getElem (List.getElem?_eq_some_iff.1 HE.out).1] at hy
            rcases List.mem_append.1 hy with hy | hy
            · exact hS.out y hy
            · rw [List.mem_singleton.1 hy, (List.getElem?_eq_some_iff.1 HE.out).2]
              exact h80
          case measure => simp [intOf]; omega
        · have hf : smallB l = false := by
            unfold smallB
            have : l.all (fun e => decide (e.o.s.size ≤ 80)) = false := by
              rw [List.all_eq_false]
              exact ⟨e, List.mem_of_getElem? HE.out, by simpa using h80⟩
            rw [this, Bool.and_false]
          have HF := Lib.hid hf
          clear hf
          go_wp2
          go_ret
          exact ⟨by rw [HF.out]; rfl, hb0⟩
      · have hf : smallB l = false := by
          unfold smallB
          have : decide (l.length ≤ 20) = false := by simpa using (by have := HL.out; omega)
          rw [this, Bool.false_and]
        have HF := Lib.hid hf
        clear hf
        go_wp2
        go_ret
        exact ⟨by rw [HF.out]; simp; omega, hb0⟩
    · obtain rfl : k = m := by omega
      have hf : smallB l = decide (k ≤ 20) := by
        unfold smallB
        have h1 : l.all (fun e => decide (e.o.s.size ≤ 80)) = true := by
          rw [List.all_eq_true]
          intro e he
          have := hS.out e (by rw [List.take_of_length_le (by have := HL.out; omega)]; exact he)
          simpa using this
        rw [h1, Bool.and_true, HL.out]
      have HF := Lib.hid hf
      clear hf
      go_wp2
      go_ret
      exact ⟨by rw [HF.out]; simp; omega, hb0⟩
/-- A record whose events are those of the other one. -/
theorem same_eq {r c h : Int} {A A' : Option Addr} {m cp cp' B B' : Nat} {l : List Ev} {w : World} (hr : Reads w B 6 A m (evCells l)) (hB : B ≤ w.heap.size) (hr' : Reads w B' 6 A' m (evCells l)) (hB' : B' ≤ w.heap.size) (hm : m ≤ 2000) :
    Calls Tryz.prog 9 #[.agg #[.int .i64 r, .int .i64 c, .int .i64 h, .slice A m cp], .agg #[.int .i64 r, .int .i64 c, .int .i64 h, .slice A' m cp']] w fun e w' => e = .returned (.bool true) ∧ Below w.heap.size w w' := by
  have hra := (hr.alloc hB (.cells #[.int .i64 r, .int .i64 c, .int .i64 h, .slice A m cp] 26)).alloc (by simp; omega) (.cells #[.int .i64 r, .int .i64 c, .int .i64 h, .slice A' m cp'] 26)
  have hra' := (hr'.alloc hB' (.cells #[.int .i64 r, .int .i64 c, .int .i64 h, .slice A m cp] 26)).alloc (by simp; omega) (.cells #[.int .i64 r, .int .i64 c, .int .i64 h, .slice A' m cp'] 26)
  have hb0 : Below w.heap.size w ((w.alloc (.cells #[.int .i64 r, .int .i64 c, .int .i64 h, .slice A m cp] 26)).alloc (.cells #[.int .i64 r, .int .i64 c, .int .i64 h, .slice A' m cp'] 26)) := ((Below.refl _ _).alloc (Nat.le_refl _) _).alloc (by simp) _
  go_enter Tryz.func9, Tryz.ntmps9
  go_wp2
  go_loopw [5] (fun i wr => ∃ k q : Nat, k ≤ m ∧ i = .int .i64 k ∧ wr = ((w.alloc (.cells #[.int .i64 r, .int .i64 c, .int .i64 h, .slice A m cp] 26)).alloc (.cells #[.int .i64 r, .int .i64 c, .int .i64 h, .slice A' m cp'] 26)).drewN q) (fun i _ => m - (intOf i).toNat)
  case atStart => exact ⟨0, 0, Nat.zero_le _, rfl, rfl⟩
  case round =>
    obtain ⟨k, q, hk, rfl, rfl⟩ := hrel
    by_cases hlt : k < m
    · obtain ⟨ad, e, rfl, he, x0, x1, x2, x3, x4, x5⟩ := hra.ev hlt
      obtain ⟨ad', e', rfl, he', y0, y1, y2, y3, y4, y5⟩ := hra'.ev hlt
      obtain rfl : e = e' := Option.some.inj (he.symm.trans he')
      clear he he'
      go_wp2
      go_quiet (fail)
      go_wp2
      go_roundw
      case rel => exact ⟨k + 1, q + nq, by omega, by go_num, rfl⟩
      case measure => simp [intOf]; omega
    · obtain rfl : k = m := by omega
      go_wp2
      go_ret
      exact ⟨rfl, below_drewN hb0 q⟩
end
end Go.Proofs.YtiglllddgikeiabGreatDoor

namespace Go.Proofs.YtiglllddgikeiabGreatDoor
open Go.RowKit Go.Rep
set_option maxRecDepth 100000
def prevAt (l : List Ev) : Nat → Int
  | 0 => 0
  | k + 1 => match l[k]? with | some e => e.at' | none => 0
theorem prevAt_succ {l : List Ev} {k : Nat} {e : Ev} (h : l[k]? = some e) : prevAt l (k + 1) = e.at' := by simp [prevAt, h]
section
variable {r c h : Int} {A : Option Addr} {m cp B : Nat} {l : List Ev} {w : World}
set_option maxHeartbeats 8000000 in
theorem lvalid_no (hr : Reads w B 6 A m (evCells l)) (hn : ¬ (sizeB r c = true ∧ 0 ≤ h ∧ h ≤ 1048576 ∧ m ≤ 2000)) :
    Calls Tryz.prog 5 #[.agg #[.int .i64 r, .int .i64 c, .int .i64 h, .slice A m cp]] w (ValidP r c h l w) := by
  have hall := hn
  have hv := validB_no hr.evs hall
  have HV := Lib.hid hv
  clear hv
  have hb0 : Below w.heap.size w ((w.alloc (.cells #[.int .i64 r, .int .i64 c, .int .i64 h, .slice A m cp] 26)).alloc (.cells #[.int .i64 r, .int .i64 c, .int .i64 h] 23)) := ((Below.refl _ _).alloc (Nat.le_refl _) _).alloc (by simp) _
  clear hn
  have hn : ¬ (1 ≤ r ∧ r ≤ 1000 ∧ 1 ≤ c ∧ c ≤ 1000 ∧ 0 ≤ h ∧ h ≤ 1048576 ∧ m ≤ 2000) := by
    rintro ⟨h1, h2, h3, h4, h5, h6, h7⟩
    exact hall ⟨by simp [sizeB, h1, h2, h3, h4], h5, h6, h7⟩
  clear hall
  by_cases h1 : 1 ≤ r
  · by_cases h2 : r ≤ 1000
    · by_cases h3 : 1 ≤ c
      · by_cases h4 : c ≤ 1000
        · by_cases h5 : 0 ≤ h
          · by_cases h6 : h ≤ 1048576
            · have h7 : ¬ m ≤ 2000 := fun h7 => hn ⟨h1, h2, h3, h4, h5, h6, h7⟩
              clear hn
              go_enter Tryz.func5, Tryz.ntmps5
              go_wp2
              go_ret
              exact ⟨by rw [HV.out]; rfl, hb0⟩
            · clear hn
              go_enter Tryz.func5, Tryz.ntmps5
              go_wp2
              go_ret
              exact ⟨by rw [HV.out]; rfl, hb0⟩
          · clear hn
            go_enter Tryz.func5, Tryz.ntmps5
            go_wp2
            go_ret
            exact ⟨by rw [HV.out]; rfl, hb0⟩
        · clear hn
          go_enter Tryz.func5, Tryz.ntmps5
          go_wp2
          go_ret
          exact ⟨by rw [HV.out]; rfl, hb0⟩
      · clear hn
        go_enter Tryz.func5, Tryz.ntmps5
        go_wp2
        go_ret
        exact ⟨by rw [HV.out]; rfl, hb0⟩
    · clear hn
      go_enter Tryz.func5, Tryz.ntmps5
      go_wp2
      go_ret
      exact ⟨by rw [HV.out]; rfl, hb0⟩
  · clear hn
    go_enter Tryz.func5, Tryz.ntmps5
    go_wp2
    go_ret
    exact ⟨by rw [HV.out]; rfl, hb0⟩
end
end Go.Proofs.YtiglllddgikeiabGreatDoor

namespace Go.Proofs.YtiglllddgikeiabGreatDoor
open Go.RowKit Go.Rep
set_option maxRecDepth 100000
section
variable {r c h : Int} {A : Option Addr} {m cp B : Nat} {l : List Ev} {w : World}
set_option maxHeartbeats 8000000 in
theorem lvalid_yes (hr : Reads w B 6 A m (evCells l)) (hB : B ≤ w.heap.size) (hc : cp ≤ maxLen) (hmc : m ≤ cp) (hall : sizeB r c = true ∧ 0 ≤ h ∧ h ≤ 1048576 ∧ m ≤ 2000) :
    Calls Tryz.prog 5 #[.agg #[.int .i64 r, .int .i64 c, .int .i64 h, .slice A m cp]] w (ValidP r c h l w) := by
  have hcm : cp ≤ 9223372036854775807 := hc
  have HL := Lib.hid hr.evs
  have hv := validB_yes hr.evs hall
  have HV := Lib.hid hv
  clear hv
  obtain ⟨a1, a2, a3, a4⟩ := hall
  simp only [sizeB, Bool.and_eq_true, decide_eq_true_eq] at a1
  obtain ⟨⟨⟨b1, b2⟩, b3⟩, b4⟩ := a1
  go_enter Tryz.func5, Tryz.ntmps5
  go_wp2
  go_loopw [4] (fun i wr => ∃ (k : Nat) (last : Int), k ≤ m ∧ i = .int .i64 k ∧ Hid (evsB 0 l = evsB last (l.drop k) ∧ last = prevAt l k) ∧ 0 ≤ last ∧ Blk wr w.heap.size 26 #[.int .i64 r, .int .i64 c, .int .i64 h, .slice A m cp] ∧ Below w.heap.size w wr) (fun i _ => m - (intOf i).toNat)
  case atStart => exact ⟨0, 0, Nat.zero_le _, rfl, Lib.hid ⟨rfl, rfl⟩, Int.le_refl _, (Blk.new w 26 #[.int .i64 r, .int .i64 c, .int .i64 h, .slice A m cp]).alloc _, ((Below.refl _ _).alloc (Nat.le_refl _) _).alloc (by simp) _⟩
  case round =>
    obtain ⟨k, last, hk, rfl, hE, hl0, bB, hbr⟩ := hrel
    have u3 : wr.cell? ⟨w.heap.size, 3, none⟩ = some (.slice A m cp) := bB.cell 3
    by_cases hlt : k < m
    · obtain ⟨ad, e, rfl, he, y0, y1, y2, y3, y4, y5⟩ := ((hr.more hB).below hbr).ev hlt
      have HE := Lib.hid (hE.out.1.trans (evsB_step (last := last) he))
      have HP := Lib.hid (prevAt_succ he)
      have hsz := hbr.size
      clear he
      have bY := Blk.new wr 40 #[.int .i64 e.at', .int .i64 e.o.k, .string e.o.s, .int .i64 e.o.r, .int .i64 e.o.c, .int .i64 e.o.n]
      have bB' := bB.alloc (.cells #[.int .i64 e.at', .int .i64 e.o.k, .string e.o.s, .int .i64 e.o.r, .int .i64 e.o.c, .int .i64 e.o.n] 40)
      have hb' := hbr.alloc hsz (.cells #[.int .i64 e.at', .int .i64 e.o.k, .string e.o.s, .int .i64 e.o.r, .int .i64 e.o.c, .int .i64 e.o.n] 40)
      -- what stands before it
      have hprev : 0 < k → ∃ ad' : Addr, some ad = some ad' ∧ (wr.alloc (.cells #[.int .i64 e.at', .int .i64 e.o.k, .string e.o.s, .int .i64 e.o.r, .int .i64 e.o.c, .int .i64 e.o.n] 40)).cell? (ad'.add ((k - 1) * 6)) = some (.int .i64 last) := fun h0 => by
        obtain ⟨ad', e', h1, he', z0, _⟩ := (((hr.more hB).below hbr).alloc hsz (.cells #[.int .i64 e.at', .int .i64 e.o.k, .string e.o.s, .int .i64 e.o.r, .int .i64 e.o.c, .int .i64 e.o.n] 40)).ev (show k - 1 < m by omega)
        refine ⟨ad', h1, ?_⟩
        have h2 := prevAt_succ he'
        rw [show k - 1 + 1 = k by omega] at h2
        rw [hE.out.2, h2]
        exact z0
      obtain ⟨bad, hbad⟩ : ∃ bad : Bool, bad = !(decide (last ≤ e.at') && decide (e.at' ≤ 1099511627776) && okOp e.o) := ⟨_, rfl⟩
      have HB := Lib.hid hbad
      clear hbad
      have F : ∀ w2, Below (wr.heap.size + 1) (wr.alloc (.cells #[.int .i64 e.at', .int .i64 e.o.k, .string e.o.s, .int .i64 e.o.r, .int .i64 e.o.c, .int .i64 e.o.n] 40)) w2 → Blk w2 w.heap.size 26 #[.int .i64 r, .int .i64 c, .int .i64 h, .slice (some ad) m cp] ∧ Below w.heap.size w w2 := fun w2 hb2 => ⟨bB'.below hb2 (by omega), hb'.trans (hb2.mono (by omega))⟩
      have HF := Lib.hid F
      clear F
      go_upto_region 8 with fail
      go_cut [83] (fun cc wx => cc = .bool bad ∧ Blk wx w.heap.size 26 #[.int .i64 r, .int .i64 c, .int .i64 h, .slice (some ad) m cp] ∧ Below w.heap.size w wx)
      case first =>
        have v0 : (wr.alloc (.cells #[.int .i64 e.at', .int .i64 e.o.k, .string e.o.s, .int .i64 e.o.r, .int .i64 e.o.c, .int .i64 e.o.n] 40)).cell? ⟨wr.heap.size, 0, none⟩ = some (.int .i64 e.at') := bY.cell 0
        have v1 : (wr.alloc (.cells #[.int .i64 e.at', .int .i64 e.o.k, .string e.o.s, .int .i64 e.o.r, .int .i64 e.o.c, .int .i64 e.o.n] 40)).cell? ⟨wr.heap.size, 1, none⟩ = some (.int .i64 e.o.k) := bY.cell 1
        have v2 : (wr.alloc (.cells #[.int .i64 e.at', .int .i64 e.o.k, .string e.o.s, .int .i64 e.o.r, .int .i64 e.o.c, .int .i64 e.o.n] 40)).cell? ⟨wr.heap.size, 2, none⟩ = some (.string e.o.s) := bY.cell 2
        have v3 : (wr.alloc (.cells #[.int .i64 e.at', .int .i64 e.o.k, .string e.o.s, .int .i64 e.o.r, .int .i64 e.o.c, .int .i64 e.o.n] 40)).cell? ⟨wr.heap.size, 3, none⟩ = some (.int .i64 e.o.r) := bY.cell 3
        have v4 : (wr.alloc (.cells #[.int .i64 e.at', .int .i64 e.o.k, .string e.o.s, .int .i64 e.o.r, .int .i64 e.o.c, .int .i64 e.o.n] 40)).cell? ⟨wr.heap.size, 4, none⟩ = some (.int .i64 e.o.c) := bY.cell 4
        have v5 : (wr.alloc (.cells #[.int .i64 e.at', .int .i64 e.o.k, .string e.o.s, .int .i64 e.o.r, .int .i64 e.o.c, .int .i64 e.o.n] 40)).cell? ⟨wr.heap.size, 5, none⟩ = some (.int .i64 e.o.n) := bY.cell 5
        have v6 : (wr.alloc (.cells #[.int .i64 e.at', .int .i64 e.o.k, .string e.o.s, .int .i64 e.o.r, .int .i64 e.o.c, .int .i64 e.o.n] 40)).cell? ⟨w.heap.size, 3, none⟩ = some (.slice (some ad) m cp) := bB'.cell 3
        have v7 : (wr.alloc (.cells #[.int .i64 e.at', .int .i64 e.o.k, .string e.o.s, .int .i64 e.o.r, .int .i64 e.o.c, .int .i64 e.o.n] 40)).heap.size = wr.heap.size + 1 := by simp
        have V7 := Lib.hid v7
        clear v7 bY bB' hb'
        generalize hwy : wr.alloc (.cells #[.int .i64 e.at', .int .i64 e.o.k, .string e.o.s, .int .i64 e.o.r, .int .i64 e.o.c, .int .i64 e.o.n] 40) = wy at hprev HF v0 v1 v2 v3 v4 v5 v6 V7 ⊢
        clear hwy y0 y1 y2 y3 y4 y5 u3
        by_cases g0 : 0 ≤ e.at'
        · have c0 : decide (e.at' < 0) = false := by simpa using g0
          by_cases g2 : e.at' ≤ 1099511627776
          · have c2 : decide (1099511627776 < e.at') = false := by simpa using g2
            by_cases hk0 : k = 0
            · have hl00 : last = 0 := by rw [hE.out.2, hk0]; rfl
              have n2 : ¬ (0 : Int) < (k : Int) := by omega
              clear hk0
              have HB2 : bad = !(okOp e.o) := by rw [HB.out, hl00]; simp [g0, g2]
              have HB3 := Lib.hid HB2
              clear HB2 hl00 hprev
              have n3 : ¬ 0 < k := by omega
              refine wp_region_still_tail 27 (by kernel_rfl) (by kernel_rfl) ?_
              simp only [List.take_succ_cons, List.take_zero, List.drop_succ_cons, List.drop_zero]
              iterate 11 still_step
              clear n2 n3
              repeat (with_reducible refine wpStill_step ?_; intro K hK; have HK := Lib.hid hK; clear hK; go_simp; (with_reducible refine HK.out _ ?_); clear HK K)
              try refine wpStill_nil ?_
              change wpList _ _ _ _ _ wy.drew
              go_wp2_with (go_at_call 10; refine (lallowed_any e.o _).mono ?_; rintro e2 w2 ⟨rfl, hb2⟩)
              go_meet
              exact ⟨congrArg Value.bool HB3.out.symm, HF.out _ ((below_drewN (Below.refl _ _) 1).trans (hb2.mono (by have := V7.out; simp; omega)))⟩
            · obtain ⟨ad', had, zp⟩ := hprev (by omega)
              cases had
              have k1 : (0 : Int) < (k : Int) := by omega
              have k2 : 0 < k := by omega
              have k3 : decide (0 < k) = true := by simp [k2]
              have i1 : (0 : Int) ≤ (k : Int) - 1 := by omega
              have i2 : (k : Int) - 1 < (m : Int) := by omega
              have i3 : IntKind.i64.wrap ((k : Int) - 1) = (k : Int) - 1 := IntWalk.i64_in _ (by omega)
              have i4 : ((k : Int) - 1).toNat = k - 1 := by omega
              have i5 : (1 : Int) ≤ (k : Int) := by omega
              by_cases g1 : last ≤ e.at'
              · have c1 : decide (e.at' < last) = false := by simpa using g1
                have HB2 : bad = !(okOp e.o) := by rw [HB.out]; simp [g1, g2]
                have HB3 := Lib.hid HB2
                clear HB2 hprev
                go_still_tail 27, (by kernel_rfl)
                change wpList _ _ _ _ _ wy.drew
                go_wp2_with (go_at_call 10; refine (lallowed_any e.o _).mono ?_; rintro e2 w2 ⟨rfl, hb2⟩)
                go_meet
                exact ⟨congrArg Value.bool HB3.out.symm, HF.out _ ((below_drewN (Below.refl _ _) 1).trans (hb2.mono (by have := V7.out; simp; omega)))⟩
              · have c1 : decide (e.at' < last) = true := by simp; omega
                have HB2 : bad = true := by rw [HB.out]; simp [g1]
                have HB3 := Lib.hid HB2
                clear HB2 hprev
                go_quiet (fail)
                go_wp2
                go_meet
                exact ⟨congrArg Value.bool HB3.out.symm, HF.out _ (below_drewN (Below.refl _ _) nq)⟩
          · have c2 : decide (1099511627776 < e.at') = true := by simp; omega
            have HB2 : bad = true := by rw [HB.out]; simp [g2]
            have HB3 := Lib.hid HB2
            clear HB2 hprev
            go_quiet (fail)
            go_wp2
            go_meet
            exact ⟨congrArg Value.bool HB3.out.symm, HF.out _ (below_drewN (Below.refl _ _) nq)⟩
        · have c0 : decide (e.at' < 0) = true := by simp; omega
          have HB2 : bad = true := by rw [HB.out]; have : ¬ last ≤ e.at' := by omega
                                      simp [this]
          have HB3 := Lib.hid HB2
          clear HB2 hprev
          go_quiet (fail)
          go_wp2
          go_meet
          exact ⟨congrArg Value.bool HB3.out.symm, HF.out _ (below_drewN (Below.refl _ _) nq)⟩
      case rest =>
        obtain ⟨rfl, bB2, hb2⟩ := hcut
        cases bad with
        | true =>
          have hf : evsB 0 l = false := by
            have hX := Eq.mp (Bool.not_eq_true' _) HB.out.symm
            rw [HE.out, hX]
            rfl
          have HF2 := Lib.hid hf
          clear hf
          go_wp2
          go_ret
          exact ⟨by rw [HV.out, HF2.out]; rfl, hb2⟩
        | false =>
          have hg : (decide (last ≤ e.at') && decide (e.at' ≤ 1099511627776) && okOp e.o) = true :=
             Eq.mp (Bool.not_eq_false' _) HB.out.symm
          have HG := Lib.hid hg
          clear hg
          have hl1 : 0 ≤ e.at' := by
            have := HG.out
            simp only [Bool.and_eq_true, decide_eq_true_eq] at this
            omega
          go_wp2
          go_roundw
          case rel => exact ⟨k + 1, e.at', by omega, by go_num, Lib.hid ⟨by rw [HE.out, HG.out]; rfl, HP.out.symm⟩, hl1, bB2, hb2⟩
          case measure => simp [intOf]; omega
    · obtain rfl : k = m := by omega
      have hE2 : evsB 0 l = true := by
        rw [hE.out.1, List.drop_eq_nil_of_le (by have := HL.out; omega)]
        rfl
      have HE2 := Lib.hid hE2
      clear hE2
      go_wp2
      go_ret
      exact ⟨by rw [HV.out, HE2.out]; rfl, hbr⟩
end
end Go.Proofs.YtiglllddgikeiabGreatDoor

namespace Go.Proofs.YtiglllddgikeiabGreatDoor
open Go.RowKit Go.Rep
set_option maxRecDepth 100000
section
variable {r c h f t ti p : Int} {A : Option Addr} {m cp B : Nat} {l : List Ev} {w : World}
theorem lvalid_any (hr : Reads w B 6 A m (evCells l)) (hB : B ≤ w.heap.size) (hc : cp ≤ maxLen) (hmc : m ≤ cp) :
    Calls Tryz.prog 5 #[.agg #[.int .i64 r, .int .i64 c, .int .i64 h, .slice A m cp]] w (ValidP r c h l w) := by
  by_cases hall : sizeB r c = true ∧ 0 ≤ h ∧ h ≤ 1048576 ∧ m ≤ 2000
  · exact lvalid_yes hr hB hc hmc hall
  · exact lvalid_no hr hall
end
end Go.Proofs.YtiglllddgikeiabGreatDoor

namespace Go.Proofs.YtiglllddgikeiabGreatDoor
open Go.RowKit Go.Rep
set_option maxRecDepth 100000
section
variable {r c h : Int} {A : Option Addr} {m cp B : Nat} {l : List Ev} {w : World}
theorem length_any (hr : Reads w B 6 A m (evCells l)) (hB : B ≤ w.heap.size) (hm : m ≤ 2000) :
    Calls Tryz.prog 19 #[.agg #[.int .i64 r, .int .i64 c, .int .i64 h, .slice A m cp]] w fun e w' => e = .returned (.int .i64 (prevAt l m)) ∧ Below w.heap.size w w' := by
  have hra := hr.alloc hB (.cells #[.int .i64 r, .int .i64 c, .int .i64 h, .slice A m cp] 26)
  have hb0 : Below w.heap.size w (w.alloc (.cells #[.int .i64 r, .int .i64 c, .int .i64 h, .slice A m cp] 26)) := (Below.refl _ _).alloc (Nat.le_refl _) _
  rcases Nat.eq_zero_or_pos m with rfl | h0
  · go_enter Tryz.func19, Tryz.ntmps19
    go_wp2
    go_ret
    exact ⟨rfl, hb0⟩
  · obtain ⟨ad, e, rfl, he, x0, _, _, _, _, _⟩ := hra.ev (show m - 1 < m by omega)
    have hp := prevAt_succ he
    rw [show m - 1 + 1 = m by omega] at hp
    have HP := Lib.hid hp
    clear hp he
    go_enter Tryz.func19, Tryz.ntmps19
    go_wp2
    go_ret
    exact ⟨by rw [HP.out]; rfl, hb0⟩
end
end Go.Proofs.YtiglllddgikeiabGreatDoor

namespace Go.Rep
open Go.RowKit
theorem list_of {α : Type} {n : Nat} {R : Nat → α → Prop} (h : ∀ i, i < n → ∃ a, R i a) : ∃ l : List α, l.length = n ∧ ∀ i a, l[i]? = some a → R i a := by
  induction n with
  | zero => exact ⟨[], rfl, fun i a h => by simp at h⟩
  | succ n ih =>
    obtain ⟨l, h1, h2⟩ := ih (fun i hi => h i (by omega))
    obtain ⟨a, ha⟩ := h n (by omega)
    refine ⟨l ++ [a], by simp [h1], fun i b hb => ?_⟩
    rcases Nat.lt_or_ge i n with hi | hi
    · rw [List.getElem?_append_left (by omega)] at hb
      exact h2 i b hb
    · have hin : i = n := by
        have := (List.getElem?_eq_some_iff.1 hb).1
        simp at this
        omega
      subst hin
      rw [List.getElem?_append_right (by omega), h1, Nat.sub_self] at hb
      cases hb
      exact ha
theorem take_one {α : Type} {l : List α} {j : Nat} (h : j < l.length) : (l.drop j).take 1 = [l[j]] := by
  rw [List.drop_eq_getElem_cons h]
  rfl
theorem five_of {α : Type} {l : List α} (h : l.length = 5) : ∃ a b c d e, l = [a, b, c, d, e] := by
  match l, h with
  | [a, b, c, d, e], _ => exact ⟨a, b, c, d, e, rfl⟩
end Go.Rep
namespace Go.Proofs.YtiglllddgikeiabGreatDoor
open Go.RowKit Go.Rep Go.ChangeShapes Go.WideShapes Go.Deep
set_option maxRecDepth 100000
section
variable {H : Type} {enc : TypeId × Value → H} {W : World} {spare : Nat → Bool} {held : Bool}
/-- An operation, as it lies in memory. -/
theorem trod_op {fuel : Nat} {cs : List Value} {x : DataW H × List MemPlace} (h : DataW.trod enc Tryz.prog W 0 spare held fuel 38 cs = some x) : ∃ o : TOp, cs = o.cells := by
  obtain ⟨ys, n, _, _, hlen, hyl, hf⟩ := DataW.trod_struct Tryz.underlying38 h
  have hl : cs.length = 5 := hlen.trans (by kernel_rfl)
  obtain ⟨a, b, c, d, e, rfl⟩ := five_of hl
  have h0 : DataW.trod enc Tryz.prog W 0 spare held n 36 (([a, b, c, d, e].drop 0).take (Tryz.prog.cellsOf 36)) = ys[0]? := hf 0 _ rfl
  have h1 : DataW.trod enc Tryz.prog W 0 spare held n 9 (([a, b, c, d, e].drop 1).take (Tryz.prog.cellsOf 9)) = ys[1]? := hf 1 _ rfl
  have h2 : DataW.trod enc Tryz.prog W 0 spare held n 3 (([a, b, c, d, e].drop 2).take (Tryz.prog.cellsOf 3)) = ys[2]? := hf 2 _ rfl
  have h3 : DataW.trod enc Tryz.prog W 0 spare held n 3 (([a, b, c, d, e].drop 3).take (Tryz.prog.cellsOf 3)) = ys[3]? := hf 3 _ rfl
  have h4 : DataW.trod enc Tryz.prog W 0 spare held n 3 (([a, b, c, d, e].drop 4).take (Tryz.prog.cellsOf 3)) = ys[4]? := hf 4 _ rfl
  rw [show Tryz.prog.cellsOf 36 = 1 by kernel_rfl] at h0
  rw [show Tryz.prog.cellsOf 9 = 1 by kernel_rfl] at h1
  rw [show Tryz.prog.cellsOf 3 = 1 by kernel_rfl] at h2 h3 h4
  have hy : ys.length = 5 := hyl
  rw [List.getElem?_eq_getElem (by omega)] at h0 h1 h2 h3 h4
  obtain ⟨k, e0, _, _⟩ := DataW.trod_int Tryz.underlying36 h0
  obtain ⟨s, e1, _, _⟩ := DataW.trod_string Tryz.underlying9 h1
  obtain ⟨r, e2, _, _⟩ := DataW.trod_int Tryz.underlying3 h2
  obtain ⟨c', e3, _, _⟩ := DataW.trod_int Tryz.underlying3 h3
  obtain ⟨n', e4, _, _⟩ := DataW.trod_int Tryz.underlying3 h4
  have e0' : a = .int .i64 k := by simpa using e0
  have e1' : b = .string s := by simpa using e1
  have e2' : c = .int .i64 r := by simpa using e2
  have e3' : d = .int .i64 c' := by simpa using e3
  have e4' : e = .int .i64 n' := by simpa using e4
  exact ⟨⟨k, s, r, c', n'⟩, by rw [e0', e1', e2', e3', e4']; rfl⟩
theorem trod_ev {fuel : Nat} {cs : List Value} {x : DataW H × List MemPlace} (h : DataW.trod enc Tryz.prog W 0 spare held fuel 40 cs = some x) : ∃ e : Ev, cs = e.cells := by
  obtain ⟨ys, n, _, _, hlen, hyl, hf⟩ := DataW.trod_struct Tryz.underlying40 h
  have hl : cs.length = 6 := hlen.trans (by kernel_rfl)
  have h0 : DataW.trod enc Tryz.prog W 0 spare held n 3 ((cs.drop 0).take (Tryz.prog.cellsOf 3)) = ys[0]? := hf 0 _ rfl
  have h1 : DataW.trod enc Tryz.prog W 0 spare held n 38 ((cs.drop 1).take (Tryz.prog.cellsOf 38)) = ys[1]? := hf 1 _ rfl
  rw [show Tryz.prog.cellsOf 3 = 1 by kernel_rfl] at h0
  rw [show Tryz.prog.cellsOf 38 = 5 by kernel_rfl] at h1
  have hy : ys.length = 2 := hyl
  rw [List.getElem?_eq_getElem (by omega)] at h0 h1
  match cs, hl with
  | [a, b, c, d, e, g], _ =>
    obtain ⟨t, e0, _, _⟩ := DataW.trod_int Tryz.underlying3 h0
    obtain ⟨o, e1⟩ := trod_op h1
    have e0' : a = .int .i64 t := by simpa using e0
    have e1' : [b, c, d, e, g] = o.cells := e1
    exact ⟨⟨t, o⟩, by rw [e0', e1']; rfl⟩
/-- A record that is an argument. -/
theorem open_record {v : Value} {d : DataW H} {p : List MemPlace} {base : Nat} (hval : Value.okWide Tryz.prog W .any base 26 v) (h : DataW.Trod enc Tryz.prog W 0 spare held 26 v d p) :
    ∃ r c hh A m cp l, v = .agg #[.int .i64 r, .int .i64 c, .int .i64 hh, .slice A m cp] ∧ Reads W W.heap.size 6 A m (evCells l) ∧ m ≤ cp ∧ cp ≤ maxLen := by
  obtain ⟨cs, rfl, hcs⟩ := okWide_struct Tryz.underlying26 hval
  obtain ⟨fuel, hf⟩ := h
  obtain ⟨ys, n, _, _, hlen, hyl, hfs⟩ := DataW.trod_struct Tryz.underlying26 hf
  have hl : cs.toList.length = 4 := by
    have : (Value.agg cs).cells.toList.length = 4 := hlen.trans (by kernel_rfl)
    simpa [Value.cells] using this
  have h0 : DataW.trod enc Tryz.prog W 0 spare held n 23 (((Value.agg cs).cells.toList.drop 0).take (Tryz.prog.cellsOf 23)) = ys[0]? := hfs 0 _ rfl
  have h1 : DataW.trod enc Tryz.prog W 0 spare held n 24 (((Value.agg cs).cells.toList.drop 3).take (Tryz.prog.cellsOf 24)) = ys[1]? := hfs 1 _ rfl
  rw [show Tryz.prog.cellsOf 23 = 3 by kernel_rfl] at h0
  rw [show Tryz.prog.cellsOf 24 = 1 by kernel_rfl] at h1
  have hy : ys.length = 2 := hyl
  rw [List.getElem?_eq_getElem (by omega)] at h0 h1
  obtain ⟨l⟩ := cs
  match l, hl with
  | [a, b, c, e], _ =>
    have h0' : DataW.trod enc Tryz.prog W 0 spare held n 23 [a, b, c] = some ys[0] := h0
    have h1' : DataW.trod enc Tryz.prog W 0 spare held n 24 [e] = some ys[1] := h1
    obtain ⟨zs, n', _, _, _, hzl, hz⟩ := DataW.trod_struct Tryz.underlying23 h0'
    have hz3 : zs.length = 3 := hzl
    have g0 : DataW.trod enc Tryz.prog W 0 spare held n' 3 (([a, b, c].drop 0).take (Tryz.prog.cellsOf 3)) = zs[0]? := hz 0 _ rfl
    have g1 : DataW.trod enc Tryz.prog W 0 spare held n' 3 (([a, b, c].drop 1).take (Tryz.prog.cellsOf 3)) = zs[1]? := hz 1 _ rfl
    have g2 : DataW.trod enc Tryz.prog W 0 spare held n' 3 (([a, b, c].drop 2).take (Tryz.prog.cellsOf 3)) = zs[2]? := hz 2 _ rfl
    rw [show Tryz.prog.cellsOf 3 = 1 by kernel_rfl] at g0 g1 g2
    rw [List.getElem?_eq_getElem (by omega)] at g0 g1 g2
    obtain ⟨r, e0, _, _⟩ := DataW.trod_int Tryz.underlying3 g0
    obtain ⟨c', e1, _, _⟩ := DataW.trod_int Tryz.underlying3 g1
    obtain ⟨hh, e2, _, _⟩ := DataW.trod_int Tryz.underlying3 g2
    have e0' : a = .int .i64 r := by simpa using e0
    have e1' : b = .int .i64 c' := by simpa using e1
    have e2' : c = .int .i64 hh := by simpa using e2
    subst e0' e1' e2'
    rcases open_slice Tryz.underlying24 h1' with ⟨hs, _⟩ | ⟨ad, len, cap, mm, nn, D, Pl, hs, hb, hlc, hm, hmm, _, hi⟩
    · obtain rfl : e = .slice none 0 0 := by simpa using hs
      exact ⟨r, c', hh, none, 0, 0, [], rfl, Reads.none_, Nat.le_refl _, Nat.zero_le _⟩
    · obtain rfl : e = .slice (some ad) len cap := by simpa using hs
      have hml : len ≤ mm := by rw [hmm]; split <;> omega
      rw [show Tryz.prog.cellsOf 40 = 6 by kernel_rfl] at hi
      obtain ⟨evs, h2, h3⟩ := list_of (n := len) (R := fun i (ev : Ev) => ∀ j u, j < 6 → ev.cells[j]? = some u → W.cell? (ad.add (i * 6 + j)) = some u) (fun i hi' => by
        obtain ⟨cs', hc, ht⟩ := hi i (by omega)
        obtain ⟨ev, hev⟩ := trod_ev ht
        obtain ⟨_, _, hat⟩ := World.cells?_some hc
        refine ⟨ev, fun j u hj hu => ?_⟩
        have := hat j hj
        rw [Go.Deep.add_add] at this
        rw [this, hev, hu])
      refine ⟨r, c', hh, some ad, len, cap, evs, rfl, ⟨by rw [evCells_length, h2], fun hn => ⟨ad, rfl, ?_, fun j u hu => ?_⟩⟩, hlc, hm⟩
      · have h4 := h3 0 _ (List.getElem?_eq_getElem (by omega)) 0 _ (by omega) rfl
        have := block_lt h4
        rwa [block_of_add] at this
      · have hj : j < len * 6 := by
          have := (List.getElem?_eq_some_iff.1 hu).1
          rw [evCells_length, h2] at this
          exact this
        have hq : j / 6 < evs.length := by rw [h2]; omega
        have hjj : j / 6 * 6 + j % 6 = j := by omega
        have h4 := evCells_at evs (j / 6) (j % 6) hq (by omega)
        rw [hjj, hu] at h4
        have h5 := h3 (j / 6) _ (List.getElem?_eq_getElem hq) (j % 6) u (by omega) h4.symm
        rwa [hjj] at h5
end
end Go.Proofs.YtiglllddgikeiabGreatDoor
