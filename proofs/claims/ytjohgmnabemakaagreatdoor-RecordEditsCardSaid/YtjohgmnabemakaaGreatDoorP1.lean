/- A part of the proof of RecordEdits. -/
import Derived.Test.YtjohgmnabemakaaGreatDoorProg
import Derived.Test.YtjohgmnabemakaaGreatDoorAbsP
import Derived.WalkKit
import Derived.ProofKit
import Derived.LoopTactic
import Derived.Outline
import Derived.RegionTactic
import Derived.Lib.Hide
namespace Go.Proofs.YtjohgmnabemakaaGreatDoor
open Go.RowKit Go.Rep
set_option maxRecDepth 100000
theorem size_any (r c : Int) (w : World) : Calls Tryz.prog 47 #[.int .i64 r, .int .i64 c] w fun e w' => e = .returned (.bool (sizeB r c)) ∧ w = w' := by
  go_enter Tryz.func47, Tryz.ntmps47
  go_wp2
  all_goals
    go_ret
    refine ⟨congrArg Ending.returned (congrArg Value.bool ?_), rfl⟩
    simp [sizeB] <;> omega
set_option maxHeartbeats 1000000 in
theorem allowed_any (o : TOp) (w : World) : Calls Tryz.prog 48 #[.agg #[.int .i64 o.k, .string o.s, .int .i64 o.r, .int .i64 o.c, .int .i64 o.n]] w fun e w' => e = .returned (.bool (okOp o)) ∧ Below w.heap.size w w' := by
  go_enter Tryz.func48, Tryz.ntmps48
  go_wp2_with (go_at_call 47; refine (size_any _ _ _).mono ?_; rintro e w1 ⟨rfl, rfl⟩)
  all_goals
    go_ret
    refine ⟨congrArg Ending.returned (congrArg Value.bool ?_), (Below.refl _ _).alloc (Nat.le_refl _) _⟩
    first
      | (simp [okOp, *]; done)
      | (simp [okOp, *]; omega)
      | (simp_all [okOp]; done)
      | (simp_all [okOp]; omega)
end Go.Proofs.YtjohgmnabemakaaGreatDoor

namespace Go.Proofs.YtjohgmnabemakaaGreatDoor
open Go.RowKit Go.Rep
set_option maxRecDepth 100000
set_option maxHeartbeats 4000000 in
theorem lallowed_any (o : TOp) (w : World) : Calls Tryz.prog 18 #[.agg #[.int .i64 o.k, .string o.s, .int .i64 o.r, .int .i64 o.c, .int .i64 o.n]] w fun e w' => e = .returned (.bool (okOp o)) ∧ Below w.heap.size w w' := by
  by_cases h1 : o.k = 1
  · have hk : (o.k == 1) = true := by simpa using h1
    go_enter Tryz.func18, Tryz.ntmps18
    go_wp2
    all_goals
      go_ret
      refine ⟨congrArg Ending.returned (congrArg Value.bool ?_), ?_⟩
      · first
          | (simp [okOp, sizeB, *]; done)
          | (simp [okOp, sizeB, *]; omega)
          | (simp_all [okOp, sizeB]; done)
          | (simp_all [okOp, sizeB]; omega)
      · first
          | exact ((Below.refl _ _).alloc (Nat.le_refl _) _).alloc (by simp) _
          | exact (((Below.refl _ _).alloc (Nat.le_refl _) _).alloc (by simp) _).drew
  · have hk1 : (o.k == 1) = false := by simpa using h1
    by_cases h2 : o.k = 2
    · have hk : (o.k == 2) = true := by simpa using h2
      go_enter Tryz.func18, Tryz.ntmps18
      go_wp2
      go_region
      all_goals (try go_wp2)
      all_goals
        go_ret
        refine ⟨congrArg Ending.returned (congrArg Value.bool ?_), ?_⟩
        · first
            | (simp [okOp, sizeB, *]; done)
            | (simp [okOp, sizeB, *]; omega)
            | (simp_all [okOp, sizeB]; done)
            | (simp_all [okOp, sizeB]; omega)
        · first
            | exact ((Below.refl _ _).alloc (Nat.le_refl _) _).alloc (by simp) _
            | exact (((Below.refl _ _).alloc (Nat.le_refl _) _).alloc (by simp) _).drew
    · have hk2 : (o.k == 2) = false := by simpa using h2
      go_enter Tryz.func18, Tryz.ntmps18
      go_wp2
      all_goals
        go_ret
        refine ⟨congrArg Ending.returned (congrArg Value.bool ?_), ?_⟩
        · first
            | (simp [okOp, sizeB, *]; done)
            | (simp [okOp, sizeB, *]; omega)
            | (simp_all [okOp, sizeB]; done)
            | (simp_all [okOp, sizeB]; omega)
        · first
            | exact ((Below.refl _ _).alloc (Nat.le_refl _) _).alloc (by simp) _
            | exact (((Below.refl _ _).alloc (Nat.le_refl _) _).alloc (by simp) _).drew
end Go.Proofs.YtjohgmnabemakaaGreatDoor

namespace Go.Proofs.YtjohgmnabemakaaGreatDoor
open Go.RowKit Go.Rep
set_option maxRecDepth 100000
def ValidP (r c h : Int) (l : List Ev) (w : World) (e : Ending) (w' : World) : Prop := e = .returned (.bool (validB r c h l)) ∧ Below w.heap.size w w'
theorem validB_no {r c h : Int} {l : List Ev} {m : Nat} (hl : l.length = m) (hn : ¬ (sizeB r c = true ∧ 0 ≤ h ∧ h ≤ 1048576 ∧ m ≤ 2000)) : validB r c h l = false := by
  unfold validB
  rw [hl]
  by_cases h1 : sizeB r c = true
  · by_cases h2 : 0 ≤ h
    · by_cases h3 : h ≤ 1048576
      · have h4 : ¬ m ≤ 2000 := fun h4 => hn ⟨h1, h2, h3, h4⟩
        simp [h4]
      · simp [h3]
    · simp [h2]
  · simp [h1]
theorem validB_yes {r c h : Int} {l : List Ev} {m : Nat} (hl : l.length = m) (hn : sizeB r c = true ∧ 0 ≤ h ∧ h ≤ 1048576 ∧ m ≤ 2000) : validB r c h l = evsB 0 l := by
  obtain ⟨h1, h2, h3, h4⟩ := hn
  unfold validB
  rw [hl]
  simp [h1, h2, h3, h4]
set_option maxHeartbeats 4000000 in
theorem valid_any {r c h : Int} {A : Option Addr} {m cp B : Nat} {l : List Ev} {w : World} (hr : Reads w B 6 A m (evCells l)) (hB : B ≤ w.heap.size) (hc : cp ≤ maxLen) (hmc : m ≤ cp) :
    Calls Tryz.prog 23 #[.agg #[.int .i64 r, .int .i64 c, .int .i64 h, .slice A m cp]] w (ValidP r c h l w) := by
  have hcm : cp ≤ 9223372036854775807 := hc
  have HL := Lib.hid hr.evs
  by_cases hall : sizeB r c = true ∧ 0 ≤ h ∧ h ≤ 1048576 ∧ m ≤ 2000
  · have hv := validB_yes hr.evs hall
    have HV := Lib.hid hv
    clear hv
    obtain ⟨a1, a2, a3, a4⟩ := hall
    go_enter Tryz.func23, Tryz.ntmps23
    go_wp2_with (go_at_call 47; refine (size_any _ _ _).mono ?_; rintro e w1 ⟨rfl, rfl⟩)
    go_loopw [3, 35] (fun la i wr => ∃ (k : Nat) (last : Int), k ≤ m ∧ i = .int .i64 k ∧ la = .int .i64 last ∧ Hid (evsB 0 l = evsB last (l.drop k)) ∧ Below w.heap.size w wr) (fun _ i _ => m - (intOf i).toNat)
    case atStart => exact ⟨0, 0, Nat.zero_le _, rfl, rfl, Lib.hid rfl, (Below.refl _ _).alloc (Nat.le_refl _) _⟩
    case round =>
      obtain ⟨k, last, hk, rfl, rfl, hE, hbr⟩ := hrel
      by_cases hlt : k < m
      · obtain ⟨ad, e, rfl, he, x0, x1, x2, x3, x4, x5⟩ := ((hr.more hB).below hbr).ev hlt
        have HS := Lib.hid (evsB_step (last := last) he)
        clear he
        have hsz := hbr.size
        by_cases hg : last ≤ e.at' ∧ e.at' ≤ 1099511627776 ∧ okOp e.o = true
        · obtain ⟨g1, g2, g3⟩ := hg
          go_wp2_with (go_at_call 48; refine (allowed_any e.o _).mono ?_; rintro e2 w2 ⟨rfl, hb2⟩; have z0 : w2.cell? ⟨wr.heap.size, 0, none⟩ = some (.int .i64 e.at') := ((Blk.new wr _ _).below hb2 (by simp)).cell 0)
          go_roundw
          case rel =>
            refine ⟨k + 1, e.at', by omega, by go_num, rfl, Lib.hid ?_, (hbr.alloc hsz _).trans (hb2.mono (by simp; omega))⟩
            rw [hE.out, HS.out]
            simp [g1, g2, g3]
          case measure => simp [intOf]; omega
        · have hf : (decide (last ≤ e.at') && decide (e.at' ≤ 1099511627776) && okOp e.o && evsB e.at' (l.drop (k + 1))) = false := by
            by_cases g1 : last ≤ e.at'
            · by_cases g2 : e.at' ≤ 1099511627776
              · have g3 : ¬ okOp e.o = true := fun g3 => hg ⟨g1, g2, g3⟩
                simp [g3]
              · simp [g2]
            · simp [g1]
          have HF := Lib.hid hf
          clear hf
          by_cases g1 : last ≤ e.at'
          · by_cases g2 : e.at' ≤ 1099511627776
            · have g3 : okOp e.o = false := by
                cases hk : okOp e.o with
                | false => rfl
                | true => exact absurd ⟨g1, g2, hk⟩ hg
              clear hg
              go_wp2_with (go_at_call 48; refine (allowed_any e.o _).mono ?_; rintro e2 w2 ⟨rfl, hb2⟩)
              go_ret
              exact ⟨by rw [HV.out, hE.out, HS.out, HF.out]; rfl, (hbr.alloc hsz _).trans (hb2.mono (by simp; omega))⟩
            · clear hg
              go_wp2
              go_ret
              exact ⟨by rw [HV.out, hE.out, HS.out, HF.out]; rfl, hbr.alloc hsz _⟩
          · clear hg
            go_wp2
            go_ret
            exact ⟨by rw [HV.out, hE.out, HS.out, HF.out]; rfl, hbr.alloc hsz _⟩
      · obtain rfl : k = m := by omega
        have hE2 : evsB 0 l = true := by
          rw [hE.out, List.drop_eq_nil_of_le (by have := HL.out; omega)]
          rfl
        have HE2 := Lib.hid hE2
        clear hE2
        go_wp2
        go_ret
        exact ⟨by rw [HV.out, HE2.out]; rfl, hbr⟩
  · have hv := validB_no hr.evs hall
    have HV := Lib.hid hv
    clear hv
    by_cases h1 : sizeB r c = true
    · by_cases h2 : 0 ≤ h
      · by_cases h3 : h ≤ 1048576
        · have h4 : ¬ m ≤ 2000 := fun h4 => hall ⟨h1, h2, h3, h4⟩
          clear hall
          go_enter Tryz.func23, Tryz.ntmps23
          go_wp2_with (go_at_call 47; refine (size_any _ _ _).mono ?_; rintro e w1 ⟨rfl, rfl⟩)
          go_ret
          exact ⟨by rw [HV.out]; rfl, (Below.refl _ _).alloc (Nat.le_refl _) _⟩
        · clear hall
          go_enter Tryz.func23, Tryz.ntmps23
          go_wp2_with (go_at_call 47; refine (size_any _ _ _).mono ?_; rintro e w1 ⟨rfl, rfl⟩)
          go_ret
          exact ⟨by rw [HV.out]; rfl, (Below.refl _ _).alloc (Nat.le_refl _) _⟩
      · clear hall
        go_enter Tryz.func23, Tryz.ntmps23
        go_wp2_with (go_at_call 47; refine (size_any _ _ _).mono ?_; rintro e w1 ⟨rfl, rfl⟩)
        go_ret
        exact ⟨by rw [HV.out]; rfl, (Below.refl _ _).alloc (Nat.le_refl _) _⟩
    · have h1' : sizeB r c = false := by simpa using h1
      clear hall h1
      go_enter Tryz.func23, Tryz.ntmps23
      go_wp2_with (go_at_call 47; refine (size_any _ _ _).mono ?_; rintro e w1 ⟨rfl, rfl⟩)
      go_ret
      exact ⟨by rw [HV.out]; rfl, (Below.refl _ _).alloc (Nat.le_refl _) _⟩
end Go.Proofs.YtjohgmnabemakaaGreatDoor
