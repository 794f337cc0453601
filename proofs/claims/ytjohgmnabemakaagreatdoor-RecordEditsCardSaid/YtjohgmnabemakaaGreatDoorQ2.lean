/- A part of the proof of RecordEdits. -/
import Derived.Test.YtjohgmnabemakaaGreatDoorQ1
import Derived.Test.YtjohgmnabemakaaGreatDoorP1
import Derived.IntWalk
namespace Go.Proofs.YtjohgmnabemakaaGreatDoor
open Go.RowKit Go.Rep
set_option maxRecDepth 100000
def prevAt (l : List Ev) : Nat → Int
  | 0 => 0
  | k + 1 => match l[k]? with | some e => e.at' | none => 0
theorem prevAt_succ {l : List Ev} {k : Nat} {e : Ev} (h : l[k]? = some e) : prevAt l (k + 1) = e.at' := by simp [prevAt, h]
section
variable {r c h : Int} {A : Option Addr} {m cp B : Nat} {l : List Ev} {w : World}
set_option maxHeartbeats 8000000 in
theorem lvalid_no (hr : Reads w B 6 A m (evCells l)) (hn : ¬ (sizeB r c = true ∧ 0 ≤ h ∧ h ≤ 1048576 ∧ m ≤ 2000)) :
    Calls Tryz.prog 6 #[.agg #[.int .i64 r, .int .i64 c, .int .i64 h, .slice A m cp]] w (ValidP r c h l w) := by
  have hall := hn
  have hv := validB_no hr.evs hall
  have HV := Lib.hid hv
  clear hv
  have hb0 : Below w.heap.size w ((w.alloc (.cells #[.int .i64 r, .int .i64 c, .int .i64 h, .slice A m cp] 26)).alloc (.cells #[.int .i64 r, .int .i64 c, .int .i64 h] 23)) := ((Below.refl _ _).alloc (Nat.le_refl _) _).alloc (by simp) _
  clear hn
  have hn : ¬ (1 ≤ r ∧ r ≤ 1000 ∧ 1 ≤ c ∧ c ≤ 1000 ∧ 0 ≤ h ∧ h ≤ 1048576 ∧ m ≤ 2000) := by
    rintro ⟨h1, h2, h3, h4, h5, h6, h7⟩
    exact hall ⟨by simp [sizeB, h1, h2, h3, h4], h5, h6, h7⟩
  clear hall
  by_cases h1 : 1 ≤ r
  · by_cases h2 : r ≤ 1000
    · by_cases h3 : 1 ≤ c
      · by_cases h4 : c ≤ 1000
        · by_cases h5 : 0 ≤ h
          · by_cases h6 : h ≤ 1048576
            · have h7 : ¬ m ≤ 2000 := fun h7 => hn ⟨h1, h2, h3, h4, h5, h6, h7⟩
              clear hn
              go_enter Tryz.func6, Tryz.ntmps6
              go_wp2
              go_ret
              exact ⟨by rw [HV.out]; rfl, hb0⟩
            · clear hn
              go_enter Tryz.func6, Tryz.ntmps6
              go_wp2
              go_ret
              exact ⟨by rw [HV.out]; rfl, hb0⟩
          · clear hn
            go_enter Tryz.func6, Tryz.ntmps6
            go_wp2
            go_ret
            exact ⟨by rw [HV.out]; rfl, hb0⟩
        · clear hn
          go_enter Tryz.func6, Tryz.ntmps6
          go_wp2
          go_ret
          exact ⟨by rw [HV.out]; rfl, hb0⟩
      · clear hn
        go_enter Tryz.func6, Tryz.ntmps6
        go_wp2
        go_ret
        exact ⟨by rw [HV.out]; rfl, hb0⟩
    · clear hn
      go_enter Tryz.func6, Tryz.ntmps6
      go_wp2
      go_ret
      exact ⟨by rw [HV.out]; rfl, hb0⟩
  · clear hn
    go_enter Tryz.func6, Tryz.ntmps6
    go_wp2
    go_ret
    exact ⟨by rw [HV.out]; rfl, hb0⟩
end
end Go.Proofs.YtjohgmnabemakaaGreatDoor

namespace Go.Proofs.YtjohgmnabemakaaGreatDoor
open Go.RowKit Go.Rep
set_option maxRecDepth 100000
section
variable {r c h : Int} {A : Option Addr} {m cp B : Nat} {l : List Ev} {w : World}
set_option maxHeartbeats 8000000 in
theorem lvalid_yes (hr : Reads w B 6 A m (evCells l)) (hB : B ≤ w.heap.size) (hc : cp ≤ maxLen) (hmc : m ≤ cp) (hall : sizeB r c = true ∧ 0 ≤ h ∧ h ≤ 1048576 ∧ m ≤ 2000) :
    Calls Tryz.prog 6 #[.agg #[.int .i64 r, .int .i64 c, .int .i64 h, .slice A m cp]] w (ValidP r c h l w) := by
  have hcm : cp ≤ 9223372036854775807 := hc
  have HL := Lib.hid hr.evs
  have hv := validB_yes hr.evs hall
  have HV := Lib.hid hv
  clear hv
  obtain ⟨a1, a2, a3, a4⟩ := hall
  simp only [sizeB, Bool.and_eq_true, decide_eq_true_eq] at a1
  obtain ⟨⟨⟨b1, b2⟩, b3⟩, b4⟩ := a1
  go_enter Tryz.func6, Tryz.ntmps6
  go_wp2
  go_loopw [4] (fun i wr => ∃ (k : Nat) (last : Int), k ≤ m ∧ i = .int .i64 k ∧ Hid (evsB 0 l = evsB last (l.drop k) ∧ last = prevAt l k) ∧ 0 ≤ last ∧ Blk wr w.heap.size 26 #[.int .i64 r, .int .i64 c, .int .i64 h, .slice A m cp] ∧ Below w.heap.size w wr) (fun i _ => m - (intOf i).toNat)
  case atStart => exact ⟨0, 0, Nat.zero_le _, rfl, Lib.hid ⟨rfl, rfl⟩, Int.le_refl _, (Blk.new w 26 #[.int .i64 r, .int .i64 c, .int .i64 h, .slice A m cp]).alloc _, ((Below.refl _ _).alloc (Nat.le_refl _) _).alloc (by simp) _⟩
  case round =>
    obtain ⟨k, last, hk, rfl, hE, hl0, bB, hbr⟩ := hrel
    have u3 : wr.cell? ⟨w.heap.size, 3, none⟩ = some (.slice A m cp) := bB.cell 3
    by_cases hlt : k < m
    · obtain ⟨ad, e, rfl, he, y0, y1, y2, y3, y4, y5⟩ := ((hr.more hB).below hbr).ev hlt
      have HE := Lib.hid (hE.out.1.trans (evsB_step (last := last) he))
      have HP := Lib.hid (prevAt_succ he)
      have hsz := hbr.size
      clear he
      have bY := Blk.new wr 35 #[.int .i64 e.at', .int .i64 e.o.k, .string e.o.s, .int .i64 e.o.r, .int .i64 e.o.c, .int .i64 e.o.n]
      have bB' := bB.alloc (.cells #[.int .i64 e.at', .int .i64 e.o.k, .string e.o.s, .int .i64 e.o.r, .int .i64 e.o.c, .int .i64 e.o.n] 35)
      have hb' := hbr.alloc hsz (.cells #[.int .i64 e.at', .int .i64 e.o.k, .string e.o.s, .int .i64 e.o.r, .int .i64 e.o.c, .int .i64 e.o.n] 35)
      -- what stands before it
      have hprev : 0 < k → ∃ ad' : Addr, some ad = some ad' ∧ (wr.alloc (.cells #[.int .i64 e.at', .int .i64 e.o.k, .string e.o.s, .int .i64 e.o.r, .int .i64 e.o.c, .int .i64 e.o.n] 35)).cell? (ad'.add ((k - 1) * 6)) = some (.int .i64 last) := fun h0 => by
        obtain ⟨ad', e', h1, he', z0, _⟩ := (((hr.more hB).below hbr).alloc hsz (.cells #[.int .i64 e.at', .int .i64 e.o.k, .string e.o.s, .int .i64 e.o.r, .int .i64 e.o.c, .int .i64 e.o.n] 35)).ev (show k - 1 < m by omega)
        refine ⟨ad', h1, ?_⟩
        have h2 := prevAt_succ he'
        rw [show k - 1 + 1 = k by omega] at h2
        rw [hE.out.2, h2]
        exact z0
      obtain ⟨bad, hbad⟩ : ∃ bad : Bool, bad = !(decide (last ≤ e.at') && decide (e.at' ≤ 1099511627776) && okOp e.o) := ⟨_, rfl⟩
      have HB := Lib.hid hbad
      clear hbad
      have F : ∀ w2, Below (wr.heap.size + 1) (wr.alloc (.cells #[.int .i64 e.at', .int .i64 e.o.k, .string e.o.s, .int .i64 e.o.r, .int .i64 e.o.c, .int .i64 e.o.n] 35)) w2 → Blk w2 w.heap.size 26 #[.int .i64 r, .int .i64 c, .int .i64 h, .slice (some ad) m cp] ∧ Below w.heap.size w w2 := fun w2 hb2 => ⟨bB'.below hb2 (by omega), hb'.trans (hb2.mono (by omega))⟩
      have HF := Lib.hid F
      clear F
      go_upto_region 8 with fail
      go_cut [83] (fun cc wx => cc = .bool bad ∧ Blk wx w.heap.size 26 #[.int .i64 r, .int .i64 c, .int .i64 h, .slice (some ad) m cp] ∧ Below w.heap.size w wx)
      case first =>
        have v0 : (wr.alloc (.cells #[.int .i64 e.at', .int .i64 e.o.k, .string e.o.s, .int .i64 e.o.r, .int .i64 e.o.c, .int .i64 e.o.n] 35)).cell? ⟨wr.heap.size, 0, none⟩ = some (.int .i64 e.at') := bY.cell 0
        have v1 : (wr.alloc (.cells #[.int .i64 e.at', .int .i64 e.o.k, .string e.o.s, .int .i64 e.o.r, .int .i64 e.o.c, .int .i64 e.o.n] 35)).cell? ⟨wr.heap.size, 1, none⟩ = some (.int .i64 e.o.k) := bY.cell 1
        have v2 : (wr.alloc (.cells #[.int .i64 e.at', .int .i64 e.o.k, .string e.o.s, .int .i64 e.o.r, .int .i64 e.o.c, .int .i64 e.o.n] 35)).cell? ⟨wr.heap.size, 2, none⟩ = some (.string e.o.s) := bY.cell 2
        have v3 : (wr.alloc (.cells #[.int .i64 e.at', .int .i64 e.o.k, .string e.o.s, .int .i64 e.o.r, .int .i64 e.o.c, .int .i64 e.o.n] 35)).cell? ⟨wr.heap.size, 3, none⟩ = some (.int .i64 e.o.r) := bY.cell 3
        have v4 : (wr.alloc (.cells #[.int .i64 e.at', .int .i64 e.o.k, .string e.o.s, .int .i64 e.o.r, .int .i64 e.o.c, .int .i64 e.o.n] 35)).cell? ⟨wr.heap.size, 4, none⟩ = some (.int .i64 e.o.c) := bY.cell 4
        have v5 : (wr.alloc (.cells #[.int .i64 e.at', .int .i64 e.o.k, .string e.o.s, .int .i64 e.o.r, .int .i64 e.o.c, .int .i64 e.o.n] 35)).cell? ⟨wr.heap.size, 5, none⟩ = some (.int .i64 e.o.n) := bY.cell 5
        have v6 : (wr.alloc (.cells #[.int .i64 e.at', .int .i64 e.o.k, .string e.o.s, .int .i64 e.o.r, .int .i64 e.o.c, .int .i64 e.o.n] 35)).cell? ⟨w.heap.size, 3, none⟩ = some (.slice (some ad) m cp) := bB'.cell 3
        have v7 : (wr.alloc (.cells #[.int .i64 e.at', .int .i64 e.o.k, .string e.o.s, .int .i64 e.o.r, .int .i64 e.o.c, .int .i64 e.o.n] 35)).heap.size = wr.heap.size + 1 := by simp
        have V7 := Lib.hid v7
        clear v7 bY bB' hb'
        generalize hwy : wr.alloc (.cells #[.int .i64 e.at', .int .i64 e.o.k, .string e.o.s, .int .i64 e.o.r, .int .i64 e.o.c, .int .i64 e.o.n] 35) = wy at hprev HF v0 v1 v2 v3 v4 v5 v6 V7 ⊢
        clear hwy y0 y1 y2 y3 y4 y5 u3
        by_cases g0 : 0 ≤ e.at'
        · have c0 : decide (e.at' < 0) = false := by simpa using g0
          by_cases g2 : e.at' ≤ 1099511627776
          · have c2 : decide (1099511627776 < e.at') = false := by simpa using g2
            by_cases hk0 : k = 0
            · have hl00 : last = 0 := by rw [hE.out.2, hk0]; rfl
              have n2 : ¬ (0 : Int) < (k : Int) := by omega
              clear hk0
              have HB2 : bad = !(okOp e.o) := by rw [HB.out, hl00]; simp [g0, g2]
              have HB3 := Lib.hid HB2
              clear HB2 hl00 hprev
              have n3 : ¬ 0 < k := by omega
              refine wp_region_still_tail 27 (by kernel_rfl) (by kernel_rfl) ?_
              simp only [List.take_succ_cons, List.take_zero, List.drop_succ_cons, List.drop_zero]
              iterate 11 still_step
              clear n2 n3
              repeat (with_reducible refine wpStill_step ?_; intro K hK; have HK := Lib.hid hK; clear hK; go_simp; (with_reducible refine HK.out _ ?_); clear HK K)
              try refine wpStill_nil ?_
              change wpList _ _ _ _ _ wy.drew
              go_wp2_with (go_at_call 18; refine (lallowed_any e.o _).mono ?_; rintro e2 w2 ⟨rfl, hb2⟩)
              go_meet
              exact ⟨congrArg Value.bool HB3.out.symm, HF.out _ ((below_drewN (Below.refl _ _) 1).trans (hb2.mono (by have := V7.out; simp; omega)))⟩
            · obtain ⟨ad', had, zp⟩ := hprev (by omega)
              cases had
              have k1 : (0 : Int) < (k : Int) := by omega
              have k2 : 0 < k := by omega
              have k3 : decide (0 < k) = true := by simp [k2]
              have i1 : (0 : Int) ≤ (k : Int) - 1 := by omega
              have i2 : (k : Int) - 1 < (m : Int) := by omega
              have i3 : IntKind.i64.wrap ((k : Int) - 1) = (k : Int) - 1 := IntWalk.i64_in _ (by omega)
              have i4 : ((k : Int) - 1).toNat = k - 1 := by omega
              have i5 : (1 : Int) ≤ (k : Int) := by omega
              by_cases g1 : last ≤ e.at'
              · have c1 : decide (e.at' < last) = false := by simpa using g1
                have HB2 : bad = !(okOp e.o) := by rw [HB.out]; simp [g1, g2]
                have HB3 := Lib.hid HB2
                clear HB2 hprev
                go_still_tail 27, (by kernel_rfl)
                change wpList _ _ _ _ _ wy.drew
                go_wp2_with (go_at_call 18; refine (lallowed_any e.o _).mono ?_; rintro e2 w2 ⟨rfl, hb2⟩)
                go_meet
                exact ⟨congrArg Value.bool HB3.out.symm, HF.out _ ((below_drewN (Below.refl _ _) 1).trans (hb2.mono (by have := V7.out; simp; omega)))⟩
              · have c1 : decide (e.at' < last) = true := by simp; omega
                have HB2 : bad = true := by rw [HB.out]; simp [g1]
                have HB3 := Lib.hid HB2
                clear HB2 hprev
                go_quiet (fail)
                go_wp2
                go_meet
                exact ⟨congrArg Value.bool HB3.out.symm, HF.out _ (below_drewN (Below.refl _ _) nq)⟩
          · have c2 : decide (1099511627776 < e.at') = true := by simp; omega
            have HB2 : bad = true := by rw [HB.out]; simp [g2]
            have HB3 := Lib.hid HB2
            clear HB2 hprev
            go_quiet (fail)
            go_wp2
            go_meet
            exact ⟨congrArg Value.bool HB3.out.symm, HF.out _ (below_drewN (Below.refl _ _) nq)⟩
        · have c0 : decide (e.at' < 0) = true := by simp; omega
          have HB2 : bad = true := by rw [HB.out]; have : ¬ last ≤ e.at' := by omega
                                      simp [this]
          have HB3 := Lib.hid HB2
          clear HB2 hprev
          go_quiet (fail)
          go_wp2
          go_meet
          exact ⟨congrArg Value.bool HB3.out.symm, HF.out _ (below_drewN (Below.refl _ _) nq)⟩
      case rest =>
        obtain ⟨rfl, bB2, hb2⟩ := hcut
        cases bad with
        | true =>
          have hf : evsB 0 l = false := by
            have hX := Eq.mp (Bool.not_eq_true' _) HB.out.symm
            rw [HE.out, hX]
            rfl
          have HF2 := Lib.hid hf
          clear hf
          go_wp2
          go_ret
          exact ⟨by rw [HV.out, HF2.out]; rfl, hb2⟩
        | false =>
          have hg : (decide (last ≤ e.at') && decide (e.at' ≤ 1099511627776) && okOp e.o) = true :=
             Eq.mp (Bool.not_eq_false' _) HB.out.symm
          have HG := Lib.hid hg
          clear hg
          have hl1 : 0 ≤ e.at' := by
            have := HG.out
            simp only [Bool.and_eq_true, decide_eq_true_eq] at this
            omega
          go_wp2
          go_roundw
          case rel => exact ⟨k + 1, e.at', by omega, by go_num, Lib.hid ⟨by rw [HE.out, HG.out]; rfl, HP.out.symm⟩, hl1, bB2, hb2⟩
          case measure => simp [intOf]; omega
    · obtain rfl : k = m := by omega
      have hE2 : evsB 0 l = true := by
        rw [hE.out.1, List.drop_eq_nil_of_le (by have := HL.out; omega)]
        rfl
      have HE2 := Lib.hid hE2
      clear hE2
      go_wp2
      go_ret
      exact ⟨by rw [HV.out, HE2.out]; rfl, hbr⟩
end
end Go.Proofs.YtjohgmnabemakaaGreatDoor
