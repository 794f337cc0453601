/- A part of the proof of RecordEdits. -/
import Derived.Test.YtjohgmnabemakaaGreatDoorQ2
import Derived.Test.YtjohgmnabemakaaGreatDoorAbsP
import Derived.Deep.Onto
import Derived.Lib.SliceRun
import Derived.Test.YtjohgmnabemakaaGreatDoorP2
import Derived.Deep.RegionLaw
import Derived.IntWalk
namespace Go.Proofs.YtjohgmnabemakaaGreatDoor
open Go.RowKit Go.Rep
set_option maxRecDepth 100000
section
variable {r c h : Int} {A : Option Addr} {m cp B : Nat} {l : List Ev} {w : World}
theorem length_any (hr : Reads w B 6 A m (evCells l)) (hB : B ≤ w.heap.size) (hm : m ≤ 2000) :
    Calls Tryz.prog 16 #[.agg #[.int .i64 r, .int .i64 c, .int .i64 h, .slice A m cp]] w fun e w' => e = .returned (.int .i64 (prevAt l m)) ∧ Below w.heap.size w w' := by
  have hra := hr.alloc hB (.cells #[.int .i64 r, .int .i64 c, .int .i64 h, .slice A m cp] 26)
  have hb0 : Below w.heap.size w (w.alloc (.cells #[.int .i64 r, .int .i64 c, .int .i64 h, .slice A m cp] 26)) := (Below.refl _ _).alloc (Nat.le_refl _) _
  rcases Nat.eq_zero_or_pos m with rfl | h0
  · go_enter Tryz.func16, Tryz.ntmps16
    go_wp2
    go_ret
    exact ⟨rfl, hb0⟩
  · obtain ⟨ad, e, rfl, he, x0, _, _, _, _, _⟩ := hra.ev (show m - 1 < m by omega)
    have hp := prevAt_succ he
    rw [show m - 1 + 1 = m by omega] at hp
    have HP := Lib.hid hp
    clear hp he
    go_enter Tryz.func16, Tryz.ntmps16
    go_wp2
    go_ret
    exact ⟨by rw [HP.out]; rfl, hb0⟩
theorem clone_any (hr : Reads w B 6 A m (evCells l)) (hB : B ≤ w.heap.size) (hm : m ≤ 2000) :
    Calls Tryz.prog 40 #[.slice A m cp] w fun e w' => ∃ v, e = .returned v ∧ w'.ownsRow w.heap.size 35 6 v m (evCells l) ∧ Below w.heap.size w w' := by
  obtain ⟨i0, hi, hz0, hz1, hz2⟩ := info_parts ev_info
  cases A with
  | none =>
    have h0 : m = 0 := by
      rcases Nat.eq_zero_or_pos m with h | h
      · exact h
      · obtain ⟨ad, h2, _⟩ := hr.2 h; cases h2
    subst h0
    have hq := Lib.run_eql_slice_nil (P := Tryz.prog) w 24 35 none 0 cp 0 0 Tryz.underlying24
    have hl : evCells l = [] := List.eq_nil_of_length_eq_zero (by simpa using hr.1)
    have HL := Lib.hid hl
    clear hl
    go_enter Tryz.func40, Tryz.ntmps40
    go_wp2
    go_ret
    exact ⟨_, rfl, by rw [HL.out]; exact World.ownsRow_nil _ _ _ _, Below.refl _ _⟩
  | some ad =>
    have hq := Lib.run_eql_slice_nil (P := Tryz.prog) w 24 35 (some ad) m cp 0 0 Tryz.underlying24
    have h63 : 0 + m ≤ maxLen := by unfold maxLen; omega
    go_enter Tryz.func40, Tryz.ntmps40
    go_wp2_with (at_builtin; refine wpList_append_any _ rfl (.tmp 5) (.tmp 6) 24 rfl w.heap.size 35 i0 (.agg zero6) 6 56 Tryz.underlying24 hi hz0 hz1 hz2 rfl (by decide) _ 0 [] rfl (World.ownsRow_lit (base := w.heap.size) w #[] 0 (Nat.le_refl _) (Nat.zero_le _) rfl) B (some ad) m cp (evCells l) rfl (hr.alloc hB _) (by intro u hu; simp only [evCells, List.mem_flatMap] at hu; obtain ⟨e, _, he⟩ := hu; exact ev_cell e u he) h63 (by omega) (by simp) ?_; intro v7 w7 hown7 hg7 _)
    go_ret
    have hbel : Below w.heap.size w w7 := by
      refine ((Below.refl _ _).alloc (Nat.le_refl _) _).grown hg7 (by simp) (fun j q => ?_)
      have : w.heap.size = j := Option.some.inj q
      omega
    refine ⟨_, rfl, ?_, hbel⟩
    rw [Nat.zero_add] at hown7
    exact hown7
end
end Go.Proofs.YtjohgmnabemakaaGreatDoor

namespace Go.Proofs.YtjohgmnabemakaaGreatDoor
open Go.RowKit Go.Rep
set_option maxRecDepth 100000
theorem wrapped {q p t : Int} (h0 : 0 ≤ q) (h1 : q ≤ 1099511627776) (p1 : 1 ≤ p) (p2 : p ≤ 1000) (t1 : 1 ≤ t) :
    wrap64 (q * p) = q * p ∧ (q * p).tdiv t = q * p / t ∧ wrap64 (q * p / t) = q * p / t ∧ 0 ≤ q * p / t := by
  have a0 : 0 ≤ q * p := Int.mul_nonneg h0 (by omega)
  have a1 : q * p ≤ 1099511627776 * 1000 := Int.mul_le_mul h1 p2 (by omega) (by omega)
  have a2 : 0 ≤ q * p / t := Int.ediv_nonneg a0 (by omega)
  have a3 : q * p / t ≤ q * p := Int.ediv_le_self _ a0
  exact ⟨IntWalk.wrap64_in _ (by omega), Int.tdiv_eq_ediv_of_nonneg a0, IntWalk.wrap64_in _ (by omega), a2⟩
section
variable {r c h t p : Int} {A : Option Addr} {m cp B : Nat} {l : List Ev} {w : World}
def SpeedP (r c h t p : Int) (l : List Ev) (w : World) (e : Ending) (w' : World) : Prop := ∃ v, e = .returned (.tuple #[.agg #[.int .i64 r, .int .i64 c, .int .i64 h, v], .int .i64 0]) ∧ w'.ownsRow w.heap.size 35 6 v l.length (evCells (speedL t p l)) ∧ Below w.heap.size w w'
set_option maxHeartbeats 8000000 in
theorem speed_yes (hr : Reads w B 6 A m (evCells l)) (hB : B ≤ w.heap.size) (hc : cp ≤ maxLen) (hmc : m ≤ cp) (hm2 : m ≤ 2000) (hv : validB r c h l = true) (ht1 : 1 ≤ t) (ht2 : t ≤ 1000) (hp1 : 1 ≤ p) (hp2 : p ≤ 1000) (hl : prevAt l m * p / t ≤ 1099511627776) :
    Calls Tryz.prog 21 #[.agg #[.int .i64 r, .int .i64 c, .int .i64 h, .slice A m cp], .int .i64 t, .int .i64 p] w (SpeedP r c h t p l w) := by
  have HV := Lib.hid hv
  have HL := Lib.hid hr.evs
  have hat : ∀ e ∈ l, 0 ≤ e.at' ∧ e.at' ≤ 1099511627776 := evsB_at (last := 0) (by unfold validB at hv; simp only [Bool.and_eq_true] at hv; exact hv.2)
  have hq0 : 0 ≤ prevAt l m ∧ prevAt l m ≤ 1099511627776 := by
    cases m with
    | zero => exact ⟨Int.le_refl _, by simp [prevAt]⟩
    | succ k =>
      have hk : k < l.length := by rw [hr.evs]; omega
      rw [prevAt_succ (List.getElem?_eq_getElem hk)]
      exact hat _ (List.getElem_mem hk)
  obtain ⟨hq1, hq2⟩ := hq0
  obtain ⟨w1_, w2_, w3_, w4_⟩ := wrapped hq1 hq2 hp1 hp2 ht1
  have HAT := Lib.hid hat
  clear hat hv
  go_enter Tryz.func21, Tryz.ntmps21
  go_wp2_with (first
    | (go_at_call 23; refine (valid_any ((hr.alloc hB _).alloc (by simp; omega) _) (by simp; omega) hc hmc).mono ?_; rintro e w1 ⟨rfl, hb1⟩; rw [HV.out]; have b1 := ((Blk.new w 26 #[.int .i64 r, .int .i64 c, .int .i64 h, .slice A m cp]).alloc (.cells zeroRec 26)).below hb1 (by simp; omega); have b2 : Blk w1 (w.heap.size + 1) 26 zeroRec := (congrArg (fun n => Blk w1 n 26 zeroRec) (show (w.alloc (.cells #[.int .i64 r, .int .i64 c, .int .i64 h, .slice A m cp] 26)).heap.size = w.heap.size + 1 by simp)).mp ((Blk.new (w.alloc (.cells #[.int .i64 r, .int .i64 c, .int .i64 h, .slice A m cp] 26)) 26 zeroRec).below hb1 (by simp)); have hr1 := ((hr.alloc hB (.cells #[.int .i64 r, .int .i64 c, .int .i64 h, .slice A m cp] 26)).alloc (by simp; omega) (.cells zeroRec 26)).below (hb1.mono (by simp; omega)); have hbw1 : Below w.heap.size w w1 := (((Below.refl w.heap.size w).alloc (Nat.le_refl _) _).alloc (by simp) _).trans (hb1.mono (by simp; omega)); have hs1 : w.heap.size + 2 ≤ w1.heap.size := (by have := hb1.size; simp at this; omega); have q0 : w1.cell? ⟨w.heap.size, 0, none⟩ = some (.int .i64 r) := b1.cell 0; have q1 : w1.cell? ⟨w.heap.size, 1, none⟩ = some (.int .i64 c) := b1.cell 1; have q2 : w1.cell? ⟨w.heap.size, 2, none⟩ = some (.int .i64 h) := b1.cell 2; have q3 : w1.cell? ⟨w.heap.size, 3, none⟩ = some (.slice A m cp) := b1.cell 3)
    | (go_at_call 16; refine (length_any hr1 (by omega) hm2).mono ?_; rintro e w2 ⟨rfl, hb2⟩; have b1' := b1.below hb2 (by omega); have b2' := b2.below hb2 (by omega); have hr2 := hr1.below (hb2.mono (by omega)); have hbw2 := hbw1.trans (hb2.mono hbw1.size); have hs2 := hb2.size))
  have u0 : w2.cell? ⟨w.heap.size, 0, none⟩ = some (.int .i64 r) := b1'.cell 0
  have u1 : w2.cell? ⟨w.heap.size, 1, none⟩ = some (.int .i64 c) := b1'.cell 1
  have u2_ : w2.cell? ⟨w.heap.size, 2, none⟩ = some (.int .i64 h) := b1'.cell 2
  have u3_ : w2.cell? ⟨w.heap.size, 3, none⟩ = some (.slice A m cp) := b1'.cell 3
  go_cut [8] (fun s8 wx => ∃ (g : Nat) (v : Value), s8 = .pointer (some ⟨g, 0, none⟩) ∧ w.heap.size + 2 ≤ g ∧ Blk wx g 26 #[.int .i64 r, .int .i64 c, .int .i64 h, v] ∧ Blk wx (w.heap.size + 1) 26 zeroRec ∧ wx.ownsRow (w.heap.size + 2) 35 6 v m (evCells l) ∧ Below w.heap.size w wx)
  case first =>
    have f0 : (w2.alloc (.cells zeroRec 26)).cell? ⟨w.heap.size, 0, none⟩ = some (.int .i64 r) := (b1'.alloc _).cell 0
    have f1 : (w2.alloc (.cells zeroRec 26)).cell? ⟨w.heap.size, 1, none⟩ = some (.int .i64 c) := (b1'.alloc _).cell 1
    have f2 : (w2.alloc (.cells zeroRec 26)).cell? ⟨w.heap.size, 2, none⟩ = some (.int .i64 h) := (b1'.alloc _).cell 2
    have f3 : (w2.alloc (.cells zeroRec 26)).cell? ⟨w.heap.size, 3, none⟩ = some (.slice A m cp) := (b1'.alloc _).cell 3
    go_region_law (first
      | (go_simp; go_at_call 40; refine (clone_any (w := w2.drew) (hr2.drewN 1) (by show B ≤ w2.heap.size; omega) hm2).mono ?_; rintro e w3 ⟨v3, rfl, hown3, hb3⟩; obtain ⟨A3, c3, rfl, _, _, _⟩ := own_slice hown3; have hb3' : Below w2.heap.size w2 w3 := (below_drewN (Below.refl _ _) 1).trans hb3; have c1 := b1'.below hb3' (by omega); have c2 := b2'.below hb3' (by omega); have d0 : (w3.alloc (.cells zeroRec 26)).cell? ⟨w.heap.size, 0, none⟩ = some (.int .i64 r) := (c1.alloc _).cell 0; have d1 : (w3.alloc (.cells zeroRec 26)).cell? ⟨w.heap.size, 1, none⟩ = some (.int .i64 c) := (c1.alloc _).cell 1; have d2 : (w3.alloc (.cells zeroRec 26)).cell? ⟨w.heap.size, 2, none⟩ = some (.int .i64 h) := (c1.alloc _).cell 2; have k0 : w3.cell? ⟨w.heap.size, 0, none⟩ = some (.int .i64 r) := c1.cell 0; have k1 : w3.cell? ⟨w.heap.size, 1, none⟩ = some (.int .i64 c) := c1.cell 1; have k2 : w3.cell? ⟨w.heap.size, 2, none⟩ = some (.int .i64 h) := c1.cell 2; have hs3 := hb3'.size)
      | (go_simp; go_at_call 40; refine (clone_any (w := (w2.alloc (.cells zeroRec 26)).drew) ((hr2.alloc (by show B ≤ w2.heap.size; omega) (.cells zeroRec 26)).drewN 1) (by show B ≤ (w2.alloc (.cells zeroRec 26)).heap.size; simp; omega) hm2).mono ?_; rintro e w3 ⟨v3, rfl, hown3, hb3⟩; obtain ⟨A3, c3, rfl, _, _, _⟩ := own_slice hown3; have hb3a : Below (w2.alloc (.cells zeroRec 26)).heap.size (w2.alloc (.cells zeroRec 26)) w3 := (below_drewN (Below.refl _ _) 1).trans hb3; have hb3' : Below w2.heap.size w2 w3 := ((Below.refl _ _).alloc (Nat.le_refl _) _).trans (hb3a.mono (by simp)); have c1 := b1'.below hb3' (by omega); have c2 := b2'.below hb3' (by omega); have c4 := (Blk.new w2 26 zeroRec).below hb3a (by simp); have z0 : w3.cell? ⟨w2.heap.size, 0, none⟩ = some (.int .i64 0) := c4.cell 0; have z1 : w3.cell? ⟨w2.heap.size, 1, none⟩ = some (.int .i64 0) := c4.cell 1; have z2 : w3.cell? ⟨w2.heap.size, 2, none⟩ = some (.int .i64 0) := c4.cell 2; have z3 : w3.cell? ⟨w2.heap.size, 3, none⟩ = some (.slice none 0 0) := c4.cell 3; have y0 := c4.frozen 0; have y1 := c4.frozen 1; have y2 := c4.frozen 2; have y3 := c4.frozen 3; have k0 : w3.cell? ⟨w.heap.size, 0, none⟩ = some (.int .i64 r) := c1.cell 0; have k1 : w3.cell? ⟨w.heap.size, 1, none⟩ = some (.int .i64 c) := c1.cell 1; have k2 : w3.cell? ⟨w.heap.size, 2, none⟩ = some (.int .i64 h) := c1.cell 2; have hs3 := hb3'.size))
    all_goals
      go_wp2_with fail
      go_meet
      first
        | (have hc4 := c4.lt
           have hne : w.heap.size + 1 ≠ w2.heap.size := by omega
           have hle : w.heap.size ≤ w2.heap.size := by omega
           have hX : w2.heap.size < (w2.alloc (.cells zeroRec 26)).drew.heap.size := by show w2.heap.size < (w2.alloc (.cells zeroRec 26)).heap.size; simp
           exact ⟨w2.heap.size, .slice A3 m c3, rfl, by omega, (((c4.set_ 0 (.int .i64 r)).set_ 1 (.int .i64 c)).set_ 2 (.int .i64 h)).set_ 3 (.slice A3 m c3), (((c2.far (p := ⟨w2.heap.size, 0, none⟩) hne _).far (p := ⟨w2.heap.size, 1, none⟩) hne _).far (p := ⟨w2.heap.size, 2, none⟩) hne _).far (p := ⟨w2.heap.size, 3, none⟩) hne _,
             World.ownsRow.mono (own_far (own_far (own_far (own_far hown3 hX) hX) hX) hX) (by omega), ((((hbw2.trans (hb3'.mono (by omega))).setCell (p := ⟨w2.heap.size, 0, none⟩) hle _).setCell (p := ⟨w2.heap.size, 1, none⟩) hle _).setCell (p := ⟨w2.heap.size, 2, none⟩) hle _).setCell (p := ⟨w2.heap.size, 3, none⟩) hle _⟩)
        | exact ⟨w3.heap.size, .slice A3 m c3, rfl, by omega, Blk.new w3 26 _, c2.alloc _, (World.ownsRow.mono hown3 (by show w.heap.size + 2 ≤ w2.heap.size; omega)).alloc _, (hbw2.trans (hb3'.mono (by omega))).alloc (by omega) _⟩
  case rest =>
    obtain ⟨g, v, rfl, hg, bX, bZ, hown, hbr⟩ := hcut
    obtain ⟨A3, c3, rfl, _, _, _⟩ := own_slice hown
    have x3 : wc.cell? ⟨g, 3, none⟩ = some (.slice A3 m c3) := bX.cell 3
    clear u0 u1 u2_ u3_ q0 q1 q2 q3
    go_wp2
    go_loopw [47] (fun i wr => ∃ (k : Nat), k ≤ m ∧ i = .int .i64 k ∧ Blk wr g 26 #[.int .i64 r, .int .i64 c, .int .i64 h, .slice A3 m c3] ∧ Blk wr (w.heap.size + 1) 26 zeroRec ∧ wr.ownsRow (w.heap.size + 2) 35 6 (.slice A3 m c3) m (evCells (speedTo t p l k)) ∧ Below w.heap.size w wr) (fun i _ => m - (intOf i).toNat)
    case atStart => exact ⟨0, Nat.zero_le _, rfl, bX, bZ, hown, hbr⟩
    case round =>
      clear x3 bX bZ hown hbr
      obtain ⟨k, hk, rfl, bX, bZ, hown, hbr⟩ := hrel
      have x3 : wr.cell? ⟨g, 3, none⟩ = some (.slice A3 m c3) := bX.cell 3
      have hneX := own_blk_ne hown bX (by decide)
      have hneZ := own_blk_ne hown bZ (by decide)
      by_cases hlt : k < m
      · obtain ⟨g2, c4, heq, hgB, _⟩ := World.ownsRow.form hown (by omega)
        cases heq
        have he : l[k]? = some (l[k]'(by have := HL.out; omega)) := List.getElem?_eq_getElem _
        obtain ⟨e, hee⟩ : ∃ e, e = l[k]'(by have := HL.out; omega) := ⟨_, rfl⟩
        rw [← hee] at he
        have hE := HAT.out e (List.mem_of_getElem? he)
        obtain ⟨e1, e2⟩ := hE
        obtain ⟨v1_, v2_, v3_, v4_⟩ := wrapped e1 e2 hp1 hp2 ht1
        have e0 : wr.cell? ⟨g2, k * 6, none⟩ = some (.int .i64 e.at') := by
          rw [hown.cellAt (k * 6) (by omega)]
          exact (evCells_at _ k 0 (by rw [speedTo_length (by have := HL.out; omega)]; have := HL.out; omega) (by decide)).trans (by
            have := speedTo_at (t := t) (p := p) he
            rw [(List.getElem?_eq_some_iff.1 this).2]
            rfl)
        have n1_ : IntKind.i64.wrap (e.at' * p) = e.at' * p := (IntWalk.i64_left _).trans v1_
        have n2_ : IntKind.i64.wrap (e.at' * p / t) = e.at' * p / t := (IntWalk.i64_left _).trans v3_
        have n3_ : ¬ t = 0 := by omega
        have i2 : (k : Int) < (m : Int) := by omega
        have ef := hown.frozenAt (k * 6)
        have HS := Lib.hid (speedTo_set (t := t) (p := p) he)
        have HST := Lib.hid (hown.stored (k * 6) (.int .i64 (e.at' * p / t))).1
        clear he hee
        go_wp2
        go_still_tail 13, (by kernel_rfl)
        change wpList _ _ _ _ _ wr.drew
        go_wp2
        go_roundw
        case rel =>
          refine ⟨k + 1, by omega, by go_num, (bX.drew).far (p := ⟨g2, k * 6, none⟩) (fun q => hneX (by rw [q]; rfl)) _, (bZ.drew).far (p := ⟨g2, k * 6, none⟩) (fun q => hneZ (by rw [q]; rfl)) _, ?_, (hbr.drew).setCell (p := ⟨g2, k * 6, none⟩) (by show w.heap.size ≤ g2; omega) _⟩
          have h9 := HST.out
          rw [HS.out] at h9
          exact h9
        case measure => simp [intOf]; omega
      · obtain rfl : k = m := by omega
        have x0 : wr.cell? ⟨g, 0, none⟩ = some (.int .i64 r) := bX.cell 0
        have x1 : wr.cell? ⟨g, 1, none⟩ = some (.int .i64 c) := bX.cell 1
        have x2 : wr.cell? ⟨g, 2, none⟩ = some (.int .i64 h) := bX.cell 2
        have p0 : wr.cell? ⟨w.heap.size + 1, 0, none⟩ = some (.int .i64 0) := bZ.cell 0
        have p1 : wr.cell? ⟨w.heap.size + 1, 1, none⟩ = some (.int .i64 0) := bZ.cell 1
        have p2 : wr.cell? ⟨w.heap.size + 1, 2, none⟩ = some (.int .i64 0) := bZ.cell 2
        have p3 : wr.cell? ⟨w.heap.size + 1, 3, none⟩ = some (.slice none 0 0) := bZ.cell 3
        have f0 := bZ.frozen 0
        have f1 := bZ.frozen 1
        have f2 := bZ.frozen 2
        have f3 := bZ.frozen 3
        go_wp2
        have hle : w.heap.size ≤ w.heap.size + 1 := by omega
        have b3 := (((bZ.set_ 0 (.int .i64 r)).set_ 1 (.int .i64 c)).set_ 2 (.int .i64 h)).set_ 3 (.slice A3 k c3)
        have hfa : w.heap.size + 1 < w.heap.size + 2 := by omega
        refine bodyPost_ret (res_rec rfl (b3.cell 0) (b3.cell 1) (b3.cell 2) (b3.cell 3) rfl rfl) rfl ?_
        have hj : speedTo t p l k = speedL t p l := by rw [← HL.out]; exact speedTo_all
        refine ⟨_, rfl, ?_, (((hbr.setCell hle _).setCell hle _).setCell hle _).setCell hle _⟩
        rw [← hj, HL.out]
        exact World.ownsRow.mono (own_far (own_far (own_far (own_far hown hfa) hfa) hfa) hfa) (by omega)
end
end Go.Proofs.YtjohgmnabemakaaGreatDoor
