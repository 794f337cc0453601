/- A part of the proof of ChunksMany. -/
import Derived.Test.YtdjbjcnkboggjaaGreatDoorProg
import Derived.Test.YtdjbjcnkboggjaaGreatDoorAbsP
import Derived.WalkKit
import Derived.Deep.DeepCutAuto
import Derived.BigFrame
import Derived.IntWalk
import Derived.LoopTactic
import Derived.Lib.Hide
import Derived.Deep.Light
import Derived.Lib.SliceRun
import Derived.Deep.Onto
import Derived.RangeFuncNested
import Derived.RangeFuncBound
import Derived.RangeFuncCalls
import Derived.RangeFuncLeaves
import Derived.Shelf.Abstract
import Derived.Shelf.RegionOpen
import Derived.OwnWalkIn
import Derived.TacticsInMore
import Derived.LoopNIn
import Derived.LoopIn
import Derived.Sort.QuietTacIn
import Derived.Sort.CutIn
namespace Go.Rep
/-- May lengths be used? -/
def fineL (l : List UInt8) : Bool := l.isEmpty || l.any (fun x => decide (0 < x.toNat))
end Go.Rep
namespace Go.Proofs.YtdjbjcnkboggjaaGreatDoor
open Go.RowKit Go.Rep
set_option maxRecDepth 100000
section
variable {A : Option Addr} {m cp B : Nat} {l : List UInt8} {w : World}
theorem any_false {l : List UInt8} {k : Nat} (hk : k < l.length) (h : ∀ j, j < k → byteAt l j = 0) (h0 : byteAt l k = 0) : ∀ j, j < k + 1 → byteAt l j = 0 := fun j hj => by
  rcases Nat.lt_or_ge j k with h1 | h1
  · exact h j h1
  · obtain rfl : j = k := by omega
    exact h0
theorem fineL_at {l : List UInt8} {k : Nat} (hk : k < l.length) (h0 : 0 < byteAt l k) : fineL l = true := by
  unfold fineL
  have : l.any (fun x => decide (0 < x.toNat)) = true := by
    rw [List.any_eq_true]
    refine ⟨l[k], List.getElem_mem hk, ?_⟩
    unfold byteAt at h0
    rw [List.getD_eq_getElem?_getD, List.getElem?_eq_getElem hk] at h0
    simpa using h0
  rw [this, Bool.or_true]
theorem fineL_none {l : List UInt8} (h : ∀ j, j < l.length → byteAt l j = 0) : fineL l = l.isEmpty := by
  unfold fineL
  have : l.any (fun x => decide (0 < x.toNat)) = false := by
    rw [List.any_eq_false]
    intro x hx
    obtain ⟨k, hk, rfl⟩ := List.getElem_of_mem hx
    have := h k hk
    unfold byteAt at this
    rw [List.getD_eq_getElem?_getD, List.getElem?_eq_getElem hk] at this
    simp at this
    simp [this]
  rw [this, Bool.or_false]
theorem fine_any (hr : Reads w B 1 A m (bcells l)) (hm : m ≤ 1000000) : Calls Tryz.prog 8 #[.slice A m cp] w fun e w' => e = .returned (.bool (fineL l)) ∧ w' = w := by
  have HL := Lib.hid hr.bytes
  go_enter Tryz.func8, Tryz.ntmps8
  go_wp2
  go_loopw [3] (fun i wr => ∃ k : Nat, k ≤ m ∧ i = .int .i64 k ∧ wr = w ∧ Hid (∀ j, j < k → byteAt l j = 0)) (fun i _ => m - (intOf i).toNat)
  case atStart => exact ⟨0, Nat.zero_le _, rfl, rfl, Lib.hid (fun j h => by omega)⟩
  case round =>
    obtain ⟨k, hk, rfl, rfl, hz⟩ := hrel
    by_cases hlt : k < m
    · obtain ⟨ad, rfl, hb, hc⟩ := hr.byte hlt
      have hlt' : (k : Int) < m := by omega
      by_cases h0 : 0 < byteAt l k
      · have hf := Lib.hid (fineL_at (by rw [HL.out]; exact hlt) h0)
        have h0' : (0 : Int) < (byteAt l k : Int) := by omega
        go_wp2
        go_ret
        exact ⟨by rw [hf.out]; rfl, rfl⟩
      · have h1 : byteAt l k = 0 := by omega
        rw [h1] at hc
        have H1 := Lib.hid h1
        clear h1 h0
        go_wp2
        go_roundw
        case rel => exact ⟨k + 1, by omega, by go_num, trivial, Lib.hid (any_false (by rw [HL.out]; exact hlt) hz.out H1.out)⟩
        case measure => simp [intOf]; omega
    · obtain rfl : k = m := by omega
      have hf : fineL l = (k == 0) := by
        rw [fineL_none (fun j hj => hz.out j (by rw [HL.out] at hj; exact hj))]
        have := HL.out
        cases l with
        | nil => simp at this; simp [← this]
        | cons a t => simp at this; simp [← this]
      have HF := Lib.hid hf
      clear hf
      rcases Nat.eq_zero_or_pos k with h0 | h0
      · subst h0
        go_wp2
        go_ret
        exact ⟨by rw [HF.out]; rfl, rfl⟩
      · have h1 : ((k : Int) == 0) = false := by simp; omega
        go_wp2
        go_ret
        have h2 : (k == 0) = false := by simp; omega
        exact ⟨by rw [HF.out, h2]; rfl, rfl⟩
end
end Go.Proofs.YtdjbjcnkboggjaaGreatDoor

namespace Go.Rep
def maxTo (l : List UInt8) : Nat → Nat
  | 0 => 0
  | k + 1 => max (maxTo l k) (byteAt l k)
theorem maxTo_zero {l : List UInt8} : ∀ k, maxTo l k = 0 ↔ ∀ j, j < k → byteAt l j = 0 := by
  intro k
  induction k with
  | zero => simp [maxTo]
  | succ k ih =>
    unfold maxTo
    constructor
    · intro h j hj
      have h1 : maxTo l k = 0 := by omega
      rcases Nat.lt_or_ge j k with h2 | h2
      · exact ih.1 h1 j h2
      · obtain rfl : j = k := by omega
        omega
    · intro h
      have h1 := ih.2 (fun j hj => h j (by omega))
      have h2 := h k (by omega)
      omega
theorem maxTo_lt {l : List UInt8} : ∀ k, maxTo l k < 256 := by
  intro k
  induction k with
  | zero => simp [maxTo]
  | succ k ih =>
    have := byteAt_lt l k
    unfold maxTo
    omega
end Go.Rep
namespace Go.Proofs.YtdjbjcnkboggjaaGreatDoor
open Go.RowKit Go.Rep
set_option maxRecDepth 100000
theorem fineL_max {l : List UInt8} (h : 0 < l.length) : fineL l = !(maxTo l l.length == 0) := by
  by_cases hz : maxTo l l.length = 0
  · rw [fineL_none ((maxTo_zero _).1 hz), hz]
    cases l with
    | nil => simp at h
    | cons a t => rfl
  · have : ∃ j, j < l.length ∧ 0 < byteAt l j := by
      rcases Classical.em (∃ j, j < l.length ∧ 0 < byteAt l j) with h1 | h1
      · exact h1
      · exact absurd ((maxTo_zero _).2 (fun j hj => Nat.eq_zero_of_not_pos fun h2 => h1 ⟨j, hj, h2⟩)) hz
    obtain ⟨j, h1, h2⟩ := this
    rw [fineL_at h1 h2]
    simp [hz]
section
variable {A : Option Addr} {m cp B : Nat} {l : List UInt8} {w : World}
theorem max_any (hr : Reads w B 1 A m (bcells l)) (hm : m ≤ 1000000) (h0 : 0 < m) : Calls Tryz.prog 16 #[.slice A m cp] w fun e w' => e = .returned (.int .u8 (maxTo l m : Int)) ∧ w' = w := by
  have HL := Lib.hid hr.bytes
  obtain ⟨ad, rfl, hb, hc⟩ := hr.byte h0
  have hc0 : w.cell? ad = some (.int .u8 (byteAt l 0 : Int)) := by simpa [Addr.add] using hc
  have h1 : ¬ ((m : Int) < 1) := by omega
  go_enter Tryz.func16, Tryz.ntmps16
  go_wp2
  go_loopw [3, 4] (fun v i wr => ∃ k : Nat, 1 ≤ k ∧ k ≤ m ∧ i = .int .i64 k ∧ v = .int .u8 (maxTo l k : Int) ∧ wr = w) (fun _ i _ => m - (intOf i).toNat)
  case atStart =>
    refine ⟨1, by omega, by omega, rfl, ?_, rfl⟩
    simp [maxTo]
  case round =>
    obtain ⟨k, hk1, hk, rfl, rfl, rfl⟩ := hrel
    by_cases hlt : k < m
    · clear hc hc0
      obtain ⟨ad', had, hb', hc⟩ := hr.byte hlt
      cases had
      have hlt' : (k : Int) < m := by omega
      go_wp2
      go_roundw
      case rel =>
        refine ⟨k + 1, by omega, by omega, by go_num, ?_, trivial⟩
        show _ = Value.int .u8 ((max (maxTo l k) (byteAt l k) : Nat) : Int)
        congr 1
        split <;> omega
      case measure => simp [intOf]; omega
    · obtain rfl : k = m := by omega
      go_wp2
      go_ret
      exact ⟨rfl, rfl⟩
end
end Go.Proofs.YtdjbjcnkboggjaaGreatDoor

namespace Go.Proofs.YtdjbjcnkboggjaaGreatDoor
open Go.RowKit Go.Rep
set_option maxRecDepth 100000
theorem u8_info : (Tryz.prog.info? 5).map (fun i => (i.zero, i.size, i.bytes)) = some (some (.int .u8 0), 1, 1) := by kernel_rfl
theorem bcell_one (l : List UInt8) : ∀ u ∈ bcells l, u.oneCell' = true := by
  intro u hu
  obtain ⟨x, _, rfl⟩ := List.mem_map.1 hu
  rfl
section
variable {A : Option Addr} {m cp B : Nat} {l : List UInt8} {w : World}
theorem clone_bytes (hr : Reads w B 1 A m (bcells l)) (hB : B ≤ w.heap.size) (hm : m ≤ 1000000) :
    Calls Tryz.prog 18 #[.slice A m cp] w fun e w' => ∃ v, e = .returned v ∧ w'.ownsRow w.heap.size 5 1 v m (bcells l) ∧ Below w.heap.size w w' := by
  obtain ⟨i0, hi, hz0, hz1, hz2⟩ := info_parts u8_info
  cases A with
  | none =>
    have h0 : m = 0 := by
      rcases Nat.eq_zero_or_pos m with h | h
      · exact h
      · obtain ⟨ad, h2, _⟩ := hr.2 h; cases h2
    subst h0
    have hq := Lib.run_eql_slice_nil (P := Tryz.prog) w 22 5 none 0 cp 0 0 Tryz.underlying22
    have hl : bcells l = [] := List.eq_nil_of_length_eq_zero (by simpa using hr.1)
    have HL := Lib.hid hl
    clear hl
    go_enter Tryz.func18, Tryz.ntmps18
    go_wp2
    go_ret
    exact ⟨_, rfl, by rw [HL.out]; exact World.ownsRow_nil _ _ _ _, Below.refl _ _⟩
  | some ad =>
    have hq := Lib.run_eql_slice_nil (P := Tryz.prog) w 22 5 (some ad) m cp 0 0 Tryz.underlying22
    have h63 : 0 + m ≤ maxLen := by unfold maxLen; omega
    go_enter Tryz.func18, Tryz.ntmps18
    go_wp2_with (at_builtin; refine wpList_append_any _ rfl (.tmp 5) (.tmp 6) 22 rfl w.heap.size 5 i0 (.int .u8 0) 1 1 Tryz.underlying22 hi hz0 hz1 hz2 rfl (by decide) _ 0 [] rfl (World.ownsRow_lit (base := w.heap.size) w #[] 0 (Nat.le_refl _) (Nat.zero_le _) rfl) B (some ad) m cp (bcells l) rfl (hr.alloc hB _) (bcell_one l) h63 (by omega) (by simp) ?_; intro v7 w7 hown7 hg7 _)
    go_ret
    have hbel : Below w.heap.size w w7 := by
      refine ((Below.refl _ _).alloc (Nat.le_refl _) _).grown hg7 (by simp) (fun j q => ?_)
      have : w.heap.size = j := Option.some.inj q
      omega
    refine ⟨_, rfl, ?_, hbel⟩
    rw [Nat.zero_add] at hown7
    exact hown7
end
end Go.Proofs.YtdjbjcnkboggjaaGreatDoor

namespace Go.Proofs.YtdjbjcnkboggjaaGreatDoor
open Go.RowKit Go.Rep Go.Shelf
attribute [local go_sem] Oper.semAt_some
set_option maxRecDepth 100000
/-- What a round keeps: what lay below N, and one block beside. -/
def KpB (N Bc : Nat) (W W' : World) : Prop := Below N W W' ∧ W'.heap[Bc]? = W.heap[Bc]?
theorem below_drewN {B : Nat} {a w : World} (h : Below B a w) (k : Nat) : Below B a (w.drewN k) := ⟨h.os, h.tape, h.output, h.size, h.block⟩
theorem KpB.refl (N Bc : Nat) (W : World) : KpB N Bc W W := ⟨Below.refl _ _, rfl⟩
theorem KpB.trans {N Bc : Nat} {A B C : World} (h : KpB N Bc A B) (k : KpB N Bc B C) : KpB N Bc A C := ⟨h.1.trans k.1, k.2.trans h.2⟩
theorem KpB.cellc {N Bc : Nat} {W W' : World} (h : KpB N Bc W W') (i : Nat) : W'.cell? ⟨Bc, i, none⟩ = W.cell? ⟨Bc, i, none⟩ := World.cell?_of_block h.2
/-- What piece i is handed on as. -/
def pieceEnc (ls : List UInt8) (N cp : Nat) (A : Option Addr) (i : Nat) : Array Value := #[.int .i64 (i : Int), .slice (adrOf ls N cp A i) (stepN ls N i (atOf ls N i)) (cp - atOf ls N i)]
def countTo (ls : List UInt8) (N k : Nat) : Prop := ∀ j, j < k → moreB ls N j = true
theorem fineL_some {ls : List UInt8} (h : fineL ls = true) (h0 : 0 < ls.length) : ∃ j, j < ls.length ∧ 0 < byteAt ls j := by
  rcases Classical.em (∃ j, j < ls.length ∧ 0 < byteAt ls j) with h1 | h1
  · exact h1
  · have h2 := fineL_none (l := ls) (fun j hj => Nat.eq_zero_of_not_pos fun h2 => h1 ⟨j, hj, h2⟩)
    rw [h] at h2
    cases ls with
    | nil => simp at h0
    | cons a t => simp at h2
theorem count_lt {ls : List UInt8} {N k : Nat} (h : fineL ls = true) (hm : moreB ls N k = true) : k < boundN ls N := by
  unfold boundN
  unfold moreB at hm
  simp only [Bool.or_eq_true, beq_iff_eq, decide_eq_true_eq] at hm
  rcases Nat.eq_zero_or_pos ls.length with h0 | h0
  · rcases hm with hm | hm
    · omega
    · rcases Nat.eq_zero_or_pos k with hk | hk
      · omega
      · have h1 : atOf ls N 1 = N := by
          show 0 + stepN ls N 0 0 = N
          unfold stepN
          rw [if_pos h0]
          omega
        have h2 := atOf_mono ls N 1 (k - 1)
        rw [show 1 + (k - 1) = k by omega] at h2
        omega
  · obtain ⟨j, hj, hj0⟩ := fineL_some h h0
    rcases Nat.lt_or_ge k (N * ls.length + 1) with h1 | h1
    · exact h1
    · have := atOf_bound hj hj0 (N := N) (i := k) (by omega)
      omega
set_option maxHeartbeats 4000000 in
theorem pieces1_in (F : Fence) (n : Nat) (h12 : F.fn 28) (hro : F.round = none) (hn : 1 ≤ n) (l Bb Bc n₀ : Nat) {A Ac : Option Addr} {m cp mc cpc : Nat} {bs ls : List UInt8} (hcp : m ≤ cp) (hm : m ≤ 1000000) (hmc : mc ≤ 1000000) (hfine : fineL ls = true)
    (J Jx : List Nat → World → Prop) (hJd : ∀ pre W n, J pre W → J pre (World.drewN W n))
    (hY : ∀ pre x W, J pre W → pre.length < boundN ls m → YieldAt F (n - 1) Tryz.prog l (pieceEnc ls m cp A x) W fun e W' =>
      (e = .returned (.bool true) ∧ J (pre ++ [x]) W' ∧ KpB n₀ Bc W W') ∨ (e = .returned (.bool false) ∧ Jx (pre ++ [x]) W'))
    (W : World) (hBb : W.cell? ⟨Bb, 0, none⟩ = some (.slice A m cp)) (hBc : W.cell? ⟨Bc, 0, none⟩ = some (.slice Ac mc cpc)) (_hrb : Reads W n₀ 1 A m (bcells bs)) (hrc : Reads W n₀ 1 Ac mc (bcells ls)) (h0 : J [] W) :
    CallsIn F n Tryz.prog 28 #[.func (.yield l) #[] #[], .pointer (some ⟨Bb, 0, none⟩), .pointer (some ⟨Bc, 0, none⟩)] W fun e W' => (∃ v, e = .returned v) ∧
      ((∃ ys, (∃ k, ys = List.range k ∧ countTo ls m k ∧ moreB ls m k = false) ∧ J ys W') ∨ (∃ pre, (∃ k, pre = List.range k ∧ countTo ls m k) ∧ Jx pre W')) := by
  have HLC := Lib.hid hrc.bytes
  refine callsIn_of_wp Tryz.func28 rfl h12 ?_ hro
  simp only [Tryz.ntmps28, List.size_toArray, List.length_cons, List.length_nil, Nat.reduceAdd, Nat.reduceSub, Array.replicate_succ, Array.replicate_zero, List.push_toArray, List.append_toArray, List.nil_append, List.cons_append]
  gi_wp2
  refine wpIn_region_quiet_lit hro (by kernel_rfl) (by kernel_rfl) ?_
  repeat (quiet_step_in (fail))
  refine wpQuietIn_nil ?_
  intro _ hw'
  obtain ⟨nq, hw''⟩ := hw'
  subst hw''
  gi_wp2
  gi_loopw [4, 5] (fun i v wr => ∃ k : Nat, i = .int .i64 k ∧ v = .slice (adrOf ls m cp A k) (m - atOf ls m k) (cp - atOf ls m k) ∧ J (List.range k) wr ∧ KpB n₀ Bc W wr ∧ Hid (countTo ls m k)) (fun i _ _ => boundN ls m - (intOf i).toNat)
  case atStart => exact ⟨0, rfl, rfl, hJd _ _ _ h0, ⟨below_drewN (Below.refl _ _) _, rfl⟩, Lib.hid (fun j h => by omega)⟩
  case round =>
    obtain ⟨k, rfl, rfl, hJs, hkp, hct⟩ := hrel
    have hBc' : wr.cell? ⟨Bc, 0, none⟩ = some (.slice Ac mc cpc) := (hkp.cellc 0).trans hBc
    have hle := atOf_le ls m k
    have hsl := stepN_le ls m k (atOf ls m k)
    have hsE : stepN ls m k (atOf ls m k) = if mc = 0 then m - atOf ls m k else min (byteAt ls (k % mc)) (m - atOf ls m k) := by unfold stepN; rw [HLC.out]
    have hA1 : atOf ls m (k + 1) = atOf ls m k + stepN ls m k (atOf ls m k) := rfl
    have hR1 : adrOf ls m cp A (k + 1) = if cp - atOf ls m k = stepN ls m k (atOf ls m k) then adrOf ls m cp A k else (adrOf ls m cp A k).map (·.add (stepN ls m k (atOf ls m k))) := rfl
    have hyk := fun W1 (hj : J (List.range k) W1) (hkb : k < boundN ls m) => hY (List.range k) k W1 hj (by rw [List.length_range]; exact hkb)
    have hmo1 : moreB ls m k = (k == 0 || decide (0 < m - atOf ls m k)) := by unfold moreB; congr 1; rw [Bool.eq_iff_iff]; simp; omega
    obtain ⟨a0, ha0⟩ : ∃ a, a = atOf ls m k := ⟨_, rfl⟩
    obtain ⟨R0, hR0⟩ : ∃ a, a = adrOf ls m cp A k := ⟨_, rfl⟩
    simp only [pieceEnc] at hyk
    rw [← ha0] at hle hsl hsE hA1 hR1 hmo1
    simp only [← ha0, ← hR0] at hyk hR1 ⊢
    obtain ⟨s0, hs0⟩ : ∃ a, a = stepN ls m k a0 := ⟨_, rfl⟩
    rw [← hs0] at hsl hsE hA1 hR1
    simp only [← hs0] at hyk
    obtain ⟨L0, hL0⟩ : ∃ a, a = m - a0 := ⟨_, rfl⟩
    obtain ⟨C0, hC0⟩ : ∃ a, a = cp - a0 := ⟨_, rfl⟩
    obtain ⟨F0, hF0⟩ : ∃ a, (if C0 = s0 then R0 else Option.map (fun p => p.add s0) R0) = a := ⟨_, rfl⟩
    simp only [← hC0] at hyk hR1 ⊢
    simp only [← hL0] at hsl hsE hmo1 ⊢
    rw [hF0] at hR1
    have hLC : L0 ≤ C0 := by omega
    have hnext : m - atOf ls m (k + 1) = L0 - s0 ∧ cp - atOf ls m (k + 1) = C0 - s0 := by rw [hA1]; omega
    have HN := Lib.hid hnext
    have HR := Lib.hid hR1
    have HA := Lib.hid (And.intro ha0 (And.intro hR0 (And.intro hs0 hL0)))
    have hL1 : L0 ≤ 1000000 := by omega
    have hkbig : k < boundN ls m → k < 1000000000001 := by
      intro h9
      have h8 : m * ls.length ≤ 1000000 * 1000000 := Nat.mul_le_mul hm (by rw [HLC.out]; exact hmc)
      unfold boundN at h9
      omega
    have HSE := Lib.hid hsE
    clear ha0 hR0 hs0 hC0 hnext hR1 hA1 hle hL0 hsE
    gi_upto_region 1 with fail
    gi_cut [14] from 8 (fun c wx => c = .bool (moreB ls m k) ∧ wx = wr)
    case first =>
      rcases Nat.eq_zero_or_pos k with h1 | h1
      · have h2 : ((k : Int) == 0) = true := by simp; omega
        have H1 := Lib.hid h1
        clear h1
        gi_wp2
        gi_meet
        exact ⟨congrArg Value.bool (by rw [hmo1]; simp [H1.out]), rfl⟩
      · have h2 : ((k : Int) == 0) = false := by simp; omega
        by_cases h3 : 0 < L0
        · have h4 : (0 : Int) < (L0 : Int) := by omega
          gi_wp2
          gi_meet
          exact ⟨congrArg Value.bool (by rw [hmo1]; simp [h3]), rfl⟩
        · have h4 : ¬ (0 : Int) < (L0 : Int) := by omega
          gi_wp2
          gi_meet
          exact ⟨congrArg Value.bool (by rw [hmo1]; simp [h3]; omega), rfl⟩
    case rest =>
      obtain ⟨rfl, rfl⟩ := hcut
      by_cases hmo : moreB ls m k = true
      · have hkb : k < boundN ls m := count_lt hfine hmo
        have hkb' := hkbig hkb
        rw [hmo]
        clear hkbig hmo1
        gi_upto_if 21 with fail
        gi_cut [6] from 8 (fun v wx => v = .int .i64 (s0 : Int) ∧ ∃ q, wx = World.drewN wc q)
        case first =>
          rcases Nat.eq_zero_or_pos mc with hmc0 | hmc0
          · have h5 : s0 = L0 := by rw [HSE.out, if_pos hmc0]
            have h6 : ¬ ((0 : Int) < (mc : Int)) := by omega
            have H5 := Lib.hid h5
            clear h5 hmc0
            gi_wp2
            gi_meet
            exact ⟨by rw [H5.out], 0, rfl⟩
          · have h6 : (0 : Int) < (mc : Int) := by omega
            obtain ⟨j0, hj0⟩ : ∃ j, k % mc = j := ⟨_, rfl⟩
            have h7 : j0 < mc := by rw [← hj0]; exact Nat.mod_lt _ hmc0
            obtain ⟨ac, hac, hb, hc⟩ := (hrc.below hkp.1).byte h7
            have hsE2 : s0 = min (byteAt ls j0) L0 := by rw [HSE.out, if_neg (by omega), hj0]
            have HS := Lib.hid hsE2
            have h14 : (k : Int) % (mc : Int) = (j0 : Int) := by rw [← hj0]; rfl
            have h9 : Int.tmod (k : Int) (mc : Int) = (j0 : Int) := by rw [Int.tmod_eq_emod_of_nonneg (by omega)]; exact h14
            clear hsE2 hj0
            subst hac
            have h8 : ¬ (mc = 0) := by omega
            have h8' : ¬ ((mc : Int) = 0) := by omega
            have h10 : (j0 : Int) < (mc : Int) := by omega
            gi_wp2
            refine wpIn_region_quiet_lit hro (by kernel_rfl) (by kernel_rfl) ?_
            repeat (quiet_step_in (fail))
            refine wpQuietIn_nil ?_
            intro _ hw'
            obtain ⟨nq, hw''⟩ := hw'
            subst hw''
            gi_wp2
            all_goals gi_meet
            all_goals
              go_light
              have hb9 := byteAt_lt ls j0
              have hwb : IntKind.i64.wrap (byteAt ls j0 : Int) = (byteAt ls j0 : Int) := (IntWalk.i64_left _).trans (IntWalk.wrap64_in _ (by omega))
              refine ⟨?_, nq, rfl⟩
              rw [HS.out]
              congr 1
              simp only [hwb] at *
              omega
        case rest =>
          obtain ⟨rfl, q, rfl⟩ := hcut
          obtain ⟨fn, tmps, assign, body, hy, hR⟩ := hyk _ (hJd _ _ q hJs) hkb
          have h11 : (s0 : Int) ≤ (C0 : Int) := by omega
          have h12 : (s0 : Int) ≤ (L0 : Int) := by omega
          gi_wp2
          refine hR.mono ?_
          rintro e W3 (⟨rfl, hJ3, hk3⟩ | ⟨rfl, hJx3⟩)
          · have HJ3 := Lib.hid hJ3
            clear hJ3
            gi_wp2
            go_roundw
            case rel =>
              go_light
              refine ⟨k + 1, by go_num, ?_, by rw [List.range_succ]; exact HJ3.out, (hkp.trans (⟨below_drewN (Below.refl _ _) _, rfl⟩ : KpB n₀ Bc wc (wc.drewN q))).trans hk3, Lib.hid (fun j hj => ?_)⟩
              · rw [HN.out.1, HN.out.2, HR.out]
              · rcases Nat.lt_or_ge j k with h9 | h9
                · exact hct.out j h9
                · obtain rfl : j = k := by omega
                  exact hmo
            case measure => go_light; simp [intOf]; omega
          · gi_wp2
            refine bodyPost_ret (results_none rfl _ _ _) rfl ?_
            exact ⟨⟨_, rfl⟩, .inr ⟨List.range (k + 1), ⟨k + 1, rfl, fun j hj => by
              rcases Nat.lt_or_ge j k with h9 | h9
              · exact hct.out j h9
              · obtain rfl : j = k := by omega
                exact hmo⟩, by rw [List.range_succ]; exact hJx3⟩⟩
      · have hmo : moreB ls m k = false := by simpa using hmo
        rw [hmo]
        gi_wp2
        go_end0
        exact ⟨⟨_, rfl⟩, .inl ⟨_, ⟨k, rfl, hct.out, hmo⟩, hJs⟩⟩
end Go.Proofs.YtdjbjcnkboggjaaGreatDoor

namespace Go.Proofs.YtdjbjcnkboggjaaGreatDoor
open Go.RowKit Go.Rep Go.Shelf
attribute [local go_sem] Oper.semAt_some
set_option maxRecDepth 100000
theorem pieces_in (F : Fence) (n : Nat) (h10 : F.fn 17) (hro : F.round = none) (A Ac : Option Addr) (m cp mc cpc : Nat) (w : World) :
    CallsIn F n Tryz.prog 17 #[.slice A m cp, .slice Ac mc cpc] w fun e w' => e = .returned (.func (.func 28) #[] #[.pointer (some ⟨w.heap.size, 0, none⟩), .pointer (some ⟨w.heap.size + 1, 0, none⟩)]) ∧
      w' = (w.alloc (.cells #[.slice A m cp] 22)).alloc (.cells #[.slice Ac mc cpc] 22) := by
  refine callsIn_of_wp Tryz.func17 rfl h10 ?_ hro
  simp only [Tryz.ntmps17, List.size_toArray, List.length_cons, List.length_nil, Nat.reduceAdd, Nat.reduceSub, Array.replicate_succ, Array.replicate_zero, List.push_toArray, List.append_toArray, List.nil_append, List.cons_append]
  gi_wp2
  go_ret
  exact ⟨rfl, rfl⟩
theorem pieces_stops (F : Fence) (n : Nat) (h12 : F.fn 28) (hro : F.round = none) (hn : 1 ≤ n) (Bb Bc n₀ : Nat) {A Ac : Option Addr} {m cp mc cpc : Nat} {bs ls : List UInt8} (hcp : m ≤ cp) (hm : m ≤ 1000000) (hmc : mc ≤ 1000000) (hfine : fineL ls = true)
    (w : World) (hb : Bb < w.heap.size) (hc : Bc < w.heap.size) (hn₀ : n₀ ≤ w.heap.size) (hBb : w.cell? ⟨Bb, 0, none⟩ = some (.slice A m cp)) (hBc : w.cell? ⟨Bc, 0, none⟩ = some (.slice Ac mc cpc)) (hrb : Reads w n₀ 1 A m (bcells bs)) (hrc : Reads w n₀ 1 Ac mc (bcells ls)) :
    SeqStopsK F n Tryz.prog 28 #[.pointer (some ⟨Bb, 0, none⟩), .pointer (some ⟨Bc, 0, none⟩)] (pieceEnc ls m cp A) (KpB n₀ Bc) (fun ys => ∃ k, ys = List.range k ∧ countTo ls m k ∧ moreB ls m k = false)
      (fun pre => ∃ k, pre = List.range k ∧ countTo ls m k) (boundN ls m) w := fun l J Jx W hW hJ _ hY h0 =>
  pieces1_in F n h12 hro hn l Bb Bc n₀ hcp hm hmc hfine J Jx (fun pre W n hj => hJ pre W _ none hj (grown_drewN W n none) (fun r e => by cases e)) hY W ((hW.cell (p := ⟨Bb, 0, none⟩) hb).trans hBb) ((hW.cell (p := ⟨Bc, 0, none⟩) hc).trans hBc) (hrb.below (hW.mono hn₀)) (hrc.below (hW.mono hn₀)) h0
end Go.Proofs.YtdjbjcnkboggjaaGreatDoor
