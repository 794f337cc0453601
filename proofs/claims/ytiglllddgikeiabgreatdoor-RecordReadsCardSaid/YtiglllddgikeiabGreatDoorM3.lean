/- A part of the proof of RecordReads. -/
import Derived.Test.YtiglllddgikeiabGreatDoorM2
import Derived.Test.YtiglllddgikeiabGreatDoorSB
import Derived.Test.YtiglllddgikeiabGreatDoorSH
import Derived.Test.YtiglllddgikeiabGreatDoorCKnown
import Derived.Lib.AppendIntMem
import Derived.Lib.FrozenHead2
import Derived.Test.YtiglllddgikeiabGreatDoorM1
namespace Go.Proofs.YtiglllddgikeiabGreatDoor
open Go.RowKit Go.Rep
set_option maxRecDepth 100000
theorem itoa_any (n : Int) (h0 : -4611686018427387904 ≤ n) (h1 : n ≤ 4611686018427387904) {w : World} (hw : Laid w) : Calls Tryz.prog 53 #[.int .i64 n] w fun e w' => e = .returned (.string (S (Lib.itoa n))) ∧ Below w.heap.size w w' := by
  refine (Tryz.strconv_Itoa n (by omega) (by omega) w hw.parts.2.2.2.2).mono ?_
  rintro e w' ⟨rfl, k, os, rfl⟩
  exact ⟨rfl, Lib.below_grow _ w (Nat.le_refl _) k os⟩
end Go.Proofs.YtiglllddgikeiabGreatDoor

namespace Go.Proofs.YtiglllddgikeiabGreatDoor
open Go.RowKit Go.Rep
set_option maxRecDepth 100000
theorem numsL_len {l : List Int} (hb : ∀ x ∈ l, -4611686018427387904 ≤ x ∧ x ≤ 4611686018427387904) : (numsL l).length ≤ 22 * l.length := by
  induction l with
  | nil => simp [numsL]
  | cons x t ih =>
    have h1 := ih (fun y hy => hb y (by simp [hy]))
    have h2 := hb x (by simp)
    have h3 := numL_len x (by omega) (by omega)
    unfold numsL at h1 ⊢
    rw [List.flatMap_cons, List.length_append, List.length_cons]
    omega
set_option maxHeartbeats 2000000 in
theorem numbers_any {A : Option Addr} {n cp B : Nat} {l : List Int} {w : World} (hr : Reads w B 1 A n (l.map (Value.int .i64))) (hB : B ≤ w.heap.size) (hl : l.length ≤ 3) (hb : ∀ x ∈ l, -4611686018427387904 ≤ x ∧ x ≤ 4611686018427387904) (hw : Laid w) :
    Calls Tryz.prog 52 #[.slice A n cp] w fun e w' => e = .returned (.string (S (numsL l))) ∧ Below w.heap.size w w' := by
  have hln : l.length = n := by have := hr.1; simpa using this
  have HL := Lib.hid hln
  have hn3 : n ≤ 3 := by omega
  clear hln
  have HW := Lib.hid hw
  go_enter Tryz.func52, Tryz.ntmps52
  go_wp2
  go_loopw [3, 8] (fun x i wr => ∃ (k : Nat) (acc : List UInt8), k ≤ n ∧ x = .string (S acc) ∧ i = .int .i64 k ∧ Hid (acc = numsL (l.take k)) ∧ Below w.heap.size w wr) (fun _ i _ => n - (intOf i).toNat)
  case atStart => exact ⟨0, [], Nat.zero_le _, rfl, rfl, Lib.hid (by simp [numsL]), Below.refl _ _⟩
  case round =>
    obtain ⟨k, acc, hk, rfl, rfl, hacc, hbr⟩ := hrel
    by_cases hlt : k < n
    · obtain ⟨ad, rfl, _, hcell⟩ := (hr.below (hbr.mono hB)).2 (by omega)
      have hkl : k < l.length := by rw [HL.out]; exact hlt
      obtain ⟨x, hx⟩ : ∃ x, l[k]? = some x := ⟨_, List.getElem?_eq_getElem hkl⟩
      have x0 : wr.cell? (ad.add k) = some (.int .i64 x) := by
        have := hcell k (.int .i64 x) (by rw [List.getElem?_map, hx]; rfl)
        simpa using this
      have hbk := hb x (List.mem_of_getElem? hx)
      have htk : l.take (k + 1) = l.take k ++ [x] := by rw [List.take_succ_eq_append_getElem hkl, (List.getElem?_eq_some_iff.1 hx).2]
      clear hcell hx
      have zd := itoa_len x (by omega) (by omega)
      have cd := itoa_any x (by omega) (by omega) (HW.out.up hbr)
      have hla : acc.length ≤ 66 := by
        have := numsL_len (l := l.take k) (fun y hy => hb y (List.mem_of_mem_take hy))
        rw [List.length_take] at this
        rw [hacc.out]
        omega
      have HT := Lib.hid htk
      clear htk
      generalize hdd : Lib.itoa x = dd at *
      have HD := Lib.hid hdd
      clear hdd
      obtain ⟨zdd, ydd⟩ := sized dd
      obtain ⟨zacc, yacc⟩ := sized acc
      obtain ⟨p0, pz0, pE0, pl0, pq0, pn0, py0⟩ := cat [32] dd ⟨#[32]⟩ (S dd) 1 zdd 1 21 22 rfl rfl rfl ydd (by decide) zd rfl (by decide)
      obtain ⟨s0, sz0, sE0, sl0, sq0, sn0, sy0⟩ := cat acc p0 (S acc) (S p0) zacc pz0 66 22 88 rfl rfl yacc py0 hla pl0 rfl (by decide)
      go_wp2_with (go_at_call 53; refine cd.mono ?_; rintro e w2 ⟨rfl, hb2⟩)
      go_roundw
      case rel =>
        refine ⟨k + 1, s0, by omega, rfl, by go_num, Lib.hid ?_, hbr.then _ hb2⟩
        rw [HT.out, sE0.out, pE0.out, hacc.out, ← HD.out]
        simp [numsL, numL]
      case measure => simp [intOf]; omega
    · obtain rfl : k = n := by omega
      have hfin : Hid (acc = numsL l) := Lib.hid (by rw [hacc.out, List.take_of_length_le (by rw [HL.out]; exact Nat.le_refl _)])
      go_wp2
      go_ret
      exact ⟨by rw [hfin.out]; rfl, hbr⟩
end Go.Proofs.YtiglllddgikeiabGreatDoor

namespace Go.Proofs.YtiglllddgikeiabGreatDoor
open Go.RowKit Go.Rep
set_option maxRecDepth 100000
/-- A builder in block b whose row lies at N or above. -/
def Bl (N b : Nat) (bs : List Value) (w : World) : Prop := ∃ p v, (p = .pointer none ∨ p = .pointer (some ⟨b, 0, none⟩)) ∧ w.heap[b]? = some (.cells #[p, v] 115 (0, 0)) ∧ w.ownsRowF N 5 1 v bs.length bs
/-- What lies below N stands, but for block b. -/
structure Apart (N b : Nat) (w w' : World) : Prop where
  os : w'.os = w.os
  tape : w'.tape = w.tape
  output : w'.output = w.output
  size : w.heap.size ≤ w'.heap.size
  block : ∀ k, k < N → k ≠ b → w'.heap[k]? = w.heap[k]?
theorem Apart.refl (N b : Nat) (w : World) : Apart N b w w := ⟨rfl, rfl, rfl, Nat.le_refl _, fun _ _ _ => rfl⟩
theorem Apart.trans {N b : Nat} {w1 w2 w3 : World} (h : Apart N b w1 w2) (k : Apart N b w2 w3) : Apart N b w1 w3 :=
  ⟨k.os.trans h.os, k.tape.trans h.tape, k.output.trans h.output, Nat.le_trans h.size k.size, fun i a c => (k.block i a c).trans (h.block i a c)⟩
theorem Apart.drew {N b : Nat} {w1 w2 : World} (h : Apart N b w1 w2) : Apart N b w1 w2.drew := ⟨h.os, h.tape, h.output, h.size, h.block⟩
theorem Apart.setCell {N b : Nat} {w1 w2 : World} (h : Apart N b w1 w2) (i : Nat) (v : Value) : Apart N b w1 (w2.setCell ⟨b, i, none⟩ v) :=
  ⟨h.os, h.tape, h.output, by have := h.size; simp [World.setCell]; omega, fun k hk hb => (Below.heap_setCell _ _ _ _ (fun e => hb (by simpa using e))).trans (h.block k hk hb)⟩
theorem Apart.alloc {N b : Nat} {w1 w2 : World} (h : Apart N b w1 w2) (hN : N ≤ w2.heap.size) (o : Obj) : Apart N b w1 (w2.alloc o) :=
  ⟨h.os, h.tape, h.output, by have := h.size; simp; omega, fun k hk hb => (Lib.alloc_old w2 o k (by omega)).trans (h.block k hk hb)⟩
theorem Apart.grown {N b : Nat} {w1 w2 w3 : World} {row : Option Nat} (h : Apart N b w1 w2) (hg : w2.grownBy w3 row) (hN : N ≤ w2.heap.size) (hrow : ∀ k, row = some k → N ≤ k) : Apart N b w1 w3 :=
  ⟨hg.os.trans h.os, hg.tape.trans h.tape, hg.output.trans h.output, Nat.le_trans h.size hg.size, fun k hk hb => (hg.block k (by omega) (fun e => by have := hrow k e.symm; omega)).trans (h.block k hk hb)⟩
theorem Apart.below {N b : Nat} {w1 w2 : World} (h : Apart N b w1 w2) (hb : b ≤ N) : Below b w1 w2 := ⟨h.os, h.tape, h.output, h.size, fun k hk => h.block k (by omega) (by omega)⟩
theorem copy_any {N b : Nat} {bs : List Value} {w : World} (h : Bl N b bs w) (hbN : b < N) :
    Calls Tryz.prog 91 #[.pointer (some ⟨b, 0, none⟩)] w fun e w' => e = .returned (.tuple #[]) ∧ (∃ v, w'.heap[b]? = some (.cells #[.pointer (some ⟨b, 0, none⟩), v] 115 (0, 0)) ∧ w'.ownsRowF N 5 1 v bs.length bs) ∧ Apart N b w w' := by
  obtain ⟨p, v, hp, hb, hown⟩ := h
  rcases hp with rfl | rfl
  · refine (Any.Builder_copyCheck_fresh Tryz.bld240 Tryz.bldX.toX72 b w (by rw [Lib.cell_of_heap hb]; rfl) (by simp [World.shape?, hb]; rfl) (Lib.frozen_of_heap hb 0)).mono ?_
    rintro e w' ⟨rfl, rfl⟩
    refine ⟨rfl, ⟨v, ?_, ?_⟩, (Apart.refl _ _ _).setCell 0 _⟩
    · simp [World.setCell, Array.getElem?_modify, hb]
    · refine hown.kept (row := some b) ⟨rfl, rfl, rfl, by simp [World.setCell], fun k _ hk => Below.heap_setCell _ _ _ _ (fun e => hk (by simp [e]))⟩ ?_
      cases hv : v.ownBlock with
      | none => exact .inl rfl
      | some g =>
        right
        have := (hown.lt g hv).1
        intro e
        cases e
        omega
  · refine (Any.Builder_copyCheck_used Tryz.bld240 Tryz.bldX.toX72 b w (by rw [Lib.cell_of_heap hb]; rfl)).mono ?_
    rintro e w' ⟨rfl, rfl⟩
    exact ⟨rfl, ⟨v, hb, hown⟩, Apart.refl _ _ _⟩
theorem byte_info : (Tryz.prog.info? 5).map (fun i => (i.zero, i.size, i.bytes)) = some (some (.int .u8 0), 1, 1) := by kernel_rfl
set_option maxHeartbeats 2000000 in
theorem wb_any {N b : Nat} {bs : List Value} {c : Int} {w : World} (h : Bl N b bs w) (hbN : b < N) (hN : N ≤ w.heap.size) (hlen : bs.length + 1 ≤ 140737488355328) :
    Calls Tryz.prog 55 #[.pointer (some ⟨b, 0, none⟩), .int .u8 c] w fun e w' => e = .returned .nilIface ∧ Bl N b (bs ++ [.int .u8 c]) w' ∧ Apart N b w w' := by
  obtain ⟨i0, hi, hz0, hz1, hz2⟩ := info_parts byte_info
  go_enter Tryz.func55, Tryz.ntmps55
  go_wp2_with (go_at_call 91; refine (copy_any h hbN).mono ?_)
  rintro e w1 ⟨rfl, ⟨v, hbk, hown⟩, hap⟩
  have c0 : w1.cell? ⟨b, 0, none⟩ = some (.pointer (some ⟨b, 0, none⟩)) := by rw [Lib.cell_of_heap hbk]; rfl
  have c1 : w1.cell? ⟨b, 1, none⟩ = some v := by rw [Lib.cell_of_heap hbk]; rfl
  have hN1 : N ≤ w1.heap.size := Nat.le_trans hN hap.size
  go_wp2_with (at_builtin; refine wpList_append_ownF _ rfl _ _ 90 rfl N 5 i0 (.int .u8 0) 1 1 Tryz.underlying90 hi hz0 hz1 hz2 rfl (by decide) _ _ _ rfl (hown.alloc _) ⟨w1.heap.size, 0, none⟩ 1 1 [.int .u8 c] rfl rfl ?c1 ?c2 ?c3 ?c4 ?c5 ?_)
  case c1 =>
    intro j u hj
    match j, hj with
    | 0, hj => simp at hj; subst hj; simp [Addr.add]
  case c2 => intro u hu; simp at hu; subst hu; rfl
  case c3 => unfold maxLen; omega
  case c4 => omega
  case c5 => simp; omega
  intro v' w2 hown' hgrow _
  have hne : v.ownBlock ≠ some b := by
    intro e
    have := (hown.lt b e).1
    omega
  have hb2 : w2.heap[b]? = some (.cells #[.pointer (some ⟨b, 0, none⟩), v] 115 (0, 0)) := by
    rw [hgrow.block b (by simp; omega) (fun e => hne e.symm), Lib.alloc_old w1 _ b (by omega)]
    exact hbk
  have d0 : w2.cell? ⟨b, 0, none⟩ = some (.pointer (some ⟨b, 0, none⟩)) := by rw [Lib.cell_of_heap hb2]; rfl
  have d1 : w2.cell? ⟨b, 1, none⟩ = some v := by rw [Lib.cell_of_heap hb2]; rfl
  have f1 : w2.frozen? ⟨b, 1, none⟩ = false := Lib.frozen_of_heap hb2 1
  obtain ⟨g, cap, rfl⟩ : ∃ g cap, v' = .slice (some ⟨g, 0, none⟩) (bs.length + 1) cap := by
    rcases hown'.2 with ⟨_, h0⟩ | ⟨g, cap, cur, fz, hv, _⟩
    · omega
    · exact ⟨g, cap, hv⟩
  go_wp2
  go_ret
  refine ⟨rfl, ⟨_, .slice (some ⟨g, 0, none⟩) (bs.length + 1) cap, .inr rfl, ?_, ?_⟩, ((hap.alloc hN1 _).grown hgrow (by simp; omega) (fun k hk => (hown.lt k hk).1)).setCell 1 _⟩
  · simp [World.setCell, Array.getElem?_modify, hb2]
  · have hgN : N ≤ g := (hown'.lt g rfl).1
    refine World.ownsRowF.kept (w := w2) (row := some b) (by simpa using hown') ⟨rfl, rfl, rfl, by simp [World.setCell], fun k _ hk => Below.heap_setCell _ _ _ _ (fun e => hk (by simp [e]))⟩ ?_
    right
    simp [Value.ownBlock]
    omega
end Go.Proofs.YtiglllddgikeiabGreatDoor

namespace Go.Proofs.YtiglllddgikeiabGreatDoor
open Go.RowKit Go.Rep
set_option maxRecDepth 100000
theorem byteCells_app (a b : List UInt8) : Lib.byteCells (a ++ b) = Lib.byteCells a ++ Lib.byteCells b := by simp [Lib.byteCells]
theorem byteCells_len (a : List UInt8) : (Lib.byteCells a).length = a.length := by simp [Lib.byteCells]
/-- The digit of four bits, out of the sixteen. -/
theorem hexat (q : Nat) (hq : q < 16) : (⟨#[48, 49, 50, 51, 52, 53, 54, 55, 56, 57, 97, 98, 99, 100, 101, 102]⟩ : ByteArray).data.toList[q]? = some (hexd q) := by
  have key : (List.range 16).map (fun q => (⟨#[48, 49, 50, 51, 52, 53, 54, 55, 56, 57, 97, 98, 99, 100, 101, 102]⟩ : ByteArray).data.toList[q]?) = (List.range 16).map (fun q => some (hexd q)) := by kernel_rfl
  have h2 := congrArg (fun l => l[q]?) key
  simpa only [List.getElem?_map, List.getElem?_range hq, Option.map_some, Option.some.injEq] using h2
theorem hexget (q : Nat) (hq : q < (⟨#[48, 49, 50, 51, 52, 53, 54, 55, 56, 57, 97, 98, 99, 100, 101, 102]⟩ : ByteArray).size) : (⟨#[48, 49, 50, 51, 52, 53, 54, 55, 56, 57, 97, 98, 99, 100, 101, 102]⟩ : ByteArray)[q] = hexd q := by
  have h := hexat q hq
  rw [Array.getElem?_toList, Array.getElem?_eq_getElem hq] at h
  exact Option.some.inj h
set_option maxHeartbeats 4000000 in
theorem hexed_any {s : ByteArray} {w : World} (hs : s.size ≤ 100000) : Calls Tryz.prog 54 #[.string s] w fun e w' => e = .returned (.string (S (hexl s.data.toList))) ∧ Below w.heap.size w w' := by
  obtain ⟨cp, w1, hcv, hg, hb, hsz, hbel⟩ : ∃ cp w1, (convert 9 90 (.string s)).run Tryz.prog (w.alloc (.cells #[.pointer none, .slice none 0 0] 115)) = .ok (.slice (some ⟨w.heap.size + 1, 0, none⟩) s.size cp) w1 ∧
      (∀ j x, s.data.toList[j]? = some x → w1.cell? ⟨w.heap.size + 1, j, none⟩ = some (.int .u8 (x.toNat : Int))) ∧ w1.heap[w.heap.size]? = some (.cells #[.pointer none, .slice none 0 0] 115 (0, 0)) ∧ w1.heap.size = w.heap.size + 2 ∧ Below w.heap.size w w1 := by
    have h := run_bytes_of_string (P := Tryz.prog) (w.alloc (.cells #[.pointer none, .slice none 0 0] 115)) 9 90 5 s Tryz.underlying9 Tryz.underlying90 Tryz.underlying5
    have hsa : (w.alloc (.cells #[.pointer none, .slice none 0 0] 115)).heap.size = w.heap.size + 1 := by simp
    rw [hsa] at h
    refine ⟨_, _, h, ?_, ?_, by simp, ?_⟩
    · intro j x hx
      have hj : j < s.data.size := by have := (List.getElem?_eq_some_iff.1 hx).1; simpa using this
      have h2 := bytesRow_at s (grownCap (w.alloc (.cells #[.pointer none, .slice none 0 0] 115)) s.size 0 5) j hj
      have h3 : s.data[j] = x := by rw [Array.getElem?_toList, Array.getElem?_eq_getElem hj] at hx; exact Option.some.inj hx
      rw [h3] at h2
      rw [Lib.cell_of_heap (show ((w.alloc (.cells #[.pointer none, .slice none 0 0] 115)).drew.alloc _).heap[w.heap.size + 1]? = _ by rw [← hsa]; exact heap_alloc_new (w.alloc (.cells #[.pointer none, .slice none 0 0] 115)).drew _)]
      exact h2
    · rw [Lib.alloc_old _ _ _ (by show w.heap.size < (w.alloc _).heap.size; simp)]
      exact heap_alloc_new w _
    · exact (below_drewN ((Below.refl w.heap.size w).alloc (Nat.le_refl _) (.cells #[.pointer none, .slice none 0 0] 115)) 1).alloc (by show _ ≤ (w.alloc _).heap.size; simp) _
  have hB0 : Bl (w.heap.size + 2) w.heap.size (Lib.byteCells (hexl (s.data.toList.take 0))) w1 := ⟨.pointer none, .slice none 0 0, .inl rfl, hb, by simpa [hexl, Lib.byteCells] using World.ownsRowF_nil w1 _ 5 1⟩
  go_enter Tryz.func54, Tryz.ntmps54
  go_wp2
  go_loopw [9] (fun i wr => ∃ j : Nat, j ≤ s.size ∧ i = .int .i64 j ∧ Bl (w.heap.size + 2) w.heap.size (Lib.byteCells (hexl (s.data.toList.take j))) wr ∧ Apart (w.heap.size + 2) w.heap.size w1 wr) (fun i _ => s.size - (intOf i).toNat)
  case atStart => exact ⟨0, Nat.zero_le _, rfl, hB0, Apart.refl _ _ _⟩
  case round =>
    obtain ⟨j, hj, rfl, hbl, hap⟩ := hrel
    by_cases hlt : j < s.size
    · have hjt : j < s.data.toList.length := by rw [Array.length_toList]; exact hlt
      obtain ⟨x, hx⟩ : ∃ x, s.data.toList[j]? = some x := ⟨_, List.getElem?_eq_getElem hjt⟩
      have x0 : wr.cell? ⟨w.heap.size + 1, j, none⟩ = some (.int .u8 (x.toNat : Int)) := by
        rw [World.cell?_of_block (hap.block (w.heap.size + 1) (by omega) (by omega))]
        exact hg j x hx
      have hc256 : x.toNat < 256 := UInt8.toNat_lt _
      obtain ⟨q, v, hq, hv, g1, g2, q0, q1, v0, v1⟩ : ∃ q v : Nat, x.toNat / 16 = q ∧ x.toNat % 16 = v ∧ ((x.toNat : Int) / 16) = (q : Int) ∧ ((x.toNat : Int) % 16) = (v : Int) ∧ (0 : Int) ≤ (q : Int) ∧ (q : Int) < 16 ∧ (0 : Int) ≤ (v : Int) ∧ (v : Int) < 16 := by
        refine ⟨_, _, rfl, rfl, ?_, ?_, ?_, ?_, ?_, ?_⟩ <;> omega
      have HQ := Lib.hid hq
      have HV := Lib.hid hv
      clear hq hv
      have hq16 : q < (⟨#[48, 49, 50, 51, 52, 53, 54, 55, 56, 57, 97, 98, 99, 100, 101, 102]⟩ : ByteArray).size := by show q < 16; omega
      have hv16 : v < (⟨#[48, 49, 50, 51, 52, 53, 54, 55, 56, 57, 97, 98, 99, 100, 101, 102]⟩ : ByteArray).size := by show v < 16; omega
      have hxq := hexget q hq16
      have hxv := hexget v hv16
      have hl1 : (Lib.byteCells (hexl (s.data.toList.take j))).length ≤ 200000 := by rw [byteCells_len, hexl_length, List.length_take]; omega
      go_wp2_with (first
        | (have qq := hbl2; clear qq; go_at_call 55; refine (wb_any (c := ((hexd v).toNat : Int)) hbl2 (by omega) (by have := hap.size; have := hap2.size; omega) (by simp only [List.length_append, List.length_cons, List.length_nil]; omega)).mono ?_; rintro e w3 ⟨rfl, hbl3, hap3⟩)
        | (go_at_call 55; refine (wb_any (c := ((hexd q).toNat : Int)) hbl (by omega) (by have := hap.size; omega) (by omega)).mono ?_; rintro e w2 ⟨rfl, hbl2, hap2⟩))
      go_roundw
      case rel =>
        refine ⟨j + 1, by omega, by go_num, ?_, (hap.trans hap2).trans hap3⟩
        rw [hexl_take hx, byteCells_app]
        have e1 : hex2 x = [hexd q, hexd v] := by simp [hex2, HQ.out, HV.out]
        rw [e1]
        simpa [Lib.byteCells] using hbl3
      case measure => simp [intOf]; omega
    · have hje : j = s.size := by omega
      have htk : s.data.toList.take s.size = s.data.toList := List.take_of_length_le (by rw [Array.length_toList]; exact Nat.le_refl _)
      rw [hje, htk] at hbl
      obtain ⟨p, v, hp, hbb, hown⟩ := hbl
      have hF : Lib.IsBuilderF 115 5 w.heap.size w.heap.size (Lib.byteCells (hexl s.data.toList)) wr := by
        have hneq : v.ownBlock ≠ some w.heap.size := by
          intro e
          have := (hown.lt _ e).1
          omega
        have hown2 : wr.ownsRowF w.heap.size 5 1 v (Lib.byteCells (hexl s.data.toList)).length (Lib.byteCells (hexl s.data.toList)) := by
          refine ⟨hown.1, ?_⟩
          rcases hown.2 with hn | ⟨g, cap, cur, fz, h1, h2, h3⟩
          · exact .inl hn
          · exact .inr ⟨g, cap, cur, fz, h1, by omega, h3⟩
        rcases hp with rfl | rfl
        · exact .inl ⟨Nat.le_refl _, v, hbb, hown2, hneq⟩
        · exact .inr ⟨Nat.le_refl _, v, hbb, hown2, hneq⟩
      have hap' := hap.below (by omega)
      have hsr := hap.size
      have hfin := Tryz.Builder_String_any_k w.heap.size w.heap.size (hexl s.data.toList) wr hF (by omega)
      have HJ := Lib.hid hje
      clear hje
      go_wp2_with (go_at_call 56; refine hfin.mono ?_; rintro e w4 ⟨rfl, _, hb4, _⟩)
      go_ret
      exact ⟨rfl, (hbel.trans hap').trans hb4⟩
end Go.Proofs.YtiglllddgikeiabGreatDoor

namespace Go.Proofs.YtiglllddgikeiabGreatDoor
open Go.RowKit Go.Rep
set_option maxRecDepth 100000
theorem Lib_up {b : Nat} {bs : List Value} {w w' : World} (h : Lib.IsBuilderF 115 5 b b bs w) (hb : Below w.heap.size w w') : Lib.IsBuilderF 115 5 b b bs w' := by
  have aux : ∀ p, Lib.BuilderAtF 115 5 b b p bs w → Lib.BuilderAtF 115 5 b b p bs w' := by
    rintro p ⟨h1, v, h2, h3, h4⟩
    have hlt : b < w.heap.size := (Array.getElem?_eq_some_iff.1 h2).1
    exact ⟨h1, v, (hb.block b hlt).trans h2, h3.kept (row := none) ⟨hb.os, hb.tape, hb.output, hb.size, fun k hk _ => hb.block k hk⟩ (by cases hv : v.ownBlock <;> simp), h4⟩
  exact h.elim (fun x => .inl (aux _ x)) (fun x => .inr (aux _ x))
theorem strCells_S (a : List UInt8) : Lib.strCells (S a) = Lib.byteCells a := by simp [Lib.strCells, Lib.byteCells, S]
/-- WriteString, in the words of this text. -/
theorem ws_any {b : Nat} {acc a : List UInt8} {w : World} (h : Lib.IsBuilderF 115 5 b b (Lib.byteCells acc) w) (hlen : acc.length + a.length ≤ 1000000000) (hbw : b < w.heap.size) :
    Calls Tryz.prog 51 #[.pointer (some ⟨b, 0, none⟩), .string (S a)] w fun e w' => (∃ u, e = .returned (.tuple #[.int .i64 u, .nilIface])) ∧ Lib.IsBuilderF 115 5 b b (Lib.byteCells (acc ++ a)) w' ∧ Below b w w' ∧ Lib.OthersKept 5 (some b) w w' := by
  refine (Tryz.wstring b b _ (S a) w h (by rw [byteCells_len, S_size]; omega) (by omega)).mono ?_
  rintro e w' ⟨rfl, h1, h2, h3⟩
  rw [strCells_S, ← byteCells_app] at h1
  exact ⟨⟨_, rfl⟩, .inr h1, h2, h3⟩
theorem wnl_any {b : Nat} {acc : List UInt8} {w : World} (h : Lib.IsBuilderF 115 5 b b (Lib.byteCells acc) w) (hlen : acc.length ≤ 1000000000) (hbw : b < w.heap.size) :
    Calls Tryz.prog 55 #[.pointer (some ⟨b, 0, none⟩), .int .u8 10] w fun e w' => e = .returned .nilIface ∧ Lib.IsBuilderF 115 5 b b (Lib.byteCells (acc ++ [10])) w' ∧ Below b w w' ∧ Lib.OthersKept 5 (some b) w w' := by
  refine (Tryz.wbyte b b _ 10 w h (by rw [byteCells_len]; omega) (by omega)).mono ?_
  rintro e w' ⟨rfl, h1, h2, h3⟩
  have e1 : Lib.byteCells acc ++ [Value.int .u8 10] = Lib.byteCells (acc ++ [10]) := by simp [Lib.byteCells]
  rw [e1] at h1
  exact ⟨rfl, .inr h1, h2, h3⟩
theorem bl_new (w : World) : Lib.IsBuilderF 115 5 w.heap.size w.heap.size (Lib.byteCells []) (w.alloc (.cells #[.pointer none, .slice none 0 0] 115)) :=
  .inl ⟨Nat.le_refl _, .slice none 0 0, heap_alloc_new w _, World.ownsRowF_nil _ _ 5 1, by simp [Value.ownBlock]⟩
theorem kept_blk {b g : Nat} {w w' : World} {t : TypeId} {cs : Array Value} (h : Blk w g t cs) (hk : Lib.OthersKept 5 (some b) w w') (hne : g ≠ b) (ht : t ≠ 5) : Blk w' g t cs := by
  refine hk g _ h (fun e => hne (Option.some.inj e)) (fun c fz e => ?_)
  cases e
  exact ht rfl
theorem reads_ints (w : World) (l : List Int) (cs : Array Value) (h : cs.toList = l.map (Value.int .i64)) : Reads (w.alloc (.cells cs 3)) (w.heap.size + 1) 1 (some ⟨w.heap.size, 0, none⟩) l.length (l.map (Value.int .i64)) := by
  refine ⟨by simp, fun _ => ⟨_, rfl, Nat.lt_succ_self _, fun j u hu => ?_⟩⟩
  rw [show (⟨w.heap.size, 0, none⟩ : Addr).add j = ⟨w.heap.size, j, none⟩ by simp [Addr.add]; omega, (Blk.new w 3 cs).cell j, ← hu, ← h, Array.getElem?_toList]
theorem numbers_v {w : World} (l : List Int) (v : List UInt8) (hv : Hid (numsL l = v)) (cs : Array Value) (hcs : cs.toList = l.map (Value.int .i64)) (hl : l.length ≤ 3) (hb : ∀ x ∈ l, -4611686018427387904 ≤ x ∧ x ≤ 4611686018427387904) (hw : Laid w) :
    Calls Tryz.prog 52 #[.slice (some ⟨w.heap.size, 0, none⟩) l.length l.length] (w.alloc (.cells cs 3)) fun e w' => e = .returned (.string (S v)) ∧ Below (w.alloc (.cells cs 3)).heap.size (w.alloc (.cells cs 3)) w' := by
  rw [← hv.out]
  exact numbers_any (reads_ints w l cs hcs) (by simp) hl hb (hw.up ((Below.refl _ _).alloc (Nat.le_refl _) (.cells cs 3)))
theorem hexed_v {s : ByteArray} {w : World} (hs : s.size ≤ 100000) (v : List UInt8) (hv : Hid (hexl s.data.toList = v)) : Calls Tryz.prog 54 #[.string s] w fun e w' => e = .returned (.string (S v)) ∧ Below w.heap.size w w' := by
  rw [← hv.out]
  exact hexed_any hs
section
variable {r c h : Int} {A : Option Addr} {m cp B : Nat} {l : List Ev} {w : World}
set_option maxHeartbeats 4000000 in
theorem rtext_bad (hr : Reads w B 6 A m (evCells l)) (hB : B ≤ w.heap.size) (hc : cp ≤ maxLen) (hmc : m ≤ cp) (hv : validB r c h l = false) :
    Calls Tryz.prog 26 #[.agg (recO r c h A m cp)] w fun e w' => e = .returned (.tuple #[.string (S []), .int .i64 2]) ∧ Below w.heap.size w w' := by
  have HV := Lib.hid hv
  clear hv
  have hb0 : Below w.heap.size w (w.alloc (.cells (recO r c h A m cp) 26)) := (Below.refl _ _).alloc (Nat.le_refl _) _
  go_enter Tryz.func26, Tryz.ntmps26
  go_wp2_with (go_at_call 30; refine (valid_any (hr.alloc hB (.cells (recO r c h A m cp) 26)) (by simp; omega) hc hmc).mono ?_; rintro e w2 ⟨rfl, hb2⟩; rw [HV.out])
  go_ret2
  exact ⟨rfl, hb0.then _ hb2⟩
set_option maxHeartbeats 4000000 in
theorem rtext_ok (hr : Reads w B 6 A m (evCells l)) (hB : B ≤ w.heap.size) (hc : cp ≤ maxLen) (hmc : m ≤ cp) (hv : validB r c h l = true) (hw : Laid w) :
    Calls Tryz.prog 26 #[.agg (recO r c h A m cp)] w fun e w' => e = .returned (.tuple #[.string (S (textL r c h l)), .int .i64 0]) ∧ Below w.heap.size w w' := by
  obtain ⟨p1, p2, p3, p4, p5, p6, p7, _⟩ := valid_parts hv
  have hm2 : m ≤ 2000 := by rw [← hr.evs]; exact p7
  have HL := Lib.hid hr.evs
  have HV := Lib.hid hv
  clear hv
  have HW := Lib.hid hw
  have hra := hr.alloc hB (.cells (recO r c h A m cp) 26)
  have B1 := Blk.new w 26 (recO r c h A m cp)
  have hb0 : Below w.heap.size w (w.alloc (.cells (recO r c h A m cp) 26)) := (Below.refl _ _).alloc (Nat.le_refl _) _
  have zl := numsL_len (l := [r, c, h]) (by simp; omega)
  have hnl : ([r, c, h] : List Int).length = 3 := rfl
  generalize hnn : numsL [r, c, h] = nn at *
  have HN := Lib.hid hnn
  have hnz : nn.length ≤ 66 := by omega
  obtain ⟨znn, ynn⟩ := sized nn
  obtain ⟨s0, sz0, sE0, sl0, sq0, sn0, sy0⟩ := cat [116, 101, 114, 109, 105, 110, 97, 108] nn ⟨#[116, 101, 114, 109, 105, 110, 97, 108]⟩ (S nn) 8 znn 8 66 74 rfl rfl rfl ynn (by decide) hnz rfl (by decide)
  obtain ⟨s1, sz1, sE1, sl1, sq1, sn1, sy1⟩ := cat s0 [10] (S s0) ⟨#[10]⟩ sz0 1 74 1 75 rfl rfl sy0 rfl sl0 (by decide) rfl (by decide)
  go_enter Tryz.func26, Tryz.ntmps26
  go_upto_region 5 with (first
    | (go_at_call 30; refine (valid_any hra (by simp; omega) hc hmc).mono ?_; rintro e w2 ⟨rfl, hb2⟩; rw [HV.out]; have B2 := B1.below hb2 B1.lt; have a0 : w2.cell? ⟨w.heap.size, 0, none⟩ = some (.int .i64 r) := B2.cell 0; have a1 : w2.cell? ⟨w.heap.size, 1, none⟩ = some (.int .i64 c) := B2.cell 1; have a2 : w2.cell? ⟨w.heap.size, 2, none⟩ = some (.int .i64 h) := B2.cell 2; have d0 : ∀ o, (w2.alloc o).cell? ⟨w.heap.size, 0, none⟩ = some (.int .i64 r) := fun o => (B2.alloc o).cell 0; have d1 : ∀ o, (w2.alloc o).cell? ⟨w.heap.size, 1, none⟩ = some (.int .i64 c) := fun o => (B2.alloc o).cell 1; have d2 : ∀ o, (w2.alloc o).cell? ⟨w.heap.size, 2, none⟩ = some (.int .i64 h) := fun o => (B2.alloc o).cell 2))
  have hL1 := HW.out.up (hb0.then _ hb2)
  have hbw2 := (hb0.then _ hb2)
  have hnum := numbers_any (cp := 3) (reads_ints (w2.alloc (.cells #[.pointer none, .slice none 0 0] 115)) [r, c, h] #[.int .i64 r, .int .i64 c, .int .i64 h] rfl) (by simp) (by simp) (by simp; omega) ((hL1.up ((Below.refl _ _).alloc (Nat.le_refl _) (.cells #[.pointer none, .slice none 0 0] 115))).up ((Below.refl _ _).alloc (Nat.le_refl _) (.cells #[.int .i64 r, .int .i64 c, .int .i64 h] 3)))
  have hsz1 : (w2.alloc (.cells #[.pointer none, .slice none 0 0] 115)).heap.size = w2.heap.size + 1 := by simp
  rw [hsz1, hnn] at hnum
  have hN0 := (((bl_new w2).alloc (.cells #[.int .i64 r, .int .i64 c, .int .i64 h] 3)))
  clear hnn
  have T2 := (B2.alloc (.cells #[.pointer none, .slice none 0 0] 115)).alloc (.cells #[.int .i64 r, .int .i64 c, .int .i64 h] 3)
  go_upto_region 7 with (first
    | (go_at_call 52; refine hnum.mono ?_; rintro e w3 ⟨rfl, hb3⟩; have hI3 := Lib_up hN0 hb3; have T3 := T2.below hb3 T2.lt)
    | (go_at_call 51; refine (ws_any (acc := []) hI3 (by simp; omega) (by have := hb3.size; simp at this; omega)).mono ?_; rintro e w4 ⟨⟨u, rfl⟩, hI4, hb4, hk4⟩; have T4 := T3.below hb4 B2.lt; have a3 : w4.cell? ⟨w.heap.size, 3, none⟩ = some (.slice A m cp) := T4.cell 3))
  have hbb : w.heap.size < w2.heap.size := B2.lt
  have hlt4 : ∀ (bs : List Value) (x : World), Lib.IsBuilderF 115 5 w2.heap.size w2.heap.size bs x → w2.heap.size < x.heap.size := by
    rintro bs x (⟨_, v, hb, _⟩ | ⟨_, v, hb, _⟩) <;> exact (Array.getElem?_eq_some_iff.1 hb).1
  have ht0 : Hid (s1 = textTo r c h l 0) := Lib.hid (by rw [textTo_zero, sE1.out, sE0.out, ← HN.out]; simp [headL, numsL])
  have hbw4 : Below w.heap.size w w4 := (((hbw2.alloc hbw2.size (.cells #[.pointer none, .slice none 0 0] 115)).alloc (by have := hbw2.size; simp; omega) (.cells #[.int .i64 r, .int .i64 c, .int .i64 h] 3)).then _ hb3).trans (hb4.mono (by omega))
  have HB4 := Lib.hid hbw4
  rw [List.nil_append] at hI4
  clear hI3 hN0 hnum T2 T3 a0 a1 a2 a3 d0 d1 d2 B1 B2 hb3 hb4 hk4 hbw4 hL1 hbw2 hb0 hb2 hra
  go_loopw [5, 28] (fun la i wr => ∃ (k : Nat) (acc : List UInt8), k ≤ m ∧ la = .int .i64 (lastOf 0 (l.take k)) ∧ i = .int .i64 k ∧ Hid (acc = textTo r c h l k) ∧ Blk wr w.heap.size 26 (recO r c h A m cp) ∧ Lib.IsBuilderF 115 5 w2.heap.size w2.heap.size (Lib.byteCells acc) wr ∧ Below w.heap.size w wr) (fun _ i _ => m - (intOf i).toNat)
  case atStart => exact ⟨0, s1, Nat.zero_le _, rfl, rfl, ht0, T4, hI4, HB4.out⟩
  case round =>
    obtain ⟨k, acc, hk, rfl, rfl, hacc, Tr, hI, hbr⟩ := hrel
    have hsz := hbr.size
    have hltr := hlt4 _ _ hI
    by_cases hlt : k < m
    · have hrr := hr.below (hbr.mono hB)
      obtain ⟨ad, e, rfl, he, x0, x1, x2, x3, x4, x5⟩ := hrr.ev hlt
      obtain ⟨ta, tk, ts, tr, tc, tn⟩ := e
      obtain ⟨hok, l0, l1, l2⟩ := valid_at HV.out he
      have hcs := okOp_cases hok
      dsimp only at x0 x1 x2 x3 x4 x5 l0 l1 l2 hcs
      have HE := Lib.hid he
      clear he
      have zd := itoa_len (ta - lastOf 0 (l.take k)) (by omega) (by omega)
      have hwd : IntKind.i64.wrap (ta - lastOf 0 (l.take k)) = ta - lastOf 0 (l.take k) := IntWalk.i64_in _ (by omega)
      have hla : acc.length ≤ 20000000 := by rw [hacc.out]; exact textTo_len HV.out k
      obtain ⟨dd, hdd⟩ : ∃ dd, Lib.itoa (ta - lastOf 0 (l.take k)) = dd := ⟨_, rfl⟩
      rw [hdd] at zd
      have HD := Lib.hid hdd
      clear hdd
      rcases hcs with ⟨rfl, es1, es2, rfl, rfl, rfl⟩ | ⟨rfl, rfl, er1, er2, ec1, ec2, rfl⟩ | ⟨rfl, rfl, rfl, rfl, en0, en1, en2⟩
      · obtain ⟨nv, hnv⟩ : ∃ nv, hexl ts.data.toList = nv := ⟨_, rfl⟩
        have bnv : nv.length ≤ 8192 := by rw [← hnv, hexl_length, Array.length_toList]; show 2 * ts.size ≤ 8192; omega
        have HNV := Lib.hid hnv
        clear hnv
        have Y0 := Blk.new wr 40 #[.int .i64 ta, .int .i64 1, .string ts, .int .i64 0, .int .i64 0, .int .i64 0]
        have hIa := hI.alloc (.cells #[.int .i64 ta, .int .i64 1, .string ts, .int .i64 0, .int .i64 0, .int .i64 0] 40)
        have Ta := Tr.alloc (.cells #[.int .i64 ta, .int .i64 1, .string ts, .int .i64 0, .int .i64 0, .int .i64 0] 40)
        have hba : Below w.heap.size w (wr.alloc (.cells #[.int .i64 ta, .int .i64 1, .string ts, .int .i64 0, .int .i64 0, .int .i64 0] 40)) := hbr.alloc hsz _
        have cd := itoa_any (ta - lastOf 0 (l.take k)) (by omega) (by omega) (HW.out.up hba)
        rw [HD.out] at cd
        obtain ⟨znv, ynv⟩ := sized nv
        obtain ⟨v0, vz0, vE0, vl0, vq0, vn0, vy0⟩ := cat [32, 119, 114, 105, 116, 101, 32] nv ⟨#[32, 119, 114, 105, 116, 101, 32]⟩ (S nv) 7 znv 7 8192 8199 rfl rfl rfl ynv (by decide) bnv rfl (by decide)
        go_wp2_with (first
          | (have qq := hI8; clear qq; go_at_call 55; refine (wnl_any hI8 (by simp only [List.length_append]; omega) (hlt4 _ _ hI8)).mono ?_; rintro e9 w9 ⟨rfl, hI9, hb9, hk9⟩; have T9 := T8.below hb9 hbb)
          | (have qq := hI7; clear qq; go_at_call 51; refine (ws_any hI7 (by simp only [List.length_append]; omega) (hlt4 _ _ hI7)).mono ?_; rintro e8 w8 ⟨⟨u8, rfl⟩, hI8, hb8, hk8⟩; have T8 := T7.below hb8 hbb)
          | (have qq := hI6; clear qq; go_at_call 54; refine (hexed_v (by omega) nv HNV).mono ?_; rintro e7 w7 ⟨rfl, hb7⟩; have hI7 := Lib_up hI6 hb7; have T7 := T6.below hb7 T6.lt)
          | (have qq := hI5; clear qq; go_at_call 51; refine (ws_any hI5 (by omega) (hlt4 _ _ hI5)).mono ?_; rintro e6 w6 ⟨⟨u6, rfl⟩, hI6, hb6, hk6⟩; have T6 := T5.below hb6 hbb; have Y6 := kept_blk Y5 hk6 (by omega) (by decide); have g0 : w6.cell? ⟨wr.heap.size, 0, none⟩ = some (.int .i64 ta) := (Y6).cell 0; have g1 : w6.cell? ⟨wr.heap.size, 1, none⟩ = some (.int .i64 1) := (Y6).cell 1; have g2 : w6.cell? ⟨wr.heap.size, 2, none⟩ = some (.string ts) := (Y6).cell 2; have ga2 : ∀ o, (w6.alloc o).cell? ⟨wr.heap.size, 2, none⟩ = some (.string ts) := fun o => (Y6.alloc o).cell 2; have hB6 : Below w.heap.size w w6 := (hba.then _ hb5).trans (hb6.mono (by omega)))
          | (go_at_call 53; refine cd.mono ?_; rintro e5 w5 ⟨rfl, hb5⟩; have hI5 := Lib_up hIa hb5; have T5 := Ta.below hb5 Ta.lt; have Y5 := Y0.below hb5 Y0.lt))
        go_roundw
        case rel =>
          have hB9 : Below w.heap.size w w9 := (((hB6).then _ hb7).trans (hb8.mono (by omega))).trans (hb9.mono (by omega))
          refine ⟨k + 1, _, by omega, by rw [lastOf_succ HE.out], by go_num, Lib.hid ?_, T9, hI9, hB9⟩
          rw [textTo_succ HE.out, vE0.out, ← HNV.out, ← HD.out, hacc.out]
          simp [evL, bodyL]
        case measure => simp [intOf]; omega
      · obtain ⟨nv, hnv⟩ : ∃ nv, numsL [tr, tc] = nv := ⟨_, rfl⟩
        have bnv := numsL_len (l := [tr, tc]) (by simp; omega)
        have zl2 : ([tr, tc] : List Int).length = 2 := rfl
        rw [hnv, zl2] at bnv
        have HNV := Lib.hid hnv
        clear hnv
        have Y0 := Blk.new wr 40 #[.int .i64 ta, .int .i64 2, .string (S []), .int .i64 tr, .int .i64 tc, .int .i64 0]
        have hIa := hI.alloc (.cells #[.int .i64 ta, .int .i64 2, .string (S []), .int .i64 tr, .int .i64 tc, .int .i64 0] 40)
        have Ta := Tr.alloc (.cells #[.int .i64 ta, .int .i64 2, .string (S []), .int .i64 tr, .int .i64 tc, .int .i64 0] 40)
        have hba : Below w.heap.size w (wr.alloc (.cells #[.int .i64 ta, .int .i64 2, .string (S []), .int .i64 tr, .int .i64 tc, .int .i64 0] 40)) := hbr.alloc hsz _
        have cd := itoa_any (ta - lastOf 0 (l.take k)) (by omega) (by omega) (HW.out.up hba)
        rw [HD.out] at cd
        obtain ⟨znv, ynv⟩ := sized nv
        obtain ⟨v0, vz0, vE0, vl0, vq0, vn0, vy0⟩ := cat [32, 114, 101, 115, 105, 122, 101] nv ⟨#[32, 114, 101, 115, 105, 122, 101]⟩ (S nv) 7 znv 7 44 51 rfl rfl rfl ynv (by decide) bnv rfl (by decide)
        go_wp2_with (first
          | (have qq := hI8; clear qq; go_at_call 55; refine (wnl_any hI8 (by simp only [List.length_append]; omega) (hlt4 _ _ hI8)).mono ?_; rintro e9 w9 ⟨rfl, hI9, hb9, hk9⟩; have T9 := T8.below hb9 hbb)
          | (have qq := hI7; clear qq; go_at_call 51; refine (ws_any hI7 (by simp only [List.length_append]; omega) (hlt4 _ _ hI7)).mono ?_; rintro e8 w8 ⟨⟨u8, rfl⟩, hI8, hb8, hk8⟩; have T8 := T7.below hb8 hbb)
          | (have qq := hI6; clear qq; go_at_call 52; refine (numbers_v [tr, tc] nv HNV #[.int .i64 tr, .int .i64 tc] rfl (by simp) (by simp; omega) (HW.out.up hB6)).mono ?_; rintro e7 w7 ⟨rfl, hb7⟩; have hI7 := Lib_up (hI6.alloc (.cells #[.int .i64 tr, .int .i64 tc] 3)) hb7; have T7 := (T6.alloc (.cells #[.int .i64 tr, .int .i64 tc] 3)).below hb7 (T6.alloc (.cells #[.int .i64 tr, .int .i64 tc] 3)).lt)
          | (have qq := hI5; clear qq; go_at_call 51; refine (ws_any hI5 (by omega) (hlt4 _ _ hI5)).mono ?_; rintro e6 w6 ⟨⟨u6, rfl⟩, hI6, hb6, hk6⟩; have T6 := T5.below hb6 hbb; have Y6 := kept_blk Y5 hk6 (by omega) (by decide); have g0 : w6.cell? ⟨wr.heap.size, 0, none⟩ = some (.int .i64 ta) := (Y6).cell 0; have g1 : w6.cell? ⟨wr.heap.size, 1, none⟩ = some (.int .i64 2) := (Y6).cell 1; have g3 : w6.cell? ⟨wr.heap.size, 3, none⟩ = some (.int .i64 tr) := (Y6).cell 3; have g4 : w6.cell? ⟨wr.heap.size, 4, none⟩ = some (.int .i64 tc) := (Y6).cell 4; have ga3 : ∀ o, (w6.alloc o).cell? ⟨wr.heap.size, 3, none⟩ = some (.int .i64 tr) := fun o => (Y6.alloc o).cell 3; have ga4 : ∀ o, (w6.alloc o).cell? ⟨wr.heap.size, 4, none⟩ = some (.int .i64 tc) := fun o => (Y6.alloc o).cell 4; have hB6 : Below w.heap.size w w6 := (hba.then _ hb5).trans (hb6.mono (by omega)))
          | (go_at_call 53; refine cd.mono ?_; rintro e5 w5 ⟨rfl, hb5⟩; have hI5 := Lib_up hIa hb5; have T5 := Ta.below hb5 Ta.lt; have Y5 := Y0.below hb5 Y0.lt))
        go_roundw
        case rel =>
          have hB9 : Below w.heap.size w w9 := (((hB6.alloc hB6.size (.cells #[.int .i64 tr, .int .i64 tc] 3)).then _ hb7).trans (hb8.mono (by omega))).trans (hb9.mono (by omega))
          refine ⟨k + 1, _, by omega, by rw [lastOf_succ HE.out], by go_num, Lib.hid ?_, T9, hI9, hB9⟩
          rw [textTo_succ HE.out, vE0.out, ← HNV.out, ← HD.out, hacc.out]
          simp [evL, bodyL, numsL, numL]
        case measure => simp [intOf]; omega
      · obtain ⟨nv, hnv⟩ : ∃ nv, numsL [tn] = nv := ⟨_, rfl⟩
        have bnv := numsL_len (l := [tn]) (by simp; omega)
        have zl2 : ([tn] : List Int).length = 1 := rfl
        rw [hnv, zl2] at bnv
        have HNV := Lib.hid hnv
        clear hnv
        have Y0 := Blk.new wr 40 #[.int .i64 ta, .int .i64 3, .string (S []), .int .i64 0, .int .i64 0, .int .i64 tn]
        have hIa := hI.alloc (.cells #[.int .i64 ta, .int .i64 3, .string (S []), .int .i64 0, .int .i64 0, .int .i64 tn] 40)
        have Ta := Tr.alloc (.cells #[.int .i64 ta, .int .i64 3, .string (S []), .int .i64 0, .int .i64 0, .int .i64 tn] 40)
        have hba : Below w.heap.size w (wr.alloc (.cells #[.int .i64 ta, .int .i64 3, .string (S []), .int .i64 0, .int .i64 0, .int .i64 tn] 40)) := hbr.alloc hsz _
        have cd := itoa_any (ta - lastOf 0 (l.take k)) (by omega) (by omega) (HW.out.up hba)
        rw [HD.out] at cd
        obtain ⟨znv, ynv⟩ := sized nv
        obtain ⟨v0, vz0, vE0, vl0, vq0, vn0, vy0⟩ := cat [32, 115, 99, 114, 111, 108, 108] nv ⟨#[32, 115, 99, 114, 111, 108, 108]⟩ (S nv) 7 znv 7 22 29 rfl rfl rfl ynv (by decide) bnv rfl (by decide)
        go_wp2_with (first
          | (have qq := hI8; clear qq; go_at_call 55; refine (wnl_any hI8 (by simp only [List.length_append]; omega) (hlt4 _ _ hI8)).mono ?_; rintro e9 w9 ⟨rfl, hI9, hb9, hk9⟩; have T9 := T8.below hb9 hbb)
          | (have qq := hI7; clear qq; go_at_call 51; refine (ws_any hI7 (by simp only [List.length_append]; omega) (hlt4 _ _ hI7)).mono ?_; rintro e8 w8 ⟨⟨u8, rfl⟩, hI8, hb8, hk8⟩; have T8 := T7.below hb8 hbb)
          | (have qq := hI6; clear qq; go_at_call 52; refine (numbers_v [tn] nv HNV #[.int .i64 tn] rfl (by simp) (by simp; omega) (HW.out.up hB6)).mono ?_; rintro e7 w7 ⟨rfl, hb7⟩; have hI7 := Lib_up (hI6.alloc (.cells #[.int .i64 tn] 3)) hb7; have T7 := (T6.alloc (.cells #[.int .i64 tn] 3)).below hb7 (T6.alloc (.cells #[.int .i64 tn] 3)).lt)
          | (have qq := hI5; clear qq; go_at_call 51; refine (ws_any hI5 (by omega) (hlt4 _ _ hI5)).mono ?_; rintro e6 w6 ⟨⟨u6, rfl⟩, hI6, hb6, hk6⟩; have T6 := T5.below hb6 hbb; have Y6 := kept_blk Y5 hk6 (by omega) (by decide); have g0 : w6.cell? ⟨wr.heap.size, 0, none⟩ = some (.int .i64 ta) := (Y6).cell 0; have g1 : w6.cell? ⟨wr.heap.size, 1, none⟩ = some (.int .i64 3) := (Y6).cell 1; have g5 : w6.cell? ⟨wr.heap.size, 5, none⟩ = some (.int .i64 tn) := (Y6).cell 5; have ga5 : ∀ o, (w6.alloc o).cell? ⟨wr.heap.size, 5, none⟩ = some (.int .i64 tn) := fun o => (Y6.alloc o).cell 5; have hB6 : Below w.heap.size w w6 := (hba.then _ hb5).trans (hb6.mono (by omega)))
          | (go_at_call 53; refine cd.mono ?_; rintro e5 w5 ⟨rfl, hb5⟩; have hI5 := Lib_up hIa hb5; have T5 := Ta.below hb5 Ta.lt; have Y5 := Y0.below hb5 Y0.lt))
        go_roundw
        case rel =>
          have hB9 : Below w.heap.size w w9 := (((hB6.alloc hB6.size (.cells #[.int .i64 tn] 3)).then _ hb7).trans (hb8.mono (by omega))).trans (hb9.mono (by omega))
          refine ⟨k + 1, _, by omega, by rw [lastOf_succ HE.out], by go_num, Lib.hid ?_, T9, hI9, hB9⟩
          rw [textTo_succ HE.out, vE0.out, ← HNV.out, ← HD.out, hacc.out]
          simp [evL, bodyL, numsL, numL]
        case measure => simp [intOf]; omega
    · obtain rfl : k = m := by omega
      have hfin : Hid (acc = textL r c h l) := Lib.hid (by rw [hacc.out, textTo_all (by rw [HL.out]; exact Nat.le_refl _)])
      rw [hfin.out] at hI
      have hstr := Tryz.Builder_String_any_k w2.heap.size w2.heap.size _ wr hI (by omega)
      go_wp2_with (go_at_call 56; refine hstr.mono ?_; rintro e w9 ⟨rfl, _, hb9, _⟩)
      go_ret2
      exact ⟨rfl, hbr.trans (hb9.mono (by omega))⟩
end
end Go.Proofs.YtiglllddgikeiabGreatDoor
