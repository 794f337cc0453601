/- A part of the proof of RepaintBytes. -/
import Derived.Test.YthophmihgmjnfaaDoorVD
import Derived.Lib.SliceRun
import Derived.WalkKit
import Derived.ProofKit
import Derived.LoopTactic
import Derived.OwnWalk
import Derived.Maps.AppendAt
import Derived.Deep.Onto
import Derived.Lib.Hide
import Derived.Laws.Rows
import Derived.KernelRfl
import Derived.Deep.RegionLaw
import Derived.Deep.RegionHeld3
import Derived.Deep.CutBlock
import Derived.Deep.DeepCutAuto
import Derived.BigFrame
import Derived.Deep.QuietTactic
import Derived.BigQuiet
import Derived.Deep.Light
import Derived.Laws.ResultCell
set_option linter.unusedVariables false
set_option linter.unusedSimpArgs false
-- --
namespace Go.Proofs.YthophmihgmjnfaaDoor
open Go.RowKit Go.Rep
set_option maxRecDepth 100000
set_option linter.unusedSimpArgs false
def ivals (l : List Int) : List Value := l.map (Value.int .i64)
theorem ivals_length (l : List Int) : (ivals l).length = l.length := by simp [ivals]
theorem ivals_append (l m : List Int) : ivals (l ++ m) = ivals l ++ ivals m := by simp [ivals]
theorem ivals_one (l : List Int) : ∀ u ∈ ivals l, u.oneCell' = true := by
  intro u hu
  simp only [ivals, List.mem_map] at hu
  obtain ⟨x, _, rfl⟩ := hu
  rfl
abbrev OwnI (w : World) (B : Nat) (v : Value) (l : List Int) : Prop := w.ownsRow B 3 1 v l.length (ivals l)
theorem ownI_new (w : World) (l : List Int) (hn : l.length ≤ maxLen) : OwnI (w.alloc (.cells (ivals l).toArray 3)) w.heap.size (.slice (some ⟨w.heap.size, 0, none⟩) l.length l.length) l := ⟨by rw [ivals_length]; omega, .inr ⟨w.heap.size, l.length, (ivals l).toArray, rfl, Nat.le_refl _, heap_alloc_new w _, Nat.le_refl _, hn, by simp [ivals_length], by rw [Nat.mul_one]; exact List.take_of_length_le (by show (ivals l).length ≤ _; rw [ivals_length]; exact Nat.le_refl _)⟩⟩
structure okC (c : Col) : Prop where
  i0 : 0 ≤ c.i
  i1 : c.i ≤ 255
  r0 : 0 ≤ c.r
  r1 : c.r ≤ 255
  g0 : 0 ≤ c.g
  g1 : c.g ≤ 255
  b0 : 0 ≤ c.b
  b1 : c.b ≤ 255
def numbersL (c : Col) (base : Int) : List Int := if c.k = 0 then [base + 9] else if c.k = 2 then [base + 8, 2, c.r, c.g, c.b] else if c.i < 8 then [base + c.i] else if c.i < 16 then [base + 60 + c.i - 8] else [base + 8, 5, c.i]
set_option maxHeartbeats 2000000 in
theorem numbers_any (c : Col) (base : Int) (hr : okC c) (h0 : 0 ≤ base) (h1 : base ≤ 40) (w : World) : Calls Tryd.prog 45 #[.agg #[.int .i64 c.k, .int .u8 c.i, .int .u8 c.r, .int .u8 c.g, .int .u8 c.b], .int .i64 base] w fun e w' => ∃ v, e = .returned v ∧ OwnI w' w.heap.size v (numbersL c base) ∧ Below w.heap.size w w' := by
  obtain ⟨i0, i1, r0, r1, g0, g1, b0, b1⟩ := hr
  have hb0 : Below w.heap.size w (w.alloc (.cells #[.int .i64 c.k, .int .u8 c.i, .int .u8 c.r, .int .u8 c.g, .int .u8 c.b] 41)) := (Below.refl _ _).alloc (Nat.le_refl _) _
  have fin : ∀ l : List Int, l.length ≤ 9 → OwnI ((w.alloc (.cells #[.int .i64 c.k, .int .u8 c.i, .int .u8 c.r, .int .u8 c.g, .int .u8 c.b] 41)).alloc (.cells (ivals l).toArray 3)) w.heap.size (.slice (some ⟨w.heap.size + 1, 0, none⟩) l.length l.length) l ∧ Below w.heap.size w ((w.alloc (.cells #[.int .i64 c.k, .int .u8 c.i, .int .u8 c.r, .int .u8 c.g, .int .u8 c.b] 41)).alloc (.cells (ivals l).toArray 3)) := fun l hl => by
    refine ⟨?_, hb0.alloc (by simp) _⟩
    have := ownI_new (w.alloc (.cells #[.int .i64 c.k, .int .u8 c.i, .int .u8 c.r, .int .u8 c.g, .int .u8 c.b] 41)) l (by unfold maxLen; omega)
    rw [alloc_size] at this
    exact World.ownsRow.mono this (by omega)
  have FIN := Lib.hid fin
  clear fin hb0
  have w1 : IntKind.i64.wrap (base + 9) = base + 9 := by rw [IntWalk.i64_in] <;> omega
  have w2 : IntKind.i64.wrap (base + 8) = base + 8 := by rw [IntWalk.i64_in] <;> omega
  have w3 : IntKind.i64.wrap c.r = c.r := by rw [IntWalk.i64_in] <;> omega
  have w4 : IntKind.i64.wrap c.g = c.g := by rw [IntWalk.i64_in] <;> omega
  have w5 : IntKind.i64.wrap c.b = c.b := by rw [IntWalk.i64_in] <;> omega
  have w6 : IntKind.i64.wrap c.i = c.i := by rw [IntWalk.i64_in] <;> omega
  have w7 : IntKind.i64.wrap (base + c.i) = base + c.i := by rw [IntWalk.i64_in] <;> omega
  have w8 : IntKind.i64.wrap (base + 60) = base + 60 := by rw [IntWalk.i64_in] <;> omega
  have w9 : IntKind.i64.wrap (base + 60 + c.i) = base + 60 + c.i := by rw [IntWalk.i64_in] <;> omega
  have wa : IntKind.i64.wrap (base + 60 + c.i - 8) = base + 60 + c.i - 8 := by rw [IntWalk.i64_in] <;> omega
  clear h0 h1 i0 i1 r0 r1 g0 g1 b0 b1
  by_cases k0 : c.k = 0
  · have e0 : (c.k == 0) = true := by simpa using k0
    have E := Lib.hid (show numbersL c base = [base + 9] by unfold numbersL; rw [if_pos k0])
    clear k0
    go_enter Tryd.func45, Tryd.ntmps45
    go_wp2
    go_ret
    exact ⟨_, rfl, by rw [E.out]; exact FIN.out [base + 9] (by simp)⟩
  · have e0 : (c.k == 0) = false := by simpa using k0
    by_cases k2 : c.k = 2
    · have e2 : (c.k == 2) = true := by simpa using k2
      have E := Lib.hid (show numbersL c base = [base + 8, 2, c.r, c.g, c.b] by unfold numbersL; rw [if_neg k0, if_pos k2])
      clear k0 k2
      go_enter Tryd.func45, Tryd.ntmps45
      go_wp2
      go_ret
      exact ⟨_, rfl, by rw [E.out]; exact FIN.out [base + 8, 2, c.r, c.g, c.b] (by simp)⟩
    · have e2 : (c.k == 2) = false := by simpa using k2
      by_cases k3 : c.i < 8
      · have E := Lib.hid (show numbersL c base = [base + c.i] by unfold numbersL; rw [if_neg k0, if_neg k2, if_pos k3])
        clear k0 k2
        go_enter Tryd.func45, Tryd.ntmps45
        go_wp2
        go_ret
        exact ⟨_, rfl, by rw [E.out]; exact FIN.out [base + c.i] (by simp)⟩
      · by_cases k4 : c.i < 16
        · have E := Lib.hid (show numbersL c base = [base + 60 + c.i - 8] by unfold numbersL; rw [if_neg k0, if_neg k2, if_neg k3, if_pos k4])
          clear k0 k2
          go_enter Tryd.func45, Tryd.ntmps45
          go_wp2
          go_ret
          exact ⟨_, rfl, by rw [E.out]; exact FIN.out [base + 60 + c.i - 8] (by simp)⟩
        · have E := Lib.hid (show numbersL c base = [base + 8, 5, c.i] by unfold numbersL; rw [if_neg k0, if_neg k2, if_neg k3, if_neg k4])
          clear k0 k2
          go_enter Tryd.func45, Tryd.ntmps45
          go_wp2
          go_ret
          exact ⟨_, rfl, by rw [E.out]; exact FIN.out [base + 8, 5, c.i] (by simp)⟩
end Go.Proofs.YthophmihgmjnfaaDoor

namespace Go.Proofs.YthophmihgmjnfaaDoor
open Go.RowKit Go.Rep
set_option maxRecDepth 100000
theorem int_info : (Tryd.prog.info? 3).map (fun i => (i.zero, i.size, i.bytes)) = some (some (.int .i64 0), 1, 8) := by kernel_rfl
def markT : List (Int × Int) := [(1, 1), (2, 2), (4, 3), (8, 4), (16, 5), (32, 7), (64, 8), (128, 9)]
def fAt (k : Nat) : Int := (markT.getD k (0, 0)).1
def nAt (k : Nat) : Int := (markT.getD k (0, 0)).2
theorem mark_index {k : Nat} (hk : k < 8) (w : World) : (Instr.index 92 (.agg #[.int .u8 1, .int .i64 1, .int .u8 2, .int .i64 2, .int .u8 4, .int .i64 3, .int .u8 8, .int .i64 4, .int .u8 16, .int .i64 5, .int .u8 32, .int .i64 7, .int .u8 64, .int .i64 8, .int .u8 128, .int .i64 9]) (.int .i64 k)).run Tryd.prog w = .ok (.agg #[.int .u8 (fAt k), .int .i64 (nAt k)]) w := by
  have h : k = 0 ∨ k = 1 ∨ k = 2 ∨ k = 3 ∨ k = 4 ∨ k = 5 ∨ k = 6 ∨ k = 7 := by omega
  rcases h with rfl | rfl | rfl | rfl | rfl | rfl | rfl | rfl
  all_goals (show _ = _; kernel_rfl)
theorem nAt_le (k : Nat) : 0 ≤ nAt k ∧ nAt k ≤ 9 := by
  rcases Nat.lt_or_ge k 8 with h | h
  · have h : k = 0 ∨ k = 1 ∨ k = 2 ∨ k = 3 ∨ k = 4 ∨ k = 5 ∨ k = 6 ∨ k = 7 := by omega
    rcases h with rfl | rfl | rfl | rfl | rfl | rfl | rfl | rfl <;> decide
  · have : markT.getD k (0, 0) = (0, 0) := by rw [List.getD_eq_getElem?_getD, List.getElem?_eq_none h]; rfl
    unfold nAt
    rw [this]
    decide
theorem Blk.readsAll {w : World} {g s n : Nat} {t : TypeId} {cs : List Value} (h : Blk w g t cs.toArray) (hl : cs.length = n * s) : Reads w (g + 1) s (some ⟨g, 0, none⟩) n cs := by
  refine ⟨hl, fun _ => ⟨_, rfl, Nat.lt_succ_self _, fun j u hu => ?_⟩⟩
  have := h.cell j
  rw [Addr.add_lit, Nat.zero_add, this]
  simpa using hu
theorem own_ge {w : World} {B : Nat} {v : Value} {l : List Int} (h : OwnI w B v l) : ∀ j, v.ownBlock = some j → B ≤ j := by
  rcases h.2 with ⟨rfl, _⟩ | ⟨g, cap, cur, rfl, hB, _⟩
  · intro j q; cases q
  · intro j q
    have : g = j := Option.some.inj q
    omega
def chStep (fa fb : Int) (k : Nat) : List Int := if bits .and .u8 fb (fAt k) != 0 then (if bits .and .u8 fa (fAt k) != 0 then [] else [nAt k]) else (if bits .and .u8 fa (fAt k) != 0 then [nAt k + 20] else [])
def chUp (fa fb : Int) : Nat → List Int
  | 0 => []
  | k + 1 => chUp fa fb k ++ chStep fa fb k
theorem chUp_len (fa fb : Int) (k : Nat) : (chUp fa fb k).length ≤ k := by
  induction k with
  | zero => exact Nat.le_refl _
  | succ k ih =>
    show (chUp fa fb k ++ chStep fa fb k).length ≤ k + 1
    rw [List.length_append]
    have : (chStep fa fb k).length ≤ 1 := by
      unfold chStep
      split <;> split <;> simp
    omega
/-- The flags that are left. -/
def wtB (a b : Pn) : Bool := bits .and .u8 (bits .andNot .u8 a.fl b.fl) 3 != 0
def flA (a b : Pn) : Int := if wtB a b then bits .andNot .u8 a.fl 3 else a.fl
def preL (a b : Pn) : List Int := if wtB a b then [22] else []
def changesL (a b : Pn) : List Int := ((preL a b ++ chUp (flA a b) b.fl 8) ++ (if a.f = b.f then [] else numbersL b.f 30)) ++ (if a.b = b.b then [] else numbersL b.b 40)
end Go.Proofs.YthophmihgmjnfaaDoor

set_option linter.unusedVariables false
namespace Go.Proofs.YthophmihgmjnfaaDoor
open Go.RowKit Go.Rep
set_option maxRecDepth 100000
set_option linter.unusedSimpArgs false
def sq : Nat → Code → Code
  | 0, c => c
  | n + 1, .seq _ b => sq n b
  | _, c => c
def fs : Code → Code
  | .seq a _ => a
  | c => c
def sn : Code → Code
  | .seq _ b => b
  | c => c
def bodyOf (f : Func) : Code := match f.body with
  | some c => c
  | none => .skip
set_option maxHeartbeats 8000000 in
theorem changes_loop (a b : Pn) {fa : Int} {N : Nat} {v : Value} {pre : List Int} {w : World} {Q : Exit → Act → World → Prop} {x6 x7 x8 x9 x10 x11 x12 x13 x14 x15 x16 x17 x18 x19 x20 x21 x22 x23 x26 x27 x28 x29 x30 x31 x32 x33 x34 x35 x36 x37 x38 x39 x40 x41 x42 x43 x44 x45 x46 x47 x48 x49 x50 x51 x52 x53 x54 x55 x56 x57 x58 x59 x60 x61 x62 x63 x64 x65 x66 x67 x68 x69 x70 x71 x72 x73 x74 x75 x76 x77 x78 x79 x80 x81 x82 x83 x84 : Value}
    (hw : N + 2 ≤ w.heap.size) (hn : 7 ≤ N) (hpl : pre.length ≤ 1) (hown : OwnI w (N + 2) v pre) (B0 : Blk w N 44 #[.int .i64 a.f.k, .int .u8 a.f.i, .int .u8 a.f.r, .int .u8 a.f.g, .int .u8 a.f.b, .int .i64 a.b.k, .int .u8 a.b.i, .int .u8 a.b.r, .int .u8 a.b.g, .int .u8 a.b.b, .int .u8 fa]) (B1 : Blk w (N + 1) 44 #[.int .i64 b.f.k, .int .u8 b.f.i, .int .u8 b.f.r, .int .u8 b.f.g, .int .u8 b.f.b, .int .i64 b.b.k, .int .u8 b.b.i, .int .u8 b.b.r, .int .u8 b.b.g, .int .u8 b.b.b, .int .u8 b.fl])
    (hQ : ∀ (wx : World) (u y7 y8 y9 y25 y26 y27 y28 y29 y30 y31 y32 y33 y34 y35 y36 y37 y38 y39 y40 y41 y42 y43 y44 y45 y46 y47 y48 y49 y50 y51 y52 y53 y54 y55 y56 y57 y58 y59 y60 y61 y62 y63 : Value), OwnI wx (N + 2) u (pre ++ chUp fa b.fl 8) → Blk wx N 44 #[.int .i64 a.f.k, .int .u8 a.f.i, .int .u8 a.f.r, .int .u8 a.f.g, .int .u8 a.f.b, .int .i64 a.b.k, .int .u8 a.b.i, .int .u8 a.b.r, .int .u8 a.b.g, .int .u8 a.b.b, .int .u8 fa] → Blk wx (N + 1) 44 #[.int .i64 b.f.k, .int .u8 b.f.i, .int .u8 b.f.r, .int .u8 b.f.g, .int .u8 b.f.b, .int .i64 b.b.k, .int .u8 b.b.i, .int .u8 b.b.r, .int .u8 b.b.g, .int .u8 b.b.b, .int .u8 b.fl] → Below (N + 2) w wx → Q .normal { tmps := #[(.agg #[.int .i64 a.f.k, .int .u8 a.f.i, .int .u8 a.f.r, .int .u8 a.f.g, .int .u8 a.f.b, .int .i64 a.b.k, .int .u8 a.b.i, .int .u8 a.b.r, .int .u8 a.b.g, .int .u8 a.b.b, .int .u8 a.fl]), (.agg #[.int .i64 b.f.k, .int .u8 b.f.i, .int .u8 b.f.r, .int .u8 b.f.g, .int .u8 b.f.b, .int .i64 b.b.k, .int .u8 b.b.i, .int .u8 b.b.r, .int .u8 b.b.g, .int .u8 b.b.b, .int .u8 b.fl]), (.pointer (some ⟨N, 0, none⟩)), (.pointer (some ⟨N + 1, 0, none⟩)), (.slice none 0 0), u, x6, y7, y8, y9, x10, x11, x12, x13, x14, x15, x16, x17, x18, x19, x20, x21, x22, x23, (.agg #[.int .u8 1, .int .i64 1, .int .u8 2, .int .i64 2, .int .u8 4, .int .i64 3, .int .u8 8, .int .i64 4, .int .u8 16, .int .i64 5, .int .u8 32, .int .i64 7, .int .u8 64, .int .i64 8, .int .u8 128, .int .i64 9]), y25, y26, y27, y28, y29, y30, y31, y32, y33, y34, y35, y36, y37, y38, y39, y40, y41, y42, y43, y44, y45, y46, y47, y48, y49, y50, y51, y52, y53, y54, y55, y56, y57, y58, y59, y60, y61, y62, y63, x64, x65, x66, x67, x68, x69, x70, x71, x72, x73, x74, x75, x76, x77, x78, x79, x80, x81, x82, x83, x84], defers := [] } wx) :
    (sn (fs (sq 3 (bodyOf Tryd.f35)))).wp Tryd.prog Q { tmps := #[(.agg #[.int .i64 a.f.k, .int .u8 a.f.i, .int .u8 a.f.r, .int .u8 a.f.g, .int .u8 a.f.b, .int .i64 a.b.k, .int .u8 a.b.i, .int .u8 a.b.r, .int .u8 a.b.g, .int .u8 a.b.b, .int .u8 a.fl]), (.agg #[.int .i64 b.f.k, .int .u8 b.f.i, .int .u8 b.f.r, .int .u8 b.f.g, .int .u8 b.f.b, .int .i64 b.b.k, .int .u8 b.b.i, .int .u8 b.b.r, .int .u8 b.b.g, .int .u8 b.b.b, .int .u8 b.fl]), (.pointer (some ⟨N, 0, none⟩)), (.pointer (some ⟨N + 1, 0, none⟩)), (.slice none 0 0), v, x6, x7, x8, x9, x10, x11, x12, x13, x14, x15, x16, x17, x18, x19, x20, x21, x22, x23, (.agg #[.int .u8 1, .int .i64 1, .int .u8 2, .int .i64 2, .int .u8 4, .int .i64 3, .int .u8 8, .int .i64 4, .int .u8 16, .int .i64 5, .int .u8 32, .int .i64 7, .int .u8 64, .int .i64 8, .int .u8 128, .int .i64 9]), (.int .i64 0), x26, x27, x28, x29, x30, x31, x32, x33, x34, x35, x36, x37, x38, x39, x40, x41, x42, x43, x44, x45, x46, x47, x48, x49, x50, x51, x52, x53, x54, x55, x56, x57, x58, x59, x60, x61, x62, x63, x64, x65, x66, x67, x68, x69, x70, x71, x72, x73, x74, x75, x76, x77, x78, x79, x80, x81, x82, x83, x84], defers := [] } w := by
  simp only [bodyOf, Tryd.f35, sq, fs, sn]
  have HQ := Lib.hid hQ
  clear hQ
  obtain ⟨i0, hi, hz0, hz1, hz2⟩ := info_parts int_info
  go_wp2
  go_loopw [5, 25] (fun u i wr => ∃ j : Nat, j ≤ 8 ∧ i = .int .i64 j ∧ OwnI wr (N + 2) u (pre ++ chUp fa b.fl j) ∧ Blk wr N 44 #[.int .i64 a.f.k, .int .u8 a.f.i, .int .u8 a.f.r, .int .u8 a.f.g, .int .u8 a.f.b, .int .i64 a.b.k, .int .u8 a.b.i, .int .u8 a.b.r, .int .u8 a.b.g, .int .u8 a.b.b, .int .u8 fa] ∧ Blk wr (N + 1) 44 #[.int .i64 b.f.k, .int .u8 b.f.i, .int .u8 b.f.r, .int .u8 b.f.g, .int .u8 b.f.b, .int .i64 b.b.k, .int .u8 b.b.i, .int .u8 b.b.r, .int .u8 b.b.g, .int .u8 b.b.b, .int .u8 b.fl] ∧ Below (N + 2) w wr) (fun _ i _ => 8 - (intOf i).toNat)
  case atStart => exact ⟨0, by omega, rfl, by rw [show chUp fa b.fl 0 = [] from rfl, List.append_nil]; exact hown, B0, B1, Below.refl _ _⟩
  case round =>
    obtain ⟨j, hj, rfl, hown, B0, B1, hbr⟩ := hrel
    have hsr := hbr.size
    have hlen := chUp_len fa b.fl j
    by_cases hlt : j < 8
    · have hlt' : (j : Int) < 8 := by omega
      have hnn := nAt_le j
      have qi := mark_index hlt
      have hw1 : IntKind.i64.wrap (nAt j + 20) = nAt j + 20 := by rw [IntWalk.i64_in] <;> omega
      cases h1 : (bits .and .u8 b.fl (fAt j) != 0) <;> cases h2 : (bits .and .u8 fa (fAt j) != 0)
      · have e1 : (bits .and .u8 b.fl (fAt j) != 0) = false := h1
        have e2 : (bits .and .u8 fa (fAt j) != 0) = false := h2
        have ES := Lib.hid (show chStep fa b.fl j = [] by unfold chStep; rw [h1, h2]; rfl)
        clear h1 h2
        go_upto_region 8 with fail
        obtain ⟨w4, hw4⟩ : ∃ w4, w4 = wr.alloc (.cells #[.int .u8 (fAt j), .int .i64 (nAt j)] 91) := ⟨_, rfl⟩
        rw [← hw4]
        have O4 := World.ownsRow.alloc hown (.cells #[.int .u8 (fAt j), .int .i64 (nAt j)] 91)
        rw [← hw4] at O4
        have B40 : Blk w4 N 44 #[.int .i64 a.f.k, .int .u8 a.f.i, .int .u8 a.f.r, .int .u8 a.f.g, .int .u8 a.f.b, .int .i64 a.b.k, .int .u8 a.b.i, .int .u8 a.b.r, .int .u8 a.b.g, .int .u8 a.b.b, .int .u8 fa] := by rw [hw4]; exact B0.alloc _
        have B41 : Blk w4 (N + 1) 44 #[.int .i64 b.f.k, .int .u8 b.f.i, .int .u8 b.f.r, .int .u8 b.f.g, .int .u8 b.f.b, .int .i64 b.b.k, .int .u8 b.b.i, .int .u8 b.b.r, .int .u8 b.b.g, .int .u8 b.b.b, .int .u8 b.fl] := by rw [hw4]; exact B1.alloc _
        have B42 : Blk w4 wr.heap.size 91 #[.int .u8 (fAt j), .int .i64 (nAt j)] := by rw [hw4]; exact Blk.new wr 91 _
        have H4 : Below (N + 2) w w4 := by rw [hw4]; exact hbr.alloc (by omega) _
        clear hw4
        have hs4 := H4.size
        have hl2 : (pre ++ chUp fa b.fl j).length ≤ 9 := by rw [List.length_append]; omega
        have z0 : w4.drew.cell? ⟨N, 10, none⟩ = some (.int .u8 fa) := B40.drew.cell 10
        have z1 : w4.drew.cell? ⟨N + 1, 10, none⟩ = some (.int .u8 b.fl) := B41.drew.cell 10
        have z2 : w4.drew.cell? ⟨wr.heap.size, 0, none⟩ = some (.int .u8 (fAt j)) := B42.drew.cell 0
        have z3 : w4.drew.cell? ⟨wr.heap.size, 1, none⟩ = some (.int .i64 (nAt j)) := B42.drew.cell 1
        refine wp_region_noPanic ?_
        refine wp_region_held_drew (S := (fun w' => w'.cell? ⟨N, 10, none⟩ = some (.int .u8 fa) ∧ w'.cell? ⟨N + 1, 10, none⟩ = some (.int .u8 b.fl) ∧ w'.cell? ⟨wr.heap.size, 0, none⟩ = some (.int .u8 (fAt j)) ∧ w'.cell? ⟨wr.heap.size, 1, none⟩ = some (.int .i64 (nAt j)))) (by kernel_rfl) (by exact ⟨z0, z1, z2, z3⟩) (fun hHeld => ?_)
        refine wpAnyH_take (i := 0) (v := ?_) (pick_op rfl) (by kernel_rfl) (by kernel_rfl) (by kernel_rfl) (fun _ _ _ h => h) (Or.inl ⟨by kernel_rfl, ?_⟩) hHeld ?_
        rotate_left
        · intro w_ hSw; (try dsimp only at hSw); go_simp; try with_reducible rfl
        try simp only [Act.put, List.setIfInBounds_toArray, List.set_cons_zero, List.set_cons_succ]
        refine wpAnyH_take (i := 1) (v := ?_) (pick_op rfl) (by kernel_rfl) (by kernel_rfl) (by kernel_rfl) (fun _ _ _ h => h) (Or.inl ⟨by kernel_rfl, ?_⟩) hHeld ?_
        rotate_left
        · intro w_ hSw; (try dsimp only at hSw); go_simp; try with_reducible rfl
        try simp only [Act.put, List.setIfInBounds_toArray, List.set_cons_zero, List.set_cons_succ]
        refine wpAnyH_take (i := 2) (v := ?_) (pick_op rfl) (by kernel_rfl) (by kernel_rfl) (by kernel_rfl) (fun _ _ _ h => h) (Or.inl ⟨by kernel_rfl, ?_⟩) hHeld ?_
        rotate_left
        · intro w_ hSw; (try dsimp only at hSw); go_simp; try with_reducible rfl
        try simp only [Act.put, List.setIfInBounds_toArray, List.set_cons_zero, List.set_cons_succ]
        refine wpAnyH_take (i := 3) (v := ?_) (pick_op rfl) (by kernel_rfl) (by kernel_rfl) (by kernel_rfl) (fun _ _ _ h => h) (Or.inl ⟨by kernel_rfl, ?_⟩) hHeld ?_
        rotate_left
        · intro w_ hSw; (try dsimp only at hSw); go_simp; try with_reducible rfl
        try simp only [Act.put, List.setIfInBounds_toArray, List.set_cons_zero, List.set_cons_succ]
        refine wpAnyH_take (i := 4) (v := ?_) (pick_op rfl) (by kernel_rfl) (by kernel_rfl) (by kernel_rfl) (fun _ _ _ h => h) (Or.inl ⟨by kernel_rfl, ?_⟩) hHeld ?_
        rotate_left
        · intro w_ hSw; (try dsimp only at hSw); go_simp; try with_reducible rfl
        try simp only [Act.put, List.setIfInBounds_toArray, List.set_cons_zero, List.set_cons_succ]
        refine wpAnyH_take (i := 5) (v := ?_) (pick_op rfl) (by kernel_rfl) (by kernel_rfl) (by kernel_rfl) (fun _ _ _ h => h) (Or.inl ⟨by kernel_rfl, ?_⟩) hHeld ?_
        rotate_left
        · intro w_ hSw; (try dsimp only at hSw); go_simp; try with_reducible rfl
        try simp only [Act.put, List.setIfInBounds_toArray, List.set_cons_zero, List.set_cons_succ]
        refine wpAnyH_take (i := 6) (v := ?_) (pick_op rfl) (by kernel_rfl) (by kernel_rfl) (by kernel_rfl) (fun _ _ _ h => h) (Or.inl ⟨by kernel_rfl, ?_⟩) hHeld ?_
        rotate_left
        · intro w_ hSw; (try dsimp only at hSw); go_simp; try with_reducible rfl
        try simp only [Act.put, List.setIfInBounds_toArray, List.set_cons_zero, List.set_cons_succ]
        refine wpAnyH_take (i := 7) (v := ?_) (pick_op rfl) (by kernel_rfl) (by kernel_rfl) (by kernel_rfl) (fun _ _ _ h => h) (Or.inl ⟨by kernel_rfl, ?_⟩) hHeld ?_
        rotate_left
        · intro w_ hSw; (try dsimp only at hSw); go_simp; try with_reducible rfl
        try simp only [Act.put, List.setIfInBounds_toArray, List.set_cons_zero, List.set_cons_succ]
        refine wpAnyH_take (i := 8) (v := ?_) (pick_op rfl) (by kernel_rfl) (by kernel_rfl) (by kernel_rfl) (fun _ _ _ h => h) (Or.inl ⟨by kernel_rfl, ?_⟩) hHeld ?_
        rotate_left
        · intro w_ hSw; (try dsimp only at hSw); go_simp; try with_reducible rfl
        try simp only [Act.put, List.setIfInBounds_toArray, List.set_cons_zero, List.set_cons_succ]
        refine wpAnyH_take (i := 9) (v := ?_) (pick_op rfl) (by kernel_rfl) (by kernel_rfl) (by kernel_rfl) (fun _ _ _ h => h) (Or.inl ⟨by kernel_rfl, ?_⟩) hHeld ?_
        rotate_left
        · intro w_ hSw; (try dsimp only at hSw); go_simp; try with_reducible rfl
        try simp only [Act.put, List.setIfInBounds_toArray, List.set_cons_zero, List.set_cons_succ]
        refine wpAnyH_take (i := 10) (v := ?_) (pick_op rfl) (by kernel_rfl) (by kernel_rfl) (by kernel_rfl) (fun _ _ _ h => h) (Or.inl ⟨by kernel_rfl, ?_⟩) hHeld ?_
        rotate_left
        · intro w_ hSw; (try dsimp only at hSw); go_simp; try with_reducible rfl
        try simp only [Act.put, List.setIfInBounds_toArray, List.set_cons_zero, List.set_cons_succ]
        refine wpAnyH_take (i := 11) (v := ?_) (pick_op rfl) (by kernel_rfl) (by kernel_rfl) (by kernel_rfl) (fun _ _ _ h => h) (Or.inl ⟨by kernel_rfl, ?_⟩) hHeld ?_
        rotate_left
        · intro w_ hSw; (try dsimp only at hSw); go_simp; try with_reducible rfl
        try simp only [Act.put, List.setIfInBounds_toArray, List.set_cons_zero, List.set_cons_succ]
        refine wpAnyH_take (i := 12) (v := ?_) (pick_op rfl) (by kernel_rfl) (by kernel_rfl) (by kernel_rfl) (fun _ _ _ h => h) (Or.inl ⟨by kernel_rfl, ?_⟩) hHeld ?_
        rotate_left
        · intro w_ hSw; (try dsimp only at hSw); go_simp; try with_reducible rfl
        try simp only [Act.put, List.setIfInBounds_toArray, List.set_cons_zero, List.set_cons_succ]
        refine wpAnyH_take (i := 13) (v := ?_) (pick_op rfl) (by kernel_rfl) (by kernel_rfl) (by kernel_rfl) (fun _ _ _ h => h) (Or.inl ⟨by kernel_rfl, ?_⟩) hHeld ?_
        rotate_left
        · intro w_ hSw; (try dsimp only at hSw); go_simp; try with_reducible rfl
        try simp only [Act.put, List.setIfInBounds_toArray, List.set_cons_zero, List.set_cons_succ]
        refine wpAnyH_done (by kernel_rfl) ?_ _
        refine NoPanic.normal ?_
        go_wp2_with fail
        go_roundw
        case rel => exact ⟨j + 1, by omega, by go_num, by rw [show chUp fa b.fl (j + 1) = chUp fa b.fl j ++ chStep fa b.fl j from rfl, ES.out, List.append_nil]; exact O4, B40, B41, H4.drew⟩
        case measure => simp [intOf]; omega
      · have e1 : (bits .and .u8 b.fl (fAt j) != 0) = false := h1
        have e2 : (bits .and .u8 fa (fAt j) != 0) = true := h2
        have ES := Lib.hid (show chStep fa b.fl j = [nAt j + 20] by unfold chStep; rw [h1, h2]; rfl)
        clear h1 h2
        go_upto_region 8 with fail
        obtain ⟨w4, hw4⟩ : ∃ w4, w4 = wr.alloc (.cells #[.int .u8 (fAt j), .int .i64 (nAt j)] 91) := ⟨_, rfl⟩
        rw [← hw4]
        have O4 := World.ownsRow.alloc hown (.cells #[.int .u8 (fAt j), .int .i64 (nAt j)] 91)
        rw [← hw4] at O4
        have B40 : Blk w4 N 44 #[.int .i64 a.f.k, .int .u8 a.f.i, .int .u8 a.f.r, .int .u8 a.f.g, .int .u8 a.f.b, .int .i64 a.b.k, .int .u8 a.b.i, .int .u8 a.b.r, .int .u8 a.b.g, .int .u8 a.b.b, .int .u8 fa] := by rw [hw4]; exact B0.alloc _
        have B41 : Blk w4 (N + 1) 44 #[.int .i64 b.f.k, .int .u8 b.f.i, .int .u8 b.f.r, .int .u8 b.f.g, .int .u8 b.f.b, .int .i64 b.b.k, .int .u8 b.b.i, .int .u8 b.b.r, .int .u8 b.b.g, .int .u8 b.b.b, .int .u8 b.fl] := by rw [hw4]; exact B1.alloc _
        have B42 : Blk w4 wr.heap.size 91 #[.int .u8 (fAt j), .int .i64 (nAt j)] := by rw [hw4]; exact Blk.new wr 91 _
        have H4 : Below (N + 2) w w4 := by rw [hw4]; exact hbr.alloc (by omega) _
        clear hw4
        have hs4 := H4.size
        have hl2 : (pre ++ chUp fa b.fl j).length ≤ 9 := by rw [List.length_append]; omega
        have z0 : w4.drew.cell? ⟨N, 10, none⟩ = some (.int .u8 fa) := B40.drew.cell 10
        have z1 : w4.drew.cell? ⟨N + 1, 10, none⟩ = some (.int .u8 b.fl) := B41.drew.cell 10
        have z2 : w4.drew.cell? ⟨wr.heap.size, 0, none⟩ = some (.int .u8 (fAt j)) := B42.drew.cell 0
        have z3 : w4.drew.cell? ⟨wr.heap.size, 1, none⟩ = some (.int .i64 (nAt j)) := B42.drew.cell 1
        refine wp_region_noPanic ?_
        refine wp_region_held_drew (S := (fun w' => w'.cell? ⟨N, 10, none⟩ = some (.int .u8 fa) ∧ w'.cell? ⟨N + 1, 10, none⟩ = some (.int .u8 b.fl) ∧ w'.cell? ⟨wr.heap.size, 0, none⟩ = some (.int .u8 (fAt j)) ∧ w'.cell? ⟨wr.heap.size, 1, none⟩ = some (.int .i64 (nAt j)))) (by kernel_rfl) (by exact ⟨z0, z1, z2, z3⟩) (fun hHeld => ?_)
        refine wpAnyH_take (i := 0) (v := ?_) (pick_op rfl) (by kernel_rfl) (by kernel_rfl) (by kernel_rfl) (fun _ _ _ h => h) (Or.inl ⟨by kernel_rfl, ?_⟩) hHeld ?_
        rotate_left
        · intro w_ hSw; (try dsimp only at hSw); go_simp; try with_reducible rfl
        try simp only [Act.put, List.setIfInBounds_toArray, List.set_cons_zero, List.set_cons_succ]
        refine wpAnyH_take (i := 1) (v := ?_) (pick_op rfl) (by kernel_rfl) (by kernel_rfl) (by kernel_rfl) (fun _ _ _ h => h) (Or.inl ⟨by kernel_rfl, ?_⟩) hHeld ?_
        rotate_left
        · intro w_ hSw; (try dsimp only at hSw); go_simp; try with_reducible rfl
        try simp only [Act.put, List.setIfInBounds_toArray, List.set_cons_zero, List.set_cons_succ]
        refine wpAnyH_take (i := 2) (v := ?_) (pick_op rfl) (by kernel_rfl) (by kernel_rfl) (by kernel_rfl) (fun _ _ _ h => h) (Or.inl ⟨by kernel_rfl, ?_⟩) hHeld ?_
        rotate_left
        · intro w_ hSw; (try dsimp only at hSw); go_simp; try with_reducible rfl
        try simp only [Act.put, List.setIfInBounds_toArray, List.set_cons_zero, List.set_cons_succ]
        refine wpAnyH_take (i := 3) (v := ?_) (pick_op rfl) (by kernel_rfl) (by kernel_rfl) (by kernel_rfl) (fun _ _ _ h => h) (Or.inl ⟨by kernel_rfl, ?_⟩) hHeld ?_
        rotate_left
        · intro w_ hSw; (try dsimp only at hSw); go_simp; try with_reducible rfl
        try simp only [Act.put, List.setIfInBounds_toArray, List.set_cons_zero, List.set_cons_succ]
        refine wpAnyH_take (i := 4) (v := ?_) (pick_op rfl) (by kernel_rfl) (by kernel_rfl) (by kernel_rfl) (fun _ _ _ h => h) (Or.inl ⟨by kernel_rfl, ?_⟩) hHeld ?_
        rotate_left
        · intro w_ hSw; (try dsimp only at hSw); go_simp; try with_reducible rfl
        try simp only [Act.put, List.setIfInBounds_toArray, List.set_cons_zero, List.set_cons_succ]
        refine wpAnyH_take (i := 5) (v := ?_) (pick_op rfl) (by kernel_rfl) (by kernel_rfl) (by kernel_rfl) (fun _ _ _ h => h) (Or.inl ⟨by kernel_rfl, ?_⟩) hHeld ?_
        rotate_left
        · intro w_ hSw; (try dsimp only at hSw); go_simp; try with_reducible rfl
        try simp only [Act.put, List.setIfInBounds_toArray, List.set_cons_zero, List.set_cons_succ]
        refine wpAnyH_take (i := 6) (v := ?_) (pick_op rfl) (by kernel_rfl) (by kernel_rfl) (by kernel_rfl) (fun _ _ _ h => h) (Or.inl ⟨by kernel_rfl, ?_⟩) hHeld ?_
        rotate_left
        · intro w_ hSw; (try dsimp only at hSw); go_simp; try with_reducible rfl
        try simp only [Act.put, List.setIfInBounds_toArray, List.set_cons_zero, List.set_cons_succ]
        refine wpAnyH_take (i := 7) (v := ?_) (pick_op rfl) (by kernel_rfl) (by kernel_rfl) (by kernel_rfl) (fun _ _ _ h => h) (Or.inl ⟨by kernel_rfl, ?_⟩) hHeld ?_
        rotate_left
        · intro w_ hSw; (try dsimp only at hSw); go_simp; try with_reducible rfl
        try simp only [Act.put, List.setIfInBounds_toArray, List.set_cons_zero, List.set_cons_succ]
        refine wpAnyH_take (i := 8) (v := ?_) (pick_op rfl) (by kernel_rfl) (by kernel_rfl) (by kernel_rfl) (fun _ _ _ h => h) (Or.inl ⟨by kernel_rfl, ?_⟩) hHeld ?_
        rotate_left
        · intro w_ hSw; (try dsimp only at hSw); go_simp; try with_reducible rfl
        try simp only [Act.put, List.setIfInBounds_toArray, List.set_cons_zero, List.set_cons_succ]
        refine wpAnyH_take (i := 9) (v := ?_) (pick_op rfl) (by kernel_rfl) (by kernel_rfl) (by kernel_rfl) (fun _ _ _ h => h) (Or.inl ⟨by kernel_rfl, ?_⟩) hHeld ?_
        rotate_left
        · intro w_ hSw; (try dsimp only at hSw); go_simp; try with_reducible rfl
        try simp only [Act.put, List.setIfInBounds_toArray, List.set_cons_zero, List.set_cons_succ]
        refine wpAnyH_take (i := 10) (v := ?_) (pick_op rfl) (by kernel_rfl) (by kernel_rfl) (by kernel_rfl) (fun _ _ _ h => h) (Or.inl ⟨by kernel_rfl, ?_⟩) hHeld ?_
        rotate_left
        · intro w_ hSw; (try dsimp only at hSw); go_simp; try with_reducible rfl
        try simp only [Act.put, List.setIfInBounds_toArray, List.set_cons_zero, List.set_cons_succ]
        refine wpAnyH_take (i := 11) (v := ?_) (pick_op rfl) (by kernel_rfl) (by kernel_rfl) (by kernel_rfl) (fun _ _ _ h => h) (Or.inl ⟨by kernel_rfl, ?_⟩) hHeld ?_
        rotate_left
        · intro w_ hSw; (try dsimp only at hSw); go_simp; try with_reducible rfl
        try simp only [Act.put, List.setIfInBounds_toArray, List.set_cons_zero, List.set_cons_succ]
        refine wpAnyH_take (i := 12) (v := ?_) (pick_op rfl) (by kernel_rfl) (by kernel_rfl) (by kernel_rfl) (fun _ _ _ h => h) (Or.inl ⟨by kernel_rfl, ?_⟩) hHeld ?_
        rotate_left
        · intro w_ hSw; (try dsimp only at hSw); go_simp; try with_reducible rfl
        try simp only [Act.put, List.setIfInBounds_toArray, List.set_cons_zero, List.set_cons_succ]
        refine wpAnyH_take (i := 13) (v := ?_) (pick_op rfl) (by kernel_rfl) (by kernel_rfl) (by kernel_rfl) (fun _ _ _ h => h) (Or.inl ⟨by kernel_rfl, ?_⟩) hHeld ?_
        rotate_left
        · intro w_ hSw; (try dsimp only at hSw); go_simp; try with_reducible rfl
        try simp only [Act.put, List.setIfInBounds_toArray, List.set_cons_zero, List.set_cons_succ]
        refine wpAnyH_done (by kernel_rfl) ?_ _
        refine NoPanic.normal ?_
        go_wp2_with (at_builtin; refine wpList_append_any _ rfl (.tmp 57) (.tmp 61) 61 rfl (N + 2) 3 i0 (.int .i64 0) 1 8 Tryd.underlying61 hi hz0 hz1 hz2 rfl (by decide) _ _ _ rfl ((O4.alloc _ : OwnI (w4.drew.alloc (.cells (ivals [nAt j + 20]).toArray 3)) (N + 2) _ _)) _ _ 1 _ (ivals [nAt j + 20]) rfl (Blk.readsAll (Blk.new w4.drew 3 (ivals [nAt j + 20]).toArray) rfl) (ivals_one _) (by unfold maxLen; omega) (by omega) (by first | (simp; done) | (simp; omega)) ?_; intro v7 w7 hown7 hg7 _)
        go_roundw
        case rel => exact ⟨j + 1, by omega, by go_num, by rw [show chUp fa b.fl (j + 1) = chUp fa b.fl j ++ chStep fa b.fl j from rfl, ES.out, ← List.append_assoc]; unfold OwnI; rw [ivals_append, List.length_append]; exact hown7, (B40.drew.alloc _).grown hg7 (fun e => absurd (own_ge O4 _ e.symm) (by omega)), (B41.drew.alloc _).grown hg7 (fun e => absurd (own_ge O4 _ e.symm) (by omega)), (H4.drew.alloc (by rw [World.size_drew]; omega) _).grown hg7 (by simp; omega) (fun j q => own_ge O4 j q)⟩
        case measure => simp [intOf]; omega
      · have e1 : (bits .and .u8 b.fl (fAt j) != 0) = true := h1
        have e2 : (bits .and .u8 fa (fAt j) != 0) = false := h2
        have ES := Lib.hid (show chStep fa b.fl j = [nAt j] by unfold chStep; rw [h1, h2]; rfl)
        clear h1 h2
        go_upto_region 8 with fail
        obtain ⟨w4, hw4⟩ : ∃ w4, w4 = wr.alloc (.cells #[.int .u8 (fAt j), .int .i64 (nAt j)] 91) := ⟨_, rfl⟩
        rw [← hw4]
        have O4 := World.ownsRow.alloc hown (.cells #[.int .u8 (fAt j), .int .i64 (nAt j)] 91)
        rw [← hw4] at O4
        have B40 : Blk w4 N 44 #[.int .i64 a.f.k, .int .u8 a.f.i, .int .u8 a.f.r, .int .u8 a.f.g, .int .u8 a.f.b, .int .i64 a.b.k, .int .u8 a.b.i, .int .u8 a.b.r, .int .u8 a.b.g, .int .u8 a.b.b, .int .u8 fa] := by rw [hw4]; exact B0.alloc _
        have B41 : Blk w4 (N + 1) 44 #[.int .i64 b.f.k, .int .u8 b.f.i, .int .u8 b.f.r, .int .u8 b.f.g, .int .u8 b.f.b, .int .i64 b.b.k, .int .u8 b.b.i, .int .u8 b.b.r, .int .u8 b.b.g, .int .u8 b.b.b, .int .u8 b.fl] := by rw [hw4]; exact B1.alloc _
        have B42 : Blk w4 wr.heap.size 91 #[.int .u8 (fAt j), .int .i64 (nAt j)] := by rw [hw4]; exact Blk.new wr 91 _
        have H4 : Below (N + 2) w w4 := by rw [hw4]; exact hbr.alloc (by omega) _
        clear hw4
        have hs4 := H4.size
        have hl2 : (pre ++ chUp fa b.fl j).length ≤ 9 := by rw [List.length_append]; omega
        have z0 : w4.drew.cell? ⟨N, 10, none⟩ = some (.int .u8 fa) := B40.drew.cell 10
        have z1 : w4.drew.cell? ⟨N + 1, 10, none⟩ = some (.int .u8 b.fl) := B41.drew.cell 10
        have z2 : w4.drew.cell? ⟨wr.heap.size, 0, none⟩ = some (.int .u8 (fAt j)) := B42.drew.cell 0
        have z3 : w4.drew.cell? ⟨wr.heap.size, 1, none⟩ = some (.int .i64 (nAt j)) := B42.drew.cell 1
        refine wp_region_noPanic ?_
        refine wp_region_held_drew (S := (fun w' => w'.cell? ⟨N, 10, none⟩ = some (.int .u8 fa) ∧ w'.cell? ⟨N + 1, 10, none⟩ = some (.int .u8 b.fl) ∧ w'.cell? ⟨wr.heap.size, 0, none⟩ = some (.int .u8 (fAt j)) ∧ w'.cell? ⟨wr.heap.size, 1, none⟩ = some (.int .i64 (nAt j)))) (by kernel_rfl) (by exact ⟨z0, z1, z2, z3⟩) (fun hHeld => ?_)
        refine wpAnyH_take (i := 0) (v := ?_) (pick_op rfl) (by kernel_rfl) (by kernel_rfl) (by kernel_rfl) (fun _ _ _ h => h) (Or.inl ⟨by kernel_rfl, ?_⟩) hHeld ?_
        rotate_left
        · intro w_ hSw; (try dsimp only at hSw); go_simp; try with_reducible rfl
        try simp only [Act.put, List.setIfInBounds_toArray, List.set_cons_zero, List.set_cons_succ]
        refine wpAnyH_take (i := 1) (v := ?_) (pick_op rfl) (by kernel_rfl) (by kernel_rfl) (by kernel_rfl) (fun _ _ _ h => h) (Or.inl ⟨by kernel_rfl, ?_⟩) hHeld ?_
        rotate_left
        · intro w_ hSw; (try dsimp only at hSw); go_simp; try with_reducible rfl
        try simp only [Act.put, List.setIfInBounds_toArray, List.set_cons_zero, List.set_cons_succ]
        refine wpAnyH_take (i := 2) (v := ?_) (pick_op rfl) (by kernel_rfl) (by kernel_rfl) (by kernel_rfl) (fun _ _ _ h => h) (Or.inl ⟨by kernel_rfl, ?_⟩) hHeld ?_
        rotate_left
        · intro w_ hSw; (try dsimp only at hSw); go_simp; try with_reducible rfl
        try simp only [Act.put, List.setIfInBounds_toArray, List.set_cons_zero, List.set_cons_succ]
        refine wpAnyH_take (i := 3) (v := ?_) (pick_op rfl) (by kernel_rfl) (by kernel_rfl) (by kernel_rfl) (fun _ _ _ h => h) (Or.inl ⟨by kernel_rfl, ?_⟩) hHeld ?_
        rotate_left
        · intro w_ hSw; (try dsimp only at hSw); go_simp; try with_reducible rfl
        try simp only [Act.put, List.setIfInBounds_toArray, List.set_cons_zero, List.set_cons_succ]
        refine wpAnyH_take (i := 4) (v := ?_) (pick_op rfl) (by kernel_rfl) (by kernel_rfl) (by kernel_rfl) (fun _ _ _ h => h) (Or.inl ⟨by kernel_rfl, ?_⟩) hHeld ?_
        rotate_left
        · intro w_ hSw; (try dsimp only at hSw); go_simp; try with_reducible rfl
        try simp only [Act.put, List.setIfInBounds_toArray, List.set_cons_zero, List.set_cons_succ]
        refine wpAnyH_take (i := 5) (v := ?_) (pick_op rfl) (by kernel_rfl) (by kernel_rfl) (by kernel_rfl) (fun _ _ _ h => h) (Or.inl ⟨by kernel_rfl, ?_⟩) hHeld ?_
        rotate_left
        · intro w_ hSw; (try dsimp only at hSw); go_simp; try with_reducible rfl
        try simp only [Act.put, List.setIfInBounds_toArray, List.set_cons_zero, List.set_cons_succ]
        refine wpAnyH_take (i := 6) (v := ?_) (pick_op rfl) (by kernel_rfl) (by kernel_rfl) (by kernel_rfl) (fun _ _ _ h => h) (Or.inl ⟨by kernel_rfl, ?_⟩) hHeld ?_
        rotate_left
        · intro w_ hSw; (try dsimp only at hSw); go_simp; try with_reducible rfl
        try simp only [Act.put, List.setIfInBounds_toArray, List.set_cons_zero, List.set_cons_succ]
        refine wpAnyH_take (i := 7) (v := ?_) (pick_op rfl) (by kernel_rfl) (by kernel_rfl) (by kernel_rfl) (fun _ _ _ h => h) (Or.inl ⟨by kernel_rfl, ?_⟩) hHeld ?_
        rotate_left
        · intro w_ hSw; (try dsimp only at hSw); go_simp; try with_reducible rfl
        try simp only [Act.put, List.setIfInBounds_toArray, List.set_cons_zero, List.set_cons_succ]
        refine wpAnyH_take (i := 8) (v := ?_) (pick_op rfl) (by kernel_rfl) (by kernel_rfl) (by kernel_rfl) (fun _ _ _ h => h) (Or.inl ⟨by kernel_rfl, ?_⟩) hHeld ?_
        rotate_left
        · intro w_ hSw; (try dsimp only at hSw); go_simp; try with_reducible rfl
        try simp only [Act.put, List.setIfInBounds_toArray, List.set_cons_zero, List.set_cons_succ]
        refine wpAnyH_take (i := 9) (v := ?_) (pick_op rfl) (by kernel_rfl) (by kernel_rfl) (by kernel_rfl) (fun _ _ _ h => h) (Or.inl ⟨by kernel_rfl, ?_⟩) hHeld ?_
        rotate_left
        · intro w_ hSw; (try dsimp only at hSw); go_simp; try with_reducible rfl
        try simp only [Act.put, List.setIfInBounds_toArray, List.set_cons_zero, List.set_cons_succ]
        refine wpAnyH_take (i := 10) (v := ?_) (pick_op rfl) (by kernel_rfl) (by kernel_rfl) (by kernel_rfl) (fun _ _ _ h => h) (Or.inl ⟨by kernel_rfl, ?_⟩) hHeld ?_
        rotate_left
        · intro w_ hSw; (try dsimp only at hSw); go_simp; try with_reducible rfl
        try simp only [Act.put, List.setIfInBounds_toArray, List.set_cons_zero, List.set_cons_succ]
        refine wpAnyH_take (i := 11) (v := ?_) (pick_op rfl) (by kernel_rfl) (by kernel_rfl) (by kernel_rfl) (fun _ _ _ h => h) (Or.inl ⟨by kernel_rfl, ?_⟩) hHeld ?_
        rotate_left
        · intro w_ hSw; (try dsimp only at hSw); go_simp; try with_reducible rfl
        try simp only [Act.put, List.setIfInBounds_toArray, List.set_cons_zero, List.set_cons_succ]
        refine wpAnyH_take (i := 12) (v := ?_) (pick_op rfl) (by kernel_rfl) (by kernel_rfl) (by kernel_rfl) (fun _ _ _ h => h) (Or.inl ⟨by kernel_rfl, ?_⟩) hHeld ?_
        rotate_left
        · intro w_ hSw; (try dsimp only at hSw); go_simp; try with_reducible rfl
        try simp only [Act.put, List.setIfInBounds_toArray, List.set_cons_zero, List.set_cons_succ]
        refine wpAnyH_take (i := 13) (v := ?_) (pick_op rfl) (by kernel_rfl) (by kernel_rfl) (by kernel_rfl) (fun _ _ _ h => h) (Or.inl ⟨by kernel_rfl, ?_⟩) hHeld ?_
        rotate_left
        · intro w_ hSw; (try dsimp only at hSw); go_simp; try with_reducible rfl
        try simp only [Act.put, List.setIfInBounds_toArray, List.set_cons_zero, List.set_cons_succ]
        refine wpAnyH_done (by kernel_rfl) ?_ _
        refine NoPanic.normal ?_
        go_wp2_with (at_builtin; refine wpList_append_any _ rfl (.tmp 46) (.tmp 49) 61 rfl (N + 2) 3 i0 (.int .i64 0) 1 8 Tryd.underlying61 hi hz0 hz1 hz2 rfl (by decide) _ _ _ rfl ((O4.alloc _ : OwnI (w4.drew.alloc (.cells (ivals [nAt j]).toArray 3)) (N + 2) _ _)) _ _ 1 _ (ivals [nAt j]) rfl (Blk.readsAll (Blk.new w4.drew 3 (ivals [nAt j]).toArray) rfl) (ivals_one _) (by unfold maxLen; omega) (by omega) (by first | (simp; done) | (simp; omega)) ?_; intro v7 w7 hown7 hg7 _)
        go_roundw
        case rel => exact ⟨j + 1, by omega, by go_num, by rw [show chUp fa b.fl (j + 1) = chUp fa b.fl j ++ chStep fa b.fl j from rfl, ES.out, ← List.append_assoc]; unfold OwnI; rw [ivals_append, List.length_append]; exact hown7, (B40.drew.alloc _).grown hg7 (fun e => absurd (own_ge O4 _ e.symm) (by omega)), (B41.drew.alloc _).grown hg7 (fun e => absurd (own_ge O4 _ e.symm) (by omega)), (H4.drew.alloc (by rw [World.size_drew]; omega) _).grown hg7 (by simp; omega) (fun j q => own_ge O4 j q)⟩
        case measure => simp [intOf]; omega
      · have e1 : (bits .and .u8 b.fl (fAt j) != 0) = true := h1
        have e2 : (bits .and .u8 fa (fAt j) != 0) = true := h2
        have ES := Lib.hid (show chStep fa b.fl j = [] by unfold chStep; rw [h1, h2]; rfl)
        clear h1 h2
        go_upto_region 8 with fail
        obtain ⟨w4, hw4⟩ : ∃ w4, w4 = wr.alloc (.cells #[.int .u8 (fAt j), .int .i64 (nAt j)] 91) := ⟨_, rfl⟩
        rw [← hw4]
        have O4 := World.ownsRow.alloc hown (.cells #[.int .u8 (fAt j), .int .i64 (nAt j)] 91)
        rw [← hw4] at O4
        have B40 : Blk w4 N 44 #[.int .i64 a.f.k, .int .u8 a.f.i, .int .u8 a.f.r, .int .u8 a.f.g, .int .u8 a.f.b, .int .i64 a.b.k, .int .u8 a.b.i, .int .u8 a.b.r, .int .u8 a.b.g, .int .u8 a.b.b, .int .u8 fa] := by rw [hw4]; exact B0.alloc _
        have B41 : Blk w4 (N + 1) 44 #[.int .i64 b.f.k, .int .u8 b.f.i, .int .u8 b.f.r, .int .u8 b.f.g, .int .u8 b.f.b, .int .i64 b.b.k, .int .u8 b.b.i, .int .u8 b.b.r, .int .u8 b.b.g, .int .u8 b.b.b, .int .u8 b.fl] := by rw [hw4]; exact B1.alloc _
        have B42 : Blk w4 wr.heap.size 91 #[.int .u8 (fAt j), .int .i64 (nAt j)] := by rw [hw4]; exact Blk.new wr 91 _
        have H4 : Below (N + 2) w w4 := by rw [hw4]; exact hbr.alloc (by omega) _
        clear hw4
        have hs4 := H4.size
        have hl2 : (pre ++ chUp fa b.fl j).length ≤ 9 := by rw [List.length_append]; omega
        have z0 : w4.drew.cell? ⟨N, 10, none⟩ = some (.int .u8 fa) := B40.drew.cell 10
        have z1 : w4.drew.cell? ⟨N + 1, 10, none⟩ = some (.int .u8 b.fl) := B41.drew.cell 10
        have z2 : w4.drew.cell? ⟨wr.heap.size, 0, none⟩ = some (.int .u8 (fAt j)) := B42.drew.cell 0
        have z3 : w4.drew.cell? ⟨wr.heap.size, 1, none⟩ = some (.int .i64 (nAt j)) := B42.drew.cell 1
        refine wp_region_noPanic ?_
        refine wp_region_held_drew (S := (fun w' => w'.cell? ⟨N, 10, none⟩ = some (.int .u8 fa) ∧ w'.cell? ⟨N + 1, 10, none⟩ = some (.int .u8 b.fl) ∧ w'.cell? ⟨wr.heap.size, 0, none⟩ = some (.int .u8 (fAt j)) ∧ w'.cell? ⟨wr.heap.size, 1, none⟩ = some (.int .i64 (nAt j)))) (by kernel_rfl) (by exact ⟨z0, z1, z2, z3⟩) (fun hHeld => ?_)
        refine wpAnyH_take (i := 0) (v := ?_) (pick_op rfl) (by kernel_rfl) (by kernel_rfl) (by kernel_rfl) (fun _ _ _ h => h) (Or.inl ⟨by kernel_rfl, ?_⟩) hHeld ?_
        rotate_left
        · intro w_ hSw; (try dsimp only at hSw); go_simp; try with_reducible rfl
        try simp only [Act.put, List.setIfInBounds_toArray, List.set_cons_zero, List.set_cons_succ]
        refine wpAnyH_take (i := 1) (v := ?_) (pick_op rfl) (by kernel_rfl) (by kernel_rfl) (by kernel_rfl) (fun _ _ _ h => h) (Or.inl ⟨by kernel_rfl, ?_⟩) hHeld ?_
        rotate_left
        · intro w_ hSw; (try dsimp only at hSw); go_simp; try with_reducible rfl
        try simp only [Act.put, List.setIfInBounds_toArray, List.set_cons_zero, List.set_cons_succ]
        refine wpAnyH_take (i := 2) (v := ?_) (pick_op rfl) (by kernel_rfl) (by kernel_rfl) (by kernel_rfl) (fun _ _ _ h => h) (Or.inl ⟨by kernel_rfl, ?_⟩) hHeld ?_
        rotate_left
        · intro w_ hSw; (try dsimp only at hSw); go_simp; try with_reducible rfl
        try simp only [Act.put, List.setIfInBounds_toArray, List.set_cons_zero, List.set_cons_succ]
        refine wpAnyH_take (i := 3) (v := ?_) (pick_op rfl) (by kernel_rfl) (by kernel_rfl) (by kernel_rfl) (fun _ _ _ h => h) (Or.inl ⟨by kernel_rfl, ?_⟩) hHeld ?_
        rotate_left
        · intro w_ hSw; (try dsimp only at hSw); go_simp; try with_reducible rfl
        try simp only [Act.put, List.setIfInBounds_toArray, List.set_cons_zero, List.set_cons_succ]
        refine wpAnyH_take (i := 4) (v := ?_) (pick_op rfl) (by kernel_rfl) (by kernel_rfl) (by kernel_rfl) (fun _ _ _ h => h) (Or.inl ⟨by kernel_rfl, ?_⟩) hHeld ?_
        rotate_left
        · intro w_ hSw; (try dsimp only at hSw); go_simp; try with_reducible rfl
        try simp only [Act.put, List.setIfInBounds_toArray, List.set_cons_zero, List.set_cons_succ]
        refine wpAnyH_take (i := 5) (v := ?_) (pick_op rfl) (by kernel_rfl) (by kernel_rfl) (by kernel_rfl) (fun _ _ _ h => h) (Or.inl ⟨by kernel_rfl, ?_⟩) hHeld ?_
        rotate_left
        · intro w_ hSw; (try dsimp only at hSw); go_simp; try with_reducible rfl
        try simp only [Act.put, List.setIfInBounds_toArray, List.set_cons_zero, List.set_cons_succ]
        refine wpAnyH_take (i := 6) (v := ?_) (pick_op rfl) (by kernel_rfl) (by kernel_rfl) (by kernel_rfl) (fun _ _ _ h => h) (Or.inl ⟨by kernel_rfl, ?_⟩) hHeld ?_
        rotate_left
        · intro w_ hSw; (try dsimp only at hSw); go_simp; try with_reducible rfl
        try simp only [Act.put, List.setIfInBounds_toArray, List.set_cons_zero, List.set_cons_succ]
        refine wpAnyH_take (i := 7) (v := ?_) (pick_op rfl) (by kernel_rfl) (by kernel_rfl) (by kernel_rfl) (fun _ _ _ h => h) (Or.inl ⟨by kernel_rfl, ?_⟩) hHeld ?_
        rotate_left
        · intro w_ hSw; (try dsimp only at hSw); go_simp; try with_reducible rfl
        try simp only [Act.put, List.setIfInBounds_toArray, List.set_cons_zero, List.set_cons_succ]
        refine wpAnyH_take (i := 8) (v := ?_) (pick_op rfl) (by kernel_rfl) (by kernel_rfl) (by kernel_rfl) (fun _ _ _ h => h) (Or.inl ⟨by kernel_rfl, ?_⟩) hHeld ?_
        rotate_left
        · intro w_ hSw; (try dsimp only at hSw); go_simp; try with_reducible rfl
        try simp only [Act.put, List.setIfInBounds_toArray, List.set_cons_zero, List.set_cons_succ]
        refine wpAnyH_take (i := 9) (v := ?_) (pick_op rfl) (by kernel_rfl) (by kernel_rfl) (by kernel_rfl) (fun _ _ _ h => h) (Or.inl ⟨by kernel_rfl, ?_⟩) hHeld ?_
        rotate_left
        · intro w_ hSw; (try dsimp only at hSw); go_simp; try with_reducible rfl
        try simp only [Act.put, List.setIfInBounds_toArray, List.set_cons_zero, List.set_cons_succ]
        refine wpAnyH_take (i := 10) (v := ?_) (pick_op rfl) (by kernel_rfl) (by kernel_rfl) (by kernel_rfl) (fun _ _ _ h => h) (Or.inl ⟨by kernel_rfl, ?_⟩) hHeld ?_
        rotate_left
        · intro w_ hSw; (try dsimp only at hSw); go_simp; try with_reducible rfl
        try simp only [Act.put, List.setIfInBounds_toArray, List.set_cons_zero, List.set_cons_succ]
        refine wpAnyH_take (i := 11) (v := ?_) (pick_op rfl) (by kernel_rfl) (by kernel_rfl) (by kernel_rfl) (fun _ _ _ h => h) (Or.inl ⟨by kernel_rfl, ?_⟩) hHeld ?_
        rotate_left
        · intro w_ hSw; (try dsimp only at hSw); go_simp; try with_reducible rfl
        try simp only [Act.put, List.setIfInBounds_toArray, List.set_cons_zero, List.set_cons_succ]
        refine wpAnyH_take (i := 12) (v := ?_) (pick_op rfl) (by kernel_rfl) (by kernel_rfl) (by kernel_rfl) (fun _ _ _ h => h) (Or.inl ⟨by kernel_rfl, ?_⟩) hHeld ?_
        rotate_left
        · intro w_ hSw; (try dsimp only at hSw); go_simp; try with_reducible rfl
        try simp only [Act.put, List.setIfInBounds_toArray, List.set_cons_zero, List.set_cons_succ]
        refine wpAnyH_take (i := 13) (v := ?_) (pick_op rfl) (by kernel_rfl) (by kernel_rfl) (by kernel_rfl) (fun _ _ _ h => h) (Or.inl ⟨by kernel_rfl, ?_⟩) hHeld ?_
        rotate_left
        · intro w_ hSw; (try dsimp only at hSw); go_simp; try with_reducible rfl
        try simp only [Act.put, List.setIfInBounds_toArray, List.set_cons_zero, List.set_cons_succ]
        refine wpAnyH_done (by kernel_rfl) ?_ _
        refine NoPanic.normal ?_
        go_wp2_with fail
        go_roundw
        case rel => exact ⟨j + 1, by omega, by go_num, by rw [show chUp fa b.fl (j + 1) = chUp fa b.fl j ++ chStep fa b.fl j from rfl, ES.out, List.append_nil]; exact O4, B40, B41, H4.drew⟩
        case measure => simp [intOf]; omega
    · obtain rfl : j = 8 := by omega
      go_wp2
      exact HQ.out _ _ _ _ _ _ _ _ _ _ _ _ _ _ _ _ _ _ _ _ _ _ _ _ _ _ _ _ _ _ _ _ _ _ _ _ _ _ _ _ _ _ _ _ hown B0 B1 hbr
end Go.Proofs.YthophmihgmjnfaaDoor
