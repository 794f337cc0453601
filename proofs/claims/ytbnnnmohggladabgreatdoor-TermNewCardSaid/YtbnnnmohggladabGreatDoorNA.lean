/- A part of the proof of TermNew. -/
import Derived.Test.YtbnnnmohggladabGreatDoorProg
import Derived.Test.YtbnnnmohggladabGreatDoorAbsP
import Derived.WalkKit
import Derived.ProofKit
import Derived.LoopTactic
import Derived.OwnWalk
import Derived.Maps.AppendAt
import Derived.Deep.Onto
import Derived.Lib.Hide
import Derived.Laws.Rows
import Derived.KernelRfl
import Derived.IntWalk
import Derived.Test.YtbnnnmohggladabGreatDoorAbsN
import Derived.Deep.RegionLaw
import Derived.Deep.DeepCutAuto
import Derived.Deep.CutBlock
import Derived.BigFrame
import Derived.Deep.QuietTactic
import Derived.BigQuiet
import Derived.Deep.Light
namespace Go.Proofs.YtbnnnmohggladabGreatDoor
open Go.RowKit Go.Rep
set_option maxRecDepth 100000
/-- A blank cell. -/
def bcl : List Value := [.int .i32 0, .int .i32 0, .int .i32 0, .int .i32 0, .int .i64 1, .int .i64 0, .int .u8 0, .int .u8 0, .int .u8 0, .int .u8 0, .int .i64 0, .int .u8 0, .int .u8 0, .int .u8 0, .int .u8 0, .int .u8 0]
theorem alloc_size (w : World) (o : Obj) : (w.alloc o).heap.size = w.heap.size + 1 := by simp
theorem blk_two (w : World) (o : Obj) (t : TypeId) (cs : Array Value) : Blk ((w.alloc o).alloc (.cells cs t)) (w.heap.size + 1) t cs := by
  have := Blk.new (w.alloc o) t cs
  rw [alloc_size] at this
  exact this
theorem blank_any (w : World) : Calls Tryz.prog 214 #[.agg #[.int .i64 0, .int .u8 0, .int .u8 0, .int .u8 0, .int .u8 0, .int .i64 0, .int .u8 0, .int .u8 0, .int .u8 0, .int .u8 0, .int .u8 0]] w fun e w' => e = .returned (.agg #[.int .i32 0, .int .i32 0, .int .i32 0, .int .i32 0, .int .i64 1, .int .i64 0, .int .u8 0, .int .u8 0, .int .u8 0, .int .u8 0, .int .i64 0, .int .u8 0, .int .u8 0, .int .u8 0, .int .u8 0, .int .u8 0]) ∧ Below w.heap.size w w' := by
  have hb0 := ((Below.refl w.heap.size w).alloc (Nat.le_refl _) (.cells #[.int .i64 0, .int .u8 0, .int .u8 0, .int .u8 0, .int .u8 0, .int .i64 0, .int .u8 0, .int .u8 0, .int .u8 0, .int .u8 0, .int .u8 0] 47)).alloc (by simp only [alloc_size]; omega) (.cells #[.int .i32 0, .int .i32 0, .int .i32 0, .int .i32 0, .int .i64 0, .int .i64 0, .int .u8 0, .int .u8 0, .int .u8 0, .int .u8 0, .int .i64 0, .int .u8 0, .int .u8 0, .int .u8 0, .int .u8 0, .int .u8 0] 134)
  have b0 := (Blk.new w 47 #[.int .i64 0, .int .u8 0, .int .u8 0, .int .u8 0, .int .u8 0, .int .i64 0, .int .u8 0, .int .u8 0, .int .u8 0, .int .u8 0, .int .u8 0]).alloc (.cells #[.int .i32 0, .int .i32 0, .int .i32 0, .int .i32 0, .int .i64 0, .int .i64 0, .int .u8 0, .int .u8 0, .int .u8 0, .int .u8 0, .int .i64 0, .int .u8 0, .int .u8 0, .int .u8 0, .int .u8 0, .int .u8 0] 134)
  go_enter Tryz.func214, Tryz.ntmps214
  go_wp2_with (first
    | (refine wpList_load_blk 47 (.tmp 1) rfl (by rfl) _ rfl #[.int .i64 0, .int .u8 0, .int .u8 0, .int .u8 0, .int .u8 0, .int .i64 0, .int .u8 0, .int .u8 0, .int .u8 0, .int .u8 0, .int .u8 0] _ (b0) Tryz.underlying47 rfl (by kernel_rfl) ?_) 
    | ((with_reducible refine wpList_store_blk rfl 134 (.tmp 2) (.tmp 4) rfl _ #[.int .i32 0, .int .i32 0, .int .i32 0, .int .i32 0, .int .i64 0, .int .i64 0, .int .u8 0, .int .u8 0, .int .u8 0, .int .u8 0, .int .i64 0, .int .u8 0, .int .u8 0, .int .u8 0, .int .u8 0, .int .u8 0] #[.int .i32 0, .int .i32 0, .int .i32 0, .int .i32 0, .int .i64 1, .int .i64 0, .int .u8 0, .int .u8 0, .int .u8 0, .int .u8 0, .int .i64 0, .int .u8 0, .int .u8 0, .int .u8 0, .int .u8 0, .int .u8 0] rfl rfl (blk_two w _ 134 _) (by kernel_rfl) rfl (by kernel_rfl) ?_); intro w2 hw2))
  refine bodyPost_ret (results_cell_row rfl _ _ _ _ _ (0, 0) _ rfl hw2.blk (by first | exact Tryz.underlying134 | exact Tryz.underlying104 | exact Tryz.underlying47) rfl (by kernel_rfl)) rfl ?_
  exact ⟨rfl, hb0.trans (hw2.below.mono (by omega))⟩
theorem rblank_any (w : World) : Calls Tryz.prog 215 #[.agg #[.int .i64 0, .int .u8 0, .int .u8 0, .int .u8 0, .int .u8 0, .int .i64 0, .int .u8 0, .int .u8 0, .int .u8 0, .int .u8 0, .int .u8 0]] w fun e w' => e = .returned (.agg #[.int .i32 0, .int .i32 0, .int .i32 0, .int .i32 0, .int .i64 1, .int .i64 0, .int .u8 0, .int .u8 0, .int .u8 0, .int .u8 0, .int .i64 0, .int .u8 0, .int .u8 0, .int .u8 0, .int .u8 0, .int .u8 0]) ∧ Below w.heap.size w w' := by
  have hb0 := ((Below.refl w.heap.size w).alloc (Nat.le_refl _) (.cells #[.int .i64 0, .int .u8 0, .int .u8 0, .int .u8 0, .int .u8 0, .int .i64 0, .int .u8 0, .int .u8 0, .int .u8 0, .int .u8 0, .int .u8 0] 47)).alloc (by simp only [alloc_size]; omega) (.cells #[.int .i32 0, .int .i32 0, .int .i32 0, .int .i32 0, .int .i64 0, .int .i64 0, .int .u8 0, .int .u8 0, .int .u8 0, .int .u8 0, .int .i64 0, .int .u8 0, .int .u8 0, .int .u8 0, .int .u8 0, .int .u8 0] 134)
  have b0 := (Blk.new w 47 #[.int .i64 0, .int .u8 0, .int .u8 0, .int .u8 0, .int .u8 0, .int .i64 0, .int .u8 0, .int .u8 0, .int .u8 0, .int .u8 0, .int .u8 0]).alloc (.cells #[.int .i32 0, .int .i32 0, .int .i32 0, .int .i32 0, .int .i64 0, .int .i64 0, .int .u8 0, .int .u8 0, .int .u8 0, .int .u8 0, .int .i64 0, .int .u8 0, .int .u8 0, .int .u8 0, .int .u8 0, .int .u8 0] 134)
  go_enter Tryz.func215, Tryz.ntmps215
  go_wp2_with (first
    | (refine wpList_load_blk 47 (.tmp 1) rfl (by rfl) _ rfl #[.int .i64 0, .int .u8 0, .int .u8 0, .int .u8 0, .int .u8 0, .int .i64 0, .int .u8 0, .int .u8 0, .int .u8 0, .int .u8 0, .int .u8 0] _ (b0) Tryz.underlying47 rfl (by kernel_rfl) ?_) 
    | ((with_reducible refine wpList_store_blk rfl 134 (.tmp 2) (.tmp 4) rfl _ #[.int .i32 0, .int .i32 0, .int .i32 0, .int .i32 0, .int .i64 0, .int .i64 0, .int .u8 0, .int .u8 0, .int .u8 0, .int .u8 0, .int .i64 0, .int .u8 0, .int .u8 0, .int .u8 0, .int .u8 0, .int .u8 0] #[.int .i32 0, .int .i32 0, .int .i32 0, .int .i32 0, .int .i64 1, .int .i64 0, .int .u8 0, .int .u8 0, .int .u8 0, .int .u8 0, .int .i64 0, .int .u8 0, .int .u8 0, .int .u8 0, .int .u8 0, .int .u8 0] rfl rfl (blk_two w _ 134 _) (by kernel_rfl) rfl (by kernel_rfl) ?_); intro w2 hw2))
  refine bodyPost_ret (results_cell_row rfl _ _ _ _ _ (0, 0) _ rfl hw2.blk (by first | exact Tryz.underlying134 | exact Tryz.underlying104 | exact Tryz.underlying47) rfl (by kernel_rfl)) rfl ?_
  exact ⟨rfl, hb0.trans (hw2.below.mono (by omega))⟩
end Go.Proofs.YtbnnnmohggladabGreatDoor

namespace Go.Proofs.YtbnnnmohggladabGreatDoor
open Go.RowKit Go.Rep
set_option maxRecDepth 100000
theorem mask_all : (List.range 1001).all (fun y => decide (bits BinOp.and IntKind.u64 (y : Int) 4294967295 = (y : Int))) = true := by kernel_rfl
theorem mask_y {y : Nat} (hy : y ≤ 1000) : bits BinOp.and IntKind.u64 (y : Int) 4294967295 = (y : Int) := by
  have := List.all_eq_true.1 mask_all y (List.mem_range.2 (by omega))
  simpa using this
theorem mask_1 : bits BinOp.and IntKind.u64 1 4294967295 = 1 := by kernel_rfl
theorem mask_0 : bits BinOp.and IntKind.u64 0 4294967295 = 0 := by kernel_rfl
theorem wrap_y {y : Nat} (hy : y ≤ 1000) : IntKind.u64.wrap (y : Int) = (y : Int) := by
  simp [IntKind.wrap, IntKind.bits]
  omega
theorem mul64_any (y : Nat) (hy : y ≤ 1000) (w : World) : Calls Tryz.prog 326 #[.int .u64 1, .int .u64 y] w fun e w' => e = .returned (.tuple #[.int .u64 0, .int .u64 y]) ∧ w = w' := by
  have e1 := mask_1
  have e2 := mask_y hy
  have e3 : (y : Int) / 4294967296 = 0 := by omega
  have e4 := wrap_y hy
  have e5 := mask_0
  go_enter Tryz.func326, Tryz.ntmps326
  go_wp2
  go_ret2
  exact ⟨rfl, rfl⟩
theorem mul_any (y : Nat) (hy : y ≤ 1000) (w : World) : Calls Tryz.prog 275 #[.int .u64 1, .int .u64 y] w fun e w' => e = .returned (.tuple #[.int .u64 0, .int .u64 y]) ∧ w = w' := by
  go_enter Tryz.func275, Tryz.ntmps275
  go_wp2_with (go_at_call 326; refine (mul64_any y hy _).mono ?_; rintro e w' ⟨rfl, rfl⟩)
  go_ret2
  exact ⟨rfl, rfl⟩
end Go.Proofs.YtbnnnmohggladabGreatDoor

namespace Go.Proofs.YtbnnnmohggladabGreatDoor
open Go.RowKit Go.Rep
set_option maxRecDepth 100000
/-- Blank cells. -/
def bl (n : Nat) : List Value := (List.replicate n bcl).flatten
theorem bl_add (n m : Nat) : bl (n + m) = bl n ++ bl m := by unfold bl; rw [← List.replicate_append_replicate, List.flatten_append]
theorem bl_length (n : Nat) : (bl n).length = n * 16 := by
  induction n with
  | zero => rfl
  | succ n ih => rw [bl_add, List.length_append, ih]; show n * 16 + 16 = _; omega
theorem bl_one {n : Nat} : ∀ u ∈ bl n, u.oneCell' = true := by
  intro u hu
  simp only [bl, List.mem_flatten, List.mem_replicate] at hu
  obtain ⟨l, ⟨_, rfl⟩, hl⟩ := hu
  have : bcl.all (·.oneCell') = true := by decide
  exact List.all_eq_true.1 this u hl
theorem bl_take {n k : Nat} (h : k ≤ n) : (bl n).take (k * 16) = bl k := by
  rw [show n = k + (n - k) by omega, bl_add, List.take_append_of_le_length (by rw [bl_length]; exact Nat.le_refl _), List.take_of_length_le (by rw [bl_length]; exact Nat.le_refl _)]
theorem cell_info : (Tryz.prog.info? 134).map (fun i => (i.zero, i.size, i.bytes)) = some (some (.agg #[.int .i32 0, .int .i32 0, .int .i32 0, .int .i32 0, .int .i64 0, .int .i64 0, .int .u8 0, .int .u8 0, .int .u8 0, .int .u8 0, .int .i64 0, .int .u8 0, .int .u8 0, .int .u8 0, .int .u8 0, .int .u8 0]), 16, 64) := by kernel_rfl
/-- A row of blank cells in a block of its own. -/
theorem blk_of_own {w : World} {base e size n : Nat} {v : Value} {xs : List Value} (h : w.ownsRow base e size v n xs) (hn : 0 < n) : ∃ g cap cur, v = .slice (some ⟨g, 0, none⟩) n cap ∧ base ≤ g ∧ Blk w g e cur ∧ n ≤ cap ∧ cap ≤ maxLen ∧ cur.size = cap * size ∧ cur.toList.take (n * size) = xs := by
  obtain ⟨_, ⟨_, rfl⟩ | ⟨g, cap, cur, hu, hb, hg, h1, hm, hs, ht⟩⟩ := h
  · omega
  · exact ⟨g, cap, cur, hu, hb, hg, h1, hm, hs, ht⟩
theorem blk_full {w : World} {base e size n g : Nat} {xs : List Value} (h : w.ownsRow base e size (.slice (some ⟨g, 0, none⟩) n n) n xs) (hn : 1 ≤ n) : ∃ cur, Blk w g e cur ∧ cur.size = n * size := by
  obtain ⟨g', cap, cur, he, _, hg, _, _, hs, _⟩ := blk_of_own h (by omega)
  injection he with h1 h2 h3
  injection h1 with h1
  injection h1 with h1 _ _
  subst h1 h3
  exact ⟨cur, hg, hs⟩
theorem reads_cells {w : World} {B size n : Nat} {ad : Addr} {xs : List Value} (h : Reads w B size (some ad) n xs) (hn : 0 < n) : ∀ j v, xs[j]? = some v → w.cell? (ad.add j) = some v := by
  obtain ⟨ad', he, _, hc⟩ := h.2 hn
  cases he
  exact hc
theorem wrap_sum (n k : Nat) (h : n + k ≤ 1000000) : IntKind.i64.wrap ((n : Int) + (k : Int)) = ((n + k : Nat) : Int) := by rw [IntWalk.i64_in] <;> omega
theorem add0 (g j : Nat) : (⟨g, 0, none⟩ : Addr).add j = ⟨g, j, none⟩ := by
  unfold Addr.add
  split
  · next h => rw [h]
  · simp
theorem copy_src {w : World} {g n k : Nat} {cur : Array Value} (hB : Blk w g 134 cur) (hbl : cur.toList.take (n * 16) = bl n) (hk : k ≤ n) : ∀ j v, (bl k)[j]? = some v → (World.drew w).cell? ((⟨g, 0, none⟩ : Addr).add j) = some v := by
  intro j v hv
  rw [add0, hB.drew.cell j]
  have h1 : j < k * 16 := by have := (List.getElem?_eq_some_iff.1 hv).1; rwa [bl_length] at this
  rw [← bl_take hk, List.getElem?_take, if_pos h1, ← hbl, List.getElem?_take, if_pos (by omega)] at hv
  simpa using hv
theorem copied {y n k : Nat} {cur : Array Value} (hsz : cur.size = y * 16) (hbl : cur.toList.take (n * 16) = bl n) (h : n + k ≤ y) :
    (cur.toList.take (n * 16) ++ bl k ++ cur.toList.drop (n * 16 + (bl k).length)).toArray.size = y * 16 ∧ (cur.toList.take (n * 16) ++ bl k ++ cur.toList.drop (n * 16 + (bl k).length)).toArray.toList.take ((n + k) * 16) = bl (n + k) := by
  rw [hbl, bl_length]
  refine ⟨?_, ?_⟩
  · simp [bl_length]; omega
  · rw [List.toList_toArray, ← bl_add, List.take_append_of_le_length (by rw [bl_length]; exact Nat.le_refl _), List.take_of_length_le (by rw [bl_length]; exact Nat.le_refl _)]
set_option maxHeartbeats 2000000 in
theorem repeat_any {y c B : Nat} {A : Option Addr} (h0 : 1 ≤ y) (hy : y ≤ 1000) (w : World) (hr : Reads w B 16 A 1 bcl) (hB : B ≤ w.heap.size) : Calls Tryz.prog 213 #[.slice A 1 c, .int .i64 y] w fun e w' => ∃ v, e = .returned v ∧ w'.ownsRow w.heap.size 134 16 v y (bl y) ∧ Below w.heap.size w w' := by
  obtain ⟨i0, hi, hz0, hz1, hz2⟩ := info_parts cell_info
  obtain ⟨ad, rfl, hadb, _⟩ := hr.2 (by decide)
  go_enter Tryz.func213, Tryz.ntmps213
  go_wp2_with (first
    | (go_at_call 275; refine (mul_any y hy _).mono ?_; rintro e w' ⟨rfl, rfl⟩)
    | ((with_reducible refine wpList_make_full _ rfl (.tmp 29) (.tmp 29) 101 rfl w.heap.size 134 i0 (.agg #[.int .i32 0, .int .i32 0, .int .i32 0, .int .i32 0, .int .i64 0, .int .i64 0, .int .u8 0, .int .u8 0, .int .u8 0, .int .u8 0, .int .i64 0, .int .u8 0, .int .u8 0, .int .u8 0, .int .u8 0, .int .u8 0]) 16 Tryz.underlying101 hi hz0 hz1 .i64 .i64 (y : Int) (y : Int) y rfl rfl rfl rfl (by rw [hz2]; omega) (by unfold maxLen; omega) (Nat.le_refl _) ?_); intro w1 hown1 hg1; obtain ⟨cur1, hB1, hsz1⟩ := blk_full hown1 h0; have hb1 := (Below.refl w.heap.size w).grown hg1 (Nat.le_refl _) (fun j e => by cases e); have hr1 := hr.below (hb1.mono hB); clear hown1)
    | (refine wpList_copy_sized rfl (.tmp 31) (.tmp 32) 101 101 rfl 134 16 w.heap.size 0 y y ad 1 c cur1 134 bcl 1 (Nat.min_eq_left h0) rfl rfl Tryz.underlying101 (by kernel_rfl) hB1 rfl (reads_cells hr1 (by decide)) (by show 0 + 16 ≤ _; omega) (bl_one (n := 1)) ?_; intro w2 hst2))
  have hb2 := hb1.trans (hst2.below.mono (Nat.le_refl _))
  clear hb1 hr1 hg1
  go_wp2
  go_loopw [8] (fun i wr => ∃ (n : Nat) (cur : Array Value), 1 ≤ n ∧ n ≤ y ∧ i = .int .i64 n ∧ Blk wr w.heap.size 134 cur ∧ cur.size = y * 16 ∧ Hid (cur.toList.take (n * 16) = bl n) ∧ Below w.heap.size w wr) (fun i _ => y - (intOf i).toNat)
  case atStart =>
    refine ⟨1, _, Nat.le_refl _, h0, rfl, hst2.blk, ?_, Lib.hid ?_, hb2⟩
    · simp [bcl]; omega
    · simp [bl, bcl]
  case round =>
    obtain ⟨n, cur, h1, hn, rfl, hB, hsz, hbl, hbr⟩ := hrel
    by_cases hlt : n < y
    · have hlt' : (n : Int) < (y : Int) := by omega
      have hne : ¬ y = n := by omega
      obtain ⟨k, hk⟩ : ∃ k, Nat.min n (y - n) = k := ⟨_, rfl⟩
      have hk' : min n (y - n) = k := hk
      have k1 : 1 ≤ k := by omega
      have k2 : k ≤ n := by omega
      have k3 : n + k ≤ y := by omega
      have hsrc := copy_src hB hbl.out k2
      have hfit : n * 16 + (bl k).length ≤ cur.size := by rw [bl_length]; omega
      have hcop := copied hsz hbl.out k3
      have hBd := hB.drew
      clear hk'
      go_wp2_with fail
      go_region_law (first
        | (refine step_copy_sized rfl (.tmp 41) (.tmp 44) 101 101 rfl 134 16 w.heap.size (n * 16) (y - n) (y - n) ⟨w.heap.size, 0, none⟩ n y cur 134 (bl k) k hk (by kernel_rfl) (by kernel_rfl) Tryz.underlying101 (by kernel_rfl) hBd (bl_length k) hsrc hfit bl_one ?_; intro w3 hst3))
      all_goals
        simp [go_sem, Act.put]
        go_roundw
        case rel =>
          refine ⟨_, _, _, _, _, _, _, _, _, _, _, _, _, _, ⟨n + k, _, by omega, by omega, ?_, hst3.blk, hcop.1, Lib.hid hcop.2, hbr.drew.trans (hst3.below.mono (by omega))⟩, rfl⟩
          exact congrArg (Value.int .i64) (wrap_sum n k (by omega))
        case measure =>
          have hwr := wrap_sum n k (by omega)
          simp [intOf, hwr]
          omega
    · obtain rfl : n = y := by omega
      go_wp2
      go_ret
      refine ⟨_, rfl, ?_, hbr⟩
      exact ⟨by rw [bl_length], .inr ⟨_, _, cur, rfl, Nat.le_refl _, hB, Nat.le_refl _, by unfold maxLen; omega, hsz, hbl.out⟩⟩
end Go.Proofs.YtbnnnmohggladabGreatDoor

namespace Go.Proofs.YtbnnnmohggladabGreatDoor
open Go.RowKit Go.Rep
set_option maxRecDepth 100000
theorem own_one {w : World} {base e size n : Nat} {v : Value} {xs : List Value} {b : Bool} (h : w.ownsRow base e size v n xs) : (#[v, .bool b] : Array Value).all (·.oneCell') = true := by
  obtain ⟨A, c, rfl, _⟩ := own_slice h
  kernel_rfl
theorem own_store {w w' : World} {base e size n g : Nat} {t : TypeId} {v : Value} {xs : List Value} {cells : Array Value} (h : w.ownsRow base e size v n xs) (hs : Stored w w' g t cells) (hg : g < base) : w'.ownsRow base e size v n xs := by
  obtain ⟨hl, h1 | ⟨k, cap, cur, hu, hB, hk, hn, hm, hz, ht⟩⟩ := h
  · exact ⟨hl, .inl h1⟩
  · exact ⟨hl, .inr ⟨k, cap, cur, hu, hB, (hs.far k (by omega)).trans hk, hn, hm, hz, ht⟩⟩
theorem reads_bcl (w : World) : Reads (w.alloc (.cells #[.int .i32 0, .int .i32 0, .int .i32 0, .int .i32 0, .int .i64 1, .int .i64 0, .int .u8 0, .int .u8 0, .int .u8 0, .int .u8 0, .int .i64 0, .int .u8 0, .int .u8 0, .int .u8 0, .int .u8 0, .int .u8 0] 134)) (w.heap.size + 1) 16 (some ⟨w.heap.size, 0, none⟩) 1 bcl := by
  refine ⟨rfl, fun _ => ⟨_, rfl, Nat.lt_succ_self _, fun j u hu => ?_⟩⟩
  rw [add0, (Blk.new w 134 #[.int .i32 0, .int .i32 0, .int .i32 0, .int .i32 0, .int .i64 1, .int .i64 0, .int .u8 0, .int .u8 0, .int .u8 0, .int .u8 0, .int .i64 0, .int .u8 0, .int .u8 0, .int .u8 0, .int .u8 0, .int .u8 0]).cell j]
  rw [← hu]
  simp [bcl]
set_option maxHeartbeats 1000000 in
theorem blanks_any {y : Nat} (h0 : 1 ≤ y) (hy : y ≤ 1000) (w : World) : Calls Tryz.prog 156 #[.int .i64 y, .agg #[.int .i64 0, .int .u8 0, .int .u8 0, .int .u8 0, .int .u8 0, .int .i64 0, .int .u8 0, .int .u8 0, .int .u8 0, .int .u8 0, .int .u8 0]] w fun e w' => ∃ v, e = .returned (.agg #[v, .bool false]) ∧ w'.ownsRow w.heap.size 134 16 v y (bl y) ∧ Below w.heap.size w w' := by
  have b0 := (Blk.new w 47 #[.int .i64 0, .int .u8 0, .int .u8 0, .int .u8 0, .int .u8 0, .int .i64 0, .int .u8 0, .int .u8 0, .int .u8 0, .int .u8 0, .int .u8 0]).alloc (.cells #[.slice none 0 0, .bool false] 104)
  have b1 := blk_two w (.cells #[.int .i64 0, .int .u8 0, .int .u8 0, .int .u8 0, .int .u8 0, .int .i64 0, .int .u8 0, .int .u8 0, .int .u8 0, .int .u8 0, .int .u8 0] 47) 104 #[.slice none 0 0, .bool false]
  have hb0 := ((Below.refl w.heap.size w).alloc (Nat.le_refl _) (.cells #[.int .i64 0, .int .u8 0, .int .u8 0, .int .u8 0, .int .u8 0, .int .i64 0, .int .u8 0, .int .u8 0, .int .u8 0, .int .u8 0, .int .u8 0] 47)).alloc (by simp only [alloc_size]; omega) (.cells #[.slice none 0 0, .bool false] 104)
  go_enter Tryz.func156, Tryz.ntmps156
  go_wp2_with (first
    | (refine wpList_load_blk 47 (.tmp 3) rfl (by rfl) _ rfl #[.int .i64 0, .int .u8 0, .int .u8 0, .int .u8 0, .int .u8 0, .int .i64 0, .int .u8 0, .int .u8 0, .int .u8 0, .int .u8 0, .int .u8 0] _ (b0) Tryz.underlying47 rfl (by kernel_rfl) ?_)
    | (go_at_call 214; refine (blank_any _).mono ?_; rintro e w2 ⟨rfl, hb2⟩; have hs2 : w.heap.size + 1 + 1 ≤ w2.heap.size := (by have := hb2.size; rw [alloc_size, alloc_size] at this; exact this); have b2 := b1.below hb2 (by simp only [alloc_size]; omega); have hbw2 := hb0.trans (hb2.mono (by simp only [alloc_size]; omega)))
    | (go_at_call 213; refine (repeat_any h0 hy _ (reads_bcl w2) (by simp only [alloc_size]; omega)).mono ?_; rintro e w3 ⟨v3, rfl, hown3, hb3⟩; have hs3 : w2.heap.size + 1 ≤ w3.heap.size := (by have := hb3.size; rw [alloc_size] at this; exact this); have hb23 : Below w2.heap.size w2 w3 := ((Below.refl _ _).alloc (Nat.le_refl _) _).trans (hb3.mono (by simp only [alloc_size]; omega)); have b3 := b2.below hb23 (by omega); have hbw3 := hbw2.trans (hb23.mono (by omega)); rw [alloc_size] at hown3; obtain ⟨A3, c3, rfl, _, _, _⟩ := own_slice hown3)
    | ((with_reducible refine wpList_store_blk rfl 104 (.tmp 4) (.tmp 10) rfl _ #[.slice none 0 0, .bool false] #[.slice A3 y c3, .bool false] rfl rfl b3 (by kernel_rfl) rfl (by kernel_rfl) ?_); intro w4 hw4))
  refine bodyPost_ret (results_cell_row rfl _ _ _ _ _ (0, 0) _ rfl hw4.blk (by first | exact Tryz.underlying134 | exact Tryz.underlying104 | exact Tryz.underlying47) rfl (by kernel_rfl)) rfl ?_
  refine ⟨_, rfl, ?_, hbw3.trans (hw4.below.mono (by omega))⟩
  exact (own_store hown3 hw4 (by omega)).mono (by omega)
end Go.Proofs.YtbnnnmohggladabGreatDoor

namespace Go.Proofs.YtbnnnmohggladabGreatDoor
open Go.RowKit Go.Rep
set_option maxRecDepth 100000
theorem own_below {w w' : World} {B : Nat} {e : TypeId} {size n : Nat} {v : Value} {xs : List Value} (h : w.ownsRow B e size v n xs) (hb : Below w.heap.size w w') : w'.ownsRow B e size v n xs := by
  obtain ⟨hl, h | ⟨g, cap, cur, hu, hB, hg, hn, hm, hs, ht⟩⟩ := h
  · exact ⟨hl, .inl h⟩
  · exact ⟨hl, .inr ⟨g, cap, cur, hu, hB, (hb.block g (Blk.lt (t := e) hg)).trans hg, hn, hm, hs, ht⟩⟩
theorem own_set {w : World} {b : Nat} {e : TypeId} {size n : Nat} {v u : Value} {xs : List Value} {p : Addr} (h : w.ownsRow b e size v n xs) (hp : p.block < b) : (w.setCell p u).ownsRow b e size v n xs := by
  obtain ⟨hl, h | ⟨g, cap, cur, hu, hB, hg, hn, hm, hs, ht⟩⟩ := h
  · exact ⟨hl, .inl h⟩
  · exact ⟨hl, .inr ⟨g, cap, cur, hu, hB, (Below.heap_setCell w p u g (by omega)).trans hg, hn, hm, hs, ht⟩⟩
theorem own_ne {w : World} {b b' s s' n n' : Nat} {e e' : TypeId} {v v' : Value} {xs xs' : List Value} (h : w.ownsRow b e s v n xs) (h' : w.ownsRow b' e' s' v' n' xs') (hne : e ≠ e') : v.ownBlock = none ∨ v.ownBlock ≠ v'.ownBlock := by
  rcases h.2 with ⟨rfl, _⟩ | ⟨g, cap, cur, rfl, _, hg, _⟩
  · exact .inl rfl
  · refine .inr fun he => ?_
    rcases h'.2 with ⟨rfl, _⟩ | ⟨g', cap', cur', rfl, _, hg', _⟩
    · cases he
    · have e1 : g = g' := by simpa [Value.ownBlock] using he
      subst e1
      rw [hg] at hg'
      injection hg' with h1
      injection h1 with _ h2 _
      exact hne h2
theorem own_lt {w : World} {base size n : Nat} {e : TypeId} {v : Value} {xs : List Value} (h : w.ownsRow base e size v n xs) {g : Nat} (hg : v.ownBlock = some g) : base ≤ g ∧ g < w.heap.size := by
  rcases h.2 with ⟨rfl, _⟩ | ⟨g', cap, cur, rfl, hb, hh, _⟩
  · simp [Value.ownBlock] at hg
  · have : g' = g := by simpa [Value.ownBlock] using hg
    subst this
    exact ⟨hb, (Array.getElem?_eq_some_iff.1 hh).1⟩
/-- A list of lines of m blank cells, all of its own from b on. -/
def Lines (w : World) (b : Nat) (v : Value) (n m : Nat) : Prop := ∃ vs, w.ownsRow b 104 2 v n vs ∧ ∀ i, i < n → ∃ A c, vs[i * 2]? = some (.slice A m c) ∧ vs[i * 2 + 1]? = some (.bool false) ∧ w.ownsRow b 134 16 (.slice A m c) m (bl m)
theorem lines_push {w wX w3 : World} {b n m g c2 : Nat} {A2 : Option Addr} {v v' u : Value} {vs : List Value} (hown : w.ownsRow b 104 2 v n vs) (hx : ∀ i, i < n → ∃ A c, vs[i * 2]? = some (.slice A m c) ∧ vs[i * 2 + 1]? = some (.bool false) ∧ w.ownsRow b 134 16 (.slice A m c) m (bl m))
    (hb : Below w.heap.size w wX) (ho : wX.ownsRow b 134 16 (.slice A2 m c2) m (bl m)) (hown3 : w3.ownsRow b 104 2 v' (n + 1) (vs ++ [.slice A2 m c2, .bool false])) (hg3 : wX.grownBy w3 v.ownBlock) (hg : g < b) : Lines (w3.setCell ⟨g, 1, none⟩ u) b v' (n + 1) m := by
  have hX := own_below hown hb
  have hl : vs.length = n * 2 := hown.1
  refine ⟨_, own_set hown3 hg, fun i hi => ?_⟩
  rcases Nat.lt_or_ge i n with h1 | h1
  · obtain ⟨A, c, q1, q2, q3⟩ := hx i h1
    refine ⟨A, c, by rw [List.getElem?_append_left (by omega)]; exact q1, by rw [List.getElem?_append_left (by omega)]; exact q2, ?_⟩
    have q4 := own_below q3 hb
    exact own_set (q4.kept hg3 (own_ne q4 hX (by decide))) hg
  · obtain rfl : i = n := by omega
    refine ⟨A2, c2, by rw [List.getElem?_append_right (by omega), hl, Nat.sub_self]; rfl, by rw [List.getElem?_append_right (by omega), hl, show i * 2 + 1 - i * 2 = 1 by omega]; rfl, ?_⟩
    exact own_set (ho.kept hg3 (own_ne ho hX (by decide))) hg
theorem line_info : (Tryz.prog.info? 104).map (fun i => (i.zero, i.size, i.bytes)) = some (some (.agg #[.slice none 0 0, .bool false]), 2, 32) := by kernel_rfl
theorem reads_line (w : World) (a b : Value) (t : TypeId) : Reads (w.alloc (.cells #[a, b] t)) (w.heap.size + 1) 2 (some ⟨w.heap.size, 0, none⟩) 1 [a, b] := by
  refine ⟨rfl, fun _ => ⟨_, rfl, Nat.lt_succ_self _, fun j u hu => ?_⟩⟩
  rw [add0, (Blk.new w t #[a, b]).cell j, ← hu]
  simp
def GridP (w : World) (n y : Nat) (e : Ending) (w' : World) : Prop := ∃ g v, e = .returned (.tuple #[.pointer (some ⟨g, 0, none⟩), .int .i64 0]) ∧ w.heap.size ≤ g ∧ Blk w' g 183 #[.int .i64 y, v] ∧ Lines w' w.heap.size v n y ∧ Below w.heap.size w w'
set_option maxHeartbeats 4000000 in
theorem grid_new {n y : Nat} (n0 : 1 ≤ n) (hn : n ≤ 1000) (h0 : 1 ≤ y) (hy : y ≤ 1000) (w : World) : Calls Tryz.prog 113 #[.int .i64 n, .int .i64 y] w (GridP w n y) := by
  obtain ⟨i0, hi, hz0, hz1, hz2⟩ := info_parts line_info
  have g1 : ¬ (n : Int) < 1 := by omega
  have g2 : ¬ (1000 : Int) < (n : Int) := by omega
  have g3 : ¬ (y : Int) < 1 := by omega
  have g4 : ¬ (1000 : Int) < (y : Int) := by omega
  go_enter Tryz.func113, Tryz.ntmps113
  go_wp2
  go_loopw [25] (fun i wr => ∃ (k : Nat) (v : Value), k ≤ n ∧ i = .int .i64 k ∧ Blk wr w.heap.size 183 #[.int .i64 y, v] ∧ Lines wr (w.heap.size + 1) v k y ∧ Below w.heap.size w wr) (fun i _ => n - (intOf i).toNat)
  case atStart => exact ⟨0, .slice none 0 0, Nat.zero_le _, rfl, Blk.new w 183 _, ⟨[], World.ownsRow_nil _ _ _ _, fun i h => by omega⟩, (Below.refl _ _).alloc (Nat.le_refl _) _⟩
  case round =>
    obtain ⟨k, v, hk, rfl, hB, ⟨vs, hown, hx⟩, hbr⟩ := hrel
    have hHX := Lib.hid hx
    clear hx
    by_cases hlt : k < n
    · have hlt' : (k : Int) < (n : Int) := by omega
      have hgs := hB.lt
      have x1 : wr.cell? ⟨w.heap.size, 1, none⟩ = some v := hB.cell 1
      clear g1 g2 g3 g4
      go_upto_block 1 with fail
      go_cut [] (fun wx => ∃ v' : Value, Blk wx w.heap.size 183 #[.int .i64 y, v'] ∧ Lines wx (w.heap.size + 1) v' (k + 1) y ∧ Below w.heap.size w wx)
      case first =>
        go_wp2_with fail
        go_region_law (first
          | (go_simp; go_at_call 156; refine (blanks_any h0 hy _).mono ?_; rintro e w2 ⟨v2, rfl, hown2, hb2⟩; obtain ⟨A2, c2, rfl, _, _, _⟩ := own_slice hown2; have hs2 : wr.heap.size ≤ w2.heap.size := hb2.size; have hB2 := (hB.drew).below hb2 hgs; have x2 : w2.cell? ⟨w.heap.size, 1, none⟩ = some v := hB2.cell 1; have x2a : (w2.alloc (.cells #[.slice A2 y c2, .bool false] 104)).cell? ⟨w.heap.size, 1, none⟩ = some v := (hB2.alloc _).cell 1; have hbX : Below wr.heap.size wr (w2.alloc (.cells #[.slice A2 y c2, .bool false] 104)) := ((Below.refl wr.heap.size wr).drew.trans hb2).alloc hs2 _; have ho2 : (w2.alloc (.cells #[.slice A2 y c2, .bool false] 104)).ownsRow (w.heap.size + 1) 134 16 (.slice A2 y c2) y (bl y) := (World.ownsRow.mono hown2 (by show w.heap.size + 1 ≤ wr.heap.size; omega)).alloc _; have hownX := own_below hown hbX)
          | (refine step_append_any _ rfl (.tmp 31) (.tmp 35) 36 rfl (w.heap.size + 1) 104 i0 (.agg #[.slice none 0 0, .bool false]) 2 32 Tryz.underlying36 hi hz0 hz1 hz2 rfl (by decide) v k vs (by kernel_rfl) hownX (w2.heap.size + 1) (some ⟨w2.heap.size, 0, none⟩) 1 1 [.slice A2 y c2, .bool false] (by kernel_rfl) (reads_line w2 _ _ 104) (by intro u hu; simp only [List.mem_cons, List.not_mem_nil, or_false] at hu; rcases hu with rfl | rfl <;> rfl) (by unfold maxLen; omega) (by omega) (by rw [alloc_size]; omega) ?_; intro v3 w3 hown3 hg3 _; obtain ⟨A3, c3, rfl, _, _, _⟩ := own_slice hown3; have hB3 : Blk w3 w.heap.size 183 #[.int .i64 y, v] := (hB2.alloc _).grown hg3 (own_blk_ne hownX (hB2.alloc _) (by decide)).symm; have hL3 := lines_push (g := w.heap.size) (u := .slice A3 (k + 1) c3) hown hHX.out hbX ho2 hown3 hg3 (by omega); have x3 : w3.cell? ⟨w.heap.size, 1, none⟩ = some v := hB3.cell 1; have f3 := hB3.frozen 1))
        all_goals
          go_wp2_with fail
          go_meet
          exact ⟨.slice A3 (k + 1) c3, hB3.set_ 1 _, hL3, (hbr.trans (hbX.mono (by omega))).grown hg3 (by rw [alloc_size]; omega) (fun j q => by have := (own_lt hownX q).1; omega) |>.setCell (p := ⟨w.heap.size, 1, none⟩) (Nat.le_refl _) _⟩
      case rest =>
        obtain ⟨v', hB', hL', hb'⟩ := hcut
        go_wp2
        go_roundw
        case rel => exact ⟨k + 1, v', by omega, by go_num, hB', hL', hb'⟩
        case measure => simp [intOf]; omega
    · obtain rfl : k = n := by omega
      go_wp2
      go_ret2
      exact ⟨w.heap.size, v, rfl, Nat.le_refl _, hB, ⟨vs, hown.mono (by omega), fun i h => by obtain ⟨A, c, q1, q2, q3⟩ := hHX.out i h; exact ⟨A, c, q1, q2, q3.mono (by omega)⟩⟩, hbr⟩
end Go.Proofs.YtbnnnmohggladabGreatDoor

namespace Go.Proofs.YtbnnnmohggladabGreatDoor
open Go.RowKit Go.Rep
set_option maxRecDepth 100000
theorem bl_succ (n : Nat) : bl (n + 1) = bl n ++ bcl := by rw [bl_add]; congr 1
theorem blk_three (w : World) (o o' : Obj) (t : TypeId) (cs : Array Value) : Blk (((w.alloc o).alloc o').alloc (.cells cs t)) (w.heap.size + 1 + 1) t cs := by
  have := Blk.new ((w.alloc o).alloc o') t cs
  rw [alloc_size, alloc_size] at this
  exact this
set_option maxHeartbeats 4000000 in
theorem rblanks_any {y : Nat} (hy : y ≤ 1000) (w : World) : Calls Tryz.prog 157 #[.int .i64 y, .agg #[.int .i64 0, .int .u8 0, .int .u8 0, .int .u8 0, .int .u8 0, .int .i64 0, .int .u8 0, .int .u8 0, .int .u8 0, .int .u8 0, .int .u8 0]] w fun e w' => ∃ v, e = .returned (.agg #[v, .bool false]) ∧ w'.ownsRow w.heap.size 134 16 v y (bl y) ∧ Below w.heap.size w w' := by
  obtain ⟨i0, hi, hz0, hz1, hz2⟩ := info_parts cell_info
  go_enter Tryz.func157, Tryz.ntmps157
  go_wp2
  go_loopw [6] (fun i wr => ∃ (k : Nat) (v : Value), k ≤ y ∧ i = .int .i64 k ∧ Blk wr w.heap.size 47 #[.int .i64 0, .int .u8 0, .int .u8 0, .int .u8 0, .int .u8 0, .int .i64 0, .int .u8 0, .int .u8 0, .int .u8 0, .int .u8 0, .int .u8 0] ∧ Blk wr (w.heap.size + 1) 104 #[.slice none 0 0, .bool false] ∧ Blk wr (w.heap.size + 1 + 1) 104 #[v, .bool false] ∧ wr.ownsRow (w.heap.size + 1 + 1 + 1) 134 16 v k (bl k) ∧ Below w.heap.size w wr) (fun i _ => y - (intOf i).toNat)
  case atStart => exact ⟨0, .slice none 0 0, Nat.zero_le _, rfl, ((Blk.new w 47 #[.int .i64 0, .int .u8 0, .int .u8 0, .int .u8 0, .int .u8 0, .int .i64 0, .int .u8 0, .int .u8 0, .int .u8 0, .int .u8 0, .int .u8 0]).alloc _).alloc _, (blk_two w (.cells #[.int .i64 0, .int .u8 0, .int .u8 0, .int .u8 0, .int .u8 0, .int .i64 0, .int .u8 0, .int .u8 0, .int .u8 0, .int .u8 0, .int .u8 0] 47) 104 #[.slice none 0 0, .bool false]).alloc _, blk_three w (.cells #[.int .i64 0, .int .u8 0, .int .u8 0, .int .u8 0, .int .u8 0, .int .i64 0, .int .u8 0, .int .u8 0, .int .u8 0, .int .u8 0, .int .u8 0] 47) (.cells #[.slice none 0 0, .bool false] 104) 104 _, World.ownsRow_nil _ _ _ _, (((Below.refl _ _).alloc (Nat.le_refl _) _).alloc (by simp only [alloc_size]; omega) _).alloc (by simp only [alloc_size]; omega) _⟩
  case round =>
    obtain ⟨k, v, hk, rfl, hP, hR, hB, hown, hbr⟩ := hrel
    by_cases hlt : k < y
    · have hlt' : (k : Int) < (y : Int) := by omega
      have hgs := hB.lt
      have x0 : wr.cell? ⟨w.heap.size + 1 + 1, 0, none⟩ = some v := hB.cell 0
      have p0 : wr.cell? ⟨w.heap.size, 0, none⟩ = some (.int .i64 0) := hP.cell 0
      have p1 : wr.cell? ⟨w.heap.size, 1, none⟩ = some (.int .u8 0) := hP.cell 1
      have p2 : wr.cell? ⟨w.heap.size, 2, none⟩ = some (.int .u8 0) := hP.cell 2
      have p3 : wr.cell? ⟨w.heap.size, 3, none⟩ = some (.int .u8 0) := hP.cell 3
      have p4 : wr.cell? ⟨w.heap.size, 4, none⟩ = some (.int .u8 0) := hP.cell 4
      have p5 : wr.cell? ⟨w.heap.size, 5, none⟩ = some (.int .i64 0) := hP.cell 5
      have p6 : wr.cell? ⟨w.heap.size, 6, none⟩ = some (.int .u8 0) := hP.cell 6
      have p7 : wr.cell? ⟨w.heap.size, 7, none⟩ = some (.int .u8 0) := hP.cell 7
      have p8 : wr.cell? ⟨w.heap.size, 8, none⟩ = some (.int .u8 0) := hP.cell 8
      have p9 : wr.cell? ⟨w.heap.size, 9, none⟩ = some (.int .u8 0) := hP.cell 9
      have p10 : wr.cell? ⟨w.heap.size, 10, none⟩ = some (.int .u8 0) := hP.cell 10
      go_upto_block 1 with fail
      go_cut [] (fun wx => ∃ v' : Value, Blk wx w.heap.size 47 #[.int .i64 0, .int .u8 0, .int .u8 0, .int .u8 0, .int .u8 0, .int .i64 0, .int .u8 0, .int .u8 0, .int .u8 0, .int .u8 0, .int .u8 0] ∧ Blk wx (w.heap.size + 1) 104 #[.slice none 0 0, .bool false] ∧ Blk wx (w.heap.size + 1 + 1) 104 #[v', .bool false] ∧ wx.ownsRow (w.heap.size + 1 + 1 + 1) 134 16 v' (k + 1) (bl (k + 1)) ∧ Below w.heap.size w wx)
      case first =>
        go_wp2_with fail
        go_region_law (first
          | (go_simp; go_at_call 215; refine (rblank_any _).mono ?_; rintro e w2 ⟨rfl, hb2⟩; have hs2 : wr.heap.size ≤ w2.heap.size := hb2.size; have hB2 := (hB.drew).below hb2 hgs; have x2 : w2.cell? ⟨w.heap.size + 1 + 1, 0, none⟩ = some v := hB2.cell 0; have x2a : (w2.alloc (.cells #[.int .i32 0, .int .i32 0, .int .i32 0, .int .i32 0, .int .i64 1, .int .i64 0, .int .u8 0, .int .u8 0, .int .u8 0, .int .u8 0, .int .i64 0, .int .u8 0, .int .u8 0, .int .u8 0, .int .u8 0, .int .u8 0] 134)).cell? ⟨w.heap.size + 1 + 1, 0, none⟩ = some v := (hB2.alloc _).cell 0; have hbX : Below wr.heap.size wr (w2.alloc (.cells #[.int .i32 0, .int .i32 0, .int .i32 0, .int .i32 0, .int .i64 1, .int .i64 0, .int .u8 0, .int .u8 0, .int .u8 0, .int .u8 0, .int .i64 0, .int .u8 0, .int .u8 0, .int .u8 0, .int .u8 0, .int .u8 0] 134)) := ((Below.refl wr.heap.size wr).drew.trans hb2).alloc hs2 _; have hownX := own_below hown hbX; have hPX := hP.below hbX hP.lt; have hRX := hR.below hbX hR.lt)
          | (refine step_append_any _ rfl (.tmp 13) (.tmp 16) 101 rfl (w.heap.size + 1 + 1 + 1) 134 i0 (.agg #[.int .i32 0, .int .i32 0, .int .i32 0, .int .i32 0, .int .i64 0, .int .i64 0, .int .u8 0, .int .u8 0, .int .u8 0, .int .u8 0, .int .i64 0, .int .u8 0, .int .u8 0, .int .u8 0, .int .u8 0, .int .u8 0]) 16 64 Tryz.underlying101 hi hz0 hz1 hz2 rfl (by decide) v k (bl k) (by kernel_rfl) hownX (w2.heap.size + 1) (some ⟨w2.heap.size, 0, none⟩) 1 1 bcl (by kernel_rfl) (reads_bcl w2) (bl_one (n := 1)) (by unfold maxLen; omega) (by omega) (by rw [alloc_size]; omega) ?_; intro v3 w3 hown3 hg3 _; obtain ⟨A3, c3, rfl, _, _, _⟩ := own_slice hown3; have hB3 := (hB2.alloc (.cells #[.int .i32 0, .int .i32 0, .int .i32 0, .int .i32 0, .int .i64 1, .int .i64 0, .int .u8 0, .int .u8 0, .int .u8 0, .int .u8 0, .int .i64 0, .int .u8 0, .int .u8 0, .int .u8 0, .int .u8 0, .int .u8 0] 134)).grown hg3 (own_blk_ne hownX (hB2.alloc _) (by decide)).symm; have hP3 := hPX.grown hg3 (own_blk_ne hownX hPX (by decide)).symm; have hR3 := hRX.grown hg3 (own_blk_ne hownX hRX (by decide)).symm; have x3 : w3.cell? ⟨w.heap.size + 1 + 1, 0, none⟩ = some v := hB3.cell 0; have f3 := hB3.frozen 0))
        all_goals
          go_wp2_with fail
          go_meet
          refine ⟨.slice A3 (k + 1) c3, hP3.far (by simp; omega) _, hR3.far (by simp) _, hB3.set_ 0 _, ?_, (hbr.trans (hbX.mono (by omega))).grown hg3 (by rw [alloc_size]; omega) (fun j q => by have := (own_lt hownX q).1; omega) |>.setCell (p := ⟨w.heap.size + 1 + 1, 0, none⟩) (by simp; omega) _⟩
          rw [bl_succ]
          exact own_set hown3 (by simp)
      case rest =>
        obtain ⟨v', hP', hR', hB', hown', hb'⟩ := hcut
        go_wp2
        go_roundw
        case rel => exact ⟨k + 1, v', by omega, by go_num, hP', hR', hB', hown', hb'⟩
        case measure => simp [intOf]; omega
    · obtain rfl : k = y := by omega
      obtain ⟨A3, c3, rfl, _, _, _⟩ := own_slice hown
      have x0 : wr.cell? ⟨w.heap.size + 1 + 1, 0, none⟩ = some (.slice A3 k c3) := hB.cell 0
      have x1 : wr.cell? ⟨w.heap.size + 1 + 1, 1, none⟩ = some (.bool false) := hB.cell 1
      go_wp2_with ((with_reducible refine wpList_store_blk rfl 104 (.tmp 4) (.tmp 19) rfl _ #[.slice none 0 0, .bool false] #[.slice A3 k c3, .bool false] rfl rfl hR (by kernel_rfl) rfl (by kernel_rfl) ?_); intro w4 hw4)
      refine bodyPost_ret (results_cell_row rfl _ _ _ _ _ (0, 0) _ rfl hw4.blk (by first | exact Tryz.underlying134 | exact Tryz.underlying104 | exact Tryz.underlying47) rfl (by kernel_rfl)) rfl ?_
      refine ⟨_, rfl, ?_, hbr.trans (hw4.below.mono (by omega))⟩
      exact (own_store hown hw4 (by omega)).mono (by omega)
end Go.Proofs.YtbnnnmohggladabGreatDoor

namespace Go.Proofs.YtbnnnmohggladabGreatDoor
open Go.RowKit Go.Rep
set_option maxRecDepth 100000
def RGridP (w : World) (n y : Nat) (e : Ending) (w' : World) : Prop := ∃ g v, e = .returned (.pointer (some ⟨g, 0, none⟩)) ∧ w.heap.size ≤ g ∧ Blk w' g 166 #[.int .i64 y, v] ∧ Lines w' w.heap.size v n y ∧ Below w.heap.size w w'
set_option maxHeartbeats 4000000 in
theorem rgrid_new {n y : Nat} (hn : n ≤ 1000) (hy : y ≤ 1000) (w : World) : Calls Tryz.prog 116 #[.int .i64 n, .int .i64 y] w (RGridP w n y) := by
  obtain ⟨i0, hi, hz0, hz1, hz2⟩ := info_parts line_info
  go_enter Tryz.func116, Tryz.ntmps116
  go_wp2
  go_loopw [6] (fun i wr => ∃ (k : Nat) (v : Value), k ≤ n ∧ i = .int .i64 k ∧ Blk wr w.heap.size 166 #[.int .i64 y, v] ∧ Lines wr (w.heap.size + 1) v k y ∧ Below w.heap.size w wr) (fun i _ => n - (intOf i).toNat)
  case atStart => exact ⟨0, .slice none 0 0, Nat.zero_le _, rfl, Blk.new w 166 _, ⟨[], World.ownsRow_nil _ _ _ _, fun i h => by omega⟩, (Below.refl _ _).alloc (Nat.le_refl _) _⟩
  case round =>
    obtain ⟨k, v, hk, rfl, hB, ⟨vs, hown, hx⟩, hbr⟩ := hrel
    have hHX := Lib.hid hx
    clear hx
    by_cases hlt : k < n
    · have hlt' : (k : Int) < (n : Int) := by omega
      have hgs := hB.lt
      have x1 : wr.cell? ⟨w.heap.size, 1, none⟩ = some v := hB.cell 1
      go_upto_block 1 with fail
      go_cut [] (fun wx => ∃ v' : Value, Blk wx w.heap.size 166 #[.int .i64 y, v'] ∧ Lines wx (w.heap.size + 1) v' (k + 1) y ∧ Below w.heap.size w wx)
      case first =>
        go_wp2_with fail
        go_region_law (first
          | (go_simp; go_at_call 157; refine (rblanks_any hy _).mono ?_; rintro e w2 ⟨v2, rfl, hown2, hb2⟩; obtain ⟨A2, c2, rfl, _, _, _⟩ := own_slice hown2; have hs2 : wr.heap.size ≤ w2.heap.size := hb2.size; have hB2 := (hB.drew).below hb2 hgs; have x2 : w2.cell? ⟨w.heap.size, 1, none⟩ = some v := hB2.cell 1; have x2a : (w2.alloc (.cells #[.slice A2 y c2, .bool false] 104)).cell? ⟨w.heap.size, 1, none⟩ = some v := (hB2.alloc _).cell 1; have hbX : Below wr.heap.size wr (w2.alloc (.cells #[.slice A2 y c2, .bool false] 104)) := ((Below.refl wr.heap.size wr).drew.trans hb2).alloc hs2 _; have ho2 : (w2.alloc (.cells #[.slice A2 y c2, .bool false] 104)).ownsRow (w.heap.size + 1) 134 16 (.slice A2 y c2) y (bl y) := (World.ownsRow.mono hown2 (by show w.heap.size + 1 ≤ wr.heap.size; omega)).alloc _; have hownX := own_below hown hbX)
          | (refine step_append_any _ rfl (.tmp 19) (.tmp 23) 36 rfl (w.heap.size + 1) 104 i0 (.agg #[.slice none 0 0, .bool false]) 2 32 Tryz.underlying36 hi hz0 hz1 hz2 rfl (by decide) v k vs (by kernel_rfl) hownX (w2.heap.size + 1) (some ⟨w2.heap.size, 0, none⟩) 1 1 [.slice A2 y c2, .bool false] (by kernel_rfl) (reads_line w2 _ _ 104) (by intro u hu; simp only [List.mem_cons, List.not_mem_nil, or_false] at hu; rcases hu with rfl | rfl <;> rfl) (by unfold maxLen; omega) (by omega) (by rw [alloc_size]; omega) ?_; intro v3 w3 hown3 hg3 _; obtain ⟨A3, c3, rfl, _, _, _⟩ := own_slice hown3; have hB3 : Blk w3 w.heap.size 166 #[.int .i64 y, v] := (hB2.alloc _).grown hg3 (own_blk_ne hownX (hB2.alloc _) (by decide)).symm; have hL3 := lines_push (g := w.heap.size) (u := .slice A3 (k + 1) c3) hown hHX.out hbX ho2 hown3 hg3 (by omega); have x3 : w3.cell? ⟨w.heap.size, 1, none⟩ = some v := hB3.cell 1; have f3 := hB3.frozen 1))
        all_goals
          go_wp2_with fail
          go_meet
          exact ⟨.slice A3 (k + 1) c3, hB3.set_ 1 _, hL3, (hbr.trans (hbX.mono (by omega))).grown hg3 (by rw [alloc_size]; omega) (fun j q => by have := (own_lt hownX q).1; omega) |>.setCell (p := ⟨w.heap.size, 1, none⟩) (Nat.le_refl _) _⟩
      case rest =>
        obtain ⟨v', hB', hL', hb'⟩ := hcut
        go_wp2
        go_roundw
        case rel => exact ⟨k + 1, v', by omega, by go_num, hB', hL', hb'⟩
        case measure => simp [intOf]; omega
    · obtain rfl : k = n := by omega
      go_wp2
      go_ret
      exact ⟨w.heap.size, v, rfl, Nat.le_refl _, hB, ⟨vs, hown.mono (by omega), fun i h => by obtain ⟨A, c, q1, q2, q3⟩ := hHX.out i h; exact ⟨A, c, q1, q2, q3.mono (by omega)⟩⟩, hbr⟩
end Go.Proofs.YtbnnnmohggladabGreatDoor

namespace Go.Proofs.YtbnnnmohggladabGreatDoor
open Go.RowKit Go.Rep
set_option maxRecDepth 100000
theorem lines_below {w w' : World} {b : Nat} {v : Value} {n m : Nat} (h : Lines w b v n m) (hb : Below w.heap.size w w') : Lines w' b v n m := by
  obtain ⟨vs, ho, hx⟩ := h
  exact ⟨vs, own_below ho hb, fun i hi => by obtain ⟨A, c, q1, q2, q3⟩ := hx i hi; exact ⟨A, c, q1, q2, own_below q3 hb⟩⟩
theorem lines_drew {w : World} {b : Nat} {v : Value} {n m : Nat} (h : Lines w b v n m) : Lines w.drew b v n m := h
theorem lines_mono {w : World} {b b' : Nat} {v : Value} {n m : Nat} (h : Lines w b v n m) (hb : b' ≤ b) : Lines w b' v n m := by
  obtain ⟨vs, ho, hx⟩ := h
  exact ⟨vs, ho.mono hb, fun i hi => by obtain ⟨A, c, q1, q2, q3⟩ := hx i hi; exact ⟨A, c, q1, q2, q3.mono hb⟩⟩
theorem lines_set {w : World} {b : Nat} {v : Value} {n m : Nat} {p : Addr} {u : Value} (h : Lines w b v n m) (hp : p.block < b) : Lines (w.setCell p u) b v n m := by
  obtain ⟨vs, ho, hx⟩ := h
  exact ⟨vs, own_set ho hp, fun i hi => by obtain ⟨A, c, q1, q2, q3⟩ := hx i hi; exact ⟨A, c, q1, q2, own_set q3 hp⟩⟩
theorem own_far {w : World} {b g i : Nat} {e t : TypeId} {size n : Nat} {v u : Value} {xs : List Value} {cs : Array Value} (h : w.ownsRow b e size v n xs) (hg : Blk w g t cs) (hne : e ≠ t) : (w.setCell ⟨g, i, none⟩ u).ownsRow b e size v n xs := by
  have hx := own_blk_ne h hg hne
  obtain ⟨hl, h | ⟨k, cap, cur, hu, hB, hk, hn, hm, hs, ht⟩⟩ := h
  · exact ⟨hl, .inl h⟩
  · subst hu
    have hkg : k ≠ g := fun e => hx (by rw [e]; rfl)
    exact ⟨hl, .inr ⟨k, cap, cur, rfl, hB, (Below.heap_setCell w ⟨g, i, none⟩ u k hkg).trans hk, hn, hm, hs, ht⟩⟩
theorem lines_far {w : World} {b g i : Nat} {t : TypeId} {v u : Value} {n m : Nat} {cs : Array Value} (h : Lines w b v n m) (hg : Blk w g t cs) (h1 : (104 : TypeId) ≠ t) (h2 : (134 : TypeId) ≠ t) : Lines (w.setCell ⟨g, i, none⟩ u) b v n m := by
  obtain ⟨vs, ho, hx⟩ := h
  exact ⟨vs, own_far ho hg h1, fun i hi => by obtain ⟨A, c, q1, q2, q3⟩ := hx i hi; exact ⟨A, c, q1, q2, own_far q3 hg h2⟩⟩
theorem pair_new {n y : Nat} (hn : n ≤ 1000) (hy : y ≤ 1000) (w : World) : Calls Tryz.prog 83 #[.int .i64 n, .int .i64 y] w fun e w' => ∃ p g v q, e = .returned (.pointer (some ⟨p, 0, none⟩)) ∧ w.heap.size ≤ p ∧ w.heap.size ≤ g ∧ Blk w' p 216 #[.pointer (some ⟨g, 0, none⟩), q, .int .i64 0, .int .i64 0, .int .i64 0, .bool false, .int .i64 0, .int .u8 0, .int .u8 0, .int .u8 0, .int .u8 0, .int .i64 0, .int .u8 0, .int .u8 0, .int .u8 0, .int .u8 0, .int .u8 0, .bool false, .int .i64 0, .int .i64 0, .int .i64 0, .bool false] ∧ Blk w' g 166 #[.int .i64 y, v] ∧ Lines w' w.heap.size v n y ∧ Below w.heap.size w w' := by
  go_enter Tryz.func83, Tryz.ntmps83
  go_wp2_with (first
    | (go_at_call 116; have hs9 := hs1; refine (rgrid_new hn hy _).mono ?_; rintro e w2 ⟨g2, v2, rfl, hg2, hB2, hL2, hb2⟩)
    | (go_at_call 116; refine (rgrid_new hn hy _).mono ?_; rintro e w1 ⟨g1, v1, rfl, hg1, hB1, hL1, hb1⟩; have hs1 := hb1.size))
  have hs2 := hb2.size
  go_ret
  exact ⟨w2.heap.size, g1, v1, _, rfl, by omega, hg1, Blk.new w2 216 _, (hB1.below hb2 hB1.lt).alloc _, lines_below (lines_below hL1 hb2) ((Below.refl _ _).alloc (Nat.le_refl _) _), (hb1.trans (hb2.mono hs1)).alloc (by omega) _⟩
end Go.Proofs.YtbnnnmohggladabGreatDoor
