/- A part of the proof of TermNew. -/
import Derived.Test.YtbnnnmohggladabGreatDoorND
import Derived.Deep.CutBlock
import Derived.Deep.DeepCutAuto
import Derived.BigFrame
import Derived.Deep.QuietTactic
import Derived.BigQuiet
import Derived.Deep.Light
import Derived.Deep.RegionLaw
namespace Go.Proofs.YtbnnnmohggladabGreatDoor
open Go.RowKit Go.Rep
set_option maxRecDepth 100000
theorem bl_at {m j : Nat} (h : j < m) : ((bl m).drop (j * 16)).take 16 = bcl := by
  rw [show m = j + (1 + (m - j - 1)) by omega, bl_add, bl_add, List.drop_append_of_le_length (by rw [bl_length]; exact Nat.le_refl _), List.drop_of_length_le (by rw [bl_length]; exact Nat.le_refl _), List.nil_append, List.take_append_of_le_length (by rw [bl_length]; decide), List.take_of_length_le (by rw [bl_length]; decide)]
  rfl
theorem row_cell {w : World} {B m j : Nat} {ad : Addr} (hr : Reads w B 16 (some ad) m (bl m)) (h : j < m) : ∀ i v, (#[.int .i32 0, .int .i32 0, .int .i32 0, .int .i32 0, .int .i64 1, .int .i64 0, .int .u8 0, .int .u8 0, .int .u8 0, .int .u8 0, .int .i64 0, .int .u8 0, .int .u8 0, .int .u8 0, .int .u8 0, .int .u8 0] : Array Value).toList[i]? = some v → w.cell? ((ad.add (j * 16)).add i) = some v := by
  intro i v hv
  obtain ⟨ad', e, _, hc⟩ := hr.2 (by omega)
  cases e
  rw [add_of_add]
  apply hc
  have hi : i < 16 := by have := (List.getElem?_eq_some_iff.1 hv).1; simpa using this
  have e1 : (#[.int .i32 0, .int .i32 0, .int .i32 0, .int .i32 0, .int .i64 1, .int .i64 0, .int .u8 0, .int .u8 0, .int .u8 0, .int .u8 0, .int .i64 0, .int .u8 0, .int .u8 0, .int .u8 0, .int .u8 0, .int .u8 0] : Array Value).toList = bcl := rfl
  rw [e1, ← bl_at h, List.getElem?_take, if_pos hi, List.getElem?_drop] at hv
  exact hv
theorem cell_same (w : World) : (binOp .neq 134 (.agg #[.int .i32 0, .int .i32 0, .int .i32 0, .int .i32 0, .int .i64 1, .int .i64 0, .int .u8 0, .int .u8 0, .int .u8 0, .int .u8 0, .int .i64 0, .int .u8 0, .int .u8 0, .int .u8 0, .int .u8 0, .int .u8 0]) (.agg #[.int .i32 0, .int .i32 0, .int .i32 0, .int .i32 0, .int .i64 1, .int .i64 0, .int .u8 0, .int .u8 0, .int .u8 0, .int .u8 0, .int .i64 0, .int .u8 0, .int .u8 0, .int .u8 0, .int .u8 0, .int .u8 0])).run Tryz.prog w = .ok (.bool false) w := by kernel_rfl
set_option maxHeartbeats 4000000 in
theorem cells_same {m B c1 c2 : Nat} {a1 a2 : Addr} {w : World} (h1 : Reads w B 16 (some a1) m (bl m)) (h2 : Reads w B 16 (some a2) m (bl m)) (hm : m ≤ 1000) : Calls Tryz.prog 81 #[.slice (some a1) m c1, .slice (some a2) m c2] w fun e w' => e = .returned (.bool true) ∧ Below w.heap.size w w' := by
  go_enter Tryz.func81, Tryz.ntmps81
  go_wp2
  go_loopw [5] (fun i wr => ∃ j n : Nat, j ≤ m ∧ i = .int .i64 j ∧ wr = w.drewN n) (fun i _ => m - (intOf i).toNat)
  case atStart => exact ⟨0, 0, Nat.zero_le _, rfl, rfl⟩
  case round =>
    obtain ⟨j, n, hj, rfl, rfl⟩ := hrel
    by_cases hlt : j < m
    · have hlt' : (j : Int) < (m : Int) := by omega
      have q0 := cell_same
      have r1 := Lib.hid (row_cell h1 hlt)
      have r2 := Lib.hid (row_cell h2 hlt)
      have s1_0 : w.cell? (a1.add (j * 16)) = some (.int .i32 0) := (by have := r1.out 0 _ rfl; rw [addr_add0] at this; exact this)
      have s1_1 : w.cell? ⟨(a1.add (j * 16)).block, (a1.add (j * 16)).off + 1, none⟩ = some (.int .i32 0) := (by have := r1.out 1 _ rfl; rw [addr_add1 _ 1 (by decide)] at this; exact this)
      have s1_2 : w.cell? ⟨(a1.add (j * 16)).block, (a1.add (j * 16)).off + 2, none⟩ = some (.int .i32 0) := (by have := r1.out 2 _ rfl; rw [addr_add1 _ 2 (by decide)] at this; exact this)
      have s1_3 : w.cell? ⟨(a1.add (j * 16)).block, (a1.add (j * 16)).off + 3, none⟩ = some (.int .i32 0) := (by have := r1.out 3 _ rfl; rw [addr_add1 _ 3 (by decide)] at this; exact this)
      have s1_4 : w.cell? ⟨(a1.add (j * 16)).block, (a1.add (j * 16)).off + 4, none⟩ = some (.int .i64 1) := (by have := r1.out 4 _ rfl; rw [addr_add1 _ 4 (by decide)] at this; exact this)
      have s1_5 : w.cell? ⟨(a1.add (j * 16)).block, (a1.add (j * 16)).off + 5, none⟩ = some (.int .i64 0) := (by have := r1.out 5 _ rfl; rw [addr_add1 _ 5 (by decide)] at this; exact this)
      have s1_6 : w.cell? ⟨(a1.add (j * 16)).block, (a1.add (j * 16)).off + 6, none⟩ = some (.int .u8 0) := (by have := r1.out 6 _ rfl; rw [addr_add1 _ 6 (by decide)] at this; exact this)
      have s1_7 : w.cell? ⟨(a1.add (j * 16)).block, (a1.add (j * 16)).off + 7, none⟩ = some (.int .u8 0) := (by have := r1.out 7 _ rfl; rw [addr_add1 _ 7 (by decide)] at this; exact this)
      have s1_8 : w.cell? ⟨(a1.add (j * 16)).block, (a1.add (j * 16)).off + 8, none⟩ = some (.int .u8 0) := (by have := r1.out 8 _ rfl; rw [addr_add1 _ 8 (by decide)] at this; exact this)
      have s1_9 : w.cell? ⟨(a1.add (j * 16)).block, (a1.add (j * 16)).off + 9, none⟩ = some (.int .u8 0) := (by have := r1.out 9 _ rfl; rw [addr_add1 _ 9 (by decide)] at this; exact this)
      have s1_10 : w.cell? ⟨(a1.add (j * 16)).block, (a1.add (j * 16)).off + 10, none⟩ = some (.int .i64 0) := (by have := r1.out 10 _ rfl; rw [addr_add1 _ 10 (by decide)] at this; exact this)
      have s1_11 : w.cell? ⟨(a1.add (j * 16)).block, (a1.add (j * 16)).off + 11, none⟩ = some (.int .u8 0) := (by have := r1.out 11 _ rfl; rw [addr_add1 _ 11 (by decide)] at this; exact this)
      have s1_12 : w.cell? ⟨(a1.add (j * 16)).block, (a1.add (j * 16)).off + 12, none⟩ = some (.int .u8 0) := (by have := r1.out 12 _ rfl; rw [addr_add1 _ 12 (by decide)] at this; exact this)
      have s1_13 : w.cell? ⟨(a1.add (j * 16)).block, (a1.add (j * 16)).off + 13, none⟩ = some (.int .u8 0) := (by have := r1.out 13 _ rfl; rw [addr_add1 _ 13 (by decide)] at this; exact this)
      have s1_14 : w.cell? ⟨(a1.add (j * 16)).block, (a1.add (j * 16)).off + 14, none⟩ = some (.int .u8 0) := (by have := r1.out 14 _ rfl; rw [addr_add1 _ 14 (by decide)] at this; exact this)
      have s1_15 : w.cell? ⟨(a1.add (j * 16)).block, (a1.add (j * 16)).off + 15, none⟩ = some (.int .u8 0) := (by have := r1.out 15 _ rfl; rw [addr_add1 _ 15 (by decide)] at this; exact this)
      have s2_0 : w.cell? (a2.add (j * 16)) = some (.int .i32 0) := (by have := r2.out 0 _ rfl; rw [addr_add0] at this; exact this)
      have s2_1 : w.cell? ⟨(a2.add (j * 16)).block, (a2.add (j * 16)).off + 1, none⟩ = some (.int .i32 0) := (by have := r2.out 1 _ rfl; rw [addr_add1 _ 1 (by decide)] at this; exact this)
      have s2_2 : w.cell? ⟨(a2.add (j * 16)).block, (a2.add (j * 16)).off + 2, none⟩ = some (.int .i32 0) := (by have := r2.out 2 _ rfl; rw [addr_add1 _ 2 (by decide)] at this; exact this)
      have s2_3 : w.cell? ⟨(a2.add (j * 16)).block, (a2.add (j * 16)).off + 3, none⟩ = some (.int .i32 0) := (by have := r2.out 3 _ rfl; rw [addr_add1 _ 3 (by decide)] at this; exact this)
      have s2_4 : w.cell? ⟨(a2.add (j * 16)).block, (a2.add (j * 16)).off + 4, none⟩ = some (.int .i64 1) := (by have := r2.out 4 _ rfl; rw [addr_add1 _ 4 (by decide)] at this; exact this)
      have s2_5 : w.cell? ⟨(a2.add (j * 16)).block, (a2.add (j * 16)).off + 5, none⟩ = some (.int .i64 0) := (by have := r2.out 5 _ rfl; rw [addr_add1 _ 5 (by decide)] at this; exact this)
      have s2_6 : w.cell? ⟨(a2.add (j * 16)).block, (a2.add (j * 16)).off + 6, none⟩ = some (.int .u8 0) := (by have := r2.out 6 _ rfl; rw [addr_add1 _ 6 (by decide)] at this; exact this)
      have s2_7 : w.cell? ⟨(a2.add (j * 16)).block, (a2.add (j * 16)).off + 7, none⟩ = some (.int .u8 0) := (by have := r2.out 7 _ rfl; rw [addr_add1 _ 7 (by decide)] at this; exact this)
      have s2_8 : w.cell? ⟨(a2.add (j * 16)).block, (a2.add (j * 16)).off + 8, none⟩ = some (.int .u8 0) := (by have := r2.out 8 _ rfl; rw [addr_add1 _ 8 (by decide)] at this; exact this)
      have s2_9 : w.cell? ⟨(a2.add (j * 16)).block, (a2.add (j * 16)).off + 9, none⟩ = some (.int .u8 0) := (by have := r2.out 9 _ rfl; rw [addr_add1 _ 9 (by decide)] at this; exact this)
      have s2_10 : w.cell? ⟨(a2.add (j * 16)).block, (a2.add (j * 16)).off + 10, none⟩ = some (.int .i64 0) := (by have := r2.out 10 _ rfl; rw [addr_add1 _ 10 (by decide)] at this; exact this)
      have s2_11 : w.cell? ⟨(a2.add (j * 16)).block, (a2.add (j * 16)).off + 11, none⟩ = some (.int .u8 0) := (by have := r2.out 11 _ rfl; rw [addr_add1 _ 11 (by decide)] at this; exact this)
      have s2_12 : w.cell? ⟨(a2.add (j * 16)).block, (a2.add (j * 16)).off + 12, none⟩ = some (.int .u8 0) := (by have := r2.out 12 _ rfl; rw [addr_add1 _ 12 (by decide)] at this; exact this)
      have s2_13 : w.cell? ⟨(a2.add (j * 16)).block, (a2.add (j * 16)).off + 13, none⟩ = some (.int .u8 0) := (by have := r2.out 13 _ rfl; rw [addr_add1 _ 13 (by decide)] at this; exact this)
      have s2_14 : w.cell? ⟨(a2.add (j * 16)).block, (a2.add (j * 16)).off + 14, none⟩ = some (.int .u8 0) := (by have := r2.out 14 _ rfl; rw [addr_add1 _ 14 (by decide)] at this; exact this)
      have s2_15 : w.cell? ⟨(a2.add (j * 16)).block, (a2.add (j * 16)).off + 15, none⟩ = some (.int .u8 0) := (by have := r2.out 15 _ rfl; rw [addr_add1 _ 15 (by decide)] at this; exact this)
      go_upto_region 6 with fail
      go_quiet (fail)
      go_wp2
      go_roundw
      case rel => exact ⟨j + 1, n + nq, by omega, by go_num, by first | rfl | trivial⟩
      case measure => simp [intOf]; omega
    · obtain rfl : j = m := by omega
      go_wp2
      go_ret
      exact ⟨rfl, ⟨rfl, rfl, rfl, Nat.le_refl _, fun _ _ => rfl⟩⟩
end Go.Proofs.YtbnnnmohggladabGreatDoor
