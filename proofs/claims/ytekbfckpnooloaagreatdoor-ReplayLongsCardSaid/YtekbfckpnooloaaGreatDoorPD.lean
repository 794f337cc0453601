/- A part of the proof of ReplayLongs. -/
import Derived.Test.YtekbfckpnooloaaGreatDoorPC
import Derived.Deep.LoopGhost
import Derived.OwnWalk
namespace Go.Proofs.YtekbfckpnooloaaGreatDoor
open Go.RowKit Go.Rep
set_option maxRecDepth 100000
theorem op_info : (Tryz.prog.info? 38).map (fun i => (i.zero, i.size, i.bytes)) = some (some (.agg zero5), 5, 48) := by kernel_rfl
theorem op_cell (o : TOp) : ∀ u ∈ o.cells, u.oneCell' = true := by
  intro u hu
  simp only [TOp.cells, List.mem_cons, List.not_mem_nil, or_false] at hu
  rcases hu with rfl | rfl | rfl | rfl | rfl <;> rfl
theorem op_any' {A : Option Addr} {n c k R B : Nat} {l : List UInt8} {w : World} (hb : Blk w R 74 #[.slice A n c, .int .i64 k]) (hr : Reads w B 1 A n (bcells l)) (hB : B ≤ R) (hn : n ≤ 4096) (hk : k < n) (hnc : n ≤ c) (hc : c ≤ maxLen) :
    Calls Tryz.prog 23 #[.pointer (some ⟨R, 0, none⟩)] w fun e w' => e = .returned (.agg #[.int .i64 (opAt l k).k, .string (opAt l k).s, .int .i64 (opAt l k).r, .int .i64 (opAt l k).c, .int .i64 (opAt l k).n]) ∧ Blk w' R 74 #[.slice A n c, .int .i64 (min (nextAt l k) n : Nat)] ∧ w.grownBy w' (some R) :=
  op_any hb hr hB hn hk hnc hc
/-- What is returned. -/
def ParseP (l : List UInt8) (w : World) (e : Ending) (w' : World) : Prop :=
  ∃ v, e = .returned (.tuple #[v, .int .i64 0]) ∧ w'.ownsRow (w.heap.size + 1) 38 5 v (opsAt l 0).length (opCells (opsAt l 0)) ∧ Below w.heap.size w w'
set_option maxHeartbeats 1000000 in
theorem parse_any {A : Option Addr} {n c B : Nat} {l : List UInt8} {w : World} (hr : Reads w B 1 A n (bcells l)) (hB : B ≤ w.heap.size) (hn : n ≤ 4096) (hnc : n ≤ c) (hc : c ≤ maxLen) :
    Calls Tryz.prog 9 #[.slice A n c] w (ParseP l w) := by
  obtain ⟨i0, hi, hz0, hz1, hz2⟩ := info_parts op_info
  have HL := Lib.hid hr.bytes
  have hbn := Blk.new w 74 #[.slice A n c, .int .i64 0]
  go_enter Tryz.func9, Tryz.ntmps9
  go_wp2
  go_loopg [4] n (fun g v wr => ∃ (xs : List TOp) (k : Nat), k ≤ n ∧ g = n - k ∧ Blk wr w.heap.size 74 #[.slice A n c, .int .i64 k] ∧ wr.ownsRow (w.heap.size + 1) 38 5 v xs.length (opCells xs) ∧ Below w.heap.size w wr ∧ Aside (xs ++ opsAt l k = opsAt l 0))
  case atStart => exact ⟨[], 0, Nat.zero_le _, by omega, hbn, World.ownsRow_nil _ _ _ _, (Below.refl _ _).alloc (Nat.le_refl _) _, (rfl : [] ++ opsAt l 0 = opsAt l 0)⟩
  case round =>
    obtain ⟨xs, k, hk, rfl, hbk, hown, hbel, hA⟩ := hrel
    have c0 : wr.cell? ⟨w.heap.size, 0, none⟩ = some (.slice A n c) := hbk.cell 0
    have c1 : wr.cell? ⟨w.heap.size, 1, none⟩ = some (.int .i64 k) := hbk.cell 1
    have hsz := hbk.lt
    by_cases hlt : k < n
    · have hrw : Reads wr w.heap.size 1 A n (bcells l) := (hr.more hB).keep fun p hp => hbel.cell hp
      have hne := own_blk_ne hown hbk (by decide)
      have hlen : xs.length ≤ n := by
        have h1 := congrArg List.length hA.out
        have h2 := opsAt_length l 0
        have h3 := HL.out
        rw [List.length_append] at h1
        omega
      go_wp2_with (first
        | (go_at_call 23; refine (op_any' hbk hrw (Nat.le_refl _) hn hlt hnc hc).mono ?_; rintro e w1 ⟨rfl, hb1, hg1⟩)
        | (at_builtin; refine wpList_append_own _ rfl (.tmp 19) (.tmp 22) 26 rfl (w.heap.size + 1) 38 i0 (.agg zero5) 5 48 Tryz.underlying26 hi hz0 hz1 hz2 rfl (by decide) _ xs.length (opCells xs) rfl ((hown.kept hg1 (.inr hne)).alloc _) ⟨w1.heap.size, 0, none⟩ 1 1 (opAt l k).cells rfl rfl (op_new _ _ _) (op_cell _) (by unfold maxLen; omega) (by omega) (by have := hg1.size; simp; omega) ?_; intro v' w2 hown2 hg2 _))
      go_wp2
      go_roundg (n - min (nextAt l k) n)
      case measure => have := nextAt_gt (l := l) (i := k) (by have := HL.out; omega); omega
      case rel =>
        have hA' : (xs ++ [opAt l k]) ++ opsAt l (min (nextAt l k) n) = opsAt l 0 := by
          have h3 := HL.out
          rw [← h3, opsAt_min, List.append_assoc, List.singleton_append, ← opsAt_in (by omega)]
          exact hA.out
        refine ⟨xs ++ [opAt l k], min (nextAt l k) n, Nat.min_le_right _ _, rfl, (hb1.alloc _).grown hg2 (fun e => hne e.symm), ?_, ?_, hA'⟩
        · rw [List.length_append, opCells_snoc]
          exact hown2
        · exact ((hbel.grown hg1 (Nat.le_of_lt hsz) (fun j e => by cases e; exact Nat.le_refl _)).alloc (by have := hg1.size; omega) _).grown hg2 (by have := hg1.size; simp; omega) (fun j e => by have := own_base hown e; omega)
    · obtain rfl : k = n := by omega
      have hx : xs = opsAt l 0 := by
        have := hA.out
        rwa [opsAt_out (by have := HL.out; omega), List.append_nil] at this
      go_wp2
      go_ret2
      exact ⟨_, rfl, by rw [← hx]; exact hown, hbel⟩
end Go.Proofs.YtekbfckpnooloaaGreatDoor
