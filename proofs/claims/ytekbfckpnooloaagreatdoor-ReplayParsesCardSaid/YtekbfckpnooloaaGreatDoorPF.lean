/- A part of the proof of ReplayParses. -/
import Derived.Test.YtekbfckpnooloaaGreatDoorPC
import Derived.Deep.LoopGhost
import Derived.OwnWalk
import Derived.Test.YtekbfckpnooloaaGreatDoorPD
namespace Go.Proofs.YtekbfckpnooloaaGreatDoor
open Go.RowKit Go.Rep
set_option maxRecDepth 100000
theorem at_any' {A : Option Addr} {n c B : Nat} {l : List UInt8} {w : World} {j : Int} {i : Nat} (hj : j = i) (hr : Reads w B 1 A n (bcells l)) :
    Calls Tryz.prog 22 #[.slice A n c, .int .i64 j] w fun e w' => e = .returned (.int .i64 (byteAt l i)) ∧ w = w' := by
  subst hj
  exact at_any hr
def RefP (l : List UInt8) (w : World) (e : Ending) (w' : World) : Prop :=
  ∃ v, e = .returned v ∧ w'.ownsRow w.heap.size 38 5 v (opsAt l 0).length (opCells (opsAt l 0)) ∧ Below w.heap.size w w'
set_option maxHeartbeats 4000000 in
theorem refparse_any {A : Option Addr} {n c B : Nat} {l : List UInt8} {w : World} (hr : Reads w B 1 A n (bcells l)) (hB : B ≤ w.heap.size) (hn : n ≤ 4096) (hnc : n ≤ c) (hc : c ≤ maxLen) :
    Calls Tryz.prog 8 #[.slice A n c] w (RefP l w) := by
  obtain ⟨i0, hi, hz0, hz1, hz2⟩ := info_parts op_info
  have HL := Lib.hid hr.bytes
  unfold maxLen at hc
  go_enter Tryz.func8, Tryz.ntmps8
  go_wp2
  go_loopg [3, 4] n (fun g v i wr => ∃ (xs : List TOp) (k : Nat), i = .int .i64 k ∧ k ≤ n + 3 ∧ g = n - min k n ∧ wr.ownsRow w.heap.size 38 5 v xs.length (opCells xs) ∧ Below w.heap.size w wr ∧ Aside (xs ++ opsAt l k = opsAt l 0))
  case atStart => exact ⟨[], 0, rfl, Nat.zero_le _, by omega, World.ownsRow_nil _ _ _ _, Below.refl _ _, (rfl : [] ++ opsAt l 0 = opsAt l 0)⟩
  case round =>
    obtain ⟨xs, k, rfl, hk, rfl, hown, hbel, hA⟩ := hrel
    have hsz := hbel.size
    by_cases hlt : k < n
    · have hrw : Reads wr w.heap.size 1 A n (bcells l) := (hr.more hB).keep fun p hp => hbel.cell hp
      have hlen : xs.length ≤ n := by
        have h1 := congrArg List.length hA.out
        have h2 := opsAt_length l 0
        have h3 := HL.out
        rw [List.length_append] at h1
        omega
      have hx0 := byteAt_lt l k
      have hx1 := byteAt_lt l (k + 1)
      have hx2 := byteAt_lt l (k + 2)
      by_cases h2 : byteAt l k % 4 = 2
      · have hnx : nextAt l k = k + 3 := by simp [nextAt, h2]
        have ho : opAt l k = (⟨2, ⟨#[]⟩, (byteAt l (k + 1) : Int) % 32 + 1, (byteAt l (k + 2) : Int) % 64 + 1, 0⟩ : TOp) := by
          simp only [opAt, h2, if_neg (show ¬ (2 < 2) by omega), if_true]; congr 1 <;> simp <;> rfl
        have HO := Lib.hid ho
        have HNX := Lib.hid hnx
        clear ho hnx
        go_wp2_with (first | (go_at_call 22; (with_reducible refine (at_any' (j := (k : Int)) (i := k) (by omega) hrw).mono ?_); rintro e w1 ⟨rfl, rfl⟩) | (go_at_call 22; (with_reducible refine (at_any' (j := (k : Int) + 1) (i := k + 1) (by omega) hrw).mono ?_); rintro e w1 ⟨rfl, rfl⟩) | (go_at_call 22; (with_reducible refine (at_any' (j := (k : Int) + 2) (i := k + 2) (by omega) hrw).mono ?_); rintro e w1 ⟨rfl, rfl⟩) | (at_builtin; refine wpList_append_own _ rfl (.tmp 57) (.tmp 71) 26 rfl w.heap.size 38 i0 (.agg zero5) 5 48 Tryz.underlying26 hi hz0 hz1 hz2 rfl (by decide) _ xs.length (opCells xs) rfl (hown.alloc _) ⟨wr.heap.size, 0, none⟩ 1 1 (⟨2, ⟨#[]⟩, (byteAt l (k + 1) : Int) % 32 + 1, (byteAt l (k + 2) : Int) % 64 + 1, 0⟩ : TOp).cells rfl rfl (op_new _ (⟨2, ⟨#[]⟩, (byteAt l (k + 1) : Int) % 32 + 1, (byteAt l (k + 2) : Int) % 64 + 1, 0⟩ : TOp) _) (op_cell (⟨2, ⟨#[]⟩, (byteAt l (k + 1) : Int) % 32 + 1, (byteAt l (k + 2) : Int) % 64 + 1, 0⟩ : TOp)) (by unfold maxLen; omega) (by omega) (by simp; omega) ?_; intro v' w2 hown2 hg2 _))
        go_roundg (n - min (nextAt l k) n)
        case measure => have := nextAt_gt (l := l) (i := k) (by have := HL.out; omega); omega
        case rel =>
          have hA' : (xs ++ [opAt l k]) ++ opsAt l (nextAt l k) = opsAt l 0 := by
            have h3 := HL.out
            rw [List.append_assoc, List.singleton_append, ← opsAt_in (by omega)]
            exact hA.out
          refine ⟨xs ++ [opAt l k], nextAt l k, ?_, ?_, rfl, ?_, ?_, hA'⟩
          · rw [HNX.out]; try first | rfl | go_num
          · rw [HNX.out]; omega
          · rw [List.length_append, opCells_snoc, HO.out]
            exact hown2
          · exact (hbel.alloc (by omega) _).grown hg2 (by simp; omega) (fun j e => by have := own_base hown e; omega)
      by_cases h3 : byteAt l k % 4 = 3
      · by_cases h7 : byteAt l (k + 1) < 128
        · have hnx : nextAt l k = k + 2 := by simp [nextAt, h3]
          have ho : opAt l k = (⟨3, ⟨#[]⟩, 0, 0, (byteAt l (k + 1) : Int)⟩ : TOp) := by
            simp only [opAt, h3, if_neg (show ¬ (3 < 2) by omega), if_neg (show ¬ (3 = 2) by omega), signed, if_pos h7]; rfl
          have HO := Lib.hid ho
          have HNX := Lib.hid hnx
          clear ho hnx
          go_wp2_with (first | (go_at_call 22; (with_reducible refine (at_any' (j := (k : Int)) (i := k) (by omega) hrw).mono ?_); rintro e w1 ⟨rfl, rfl⟩) | (go_at_call 22; (with_reducible refine (at_any' (j := (k : Int) + 1) (i := k + 1) (by omega) hrw).mono ?_); rintro e w1 ⟨rfl, rfl⟩) | (at_builtin; refine wpList_append_own _ rfl (.tmp 23) (.tmp 26) 26 rfl w.heap.size 38 i0 (.agg zero5) 5 48 Tryz.underlying26 hi hz0 hz1 hz2 rfl (by decide) _ xs.length (opCells xs) rfl (hown.alloc _) ⟨wr.heap.size, 0, none⟩ 1 1 (⟨3, ⟨#[]⟩, 0, 0, (byteAt l (k + 1) : Int)⟩ : TOp).cells rfl rfl (op_new _ (⟨3, ⟨#[]⟩, 0, 0, (byteAt l (k + 1) : Int)⟩ : TOp) _) (op_cell (⟨3, ⟨#[]⟩, 0, 0, (byteAt l (k + 1) : Int)⟩ : TOp)) (by unfold maxLen; omega) (by omega) (by simp; omega) ?_; intro v' w2 hown2 hg2 _))
          go_roundg (n - min (nextAt l k) n)
          case measure => have := nextAt_gt (l := l) (i := k) (by have := HL.out; omega); omega
          case rel =>
            have hA' : (xs ++ [opAt l k]) ++ opsAt l (nextAt l k) = opsAt l 0 := by
              have h3 := HL.out
              rw [List.append_assoc, List.singleton_append, ← opsAt_in (by omega)]
              exact hA.out
            refine ⟨xs ++ [opAt l k], nextAt l k, ?_, ?_, rfl, ?_, ?_, hA'⟩
            · rw [HNX.out]; try first | rfl | go_num
            · rw [HNX.out]; omega
            · rw [List.length_append, opCells_snoc, HO.out]
              exact hown2
            · exact (hbel.alloc (by omega) _).grown hg2 (by simp; omega) (fun j e => by have := own_base hown e; omega)
        · have hnx : nextAt l k = k + 2 := by simp [nextAt, h3]
          have ho : opAt l k = (⟨3, ⟨#[]⟩, 0, 0, (byteAt l (k + 1) : Int) - 256⟩ : TOp) := by
            simp only [opAt, h3, if_neg (show ¬ (3 < 2) by omega), if_neg (show ¬ (3 = 2) by omega), signed, if_neg h7]; rfl
          have HO := Lib.hid ho
          have HNX := Lib.hid hnx
          clear ho hnx
          go_wp2_with (first | (go_at_call 22; (with_reducible refine (at_any' (j := (k : Int)) (i := k) (by omega) hrw).mono ?_); rintro e w1 ⟨rfl, rfl⟩) | (go_at_call 22; (with_reducible refine (at_any' (j := (k : Int) + 1) (i := k + 1) (by omega) hrw).mono ?_); rintro e w1 ⟨rfl, rfl⟩) | (at_builtin; refine wpList_append_own _ rfl (.tmp 23) (.tmp 26) 26 rfl w.heap.size 38 i0 (.agg zero5) 5 48 Tryz.underlying26 hi hz0 hz1 hz2 rfl (by decide) _ xs.length (opCells xs) rfl (hown.alloc _) ⟨wr.heap.size, 0, none⟩ 1 1 (⟨3, ⟨#[]⟩, 0, 0, (byteAt l (k + 1) : Int) - 256⟩ : TOp).cells rfl rfl (op_new _ (⟨3, ⟨#[]⟩, 0, 0, (byteAt l (k + 1) : Int) - 256⟩ : TOp) _) (op_cell (⟨3, ⟨#[]⟩, 0, 0, (byteAt l (k + 1) : Int) - 256⟩ : TOp)) (by unfold maxLen; omega) (by omega) (by simp; omega) ?_; intro v' w2 hown2 hg2 _))
          go_roundg (n - min (nextAt l k) n)
          case measure => have := nextAt_gt (l := l) (i := k) (by have := HL.out; omega); omega
          case rel =>
            have hA' : (xs ++ [opAt l k]) ++ opsAt l (nextAt l k) = opsAt l 0 := by
              have h3 := HL.out
              rw [List.append_assoc, List.singleton_append, ← opsAt_in (by omega)]
              exact hA.out
            refine ⟨xs ++ [opAt l k], nextAt l k, ?_, ?_, rfl, ?_, ?_, hA'⟩
            · rw [HNX.out]; try first | rfl | go_num
            · rw [HNX.out]; omega
            · rw [List.length_append, opCells_snoc, HO.out]
              exact hown2
            · exact (hbel.alloc (by omega) _).grown hg2 (by simp; omega) (fun j e => by have := own_base hown e; omega)
      have h1 : byteAt l k % 4 < 2 := by omega
      by_cases hm : k + 1 + byteAt l k / 4 ≤ n
      · have hnx : nextAt l k = k + 1 + byteAt l k / 4 := by have := HL.out; simp only [nextAt, if_pos h1, endAt]; omega
        have ho : opAt l k = (⟨1, ⟨((l.take (endAt l k)).drop (k + 1)).toArray⟩, 0, 0, 0⟩ : TOp) := by
          simp only [opAt, if_pos h1]
        have HO := Lib.hid ho
        have HNX := Lib.hid hnx
        clear ho hnx
        have hcut := (hrw.cut (k := k + 1) (cap := c) hlt hnc).take (m := byteAt l k / 4) (by omega)
        simp only [Nat.mul_one, bcells_drop, bcells_take] at hcut
        have eA : (fun x : Addr => x.add (k + 1)) = (fun x => ⟨x.block, x.off + (k + 1), none⟩) := by funext x; simp [Addr.add]
        rw [eA] at hcut
        obtain ⟨F, hF⟩ : ∃ F, (if c = k + 1 then A else Option.map (fun x : Addr => (⟨x.block, x.off + (k + 1), none⟩ : Addr)) A) = F := ⟨_, rfl⟩
        rw [hF] at hcut
        have hcv := run_conv_reads (P := Tryz.prog) hcut 22 5 Tryz.underlying22 Tryz.underlying5 (c - (k + 1)) 9 Tryz.underlying9
        have es : ((l.drop (k + 1)).take (byteAt l k / 4)) = (l.take (endAt l k)).drop (k + 1) := by
          have hl := HL.out
          rw [List.drop_take]
          congr 1
          unfold endAt
          omega
        rw [es] at hcv
        have n2 : ((k : Int) + 1).toNat = k + 1 := by omega
        have b3 : (0 : Int) ≤ (k : Int) + 1 := by omega
        have b1 : (k : Int) + 1 + (byteAt l k : Int) / 4 ≤ (n : Int) := by omega
        have b2 : (k : Int) + 1 + (byteAt l k : Int) / 4 ≤ (c : Int) := by omega
        have b4 : (k : Int) + 1 ≤ (k : Int) + 1 + (byteAt l k : Int) / 4 := by omega
        have n1 : ((k : Int) + 1 + (byteAt l k : Int) / 4).toNat = k + 1 + byteAt l k / 4 := by omega
        go_wp2_with (first | (go_at_call 22; (with_reducible refine (at_any' (j := (k : Int)) (i := k) (by omega) hrw).mono ?_); rintro e w1 ⟨rfl, rfl⟩) | (at_builtin; refine wpList_append_own _ rfl (.tmp 42) (.tmp 50) 26 rfl w.heap.size 38 i0 (.agg zero5) 5 48 Tryz.underlying26 hi hz0 hz1 hz2 rfl (by decide) _ xs.length (opCells xs) rfl (hown.alloc _) ⟨wr.heap.size, 0, none⟩ 1 1 (⟨1, ⟨((l.take (endAt l k)).drop (k + 1)).toArray⟩, 0, 0, 0⟩ : TOp).cells rfl rfl (op_new _ (⟨1, ⟨((l.take (endAt l k)).drop (k + 1)).toArray⟩, 0, 0, 0⟩ : TOp) _) (op_cell (⟨1, ⟨((l.take (endAt l k)).drop (k + 1)).toArray⟩, 0, 0, 0⟩ : TOp)) (by unfold maxLen; omega) (by omega) (by simp; omega) ?_; intro v' w2 hown2 hg2 _))
        go_roundg (n - min (nextAt l k) n)
        case measure => have := nextAt_gt (l := l) (i := k) (by have := HL.out; omega); omega
        case rel =>
          have hA' : (xs ++ [opAt l k]) ++ opsAt l (nextAt l k) = opsAt l 0 := by
            have h3 := HL.out
            rw [List.append_assoc, List.singleton_append, ← opsAt_in (by omega)]
            exact hA.out
          refine ⟨xs ++ [opAt l k], nextAt l k, ?_, ?_, rfl, ?_, ?_, hA'⟩
          · rw [HNX.out]; try first | rfl | go_num
          · rw [HNX.out]; omega
          · rw [List.length_append, opCells_snoc, HO.out]
            exact hown2
          · exact (hbel.alloc (by omega) _).grown hg2 (by simp; omega) (fun j e => by have := own_base hown e; omega)
      · have hnx : nextAt l k = n := by have := HL.out; simp only [nextAt, if_pos h1, endAt]; omega
        have ho : opAt l k = (⟨1, ⟨((l.take (endAt l k)).drop (k + 1)).toArray⟩, 0, 0, 0⟩ : TOp) := by
          simp only [opAt, if_pos h1]
        have HO := Lib.hid ho
        have HNX := Lib.hid hnx
        clear ho hnx
        have hcut := (hrw.cut (k := k + 1) (cap := c) hlt hnc).take (m := n - (k + 1)) (by omega)
        simp only [Nat.mul_one, bcells_drop, bcells_take] at hcut
        have eA : (fun x : Addr => x.add (k + 1)) = (fun x => ⟨x.block, x.off + (k + 1), none⟩) := by funext x; simp [Addr.add]
        rw [eA] at hcut
        obtain ⟨F, hF⟩ : ∃ F, (if c = k + 1 then A else Option.map (fun x : Addr => (⟨x.block, x.off + (k + 1), none⟩ : Addr)) A) = F := ⟨_, rfl⟩
        rw [hF] at hcut
        have hcv := run_conv_reads (P := Tryz.prog) hcut 22 5 Tryz.underlying22 Tryz.underlying5 (c - (k + 1)) 9 Tryz.underlying9
        have es : ((l.drop (k + 1)).take (n - (k + 1))) = (l.take (endAt l k)).drop (k + 1) := by
          have hl := HL.out
          rw [List.drop_take]
          congr 1
          unfold endAt
          omega
        rw [es] at hcv
        have n2 : ((k : Int) + 1).toNat = k + 1 := by omega
        have b3 : (0 : Int) ≤ (k : Int) + 1 := by omega
        have b1 : (n : Int) < (k : Int) + 1 + (byteAt l k : Int) / 4 := by omega
        have b4 : (k : Int) + 1 ≤ (n : Int) := by omega
        have b2 : (n : Int) ≤ (c : Int) := by omega
        go_wp2_with (first | (go_at_call 22; (with_reducible refine (at_any' (j := (k : Int)) (i := k) (by omega) hrw).mono ?_); rintro e w1 ⟨rfl, rfl⟩) | (at_builtin; refine wpList_append_own _ rfl (.tmp 42) (.tmp 50) 26 rfl w.heap.size 38 i0 (.agg zero5) 5 48 Tryz.underlying26 hi hz0 hz1 hz2 rfl (by decide) _ xs.length (opCells xs) rfl (hown.alloc _) ⟨wr.heap.size, 0, none⟩ 1 1 (⟨1, ⟨((l.take (endAt l k)).drop (k + 1)).toArray⟩, 0, 0, 0⟩ : TOp).cells rfl rfl (op_new _ (⟨1, ⟨((l.take (endAt l k)).drop (k + 1)).toArray⟩, 0, 0, 0⟩ : TOp) _) (op_cell (⟨1, ⟨((l.take (endAt l k)).drop (k + 1)).toArray⟩, 0, 0, 0⟩ : TOp)) (by unfold maxLen; omega) (by omega) (by simp; omega) ?_; intro v' w2 hown2 hg2 _))
        go_roundg (n - min (nextAt l k) n)
        case measure => have := nextAt_gt (l := l) (i := k) (by have := HL.out; omega); omega
        case rel =>
          have hA' : (xs ++ [opAt l k]) ++ opsAt l (nextAt l k) = opsAt l 0 := by
            have h3 := HL.out
            rw [List.append_assoc, List.singleton_append, ← opsAt_in (by omega)]
            exact hA.out
          refine ⟨xs ++ [opAt l k], nextAt l k, ?_, ?_, rfl, ?_, ?_, hA'⟩
          · rw [HNX.out]; try first | rfl | go_num
          · rw [HNX.out]; omega
          · rw [List.length_append, opCells_snoc, HO.out]
            exact hown2
          · exact (hbel.alloc (by omega) _).grown hg2 (by simp; omega) (fun j e => by have := own_base hown e; omega)
    · have hx : xs = opsAt l 0 := by
        have := hA.out
        rwa [opsAt_out (by have := HL.out; omega), List.append_nil] at this
      go_wp2
      go_ret
      exact ⟨_, rfl, by rw [← hx]; exact hown, hbel⟩
end Go.Proofs.YtekbfckpnooloaaGreatDoor
