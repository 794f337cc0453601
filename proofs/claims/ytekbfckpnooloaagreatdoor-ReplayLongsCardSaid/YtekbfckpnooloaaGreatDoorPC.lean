/- A part of the proof of ReplayLongs. -/
import Derived.Test.YtekbfckpnooloaaGreatDoorPB
import Derived.StillTailTactics
namespace Go.Proofs.YtekbfckpnooloaaGreatDoor
open Go.RowKit Go.Rep
set_option maxRecDepth 100000
set_option maxHeartbeats 800000 in
theorem op_write_a {A : Option Addr} {n c k R B : Nat} {l : List UInt8} {w : World} (hb : Blk w R 74 #[.slice A n c, .int .i64 k]) (hr : Reads w B 1 A n (bcells l)) (hB : B ≤ R) (hn : n ≤ 4096) (hk : k < n) (hnc : n ≤ c) (hc : c ≤ maxLen) (hx : byteAt l k % 4 < 2) (hm : byteAt l k / 4 ≤ n - (k + 1)) :
    Calls Tryz.prog 23 #[.pointer (some ⟨R, 0, none⟩)] w (OpP R 74 A n c l k w) := by
  have hlt := hb.lt
  have hl := hr.bytes
  have hb0 := byteAt_lt l k
  unfold maxLen at hc
  have hmi : ((byteAt l k : Int) / 4) ≤ (n : Int) - ((k : Int) + 1) := by omega
  have HL := Lib.hid hl
  clear hl
  go_enter Tryz.func23, Tryz.ntmps23
  go_wp2_with (first
    | (go_at_call 42; refine (next_any (hb.alloc _) (hr.alloc (Nat.le_of_lt (Nat.lt_of_le_of_lt hB hlt)) _) hB hn (Nat.le_of_lt hk)).mono ?_; rintro e w1 ⟨rfl, hb1, hg1⟩; rw [Nat.min_eq_left (show k + 1 ≤ n from hk)] at hb1; have hr1 := (hr.alloc (Nat.le_of_lt (Nat.lt_of_le_of_lt hB hlt)) _).grown hg1 (by simp; omega) (fun g e => by cases e; exact hB); have bN1 := (Blk.new w 38 zero5).grown hg1 (by simp; omega); have q0 : w1.cell? ⟨R, 0, none⟩ = some (.slice A n c) := hb1.cell 0; have q1 : w1.cell? ⟨R, 1, none⟩ = some (.int .i64 ↑(k + 1)) := hb1.cell 1; have qf := hb1.frozen 1))
  go_quiet (fail)
  go_wp2
  have hbW : Blk ((w1.drewN nq).setCell ⟨R, 1, none⟩ (Value.int IntKind.i64 (↑k + 1 + (byteAt l k : Int) / 4))) R 74 #[Value.slice A n c, Value.int IntKind.i64 (↑k + 1 + (byteAt l k : Int) / 4)] := by simpa using (hb1.drewN nq).set_ 1 (Value.int IntKind.i64 (↑k + 1 + (byteAt l k : Int) / 4))
  have hrW := (hr1.drewN nq).setCell (p := ⟨R, 1, none⟩) hB (Value.int IntKind.i64 (↑k + 1 + (byteAt l k : Int) / 4))
  have bNW := (bN1.drewN nq).far (p := ⟨R, 1, none⟩) (show w.heap.size ≠ R by omega) (Value.int IntKind.i64 (↑k + 1 + (byteAt l k : Int) / 4))
  have hgW := grown_trans (grown_drewN w1 nq (some R)) (grown_set (w1.drewN nq) R 1 (Value.int IntKind.i64 (↑k + 1 + (byteAt l k : Int) / 4)))
  generalize (w1.drewN nq).setCell ⟨R, 1, none⟩ (Value.int IntKind.i64 (↑k + 1 + (byteAt l k : Int) / 4)) = W1 at hbW hrW bNW hgW ⊢
  have s0 : W1.cell? ⟨R, 0, none⟩ = some (.slice A n c) := hbW.cell 0
  have s1 : W1.cell? ⟨R, 1, none⟩ = some (Value.int IntKind.i64 (↑k + 1 + (byteAt l k : Int) / 4)) := hbW.cell 1
  clear q0 q1 qf
  have b0 : IntKind.i64.wrap ((k : Int) + 1) = (k : Int) + 1 := IntWalk.i64_in _ (by omega)
  have b0' : IntKind.i64.wrap ((k : Int) + 1 + (byteAt l k : Int) / 4 - ((byteAt l k : Int) / 4)) = (k : Int) + 1 := (IntWalk.i64_in _ (by omega)).trans (by omega)
  have b1 : (0 : Int) ≤ (k : Int) + 1 + (byteAt l k : Int) / 4 := by omega
  have b2 : (k : Int) + 1 + (byteAt l k : Int) / 4 ≤ (c : Int) := by omega
  have b3 : (0 : Int) ≤ (k : Int) + 1 := by omega
  have b4 : (k : Int) + 1 ≤ max ((k : Int) + 1 + (byteAt l k : Int) / 4) 0 := by omega
  have n1 : ((k : Int) + 1 + (byteAt l k : Int) / 4).toNat = k + 1 + (byteAt l k / 4) := by omega
  have n2 : ((k : Int) + 1).toNat = k + 1 := by omega
  have hcut := ((hrW.drew).cut (k := k + 1) (cap := c) hk hnc).take (m := byteAt l k / 4) (by omega)
  simp only [Nat.mul_one, bcells_drop, bcells_take] at hcut
  have b5 : (k : Int) + 1 ≤ (k : Int) + 1 + (byteAt l k : Int) / 4 := by omega
  have eA : (fun x : Addr => x.add (k + 1)) = (fun x => ⟨x.block, x.off + (k + 1), none⟩) := by funext x; simp [Addr.add]
  rw [eA] at hcut
  obtain ⟨F, hF⟩ : ∃ F, (if c = k + 1 then A else Option.map (fun x : Addr => (⟨x.block, x.off + (k + 1), none⟩ : Addr)) A) = F := ⟨_, rfl⟩
  rw [hF] at hcut
  have hcv := run_conv_reads (P := Tryz.prog) hcut 22 5 Tryz.underlying22 Tryz.underlying5 (c - (k + 1)) 9 Tryz.underlying9
  have es : ((l.drop (k + 1)).take (byteAt l k / 4)) = (l.take (endAt l k)).drop (k + 1) := by
    have hl := HL.out
    rw [List.drop_take]
    congr 1
    unfold endAt
    omega
  rw [es] at hcv
  go_still_tail 17, (by kernel_rfl)
  clear b0 b0' b1 b2 b3 b4 n1 n2 b5 hcv s0 s1 hF
  obtain ⟨z0, z1, z2, z3, z4⟩ := bNW.cells5
  have f0 := bNW.frozen 0
  have f1 := bNW.frozen 1
  have f2 := bNW.frozen 2
  have f3 := bNW.frozen 3
  have f4 := bNW.frozen 4
  go_wp2
  · have hw := bNW.five (Value.int IntKind.i64 1) (Value.string { data := (List.drop (k + 1) (List.take (endAt l k) l)).toArray }) (Value.int IntKind.i64 0) (Value.int IntKind.i64 0) (Value.int IntKind.i64 0)
    refine bodyPost_ret (v := .agg (opAt l k).cells.toArray) ?_ rfl ⟨rfl, ?_, ?_⟩
    · obtain ⟨d0, d1, d2, d3, d4⟩ := hw.drew.cells5
      simp only [opAt, if_pos hx, TOp.cells]
      simp [results, Tryz.results23, go_sem, d0, d1, d2, d3, d4]
    · have e : min (nextAt l k) n = k + 1 + (byteAt l k / 4) := by
        have hl := HL.out
        simp only [nextAt, if_pos hx, endAt]
        omega
      rw [e]
      have e2 : ((k + 1 + (byteAt l k / 4) : Nat) : Int) = (k : Int) + 1 + (byteAt l k : Int) / 4 := by omega
      rw [e2]
      have h6 := (hbW.five_far (N := w.heap.size) (show R ≠ w.heap.size by omega) (Value.int IntKind.i64 1) (Value.string { data := (List.drop (k + 1) (List.take (endAt l k) l)).toArray }) (Value.int IntKind.i64 0) (Value.int IntKind.i64 0) (Value.int IntKind.i64 0)).drew
      exact h6
    · exact grown_trans (grown_new (grown_trans (grown_trans (grown_alloc w _ _) hg1) hgW) (grown_five W1 w.heap.size (Value.int IntKind.i64 1) (Value.string { data := (List.drop (k + 1) (List.take (endAt l k) l)).toArray }) (Value.int IntKind.i64 0) (Value.int IntKind.i64 0) (Value.int IntKind.i64 0)) (Nat.le_refl _)) (grown_drewN _ 1 _)
set_option maxHeartbeats 800000 in
theorem op_write_b {A : Option Addr} {n c k R B : Nat} {l : List UInt8} {w : World} (hb : Blk w R 74 #[.slice A n c, .int .i64 k]) (hr : Reads w B 1 A n (bcells l)) (hB : B ≤ R) (hn : n ≤ 4096) (hk : k < n) (hnc : n ≤ c) (hc : c ≤ maxLen) (hx : byteAt l k % 4 < 2) (hm : n - (k + 1) < byteAt l k / 4) :
    Calls Tryz.prog 23 #[.pointer (some ⟨R, 0, none⟩)] w (OpP R 74 A n c l k w) := by
  have hlt := hb.lt
  have hl := hr.bytes
  have hb0 := byteAt_lt l k
  unfold maxLen at hc
  have hmi : (n : Int) - ((k : Int) + 1) < ((byteAt l k : Int) / 4) := by omega
  have HL := Lib.hid hl
  clear hl
  go_enter Tryz.func23, Tryz.ntmps23
  go_wp2_with (first
    | (go_at_call 42; refine (next_any (hb.alloc _) (hr.alloc (Nat.le_of_lt (Nat.lt_of_le_of_lt hB hlt)) _) hB hn (Nat.le_of_lt hk)).mono ?_; rintro e w1 ⟨rfl, hb1, hg1⟩; rw [Nat.min_eq_left (show k + 1 ≤ n from hk)] at hb1; have hr1 := (hr.alloc (Nat.le_of_lt (Nat.lt_of_le_of_lt hB hlt)) _).grown hg1 (by simp; omega) (fun g e => by cases e; exact hB); have bN1 := (Blk.new w 38 zero5).grown hg1 (by simp; omega); have q0 : w1.cell? ⟨R, 0, none⟩ = some (.slice A n c) := hb1.cell 0; have q1 : w1.cell? ⟨R, 1, none⟩ = some (.int .i64 ↑(k + 1)) := hb1.cell 1; have qf := hb1.frozen 1))
  go_quiet (fail)
  go_wp2
  have hbW : Blk ((w1.drewN nq).setCell ⟨R, 1, none⟩ (Value.int IntKind.i64 (↑k + 1 + ((n : Int) - ((k : Int) + 1))))) R 74 #[Value.slice A n c, Value.int IntKind.i64 (↑k + 1 + ((n : Int) - ((k : Int) + 1)))] := by simpa using (hb1.drewN nq).set_ 1 (Value.int IntKind.i64 (↑k + 1 + ((n : Int) - ((k : Int) + 1))))
  have hrW := (hr1.drewN nq).setCell (p := ⟨R, 1, none⟩) hB (Value.int IntKind.i64 (↑k + 1 + ((n : Int) - ((k : Int) + 1))))
  have bNW := (bN1.drewN nq).far (p := ⟨R, 1, none⟩) (show w.heap.size ≠ R by omega) (Value.int IntKind.i64 (↑k + 1 + ((n : Int) - ((k : Int) + 1))))
  have hgW := grown_trans (grown_drewN w1 nq (some R)) (grown_set (w1.drewN nq) R 1 (Value.int IntKind.i64 (↑k + 1 + ((n : Int) - ((k : Int) + 1)))))
  generalize (w1.drewN nq).setCell ⟨R, 1, none⟩ (Value.int IntKind.i64 (↑k + 1 + ((n : Int) - ((k : Int) + 1)))) = W1 at hbW hrW bNW hgW ⊢
  have s0 : W1.cell? ⟨R, 0, none⟩ = some (.slice A n c) := hbW.cell 0
  have s1 : W1.cell? ⟨R, 1, none⟩ = some (Value.int IntKind.i64 (↑k + 1 + ((n : Int) - ((k : Int) + 1)))) := hbW.cell 1
  clear q0 q1 qf
  have b0 : IntKind.i64.wrap ((k : Int) + 1) = (k : Int) + 1 := IntWalk.i64_in _ (by omega)
  have b0' : IntKind.i64.wrap ((k : Int) + 1 + ((n : Int) - ((k : Int) + 1)) - (((n : Int) - ((k : Int) + 1)))) = (k : Int) + 1 := (IntWalk.i64_in _ (by omega)).trans (by omega)
  have b1 : (0 : Int) ≤ (k : Int) + 1 + ((n : Int) - ((k : Int) + 1)) := by omega
  have b2 : (k : Int) + 1 + ((n : Int) - ((k : Int) + 1)) ≤ (c : Int) := by omega
  have b3 : (0 : Int) ≤ (k : Int) + 1 := by omega
  have b4 : (k : Int) + 1 ≤ max ((k : Int) + 1 + ((n : Int) - ((k : Int) + 1))) 0 := by omega
  have n1 : ((k : Int) + 1 + ((n : Int) - ((k : Int) + 1))).toNat = k + 1 + (n - (k + 1)) := by omega
  have n2 : ((k : Int) + 1).toNat = k + 1 := by omega
  have hcut := ((hrW.drew).cut (k := k + 1) (cap := c) hk hnc).take (m := n - (k + 1)) (by omega)
  simp only [Nat.mul_one, bcells_drop, bcells_take] at hcut
  have b5 : (k : Int) + 1 ≤ (k : Int) + 1 + ((n : Int) - ((k : Int) + 1)) := by omega
  have eA : (fun x : Addr => x.add (k + 1)) = (fun x => ⟨x.block, x.off + (k + 1), none⟩) := by funext x; simp [Addr.add]
  rw [eA] at hcut
  obtain ⟨F, hF⟩ : ∃ F, (if c = k + 1 then A else Option.map (fun x : Addr => (⟨x.block, x.off + (k + 1), none⟩ : Addr)) A) = F := ⟨_, rfl⟩
  rw [hF] at hcut
  have hcv := run_conv_reads (P := Tryz.prog) hcut 22 5 Tryz.underlying22 Tryz.underlying5 (c - (k + 1)) 9 Tryz.underlying9
  have es : ((l.drop (k + 1)).take (n - (k + 1))) = (l.take (endAt l k)).drop (k + 1) := by
    have hl := HL.out
    rw [List.drop_take]
    congr 1
    unfold endAt
    omega
  rw [es] at hcv
  go_still_tail 17, (by kernel_rfl)
  clear b0 b0' b1 b2 b3 b4 n1 n2 b5 hcv s0 s1 hF
  obtain ⟨z0, z1, z2, z3, z4⟩ := bNW.cells5
  have f0 := bNW.frozen 0
  have f1 := bNW.frozen 1
  have f2 := bNW.frozen 2
  have f3 := bNW.frozen 3
  have f4 := bNW.frozen 4
  go_wp2
  · have hw := bNW.five (Value.int IntKind.i64 1) (Value.string { data := (List.drop (k + 1) (List.take (endAt l k) l)).toArray }) (Value.int IntKind.i64 0) (Value.int IntKind.i64 0) (Value.int IntKind.i64 0)
    refine bodyPost_ret (v := .agg (opAt l k).cells.toArray) ?_ rfl ⟨rfl, ?_, ?_⟩
    · obtain ⟨d0, d1, d2, d3, d4⟩ := hw.drew.cells5
      simp only [opAt, if_pos hx, TOp.cells]
      simp [results, Tryz.results23, go_sem, d0, d1, d2, d3, d4]
    · have e : min (nextAt l k) n = k + 1 + (n - (k + 1)) := by
        have hl := HL.out
        simp only [nextAt, if_pos hx, endAt]
        omega
      rw [e]
      have e2 : ((k + 1 + (n - (k + 1)) : Nat) : Int) = (k : Int) + 1 + ((n : Int) - ((k : Int) + 1)) := by omega
      rw [e2]
      have h6 := (hbW.five_far (N := w.heap.size) (show R ≠ w.heap.size by omega) (Value.int IntKind.i64 1) (Value.string { data := (List.drop (k + 1) (List.take (endAt l k) l)).toArray }) (Value.int IntKind.i64 0) (Value.int IntKind.i64 0) (Value.int IntKind.i64 0)).drew
      exact h6
    · exact grown_trans (grown_new (grown_trans (grown_trans (grown_alloc w _ _) hg1) hgW) (grown_five W1 w.heap.size (Value.int IntKind.i64 1) (Value.string { data := (List.drop (k + 1) (List.take (endAt l k) l)).toArray }) (Value.int IntKind.i64 0) (Value.int IntKind.i64 0) (Value.int IntKind.i64 0)) (Nat.le_refl _)) (grown_drewN _ 1 _)
theorem op_any {A : Option Addr} {n c k R B : Nat} {l : List UInt8} {w : World} (hb : Blk w R 74 #[.slice A n c, .int .i64 k]) (hr : Reads w B 1 A n (bcells l)) (hB : B ≤ R) (hn : n ≤ 4096) (hk : k < n) (hnc : n ≤ c) (hc : c ≤ maxLen) :
    Calls Tryz.prog 23 #[.pointer (some ⟨R, 0, none⟩)] w (OpP R 74 A n c l k w) := by
  by_cases h2 : byteAt l k % 4 = 2
  · exact op_resize hb hr hB hn hk h2
  · by_cases h3 : byteAt l k % 4 = 3
    · exact op_scroll hb hr hB hn hk h3
    · by_cases hm : byteAt l k / 4 ≤ n - (k + 1)
      · exact op_write_a hb hr hB hn hk hnc hc (by omega) hm
      · exact op_write_b hb hr hB hn hk hnc hc (by omega) (by omega)
end Go.Proofs.YtekbfckpnooloaaGreatDoor
