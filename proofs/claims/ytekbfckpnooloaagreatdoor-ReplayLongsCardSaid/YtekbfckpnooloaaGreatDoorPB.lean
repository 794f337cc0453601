/- A part of the proof of ReplayLongs. -/
import Derived.Test.YtekbfckpnooloaaGreatDoorPA
import Derived.IntWalk
import Derived.StillTailTactics
import Derived.Deep.RegionWith
namespace Go.Proofs.YtekbfckpnooloaaGreatDoor
open Go.RowKit Go.Rep
set_option maxRecDepth 100000
def OpP (R : Nat) (T : TypeId) (A : Option Addr) (n c : Nat) (l : List UInt8) (k : Nat) (w : World) (e : Ending) (w' : World) : Prop :=
  e = .returned (.agg (opAt l k).cells.toArray) ∧ Blk w' R T #[.slice A n c, .int .i64 (min (nextAt l k) n : Nat)] ∧ w.grownBy w' (some R)
theorem signed_wrap {x : Nat} (h : x < 256) : signed x = wrap64 (IntKind.i8.wrap (x : Int)) := by
  have : ∀ y : Fin 256, signed y.1 = wrap64 (IntKind.i8.wrap (y.1 : Int)) := by decide +kernel
  exact this ⟨x, h⟩
abbrev zero5 : Array Value := #[Value.int IntKind.i64 0, Value.string { data := #[] }, Value.int IntKind.i64 0, Value.int IntKind.i64 0, Value.int IntKind.i64 0]
set_option maxHeartbeats 400000 in
theorem op_resize {A : Option Addr} {n c k R B : Nat} {l : List UInt8} {w : World} (hb : Blk w R 74 #[.slice A n c, .int .i64 k]) (hr : Reads w B 1 A n (bcells l)) (hB : B ≤ R) (hn : n ≤ 4096) (hk : k < n) (hx : byteAt l k % 4 = 2) :
    Calls Tryz.prog 23 #[.pointer (some ⟨R, 0, none⟩)] w (OpP R 74 A n c l k w) := by
  have hl := hr.bytes
  have hlt := hb.lt
  have hb0 := byteAt_lt l k
  have hb1' := byteAt_lt l (k + 1)
  have hb2' := byteAt_lt l (k + 2)
  have hmin := byteAt_min hl (k + 2)
  have HM := Lib.hid hmin
  have HL := Lib.hid hl
  clear hmin hl
  go_enter Tryz.func23, Tryz.ntmps23
  go_wp2_with (first
    | (go_at_call 42; refine (next_any (hb.alloc _) (hr.alloc (Nat.le_of_lt (Nat.lt_of_le_of_lt hB hlt)) _) hB hn (Nat.le_of_lt hk)).mono ?_; rintro e w1 ⟨rfl, hb1, hg1⟩; rw [Nat.min_eq_left (show k + 1 ≤ n from hk)] at hb1; have hr1 := (hr.alloc (Nat.le_of_lt (Nat.lt_of_le_of_lt hB hlt)) _).grown hg1 (by simp; omega) (fun g e => by cases e; exact hB); have bN1 := (Blk.new w 38 zero5).grown hg1 (by simp; omega))
    | (go_at_call 42; refine (next_any hb1 hr1 hB hn hk).mono ?_; rintro e w2 ⟨rfl, hb2, hg2⟩; have hr2 := hr1.grown hg2 (by have := hg1.size; simp at this; omega) (fun g e => by cases e; exact hB); have bN2 := bN1.grown hg2 (by simp; omega))
    | (go_at_call 42; refine (next_any hb2 hr2 hB hn (Nat.min_le_right _ _)).mono ?_; rintro e w3 ⟨rfl, hb3, hg3⟩; rw [HM.out]; have bN3 := bN2.grown hg3 (by simp; omega); have z0 := bN3.cell 0; have z1 := bN3.cell 1; have z2 := bN3.cell 2; have z3 := bN3.cell 3; have z4 := bN3.cell 4; simp only [zero5] at z0 z1 z2 z3 z4; simp at z0 z1 z2 z3 z4; have f0 := bN3.frozen 0; have f1 := bN3.frozen 1; have f2 := bN3.frozen 2; have f3 := bN3.frozen 3; have f4 := bN3.frozen 4))
  refine bodyPost_ret (v := .agg (opAt l k).cells.toArray) ?_ rfl ⟨rfl, ?_, ?_⟩
  · obtain ⟨d0, d1, d2, d3, d4⟩ := (bN3.five (Value.int IntKind.i64 2) (Value.string { data := #[] }) (Value.int IntKind.i64 (1 + ↑(byteAt l (k + 1)) % 32)) (Value.int IntKind.i64 (1 + ↑(byteAt l (k + 2)) % 64)) (Value.int IntKind.i64 0)).cells5
    simp [results, Tryz.results23, go_sem, d0, d1, d2, d3, d4, opAt, hx, TOp.cells]
    exact ⟨rfl, by omega, by omega⟩
  · have e : nextAt l k = k + 3 := by simp [nextAt, hx]
    rw [e]
    have e2 : min (min (k + 1 + 1) n + 1) n = min (k + 3) n := by omega
    rw [e2] at hb3
    exact hb3.five_far (by omega) _ _ _ _ _
  · exact grown_new (grown_trans (grown_trans (grown_trans (grown_alloc w _ _) hg1) hg2) hg3) (grown_five w3 _ _ _ _ _ _) (Nat.le_refl _)
set_option maxHeartbeats 400000 in
theorem op_scroll {A : Option Addr} {n c k R B : Nat} {l : List UInt8} {w : World} (hb : Blk w R 74 #[.slice A n c, .int .i64 k]) (hr : Reads w B 1 A n (bcells l)) (hB : B ≤ R) (hn : n ≤ 4096) (hk : k < n) (hx : byteAt l k % 4 = 3) :
    Calls Tryz.prog 23 #[.pointer (some ⟨R, 0, none⟩)] w (OpP R 74 A n c l k w) := by
  have hlt := hb.lt
  have hb0 := byteAt_lt l k
  have hb1' := byteAt_lt l (k + 1)
  go_enter Tryz.func23, Tryz.ntmps23
  go_wp2_with (first
    | (go_at_call 42; refine (next_any (hb.alloc _) (hr.alloc (Nat.le_of_lt (Nat.lt_of_le_of_lt hB hlt)) _) hB hn (Nat.le_of_lt hk)).mono ?_; rintro e w1 ⟨rfl, hb1, hg1⟩; rw [Nat.min_eq_left (show k + 1 ≤ n from hk)] at hb1; have hr1 := (hr.alloc (Nat.le_of_lt (Nat.lt_of_le_of_lt hB hlt)) _).grown hg1 (by simp; omega) (fun g e => by cases e; exact hB); have bN1 := (Blk.new w 38 zero5).grown hg1 (by simp; omega))
    | (go_at_call 42; refine (next_any hb1 hr1 hB hn hk).mono ?_; rintro e w2 ⟨rfl, hb2, hg2⟩; have bN2 := bN1.grown hg2 (by simp; omega); obtain ⟨z0, z1, z2, z3, z4⟩ := bN2.cells5; have f0 := bN2.frozen 0; have f1 := bN2.frozen 1; have f2 := bN2.frozen 2; have f3 := bN2.frozen 3; have f4 := bN2.frozen 4))
  have hx2 : ¬ byteAt l k % 4 = 2 := by omega
  have hx1 : ¬ byteAt l k % 4 < 2 := by omega
  refine bodyPost_ret (v := .agg (opAt l k).cells.toArray) ?_ rfl ⟨rfl, ?_, ?_⟩
  · obtain ⟨d0, d1, d2, d3, d4⟩ := (bN2.five (Value.int IntKind.i64 3) (Value.string { data := #[] }) (Value.int IntKind.i64 0) (Value.int IntKind.i64 0) (Value.int IntKind.i64 (wrap64 (IntKind.i8.wrap ↑(byteAt l (k + 1)))))).cells5
    simp only [results, Tryz.results23, go_sem, opAt, if_neg hx1, if_neg hx2, TOp.cells, ← signed_wrap hb1']
    simp [go_sem, d0, d1, d2, d3, d4, signed_wrap hb1']
    rfl
  · have e : nextAt l k = k + 2 := by simp only [nextAt, if_neg hx1, if_neg hx2]
    rw [e]
    exact hb2.five_far (by omega) _ _ _ _ _
  · exact grown_new (grown_trans (grown_trans (grown_alloc w _ _) hg1) hg2) (grown_five w2 _ _ _ _ _ _) (Nat.le_refl _)
end Go.Proofs.YtekbfckpnooloaaGreatDoor
