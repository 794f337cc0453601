/- A part of the proof of ReplayLongs. -/
import Derived.Test.YtekbfckpnooloaaGreatDoorWTer
import Derived.WalkKit
import Derived.ProofKit
import Derived.LoopTactic
import Derived.OwnWalk
namespace Go.Proofs.YtekbfckpnooloaaGreatDoor
open Go.RowKit Go.Rep
set_option maxRecDepth 100000
def o0 : TOp := ⟨1, ⟨#[]⟩, 0, 0, 0⟩
def DoP (B : Nat) (w : World) (e : Ending) (w' : World) : Prop := e = .returned (.int .i64 0) ∧ Below B w w'
set_option maxHeartbeats 2000000 in
theorem do_ok {A : Option Addr} {m c B : Nat} {a : Addr} {own : Nat → Prop} {w : World} (hB : Tryz.prog.globals.size ≤ B) (hT : Tabbed w) (hS : Ter B a own w) (hr : Reads w B 5 A m (opCells (List.replicate m o0))) (hm : m ≤ 4096) :
    Calls Tryz.prog 13 #[.pointer (some a), .slice A m c] w (DoP B w) := by
  go_enter Tryz.func13, Tryz.ntmps13
  go_wp2_with (go_at_call 25; refine (all_any hS).mono ?_; rintro e w1 ⟨x, own1, rfl, hS1, hb1⟩)
  go_loopw [24] (fun i wr => ∃ (k : Nat) (ow : Nat → Prop), k ≤ m ∧ i = .int .i64 k ∧ Ter B a ow wr ∧ Below B w wr) (fun i _ => m - (intOf i).toNat)
  case atStart => exact ⟨0, own1, Nat.zero_le _, rfl, hS1, hb1⟩
  case round =>
    obtain ⟨k, ow, hk, rfl, hSr, hbr⟩ := hrel
    by_cases hlt : k < m
    · obtain ⟨ad, o, rfl, ho, x0, x1, x2, x3, x4⟩ := (hr.below hbr).op hlt
      rw [List.getElem?_replicate, if_pos hlt] at ho
      cases ho
      simp only [o0] at x0 x1 x2 x3 x4
      go_wp2_with (go_at_call 17; refine (valid_any _ (tab_up hB (hbr.alloc hSr.base.1 _) hT)).mono ?_; rintro e w2 ⟨rfl, hb2⟩)
      go_roundw
      case rel =>
        have s1 := hSr.stay (w' := wr.alloc (.cells #[.int .i64 1, .string ⟨#[]⟩, .int .i64 0, .int .i64 0, .int .i64 0] 38)) (fun j _ hj => Below.heap_alloc wr _ j hj) (by simp)
        have hba := hbr.alloc hSr.base.1 (.cells #[.int .i64 1, .string ⟨#[]⟩, .int .i64 0, .int .i64 0, .int .i64 0] 38)
        exact ⟨k + 1, ow, by omega, by go_num, s1.stay (fun j _ hj => hb2.block j hj) hb2.size, hba.trans (hb2.mono s1.base.1)⟩
      case measure => simp [intOf]; omega
    · obtain rfl : k = m := by omega
      clear hS1 hb1
      go_wp2
      obtain ⟨wo, rfl⟩ : ∃ wo : World, wo = wr := ⟨_, rfl⟩
      go_loopw [34] (fun i wx => ∃ (j : Nat) (ow : Nat → Prop), j ≤ k ∧ i = .int .i64 j ∧ Ter B a ow wx ∧ Below B w wx) (fun i _ => k - (intOf i).toNat)
      case atStart => exact ⟨0, ow, Nat.zero_le _, rfl, hSr, hbr⟩
      case round =>
        obtain ⟨j, ow2, hj, rfl, hSx, hbx⟩ := hrel
        by_cases hlt2 : j < k
        · obtain ⟨ad, o, rfl, ho, x0, x1, x2, x3, x4⟩ := (hr.below hbx).op hlt2
          rw [List.getElem?_replicate, if_pos hlt2] at ho
          cases ho
          simp only [o0] at x0 x1 x2 x3 x4
          have s1 : Ter B a ow2 (wr.alloc (.cells #[.int .i64 1, .string ⟨#[]⟩, .int .i64 0, .int .i64 0, .int .i64 0] 38)) := hSx.stay (fun j _ hj => Below.heap_alloc wr _ j hj) (by simp)
          have hb1 : Below B w (wr.alloc (.cells #[.int .i64 1, .string ⟨#[]⟩, .int .i64 0, .int .i64 0, .int .i64 0] 38)) := hbx.alloc hSx.base.1 _
          have hno : ¬ ow2 (wr.heap.size + 1) := fun h => by have := hSx.base.2 _ h; omega
          obtain ⟨C, cur, fr, hcv⟩ : ∃ C cur fr, (convert 9 22 (.string ⟨#[]⟩)).run Tryz.prog (wr.alloc (.cells #[.int .i64 1, .string ⟨#[]⟩, .int .i64 0, .int .i64 0, .int .i64 0] 38)) = .ok (.slice (some ⟨wr.heap.size + 1, 0, none⟩) 0 C) ((wr.alloc (.cells #[.int .i64 1, .string ⟨#[]⟩, .int .i64 0, .int .i64 0, .int .i64 0] 38)).drew.alloc (.cells cur 5 fr)) := ⟨_, _, _, by
            have := run_bytes_of_string (P := Tryz.prog) (wr.alloc (.cells #[.int .i64 1, .string ⟨#[]⟩, .int .i64 0, .int .i64 0, .int .i64 0] 38)) 9 22 5 ⟨#[]⟩ Tryz.underlying9 Tryz.underlying22 Tryz.underlying5
            have e : ByteArray.size ⟨#[]⟩ = 0 := rfl
            rw [e] at this
            simpa using this⟩
          have s2 : Ter B a ow2 ((wr.alloc (.cells #[.int .i64 1, .string ⟨#[]⟩, .int .i64 0, .int .i64 0, .int .i64 0] 38)).drew.alloc (.cells cur 5 fr)) := s1.stay (fun j _ hj => Below.heap_alloc (World.drew _) (.cells cur 5 fr) j hj) (by simp)
          have hb2 : Below B w ((wr.alloc (.cells #[.int .i64 1, .string ⟨#[]⟩, .int .i64 0, .int .i64 0, .int .i64 0] 38)).drew.alloc (.cells cur 5 fr)) := (hb1.drew).alloc s1.base.1 (.cells cur 5 fr)
          have hh : ((wr.alloc (.cells #[.int .i64 1, .string ⟨#[]⟩, .int .i64 0, .int .i64 0, .int .i64 0] 38)).drew.alloc (.cells cur 5 fr)).heap[wr.heap.size + 1]? = some (.cells cur 5 fr) := by
            have := heap_alloc_new (World.drew (wr.alloc (.cells #[.int .i64 1, .string ⟨#[]⟩, .int .i64 0, .int .i64 0, .int .i64 0] 38))) (.cells cur 5 fr)
            simpa using this
          go_wp2_with (go_at_call 26; refine (write_any s2 hno hh).mono ?_; rintro e w3 ⟨ow3, rfl, hS3, hb3⟩)
          go_roundw
          case rel => exact ⟨j + 1, ow3, by omega, by go_num, hS3, hb2.trans hb3⟩
          case measure => simp [intOf]; omega
        · go_wp2
          go_ret
          exact ⟨rfl, hbx⟩
end Go.Proofs.YtekbfckpnooloaaGreatDoor
