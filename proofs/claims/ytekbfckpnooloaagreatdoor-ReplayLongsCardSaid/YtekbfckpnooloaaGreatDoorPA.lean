/- A part of the proof of ReplayLongs. -/
import Derived.Test.YtekbfckpnooloaaGreatDoorAbsP
import Derived.Test.YtekbfckpnooloaaGreatDoorProg
import Derived.WalkKit
import Derived.ProofKit
import Derived.LoopTactic
import Derived.Outline
import Derived.Deep.QuietTactic
import Derived.BigQuiet
import Derived.Lib.Hide
import Derived.StillTailTactics
namespace Go.Proofs.YtekbfckpnooloaaGreatDoor
open Go.RowKit Go.Rep
set_option maxRecDepth 100000
set_option maxHeartbeats 400000 in
theorem at_any {A : Option Addr} {n c i B : Nat} {l : List UInt8} {w : World} (hr : Reads w B 1 A n (bcells l)) :
    Calls Tryz.prog 22 #[.slice A n c, .int .i64 i] w fun e w' => e = .returned (.int .i64 (byteAt l i)) ∧ w = w' := by
  have hl := hr.bytes
  by_cases h : i < n
  · obtain ⟨ad, rfl, _, hc⟩ := hr.byte h
    have hb := byteAt_lt l i
    go_enter Tryz.func22, Tryz.ntmps22
    go_wp2
    go_ret
    exact ⟨rfl, rfl⟩
  · have hb := byteAt_out (l := l) (i := i) (by omega)
    rw [hb]
    go_enter Tryz.func22, Tryz.ntmps22
    go_wp2
    go_ret
    exact ⟨rfl, rfl⟩
def NextP (R : Nat) (T : TypeId) (A : Option Addr) (n c : Nat) (l : List UInt8) (k : Nat) (w : World) (e : Ending) (w' : World) : Prop :=
  e = .returned (.int .u8 (byteAt l k)) ∧ Blk w' R T #[.slice A n c, .int .i64 (min (k + 1) n : Nat)] ∧ w.grownBy w' (some R)
set_option maxHeartbeats 400000 in
theorem next_any {A : Option Addr} {n c k R B : Nat} {l : List UInt8} {w : World} (hb : Blk w R 74 #[.slice A n c, .int .i64 k]) (hr : Reads w B 1 A n (bcells l)) (hB : B ≤ R) (hn : n ≤ 4096) (hk : k ≤ n) :
    Calls Tryz.prog 42 #[.pointer (some ⟨R, 0, none⟩)] w (NextP R 74 A n c l k w) := by
  have hl := hr.bytes
  have c0 : w.cell? ⟨R, 0, none⟩ = some (.slice A n c) := by simpa using hb.cell 0
  have c1 : w.cell? ⟨R, 1, none⟩ = some (.int .i64 k) := by simpa using hb.cell 1
  have f1 := hb.frozen 1
  by_cases h : k < n
  · obtain ⟨ad, rfl, had, hc⟩ := hr.byte h
    have hbl := byteAt_lt l k
    have hne : ∀ q u, ((w.drewN q).setCell ⟨R, 1, none⟩ u).cell? (ad.add k) = some (.int .u8 (byteAt l k)) := fun q u => by
      rw [World.cell?_setCell_other _ _ _ _ (fun e => by
        have : (ad.add k).block = R := by rw [← e]
        rw [block_of_add] at this; omega)]
      exact hc
    have h0' : ∀ q u, ((w.drewN q).setCell ⟨R, 1, none⟩ u).cell? ⟨R, 0, none⟩ = some (.slice (some ad) n c) := fun q u => by
      rw [World.cell?_setCell_other _ _ _ _ (by simp)]
      exact c0
    have hb1 : ∀ q u, Blk ((w.drewN q).setCell ⟨R, 1, none⟩ u) R 74 #[.slice (some ad) n c, u] := fun q u => by simpa using (hb.drewN q).set_ 1 u
    have h1' : ∀ q u, ((w.drewN q).setCell ⟨R, 1, none⟩ u).cell? ⟨R, 1, none⟩ = some u := fun q u => by simpa using (hb1 q u).cell 1
    have HB := Lib.hid hb1
    clear hb1
    go_enter Tryz.func42, Tryz.ntmps42
    go_wp2
    go_quiet (fail)
    go_wp2
    have g0 := h0' nq (Value.int IntKind.i64 (↑k + 1))
    have g1 := h1' nq (Value.int IntKind.i64 (↑k + 1))
    have g2 := hne nq (Value.int IntKind.i64 (↑k + 1))
    clear h0' h1' hne
    go_quiet (fail)
    go_wp2
    go_ret
    have e1 : min (k + 1) n = k + 1 := by omega
    refine ⟨rfl, ?_, grown_trans (grown_trans (grown_drewN w _ _) (grown_set _ R 1 _)) (grown_drewN _ _ _)⟩
    rw [e1]
    exact (HB.out _ _).drewN _
  · have hbo := byteAt_out (l := l) (i := k) (by omega)
    go_enter Tryz.func42, Tryz.ntmps42
    go_wp2
    go_quiet (fail)
    go_wp2
    go_ret
    have e1 : min (k + 1) n = k := by omega
    refine ⟨by rw [hbo]; rfl, ?_, grown_drewN w _ _⟩
    rw [e1]
    exact hb.drewN _
end Go.Proofs.YtekbfckpnooloaaGreatDoor
