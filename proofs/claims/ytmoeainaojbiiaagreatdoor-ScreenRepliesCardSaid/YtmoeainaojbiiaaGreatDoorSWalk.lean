/- A part of the proof of ScreenReplies. -/
import Derived.Test.YtmoeainaojbiiaaGreatDoorSAll
import Derived.Test.YtmoeainaojbiiaaGreatDoorSClone
import Derived.Test.YtmoeainaojbiiaaGreatDoorAbsS
import Derived.Test.YtmoeainaojbiiaaGreatDoorTabs
import Derived.WalkKit
import Derived.ProofKit
namespace Go.Proofs.YtmoeainaojbiiaaGreatDoor
open Go.RowKit Go.Abs
set_option maxRecDepth 100000
/-- A screen with k replies lies at a. -/
def Scr (B : Nat) (a : Addr) (k : Nat) (own : Nat → Prop) (w : World) : Prop := Inst Tryz.prog B (scr k) 60 [.ptr (some scrAt)] [.pointer (some a)] own w
theorem made_any (W : World) (hw : Tabbed W) : Calls Tryz.prog 6 #[.agg #[.int .i64 2, .int .i64 9, .int .i64 0]] W fun e w' => ∃ a own, e = .returned (.pointer (some a)) ∧ Scr W.heap.size a 0 own w' ∧ Below W.heap.size W w' := by
  refine (inst_call (sk := 0) (d := 60) (n := Tryz.prog.globals.size) (n' := 60) (objs' := scr 0) (v := .ptr (some scrAt)) (args := [.agg [.int .i64 (.ofNat 2), .int .i64 (.ofNat 9), .int .i64 (.ofNat 0)]]) (avals := [.agg #[.int .i64 2, .int .i64 9, .int .i64 0]])
    Tryz.checked.mixed (good_of good) look_none Tryz.func6 rfl (Nat.le_refl _) ?_ rfl (fun σ _ _ => ⟨⟨⟨⟨trivial, trivial, trivial, trivial⟩, rfl⟩, trivial⟩, rfl⟩) (inst_start hw.1 hw.2)).mono ?_
  · rw [gsize]; exact made_ends
  · rintro e w' ⟨val, own, he, hI, hb, _, _⟩
    obtain ⟨a, rfl⟩ := hI.ptr
    exact ⟨a, own, he, hI, hb⟩
theorem gle : Tryz.prog.globals.size ≤ 60 := by rw [gsize]; decide
theorem does_any {B : Nat} {a : Addr} {k : Nat} {own : Nat → Prop} {w : World} (hS : Scr B a (min k 682) own w) :
    Calls Tryz.prog 7 #[.pointer (some a), .int .i32 0, .int .i64 6, .int .i32 110] w fun e w' => ∃ own', e = .returned (.bool true) ∧ Scr B a (min (k + 1) 682) own' w' ∧ Below B w w' := by
  have hc : endsAt 60 (.bool true) (scr (min (k + 1) 682)) 60 (fstep okMask Tryz.prog (fcallO Tryz.prog okMask 0 60 noS noY) (fun i hd => fcallO Tryz.prog okMask 0 60 noS (fext noY i hd)) 7 [.ptr (some scrAt), .int .i32 (.ofNat 0), .int .i64 (.ofNat 6), .int .i32 (.ofNat 110)] (heapL (scr (min k 682)) 60)) = true := by
    rcases Nat.lt_or_ge k 682 with h | h
    · have e1 : min (k + 1) 682 = k + 1 := by omega
      have e2 : min k 682 = k := by omega
      rw [e1, e2]
      exact does_ends k h
    · have e1 : min (k + 1) 682 = 682 := by omega
      have e2 : min k 682 = 682 := by omega
      rw [e1, e2]
      exact full_ends
  refine (inst_call (avals := [.pointer (some a), .int .i32 0, .int .i64 6, .int .i32 110]) Tryz.checked.mixed (good_of good) look_none Tryz.func7 rfl gle hc rfl ?_ hS).mono ?_
  · intro σ h1 h2
    simp only [concs, List.cons.injEq] at h2
    refine ⟨⟨h1.1, trivial, trivial, trivial, trivial⟩, ?_⟩
    simp only [concs, h2.1]
    rfl
  · rintro e w' ⟨val, own', he, hI, hb, _, _⟩
    have hv := hI.plain (.bool true) fun _ => rfl
    rw [hv] at he
    exact ⟨own', he, hI.tail, hb⟩
theorem cell2 (k : Nat) : cellIn (heapL (scr k) 60) 20 2 = some (.ptr (some ⟨21, 0, 0⟩)) := by kernel_rfl
theorem zero_any {B : Nat} {a : Addr} {k : Nat} {own : Nat → Prop} {w : World} (hS : Scr B a k own w) :
    Calls Tryz.prog 29 #[.pointer (some a)] w fun e w' => e = .returned (.bool false) ∧ w = w' := by
  obtain ⟨b, hb⟩ := hS.cellp (cell2 k)
  go_enter Tryz.func29, Tryz.ntmps29
  go_wp2
  go_ret
  exact ⟨rfl, rfl⟩
theorem cell71 (k : Nat) : cellIn (heapL (scr k) 60) 20 71 = some (.str (rep k)) := by kernel_rfl
theorem store71 (k : Nat) : (Go.Abs.store Tryz.prog 9 (.ptr (some ⟨20, 0, 71⟩)) (.str []) (heapL (scr k) 60)).map (okL 60 · (scr 0)) = some true := by kernel_rfl
theorem rep_length' : ∀ k, (rep k).length = 6 * k
  | 0 => rfl
  | k + 1 => by
    show (rep k).length + 1 + 1 + 1 + 1 + 1 + 1 = _
    rw [rep_length' k]
    omega
def Says (B : Nat) (a : Addr) (k : Nat) (w : World) (e : Ending) (w' : World) : Prop := ∃ own', e = .returned (.string ⟨(rep k).toArray⟩) ∧ Scr B a 0 own' w' ∧ Below B w w'
theorem says_any {B : Nat} {a : Addr} {k : Nat} {own : Nat → Prop} {w : World} (hk : k ≤ 682) (hS : Scr B a k own w) : Calls Tryz.prog 8 #[.pointer (some a)] w (Says B a k w) := by
  have hB : B ≤ w.heap.size := by obtain ⟨σ, R, _⟩ := hS; exact R.base
  have hl : (ByteArray.mk (rep k).toArray).size ≤ 281474976710656 := by
    have := rep_length' k
    show (rep k).toArray.size ≤ _
    simp
    omega
  go_enter Tryz.func8, Tryz.ntmps8
  go_wp2_with (first
    | (go_at_call 29; refine (zero_any hS).mono ?_; rintro e w1 ⟨rfl, rfl⟩; have hc1 := (hS.cell (cell71 k) (fun _ => rfl) : w.cell? _ = some (.string ⟨(rep k).toArray⟩) ∧ _).1)
    | (go_at_call 30; refine (clone_any _ _ hl).mono ?_; rintro e w2 ⟨rfl, hb2⟩; have hS2 := hS.stay (fun j _ hj => hb2.block j hj) hb2.size; obtain ⟨hc2, hf2⟩ := (hS2.cell (cell71 k) (fun _ => rfl) : w2.cell? _ = some (.string ⟨(rep k).toArray⟩) ∧ _)))
  go_ret
  obtain ⟨w3, hrun, hS3, hb3⟩ := (hS2.field 71).store gle (t := 9) (v := .str []) (u := .string ⟨#[]⟩) (fun _ => rfl) (fun _ => trivial) (store71 k)
  have e3 : (Instr.storeAt 9 (.pointer (some ⟨a.block, a.off + 71, none⟩)) (.string ⟨#[]⟩)).run Tryz.prog w2 = .ok () (w2.setCell ⟨a.block, a.off + 71, none⟩ (.string ⟨#[]⟩)) := by
    simp [Instr.storeAt, go_sem, hc2, hf2]
  rw [e3] at hrun
  cases hrun
  exact ⟨own, rfl, hS3.untail, (hb2.mono hB).trans hb3⟩
end Go.Proofs.YtmoeainaojbiiaaGreatDoor
