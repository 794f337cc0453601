/- An evaluator of Go code over an abstract memory, and the proof that each of its runs is a run of the model, whatever the tape. It holds for each program, without conditions. -/
import Derived.Test.YtmoeainaojbiiaaGreatDoorAbsI
import Derived.Test.YtmoeainaojbiiaaGreatDoorAbsA
namespace Go.Abs
variable {P : Program}

/-- Another place of the same object. -/
theorem Inst.field {B n : Nat} {objs : List (Nat × AObj)} {f g : Nat} {a : Addr} {vs : List AVal} {vals : List Value} {own : Nat → Prop} {w : World} (H : Inst P B objs n (.ptr (some ⟨f, g, 0⟩) :: vs) (.pointer (some a) :: vals) own w) (o : Nat) :
    Inst P B objs n (.ptr (some ⟨f, g, o⟩) :: .ptr (some ⟨f, g, 0⟩) :: vs) (.pointer (some ⟨a.block, a.off + o, none⟩) :: .pointer (some a) :: vals) own w := by
  obtain ⟨σ, R, hf, hv, hc, ho⟩ := H
  obtain ⟨⟨b, hb, hs⟩, hv2⟩ := hv
  have hs' : b.start ≤ 0 := hs
  refine ⟨σ, R, hf, ⟨⟨b, hb, Nat.le_trans hs' (Nat.zero_le _)⟩, ⟨b, hb, hs⟩, hv2⟩, ?_, ho⟩
  simp only [concs, conc, List.cons.injEq, hb, Option.map_some, Value.pointer.injEq, Option.some.injEq] at hc ⊢
  refine ⟨?_, hc.1, hc.2⟩
  rw [← hc.1]
  simp only [RB.at, Addr.mk.injEq, and_true, true_and]
  omega

/-- A cell of an object, if it may be read and written. -/
noncomputable def cellIn (h : Heap) (f i : Nat) : Option AVal :=
  (h.fam f).bind fun c => (c.cellAt i).bind fun x => Bool.rec none (some x.1) (Nat.ble c.start i && Nat.beq x.2 0 && !c.ro && !c.mark)

/-- A cell of an object that lies there. -/
theorem Inst.cellσ {B n : Nat} {objs : List (Nat × AObj)} {f : Nat} {a : Addr} {vs : List AVal} {vals : List Value} {own : Nat → Prop} {w : World} (H : Inst P B objs n (.ptr (some ⟨f, 0, 0⟩) :: vs) (.pointer (some a) :: vals) own w)
    {i : Nat} {v : AVal} (hc : cellIn (heapL objs n) f i = some v) :
    ∃ σ : Real, okv σ v ∧ w.cell? ⟨a.block, a.off + i, none⟩ = some (conc σ v) ∧ w.frozen? ⟨a.block, a.off + i, none⟩ = false := by
  obtain ⟨σ, R, _, hv, hcs, _⟩ := H
  obtain ⟨⟨b, hb, hs⟩, _⟩ := hv
  have hs' : b.start ≤ 0 := hs
  simp only [concs, conc, List.cons.injEq, hb, Option.map_some, Value.pointer.injEq, Option.some.injEq] at hcs
  unfold cellIn at hc
  cases hfam : (heapL objs n).fam f with
  | none => rw [hfam] at hc; cases hc
  | some c =>
    rw [hfam, Option.bind_some] at hc
    cases hat : c.cellAt i with
    | none => rw [hat] at hc; cases hc
    | some x =>
      rw [hat, Option.bind_some] at hc
      cases hck : (Nat.ble c.start i && Nat.beq x.2 0 && !c.ro && !c.mark) with
      | false => rw [hck] at hc; cases hc
      | true =>
        rw [hck] at hc
        have e : x.1 = v := Option.some.inj hc
        simp only [Bool.and_eq_true, Nat.ble_eq, Nat.beq_eq, Bool.not_eq_true'] at hck
        obtain ⟨⟨⟨k1, k2⟩, k3⟩, k4⟩ := hck
        obtain ⟨cs, fr, h1, _, h3, h4⟩ := (R.cells hb hfam).heap
        obtain ⟨p1, _, p3, _⟩ := h3 k3
        have p3' := p3 k4
        obtain ⟨_, q2, _, q4⟩ := h4 i x.1 x.2 hat k1 (by omega)
        have ha : a = ⟨b.block, 0, none⟩ := by
          rw [← hcs.1]
          simp only [RB.at, p1, Nat.zero_add, Addr.mk.injEq, and_true, true_and]
          omega
        subst ha
        have ei : b.base + (i - b.start) = i := by omega
        rw [ei, e] at q4
        rw [e] at q2
        refine ⟨σ, q2, ?_, ?_⟩
        · simp only [World.cell?, Nat.zero_add, h1]
          exact q4
        · simp [World.frozen?, h1, p3']

theorem Inst.cell {B n : Nat} {objs : List (Nat × AObj)} {f : Nat} {a : Addr} {vs : List AVal} {vals : List Value} {own : Nat → Prop} {w : World} (H : Inst P B objs n (.ptr (some ⟨f, 0, 0⟩) :: vs) (.pointer (some a) :: vals) own w)
    {i : Nat} {v : AVal} {u : Value} (hc : cellIn (heapL objs n) f i = some v) (hu : ∀ σ, conc σ v = u) :
    w.cell? ⟨a.block, a.off + i, none⟩ = some u ∧ w.frozen? ⟨a.block, a.off + i, none⟩ = false := by
  obtain ⟨σ, _, h1, h2⟩ := H.cellσ hc
  exact ⟨by rw [h1, hu], h2⟩
theorem Inst.cellp {B n : Nat} {objs : List (Nat × AObj)} {f : Nat} {a : Addr} {vs : List AVal} {vals : List Value} {own : Nat → Prop} {w : World} (H : Inst P B objs n (.ptr (some ⟨f, 0, 0⟩) :: vs) (.pointer (some a) :: vals) own w)
    {i : Nat} {p : APtr} (hc : cellIn (heapL objs n) f i = some (.ptr (some p))) : ∃ b, w.cell? ⟨a.block, a.off + i, none⟩ = some (.pointer (some b)) := by
  obtain ⟨σ, ⟨b, hb, _⟩, h1, _⟩ := H.cellσ hc
  exact ⟨b.at p.off, by rw [h1]; simp only [conc, hb, Option.map_some]⟩

/-- A store into an object that lies there. -/
theorem Inst.store {B n : Nat} {objs objs' : List (Nat × AObj)} {p : APtr} {a : Addr} {vs : List AVal} {vals : List Value} {own : Nat → Prop} {w : World} (H : Inst P B objs n (.ptr (some p) :: vs) (.pointer (some a) :: vals) own w) (hG : P.globals.size ≤ n)
    {t : TypeId} {v : AVal} {u : Value} (hu : ∀ σ, conc σ v = u) (hok : ∀ σ, okv σ v) (hs : (store P t (.ptr (some p)) v (heapL objs n)).map (okL n · objs') = some true) :
    ∃ w', (Instr.storeAt t (.pointer (some a)) u).run P w = .ok () w' ∧ Inst P B objs' n (.ptr (some p) :: vs) (.pointer (some a) :: vals) own w' ∧ RowKit.Below B w w' := by
  obtain ⟨σ, R, hf, hv, hcs, ho⟩ := H
  obtain ⟨h', hst, hl⟩ := Option.map_eq_some_iff.1 hs
  obtain ⟨w', hrun, hpost⟩ := store_sound R hv.1 (hok σ) hst
  have e : conc σ (.ptr (some p)) = .pointer (some a) := by
    simp only [concs, List.cons.injEq] at hcs
    exact hcs.1
  rw [e, hu] at hrun
  have hcut := hpost.rel.cut hG hl
  have hσ : (fun f g => if f < n then σ f g else none : Real) = σ := by
    funext f g
    split
    · rfl
    · exact (hf f g (by omega)).symm
  rw [hσ] at hcut
  exact ⟨w', hrun, ⟨σ, hcut, hf, hv, hcs, ho⟩, hpost.below R⟩
/-- The last result but one is the first. -/
theorem Inst.untail {B : Nat} {objs : List (Nat × AObj)} {n : Nat} {v : AVal} {vs : List AVal} {val : Value} {vals : List Value} {own : Nat → Prop} {w : World} (H : Inst P B objs n (v :: vs) (val :: vals) own w) : Inst P B objs n vs vals own w := H.tail
end Go.Abs
