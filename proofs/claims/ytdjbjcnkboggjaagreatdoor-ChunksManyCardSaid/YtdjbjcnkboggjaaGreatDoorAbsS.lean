/- An evaluator of Go code over an abstract memory, and the proof that each of its runs is a run of the model, whatever the tape. It holds for each program, without conditions. -/
import Derived.Test.YtdjbjcnkboggjaaGreatDoorAbsI
import Derived.Test.YtdjbjcnkboggjaaGreatDoorAbsA
namespace Go.Abs
variable {P : Program}

/-- Another place of the same object. -/
theorem Inst.field {B n : Nat} {objs : List (Nat × AObj)} {f g : Nat} {a : Addr} {vs : List AVal} {vals : List Value} {own : Nat → Prop} {w : World} (H : Inst P B objs n (.ptr (some ⟨f, g, 0⟩) :: vs) (.pointer (some a) :: vals) own w) (o : Nat) :
    Inst P B objs n (.ptr (some ⟨f, g, o⟩) :: .ptr (some ⟨f, g, 0⟩) :: vs) (.pointer (some ⟨a.block, a.off + o, none⟩) :: .pointer (some a) :: vals) own w := by
  obtain ⟨σ, R, hf, hv, hc, ho⟩ := H
  obtain ⟨⟨b, hb, hs⟩, hv2⟩ := hv
  have hs' : b.start ≤ 0 := hs
  refine ⟨σ, R, hf, ⟨⟨b, hb, Nat.le_trans hs' (Nat.zero_le _)⟩, ⟨b, hb, hs⟩, hv2⟩, ?_, ho⟩
  simp only [concs, conc, List.cons.injEq, hb, Option.map_some, Value.pointer.injEq, Option.some.injEq] at hc ⊢
  refine ⟨?_, hc.1, hc.2⟩
  rw [← hc.1]
  simp only [RB.at, Addr.mk.injEq, and_true, true_and]
  omega

/-- A cell of an object, if it may be read and written. -/
noncomputable def cellIn (h : Heap) (f i : Nat) : Option AVal :=
  (h.fam f).bind fun c => (c.cellAt i).bind fun x => Bool.rec none (some x.1) (Nat.ble c.start i && Nat.beq x.2 0 && !c.ro && !c.mark)

/-- A cell of an object that lies there. -/
theorem Inst.cellσ {B n : Nat} {objs : List (Nat × AObj)} {f : Nat} {a : Addr} {vs : List AVal} {vals : List Value} {own : Nat → Prop} {w : World} (H : Inst P B objs n (.ptr (some ⟨f, 0, 0⟩) :: vs) (.pointer (some a) :: vals) own w)
    {i : Nat} {v : AVal} (hc : cellIn (heapL objs n) f i = some v) :
    ∃ σ : Real, okv σ v ∧ w.cell? ⟨a.block, a.off + i, none⟩ = some (conc σ v) ∧ w.frozen? ⟨a.block, a.off + i, none⟩ = false := by
  obtain ⟨σ, R, _, hv, hcs, _⟩ := H
  obtain ⟨⟨b, hb, hs⟩, _⟩ := hv
  have hs' : b.start ≤ 0 := hs
  simp only [concs, conc, List.cons.injEq, hb, Option.map_some, Value.pointer.injEq, Option.some.injEq] at hcs
  unfold cellIn at hc
  cases hfam : (heapL objs n).fam f with
  | none => rw [hfam] at hc; cases hc
  | some c =>
    rw [hfam, Option.bind_some] at hc
    cases hat : c.cellAt i with
    | none => rw [hat] at hc; cases hc
    | some x =>
      rw [hat, Option.bind_some] at hc
      cases hck : (Nat.ble c.start i && Nat.beq x.2 0 && !c.ro && !c.mark) with
      | false => rw [hck] at hc; cases hc
      | true =>
        rw [hck] at hc
        have e : x.1 = v := Option.some.inj hc
        simp only [Bool.and_eq_true, Nat.ble_eq, Nat.beq_eq, Bool.not_eq_true'] at hck
        obtain ⟨⟨⟨k1, k2⟩, k3⟩, k4⟩ := hck
        obtain ⟨cs, fr, h1, _, h3, h4⟩ := (R.cells hb hfam).heap
        obtain ⟨p1, _, p3, _⟩ := h3 k3
        have p3' := p3 k4
        obtain ⟨_, q2, _, q4⟩ := h4 i x.1 x.2 hat k1 (by omega)
        have ha : a = ⟨b.block, 0, none⟩ := by
          rw [← hcs.1]
          simp only [RB.at, p1, Nat.zero_add, Addr.mk.injEq, and_true, true_and]
          omega
        subst ha
        have ei : b.base + (i - b.start) = i := by omega
        rw [ei, e] at q4
        rw [e] at q2
        refine ⟨σ, q2, ?_, ?_⟩
        · simp only [World.cell?, Nat.zero_add, h1]
          exact q4
        · simp [World.frozen?, h1, p3']

theorem Inst.cell {B n : Nat} {objs : List (Nat × AObj)} {f : Nat} {a : Addr} {vs : List AVal} {vals : List Value} {own : Nat → Prop} {w : World} (H : Inst P B objs n (.ptr (some ⟨f, 0, 0⟩) :: vs) (.pointer (some a) :: vals) own w)
    {i : Nat} {v : AVal} {u : Value} (hc : cellIn (heapL objs n) f i = some v) (hu : ∀ σ, conc σ v = u) :
    w.cell? ⟨a.block, a.off + i, none⟩ = some u ∧ w.frozen? ⟨a.block, a.off + i, none⟩ = false := by
  obtain ⟨σ, _, h1, h2⟩ := H.cellσ hc
  exact ⟨by rw [h1, hu], h2⟩
theorem Inst.cellp {B n : Nat} {objs : List (Nat × AObj)} {f : Nat} {a : Addr} {vs : List AVal} {vals : List Value} {own : Nat → Prop} {w : World} (H : Inst P B objs n (.ptr (some ⟨f, 0, 0⟩) :: vs) (.pointer (some a) :: vals) own w)
    {i : Nat} {p : APtr} (hc : cellIn (heapL objs n) f i = some (.ptr (some p))) : ∃ b, w.cell? ⟨a.block, a.off + i, none⟩ = some (.pointer (some b)) := by
  obtain ⟨σ, ⟨b, hb, _⟩, h1, _⟩ := H.cellσ hc
  exact ⟨b.at p.off, by rw [h1]; simp only [conc, hb, Option.map_some]⟩

/-- A store into an object that lies there. -/
theorem Inst.store {B n : Nat} {objs objs' : List (Nat × AObj)} {p : APtr} {a : Addr} {vs : List AVal} {vals : List Value} {own : Nat → Prop} {w : World} (H : Inst P B objs n (.ptr (some p) :: vs) (.pointer (some a) :: vals) own w) (hG : P.globals.size ≤ n)
    {t : TypeId} {v : AVal} {u : Value} (hu : ∀ σ, conc σ v = u) (hok : ∀ σ, okv σ v) (hs : (store P t (.ptr (some p)) v (heapL objs n)).map (okL n · objs') = some true) :
    ∃ w', (Instr.storeAt t (.pointer (some a)) u).run P w = .ok () w' ∧ Inst P B objs' n (.ptr (some p) :: vs) (.pointer (some a) :: vals) own w' ∧ RowKit.Below B w w' := by
  obtain ⟨σ, R, hf, hv, hcs, ho⟩ := H
  obtain ⟨h', hst, hl⟩ := Option.map_eq_some_iff.1 hs
  obtain ⟨w', hrun, hpost⟩ := store_sound R hv.1 (hok σ) hst
  have e : conc σ (.ptr (some p)) = .pointer (some a) := by
    simp only [concs, List.cons.injEq] at hcs
    exact hcs.1
  rw [e, hu] at hrun
  have hcut := hpost.rel.cut hG hl
  have hσ : (fun f g => if f < n then σ f g else none : Real) = σ := by
    funext f g
    split
    · rfl
    · exact (hf f g (by omega)).symm
  rw [hσ] at hcut
  exact ⟨w', hrun, ⟨σ, hcut, hf, hv, hcs, ho⟩, hpost.below R⟩
/-- The last result but one is the first. -/
theorem Inst.untail {B : Nat} {objs : List (Nat × AObj)} {n : Nat} {v : AVal} {vs : List AVal} {val : Value} {vals : List Value} {own : Nat → Prop} {w : World} (H : Inst P B objs n (v :: vs) (val :: vals) own w) : Inst P B objs n vs vals own w := H.tail
end Go.Abs

namespace Go.Abs
variable {P : Program}
/-- Fewer families. -/
theorem Inst.cut {B n n' : Nat} {objs : List (Nat × AObj)} {vs : List AVal} {vals : List Value} {own : Nat → Prop} {w : World} (H : Inst P B objs n' vs vals own w) (hG : P.globals.size ≤ n) (hl : okL n (heapL objs n') objs = true) (hr : refsAll (under n) vs = true) :
    Inst P B objs n vs vals own w := by
  obtain ⟨σ, R, hf, hv, hc, ho⟩ := H
  have hp : ∀ f g, under n f g = true → (fun f g => if f < n then σ f g else none : Real) f g = σ f g := fun f g hu => if_pos (under_iff.1 hu)
  obtain ⟨t1, t2⟩ := turn_vs hp vs hr hv
  refine ⟨_, R.cut hG hl, fun f g hf => if_neg (by omega), t1, t2.trans hc, fun f g b hb => ?_⟩
  have hb' : σ f g = some b := by
    split at hb
    · exact hb
    · cases hb
  exact ho f g b hb'

/-- The blocks of its own are there. -/
theorem Inst.tight {B n : Nat} {objs : List (Nat × AObj)} {vs : List AVal} {vals : List Value} {own : Nat → Prop} {w : World} (H : Inst P B objs n vs vals own w) : Inst P B objs n vs vals (fun k => own k ∧ k < w.heap.size) w := by
  obtain ⟨σ, R, hf, hv, hc, ho⟩ := H
  exact ⟨σ, R, hf, hv, hc, fun f g b hb => ⟨ho f g b hb, R.live f g b hb⟩⟩
/-- Cells that are known, to be read alone. -/
noncomputable def readOnly (ety : TypeId) (es : Nat) (cs : List AVal) : ACells := ⟨ety, es, cs.length, setElems es 0 cs.length 0 cs .leaf, false, 0, 0, 0, false, true⟩
/-- A block is taken along, as a slice: what is known of it is read alone. -/
theorem Inst.taken {B n : Nat} {objs : List (Nat × AObj)} {vs : List AVal} {vals : List Value} {own : Nat → Prop} {w : World} (H : Inst P B objs n vs vals own w) (hn : n < 65536) (hx : ∀ x ∈ objs, x.1 < n ∧ x.1 < 65536) {k o : Nat} (hk : k < w.heap.size) (hno : ¬ own k)
    (cs : List AVal) {es : Nat} {ety : TypeId} (hes : 0 < es) (hlen : cs.length % es = 0) {cur : Array Value} {fr : Nat × Nat} (hh : w.heap[k]? = some (.cells cur ety fr)) (hsz : o + cs.length ≤ cur.size) (hpl : ∀ v ∈ cs, v.scalar = true ∧ ∀ σ, okv σ v)
    (hcur : ∀ i v, cs[i]? = some v → ∀ σ, cur[o + i]? = some (conc σ v)) (m cap : Nat) :
    Inst P B ((n, .cells (readOnly ety es cs)) :: objs) (n + 1) (.slice (some ⟨n, 0, 0⟩) m (.exact cap) :: vs) (.slice (some ⟨k, o, none⟩) m cap :: vals) (fun j => own j ∨ j = k) w := by
  obtain ⟨σ, R, hf, hv, hc, ho⟩ := H
  have hob := heapL_obj (n := n) fun x h => (hx x h).2
  have hob1 := heapL_obj (n := n + 1) (objs := (n, .cells (readOnly ety es cs)) :: objs) (fun x h => by
    rcases List.mem_cons.1 h with rfl | h
    · exact hn
    · exact (hx x h).2)
  have hs : ∀ f, f ≠ n → (heapL ((n, .cells (readOnly ety es cs)) :: objs) (n + 1)).obj f = (heapL objs n).obj f := fun f hne => by
    rw [hob1, hob]
    simp only [findO]
    rw [if_neg hne]
  have hsn : (heapL ((n, .cells (readOnly ety es cs)) :: objs) (n + 1)).obj n = some (.cells (readOnly ety es cs)) := by
    rw [hob1]
    simp [findO]
  have hw : ∀ f, f ≠ n → (heapL ((n, .cells (readOnly ety es cs)) :: objs) (n + 1)).writable f = (heapL objs n).writable f := fun f hne => by unfold Heap.writable; rw [hs f hne]
  have hwn : (heapL ((n, .cells (readOnly ety es cs)) :: objs) (n + 1)).writable n = false := by unfold Heap.writable; rw [hsn]; rfl
  have hle : σ.le (σ.add n ⟨k, o, 0, cs.length, es⟩) := by
    intro f g b hb
    by_cases e : f = n
    · rw [e, hf n g (Nat.le_refl _)] at hb; cases hb
    · simp only [Real.add, if_neg e]; exact hb
  have hcase : ∀ f g b, σ.add n ⟨k, o, 0, cs.length, es⟩ f g = some b → (f ≠ n ∧ σ f g = some b) ∨ (f = n ∧ g = 0 ∧ b = ⟨k, o, 0, cs.length, es⟩) := by
    intro f g b hb
    by_cases e : f = n
    · simp only [Real.add, if_pos e] at hb
      split at hb
      · rename_i hg; exact .inr ⟨e, hg, (Option.some.inj hb).symm⟩
      · cases hb
    · simp only [Real.add, if_neg e] at hb
      exact .inl ⟨e, hb⟩
  obtain ⟨x1, x2⟩ := ext_vs hle vs hv
  refine ⟨σ.add n ⟨k, o, 0, cs.length, es⟩, ⟨deep8 _, fun f h => ?_, fun f c h => ?_, R.base, fun g hg => ?_, fun f g b ob hb h => ?_, fun f g b hb h => ?_, fun f g b hb => ?_, fun f g b f' g' b' hb hb' hne h => ?_, fun f g b g' b' hb hb' hbk => ?_, Ctx.plain⟩,
    fun f g h => ?_, ⟨⟨⟨k, o, 0, cs.length, es⟩, by simp [Real.add], Nat.le_refl 0, fun e => by cases e⟩, x1⟩, ?_, fun f g b hb => ?_⟩
  · have h' : n + 1 ≤ f := h
    rw [hs f (by omega)]
    exact R.dom f (show n ≤ f by omega)
  · by_cases e : f = n
    · rw [e, hsn] at h
      cases h
      exact cwf_made es cs hes hlen _ rfl (Nat.le_refl _) rfl
    · rw [hs f e] at h
      exact R.full f c h
  · obtain ⟨b, hb, hb2⟩ := R.glob g hg
    exact ⟨b, hle _ _ _ hb, hb2⟩
  · rcases hcase f g b hb with ⟨h1, h2⟩ | ⟨rfl, rfl, rfl⟩
    · rw [hs f h1] at h
      exact (R.obj f g b ob h2 h).mono hle rfl
    · rw [hsn] at h
      cases h
      refine ⟨Nat.le_refl _, rfl, Nat.le_refl _, fun _ => Nat.le_refl _, fun _ => ⟨rfl, rfl, rfl, rfl⟩, cur, fr, hh, (by simpa using hsz), (fun h => (by cases h)), fun i v lo hat _ _ => ?_⟩
      obtain ⟨_, hiv⟩ := cellAt_made es cs hes hlen _ rfl rfl hat
      have hil : i < cs.length := (List.getElem?_eq_some_iff.1 hiv).1
      have hvm : v ∈ cs := List.mem_of_getElem? hiv
      exact ⟨hil, (hpl v hvm).2 _, (hpl v hvm).1, by simpa using hcur i v hiv _⟩
  · rcases hcase f g b hb with ⟨h1, h2⟩ | ⟨rfl, _, _⟩
    · rw [hw f h1] at h
      exact R.wr f g b h2 h
    · rw [hwn] at h; cases h
  · rcases hcase f g b hb with ⟨_, h2⟩ | ⟨rfl, _, rfl⟩
    · exact R.live f g b h2
    · exact hk
  · rcases hcase f g b hb with ⟨h1, h2⟩ | ⟨rfl, _, rfl⟩
    · rw [hw f h1] at h
      rcases hcase f' g' b' hb' with ⟨_, h3⟩ | ⟨rfl, _, rfl⟩
      · exact R.apart f g b f' g' b' h2 h3 hne h
      · show b.block ≠ k
        intro e
        have := ho f g b h2
        rw [e] at this
        exact hno this
    · rw [hwn] at h; cases h
  · rcases hcase f g b hb with ⟨h1, h2⟩ | ⟨rfl, rfl, rfl⟩
    · rcases hcase f g' b' hb' with ⟨_, h3⟩ | ⟨rfl, _, _⟩
      · exact R.alike f g b g' b' h2 h3 hbk
      · exact absurd rfl h1
    · rcases hcase f g' b' hb' with ⟨h1, _⟩ | ⟨_, _, rfl⟩
      · exact absurd rfl h1
      · rfl
  · simp only [Real.add]
    rw [if_neg (by omega)]
    exact hf f g (by omega)
  · simp only [concs, conc, Real.add, if_true, x2.trans hc, RB.at, Nat.sub_self, Nat.add_zero]
  · rcases hcase f g b hb with ⟨_, h2⟩ | ⟨_, _, rfl⟩
    · exact .inl (ho f g b h2)
    · exact .inr rfl
end Go.Abs
