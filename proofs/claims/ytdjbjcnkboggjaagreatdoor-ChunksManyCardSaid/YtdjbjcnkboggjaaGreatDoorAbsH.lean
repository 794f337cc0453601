/- An evaluator of Go code over an abstract memory, and the proof that each of its runs is a run of the model, whatever the tape. It holds for each program, without conditions. -/
import Derived.Test.YtdjbjcnkboggjaaGreatDoorAbsI
import Derived.Test.YtdjbjcnkboggjaaGreatDoorAbsP
import Derived.Test.YtdjbjcnkboggjaaGreatDoorAbsS
import Derived.KernelRfl
namespace Go.Abs
variable {P : Program} {B : Base}
theorem made_at (ety : TypeId) (vs : List AVal) {i : Nat} {v : AVal} (h : vs[i]? = some v) : (ACells.made ety 1 vs).cellAt i = some (v, 0) := by
  have hi : i < vs.length := (List.getElem?_eq_some_iff.1 h).1
  unfold ACells.cellAt ACells.made
  simp only []
  rw [setElems_get 1 0 (by decide) _ _ _ _ (Nat.le_refl _) (Nat.mod_one _), Nat.div_one, Nat.div_one, if_pos (by omega)]
  simp only [Nat.sub_zero, Nat.mul_one, Nat.mod_one, List.getElem?_take, List.getElem?_drop, Nat.add_zero, h]
  rfl
/-- Bytes that the evaluator holds, read in the world. -/
theorem Rel.reads_made {σ : Real} {h : Heap} {w : World} (H : Rel P B σ h w) {f g n cap : Nat} (hv : okv σ (.slice (some ⟨f, g, 0⟩) n (.exact cap))) {ety : TypeId} {vs : List AVal} (ho : h.obj f = some (.cells (ACells.made ety 1 vs)))
    {l : List UInt8} (hl : l.length = n) (hvs : ∀ σ, vs.map (conc σ) = Rep.bcells l) : ∃ A, conc σ (.slice (some ⟨f, g, 0⟩) n (.exact cap)) = .slice A n cap ∧ Rep.Reads w w.heap.size 1 A n (Rep.bcells l) := by
  obtain ⟨k, s, cc, e1, e2, e3, e4⟩ := H.slice_at hv ho
  refine ⟨some ⟨k, s, none⟩, by rw [e1, e2 cap rfl], by rw [Rep.bcells_length, hl, Nat.mul_one], fun _ => ⟨_, rfl, e3, fun j u hu => ?_⟩⟩
  rw [← hvs σ, List.getElem?_map] at hu
  obtain ⟨v, hv1, rfl⟩ := Option.map_eq_some_iff.1 hu
  have := (e4 j v rfl (by rw [Nat.zero_add]; exact made_at ety vs hv1)).2
  rw [← this]
  unfold Addr.add
  split
  · next h0 => rw [h0, Nat.add_zero]
  · rfl
theorem zeros_conc (m : Nat) (σ : Real) : (List.replicate m (AVal.int .u8 (.ofNat 0))).map (conc σ) = Rep.bcells (List.replicate m 0) := by
  rw [List.map_replicate, Rep.bcells, List.map_replicate]
  rfl
end Go.Abs

namespace Go.Abs
variable {P : Program}

/-- A cell of an object that lies there, under the same reading. -/
theorem Rel.cell_in {B n : Nat} {objs : List (Nat × AObj)} {σ : Real} {w : World} {f : Nat} {a : Addr} (R : Rel P (.plain B) σ (heapL objs n) w) (hv : okv σ (.ptr (some ⟨f, 0, 0⟩))) (hcs : conc σ (.ptr (some ⟨f, 0, 0⟩)) = .pointer (some a))
    {i : Nat} {v : AVal} (hc : cellIn (heapL objs n) f i = some v) : okv σ v ∧ a = ⟨a.block, 0, none⟩ ∧ w.cell? ⟨a.block, i, none⟩ = some (conc σ v) ∧ w.frozen? ⟨a.block, i, none⟩ = false := by
  obtain ⟨b, hb, hs⟩ := hv
  have hs' : b.start ≤ 0 := hs
  simp only [conc, hb, Option.map_some, Value.pointer.injEq, Option.some.injEq] at hcs
  unfold cellIn at hc
  cases hfam : (heapL objs n).fam f with
  | none => rw [hfam] at hc; cases hc
  | some c =>
    rw [hfam, Option.bind_some] at hc
    cases hat : c.cellAt i with
    | none => rw [hat] at hc; cases hc
    | some x =>
      rw [hat, Option.bind_some] at hc
      cases hck : (Nat.ble c.start i && Nat.beq x.2 0 && !c.ro && !c.mark) with
      | false => rw [hck] at hc; cases hc
      | true =>
        rw [hck] at hc
        have e : x.1 = v := Option.some.inj hc
        simp only [Bool.and_eq_true, Nat.ble_eq, Nat.beq_eq, Bool.not_eq_true'] at hck
        obtain ⟨⟨⟨k1, k2⟩, k3⟩, k4⟩ := hck
        obtain ⟨cs, fr, h1, _, h3, h4⟩ := (R.cells hb hfam).heap
        obtain ⟨p1, _, p3, _⟩ := h3 k3
        have p3' := p3 k4
        obtain ⟨_, q2, _, q4⟩ := h4 i x.1 x.2 hat k1 (by omega)
        have ha : a = ⟨b.block, 0, none⟩ := by
          rw [← hcs]
          simp only [RB.at, p1, Nat.zero_add, Addr.mk.injEq, and_true, true_and]
          omega
        subst ha
        have ei : b.base + (i - b.start) = i := by omega
        rw [ei, e] at q4
        rw [e] at q2
        refine ⟨q2, rfl, ?_, ?_⟩
        · simp only [World.cell?, h1]
          exact q4
        · simp [World.frozen?, h1, p3']

/-- The pointer in a cell of an object that lies there. -/
theorem Inst.ptrs {B n : Nat} {objs : List (Nat × AObj)} {f : Nat} {a : Addr} {vs : List AVal} {vals : List Value} {own : Nat → Prop} {w : World} (H : Inst P B objs n (.ptr (some ⟨f, 0, 0⟩) :: vs) (.pointer (some a) :: vals) own w)
    {i : Nat} {p : APtr} (hc : cellIn (heapL objs n) f i = some (.ptr (some p))) :
    ∃ b, Inst P B objs n (.ptr (some ⟨f, 0, 0⟩) :: .ptr (some p) :: vs) (.pointer (some a) :: .pointer (some b) :: vals) own w := by
  obtain ⟨σ, R, hf, hv, hcs, ho⟩ := H
  simp only [concs, List.cons.injEq] at hcs
  obtain ⟨q1, _, _, _⟩ := R.cell_in hv.1 hcs.1 hc
  obtain ⟨b, hb, hb2⟩ := q1
  refine ⟨b.at p.off, σ, R, hf, ⟨hv.1, ⟨b, hb, hb2⟩, hv.2⟩, ?_, ho⟩
  show [conc σ _, conc σ _] ++ concs σ vs = _
  rw [hcs.1, hcs.2]
  simp only [conc, hb, Option.map_some, List.cons_append, List.nil_append]

/-- The cells are these. -/
noncomputable def cellsAre (c : ACells) (cs : List AVal) (i : Nat) : Bool :=
  List.rec (motive := fun _ => Nat → Bool) (fun _ => true) (fun v _ ih i => (match c.cellAt i with | some x => avEq x.1 v && Nat.beq x.2 0 | none => false) && ih (i + 1)) cs i
theorem cellsAre_get {c : ACells} : ∀ {cs : List AVal} {i : Nat}, cellsAre c cs i = true → ∀ j v, cs[j]? = some v → c.cellAt (i + j) = some (v, 0)
  | [], _, _, j, v, hv => by simp at hv
  | u :: cs, i, h, j, v, hv => by
    have h' : ((match c.cellAt i with | some x => avEq x.1 u && Nat.beq x.2 0 | none => false) && cellsAre c cs (i + 1)) = true := h
    rw [Bool.and_eq_true] at h'
    cases j with
    | zero =>
      simp only [List.getElem?_cons_zero, Option.some.injEq] at hv
      subst hv
      cases hx : c.cellAt i with
      | none => rw [hx] at h'; cases h'.1
      | some x =>
        rw [hx] at h'
        obtain ⟨x1, x2⟩ := x
        have h1 : (avEq x1 u && Nat.beq x2 0) = true := h'.1
        rw [Bool.and_eq_true, Nat.beq_eq] at h1
        rw [avEq_sound h1.1, h1.2]
    | succ j =>
      simp only [List.getElem?_cons_succ] at hv
      rw [← cellsAre_get h'.2 j v hv]
      congr 1
      omega
noncomputable def famAre (h : Heap) (f : Nat) (cs : List AVal) : Bool := match h.obj f with
  | some (.cells c) => cellsAre c cs 0 && Nat.beq c.start 0
  | _ => false

/-- A slice of known cells lies there. -/
theorem Inst.row {B n : Nat} {objs : List (Nat × AObj)} {f m es : Nat} {cap : ACap} {vs : List AVal} {val : Value} {vals : List Value} {own : Nat → Prop} {w : World} (H : Inst P B objs n (.slice (some ⟨f, 0, 0⟩) m cap :: vs) (val :: vals) own w)
    {cs : List AVal} {xs : List Value} (hc : famAre (heapL objs n) f cs = true) (hx : ∀ σ, cs.map (conc σ) = xs) (hl : xs.length = m * es) : ∃ A c, val = .slice A m c ∧ Rep.Reads w w.heap.size es A m xs := by
  obtain ⟨σ, R, hf, hv, hcs, ho⟩ := H
  simp only [concs, List.cons.injEq] at hcs
  unfold famAre at hc
  cases hob : (heapL objs n).obj f with
  | none => rw [hob] at hc; cases hc
  | some o =>
    rw [hob] at hc
    cases o with
    | cells c =>
      obtain ⟨k, s, cc, e1, _, e3, e4⟩ := R.slice_at hv.1 hob
      refine ⟨some ⟨k, s, none⟩, cc, by rw [← hcs.1, e1], hl, fun _ => ⟨_, rfl, e3, fun j u hu => ?_⟩⟩
      rw [← hx σ, List.getElem?_map] at hu
      obtain ⟨v, hv1, rfl⟩ := Option.map_eq_some_iff.1 hu
      have hc' : (cellsAre c cs 0 && Nat.beq c.start 0) = true := hc
      rw [Bool.and_eq_true, Nat.beq_eq] at hc'
      have := (e4 j v hc'.2 (cellsAre_get hc'.1 j v hv1)).2
      rw [← this]
      unfold Addr.add
      split
      · next h0 => rw [h0, Nat.add_zero]
      · rfl
    | _ => cases hc
/-- Fewer families, and fewer objects. -/
theorem Inst.drop {B n n' : Nat} {objs objs2 : List (Nat × AObj)} {vs : List AVal} {vals : List Value} {own : Nat → Prop} {w : World} (H : Inst P B objs n' vs vals own w) (hG : P.globals.size ≤ n) (hl : okL n (heapL objs n') objs2 = true) (hr : refsAll (under n) vs = true) :
    Inst P B objs2 n vs vals own w := by
  obtain ⟨σ, R, hf, hv, hc, ho⟩ := H
  have hp : ∀ f g, under n f g = true → (fun f g => if f < n then σ f g else none : Real) f g = σ f g := fun f g hu => if_pos (under_iff.1 hu)
  obtain ⟨t1, t2⟩ := turn_vs hp vs hr hv
  refine ⟨_, R.cut hG hl, fun f g hf => if_neg (by omega), t1, t2.trans hc, fun f g b hb => ?_⟩
  have hb' : σ f g = some b := by
    split at hb
    · exact hb
    · cases hb
  exact ho f g b hb'
end Go.Abs

namespace Go.Abs
variable {P : Program}
/-- A block is taken along, as a slice: what is known of it is read alone; its cells may name what lies there already. -/
theorem Inst.taken2 {B n : Nat} {objs : List (Nat × AObj)} {vs : List AVal} {vals : List Value} {own : Nat → Prop} {w : World} (H : Inst P B objs n vs vals own w) (hn : n < 65536) (hx : ∀ x ∈ objs, x.1 < n ∧ x.1 < 65536) {k o : Nat} (hk : k < w.heap.size) (hno : ¬ own k)
    (cs : List AVal) {es : Nat} {ety : TypeId} (hes : 0 < es) (hlen : cs.length % es = 0) {cur : Array Value} {fr : Nat × Nat} (hh : w.heap[k]? = some (.cells cur ety fr)) (hsz : o + cs.length ≤ cur.size) 
    (hcur : ∀ σ, okvs σ vs → concs σ vs = vals → ∀ i v, cs[i]? = some v → v.scalar = true ∧ okv σ v ∧ cur[o + i]? = some (conc σ v)) (m cap : Nat) :
    Inst P B ((n, .cells (readOnly ety es cs)) :: objs) (n + 1) (.slice (some ⟨n, 0, 0⟩) m (.exact cap) :: vs) (.slice (some ⟨k, o, none⟩) m cap :: vals) (fun j => own j ∨ j = k) w := by
  obtain ⟨σ, R, hf, hv, hc, ho⟩ := H
  have hob := heapL_obj (n := n) fun x h => (hx x h).2
  have hob1 := heapL_obj (n := n + 1) (objs := (n, .cells (readOnly ety es cs)) :: objs) (fun x h => by
    rcases List.mem_cons.1 h with rfl | h
    · exact hn
    · exact (hx x h).2)
  have hs : ∀ f, f ≠ n → (heapL ((n, .cells (readOnly ety es cs)) :: objs) (n + 1)).obj f = (heapL objs n).obj f := fun f hne => by
    rw [hob1, hob]
    simp only [findO]
    rw [if_neg hne]
  have hsn : (heapL ((n, .cells (readOnly ety es cs)) :: objs) (n + 1)).obj n = some (.cells (readOnly ety es cs)) := by
    rw [hob1]
    simp [findO]
  have hw : ∀ f, f ≠ n → (heapL ((n, .cells (readOnly ety es cs)) :: objs) (n + 1)).writable f = (heapL objs n).writable f := fun f hne => by unfold Heap.writable; rw [hs f hne]
  have hwn : (heapL ((n, .cells (readOnly ety es cs)) :: objs) (n + 1)).writable n = false := by unfold Heap.writable; rw [hsn]; rfl
  have hle : σ.le (σ.add n ⟨k, o, 0, cs.length, es⟩) := by
    intro f g b hb
    by_cases e : f = n
    · rw [e, hf n g (Nat.le_refl _)] at hb; cases hb
    · simp only [Real.add, if_neg e]; exact hb
  have hcase : ∀ f g b, σ.add n ⟨k, o, 0, cs.length, es⟩ f g = some b → (f ≠ n ∧ σ f g = some b) ∨ (f = n ∧ g = 0 ∧ b = ⟨k, o, 0, cs.length, es⟩) := by
    intro f g b hb
    by_cases e : f = n
    · simp only [Real.add, if_pos e] at hb
      split at hb
      · rename_i hg; exact .inr ⟨e, hg, (Option.some.inj hb).symm⟩
      · cases hb
    · simp only [Real.add, if_neg e] at hb
      exact .inl ⟨e, hb⟩
  obtain ⟨x1, x2⟩ := ext_vs hle vs hv
  refine ⟨σ.add n ⟨k, o, 0, cs.length, es⟩, ⟨deep8 _, fun f h => ?_, fun f c h => ?_, R.base, fun g hg => ?_, fun f g b ob hb h => ?_, fun f g b hb h => ?_, fun f g b hb => ?_, fun f g b f' g' b' hb hb' hne h => ?_, fun f g b g' b' hb hb' hbk => ?_, Ctx.plain⟩,
    fun f g h => ?_, ⟨⟨⟨k, o, 0, cs.length, es⟩, by simp [Real.add], Nat.le_refl 0, fun e => by cases e⟩, x1⟩, ?_, fun f g b hb => ?_⟩
  · have h' : n + 1 ≤ f := h
    rw [hs f (by omega)]
    exact R.dom f (show n ≤ f by omega)
  · by_cases e : f = n
    · rw [e, hsn] at h
      cases h
      exact cwf_made es cs hes hlen _ rfl (Nat.le_refl _) rfl
    · rw [hs f e] at h
      exact R.full f c h
  · obtain ⟨b, hb, hb2⟩ := R.glob g hg
    exact ⟨b, hle _ _ _ hb, hb2⟩
  · rcases hcase f g b hb with ⟨h1, h2⟩ | ⟨rfl, rfl, rfl⟩
    · rw [hs f h1] at h
      exact (R.obj f g b ob h2 h).mono hle rfl
    · rw [hsn] at h
      cases h
      refine ⟨Nat.le_refl _, rfl, Nat.le_refl _, fun _ => Nat.le_refl _, fun _ => ⟨rfl, rfl, rfl, rfl⟩, cur, fr, hh, (by simpa using hsz), (fun h => (by cases h)), fun i v lo hat _ _ => ?_⟩
      obtain ⟨_, hiv⟩ := cellAt_made es cs hes hlen _ rfl rfl hat
      have hil : i < cs.length := (List.getElem?_eq_some_iff.1 hiv).1
      obtain ⟨q1, q2, q3⟩ := hcur σ hv hc i v hiv
      obtain ⟨e1, e2⟩ := ext_v hle v q2
      exact ⟨hil, e1, q1, by rw [e2]; simpa using q3⟩
  · rcases hcase f g b hb with ⟨h1, h2⟩ | ⟨rfl, _, _⟩
    · rw [hw f h1] at h
      exact R.wr f g b h2 h
    · rw [hwn] at h; cases h
  · rcases hcase f g b hb with ⟨_, h2⟩ | ⟨rfl, _, rfl⟩
    · exact R.live f g b h2
    · exact hk
  · rcases hcase f g b hb with ⟨h1, h2⟩ | ⟨rfl, _, rfl⟩
    · rw [hw f h1] at h
      rcases hcase f' g' b' hb' with ⟨_, h3⟩ | ⟨rfl, _, rfl⟩
      · exact R.apart f g b f' g' b' h2 h3 hne h
      · show b.block ≠ k
        intro e
        have := ho f g b h2
        rw [e] at this
        exact hno this
    · rw [hwn] at h; cases h
  · rcases hcase f g b hb with ⟨h1, h2⟩ | ⟨rfl, rfl, rfl⟩
    · rcases hcase f g' b' hb' with ⟨_, h3⟩ | ⟨rfl, _, _⟩
      · exact R.alike f g b g' b' h2 h3 hbk
      · exact absurd rfl h1
    · rcases hcase f g' b' hb' with ⟨h1, _⟩ | ⟨_, _, rfl⟩
      · exact absurd rfl h1
      · rfl
  · simp only [Real.add]
    rw [if_neg (by omega)]
    exact hf f g (by omega)
  · simp only [concs, conc, Real.add, if_true, x2.trans hc, RB.at, Nat.sub_self, Nat.add_zero]
  · rcases hcase f g b hb with ⟨_, h2⟩ | ⟨_, _, rfl⟩
    · exact .inl (ho f g b h2)
    · exact .inr rfl

/-- The one line of a screen with one cell lies at fl, its cell at fc. -/
noncomputable def snapOk (h : Heap) (fl fc : Nat) (c16 : List AVal) : Bool := match h.obj fl, h.obj fc with
  | some (.cells cl), some (.cells cc) => cellsAre cl [.slice (some ⟨fc, 0, 0⟩) 1 .toEnd, .bool false] 0 && cellsAre cc c16 0 && Nat.beq cl.ety 58 && Nat.beq cc.ety 61 && !cl.ro && !cc.ro && Nat.beq cl.start 0 && Nat.beq cc.start 0
  | _, _ => false
/-- A snapshot of one line with one cell, in blocks of S. -/
def SnapAt (tl c16 : List AVal) (w : World) (S : Nat → Prop) (v : Value) : Prop :=
  ∃ (k1 s1 c1 k2 s2 c2 : Nat) (cur1 cur2 : Array Value) (fr1 fr2 : Nat × Nat), v = .agg (Value.slice (some ⟨k1, s1, none⟩) 1 c1 :: concs (fun _ _ => none) tl).toArray ∧ S k1 ∧ S k2 ∧ k1 ≠ k2 ∧
    w.heap[k1]? = some (.cells cur1 58 fr1) ∧ w.heap[k2]? = some (.cells cur2 61 fr2) ∧ s1 + 2 ≤ cur1.size ∧ s2 + c16.length ≤ cur2.size ∧ cur1[s1]? = some (.slice (some ⟨k2, s2, none⟩) 1 c2) ∧ cur1[s1 + 1]? = some (.bool false) ∧
    ∀ i v, c16[i]? = some v → cur2[s2 + i]? = some (conc (fun _ _ => none) v)
theorem size_of {α : Type} {a : Array α} {i : Nat} {x : α} (h : a[i]? = some x) : i < a.size := (Array.getElem?_eq_some_iff.1 h).1
theorem SnapAt.stay {tl c16 : List AVal} {w w' : World} {S : Nat → Prop} {v : Value} (H : SnapAt tl c16 w S v) (hb : ∀ k, S k → k < w.heap.size → w'.heap[k]? = w.heap[k]?) : SnapAt tl c16 w' S v := by
  obtain ⟨k1, s1, c1, k2, s2, c2, cur1, cur2, fr1, fr2, h0, h1, h3, h5, h6, h7, h8⟩ := H
  exact ⟨k1, s1, c1, k2, s2, c2, cur1, cur2, fr1, fr2, h0, h1, h3, h5, (hb k1 h1 (size_of h6)).trans h6, (hb k2 h3 (size_of h7)).trans h7, h8⟩
theorem SnapAt.wide {tl c16 : List AVal} {w : World} {S S' : Nat → Prop} {v : Value} (H : SnapAt tl c16 w S v) (h : ∀ k, S k → k < w.heap.size → S' k) : SnapAt tl c16 w S' v := by
  obtain ⟨k1, s1, c1, k2, s2, c2, cur1, cur2, fr1, fr2, h0, h1, h3, h5, h6, h7, h8⟩ := H
  exact ⟨k1, s1, c1, k2, s2, c2, cur1, cur2, fr1, fr2, h0, h _ h1 (size_of h6), h _ h3 (size_of h7), h5, h6, h7, h8⟩
theorem plain_concs {tl : List AVal} (h : ∀ v ∈ tl, ∀ σ, conc σ v = conc (fun _ _ => none) v) (σ : Real) : concs σ tl = concs (fun _ _ => none) tl := by
  rw [concs_eq, concs_eq]
  exact List.map_congr_left fun v hv => h v hv σ
theorem Rel.snap {B n : Nat} {objs : List (Nat × AObj)} {fl fc : Nat} {tl c16 : List AVal} {val : Value} {w : World} {σ : Real} (R : Rel P (.plain B) σ (heapL objs n) w) (hv : okv σ (.agg (.slice (some ⟨fl, 0, 0⟩) 1 .toEnd :: tl))) (hcs : conc σ (.agg (.slice (some ⟨fl, 0, 0⟩) 1 .toEnd :: tl)) = val)
    (hne : fl ≠ fc) (hs : snapOk (heapL objs n) fl fc c16 = true) (ht : ∀ v ∈ tl, ∀ σ, conc σ v = conc (fun _ _ => none) v)
    (hc : ∀ v ∈ c16, ∀ σ, conc σ v = conc (fun _ _ => none) v) (h0 : 0 < c16.length) : SnapAt tl c16 w (fun k => B ≤ k ∧ k < w.heap.size ∧ ∃ f b, (f = fl ∨ f = fc) ∧ σ f 0 = some b ∧ (heapL objs n).writable f = true ∧ b.block = k) val := by
  unfold snapOk at hs
  split at hs
  · rename_i cl cc h1 h2
    simp only [Bool.and_eq_true, Nat.beq_eq, Bool.not_eq_true'] at hs
    obtain ⟨⟨⟨⟨⟨⟨⟨g1, g2⟩, g3⟩, g4⟩, g5⟩, g6⟩, g7⟩, g8⟩ := hs
    obtain ⟨⟨⟨b1, hb1, hs1, _⟩, _⟩, _⟩ := hv
    have hs1' : b1.start ≤ 0 := hs1
    have wr1 : (heapL objs n).writable fl = true := by rw [writable_of h1]; show (!cl.ro) = true; rw [g5]; rfl
    have w1 := R.wr fl 0 b1 hb1 wr1
    have l1 := R.live fl 0 b1 hb1
    obtain ⟨cs1, fr1, x1, y1, _, z1⟩ := (show CellsOk σ w 0 b1 cl from R.obj fl 0 b1 _ hb1 h1).heap
    have a0 := cellsAre_get g1 0 _ rfl
    have a1 := cellsAre_get g1 1 _ rfl
    obtain ⟨i0, q0, _, r0⟩ := z1 _ _ _ a0 (by omega) (Nat.le_refl _)
    obtain ⟨i1, _, _, r1⟩ := z1 _ _ _ a1 (by omega) (Nat.le_refl _)
    obtain ⟨b2, hb2, hs2, _⟩ := q0
    have hs2' : b2.start ≤ 0 := hs2
    have wr2 : (heapL objs n).writable fc = true := by rw [writable_of h2]; show (!cc.ro) = true; rw [g6]; rfl
    have w2 := R.wr fc 0 b2 hb2 wr2
    have l2 := R.live fc 0 b2 hb2
    obtain ⟨cs2, fr2, x2, y2, _, z2⟩ := (show CellsOk σ w 0 b2 cc from R.obj fc 0 b2 _ hb2 h2).heap
    rw [g3] at x1
    rw [g4] at x2
    have st1 : b1.start = 0 := by omega
    have st2 : b2.start = 0 := by omega
    have cells2 : ∀ i v, c16[i]? = some v → cs2[b2.base + (0 - b2.start) + i]? = some (conc (fun _ _ => none) v) := by
      intro i v hi
      have ai := cellsAre_get g2 i v hi
      obtain ⟨_, _, _, ri⟩ := z2 _ _ _ ai (by omega) (Nat.le_refl _)
      rw [hc v (List.mem_of_getElem? hi) σ, st2] at ri
      rw [← ri, st2]
      congr 1
      omega
    refine ⟨b1.block, b1.base + (0 - b1.start), b1.cap 0, b2.block, b2.base + (0 - b2.start), b2.cap 0, cs1, cs2, fr1, fr2, ?_, ⟨w1, l1, fl, b1, .inl rfl, hb1, wr1, rfl⟩, ⟨w2, l2, fc, b2, .inr rfl, hb2, wr2, rfl⟩, R.apart fl 0 b1 fc 0 b2 hb1 hb2 hne (by rw [writable_of h1]; show (!cl.ro) = true; rw [g5]; rfl), x1, x2, ?_, ?_, ?_, ?_, cells2⟩
    · rw [← hcs]
      simp only [conc, concs, hb1, RB.at]
      rw [plain_concs ht σ]
    · have := size_of r1
      rw [st1] at this ⊢
      omega
    · have := size_of (cells2 (c16.length - 1) _ (List.getElem?_eq_getElem (by omega)))
      omega
    · rw [st1] at r0 ⊢
      rw [show b1.base + (0 - 0) = b1.base + (0 + 0 - 0) by omega, r0]
      simp only [conc, hb2, RB.at]
    · rw [st1] at r1 ⊢
      rw [show b1.base + (0 - 0) + 1 = b1.base + (0 + 1 - 0) by omega, r1]
      rfl
  · cases hs
theorem Inst.snap {B n : Nat} {objs : List (Nat × AObj)} {fl fc : Nat} {tl c16 : List AVal} {vs : List AVal} {val : Value} {vals : List Value} {own : Nat → Prop} {w : World}
    (H : Inst P B objs n (.agg (.slice (some ⟨fl, 0, 0⟩) 1 .toEnd :: tl) :: vs) (val :: vals) own w) (hne : fl ≠ fc) (hs : snapOk (heapL objs n) fl fc c16 = true) (ht : ∀ v ∈ tl, ∀ σ, conc σ v = conc (fun _ _ => none) v)
    (hc : ∀ v ∈ c16, ∀ σ, conc σ v = conc (fun _ _ => none) v) (h0 : 0 < c16.length) : SnapAt tl c16 w (fun k => B ≤ k ∧ k < w.heap.size) val := by
  obtain ⟨σ, R, hf, hv, hcs, ho⟩ := H
  simp only [concs, List.cons.injEq] at hcs
  exact (R.snap hv.1 hcs.1 hne hs ht hc h0).wide fun k hk _ => ⟨hk.1, hk.2.1⟩
/-- The snapshot is set apart from what stays. -/
theorem Inst.snapDrop {B n n2 : Nat} {objs objs2 : List (Nat × AObj)} {fl fc : Nat} {tl c16 : List AVal} {vs : List AVal} {val : Value} {vals : List Value} {own : Nat → Prop} {w : World}
    (H : Inst P B objs n (.agg (.slice (some ⟨fl, 0, 0⟩) 1 .toEnd :: tl) :: vs) (val :: vals) own w) (hne : fl ≠ fc) (hs : snapOk (heapL objs n) fl fc c16 = true) (ht : ∀ v ∈ tl, ∀ σ, conc σ v = conc (fun _ _ => none) v)
    (hc : ∀ v ∈ c16, ∀ σ, conc σ v = conc (fun _ _ => none) v) (h0 : 0 < c16.length)
    (hG : P.globals.size ≤ n2) (hl : okL n2 (heapL objs n) objs2 = true) (hr : refsAll (under n2) vs = true) (hfl : n2 ≤ fl) (hfc : n2 ≤ fc) :
    ∃ own2, Inst P B objs2 n2 vs vals own2 w ∧ (∀ k, own2 k → own k ∧ k < w.heap.size) ∧ SnapAt tl c16 w (fun k => B ≤ k ∧ k < w.heap.size ∧ ¬ own2 k) val := by
  obtain ⟨σ, R, hf, hv, hcs, ho⟩ := H
  simp only [concs, List.cons.injEq] at hcs
  have hp : ∀ f g, under n2 f g = true → (fun f g => if f < n2 then σ f g else none : Real) f g = σ f g := fun f g hu => if_pos (under_iff.1 hu)
  obtain ⟨t1, t2⟩ := turn_vs hp vs hr hv.2
  refine ⟨fun k => ∃ f g b, f < n2 ∧ σ f g = some b ∧ b.block = k, ⟨_, R.cut hG hl, fun f g hf => if_neg (by omega), t1, t2.trans hcs.2, fun f g b hb => ?_⟩, ?_, (R.snap hv.1 hcs.1 hne hs ht hc h0).wide ?_⟩
  · by_cases hlt : f < n2
    · exact ⟨f, g, b, hlt, (if_pos hlt).symm.trans hb, rfl⟩
    · rw [if_neg hlt] at hb
      cases hb
  · rintro k ⟨f, g, b, _, h2, rfl⟩
    exact ⟨ho f g b h2, R.live f g b h2⟩
  · rintro k ⟨h1, h2, f, b, h3, h4, h5, rfl⟩ _
    refine ⟨h1, h2, ?_⟩
    rintro ⟨f', g', b', h6, h7, h8⟩
    have hne' : f ≠ f' := by rcases h3 with rfl | rfl <;> omega
    exact R.apart f 0 b f' g' b' h4 h7 hne' h5 h8.symm
end Go.Abs
