/- An evaluator of Go code over an abstract memory, and the proof that each of its runs is a run of the model, whatever the tape. It holds for each program, without conditions. -/
import Derived.Test.YtdjbjcnkboggjaaGreatDoorAbsR
namespace Go.Abs
variable {P : Program}

/-! ### What lies in a world, told apart from how it came there -/

/-- The memory that holds some objects alone. -/
noncomputable def heapL (objs : List (Nat × AObj)) (n : Nat) : Heap := ⟨putAll L4.leaf objs, n, n⟩
def under (n f _g : Nat) : Bool := Nat.blt f n
noncomputable def okL (n : Nat) (h : Heap) (objs : List (Nat × AObj)) : Bool := objs.all fun x => Nat.blt x.1 n && Nat.blt x.1 65536 && objRefs (under n) x.2 && lies h x

theorem okL_mem {n : Nat} {h : Heap} {objs : List (Nat × AObj)} (hl : okL n h objs = true) : ∀ x ∈ objs, x.1 < n ∧ x.1 < 65536 ∧ objRefs (under n) x.2 = true ∧ h.obj x.1 = some x.2 := by
  intro x hx
  have := List.all_eq_true.1 hl x hx
  simp only [Bool.and_eq_true, Nat.blt_eq] at this
  obtain ⟨⟨⟨h1, h2⟩, h3⟩, h4⟩ := this
  exact ⟨h1, h2, h3, lies_iff h4⟩

theorem under_iff {n f g : Nat} : under n f g = true ↔ f < n := by unfold under; rw [Nat.blt_eq]

theorem heapL_obj {objs : List (Nat × AObj)} {n : Nat} (hl : ∀ x ∈ objs, x.1 < 65536) (f : Nat) : (heapL objs n).obj f = findO objs f := by
  have := putAll_get L4.leaf objs hl f
  unfold Heap.obj heapL
  rw [this]
  cases findO objs f with
  | some o => rfl
  | none => exact L4.getL_leaf f

/-- Less is known: some objects alone, and the families below n. -/
theorem Rel.cut {B : Base} {σ : Real} {h : Heap} {w : World} (H : Rel P B σ h w) {n : Nat} {objs : List (Nat × AObj)} (hG : P.globals.size ≤ n) (hl : okL n h objs = true) :
    Rel P (.plain B.n) (fun f g => if f < n then σ f g else none) (heapL objs n) w := by
  have hm := okL_mem hl
  have hob := heapL_obj (n := n) fun x hx => (hm x hx).2.1
  have s0 : ∀ f g b, (if f < n then σ f g else none) = some b → σ f g = some b ∧ f < n := by
    intro f g b hb
    split at hb
    · rename_i hlt; exact ⟨hb, hlt⟩
    · cases hb
  have s1 : ∀ f g, under n f g = true → (fun f g => if f < n then σ f g else none : Real) f g = σ f g := by
    intro f g hu
    exact if_pos (under_iff.1 hu)
  have hk : ∀ f o, (heapL objs n).obj f = some o → h.obj f = some o ∧ f < n ∧ objRefs (under n) o = true := by
    intro f o hf
    rw [hob] at hf
    obtain ⟨h1, _, h3, h4⟩ := hm _ (findO_mem hf)
    exact ⟨h4, h1, h3⟩
  have hw : ∀ f, (heapL objs n).writable f = true → h.writable f = true := by
    intro f hf
    unfold Heap.writable at hf ⊢
    cases e : (heapL objs n).obj f with
    | none => rw [e] at hf; cases hf
    | some o => rw [e] at hf; rw [(hk f o e).1]; exact hf
  refine ⟨deep8 _, fun f hf => ?_, fun f c hc => H.full f c (hk f _ hc).1, H.base, fun g hg => ?_, fun f g b o hb hx => ?_, fun f g b hb hx => H.wr f g b (s0 _ _ _ hb).1 (hw f hx), fun f g b hb => H.live f g b (s0 _ _ _ hb).1,
    fun f g b f' g' b' hb hb' hne hx => H.apart f g b f' g' b' (s0 _ _ _ hb).1 (s0 _ _ _ hb').1 hne (hw f hx), fun f g b g' b' hb hb' hbk => H.alike f g b g' b' (s0 _ _ _ hb).1 (s0 _ _ _ hb').1 hbk, Ctx.plain⟩
  · cases e : (heapL objs n).obj f with
    | none => rfl
    | some o =>
      have := (hk f o e).2.1
      have hf' : n ≤ f := hf
      omega
  · obtain ⟨b, hb, hb2⟩ := H.glob g hg
    exact ⟨b, (if_pos (show g < n by omega)).trans hb, hb2⟩
  · obtain ⟨k1, _, k3⟩ := hk f o hx
    exact (H.obj f g b o (s0 _ _ _ hb).1 k1).turn s1 k3

mutual
theorem refsIn_mono {p q : Nat → Nat → Bool} (h : ∀ f g, p f g = true → q f g = true) : ∀ v, refsIn p v = true → refsIn q v = true
  | .bool _, _ => rfl
  | .int _ _, _ => rfl
  | .str _, _ => rfl
  | .ptr none, _ => rfl
  | .ptr (some _), hp => by simp only [refsIn] at hp ⊢; exact h _ _ hp
  | .slice none _ _, _ => rfl
  | .slice (some _) _ _, hp => by simp only [refsIn] at hp ⊢; exact h _ _ hp
  | .zslice _ _ _, hp => by simp only [refsIn] at hp ⊢; exact h _ _ hp
  | .map none, _ => rfl
  | .map (some _), hp => by simp only [refsIn] at hp ⊢; exact h _ _ hp
  | .func fn first cap, hp => by
    simp only [refsIn, Bool.and_eq_true] at hp ⊢
    exact ⟨⟨hp.1.1, refsAll_mono h first hp.1.2⟩, refsAll_mono h cap hp.2⟩
  | .nilFunc, _ => rfl
  | .iface _ v, hp => by simp only [refsIn] at hp ⊢; exact refsIn_mono h v hp
  | .nilIface, _ => rfl
  | .agg cs, hp => by simp only [refsIn] at hp ⊢; exact refsAll_mono h cs hp
  | .tuple cs, hp => by simp only [refsIn] at hp ⊢; exact refsAll_mono h cs hp
theorem refsAll_mono {p q : Nat → Nat → Bool} (h : ∀ f g, p f g = true → q f g = true) : ∀ l, refsAll p l = true → refsAll q l = true
  | [], _ => rfl
  | v :: vs, hp => by
    simp only [refsAll, Bool.and_eq_true] at hp ⊢
    exact ⟨refsIn_mono h v hp.1, refsAll_mono h vs hp.2⟩
end

/-- The objects lie in the world, in blocks of 'own'; the values are those of the abstract ones. -/
def Inst (P : Program) (B : Nat) (objs : List (Nat × AObj)) (n : Nat) (vs : List AVal) (vals : List Value) (own : Nat → Prop) (w : World) : Prop :=
  ∃ σ : Real, Rel P (.plain B) σ (heapL objs n) w ∧ (∀ f g, n ≤ f → σ f g = none) ∧ okvs σ vs ∧ concs σ vs = vals ∧ ∀ f g b, σ f g = some b → own b.block

/-- What lies there lies there still, where its blocks are as they were. -/
theorem Inst.stay {B : Nat} {objs : List (Nat × AObj)} {n : Nat} {vs : List AVal} {vals : List Value} {own : Nat → Prop} {w w' : World} (H : Inst P B objs n vs vals own w)
    (hb : ∀ k, own k → k < w.heap.size → w'.heap[k]? = w.heap[k]?) (hs : w.heap.size ≤ w'.heap.size) : Inst P B objs n vs vals own w' := by
  obtain ⟨σ, R, hf, hv, hc, ho⟩ := H
  have heap : ∀ f g b, σ f g = some b → w'.heap[b.block]? = w.heap[b.block]? := fun f g b h1 => hb _ (ho f g b h1) (R.live f g b h1)
  exact ⟨σ, ⟨R.deep, R.dom, R.full, Nat.le_trans R.base hs, R.glob, fun f g b o h1 h2 => ObjOk.mono (R.obj f g b o h1 h2) (Real.le_refl σ) (heap f g b h1), R.wr, fun f g b h1 => Nat.lt_of_lt_of_le (R.live f g b h1) hs, R.apart, R.alike, Ctx.plain⟩, hf, hv, hc, ho⟩

theorem Inst.more {B : Nat} {objs : List (Nat × AObj)} {n : Nat} {vs : List AVal} {vals : List Value} {own own' : Nat → Prop} {w : World} (H : Inst P B objs n vs vals own w) (h : ∀ k, own k → own' k) : Inst P B objs n vs vals own' w := by
  obtain ⟨σ, R, hf, hv, hc, ho⟩ := H
  exact ⟨σ, R, hf, hv, hc, fun f g b hb => h _ (ho f g b hb)⟩

/-- The tables, as objects. -/
noncomputable def tabObjs (ts : List Tab) : List (Nat × AObj) := ts.map fun t => (t.at', .cells t.cells)
theorem putAll_tabs : ∀ ts : List Tab, putAll L4.leaf (tabObjs ts) = startObjs ts
  | [] => rfl
  | t :: ts => by
    show (putAll L4.leaf (tabObjs ts)).setL t.at' (.cells t.cells) = _
    rw [putAll_tabs ts]
    rfl

theorem inst_start {W : World} {ts : List Tab} (hsz : P.globals.size ≤ W.heap.size)
    (ht : ∀ t ∈ ts, t.at' < P.globals.size ∧ 0 < t.es ∧ t.vs.length % t.es = 0 ∧ okvs (fun _ _ => none) t.vs ∧ t.vs.all AVal.scalar = true ∧ W.heap[t.at']? = some (.cells (concs (fun _ _ => none) t.vs).toArray t.ety (0, 0))) :
    Inst P W.heap.size (tabObjs ts) P.globals.size [] [] (· < P.globals.size) W := by
  have H := start_rel hsz ht
  refine ⟨startAt P.globals.size ts, ?_, fun f g h => ?_, trivial, rfl, fun f g b hb => ?_⟩
  · have : heapL (tabObjs ts) P.globals.size = start P.globals.size ts := by
      unfold heapL start
      rw [putAll_tabs]
    rw [this]
    exact H
  · unfold startAt
    rw [if_neg]
    rintro ⟨_, h2⟩
    omega
  · unfold startAt at hb
    split at hb
    · rename_i hc
      have e := (Option.some.inj hb).symm
      rw [e]
      cases (start P.globals.size ts).fam f <;> exact hc.2
    · cases hb

/-- A call of the evaluator that looks calls up, and the model's. -/
theorem calls_look {B : Base} {ok sk d : Nat} {S : LF} {f : FuncId} {args : List AVal} {h h' : Heap} {v : AVal} {σ : Real} {w : World} (hmix : P.follows .mixedOrders = true)
    (hgood : ∀ f, Nat.testBit ok f = true → ∀ fn, P.funcs[f]? = some fn → goodFunc fn = true) (hS : LookSound P (fun f args h => (S f args h).opt)) {fn : Func} (hfn : P.funcs[f]? = some fn) (hbody : fn.body.isSome = true)
    (hc : fstep ok P (fcallO P ok sk d S noY) (fun i hd => fcallO P ok sk d S (fext noY i hd)) f args h = .ok v h') (H : Rel P B σ h w) (hargs : okvs σ args) (hfree : Free σ h.next h'.next) :
    Calls P f (concs σ args).toArray w fun e w' => ∃ σ', e = .returned (conc σ' v) ∧ okv σ' v ∧ Post P B σ h w σ' h' w' := by
  have hcs := callO_sound (P := P) (ok := ok) (sk := sk) hS hgood (fun _ _ hcf => draw_sound hmix hcf) d
  have he := fstep_eq (P := P) (fcallO_eq (P := P) ok sk (S := S) (fun _ _ _ => rfl) d noY (fun _ _ _ => none) (fun _ _ _ => rfl)) (fun i hd hd' hh => fcallO_eq (P := P) ok sk (S := S) (fun _ _ _ => rfl) d (fext noY i hd) (YieldF.ext (fun _ _ _ => none) i hd') (fext_eq (fun _ _ _ => rfl) i hh)) ok f args h
  rw [hc] at he
  exact calls_step hmix hgood (hcs _ _ YieldSound.none) (fun B' i hd hB hh => hcs B' _ (YieldSound.none.ext hB hh)) he.symm hfn hbody H hargs hfree

/-- What is asked of the end of a call. -/
noncomputable def endsAt (n : Nat) (v : AVal) (objs' : List (Nat × AObj)) (n' : Nat) (r : R1) : Bool :=
  R1.rec false (fun u h1 => avEq u v && Nat.ble n' h1.next && Nat.ble n n' && okL n' h1 objs' && refsIn (under n') v) r

/-- **A call where some objects lie.** -/
theorem inst_call {ok sk d : Nat} {S : LF} {f : FuncId} {args : List AVal} {B n n' : Nat} {objs objs' : List (Nat × AObj)} {vs : List AVal} {vals avals : List Value} {own : Nat → Prop} {v : AVal} {w : World} (hmix : P.follows .mixedOrders = true)
    (hgood : ∀ f, Nat.testBit ok f = true → ∀ fn, P.funcs[f]? = some fn → goodFunc fn = true) (hS : LookSound P (fun f args h => (S f args h).opt)) {fn : Func} (hfn : P.funcs[f]? = some fn) (hbody : fn.body.isSome = true) (hG : P.globals.size ≤ n)
    (hc : endsAt n v objs' n' (fstep ok P (fcallO P ok sk d S noY) (fun i hd => fcallO P ok sk d S (fext noY i hd)) f args (heapL objs n)) = true) (hr : refsAll (under n) vs = true)
    (ha : ∀ σ, okvs σ vs → concs σ vs = vals → okvs σ args ∧ concs σ args = avals) (H : Inst P B objs n vs vals own w) :
    Calls P f avals.toArray w fun e w' => ∃ val own', e = .returned val ∧ Inst P B objs' n' (v :: vs) (val :: vals) own' w' ∧ RowKit.Below B w w' ∧ (∀ k, k < w.heap.size → ¬ own k → w'.heap[k]? = w.heap[k]?) ∧ (∀ k, own' k → own k ∨ w.heap.size ≤ k) := by
  obtain ⟨σ, R, hfree, hv, hcv, ho⟩ := H
  obtain ⟨ha1, ha2⟩ := ha σ hv hcv
  cases hres : fstep ok P (fcallO P ok sk d S noY) (fun i hd => fcallO P ok sk d S (fext noY i hd)) f args (heapL objs n) with
  | fail => rw [hres] at hc; cases hc
  | ok u h1 =>
    rw [hres] at hc
    have hc' : (avEq u v && Nat.ble n' h1.next && Nat.ble n n' && okL n' h1 objs' && refsIn (under n') v) = true := hc
    simp only [Bool.and_eq_true, Nat.ble_eq] at hc'
    obtain ⟨⟨⟨⟨c1, c2⟩, c3⟩, c4⟩, c5⟩ := hc'
    obtain rfl := avEq_sound c1
    have K := calls_look hmix hgood hS hfn hbody hres R ha1 (fun f g h1 _ => hfree f g h1)
    rw [ha2] at K
    refine K.mono fun e w' ⟨σ', e1, e2, Q⟩ => ?_
    have hp : ∀ f g, under n' f g = true → (fun f g => if f < n' then σ' f g else none : Real) f g = σ' f g := fun f g hu => if_pos (under_iff.1 hu)
    obtain ⟨t1, t2⟩ := turn_v hp u c5 e2
    obtain ⟨x1, x2⟩ := ext_vs Q.ext vs hv
    have hr' : refsAll (under n') vs = true := by
      exact refsAll_mono (fun f g hu => under_iff.2 (Nat.lt_of_lt_of_le (under_iff.1 hu) c3)) vs hr
    obtain ⟨y1, y2⟩ := turn_vs hp vs hr' x1
    refine ⟨conc σ' u, fun k => own k ∨ w.heap.size ≤ k, e1, ⟨_, Q.rel.cut (Nat.le_trans hG c3) c4, fun f g hf => if_neg (by omega), ⟨t1, y1⟩, ?_, fun f g b hb => ?_⟩, Q.below R, fun k hk hno => ?_, fun k hk => hk⟩
    · simp only [concs]
      rw [t2, y2, x2, hcv]
    · have hb' : σ' f g = some b := by
        split at hb
        · exact hb
        · cases hb
      cases h0 : σ f g with
      | some b0 =>
        have := Q.ext f g b0 h0
        rw [hb'] at this
        cases this
        exact .inl (ho f g b h0)
      | none =>
        rcases (Q.new f g b hb' h0).2 with ⟨h3, _⟩ | ⟨_, h3 | ⟨_, g0, b0, h4, h5⟩⟩
        · exact .inr h3
        · exact .inr h3
        · rw [← h5]; exact .inl (ho f g0 b0 h4)
    · refine Q.frame k hk fun f g b hb hbk => ?_
      exact absurd (by rw [← hbk]; exact ho f g b hb) hno

/-- The last results are forgotten. -/
theorem Inst.tail {B : Nat} {objs : List (Nat × AObj)} {n : Nat} {v : AVal} {vs : List AVal} {val : Value} {vals : List Value} {own : Nat → Prop} {w : World} (H : Inst P B objs n (v :: vs) (val :: vals) own w) : Inst P B objs n vs vals own w := by
  obtain ⟨σ, R, hf, hv, hc, ho⟩ := H
  simp only [concs, List.cons.injEq] at hc
  exact ⟨σ, R, hf, hv.2, hc.2, ho⟩

/-- A pointer that lies there. -/
theorem Inst.ptr {B : Nat} {objs : List (Nat × AObj)} {n : Nat} {p : APtr} {vs : List AVal} {val : Value} {vals : List Value} {own : Nat → Prop} {w : World} (H : Inst P B objs n (.ptr (some p) :: vs) (val :: vals) own w) : ∃ a, val = .pointer (some a) := by
  obtain ⟨σ, R, hf, hv, hc, ho⟩ := H
  simp only [concs, List.cons.injEq] at hc
  obtain ⟨⟨b, hb, _⟩, _⟩ := hv
  rw [← hc.1]
  exact ⟨b.at p.off, by simp only [conc, hb, Option.map_some]⟩

/-- A value that names no address lies there as it is. -/
theorem Inst.plain {B : Nat} {objs : List (Nat × AObj)} {n : Nat} {v : AVal} {vs : List AVal} {val : Value} {vals : List Value} {own : Nat → Prop} {w : World} (u : Value) (hu : ∀ σ, conc σ v = u) (H : Inst P B objs n (v :: vs) (val :: vals) own w) : val = u := by
  obtain ⟨σ, R, hf, hv, hc, ho⟩ := H
  simp only [concs, List.cons.injEq] at hc
  rw [← hc.1, hu]
end Go.Abs

namespace Go.Abs
variable {P : Program} {B : Base}

/-! ### Calls that are written down, and shown by hand -/

theorem post_same {σ : Real} {h h' : Heap} {w w' : World} (H : Rel P B σ h w) (hb : RowKit.Below w.heap.size w w') (ho : h'.objs = h.objs) (hn : h'.next = h.next) (hl : h'.low ≤ h.low) : Post P B σ h w σ h' w' := by
  obtain ⟨objs, next, low⟩ := h
  obtain ⟨objs', next', low'⟩ := h'
  simp only at ho hn hl
  subst ho hn
  have heap : ∀ f g b, σ f g = some b → w'.heap[b.block]? = w.heap[b.block]? := fun f g b h1 => hb.block _ (H.live f g b h1)
  refine ⟨Real.le_refl σ, ⟨H.deep, H.dom, H.full, Nat.le_trans H.base hb.size, H.glob, fun f g b o h1 h2 => ObjOk.mono (H.obj f g b o h1 h2) (Real.le_refl σ) (heap f g b h1), H.wr, fun f g b h1 => Nat.lt_of_lt_of_le (H.live f g b h1) hb.size, H.apart, H.alike,
    H.ctx.mono (Real.le_refl σ) (fun _ _ _ h1 => h1) (fun f b r h1 _ h3 => (heap f 0 b h1).trans h3)⟩, Nat.le_refl _, fun f g b h1 h2 => ?_, fun k hk _ => hb.block k hk, hb.size, hb.os, hb.tape, hb.output, fun _ _ => rfl, fun _ _ _ => ⟨rfl, fun _ => rfl⟩, hl⟩
  rw [h1] at h2
  cases h2

/-- A slice that is held for known cells. -/
theorem Rel.slice_at {σ : Real} {h : Heap} {w : World} (H : Rel P B σ h w) {f g off n : Nat} {cap : ACap} (hv : okv σ (.slice (some ⟨f, g, off⟩) n cap)) {c : ACells} (ho : h.obj f = some (.cells c)) :
    ∃ (k s cc : Nat), conc σ (.slice (some ⟨f, g, off⟩) n cap) = .slice (some ⟨k, s, none⟩) n cc ∧ (∀ m, cap = .exact m → cc = m) ∧ k < w.heap.size ∧
      ∀ i v, c.start = 0 → c.cellAt (off + i) = some (v, 0) → okv σ v ∧ w.cell? ⟨k, s + i, none⟩ = some (conc σ v) := by
  obtain ⟨b, hb, hs, _⟩ := hv
  have hs' : b.start ≤ off := hs
  obtain ⟨cs, fr, h1, _, _, h4⟩ := (show CellsOk σ w g b c from H.obj f g b _ hb ho).heap
  refine ⟨b.block, b.base + (off - b.start), _, by simp only [conc, hb]; rfl, fun m hm => by subst hm; rfl, H.live _ _ _ hb, fun i v h0 hat => ?_⟩
  obtain ⟨_, q2, _, q4⟩ := h4 (off + i) v 0 hat (by omega) (Nat.zero_le _)
  refine ⟨q2, ?_⟩
  rw [show b.base + (off + i - b.start) = b.base + (off - b.start) + i by omega] at q4
  simp only [World.cell?, h1]
  exact q4

theorem hand_step {f : FuncId} {fn : Func} (hfn : P.funcs[f]? = some fn) (hbody : fn.body.isSome = true) (hname : fn.name ≠ "runtime.NumGoroutine") {args : Array Value} {w : World} {R : Ending → World → Prop} (hc : Calls P f args w R)
    {o : Oper} {a : Act} {K : Act → World → Prop} {Q : Exit → Act → World → Prop} {r : Option Nat} {n : Nat} (hK : ∀ e w', R e w' → ∃ v, e = .returned v ∧ K (a.put o.dst v) w') : o.uponIn (wideR r) n P a K Q ((callFunc f args).run P w) := by
  obtain ⟨c, hb⟩ := Option.isSome_iff_exists.1 hbody
  have hcf : (callFunc f args).run P w = .ok (.enter f args) w := by simp [callFunc, hfn, hname, hb]
  rw [hcf, Oper.uponIn_enter]
  refine ⟨fun hd => (by cases hd), ?_⟩
  have h1 : CallsIn (wideR r) (n - 1) P f args w R := (callsIn_wide (n := n - 1)).2 hc
  refine CallsIn.mono h1 fun e w' he => ?_
  obtain ⟨v, rfl, hk⟩ := hK e w' he
  exact hk

/-- A record of a call that leaves memory as it was, shown by a contract. -/
theorem rec_hand {r : Rec} {fn : Func} (hfn : P.funcs[r.f]? = some fn) (hbody : fn.body.isSome = true) (hname : fn.name ≠ "runtime.NumGoroutine") (hout : r.out = []) (hnext : r.next' = r.next) (hv : ∀ σ, okv σ r.v)
    (hc : ∀ (B : Base) (σ : Real) (h : Heap) (w : World), Rel P B σ h w → (∀ x ∈ r.objs, h.obj x.1 = some x.2) → okvs σ r.args → Calls P r.f (concs σ r.args).toArray w fun e w' => e = .returned (conc σ r.v) ∧ RowKit.Below w.heap.size w w') : RecSound P r := by
  intro B f args h v h' σ w o a K Q rd n hres H hargs hfree hK
  simp only [] at hres
  cases hff : Nat.beq r.f f with
  | false => rw [hff] at hres; cases hres
  | true =>
    rw [hff] at hres
    obtain rfl : r.f = f := Nat.eq_of_beq_eq_true hff
    obtain ⟨hn, rfl, hin, rfl, rfl⟩ := run_some hres
    refine hand_step hfn hbody hname (hc B σ h w H (fun x hx => lies_iff (hin x hx)) hargs) ?_
    rintro e w' ⟨rfl, hb⟩
    refine ⟨_, rfl, hK σ w' (hv σ) (post_same H hb (by rw [hout]; rfl) (by rw [hnext]; exact hn.symm) ?_)⟩
    show (Bool.rec h.low r.low (Nat.ble r.low h.low) : Nat) ≤ h.low
    cases e : Nat.ble r.low h.low with
    | false => exact Nat.le_refl _
    | true => exact Nat.le_of_ble_eq_true e
end Go.Abs
