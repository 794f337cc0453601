/- An evaluator of Go code over an abstract memory, and the proof that each of its runs is a run of the model, whatever the tape. It holds for each program, without conditions. -/
import Derived.Test.YtiglllddgikeiabGreatDoorAbsR
import Derived.Test.YtiglllddgikeiabGreatDoorAbsD
import Derived.LaidLaws
namespace Go.Abs
variable {P : Program}

/-! ### What lies in a world, told apart from how it came there -/

/-- The memory that holds some objects alone. -/
noncomputable def heapL (objs : List (Nat × AObj)) (n : Nat) : Heap := ⟨putAll L4.leaf objs, n, n⟩
def under (n f _g : Nat) : Bool := Nat.blt f n
noncomputable def okL (n : Nat) (h : Heap) (objs : List (Nat × AObj)) : Bool := objs.all fun x => Nat.blt x.1 n && Nat.blt x.1 65536 && objRefs (under n) x.2 && lies h x

theorem okL_mem {n : Nat} {h : Heap} {objs : List (Nat × AObj)} (hl : okL n h objs = true) : ∀ x ∈ objs, x.1 < n ∧ x.1 < 65536 ∧ objRefs (under n) x.2 = true ∧ h.obj x.1 = some x.2 := by
  intro x hx
  have := List.all_eq_true.1 hl x hx
  simp only [Bool.and_eq_true, Nat.blt_eq] at this
  obtain ⟨⟨⟨h1, h2⟩, h3⟩, h4⟩ := this
  exact ⟨h1, h2, h3, lies_iff h4⟩

theorem under_iff {n f g : Nat} : under n f g = true ↔ f < n := by unfold under; rw [Nat.blt_eq]

theorem heapL_obj {objs : List (Nat × AObj)} {n : Nat} (hl : ∀ x ∈ objs, x.1 < 65536) (f : Nat) : (heapL objs n).obj f = findO objs f := by
  have := putAll_get L4.leaf objs hl f
  unfold Heap.obj heapL
  rw [this]
  cases findO objs f with
  | some o => rfl
  | none => exact L4.getL_leaf f

/-- Less is known: some objects alone, and the families below n. -/
theorem Rel.cut {B : Base} {σ : Real} {h : Heap} {w : World} (H : Rel P B σ h w) {n : Nat} {objs : List (Nat × AObj)} (hG : P.globals.size ≤ n) (hl : okL n h objs = true) :
    Rel P (.plain B.n) (fun f g => if f < n then σ f g else none) (heapL objs n) w := by
  have hm := okL_mem hl
  have hob := heapL_obj (n := n) fun x hx => (hm x hx).2.1
  have s0 : ∀ f g b, (if f < n then σ f g else none) = some b → σ f g = some b ∧ f < n := by
    intro f g b hb
    split at hb
    · rename_i hlt; exact ⟨hb, hlt⟩
    · cases hb
  have s1 : ∀ f g, under n f g = true → (fun f g => if f < n then σ f g else none : Real) f g = σ f g := by
    intro f g hu
    exact if_pos (under_iff.1 hu)
  have hk : ∀ f o, (heapL objs n).obj f = some o → h.obj f = some o ∧ f < n ∧ objRefs (under n) o = true := by
    intro f o hf
    rw [hob] at hf
    obtain ⟨h1, _, h3, h4⟩ := hm _ (findO_mem hf)
    exact ⟨h4, h1, h3⟩
  have hw : ∀ f, (heapL objs n).writable f = true → h.writable f = true := by
    intro f hf
    unfold Heap.writable at hf ⊢
    cases e : (heapL objs n).obj f with
    | none => rw [e] at hf; cases hf
    | some o => rw [e] at hf; rw [(hk f o e).1]; exact hf
  refine ⟨deep8 _, fun f hf => ?_, fun f c hc => H.full f c (hk f _ hc).1, H.base, fun g hg => ?_, fun f g b o hb hx => ?_, fun f g b hb hx => H.wr f g b (s0 _ _ _ hb).1 (hw f hx), fun f g b hb => H.live f g b (s0 _ _ _ hb).1,
    fun f g b f' g' b' hb hb' hne hx => H.apart f g b f' g' b' (s0 _ _ _ hb).1 (s0 _ _ _ hb').1 hne (hw f hx), fun f g b g' b' hb hb' hbk => H.alike f g b g' b' (s0 _ _ _ hb).1 (s0 _ _ _ hb').1 hbk, Ctx.plain⟩
  · cases e : (heapL objs n).obj f with
    | none => rfl
    | some o =>
      have := (hk f o e).2.1
      have hf' : n ≤ f := hf
      omega
  · obtain ⟨b, hb, hb2⟩ := H.glob g hg
    exact ⟨b, (if_pos (show g < n by omega)).trans hb, hb2⟩
  · obtain ⟨k1, _, k3⟩ := hk f o hx
    exact (H.obj f g b o (s0 _ _ _ hb).1 k1).turn s1 k3

mutual
theorem refsIn_mono {p q : Nat → Nat → Bool} (h : ∀ f g, p f g = true → q f g = true) : ∀ v, refsIn p v = true → refsIn q v = true
  | .bool _, _ => rfl
  | .int _ _, _ => rfl
  | .str _, _ => rfl
  | .ptr none, _ => rfl
  | .ptr (some _), hp => by simp only [refsIn] at hp ⊢; exact h _ _ hp
  | .slice none _ _, _ => rfl
  | .slice (some _) _ _, hp => by simp only [refsIn] at hp ⊢; exact h _ _ hp
  | .zslice _ _ _, hp => by simp only [refsIn] at hp ⊢; exact h _ _ hp
  | .map none, _ => rfl
  | .map (some _), hp => by simp only [refsIn] at hp ⊢; exact h _ _ hp
  | .func fn first cap, hp => by
    simp only [refsIn, Bool.and_eq_true] at hp ⊢
    exact ⟨⟨hp.1.1, refsAll_mono h first hp.1.2⟩, refsAll_mono h cap hp.2⟩
  | .nilFunc, _ => rfl
  | .iface _ v, hp => by simp only [refsIn] at hp ⊢; exact refsIn_mono h v hp
  | .nilIface, _ => rfl
  | .agg cs, hp => by simp only [refsIn] at hp ⊢; exact refsAll_mono h cs hp
  | .tuple cs, hp => by simp only [refsIn] at hp ⊢; exact refsAll_mono h cs hp
theorem refsAll_mono {p q : Nat → Nat → Bool} (h : ∀ f g, p f g = true → q f g = true) : ∀ l, refsAll p l = true → refsAll q l = true
  | [], _ => rfl
  | v :: vs, hp => by
    simp only [refsAll, Bool.and_eq_true] at hp ⊢
    exact ⟨refsIn_mono h v hp.1, refsAll_mono h vs hp.2⟩
end

/-- The objects lie in the world, in blocks of 'own'; the values are those of the abstract ones. -/
def Inst (P : Program) (B : Nat) (objs : List (Nat × AObj)) (n : Nat) (vs : List AVal) (vals : List Value) (own : Nat → Prop) (w : World) : Prop :=
  ∃ σ : Real, Rel P (.plain B) σ (heapL objs n) w ∧ (∀ f g, n ≤ f → σ f g = none) ∧ okvs σ vs ∧ concs σ vs = vals ∧ ∀ f g b, σ f g = some b → own b.block

/-- What lies there lies there still, where its blocks are as they were. -/
theorem Inst.stay {B : Nat} {objs : List (Nat × AObj)} {n : Nat} {vs : List AVal} {vals : List Value} {own : Nat → Prop} {w w' : World} (H : Inst P B objs n vs vals own w)
    (hb : ∀ k, own k → k < w.heap.size → w'.heap[k]? = w.heap[k]?) (hs : w.heap.size ≤ w'.heap.size) : Inst P B objs n vs vals own w' := by
  obtain ⟨σ, R, hf, hv, hc, ho⟩ := H
  have heap : ∀ f g b, σ f g = some b → w'.heap[b.block]? = w.heap[b.block]? := fun f g b h1 => hb _ (ho f g b h1) (R.live f g b h1)
  exact ⟨σ, ⟨R.deep, R.dom, R.full, Nat.le_trans R.base hs, R.glob, fun f g b o h1 h2 => ObjOk.mono (R.obj f g b o h1 h2) (Real.le_refl σ) (heap f g b h1), R.wr, fun f g b h1 => Nat.lt_of_lt_of_le (R.live f g b h1) hs, R.apart, R.alike, Ctx.plain⟩, hf, hv, hc, ho⟩

theorem Inst.more {B : Nat} {objs : List (Nat × AObj)} {n : Nat} {vs : List AVal} {vals : List Value} {own own' : Nat → Prop} {w : World} (H : Inst P B objs n vs vals own w) (h : ∀ k, own k → own' k) : Inst P B objs n vs vals own' w := by
  obtain ⟨σ, R, hf, hv, hc, ho⟩ := H
  exact ⟨σ, R, hf, hv, hc, fun f g b hb => h _ (ho f g b hb)⟩

/-- The tables, as objects. -/
noncomputable def tabObjs (ts : List Tab) : List (Nat × AObj) := ts.map fun t => (t.at', .cells t.cells)
theorem putAll_tabs : ∀ ts : List Tab, putAll L4.leaf (tabObjs ts) = startObjs ts
  | [] => rfl
  | t :: ts => by
    show (putAll L4.leaf (tabObjs ts)).setL t.at' (.cells t.cells) = _
    rw [putAll_tabs ts]
    rfl

theorem inst_start {W : World} {ts : List Tab} (hsz : P.globals.size ≤ W.heap.size)
    (ht : ∀ t ∈ ts, t.at' < P.globals.size ∧ 0 < t.es ∧ t.vs.length % t.es = 0 ∧ okvs (fun _ _ => none) t.vs ∧ t.vs.all AVal.scalar = true ∧ W.heap[t.at']? = some (.cells (concs (fun _ _ => none) t.vs).toArray t.ety (0, 0))) :
    Inst P W.heap.size (tabObjs ts) P.globals.size [] [] (· < P.globals.size) W := by
  have H := start_rel hsz ht
  refine ⟨startAt P.globals.size ts, ?_, fun f g h => ?_, trivial, rfl, fun f g b hb => ?_⟩
  · have : heapL (tabObjs ts) P.globals.size = start P.globals.size ts := by
      unfold heapL start
      rw [putAll_tabs]
    rw [this]
    exact H
  · unfold startAt
    rw [if_neg]
    rintro ⟨_, h2⟩
    omega
  · unfold startAt at hb
    split at hb
    · rename_i hc
      have e := (Option.some.inj hb).symm
      rw [e]
      cases (start P.globals.size ts).fam f <;> exact hc.2
    · cases hb

/-- A call of the evaluator that looks calls up, and the model's. -/
theorem calls_look {B : Base} {ok sk d : Nat} {S : LF} {f : FuncId} {args : List AVal} {h h' : Heap} {v : AVal} {σ : Real} {w : World} (hmix : P.follows .mixedOrders = true)
    (hgood : ∀ f, Nat.testBit ok f = true → ∀ fn, P.funcs[f]? = some fn → goodFunc fn = true) (hS : LookSound P (fun f args h => (S f args h).opt)) {fn : Func} (hfn : P.funcs[f]? = some fn) (hbody : fn.body.isSome = true)
    (hc : fstep ok P (fcallO P ok sk d S noY) (fun i hd => fcallO P ok sk d S (fext noY i hd)) f args h = .ok v h') (H : Rel P B σ h w) (hargs : okvs σ args) (hfree : Free σ h.next h'.next) :
    Calls P f (concs σ args).toArray w fun e w' => ∃ σ', e = .returned (conc σ' v) ∧ okv σ' v ∧ Post P B σ h w σ' h' w' := by
  have hcs := callO_sound (P := P) (ok := ok) (sk := sk) hS hgood (fun _ _ hcf => draw_sound hmix hcf) d
  have he := fstep_eq (P := P) (fcallO_eq (P := P) ok sk (S := S) (fun _ _ _ => rfl) d noY (fun _ _ _ => none) (fun _ _ _ => rfl)) (fun i hd hd' hh => fcallO_eq (P := P) ok sk (S := S) (fun _ _ _ => rfl) d (fext noY i hd) (YieldF.ext (fun _ _ _ => none) i hd') (fext_eq (fun _ _ _ => rfl) i hh)) ok f args h
  rw [hc] at he
  exact calls_step hmix hgood (hcs _ _ YieldSound.none) (fun B' i hd hB hh => hcs B' _ (YieldSound.none.ext hB hh)) he.symm hfn hbody H hargs hfree

/-- What is asked of the end of a call. -/
noncomputable def endsAt (n : Nat) (v : AVal) (objs' : List (Nat × AObj)) (n' : Nat) (r : R1) : Bool :=
  R1.rec false (fun u h1 => avEq u v && Nat.ble n' h1.next && Nat.ble n n' && okL n' h1 objs' && refsIn (under n') v) r

/-- **A call where some objects lie.** -/
theorem inst_call {ok sk d : Nat} {S : LF} {f : FuncId} {args : List AVal} {B n n' : Nat} {objs objs' : List (Nat × AObj)} {vs : List AVal} {vals avals : List Value} {own : Nat → Prop} {v : AVal} {w : World} (hmix : P.follows .mixedOrders = true)
    (hgood : ∀ f, Nat.testBit ok f = true → ∀ fn, P.funcs[f]? = some fn → goodFunc fn = true) (hS : LookSound P (fun f args h => (S f args h).opt)) {fn : Func} (hfn : P.funcs[f]? = some fn) (hbody : fn.body.isSome = true) (hG : P.globals.size ≤ n)
    (hc : endsAt n v objs' n' (fstep ok P (fcallO P ok sk d S noY) (fun i hd => fcallO P ok sk d S (fext noY i hd)) f args (heapL objs n)) = true) (hr : refsAll (under n) vs = true)
    (ha : ∀ σ, okvs σ vs → concs σ vs = vals → okvs σ args ∧ concs σ args = avals) (H : Inst P B objs n vs vals own w) :
    Calls P f avals.toArray w fun e w' => ∃ val own', e = .returned val ∧ Inst P B objs' n' (v :: vs) (val :: vals) own' w' ∧ RowKit.Below B w w' ∧ (∀ k, k < w.heap.size → ¬ own k → w'.heap[k]? = w.heap[k]?) ∧ (∀ k, own' k → own k ∨ w.heap.size ≤ k) := by
  obtain ⟨σ, R, hfree, hv, hcv, ho⟩ := H
  obtain ⟨ha1, ha2⟩ := ha σ hv hcv
  cases hres : fstep ok P (fcallO P ok sk d S noY) (fun i hd => fcallO P ok sk d S (fext noY i hd)) f args (heapL objs n) with
  | fail => rw [hres] at hc; cases hc
  | ok u h1 =>
    rw [hres] at hc
    have hc' : (avEq u v && Nat.ble n' h1.next && Nat.ble n n' && okL n' h1 objs' && refsIn (under n') v) = true := hc
    simp only [Bool.and_eq_true, Nat.ble_eq] at hc'
    obtain ⟨⟨⟨⟨c1, c2⟩, c3⟩, c4⟩, c5⟩ := hc'
    obtain rfl := avEq_sound c1
    have K := calls_look hmix hgood hS hfn hbody hres R ha1 (fun f g h1 _ => hfree f g h1)
    rw [ha2] at K
    refine K.mono fun e w' ⟨σ', e1, e2, Q⟩ => ?_
    have hp : ∀ f g, under n' f g = true → (fun f g => if f < n' then σ' f g else none : Real) f g = σ' f g := fun f g hu => if_pos (under_iff.1 hu)
    obtain ⟨t1, t2⟩ := turn_v hp u c5 e2
    obtain ⟨x1, x2⟩ := ext_vs Q.ext vs hv
    have hr' : refsAll (under n') vs = true := by
      exact refsAll_mono (fun f g hu => under_iff.2 (Nat.lt_of_lt_of_le (under_iff.1 hu) c3)) vs hr
    obtain ⟨y1, y2⟩ := turn_vs hp vs hr' x1
    refine ⟨conc σ' u, fun k => own k ∨ w.heap.size ≤ k, e1, ⟨_, Q.rel.cut (Nat.le_trans hG c3) c4, fun f g hf => if_neg (by omega), ⟨t1, y1⟩, ?_, fun f g b hb => ?_⟩, Q.below R, fun k hk hno => ?_, fun k hk => hk⟩
    · simp only [concs]
      rw [t2, y2, x2, hcv]
    · have hb' : σ' f g = some b := by
        split at hb
        · exact hb
        · cases hb
      cases h0 : σ f g with
      | some b0 =>
        have := Q.ext f g b0 h0
        rw [hb'] at this
        cases this
        exact .inl (ho f g b h0)
      | none =>
        rcases (Q.new f g b hb' h0).2 with ⟨h3, _⟩ | ⟨_, h3 | ⟨_, g0, b0, h4, h5⟩⟩
        · exact .inr h3
        · exact .inr h3
        · rw [← h5]; exact .inl (ho f g0 b0 h4)
    · refine Q.frame k hk fun f g b hb hbk => ?_
      exact absurd (by rw [← hbk]; exact ho f g b hb) hno

/-- The last results are forgotten. -/
theorem Inst.tail {B : Nat} {objs : List (Nat × AObj)} {n : Nat} {v : AVal} {vs : List AVal} {val : Value} {vals : List Value} {own : Nat → Prop} {w : World} (H : Inst P B objs n (v :: vs) (val :: vals) own w) : Inst P B objs n vs vals own w := by
  obtain ⟨σ, R, hf, hv, hc, ho⟩ := H
  simp only [concs, List.cons.injEq] at hc
  exact ⟨σ, R, hf, hv.2, hc.2, ho⟩

/-- A pointer that lies there. -/
theorem Inst.ptr {B : Nat} {objs : List (Nat × AObj)} {n : Nat} {p : APtr} {vs : List AVal} {val : Value} {vals : List Value} {own : Nat → Prop} {w : World} (H : Inst P B objs n (.ptr (some p) :: vs) (val :: vals) own w) : ∃ a, val = .pointer (some a) := by
  obtain ⟨σ, R, hf, hv, hc, ho⟩ := H
  simp only [concs, List.cons.injEq] at hc
  obtain ⟨⟨b, hb, _⟩, _⟩ := hv
  rw [← hc.1]
  exact ⟨b.at p.off, by simp only [conc, hb, Option.map_some]⟩

/-- A value that names no address lies there as it is. -/
theorem Inst.plain {B : Nat} {objs : List (Nat × AObj)} {n : Nat} {v : AVal} {vs : List AVal} {val : Value} {vals : List Value} {own : Nat → Prop} {w : World} (u : Value) (hu : ∀ σ, conc σ v = u) (H : Inst P B objs n (v :: vs) (val :: vals) own w) : val = u := by
  obtain ⟨σ, R, hf, hv, hc, ho⟩ := H
  simp only [concs, List.cons.injEq] at hc
  rw [← hc.1, hu]
end Go.Abs

namespace Go.Abs
variable {P : Program}
/-- The package-level variables, and the addresses of old memory that are taken along. -/
noncomputable def both (n : Nat) (ts : List Tab) (gs : Real) : Real := fun f g => if f < n then startAt n ts f g else gs f g

theorem both_le {n : Nat} {ts : List Tab} {gs : Real} (hg : ∀ f g b, gs f g = some b → n ≤ f) : gs.le (both n ts gs) := by
  intro f g b h
  unfold both
  rw [if_neg (by have := hg f g b h; omega)]
  exact h

/-- As 'start_rel', with addresses of old memory that the tables bear. -/
theorem start_rel2 {W : World} {ts : List Tab} {gs : Real} {n' : Nat} (hsz : P.globals.size ≤ W.heap.size) (hn : P.globals.size ≤ n') (hg : ∀ f g b, gs f g = some b → P.globals.size ≤ f ∧ f < n' ∧ g = 0 ∧ b.block < W.heap.size)
    (ht : ∀ t ∈ ts, t.at' < P.globals.size ∧ 0 < t.es ∧ t.vs.length % t.es = 0 ∧ okvs gs t.vs ∧ t.vs.all AVal.scalar = true ∧ W.heap[t.at']? = some (.cells (concs gs t.vs).toArray t.ety (0, 0))) :
    Rel P (.plain W.heap.size) (both P.globals.size ts gs) (start n' ts) W := by
  have hget : ∀ f o, (start n' ts).obj f = some o → ∃ t ∈ ts, f = t.at' ∧ o = .cells t.cells := startObjs_get ts
  have hnw : ∀ f, (start n' ts).writable f = false := by
    intro f
    unfold Heap.writable
    cases h : (start n' ts).obj f with
    | none => rfl
    | some o => obtain ⟨t, _, _, rfl⟩ := hget f o h; rfl
  have hlt : ∀ f g b, f < P.globals.size → both P.globals.size ts gs f g = some b → g = 0 ∧ b = (match (start P.globals.size ts).fam f with | some c => ⟨f, 0, 0, c.size, c.es⟩ | none => ⟨f, 0, 0, 0, 1⟩) := by
    intro f g b hf h
    unfold both at h
    rw [if_pos hf] at h
    unfold startAt at h
    split at h
    · rename_i hc; exact ⟨hc.1, (Option.some.inj h).symm⟩
    · cases h
  have hge : ∀ f g b, ¬ f < P.globals.size → both P.globals.size ts gs f g = some b → gs f g = some b := by
    intro f g b hf h
    unfold both at h
    rwa [if_neg hf] at h
  have hle : gs.le (both P.globals.size ts gs) := both_le fun f g b h => (hg f g b h).1
  refine ⟨startObjs_deep ts, fun f hf => ?_, fun f c hc => ?_, Nat.le_refl _, fun g hgl => ?_, fun f g b o hb ho => ?_, fun f g b _ hw => ?_, fun f g b hb => ?_, fun f g b f' g' b' _ _ _ hw => ?_, fun f g b g' b' hb hb' _ => ?_, Ctx.plain⟩
  · cases h : (start n' ts).obj f with
    | none => rfl
    | some o =>
      obtain ⟨t, h1, rfl, _⟩ := hget f o h
      have := (ht t h1).1
      have hf' : n' ≤ t.at' := hf
      omega
  · obtain ⟨t, h1, _, e⟩ := hget f _ hc
    cases e
    obtain ⟨_, k1, k2, _⟩ := ht t h1
    exact cwf_made t.es t.vs k1 k2 _ rfl (Nat.le_refl _) rfl
  · refine ⟨_, by unfold both; rw [if_pos hgl]; unfold startAt; rw [if_pos ⟨rfl, hgl⟩], ?_⟩
    cases (start P.globals.size ts).fam g <;> exact ⟨rfl, rfl, rfl⟩
  · obtain ⟨t, h1, rfl, rfl⟩ := hget f o ho
    obtain ⟨k0, k1, k2, k3, k4, k5⟩ := ht t h1
    obtain ⟨rfl, hbe⟩ := hlt _ _ _ k0 hb
    have hfam : (start P.globals.size ts).fam t.at' = some t.cells := by
      unfold Heap.fam
      have : (start P.globals.size ts).objs.getL t.at' = some (.cells t.cells) := ho
      rw [this]
    rw [hfam] at hbe
    subst hbe
    refine ⟨Nat.le_refl _, rfl, Nat.zero_le _, fun _ => Nat.le_refl _, fun _ => ⟨rfl, rfl, rfl, rfl⟩, _, _, k5, by simp [Tab.cells, ACells.made, concs_length], fun e => Bool.noConfusion e, fun i v lo hv _ _ => ?_⟩
    obtain ⟨q1, q2⟩ := cellAt_made t.es t.vs k1 k2 t.cells rfl rfl hv
    have hi := (List.getElem?_eq_some_iff.1 q2).1
    have hmem : v ∈ t.vs := List.mem_iff_getElem?.2 ⟨_, q2⟩
    obtain ⟨e1, e2⟩ := ext_v hle v (okvs_iff.1 k3 v hmem)
    refine ⟨hi, e1, List.all_eq_true.1 k4 v hmem, ?_⟩
    rw [e2]
    simp [concs_eq, q2]
  · rw [hnw f] at hw; cases hw
  · by_cases hf : f < P.globals.size
    · obtain ⟨_, rfl⟩ := hlt f g b hf hb
      cases (start P.globals.size ts).fam f <;> exact Nat.lt_of_lt_of_le hf hsz
    · exact (hg f g b (hge f g b hf hb)).2.2.2
  · rw [hnw f] at hw; cases hw
  · by_cases hf : f < P.globals.size
    · obtain ⟨rfl, _⟩ := hlt f g b hf hb
      obtain ⟨rfl, _⟩ := hlt f g' b' hf hb'
      rw [hb] at hb'
      exact (Option.some.inj hb').symm
    · obtain rfl := (hg f g b (hge f g b hf hb)).2.2.1
      obtain rfl := (hg f g' b' (hge f g' b' hf hb')).2.2.1
      rw [hb] at hb'
      exact (Option.some.inj hb').symm

/-- As 'calls_recs'. -/
theorem calls_recs2 {ok sk d : Nat} {S : LF} {f : FuncId} {args : List AVal} {ts : List Tab} {gs : Real} {n' : Nat} {v : AVal} {W : World} (hmix : P.follows .mixedOrders = true)
    (hgood : ∀ f, Nat.testBit ok f = true → ∀ fn, P.funcs[f]? = some fn → goodFunc fn = true) (hS : LookSound P (fun f args h => (S f args h).opt)) {fn : Func} (hfn : P.funcs[f]? = some fn) (hbody : fn.body.isSome = true) (hsz : P.globals.size ≤ W.heap.size)
    (hn : P.globals.size ≤ n') (hg : ∀ f g b, gs f g = some b → P.globals.size ≤ f ∧ f < n' ∧ g = 0 ∧ b.block < W.heap.size)
    (ht : ∀ t ∈ ts, t.at' < P.globals.size ∧ 0 < t.es ∧ t.vs.length % t.es = 0 ∧ okvs gs t.vs ∧ t.vs.all AVal.scalar = true ∧ W.heap[t.at']? = some (.cells (concs gs t.vs).toArray t.ety (0, 0)))
    (hargs : okvs (both P.globals.size ts gs) args) (hc : (fstep ok P (fcallO P ok sk d S noY) (fun i hd => fcallO P ok sk d S (fext noY i hd)) f args (start n' ts)).val = some v) :
    Calls P f (concs (both P.globals.size ts gs) args).toArray W fun e W' => ∃ σ', e = .returned (conc σ' v) ∧ okv σ' v ∧ RowKit.Below W.heap.size W W' := by
  have H := start_rel2 hsz hn hg ht
  have hcs := callO_sound (P := P) (ok := ok) (sk := sk) hS hgood (fun _ _ hcf => draw_sound hmix hcf) d
  have he := fstep_eq (P := P) (fcallO_eq (P := P) ok sk (S := S) (fun _ _ _ => rfl) d noY (fun _ _ _ => none) (fun _ _ _ => rfl)) (fun i hd hd' hh => fcallO_eq (P := P) ok sk (S := S) (fun _ _ _ => rfl) d (fext noY i hd) (YieldF.ext (fun _ _ _ => none) i hd') (fext_eq (fun _ _ _ => rfl) i hh)) ok f args (start n' ts)
  rw [val_opt, he] at hc
  obtain ⟨⟨v', h'⟩, hr, hv⟩ := Option.map_eq_some_iff.1 hc
  cases hv
  have hfree : Free (both P.globals.size ts gs) (start n' ts).next h'.next := by
    intro f g h1 _
    have h1' : n' ≤ f := h1
    unfold both
    rw [if_neg (by omega)]
    cases e : gs f g with
    | none => rfl
    | some b => have := (hg f g b e).2.1; omega
  exact (calls_step hmix hgood (hcs _ _ YieldSound.none) (fun B' i hd hB hh => hcs B' _ (YieldSound.none.ext hB hh)) hr hfn hbody H hargs hfree).mono fun e W' ⟨σ', h1, h2, h3⟩ => ⟨σ', h1, h2, h3.below H⟩
end Go.Abs

namespace Go.Abs
variable {P : Program}
theorem laid_get2 {W : World} : ∀ {laid : List (String × DataW Unit)} {ps : List MemPlace}, DataW.LaidVars P W laid ps → ∀ x ∈ laid, ∃ g t cs fuel p, P.globalNamed x.1 = some g ∧ (P.globals[g]?).map (·.type) = some t ∧ W.var? P x.1 = some cs ∧
    DataW.trod (fun _ => ()) P W 0 (fun _ => true) false fuel t cs.toList = some (x.2, p) ∧ ∀ m ∈ MemPlace.row ⟨g, 0, none⟩ cs.size, m ∈ ps
  | [], _, _, x, hx => by cases hx
  | (n, d) :: r, ps, h, x, hx => by
    obtain ⟨g, t, cs, fuel, p, q, h1, h2, h3, h4, h5, rfl⟩ := h
    rcases List.mem_cons.1 hx with rfl | hx
    · exact ⟨g, t, cs, fuel, p, h1, h2, h3, h4, fun m hm => by simp [hm]⟩
    · obtain ⟨g', t', cs', fuel', p', k1, k2, k3, k4, k5⟩ := laid_get2 h5 x hx
      exact ⟨g', t', cs', fuel', p', k1, k2, k3, k4, fun m hm => by simp [k5 m hm]⟩

/-- A listed error of 'errors.New': where it lies. -/
theorem sent_met {W : World} {laid : List (String × DataW Unit)} (hW : W.ShapedOpen P) (hL : laidMet P laid W) {name nm : String} {text : List UInt8} (hx : (name, DataW.iface nm (.ptr (.agg [.lit (.string text)]))) ∈ laid)
    {g : Nat} {ti tp te ts ety : TypeId} {ms : Array (String × TypeId)} {f : Field} (named : P.globalNamed name = some g) (lt : g < P.globals.size) (type : (P.globals[g]?).map (·.type) = some ti)
    (made : ∃ zero, ((begin P (fun _ _ => 0) default).world.heap[g]?).bind Obj.row? = some (zero, ety)) (hi : P.underlying ti = some (.interface ms)) (hrow : ∀ u, P.typeName? 3 u = some nm → u = tp)
    (hp : P.underlying tp = some (.pointer te)) (he : P.underlying te = some (.struct #[f])) (hft : f.type = ts) (hfo : f.offset = 0) (hs : P.underlying ts = some .string) (hc : P.cellsOf te = 1) (hcs : P.cellsOf ts = 1) :
    ∃ k o, k < W.heap.size ∧ W.heap[g]? = some (.cells #[.iface tp (.pointer (some ⟨k, o, none⟩))] ety (0, 0)) := by
  obtain ⟨ps, hv, _, hq⟩ := hL
  obtain ⟨g', ti', cs, fuel, p, h1, h2, h3, h4, h5⟩ := laid_get2 hv _ hx
  obtain rfl : g' = g := Option.some.inj (h1.symm.trans named)
  obtain rfl : ti' = ti := Option.some.inj (h2.symm.trans type)
  obtain ⟨zero, hz⟩ := made
  obtain ⟨cs', c1, _, _⟩ := hW.1 g' zero ety lt hz
  have hcs' : cs' = cs := by
    unfold World.var? at h3
    rw [named] at h3
    simp only [Option.bind_some, c1] at h3
    exact Option.some.inj h3
  subst hcs'
  obtain ⟨a, s, e1, e2, _⟩ := errorString_of_trod hi hrow hp he hft hfo hs hc hcs h4 fun u v huv => by
    have hsz : cs'.size = 1 := by have := congrArg List.length huv; simpa using this
    have hm : MemPlace.cell g' 0 ∈ ps := h5 _ (by rw [hsz]; simp [MemPlace.row])
    refine (hq g' 0 hm).2 u v ?_
    have h0 : cs'[0]? = some (.iface u v) := by rw [← Array.getElem?_toList, huv]; rfl
    unfold World.cell?
    simp [c1, h0]
  have hcell := e2
  unfold World.cell? at hcell
  obtain ⟨k, o, spot⟩ := a
  cases spot with
  | some x =>
    split at hcell
    · simp at hcell
    · cases hcell
  | none =>
    refine ⟨k, o, ?_, ?_⟩
    · rcases Nat.lt_or_ge k W.heap.size with h | h
      · exact h
      · simp [World.cell?, Array.getElem?_eq_none h] at e2
    · rw [c1]
      congr 2
      exact Array.toList_inj.1 (by simpa using e1)
end Go.Abs
