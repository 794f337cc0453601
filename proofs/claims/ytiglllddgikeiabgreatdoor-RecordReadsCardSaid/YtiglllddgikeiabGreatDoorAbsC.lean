/- An evaluator of Go code over an abstract memory, and the proof that each of its runs is a run of the model, whatever the tape. It holds for each program, without conditions. -/
import Derived.Test.YtiglllddgikeiabGreatDoorAbsB
import Derived.Tactics
import Derived.RangeFuncLeaves
import Derived.RangeFuncIn
import Derived.Test.YtiglllddgikeiabGreatDoorAbsA
import Derived.RangeFuncCalls
import Derived.Orders
namespace Go.Abs
variable {P : Program} {B : Base} {callF : CallF} {rd : Option Nat} {nn : Nat}

/-- Where a piece of code has arrived. -/
def End (P : Program) (B : Base) (σ : Real) (h : Heap) (w : World) (a : Act) (T' : Env) (h' : Heap) (a' : Act) (w' : World) : Prop :=
  ∃ σ', Post P B σ h w σ' h' w' ∧ EnvOk σ' T' a'.tmps ∧ a'.tmps.size = a.tmps.size ∧ a'.defers = a.defers

theorem Free.sub {σ : Real} {a b c d : Nat} (hf : Free σ a d) (h1 : a ≤ b) (h2 : c ≤ d) : Free σ b c := fun f g l1 l2 => hf f g (Nat.le_trans h1 l1) (Nat.lt_of_lt_of_le l2 h2)

/-- What lies ahead is free behind a step too. -/
theorem Free.step {σ σ' : Real} {h h' : Heap} {w w' : World} {n : Nat} (hf : Free σ h.next n) (hp : Post P B σ h w σ' h' w') : Free σ' h'.next n := by
  intro f g h1 h2
  cases hs : σ' f g with
  | none => rfl
  | some b =>
    have h0 := hf f g (Nat.le_trans hp.next h1) h2
    have := (hp.new f g b hs h0).1
    omega

theorem End.trans {σ0 : Real} {h0 : Heap} {w0 : World} {a0 : Act} {h1 : Heap} {a1 : Act} {w1 : World} {T2 : Env} {h2 : Heap} {a2 : Act} {w2 : World} {σ1 : Real}
    (hf : Free σ0 h0.next h2.next) (hp : Post P B σ0 h0 w0 σ1 h1 w1) (hs : a1.tmps.size = a0.tmps.size) (hd : a1.defers = a0.defers) (hq : End P B σ1 h1 w1 a1 T2 h2 a2 w2) : End P B σ0 h0 w0 a0 T2 h2 a2 w2 := by
  obtain ⟨σ2, q1, q2, q3, q4⟩ := hq
  exact ⟨σ2, Post.trans hf hp q1, q2, q3.trans hs, q4.trans hd⟩

theorem reads_of {σ : Real} {T : Env} {a : Act} (hg : GlobOk P σ) (hT : EnvOk σ T a.tmps) (x : Operand) : Reads P σ T a x := fun _ hv => eval_sound hg hT hv

theorem dst_lt {n : Nat} {o : Oper} (h : dstOk n o = true) : ∀ d, o.dst = some d → d < n := by
  intro d hd
  unfold dstOk at h
  rw [hd] at h
  simp only [Nat.blt_eq] at h
  exact h

/-- Whether a guard lets an operation run. -/
theorem wanted_on {σ : Real} {T : Env} {a : Act} {all : Array Oper} {o : Oper} {b : Bool} (hw : wanted all T o = some b)
    (hT : ∀ g want d, o.guard = some (g, want) → (all[g]?).bind (·.dst) = some d → ∀ v, T.get d = some v → okv σ v ∧ a.tmps.getD d undef = conc σ v) :
    Region.wanted o (yielded all a.tmps) = b := by
  unfold wanted at hw
  unfold Region.wanted
  split at hw
  · rename_i hgd; rw [hgd]; cases hw; rfl
  · rename_i j want hgd
    rw [hgd]
    simp only []
    split at hw
    · cases hw
    · rename_i d hd
      unfold yielded
      rw [hd]
      simp only [Option.bind_some]
      split at hw
      · rename_i b' hb
        cases hw
        obtain ⟨_, e⟩ := hT j want d hgd hd _ hb
        simp only [conc] at e
        have : a.tmps[d]? = some (.bool b') := by
          rw [Array.getD_eq_getD_getElem?] at e
          cases hx : a.tmps[d]? with
          | none => rw [hx] at e; cases e
          | some u => rw [hx] at e; simp only [Option.getD_some] at e; rw [e]
        rw [this]
        simp
      · rename_i hb
        cases hw
        obtain ⟨_, e⟩ := hT j want d hgd hd _ hb
        rw [Array.getD_eq_getD_getElem?] at e
        cases hx : a.tmps[d]? with
        | none => simp
        | some u =>
          rw [hx] at e
          simp only [Option.getD_some, conc, concs] at e
          rw [e]
          simp
      · cases hw

theorem opAt_cases {all : Array Oper} {o : Oper} {T T1 : Env} {h h1 : Heap} (ho : opAt P callF all o T h = some (T1, h1)) :
    (wanted all T o = some false ∧ T1 = putD T o.dst (.tuple []) ∧ h1 = h) ∨
    (wanted all T o = some true ∧ ∃ v, oper P callF o.op T h = some (v, h1) ∧ T1 = putD T o.dst v ∧ h.next ≤ h1.next) := by
  unfold opAt at ho
  split at ho
  · cases ho
  · rename_i b hw
    split at ho
    · cases ho; exact .inl ⟨hw, rfl, rfl⟩
    · split at ho
      · cases ho
      · rename_i r hr
        obtain ⟨v, h2⟩ := r
        simp only [] at ho
        cases hb : Nat.ble h.next h2.next
        · rw [hb] at ho; cases ho
        · rw [hb] at ho; cases ho; exact .inr ⟨hw, v, hr, rfl, Nat.le_of_ble_eq_true hb⟩

theorem ops_cons {all : Array Oper} {o : Oper} {l : List Oper} {T T' : Env} {h h' : Heap} (ho : ops P callF all (o :: l) T h = some (T', h')) :
    ∃ T1 h1, opAt P callF all o T h = some (T1, h1) ∧ ops P callF all l T1 h1 = some (T', h') := by
  change Option.rec none (fun r => Prod.rec (ops P callF all l) r) (opAt P callF all o T h) = some (T', h') at ho
  cases hx : opAt P callF all o T h with
  | none => rw [hx] at ho; cases ho
  | some r => obtain ⟨T1, h1⟩ := r; rw [hx] at ho; exact ⟨T1, h1, rfl, ho⟩

theorem opAt_next {all : Array Oper} {o : Oper} {T T' : Env} {h h' : Heap} (ho : opAt P callF all o T h = some (T', h')) : h.next ≤ h'.next := by
  rcases opAt_cases ho with ⟨_, _, rfl⟩ | ⟨_, v, _, _, hn⟩
  · exact Nat.le_refl _
  · exact hn

theorem ops_next {all : Array Oper} : ∀ {l : List Oper} {T T' : Env} {h h' : Heap}, ops P callF all l T h = some (T', h') → h.next ≤ h'.next
  | [], T, T', h, h', ho => by cases ho; exact Nat.le_refl _
  | o :: l, T, T', h, h', ho => by
    obtain ⟨T1, h1, h2, h3⟩ := ops_cons ho
    exact Nat.le_trans (opAt_next h2) (ops_next h3)

theorem ops_sound (hcall : CallSound P B callF) {all : Array Oper} {Q : Exit → Act → World → Prop} {T' : Env} {h' : Heap} : ∀ (l : List Oper) (T : Env) (h : Heap) (σ : Real) (a : Act) (w : World),
    ops P callF all l T h = some (T', h') → l.all (dstOk a.tmps.size) = true → Rel P B σ h w → EnvOk σ T a.tmps → Free σ h.next h'.next →
    (∀ a' w', End P B σ h w a T' h' a' w' → Q .normal a' w') → wpListIn (wideR rd) nn P all Q l a w
  | [], T, h, σ, a, w, ho, _, H, hT, _, hQ => by
    cases ho
    exact hQ a w ⟨σ, Post.refl H, hT, rfl, rfl⟩
  | o :: l, T, h, σ, a, w, ho, hd, H, hT, hfree, hQ => by
    obtain ⟨T1, h1, ho1, ho2⟩ := ops_cons ho
    simp only [List.all_cons, Bool.and_eq_true] at hd
    obtain ⟨hd1, hd2⟩ := hd
    have hdl := dst_lt hd1
    have hn1 := opAt_next ho1
    have hn2 := ops_next ho2
    have hgo : GlobOk P σ := H.glob
    have hE : ∀ x, Reads P σ T a x := fun x v hv => eval_sound hgo hT hv
    refine wpListIn_step fun K hK => ?_
    rcases opAt_cases ho1 with ⟨hw, rfl, rfl⟩ | ⟨hw, v, hop, rfl, _⟩
    · rw [wanted_on hw (fun g want d _ _ v hv => hT.val d v hv)]
      rw [if_neg (by decide)]
      refine ⟨fun _ _ => trivial, hK _ _ (ops_sound hcall l _ _ σ _ w ho2 (by rw [size_put]; exact hd2) H ?_ hfree fun a' w' he => hQ a' w' (End.trans hfree (Post.refl H) (size_put _ _ _) (defers_put _ _ _) he))⟩
      exact hT.putD hdl (v := .tuple []) trivial
    · rw [wanted_on hw (fun g want d _ _ v hv => hT.val d v hv)]
      rw [if_pos rfl]
      refine op_sound hcall H (hfree.sub (Nat.le_refl _) hn2) (fun x _ => hE x) hop fun σ1 w1 hv hp => ?_
      exact hK _ _ (ops_sound hcall l _ _ σ1 _ w1 ho2 (by rw [size_put]; exact hd2) hp.rel ((hT.ext hp.ext).putD hdl hv) (Free.step hfree hp)
        fun a' w' he => hQ a' w' (End.trans hfree hp (size_put _ _ _) (defers_put _ _ _) he))

end Go.Abs

namespace Go.Abs
variable {P : Program} {B : Base}

/-! ### Blocks that no family of the heap lies in: the records of loops, and the blocks for deferred calls -/

/-- A block that holds neither cells nor a map nor an iterator. -/
def Hid (o : Obj) : Prop := (∃ r, o = .loop r) ∨ ∃ ds, o = .deferred ds

theorem obj_not_hid {σ : Real} {w : World} {g : Nat} {b : RB} {o : AObj} (h : ObjOk σ w g b o) {x : Obj} (hx : w.heap[b.block]? = some x) : ¬ Hid x := by
  have key : ∀ y, w.heap[b.block]? = some y → (∀ r, y ≠ .loop r) → (∀ ds, y ≠ .deferred ds) → ¬ Hid x := by
    intro y hy h1 h2 hh
    rw [hx] at hy
    cases hy
    rcases hh with ⟨r, e⟩ | ⟨ds, e⟩
    · exact h1 r e
    · exact h2 ds e
  cases o with
  | siter s pos => exact key _ h.1 (fun _ e => by cases e) (fun _ e => by cases e)
  | amap k es =>
    obtain ⟨⟨⟨ents, clock, e, _⟩, _⟩, _⟩ := h
    exact key _ e (fun _ e => by cases e) (fun _ e => by cases e)
  | miter m =>
    obtain ⟨⟨since, last, e⟩, _⟩ := h
    exact key _ e (fun _ e => by cases e) (fun _ e => by cases e)
  | cells c =>
    obtain ⟨cs, fr, e, _⟩ := h.heap
    exact key _ e (fun _ e => by cases e) (fun _ e => by cases e)

/-- A hidden block is given another content. -/
theorem Rel.hide {σ : Real} {h : Heap} {w : World} (H : Rel P B σ h w) {k : Nat} {x : Obj} (hx : w.heap[k]? = some x) (hh : Hid x) (y : Obj)
    (hl : ∀ f r b, (f, r) ∈ B.loops → σ f 0 = some b → b.block ≠ k) : Rel P B σ h (w.putObj k y) := by
  refine ⟨H.deep, H.dom, H.full, by rw [World.putObj_size]; exact H.base, H.glob, fun f g b o hb ho => ?_, H.wr, fun f g b hb => by rw [World.putObj_size]; exact H.live f g b hb, H.apart, H.alike, H.ctx.under, fun f r hm => ?_⟩
  · have h0 := H.obj f g b o hb ho
    refine h0.mono (Real.le_refl σ) (World.putObj_heap_other fun e => ?_)
    exact obj_not_hid h0 (by rw [e]; exact hx) hh
  · obtain ⟨h1, b, h2, h3⟩ := H.ctx.loops f r hm
    exact ⟨h1, b, h2, by rw [World.putObj_heap_other (hl f r b hm h2)]; exact h3⟩

theorem Rel.lift {B' : Base} {σ σ' : Real} {h h' : Heap} {w w' : World} (hB : B'.n = B.n) (hp : Post P B σ h w σ' h' w') (hf : Free σ h.next h'.next) (H : Rel P B' σ h w) : Rel P B' σ' h' w' := by
  have K := hp.rel
  refine ⟨K.deep, K.dom, K.full, by rw [hB]; exact K.base, K.glob, K.obj, fun f g b h1 h2 => by rw [hB]; exact K.wr f g b h1 h2, K.live, K.apart, K.alike, ?_⟩
  refine H.ctx.mono hp.ext (fun f b hb hk => ?_) fun f b r hb hk hr => ?_
  · rcases Nat.lt_or_ge f h.next with h1 | h1
    · rw [hp.keep f h1]; exact hk
    · rcases Nat.lt_or_ge f h'.next with h2 | h2
      · rw [hf f 0 h1 h2] at hb; cases hb
      · rw [Heap.writable, K.dom f h2]
  · rw [hp.frame b.block (H.live f 0 b hb) fun f' g' b' hb' hbk => ?_]; exact hr
    cases hw : h.writable f' with
    | false => rfl
    | true =>
      by_cases he : f' = f
      · rw [he, hk] at hw; cases hw
      · exact absurd hbk (H.apart f' g' b' f 0 b hb' hb he hw)

/-- What holds with more known of the worlds. -/
theorem Post.lift {B' : Base} {σ σ' : Real} {h h' : Heap} {w w' : World} (hB : B'.n = B.n) (hp : Post P B σ h w σ' h' w') (hf : Free σ h.next h'.next) (H : Rel P B' σ h w) : Post P B' σ h w σ' h' w' :=
  ⟨hp.ext, H.lift hB hp hf, hp.next, hp.new, hp.frame, hp.size, hp.os, hp.tape, hp.output, hp.keep, hp.soft, hp.low⟩

/-- Less is known. -/
theorem Rel.less {B' : Base} {σ : Real} {h : Heap} {w : World} (hB : B.n = B'.n) (hu : B.under.le B'.under) (hl : ∀ x ∈ B.loops, x ∈ B'.loops) (H : Rel P B' σ h w) : Rel P B σ h w :=
  ⟨H.deep, H.dom, H.full, by rw [hB]; exact H.base, H.glob, H.obj, fun f g b h1 h2 => by rw [hB]; exact H.wr f g b h1 h2, H.live, H.apart, H.alike, Real.le_trans hu H.ctx.under, fun f r hm => H.ctx.loops f r (hl _ hm)⟩

theorem Post.less {B' : Base} {σ σ' : Real} {h h' : Heap} {w w' : World} (hB : B.n = B'.n) (hu : B.under.le B'.under) (hl : ∀ x ∈ B.loops, x ∈ B'.loops) (H : Post P B' σ h w σ' h' w') : Post P B σ h w σ' h' w' :=
  ⟨H.ext, H.rel.less hB hu hl, H.next, H.new, H.frame, H.size, H.os, H.tape, H.output, H.keep, H.soft, H.low⟩

/-- A hidden block that was laid on the way is given another content. -/
theorem Post.hide {σ σ' : Real} {h h' : Heap} {w w' : World} (H : Rel P B σ h w) (hp : Post P B σ h w σ' h' w') {k : Nat} (hk : w.heap.size ≤ k) {x : Obj} (hx : w'.heap[k]? = some x) (hh : Hid x) (y : Obj) :
    Post P B σ h w σ' h' (w'.putObj k y) := by
  refine ⟨hp.ext, hp.rel.hide hx hh y ?_, hp.next, hp.new, fun j hj hno => ?_, by rw [World.putObj_size]; exact hp.size, hp.os, hp.tape, hp.output, hp.keep, hp.soft, hp.low⟩
  · intro f r b hm hb
    obtain ⟨_, b0, h1, _⟩ := H.ctx.loops f r hm
    have := H.live f 0 b0 h1
    have h2 := hp.ext f 0 b0 h1
    rw [hb] at h2
    cases h2
    omega
  · rw [World.putObj_heap_other (by omega)]
    exact hp.frame j hj hno

/-- A hidden block that nobody has touched on the way may as well have held something else. -/
theorem Post.swap {σ σ' : Real} {h h' : Heap} {w w' : World} (hp : Post P B σ h w σ' h' w') {k : Nat} (hk : k < w.heap.size) {x : Obj} (hx : w'.heap[k]? = some x) (hh : Hid x) (y : Obj)
    (hl : ∀ f r b, (f, r) ∈ B.loops → σ' f 0 = some b → b.block ≠ k) : Post P B σ h (w.putObj k y) σ' h' (w'.putObj k y) := by
  refine ⟨hp.ext, hp.rel.hide hx hh y hl, hp.next, fun f g b h1 h2 => by rw [World.putObj_size]; exact hp.new f g b h1 h2, fun j hj hno => ?_, by rw [World.putObj_size, World.putObj_size]; exact hp.size, hp.os, hp.tape, hp.output, hp.keep, hp.soft, hp.low⟩
  rw [World.putObj_size] at hj
  by_cases e : j = k
  · subst e
    rw [World.putObj_heap_same hj, World.putObj_heap_same (Nat.lt_of_lt_of_le hj hp.size)]
  · rw [World.putObj_heap_other e, World.putObj_heap_other e]
    exact hp.frame j hj hno

theorem putObj_putObj (w : World) (k : Nat) (x y : Obj) : (w.putObj k x).putObj k y = w.putObj k y := by
  simp only [World.putObj, Array.setIfInBounds_setIfInBounds]

theorem putObj_back {w : World} {k : Nat} {y : Obj} (h : w.heap[k]? = some y) : w.putObj k y = w := by
  obtain ⟨hlt, e⟩ := Array.getElem?_eq_some_iff.1 h
  have : w.heap.setIfInBounds k y = w.heap := by
    rw [Array.setIfInBounds, dif_pos hlt, ← e]
    exact Array.set_getElem_self hlt
  simp only [World.putObj, this]

/-! ### Marks -/

/-- A mark among the deferred calls, whose block has been laid since w0, and lies as it was laid. -/
def Held (w0 : World) (σ : Real) (h : Heap) (w : World) (d : Deferred) : Prop :=
  ∃ D, d = { target := .collected D, args := #[] } ∧ w0.heap.size ≤ D ∧ w.heap[D]? = some (.deferred (some [])) ∧ ∀ f g b, σ f g = some b → b.block = D → h.writable f = false

theorem Held.post {w0 : World} {σ σ' : Real} {h h' : Heap} {w w' : World} {d : Deferred} (H : Held w0 σ h w d) (hp : Post P B σ h w σ' h' w') (hf : Free σ h.next h'.next) : Held w0 σ' h' w' d := by
  obtain ⟨D, rfl, h1, h2, h3⟩ := H
  have hD : D < w.heap.size := (Array.getElem?_eq_some_iff.1 h2).1
  refine ⟨D, rfl, h1, by rw [hp.frame D hD h3]; exact h2, fun f g b hb hbk => ?_⟩
  cases h0 : σ f g with
  | some b0 =>
    obtain rfl : b0 = b := by have := hp.ext f g b0 h0; rw [hb] at this; exact (Option.some.inj this).symm
    rcases Nat.lt_or_ge f h.next with k | k
    · rw [hp.keep f k]; exact h3 f g b0 h0 hbk
    · rcases Nat.lt_or_ge f h'.next with k2 | k2
      · rw [hf f g k k2] at h0; cases h0
      · rw [Heap.writable, hp.rel.dom f k2]
  | none =>
    obtain ⟨_, k⟩ := hp.new f g b hb h0
    rcases k with ⟨k, _⟩ | ⟨_, k | ⟨k1, g0, b0, k2, k3⟩⟩
    · omega
    · omega
    · rw [h3 f g0 b0 k2 (by rw [k3]; exact hbk)] at k1; cases k1

/-- The marks that have come on top. -/
def Marks (w0 : World) (σ : Real) (h : Heap) (w : World) (ds0 ds : List Deferred) : Prop :=
  ∃ l, ds = l ++ ds0 ∧ l.Nodup ∧ ∀ d ∈ l, Held w0 σ h w d

theorem Marks.none {w0 : World} {σ : Real} {h : Heap} {w : World} {ds0 ds : List Deferred} (e : ds = ds0) : Marks w0 σ h w ds0 ds := ⟨[], by simpa using e, List.nodup_nil, fun _ h => by cases h⟩

theorem Marks.trans {w0 w1 : World} {σ σ' : Real} {h h' : Heap} {w' : World} {ds0 ds1 ds2 : List Deferred} (H : Marks w0 σ h w1 ds0 ds1) (hp : Post P B σ h w1 σ' h' w') (hf : Free σ h.next h'.next) (hs : w0.heap.size ≤ w1.heap.size)
    (K : Marks w1 σ' h' w' ds1 ds2) : Marks w0 σ' h' w' ds0 ds2 := by
  obtain ⟨l1, rfl, n1, a1⟩ := H
  obtain ⟨l2, rfl, n2, a2⟩ := K
  refine ⟨l2 ++ l1, by simp, List.nodup_append.2 ⟨n2, n1, fun d hd d' hd' e => ?_⟩, fun d hd => ?_⟩
  · subst e
    obtain ⟨D, e1, h1, _⟩ := a2 d hd
    obtain ⟨D', e2, _, h2, _⟩ := a1 d hd'
    rw [e1] at e2
    cases e2
    have := (Array.getElem?_eq_some_iff.1 h2).1
    omega
  · rcases List.mem_append.1 hd with hd | hd
    · obtain ⟨D, e1, h1, h2⟩ := a2 d hd
      exact ⟨D, e1, Nat.le_trans hs h1, h2⟩
    · exact (a1 d hd).post hp hf

/-- At the end of a function the marks are taken: all that the caller sees stands. -/
theorem leaves_marks {F : Fence} {n : Nat} {fn : Func} {tmps : Array Value} {R : Ending → World → Prop} {σ σ' : Real} {h h' : Heap} {w : World} (H : Rel P B σ h w) :
    ∀ (ds : List Deferred) (w' : World), Post P B σ h w σ' h' w' → ds.Nodup → (∀ d ∈ ds, Held w σ' h' w' d) →
    (∀ w2, Post P B σ h w σ' h' w2 → ∃ v, (results fn tmps).run P w2 = .ok v w2 ∧ R (.returned v) w2) → LeavesInM F n P fn tmps R ds .returning w'
  | [], w', hp, _, _, hR => hR w' hp
  | d :: ds, w', hp, hn, ha, hR => by
    obtain ⟨D, e, h1, h2, h3⟩ := ha d (List.mem_cons_self ..)
    have hp2 := hp.hide H h1 h2 (.inr ⟨_, rfl⟩) (.deferred none)
    refine ⟨by simp, .inl ⟨D, _, by rw [e], run_takeDeferred h2, ?_⟩⟩
    refine leaves_marks H ds _ hp2 (List.nodup_cons.1 hn).2 (fun d' hd' => ?_) hR
    obtain ⟨D', e', h1', h2', h3'⟩ := ha d' (List.mem_cons_of_mem _ hd')
    have hne : D' ≠ D := by
      intro ee
      subst ee
      exact (List.nodup_cons.1 hn).1 (by rw [e, ← e']; exact hd')
    exact ⟨D', e', h1', by rw [World.putObj_heap_other hne]; exact h2', h3'⟩

end Go.Abs

namespace Go.Abs
variable {P : Program} {B : Base} {callF : CallF} {seqF : SeqF}

theorem heapKeep (w : World) (o : Obj) (k : Nat) (h : k < w.heap.size) : (w.alloc o).heap[k]? = w.heap[k]? := by
  show (w.heap.push o)[k]? = w.heap[k]?
  rw [Array.getElem?_push, if_neg (by omega)]

def AExit.real : AExit → Exit
  | .normal => .normal
  | .exit i => .exit i
  | .ret => .ret

/-- What the evaluator says of regions that draw their order holds. -/
def DrawSound (P : Program) (B : Base) (callF : CallF) : Prop :=
  ∀ (id : Nat) (l : Array Oper) (T T' : Env) (h h' : Heap) (σ : Real) (a : Act) (w : World), opsD P callF l l.toList 0 [] [] T h = some (T', h') → goodRegion a.tmps.size l true = true →
    Rel P B σ h w → EnvOk σ T a.tmps → Free σ h.next h'.next → ∀ (rd : Option Nat) (nn : Nat), (Code.region id l true).wpIn (wideR rd) nn P (fun e a' w' => e = .normal ∧ End P B σ h w a T' h' a' w') a w

theorem opAtD_cases {all : Array Oper} {o : Oper} {i : Nat} {T T1 : Env} {h h1 : Heap} (ho : opAtD P callF all o i T h = some (T1, h1)) :
    (wanted all T o = some false ∧ T1 = putD T o.dst (.tuple []) ∧ h1 = h) ∨
    (wanted all T o = some true ∧ ∃ v h2, oper P callF o.op T { h with low := h.next } = some (v, h2) ∧ T1 = putD T o.dst v ∧ h.next ≤ h2.next ∧ (h.next ≤ h2.low ∨ loudOk all i = true) ∧
      h1 = { h2 with low := match Nat.ble h.low h2.low with | true => h.low | false => h2.low }) := by
  unfold opAtD at ho
  split at ho
  · cases ho
  · rename_i hw; cases ho; exact .inl ⟨hw, rfl, rfl⟩
  · rename_i hw
    split at ho
    · cases ho
    · rename_i v h2 hr
      split at ho
      · cases ho
      · rename_i hc
        cases ho
        simp only [Bool.and_eq_true, Bool.or_eq_true] at hc
        exact .inr ⟨hw, v, h2, hr, rfl, Nat.le_of_ble_eq_true hc.1, hc.2.imp Nat.le_of_ble_eq_true id, rfl⟩

theorem opsD_cons {all : Array Oper} {o : Oper} {i : Nat} {l : List Oper} {rs : Reads1} {ss : Snaps} {T T' : Env} {h h' : Heap} (ho : opsD P callF all (o :: l) i rs ss T h = some (T', h')) :
    ∃ T1 h1 rs1 ss1, opAtD P callF all o i T h = some (T1, h1) ∧ behindD P all o i rs ss T h h1 = some (rs1, ss1) ∧ opsD P callF all l (i + 1) rs1 ss1 T1 h1 = some (T', h') := by
  change Option.rec none (fun r => Prod.rec (fun T' h' => Option.rec none (fun x => Prod.rec (fun rs' ss' => opsD P callF all l (i + 1) rs' ss' T' h') x) (behindD P all o i rs ss T h h')) r) (opAtD P callF all o i T h) = some (T', h') at ho
  cases hx : opAtD P callF all o i T h with
  | none => rw [hx] at ho; cases ho
  | some r =>
    obtain ⟨T1, h1⟩ := r
    rw [hx] at ho
    change Option.rec none (fun x => Prod.rec (fun rs' ss' => opsD P callF all l (i + 1) rs' ss' T1 h1) x) (behindD P all o i rs ss T h h1) = some (T', h') at ho
    cases hb : behindD P all o i rs ss T h h1 with
    | none => rw [hb] at ho; cases ho
    | some x =>
      obtain ⟨rs1, ss1⟩ := x
      rw [hb] at ho
      exact ⟨T1, h1, rs1, ss1, rfl, hb, ho⟩

theorem opsD_next {all : Array Oper} : ∀ {l : List Oper} {i : Nat} {rs : Reads1} {ss : Snaps} {T T' : Env} {h h' : Heap}, opsD P callF all l i rs ss T h = some (T', h') → h.next ≤ h'.next
  | [], _, _, _, T, T', h, h', ho => by cases ho; exact Nat.le_refl _
  | o :: l, _, _, _, T, T', h, h', ho => by
    obtain ⟨T1, h1, _, _, h2, _, h3⟩ := opsD_cons ho
    refine Nat.le_trans ?_ (opsD_next h3)
    rcases opAtD_cases h2 with ⟨_, _, rfl⟩ | ⟨_, v, h2, _, _, hn, _, rfl⟩
    · exact Nat.le_refl _
    · exact hn

theorem regionF_cases {l : Array Oper} {draw : Bool} {T T' : Env} {h h' : Heap} {e : AExit} (hr : regionF P callF l draw T h = some (e, T', h')) :
    e = .normal ∧ ((draw = false ∧ ops P callF l l.toList T h = some (T', h')) ∨ (draw = true ∧ opsD P callF l l.toList 0 [] [] T h = some (T', h'))) := by
  unfold regionF at hr
  cases draw with
  | false =>
    simp only [] at hr
    cases hx : ops P callF l l.toList T h with
    | none => rw [hx] at hr; cases hr
    | some r => rw [hx] at hr; cases hr; exact ⟨rfl, .inl ⟨rfl, rfl⟩⟩
  | true =>
    simp only [] at hr
    cases hx : opsD P callF l l.toList 0 [] [] T h with
    | none => rw [hx] at hr; cases hr
    | some r => rw [hx] at hr; cases hr; exact ⟨rfl, .inr ⟨rfl, rfl⟩⟩

theorem thenF_cases {r : Res} {k : Env → Heap → Res} {e : AExit} {T' : Env} {h' : Heap} (hr : thenF r k = some (e, T', h')) :
    (∃ T1 h1, r = some (.normal, T1, h1) ∧ k T1 h1 = some (e, T', h')) ∨ (e ≠ .normal ∧ r = some (e, T', h')) := by
  cases r with
  | none => cases hr
  | some r =>
    obtain ⟨e1, T1, h1⟩ := r
    cases e1 with
    | normal => exact .inl ⟨T1, h1, rfl, hr⟩
    | exit i => cases hr; exact .inr ⟨by simp, rfl⟩
    | ret => cases hr; exact .inr ⟨by simp, rfl⟩

theorem condF_cases {c : Option AVal} {f g : Env → Heap → Res} {T : Env} {h : Heap} {r : AExit × Env × Heap} (hr : condF c f g T h = some r) :
    (c = some (.bool true) ∧ f T h = some r) ∨ (c = some (.bool false) ∧ g T h = some r) := by
  unfold condF at hr
  split at hr
  · exact .inl ⟨rfl, hr⟩
  · exact .inr ⟨rfl, hr⟩
  · cases hr

theorem blockF_cases {id : Nat} {r : Res} {e : AExit} {T' : Env} {h' : Heap} (hr : blockF id r = some (e, T', h')) :
    (e = .normal ∧ r = some (.exit id, T', h')) ∨ ((∀ i, e = .exit i → i ≠ id) ∧ r = some (e, T', h')) := by
  unfold blockF at hr
  split at hr
  · rename_i i T h
    split at hr
    · rename_i hi
      rw [Nat.beq_eq] at hi
      cases hr
      exact .inl ⟨rfl, by rw [hi]⟩
    · rename_i hi
      cases hr
      refine .inr ⟨fun j hj => ?_, rfl⟩
      cases hj
      intro e
      subst e
      rw [Nat.beq_refl] at hi
      cases hi
  · rename_i hne
    refine .inr ⟨fun i hi => ?_, hr⟩
    subst hi
    exact absurd hr (hne i T' h')

/-- n rounds of a loop. -/
noncomputable def rounds (f : Env → Heap → Res) : Nat → Env → Heap → Res
  | 0 => fun T h => some (.normal, T, h)
  | n + 1 => fun T h => thenF (f T h) (rounds f n)

theorem thenF_assoc (r : Res) (k l : Env → Heap → Res) : thenF (thenF r k) l = thenF r (fun T h => thenF (k T h) l) := by
  cases r with
  | none => rfl
  | some r => obtain ⟨e, T, h⟩ := r; cases e <;> rfl

theorem rounds_add (f : Env → Heap → Res) : ∀ (m n : Nat) (T : Env) (h : Heap), rounds f (m + n) T h = thenF (rounds f m T h) (rounds f n)
  | 0, n, T, h => by rw [Nat.zero_add]; rfl
  | m + 1, n, T, h => by
    have : m + 1 + n = (m + n) + 1 := by omega
    rw [this]
    show thenF (f T h) (rounds f (m + n)) = thenF (thenF (f T h) (rounds f m)) (rounds f n)
    rw [thenF_assoc]
    congr 1
    funext T h
    exact rounds_add f m n T h

theorem rounds_one (f : Env → Heap → Res) (T : Env) (h : Heap) : rounds f 1 T h = f T h := by
  show thenF (f T h) (fun T h => some (.normal, T, h)) = f T h
  cases f T h with
  | none => rfl
  | some r => obtain ⟨e, T, h⟩ := r; cases e <;> rfl

theorem iter_rounds (f : Env → Heap → Res) : ∀ (d : Nat) (T : Env) (h : Heap), iter f d T h = rounds f (2 ^ d) T h
  | 0, T, h => (rounds_one f T h).symm
  | d + 1, T, h => by
    show thenF (iter f d T h) (iter f d) = _
    rw [Nat.pow_succ, Nat.mul_two, rounds_add, iter_rounds f d]
    congr 1
    funext T h
    exact iter_rounds f d T h

theorem upto_rounds (f : Env → Heap → Res) {e : AExit} {T' : Env} {h' : Heap} : ∀ (n k : Nat) (T : Env) (h : Heap), upto f n k T h = some (e, T', h') → e ≠ .normal ∧ ∃ m, rounds f m T h = some (e, T', h')
  | 0, k, T, h, hr => by cases hr
  | n + 1, k, T, h, hr => by
    change thenF (iter f k T h) (upto f n (k + 1)) = some (e, T', h') at hr
    rcases thenF_cases hr with ⟨T1, h1, h2, h3⟩ | ⟨hne, h2⟩
    · obtain ⟨hne, m, hm⟩ := upto_rounds f n (k + 1) T1 h1 h3
      refine ⟨hne, 2 ^ k + m, ?_⟩
      rw [rounds_add, ← iter_rounds, h2]
      exact hm
    · exact ⟨hne, _, by rw [← iter_rounds]; exact h2⟩

theorem least_one {p : Nat → Prop} : ∀ n, p n → ∃ m, p m ∧ ∀ k, p k → m ≤ k := by
  intro n
  induction n using Nat.strongRecOn with
  | _ n ih =>
    intro hn
    by_cases hs : ∃ k, k < n ∧ p k
    · obtain ⟨k, h1, h2⟩ := hs
      exact ih k h1 h2
    · exact ⟨n, hn, fun k hk => Nat.le_of_not_lt fun hlt => hs ⟨k, hlt, hk⟩⟩

/-- A loop that is shown to end by a count of its rounds. -/
theorem wp_loop_count {F : Fence} {nn : Nat} {c : Code} {Q : Exit → Act → World → Prop} (I : Nat → Act → World → Prop)
    (round : ∀ n a w, I n a w → c.wpIn F nn P (Exit.then (fun a' w' => ∃ m, m < n ∧ I m a' w') Q) a w) (n : Nat) (a : Act) (w : World) (h0 : I n a w) : (Code.loop c).wpIn F nn P Q a w := by
  classical
  have hex : ∀ a w, ∃ m, (∃ n, I n a w) → I m a w ∧ ∀ k, I k a w → m ≤ k := by
    intro a w
    by_cases hn : ∃ n, I n a w
    · obtain ⟨n, hn⟩ := hn
      obtain ⟨m, h1, h2⟩ := least_one (p := fun n => I n a w) n hn
      exact ⟨m, fun _ => ⟨h1, h2⟩⟩
    · exact ⟨0, fun h => absurd h hn⟩
  let μ : Act → World → Nat := fun a w => Classical.choose (hex a w)
  have hμ : ∀ a w n, I n a w → μ a w ≤ n ∧ I (μ a w) a w := by
    intro a w n hn
    obtain ⟨h1, h2⟩ := Classical.choose_spec (hex a w) ⟨n, hn⟩
    exact ⟨h2 n hn, h1⟩
  refine wpIn_loop (fun a w => ∃ n, I n a w) μ ⟨n, h0⟩ ?_
  rintro a w ⟨n, hn⟩
  obtain ⟨_, h2⟩ := hμ a w n hn
  refine wpIn_mono (round _ a w h2) fun e a' w' hq => ?_
  cases e with
  | normal =>
    obtain ⟨m, hm, hI⟩ := hq
    exact ⟨⟨m, hI⟩, Nat.lt_of_le_of_lt (hμ a' w' m hI).1 hm⟩
  | _ => exact hq

theorem rangeF_cases {g : Option AVal} {ps : Array Tmp} {fa fb : Env → Heap → Res} {T T' : Env} {h h' : Heap} {e : AExit} (hc : rangeF P seqF g ps fa fb T h = some (e, T', h')) :
    (∃ gf first cap v, g = some (.func (.func gf) first cap) ∧ enters P gf = true ∧
      seqF h.next (roundF fa fb ps.toList T) (.func gf) (first ++ .func (.yield h.next) [] [] :: cap) { objs := h.objs, next := h.next + 1, low := h.low } = some (v, h')) ∧ e = .normal ∧ T' = T ∧ True ∧ h.next < h'.next := by
  unfold rangeF at hc
  split at hc
  · rename_i gf first cap
    split at hc
    · rename_i he
      split at hc
      · rename_i v h2 hs
        split at hc
        · rename_i hb
          cases hc
          exact ⟨⟨gf, first, cap, v, rfl, he, hs⟩, rfl, rfl, trivial, Nat.le_of_ble_eq_true hb⟩
        · cases hc
      · cases hc
    · cases hc
  · cases hc

theorem roundF_cases {fa fb : Env → Heap → Res} {ps : List Tmp} {T : Env} {args : List AVal} {h h' : Heap} {v : AVal} (hc : roundF fa fb ps T args h = some (v, h')) :
    ∃ T0 T1 h1 T2, setArgs ps T args = some T0 ∧ fa T0 h = some (.normal, T1, h1) ∧ fb T1 h1 = some (.normal, T2, h') ∧ v = .bool true := by
  unfold roundF at hc
  split at hc
  · rename_i T0 hT0
    split at hc
    · rename_i T2 h2 hr
      cases hc
      rcases thenF_cases hr with ⟨T1, h1, k1, k2⟩ | ⟨hne, _⟩
      · exact ⟨T0, T1, h1, T2, hT0, k1, k2, rfl⟩
      · exact absurd rfl hne
    · cases hc
  · cases hc

theorem setArgs_ok {σ : Real} {ps : Array Tmp} {T T0 : Env} {args : List AVal} {tmps : Array Value} (hs : setArgs ps.toList T args = some T0) (hT : EnvOk σ T tmps) (ha : okvs σ args) (hp : ∀ p ∈ ps.toList, p < tmps.size) :
    args.length = ps.size ∧ EnvOk σ T0 ((ps.zip (concs σ args).toArray).foldl (fun tmps (t, a) => tmps.setIfInBounds t a) tmps) ∧ ((ps.zip (concs σ args).toArray).foldl (fun tmps (t, a) => tmps.setIfInBounds t a) tmps).size = tmps.size := by
  obtain ⟨ps⟩ := ps
  unfold setArgs at hs
  split at hs
  · rename_i p hps
    simp only at hps
    subst hps
    split at hs
    · rename_i x
      cases hs
      have e : ((#[p].zip (concs σ [x]).toArray).foldl (fun tmps (t, a) => tmps.setIfInBounds t a) tmps) = tmps.setIfInBounds p (conc σ x) := by simp [concs]
      rw [e]
      exact ⟨rfl, hT.put (hp p (by simp)) ha.1, by simp⟩
    · cases hs
  · rename_i p q hps
    simp only at hps
    subst hps
    split at hs
    · rename_i x y
      cases hs
      have e : ((#[p, q].zip (concs σ [x, y]).toArray).foldl (fun tmps (t, a) => tmps.setIfInBounds t a) tmps) = (tmps.setIfInBounds p (conc σ x)).setIfInBounds q (conc σ y) := by simp [concs]
      rw [e]
      have hp1 : p < tmps.size := hp p (List.mem_cons_self ..)
      have hp2 : q < tmps.size := hp q (List.mem_cons_of_mem _ (List.mem_cons_self ..))
      exact ⟨rfl, (hT.put hp1 ha.1).put (by rw [Array.size_setIfInBounds]; exact hp2) ha.2.1, by rw [Array.size_setIfInBounds, Array.size_setIfInBounds]⟩
    · cases hs
  · cases hs

/-! ### Code -/

theorem code_next : ∀ (c : Code) {T T' : Env} {h h' : Heap} {e : AExit}, code P callF seqF c T h = some (e, T', h') → h.next ≤ h'.next := by
  intro c
  induction c with
  | skip => intro T T' h h' e hc; cases hc; exact Nat.le_refl _
  | region id l d =>
    intro T T' h h' e hc
    rcases (regionF_cases (show regionF P callF l d T h = some (e, T', h') from hc)).2 with ⟨_, h1⟩ | ⟨_, h1⟩
    · exact ops_next h1
    · exact opsD_next h1
  | seq x y ihx ihy =>
    intro T T' h h' e hc
    rcases thenF_cases (show thenF (code P callF seqF x T h) (code P callF seqF y) = some (e, T', h') from hc) with ⟨T1, h1, h2, h3⟩ | ⟨_, h2⟩
    · exact Nat.le_trans (ihx h2) (ihy h3)
    · exact ihx h2
  | cond c x y ihx ihy =>
    intro T T' h h' e hc
    rcases condF_cases (show condF (eval P T c) (code P callF seqF x) (code P callF seqF y) T h = some (e, T', h') from hc) with ⟨_, h1⟩ | ⟨_, h1⟩
    · exact ihx h1
    · exact ihy h1
  | block id c ih =>
    intro T T' h h' e hc
    rcases blockF_cases (show blockF id (code P callF seqF c T h) = some (e, T', h') from hc) with ⟨_, h1⟩ | ⟨_, h1⟩
    · exact ih h1
    · exact ih h1
  | loop c ih =>
    intro T T' h h' e hc
    obtain ⟨_, m, hm⟩ := upto_rounds (code P callF seqF c) 20 0 T h hc
    clear hc
    induction m generalizing T h with
    | zero => cases hm; exact Nat.le_refl _
    | succ m im =>
      rcases thenF_cases (show thenF (code P callF seqF c T h) (rounds (code P callF seqF c) m) = some (e, T', h') from hm) with ⟨T1, h1, h2, h3⟩ | ⟨_, h2⟩
      · exact Nat.le_trans (ih h2) (im h3)
      · exact ih h2
  | exit id => intro T T' h h' e hc; cases hc; exact Nat.le_refl _
  | ret => intro T T' h h' e hc; cases hc; exact Nat.le_refl _
  | rangeFunc g ps x y => intro T T' h h' e hc; exact Nat.le_of_lt (rangeF_cases (show rangeF P seqF (eval P T g) ps (code P callF seqF x) (code P callF seqF y) T h = some (e, T', h') from hc)).2.2.2.2
  | scope => intro T T' h h' e hc; cases hc
  | label => intro T T' h h' e hc; cases hc
  | goto => intro T T' h h' e hc; cases hc
  | refuse => intro T T' h h' e hc; cases hc

/-- Where a piece of code has arrived: marks may have come to the deferred calls. -/
def EndC (P : Program) (B : Base) (σ : Real) (h : Heap) (w : World) (a : Act) (T' : Env) (h' : Heap) (a' : Act) (w' : World) : Prop :=
  ∃ σ', Post P B σ h w σ' h' w' ∧ EnvOk σ' T' a'.tmps ∧ a'.tmps.size = a.tmps.size ∧ Marks w σ' h' w' a.defers a'.defers

theorem End.toC {σ : Real} {h : Heap} {w : World} {a : Act} {T' : Env} {h' : Heap} {a' : Act} {w' : World} (H : End P B σ h w a T' h' a' w') : EndC P B σ h w a T' h' a' w' := by
  obtain ⟨σ', h1, h2, h3, h4⟩ := H
  exact ⟨σ', h1, h2, h3, Marks.none h4⟩

theorem EndC.trans {σ0 : Real} {h0 : Heap} {w0 : World} {a0 : Act} {h1 : Heap} {a1 : Act} {w1 : World} {T2 : Env} {h2 : Heap} {a2 : Act} {w2 : World} {σ1 : Real}
    (hf : Free σ0 h0.next h2.next) (hp : Post P B σ0 h0 w0 σ1 h1 w1) (hs : a1.tmps.size = a0.tmps.size) (hd : Marks w0 σ1 h1 w1 a0.defers a1.defers) (hq : EndC P B σ1 h1 w1 a1 T2 h2 a2 w2) : EndC P B σ0 h0 w0 a0 T2 h2 a2 w2 := by
  obtain ⟨σ2, q1, q2, q3, q4⟩ := hq
  exact ⟨σ2, Post.trans hf hp q1, q2, q3.trans hs, hd.trans q1 (Free.step hf hp) hp.size q4⟩

/-- One base says all that another says. -/
def Base.le (B B' : Base) : Prop := B.n = B'.n ∧ B.under.le B'.under ∧ ∀ x ∈ B.loops, x ∈ B'.loops
theorem Base.le.trans {A B C : Base} (h : A.le B) (k : B.le C) : A.le C := ⟨h.1.trans k.1, Real.le_trans h.2.1 k.2.1, fun x hx => k.2.2 x (h.2.2 x hx)⟩
theorem Base.le.refl (A : Base) : A.le A := ⟨rfl, Real.le_refl _, fun _ h => h⟩

/-- What the handler of a loop's rounds says holds of the model's rounds. -/
def HandSound (P : Program) (B : Base) (i : Nat) (hd : List AVal → Heap → Option (AVal × Heap)) : Prop :=
  ∀ (args : List AVal) (h : Heap) (v : AVal) (h' : Heap) (σ : Real) (w : World) (o : Oper) (a : Act) (K : Act → World → Prop) (Q : Exit → Act → World → Prop) (r : Option Nat) (n : Nat),
    hd args h = some (v, h') → Rel P B σ h w → okFn σ (.yield i) → okvs σ args → Free σ h.next h'.next →
    (∀ σ' w', okv σ' v → Post P B σ h w σ' h' w' → K (a.put o.dst (conc σ' v)) w') →
    o.uponIn (wideR r) n P a K Q ((callAs σ (.yield i) (concs σ args).toArray).run P w)

def SeqSound (P : Program) (B : Base) (seqF : SeqF) : Prop := ∀ (B' : Base) (i : Nat) (hd : List AVal → Heap → Option (AVal × Heap)), B.le B' → HandSound P B' i hd → CallSound P B' (seqF i hd)

theorem CallSound.lift {B' : Base} (hB : B.le B') (H : CallSound P B callF) : CallSound P B' callF := by
  intro fn args h v h' σ w o a K Q r n hc R hfn hargs hf hK
  exact H fn args h v h' σ w o a K Q r n hc (R.less hB.1 hB.2.1 hB.2.2) hfn hargs hf fun σ' w' h1 h2 => hK σ' w' h1 (h2.lift hB.1.symm hf R)

theorem SeqSound.lift {B' : Base} (hB : B.le B') (H : SeqSound P B seqF) : SeqSound P B' seqF := fun B2 i hd h2 hh => H B2 i hd (hB.trans h2) hh

/-- What the evaluator says of a piece of code. -/
def CodeSound (P : Program) (callF : CallF) (seqF : SeqF) (c : Code) : Prop :=
  ∀ (B : Base) (rd : Option Nat) (nn : Nat) (T T' : Env) (h h' : Heap) (e : AExit) (σ : Real) (a : Act) (w : World), CallSound P B callF → SeqSound P B seqF → (rd = none ∨ flat c = true) →
    code P callF seqF c T h = some (e, T', h') → goodCode a.tmps.size c = true → Rel P B σ h w → EnvOk σ T a.tmps → Free σ h.next h'.next →
    c.wpIn (wideR rd) nn P (fun e' a' w' => e' = e.real ∧ EndC P B σ h w a T' h' a' w') a w

/-! ### Loops over functions -/

/-- A loop's record and the block for its deferred calls are laid. -/
theorem loop_post {σ : Real} {h : Heap} {w : World} (H : Rel P B σ h w) (hfree : Free σ h.next (h.next + 1)) (x y : Obj) :
    Post P B σ h w (σ.add h.next ⟨w.heap.size + 1, 0, 0, 0, 1⟩) { objs := h.objs, next := h.next + 1, low := h.low } ((w.alloc x).alloc y) := by
  have hoth : ∀ f' g', f' ≠ h.next → σ.add h.next ⟨w.heap.size + 1, 0, 0, 0, 1⟩ f' g' = σ f' g' := fun f' g' hne => by simp [Real.add, hne]
  have hle : σ.le (σ.add h.next ⟨w.heap.size + 1, 0, 0, 0, 1⟩) := by
    intro f' g' b' hb
    by_cases hf : f' = h.next
    · subst hf; rw [hfree _ g' (Nat.le_refl _) (Nat.lt_succ_self _)] at hb; cases hb
    · rw [hoth _ _ hf]; exact hb
  have hnewb : ∀ g' b', σ.add h.next ⟨w.heap.size + 1, 0, 0, 0, 1⟩ h.next g' = some b' → b' = ⟨w.heap.size + 1, 0, 0, 0, 1⟩ := by
    intro g' b' hb
    simp only [Real.add, if_true] at hb
    by_cases hg : g' = 0
    · rw [if_pos hg] at hb; exact (Option.some.inj hb).symm
    · rw [if_neg hg] at hb; cases hb
  have hno : ∀ f', h.obj f' ≠ none → f' ≠ h.next := fun f' h1 e => h1 (by rw [e]; exact H.dom _ (Nat.le_refl _))
  have hwn : ∀ f', h.writable f' = true → f' ≠ h.next := fun f' h1 => hno f' fun e => by rw [Heap.writable, e] at h1; cases h1
  have hsz : ((w.alloc x).alloc y).heap.size = w.heap.size + 2 := by rw [World.size_alloc, World.size_alloc]
  have hold : ∀ k, k < w.heap.size → ((w.alloc x).alloc y).heap[k]? = w.heap[k]? := fun k hk => by
    rw [heapKeep _ _ _ (by rw [World.size_alloc]; omega), heapKeep _ _ _ hk]
  have hlive : ∀ f' g' b', σ.add h.next ⟨w.heap.size + 1, 0, 0, 0, 1⟩ f' g' = some b' → f' ≠ h.next → b'.block < w.heap.size := fun f' g' b' hb hf => H.live f' g' b' (by rw [← hoth f' g' hf]; exact hb)
  refine ⟨hle, ⟨H.deep, fun f' hf' => H.dom f' (Nat.le_of_succ_le hf'), H.full, by rw [hsz]; have := H.base; omega, fun g hg => ?_, fun f' g' b' o hb ho => ?_, fun f' g' b' hb hw => ?_, fun f' g' b' hb => ?_, fun f1 g1 b1 f2 g2 b2 hb1 hb2 hne hw => ?_, fun f' g1 b1 g2 b2 h1 h2 hbk => ?_,
    H.ctx.mono hle (fun _ _ _ hk => hk) (fun f0 b r hb _ hr => by rw [hold _ (H.live _ _ _ hb)]; exact hr)⟩, Nat.le_succ _, fun f' g' b' hb hn => ?_, fun k hk _ => hold k hk, by rw [hsz]; omega, rfl, rfl, rfl, fun _ _ => rfl, fun f' hf' _ => ⟨rfl, fun g' => hoth f' g' (Nat.ne_of_lt hf')⟩, Nat.le_refl _⟩
  · obtain ⟨b, h1, h2⟩ := H.glob g hg
    exact ⟨b, hle _ _ _ h1, h2⟩
  · have hf : f' ≠ h.next := hno f' (by intro e; have ho' : h.obj f' = some o := ho; rw [e] at ho'; cases ho')
    have hb' : σ f' g' = some b' := by rw [← hoth f' g' hf]; exact hb
    exact (H.obj f' g' b' o hb' ho).mono hle (hold _ (H.live _ _ _ hb'))
  · have hf := hwn f' hw
    exact H.wr f' g' b' (by rw [← hoth f' g' hf]; exact hb) hw
  · rw [hsz]
    by_cases hf : f' = h.next
    · subst hf; rw [hnewb g' b' hb]; exact Nat.lt_succ_self _
    · have := hlive f' g' b' hb hf; omega
  · have hf1 := hwn f1 hw
    have hl1 := hlive f1 g1 b1 hb1 hf1
    by_cases hf2 : f2 = h.next
    · subst hf2
      rw [hnewb g2 b2 hb2]
      show b1.block ≠ w.heap.size + 1
      omega
    · exact H.apart f1 g1 b1 f2 g2 b2 (by rw [← hoth f1 g1 hf1]; exact hb1) (by rw [← hoth f2 g2 hf2]; exact hb2) hne hw
  · by_cases hf : f' = h.next
    · subst hf; rw [hnewb _ _ h1, hnewb _ _ h2]
    · rw [hoth _ _ hf] at h1 h2
      exact H.alike f' g1 b1 g2 b2 h1 h2 hbk
  · by_cases hf : f' = h.next
    · subst hf
      refine ⟨Nat.lt_succ_self _, .inl ⟨?_, Nat.le_refl _⟩⟩
      rw [hnewb g' b' hb]
      exact Nat.le_succ _
    · rw [hoth f' g' hf, hn] at hb; cases hb

/-- The base within a loop. -/
def Base.within (B : Base) (σ : Real) (i : Nat) (r : Loop) : Base := ⟨B.n, σ, (i, r) :: B.loops⟩

theorem Base.le_within {σ : Real} {i : Nat} {r : Loop} (h : B.under.le σ) : B.le (B.within σ i r) := ⟨rfl, h, fun _ hx => List.mem_cons_of_mem _ hx⟩

theorem Rel.within {σ σ1 : Real} {i : Nat} {r : Loop} {h : Heap} {w : World} {b : RB} (H : Rel P B σ h w) (hle : σ1.le σ) (hw : h.writable i = false) (hb : σ i 0 = some b) (hr : w.heap[b.block]? = some (.loop r)) : Rel P (B.within σ1 i r) σ h w :=
  ⟨H.deep, H.dom, H.full, H.base, H.glob, H.obj, H.wr, H.live, H.apart, H.alike, hle, fun f r' hm => by
    rcases List.mem_cons.1 hm with e | hm
    · cases e; exact ⟨hw, b, hb, hr⟩
    · exact H.ctx.loops f r' hm⟩

theorem within_rec {σ σ1 : Real} {i : Nat} {r : Loop} {h : Heap} {w : World} {b : RB} (H : Rel P (B.within σ1 i r) σ h w) (hb : σ1 i 0 = some b) : σ i 0 = some b ∧ h.writable i = false ∧ w.heap[b.block]? = some (.loop r) := by
  obtain ⟨h1, b', h2, h3⟩ := H.ctx.loops i r (List.mem_cons_self ..)
  have h4 := H.ctx.under i 0 b hb
  rw [h2] at h4
  cases h4
  exact ⟨h2, h1, h3⟩

theorem round_sound {as_ bd : Code} (ihA : CodeSound P callF seqF as_) (ihB : CodeSound P callF seqF bd) (hcall : CallSound P B callF) (hseq : SeqSound P B seqF) {σ1 : Real} {i : Nat} {b : RB} {r : Loop} {T : Env} {ps : Array Tmp}
    (hu : B.under.le σ1) (hb : σ1 i 0 = some b) (hout : ∀ f r b', (f, r) ∈ B.loops → σ1 f 0 = some b' → b'.block ≠ b.block) (hin : ∀ f r, (f, r) ∈ B.loops → ∃ b', σ1 f 0 = some b')
    (hst : r.state = .ready) (hpe : r.pending = none) (hps : r.params = ps) (has : r.assign = as_) (hbd : r.body = bd) (hT : EnvOk σ1 T r.tmps) (hp : ∀ p ∈ ps.toList, p < r.tmps.size)
    (hga : goodCode r.tmps.size as_ = true) (hgb : goodCode r.tmps.size bd = true) (hfa : flat as_ = true) (hfb : flat bd = true) :
    HandSound P (B.within σ1 i r) i (roundF (code P callF seqF as_) (code P callF seqF bd) ps.toList T) := by
  intro args h v h' σ w o a K Q rd n hc H hfn hargs hf hK
  obtain ⟨T0, T1, h1, T2, c0, c1, c2, rfl⟩ := roundF_cases hc
  obtain ⟨hbσ, hwi, hrec⟩ := within_rec H hb
  have hBl : B.le (B.within σ1 i r) := Base.le_within hu
  have hn2 := code_next bd c2
  have hcs : callAs σ (.yield i) (concs σ args).toArray = Instr.yield b.block (concs σ args).toArray := by simp only [callAs, hbσ]
  have hle1 : σ1.le σ := H.ctx.under
  obtain ⟨hlen, hE0, hsz0⟩ := setArgs_ok c0 (hT.ext hle1) hargs hp
  have hle : (concs σ args).length = args.length := by rw [concs_eq, List.length_map]
  rw [hcs, run_yield hrec (by rw [hps]; simp [hle, hlen])]
  refine ⟨fun h => (by cases h), ?_⟩
  rw [hps]
  refine roundIn_of_wpIn (F := wideR rd) trivial ?_
  rw [has, hbd]
  generalize ((ps.zip (concs σ args).toArray).foldl (fun tmps (t, a) => tmps.setIfInBounds t a) r.tmps) = A0 at hE0 hsz0 ⊢
  refine wpIn_mono (ihA (B.within σ1 i r) (some b.block) (n - 1) T0 T1 h h1 .normal σ { tmps := A0, defers := [] } w (hcall.lift hBl) (hseq.lift hBl) (.inr hfa) c1
    (by simp only [hsz0]; exact hga) H hE0 (hf.sub (Nat.le_refl _) hn2)) ?_
  rintro e1 a1 w1 ⟨rfl, σa, pa1, pa2, pa3, _⟩
  obtain ⟨hba, hwa, hreca⟩ := within_rec pa1.rel hb
  have hlea : σ1.le σa := pa1.rel.ctx.under
  have hnot : ∀ f r' b', (f, r') ∈ B.loops → ∀ σ2 : Real, σ1.le σ2 → σ2 f 0 = some b' → b'.block ≠ b.block := by
    intro f r' b' hm σ2 h2 hb'
    obtain ⟨b0, h0⟩ := hin f r' hm
    have := h2 f 0 b0 h0
    rw [hb'] at this
    cases this
    exact hout f r' b' hm h0
  refine ⟨_, run_beginRound hreca hst, ?_⟩
  have hRa : Rel P B σa h1 w1 := pa1.rel.less hBl.1 hBl.2.1 hBl.2.2
  have hRb0 : Rel P B σa h1 (w1.putObj b.block (.loop { r with state := .busy })) := hRa.hide hreca (.inl ⟨_, rfl⟩) _ fun f r' b' hm hb' => hnot f r' b' hm σa hlea hb'
  have hbl1 : b.block < w1.heap.size := (Array.getElem?_eq_some_iff.1 hreca).1
  have hRb : Rel P (B.within σ1 i { r with state := .busy }) σa h1 (w1.putObj b.block (.loop { r with state := .busy })) := hRb0.within hlea hwa hba (World.putObj_heap_same hbl1)
  have hBb : B.le (B.within σ1 i { r with state := .busy }) := Base.le_within hu
  have hszA : a1.tmps.size = r.tmps.size := pa3.trans hsz0
  refine wpIn_mono (ihB (B.within σ1 i { r with state := .busy }) (some b.block) (n - 1) T1 T2 h1 h' .normal σa a1 _ (hcall.lift hBb) (hseq.lift hBb) (.inr hfb) c2
    (by rw [hszA]; exact hgb) hRb pa2 (Free.step hf pa1)) ?_
  rintro e2 a2 w3 ⟨rfl, σb, pb1, pb2, pb3, _⟩
  obtain ⟨hbb, hwb, hrecb⟩ := within_rec pb1.rel hb
  refine ⟨_, _, run_endRound none hrecb, ?_⟩
  have hback : ({ ({ r with state := .busy } : Loop) with state := if (none : Option Code).isNone then .ready else .done, pending := none } : Loop) = r := by
    cases r; simp only at hst hpe; subst hst; subst hpe; rfl
  rw [hback]
  have hpb : Post P B σa h1 (w1.putObj b.block (.loop { r with state := .busy })) σb h' w3 := pb1.less hBb.1 hBb.2.1 hBb.2.2
  have hsw := hpb.swap (k := b.block) (by rw [World.putObj_size]; exact hbl1) hrecb (.inl ⟨_, rfl⟩) (.loop r) fun f r' b' hm hb' => hnot f r' b' hm σb pb1.rel.ctx.under hb'
  rw [putObj_putObj, putObj_back hreca] at hsw
  have hpa : Post P B σ h w σa h1 w1 := pa1.less hBl.1 hBl.2.1 hBl.2.2
  exact hK σb _ trivial (Post.lift (B := B) (B' := B.within σ1 i r) rfl (Post.trans hf hpa hsw) hf H)

theorem code_sound (hdraw : ∀ B, CallSound P B callF → DrawSound P B callF) : ∀ c, CodeSound P callF seqF c := by
  intro c
  induction c with
  | skip =>
    intro B rd nn T T' h h' e σ a w hcall hseq hflat hc _ H hT _
    cases hc
    exact wpIn_skip ⟨rfl, σ, Post.refl H, hT, rfl, Marks.none rfl⟩
  | region id l d =>
    intro B rd nn T T' h h' e σ a w hcall hseq hflat hc hg H hT hf
    obtain ⟨rfl, h1⟩ := regionF_cases (show regionF P callF l d T h = some (e, T', h') from hc)
    have hg' : goodRegion a.tmps.size l d = true := hg
    rcases h1 with ⟨rfl, h1⟩ | ⟨rfl, h1⟩
    · unfold goodRegion at hg'
      rw [Bool.and_eq_true] at hg'
      exact wpIn_region_list (ops_sound hcall l.toList T h σ a w h1 hg'.1 H hT hf fun a' w' he => ⟨rfl, he.toC⟩)
    · exact wpIn_mono (hdraw B hcall id l T T' h h' σ a w h1 hg' H hT hf rd nn) fun e a' w' he => ⟨he.1, he.2.toC⟩
  | seq x y ihx ihy =>
    intro B rd nn T T' h h' e σ a w hcall hseq hflat hc hg H hT hf
    have hfl : (rd = none ∨ flat x = true) ∧ (rd = none ∨ flat y = true) := by
      rcases hflat with h0 | h0
      · exact ⟨.inl h0, .inl h0⟩
      · have h0' : (flat x && flat y) = true := h0
        rw [Bool.and_eq_true] at h0'
        exact ⟨.inr h0'.1, .inr h0'.2⟩
    obtain ⟨hg1, hg2⟩ : goodCode a.tmps.size x = true ∧ goodCode a.tmps.size y = true := by
      have : (goodCode a.tmps.size x && goodCode a.tmps.size y) = true := hg
      simpa using this
    rcases thenF_cases (show thenF (code P callF seqF x T h) (code P callF seqF y) = some (e, T', h') from hc) with ⟨T1, h1, h2, h3⟩ | ⟨hne, h2⟩
    · have hn := code_next y h3
      refine wpIn_seq (wpIn_mono (ihx B rd nn T T1 h h1 .normal σ a w hcall hseq hfl.1 h2 hg1 H hT (hf.sub (Nat.le_refl _) hn)) ?_)
      rintro e1 a1 w1 ⟨rfl, σ1, p1, p2, p3, p4⟩
      refine wpIn_mono (ihy B rd nn T1 T' h1 h' e σ1 a1 w1 hcall hseq hfl.2 h3 (by rw [p3]; exact hg2) p1.rel p2 (Free.step hf p1)) ?_
      rintro e2 a2 w2 ⟨rfl, he⟩
      exact ⟨rfl, EndC.trans hf p1 p3 p4 he⟩
    · refine wpIn_seq (wpIn_mono (ihx B rd nn T T' h h' e σ a w hcall hseq hfl.1 h2 hg1 H hT hf) ?_)
      rintro e1 a1 w1 ⟨rfl, he⟩
      cases e with
      | normal => exact absurd rfl hne
      | exit i => exact ⟨rfl, he⟩
      | ret => exact ⟨rfl, he⟩
  | cond c x y ihx ihy =>
    intro B rd nn T T' h h' e σ a w hcall hseq hflat hc hg H hT hf
    have hfl : (rd = none ∨ flat x = true) ∧ (rd = none ∨ flat y = true) := by
      rcases hflat with h0 | h0
      · exact ⟨.inl h0, .inl h0⟩
      · have h0' : (flat x && flat y) = true := h0
        rw [Bool.and_eq_true] at h0'
        exact ⟨.inr h0'.1, .inr h0'.2⟩
    obtain ⟨hg1, hg2⟩ : goodCode a.tmps.size x = true ∧ goodCode a.tmps.size y = true := by
      have : (goodCode a.tmps.size x && goodCode a.tmps.size y) = true := hg
      simpa using this
    rcases condF_cases (show condF (eval P T c) (code P callF seqF x) (code P callF seqF y) T h = some (e, T', h') from hc) with ⟨h0, h1⟩ | ⟨h0, h1⟩
    · exact wpIn_cond_true (eval_sound H.glob hT h0).2 (ihx B rd nn T T' h h' e σ a w hcall hseq hfl.1 h1 hg1 H hT hf)
    · exact wpIn_cond_false (eval_sound H.glob hT h0).2 (ihy B rd nn T T' h h' e σ a w hcall hseq hfl.2 h1 hg2 H hT hf)
  | block id c ih =>
    intro B rd nn T T' h h' e σ a w hcall hseq hflat hc hg H hT hf
    have hg1 : goodCode a.tmps.size c = true := hg
    rcases blockF_cases (show blockF id (code P callF seqF c T h) = some (e, T', h') from hc) with ⟨rfl, h1⟩ | ⟨hne, h1⟩
    · refine wpIn_block (wpIn_mono (ih B rd nn T T' h h' (.exit id) σ a w hcall hseq hflat h1 hg1 H hT hf) ?_)
      rintro e1 a1 w1 ⟨rfl, he⟩
      simp only [AExit.real, Exit.inBlock, if_true]
      exact ⟨trivial, he⟩
    · refine wpIn_block (wpIn_mono (ih B rd nn T T' h h' e σ a w hcall hseq hflat h1 hg1 H hT hf) ?_)
      rintro e1 a1 w1 ⟨rfl, he⟩
      cases e with
      | normal => exact ⟨rfl, he⟩
      | ret => exact ⟨rfl, he⟩
      | exit i =>
        simp only [AExit.real, Exit.inBlock, if_neg (hne i rfl)]
        exact ⟨trivial, he⟩
  | loop c ih =>
    intro B rd nn T T' h h' e σ a w hcall hseq hflat hc hg H hT hf
    have hg1 : goodCode a.tmps.size c = true := hg
    obtain ⟨hne, m, hm⟩ := upto_rounds (code P callF seqF c) 20 0 T h hc
    refine wp_loop_count (fun n a1 w1 => ∃ T1 h1 σ1, rounds (code P callF seqF c) n T1 h1 = some (e, T', h') ∧ Post P B σ h w σ1 h1 w1 ∧ EnvOk σ1 T1 a1.tmps ∧ a1.tmps.size = a.tmps.size ∧ Marks w σ1 h1 w1 a.defers a1.defers) ?_ m a w
      ⟨T, h, σ, hm, Post.refl H, hT, rfl, Marks.none rfl⟩
    rintro n a1 w1 ⟨T1, h1, σ1, r1, r2, r3, r4, r5⟩
    cases n with
    | zero => cases r1; exact absurd rfl hne
    | succ n =>
      have hf1 := Free.step hf r2
      rcases thenF_cases (show thenF (code P callF seqF c T1 h1) (rounds (code P callF seqF c) n) = some (e, T', h') from r1) with ⟨T2, h2, k1, k2⟩ | ⟨_, k1⟩
      · have hn2 : h2.next ≤ h'.next := by
          clear r1 k1
          induction n generalizing T2 h2 with
          | zero => cases k2; exact Nat.le_refl _
          | succ n im =>
            rcases thenF_cases (show thenF (code P callF seqF c T2 h2) (rounds (code P callF seqF c) n) = some (e, T', h') from k2) with ⟨T3, h3, j1, j2⟩ | ⟨_, j1⟩
            · exact Nat.le_trans (code_next c j1) (im T3 h3 j2)
            · exact code_next c j1
        refine wpIn_mono (ih B rd nn T1 T2 h1 h2 .normal σ1 a1 w1 hcall hseq hflat k1 (by rw [r4]; exact hg1) r2.rel r3 (hf1.sub (Nat.le_refl _) hn2)) ?_
        rintro e1 a2 w2 ⟨rfl, σ2, q1, q2, q3, q4⟩
        exact ⟨n, Nat.lt_succ_self n, T2, h2, σ2, k2, Post.trans (hf.sub (Nat.le_refl _) hn2) r2 q1, q2, q3.trans r4, r5.trans q1 (hf1.sub (Nat.le_refl _) hn2) r2.size q4⟩
      · refine wpIn_mono (ih B rd nn T1 T' h1 h' e σ1 a1 w1 hcall hseq hflat k1 (by rw [r4]; exact hg1) r2.rel r3 hf1) ?_
        rintro e1 a2 w2 ⟨rfl, he⟩
        have hend := EndC.trans hf r2 r4 r5 he
        cases e with
        | normal => exact absurd rfl hne
        | exit i => exact ⟨rfl, hend⟩
        | ret => exact ⟨rfl, hend⟩
  | exit id =>
    intro B rd nn T T' h h' e σ a w hcall hseq hflat hc _ H hT _
    cases hc
    exact wpIn_exit ⟨rfl, σ, Post.refl H, hT, rfl, Marks.none rfl⟩
  | ret =>
    intro B rd nn T T' h h' e σ a w hcall hseq hflat hc _ H hT _
    cases hc
    exact wpIn_ret ⟨rfl, σ, Post.refl H, hT, rfl, Marks.none rfl⟩
  | rangeFunc g ps as_ bd ihA ihB =>
    intro B rd nn T T' h h' e σ a w hcall hseq hflat hc hg H hT hf
    obtain rfl : rd = none := by
      rcases hflat with h0 | h0
      · exact h0
      · cases h0
    obtain ⟨⟨gf, first, cap, v, hev, hent, hs⟩, rfl, rfl, _, hn⟩ := rangeF_cases (show rangeF P seqF (eval P T g) ps (code P callF seqF as_) (code P callF seqF bd) T h = some (e, T', h') from hc)
    have hg' : (goodCode a.tmps.size as_ && goodCode a.tmps.size bd && flat as_ && flat bd && (ps.toList.all fun p => Nat.blt p a.tmps.size)) = true := hg
    simp only [Bool.and_eq_true, List.all_eq_true, Nat.blt_eq] at hg'
    obtain ⟨⟨⟨⟨hga, hgb⟩, hfa⟩, hfb⟩, hp⟩ := hg'
    obtain ⟨e1, e2⟩ := eval_sound H.glob hT hev
    obtain ⟨fn', hfn', c', hb', hname⟩ : ∃ fn', P.funcs[gf]? = some fn' ∧ ∃ c', fn'.body = some c' ∧ fn'.name ≠ "runtime.NumGoroutine" := by
      unfold enters at hent
      split at hent
      · rename_i fn' hf'
        simp only [Bool.and_eq_true, Bool.not_eq_true'] at hent
        obtain ⟨c', hc'⟩ := Option.isSome_iff_exists.1 hent.1
        exact ⟨fn', hf', c', hc', by simpa using hent.2⟩
      · cases hent
    have hrun : ∀ (args : Array Value) (w : World), (callFunc gf args).run P w = .ok (.enter gf args) w := fun args w => by simp [callFunc, hfn', hname, hb']
    have hfree1 : Free σ h.next (h.next + 1) := hf.sub (Nat.le_refl _) hn
    refine wpIn_rangeFunc ?_
    intro fn _
    obtain ⟨rc, hrc⟩ : ∃ rc : Loop, rc = { state := .ready, pending := none, fn, tmps := a.tmps, params := ps, assign := as_, body := bd, defers := w.heap.size } := ⟨_, rfl⟩
    have hst : rc.state = .ready := by rw [hrc]
    have hpe : rc.pending = none := by rw [hrc]
    have htm : rc.tmps = a.tmps := by rw [hrc]
    have P1 := loop_post H hfree1 (.deferred (some [])) (.loop rc)
    obtain ⟨σ1, hσ1⟩ : ∃ s, s = σ.add h.next ⟨w.heap.size + 1, 0, 0, 0, 1⟩ := ⟨_, rfl⟩
    obtain ⟨W1, hW1⟩ : ∃ W1, W1 = (w.alloc (.deferred (some []))).alloc (.loop rc) := ⟨_, rfl⟩
    rw [← hσ1, ← hW1] at P1
    have hb1 : σ1 h.next 0 = some ⟨w.heap.size + 1, 0, 0, 0, 1⟩ := by rw [hσ1]; simp [Real.add]
    have hoth1 : ∀ f g', f ≠ h.next → σ1 f g' = σ f g' := fun f g' hne => by rw [hσ1]; simp [Real.add, hne]
    have hWl : W1.heap[w.heap.size + 1]? = some (.loop rc) := by
      rw [hW1]
      have := World.alloc_heap_new (w.alloc (.deferred (some []))) (.loop rc)
      rwa [World.size_alloc] at this
    have hWD : W1.heap[w.heap.size]? = some (.deferred (some [])) := by
      rw [hW1, heapKeep _ _ _ (by rw [World.size_alloc]; omega)]
      exact World.alloc_heap_new w _
    have hwr1 : Heap.writable { objs := h.objs, next := h.next + 1, low := h.low } h.next = false := by
      show h.writable h.next = false
      rw [Heap.writable, H.dom _ (Nat.le_refl _)]
    have R1 := P1.rel.within (r := rc) (Real.le_refl _) hwr1 hb1 hWl
    have hu : B.under.le σ1 := Real.le_trans H.ctx.under P1.ext
    have hin : ∀ f r, (f, r) ∈ B.loops → ∃ b', σ f 0 = some b' ∧ σ1 f 0 = some b' := fun f r hm => by
      obtain ⟨_, b0, h1, _⟩ := H.ctx.loops f r hm
      exact ⟨b0, h1, P1.ext _ _ _ h1⟩
    have hand := round_sound (T := T') (ps := ps) ihA ihB hcall hseq hu hb1 (fun f r b' hm hb'' => by
        obtain ⟨b0, h1, h2⟩ := hin f r hm
        rw [hb''] at h2
        cases h2
        have := H.live _ _ _ h1
        simp only []
        omega) (fun f r hm => by obtain ⟨b0, _, h2⟩ := hin f r hm; exact ⟨b0, h2⟩)
      hst hpe (by rw [hrc]) (by rw [hrc]) (by rw [hrc]) (by rw [htm]; exact hT.ext P1.ext) (by rw [htm]; exact hp) (by rw [htm]; exact hga) (by rw [htm]; exact hgb) hfa hfb
    obtain ⟨q1, q2⟩ := ext_vs P1.ext first e1.2.1
    obtain ⟨q3, q4⟩ := ext_vs P1.ext cap e1.2.2
    have hargs : okvs σ1 (first ++ .func (.yield h.next) [] [] :: cap) := okvs_append.2 ⟨q1, ⟨⟨_, hb1⟩, trivial, trivial⟩, q3⟩
    have hcs := (hseq (B.within σ1 h.next rc) h.next _ (Base.le_within hu) hand) (.func gf) _ _ v h' σ1 W1 default { tmps := #[], defers := [] }
      (fun _ w' => ∃ σ', Post P (B.within σ1 h.next rc) σ1 { objs := h.objs, next := h.next + 1, low := h.low } W1 σ' h' w') (fun _ _ _ => False) none nn hs R1 trivial hargs
      (fun f g' h1 h2 => by
        have h1' : h.next + 1 ≤ f := h1
        rw [hoth1 f g' (by omega)]
        exact hf f g' (by omega) h2) (fun σ' w' _ hp => ⟨σ', hp⟩)
    have hae : (concs σ1 (first ++ .func (.yield h.next) [] [] :: cap)).toArray = (concs σ first).toArray ++ #[.func (.yield (w.heap.size + 1)) #[] #[]] ++ (concs σ cap).toArray := by
      simp only [concs_append, concs, q2, q4, conc, realFn, hb1]
      simp
    rw [hae] at hcs
    change Oper.uponIn _ _ _ _ _ _ _ ((callFunc gf _).run P W1) at hcs
    rw [hrun, Oper.uponIn_enter] at hcs
    refine ⟨w.heap.size + 1, [{ target := .collected w.heap.size, args := #[] }], W1, { target := .fn (.func gf) (concs σ cap).toArray, args := (concs σ first).toArray ++ #[.func (.yield (w.heap.size + 1)) #[] #[]] }, W1, gf, _, W1, ?_, ?_, fun _ _ => trivial, ?_, fun h => (by cases h), CallsIn.mono hcs.2 ?_⟩
    · rw [hW1, hrc]; exact run_enterLoop_outer _ _ _ _ _
    · simp only [resolve, e2, conc, realFn]
      simp [go_sem]
    · exact hrun _ _
    · intro e w3 he
      cases e with
      | panicked c => exact he.elim
      | outgrown => obtain ⟨_, _, hx⟩ := he; exact hx.elim
      | returned u =>
        obtain ⟨σ', hp3⟩ := he
        obtain ⟨hb2, _, hr2⟩ := within_rec hp3.rel hb1
        have hel := run_endLoop (P := P) hr2 (by rw [hst]; intro hx; cases hx)
        rw [hpe] at hel
        have hBl := Base.le_within (r := rc) (i := h.next) hu
        have hp4 : Post P B σ1 { objs := h.objs, next := h.next + 1, low := h.low } W1 σ' h' w3 := hp3.less hBl.1 hBl.2.1 hBl.2.2
        have hfr : Free σ1 (h.next + 1) h'.next := fun f g' h1 h2 => by
          rw [hoth1 f g' (by omega)]
          exact hf f g' (by omega) h2
        refine ⟨none, _, hel, rfl, σ', Post.hide H (Post.trans hf P1 hp4) (Nat.le_succ _) hr2 (.inl ⟨_, rfl⟩) _, hT.ext (Real.le_trans P1.ext hp4.ext), rfl, [{ target := .collected w.heap.size, args := #[] }], rfl, by simp, ?_⟩
        intro d hd
        obtain rfl := List.mem_singleton.1 hd
        have hheld : Held w σ1 { objs := h.objs, next := h.next + 1, low := h.low } W1 { target := .collected w.heap.size, args := #[] } := by
          refine ⟨w.heap.size, rfl, Nat.le_refl _, hWD, fun f g' b hb hbk => ?_⟩
          by_cases hfe : f = h.next
          · rw [hfe]; exact hwr1
          · rw [hoth1 f g' hfe] at hb
            have := H.live _ _ _ hb
            omega
        obtain ⟨D, ed, k1, k2, k3⟩ := hheld.post hp4 hfr
        cases ed
        exact ⟨w.heap.size, rfl, k1, by rw [World.putObj_heap_other (by simp)]; exact k2, k3⟩
  | scope => intro B rd nn T T' h h' e σ a w hcall hseq hflat hc; cases hc
  | label => intro B rd nn T T' h h' e σ a w hcall hseq hflat hc; cases hc
  | goto => intro B rd nn T T' h h' e σ a w hcall hseq hflat hc; cases hc
  | refuse => intro B rd nn T T' h h' e σ a w hcall hseq hflat hc; cases hc

end Go.Abs

namespace Go.Abs

theorem masksFrom_prefix : ∀ (rest : List Oper) (ms : List Nat), ∃ tl, masksFrom ms rest = ms ++ tl ∧ tl.length = rest.length
  | [], ms => ⟨[], by simp [masksFrom], rfl⟩
  | o :: rest, ms => by
    obtain ⟨tl, h1, h2⟩ := masksFrom_prefix rest (ms ++ [maskOf ms o.after.toList])
    exact ⟨maskOf ms o.after.toList :: tl, by rw [masksFrom, h1]; simp, by simp [h2]⟩

theorem masksFrom_get : ∀ (rest : List Oper) (ms : List Nat) (k : Nat) (o : Oper), rest[k]? = some o →
    (masksFrom ms rest)[ms.length + k]? = some (maskOf ((masksFrom ms rest).take (ms.length + k)) o.after.toList)
  | [], ms, k, o, h => by simp at h
  | x :: rest, ms, 0, o, h => by
    simp only [List.getElem?_cons_zero, Option.some.injEq] at h
    subst h
    obtain ⟨tl, h1, _⟩ := masksFrom_prefix rest (ms ++ [maskOf ms x.after.toList])
    rw [masksFrom, h1]
    simp
  | x :: rest, ms, k + 1, o, h => by
    have := masksFrom_get rest (ms ++ [maskOf ms x.after.toList]) k o (by simpa using h)
    have e : (ms ++ [maskOf ms x.after.toList]).length + k = ms.length + (k + 1) := by simp; omega
    rw [e] at this
    exact this

theorem masks_get {ops : Array Oper} {j : Nat} {o : Oper} (h : ops[j]? = some o) : (masks ops)[j]? = some (maskOf ((masks ops).take j) o.after.toList) := by
  have := masksFrom_get ops.toList [] j o (by simpa using h)
  simpa [masks] using this

theorem maskOf_bit {ms : List Nat} {i : Nat} : ∀ {es : List Edge}, Nat.testBit (maskOf ms es) i = true →
    ∃ e ∈ es, Region.binds .any e = true ∧ ∃ x, ms[e.on]? = some x ∧ (i = e.on ∨ Nat.testBit x i = true)
  | [], h => by simp [maskOf] at h
  | e :: es, h => by
    have ih := maskOf_bit (ms := ms) (i := i) (es := es)
    unfold maskOf at h
    split at h
    · obtain ⟨e', h1, h2⟩ := ih h
      exact ⟨e', by simp [h1], h2⟩
    · rename_i hb
      split at h
      · rename_i x hx
        have h' : ((maskOf ms es ||| x) ||| (1 <<< e.on)).testBit i = true := h
        rw [Nat.testBit_or, Nat.testBit_or, Bool.or_eq_true, Bool.or_eq_true] at h'
        rcases h' with (h' | h') | h'
        · obtain ⟨e', h1, h2⟩ := ih h'
          exact ⟨e', by simp [h1], h2⟩
        · exact ⟨e, by simp, hb, x, hx, .inr h'⟩
        · refine ⟨e, by simp, hb, x, hx, .inl ?_⟩
          rw [Nat.one_shiftLeft, Nat.testBit_two_pow] at h'
          simpa using (of_decide_eq_true h').symm
      · obtain ⟨e', h1, h2⟩ := ih h
        exact ⟨e', by simp [h1], h2⟩

/-- A set of listed operations with each of which all stand that come before it. -/
def Closed (ops : Array Oper) (L : Nat → Prop) : Prop := ∀ j o, ops[j]? = some o → L j → ∀ e ∈ o.after, Region.binds .any e = true → L e.on

theorem ahead_sound {ops : Array Oper} {L : Nat → Prop} (hL : Closed ops L) : ∀ (j i : Nat) (o : Oper), ops[j]? = some o → (∀ e ∈ o.after, Region.binds .any e = true → L e.on) → ahead (masks ops) i j = true → L i := by
  intro j
  induction j using Nat.strongRecOn with
  | _ j ih =>
    intro i o ho he ha
    unfold ahead at ha
    rw [masks_get ho] at ha
    simp only [] at ha
    obtain ⟨e, h1, h2, x, h3, h4⟩ := maskOf_bit ha
    have hLe := he e (by simpa using h1) h2
    rcases h4 with rfl | h4
    · exact hLe
    · rw [List.getElem?_take] at h3
      split at h3
      · rename_i hlt
        cases hoe : ops[e.on]? with
        | none =>
          have hlen : (masks ops).length = ops.size := by
            obtain ⟨tl, m1, m2⟩ := masksFrom_prefix ops.toList []
            unfold masks
            rw [m1]
            simpa using m2
          have := (List.getElem?_eq_some_iff.1 h3).1
          rw [hlen] at this
          rw [Array.getElem?_eq_none_iff] at hoe
          omega
        | some o' =>
          exact ih e.on hlt i o' hoe (hL e.on o' hoe hLe) (by unfold ahead; rw [h3]; exact h4)
      · cases h3

theorem apartFrom_get {ops : Array Oper} {ms : List Nat} {x : Oper} {i : Nat} : ∀ (rest : List Oper) (j : Nat), apartFrom ops ms x i j rest = true → ∀ k y, rest[k]? = some y → x.apart ops y = true ∨ ahead ms i (j + k) = true
  | [], j, _, k, y, hy => by simp at hy
  | z :: rest, j, h, k, y, hy => by
    unfold apartFrom at h
    simp only [Bool.and_eq_true, Bool.or_eq_true] at h
    cases k with
    | zero => cases hy; exact h.1
    | succ k =>
      have := apartFrom_get rest (j + 1) h.2 k y (by simpa using hy)
      rwa [show j + 1 + k = j + (k + 1) by omega] at this

theorem apartAll_get {ops : Array Oper} {ms : List Nat} : ∀ (rest : List Oper) (b : Nat), apartAll ops ms b rest = true → ∀ i k x y, rest[i]? = some x → rest[k]? = some y → i < k → x.apart ops y = true ∨ ahead ms (b + i) (b + k) = true
  | [], b, _, i, k, x, y, hx, _, _ => by simp at hx
  | z :: rest, b, h, i, k, x, y, hx, hy, hlt => by
    unfold apartAll at h
    rw [Bool.and_eq_true] at h
    obtain ⟨k, rfl⟩ : ∃ k', k = k' + 1 := ⟨k - 1, by omega⟩
    cases i with
    | zero =>
      cases hx
      have := apartFrom_get rest (b + 1) h.1 k y (by simpa using hy)
      rw [show b + 1 + k = b + (k + 1) by omega] at this
      simpa using this
    | succ i =>
      have := apartAll_get rest (b + 1) h.2 i k x y (by simpa using hx) (by simpa using hy) (by omega)
      rwa [show b + 1 + i = b + (i + 1) by omega, show b + 1 + k = b + (k + 1) by omega] at this

theorem edgesBack_get : ∀ (rest : List Oper) (b : Nat), edgesBack b rest = true → ∀ k o, rest[k]? = some o → ∀ e ∈ o.after, Region.binds .any e = true → e.on < b + k
  | [], b, _, k, o, ho, _, _, _ => by simp at ho
  | z :: rest, b, h, k, o, ho, e, he, hb => by
    unfold edgesBack at h
    rw [Bool.and_eq_true] at h
    cases k with
    | zero =>
      cases ho
      have := List.all_eq_true.1 h.1 e (by simpa using he)
      rw [hb] at this
      simpa using this
    | succ k =>
      have := edgesBack_get rest (b + 1) h.2 k o (by simpa using ho) e he hb
      omega

theorem loudFrom_get {ms : List Nat} {l : Nat} : ∀ (rest : List Oper) (b : Nat), loudFrom ms l b rest = true → ∀ k o, rest[k]? = some o → calmOp o.op = false → b + k ≠ l → (b + k < l → ahead ms (b + k) l = true) ∧ (l < b + k → ahead ms l (b + k) = true ∨ freshOp o = true)
  | [], b, _, k, o, ho, _, _ => by simp at ho
  | z :: rest, b, h, k, o, ho, hq, hne => by
    unfold loudFrom at h
    rw [Bool.and_eq_true] at h
    cases k with
    | zero =>
      cases ho
      have h1 := h.1
      rw [hq] at h1
      have hbl : Nat.beq b l = false := by
        cases hx : Nat.beq b l
        · rfl
        · exact absurd (by rw [Nat.beq_eq] at hx; omega) hne
      rw [hbl] at h1
      simp only [Bool.false_or] at h1
      cases hle : Nat.ble b l
      · rw [hle] at h1
        have : ¬ b ≤ l := fun hh => by rw [Nat.ble_eq_true_of_le hh] at hle; cases hle
        exact ⟨fun _ => by omega, fun _ => by
          change (_ || _) = true at h1
          rw [Bool.or_eq_true] at h1
          exact h1⟩
      · rw [hle] at h1
        have := Nat.le_of_ble_eq_true hle
        exact ⟨fun _ => h1, fun _ => by omega⟩
    | succ k =>
      have := loudFrom_get rest (b + 1) h.2 k o (by simpa using ho) hq (by omega)
      rwa [show b + 1 + k = b + (k + 1) by omega] at this

end Go.Abs

namespace Go.Abs
variable {P : Program} {B : Base} {callF : CallF} {seqF : SeqF}

/-- What is asked of a reader of results: a slot is read as it stands, a cell from memory. -/
structure ReadsOut (P : Program) (w : World) (tmps : Array Value) (g : ResultVar → Sem Value) : Prop where
  slot : ∀ (t : Tmp) (v : Value), tmps.getD t undef = v → (g (.tmp t)).run P w = .ok v w
  cell : ∀ (c : Tmp) (t : TypeId) (a : Addr) (v : Value), tmps.getD c undef = .pointer (some a) → (loadVar t a).run P w = .ok v w → (g (.cell c t)).run P w = .ok v w

theorem resultsOf_ok {σ : Real} {h : Heap} {w : World} (H : Rel P B σ h w) {T : Env} {tmps : Array Value} (hT : EnvOk σ T tmps) : ∀ {rs : List ResultVar} {vs : List AVal}, resultsOf P T h rs = some vs → okvs σ vs
  | [], vs, hr => by cases hr; exact trivial
  | .tmp t :: rs, vs, hr => by
    simp only [resultsOf, Option.bind_eq_some_iff, Option.map_eq_some_iff] at hr
    obtain ⟨v, hv, us, hu, rfl⟩ := hr
    exact ⟨(hT.val t v hv).1, resultsOf_ok H hT hu⟩
  | .cell c t :: rs, vs, hr => by
    simp only [resultsOf, Option.bind_eq_some_iff, Option.map_eq_some_iff] at hr
    obtain ⟨p, hp, v, hv, us, hu, rfl⟩ := hr
    exact ⟨(load_sound H (hT.val c p hp).1 hv).2, resultsOf_ok H hT hu⟩

theorem resultsOf_sound {σ : Real} {h : Heap} {w : World} (H : Rel P B σ h w) {T : Env} {tmps : Array Value} (hT : EnvOk σ T tmps) {g : ResultVar → Sem Value} (hg : ReadsOut P w tmps g) : ∀ {rs : List ResultVar} {vs : List AVal}, resultsOf P T h rs = some vs → (rs.mapM g).run P w = .ok (concs σ vs) w
  | [], vs, hr => by cases hr; rfl
  | .tmp t :: rs, vs, hr => by
    simp only [resultsOf, Option.bind_eq_some_iff, Option.map_eq_some_iff] at hr
    obtain ⟨v, hv, us, hu, rfl⟩ := hr
    obtain ⟨e1, e2⟩ := hT.val t v hv
    have f2 := resultsOf_sound H hT hg hu
    simp only [List.mapM_cons, Sem.run_bind, hg.slot t _ e2, Result.andThen_ok, f2, Sem.run_pure, concs]
  | .cell c t :: rs, vs, hr => by
    simp only [resultsOf, Option.bind_eq_some_iff, Option.map_eq_some_iff] at hr
    obtain ⟨p, hp, v, hv, us, hu, rfl⟩ := hr
    obtain ⟨e1, e2⟩ := hT.val c p hp
    have f2 := resultsOf_sound H hT hg hu
    obtain ⟨l1, l2⟩ := load_sound H e1 hv
    have hshape : ∃ q, p = .ptr (some q) := by
      unfold load at hv
      split at hv
      · exact ⟨_, rfl⟩
      · cases hv
    obtain ⟨q, rfl⟩ := hshape
    obtain ⟨b, hb, _⟩ := e1
    have hc : conc σ (.ptr (some q)) = .pointer (some (b.at q.off)) := by simp only [conc, hb, Option.map_some]
    rw [hc] at l1 e2
    have l1' : (loadVar t (b.at q.off)).run P w = .ok (conc σ v) w := l1
    simp only [List.mapM_cons, Sem.run_bind, hg.cell c t _ _ e2 l1', Result.andThen_ok, f2, Sem.run_pure, concs]

theorem results_sound {σ : Real} {h : Heap} {w : World} (H : Rel P B σ h w) {T : Env} {tmps : Array Value} (hT : EnvOk σ T tmps) {fn : Func} {v : AVal} (hr : resultOf P fn T h = some v) :
    (results fn tmps).run P w = .ok (conc σ v) w ∧ okv σ v := by
  unfold resultOf at hr
  simp only [Option.map_eq_some_iff] at hr
  obtain ⟨vs, hvs, hr⟩ := hr
  have hm : ∀ g : ResultVar → Sem Value, ReadsOut P w tmps g → (fn.results.mapM g).run P w = .ok (concs σ vs).toArray w := by
    intro g hg
    rw [Array.mapM_eq_mapM_toList, map_eq_pure_bind, Sem.run_bind, resultsOf_sound H hT hg hvs]
    rfl
  have e1 : okvs σ vs := resultsOf_ok H hT hvs
  unfold results
  rw [Sem.run_bind, hm _ ⟨fun t v hv => by simp only [Sem.run_pure, hv], fun c t a v hc hl => by simp only [hc, asAddr, Sem.run_bind, Sem.run_pure, Result.andThen_ok, hl]⟩]
  simp only [Result.andThen_ok]
  match vs, hr, e1 with
  | [u], hr, e1 => cases hr; exact ⟨rfl, e1.1⟩
  | [], hr, e1 => cases hr; exact ⟨rfl, trivial⟩
  | u :: u2 :: us, hr, e1 => cases hr; exact ⟨rfl, e1⟩

theorem enter_ok {σ : Real} {args : List AVal} (n : Nat) (hargs : okvs σ args) : EnvOk σ (enter args) ((concs σ args).toArray ++ Array.replicate n undef) := by
  have key : ∀ (l : List AVal) (i : Nat) (T : Env), E2.deep 4 T → E2.deep 4 (enterAt i l T) ∧ ∀ t v, (enterAt i l T).get t = some v → T.get t = some v ∧ t < i ∨ T.get t = some v ∧ i ≤ t ∨ ∃ j, t = i + j ∧ l[j]? = some v := by
    intro l
    induction l with
    | nil => intro i T hd; exact ⟨hd, fun t v hv => by rcases Nat.lt_or_ge t i with h | h; exact .inl ⟨hv, h⟩; exact .inr (.inl ⟨hv, h⟩)⟩
    | cons x l ih =>
      intro i T hd
      obtain ⟨d1, d2⟩ := ih (i + 1) (T.set i x) (E2.deep_set hd _ _)
      refine ⟨d1, fun t v hv => ?_⟩
      have aux : (T.set i x).get t = some v → (T.get t = some v ∧ t < i) ∨ (T.get t = some v ∧ i ≤ t) ∨ ∃ j, t = i + j ∧ (x :: l)[j]? = some v := by
        intro hg
        rw [E2.get_set _ hd] at hg
        by_cases ht : t = i
        · rw [if_pos ht] at hg
          split at hg
          · exact .inr (.inr ⟨0, by omega, hg⟩)
          · cases hg
        · rw [if_neg ht] at hg
          rcases Nat.lt_or_ge t i with h | h
          · exact .inl ⟨hg, h⟩
          · exact .inr (.inl ⟨hg, h⟩)
      rcases d2 t v hv with ⟨h1, _⟩ | ⟨h1, _⟩ | ⟨j, h1, h2⟩
      · exact aux h1
      · exact aux h1
      · exact .inr (.inr ⟨j + 1, by omega, h2⟩)
  obtain ⟨d1, d2⟩ := key args 0 .leaf (E2.deep_leaf 4)
  refine ⟨d1, fun t v hv => ?_⟩
  have hnone : E2.get (E2.leaf : Env) t = none := E2.get_leaf t
  rcases d2 t v hv with ⟨h1, _⟩ | ⟨h1, _⟩ | ⟨j, h1, h2⟩
  · rw [hnone] at h1; cases h1
  · rw [hnone] at h1; cases h1
  · obtain rfl : t = j := by omega
    have hlt := (List.getElem?_eq_some_iff.1 h2).1
    refine ⟨okvs_iff.1 hargs v (List.mem_iff_getElem?.2 ⟨_, h2⟩), ?_⟩
    have : ((concs σ args).toArray ++ Array.replicate n undef)[t]? = some (conc σ v) := by
      rw [Array.getElem?_append_left (by simpa [concs_length] using hlt)]
      simp [concs_eq, h2]
    rw [Array.getD_eq_getD_getElem?, this]
    rfl

theorem dstOk_mono {m n : Nat} (h : m ≤ n) {o : Oper} (ho : dstOk m o = true) : dstOk n o = true := by
  unfold dstOk at ho ⊢
  split at ho
  · rename_i d hd
    simp only [Nat.blt_eq] at ho ⊢
    omega
  · rfl

theorem goodCode_mono {m n : Nat} (h : m ≤ n) : ∀ c, goodCode m c = true → goodCode n c = true := by
  intro c
  induction c with
  | region id l d =>
    intro hg
    have hg' : goodRegion m l d = true := hg
    show goodRegion n l d = true
    unfold goodRegion at hg' ⊢
    rw [Bool.and_eq_true] at hg' ⊢
    exact ⟨List.all_eq_true.2 fun o ho => dstOk_mono h (List.all_eq_true.1 hg'.1 o ho), hg'.2⟩
  | seq x y ihx ihy =>
    intro hg
    have hg' : (goodCode m x && goodCode m y) = true := hg
    show (goodCode n x && goodCode n y) = true
    rw [Bool.and_eq_true] at hg' ⊢
    exact ⟨ihx hg'.1, ihy hg'.2⟩
  | cond c x y ihx ihy =>
    intro hg
    have hg' : (goodCode m x && goodCode m y) = true := hg
    show (goodCode n x && goodCode n y) = true
    rw [Bool.and_eq_true] at hg' ⊢
    exact ⟨ihx hg'.1, ihy hg'.2⟩
  | block id c ih => exact ih
  | loop c ih => exact ih
  | rangeFunc g ps x y ihx ihy =>
    intro hg
    have hg' : (goodCode m x && goodCode m y && flat x && flat y && ps.toList.all fun p => Nat.blt p m) = true := hg
    show (goodCode n x && goodCode n y && flat x && flat y && ps.toList.all fun p => Nat.blt p n) = true
    simp only [Bool.and_eq_true, List.all_eq_true, Nat.blt_eq] at hg' ⊢
    exact ⟨⟨⟨⟨ihx hg'.1.1.1.1, ihy hg'.1.1.1.2⟩, hg'.1.1.2⟩, hg'.1.2⟩, fun p hp => Nat.lt_of_lt_of_le (hg'.2 p hp) h⟩
  | _ => intro _; rfl

/-- What a step of the evaluator of calls says holds of the model's calls. -/
def StepSound (P : Program) (B : Base) (stepF : FuncId → List AVal → Heap → Option (AVal × Heap)) : Prop :=
  ∀ (f : FuncId) (args : List AVal) (h : Heap) (v : AVal) (h' : Heap) (σ : Real) (w : World) (o : Oper) (a : Act) (K : Act → World → Prop) (Q : Exit → Act → World → Prop) (r : Option Nat) (n : Nat),
    stepF f args h = some (v, h') → Rel P B σ h w → okvs σ args → Free σ h.next h'.next →
    (∀ σ' w', okv σ' v → Post P B σ h w σ' h' w' → K (a.put o.dst (conc σ' v)) w') →
    o.uponIn (wideR r) n P a K Q ((callFunc f (concs σ args).toArray).run P w)

/-- The evaluator of calls, and the model's calls. -/
theorem callStep_sound {ok : Nat} (hgood : ∀ f, Nat.testBit ok f = true → ∀ fn, P.funcs[f]? = some fn → goodFunc fn = true) (ih : CallSound P B callF) (hseq : SeqSound P B seqF) (hdraw : ∀ B, CallSound P B callF → DrawSound P B callF) :
    StepSound P B (callStep P ok callF seqF) := by
    intro f args h v h' σ w o a K Q r n hc H hargs hfree hK
    unfold callStep at hc
    split at hc
    · cases hc
    · rename_i hbit
      split at hc
      · cases hc
      · rename_i fn hf
        have hgf := hgood f hbit fn hf
        unfold goodFunc at hgf
        simp only [Bool.and_eq_true, Bool.not_eq_true'] at hgf
        obtain ⟨hname, hg⟩ := hgf
        split at hc
        · rename_i hb
          obtain ⟨σ', w', r1, r2, r3⟩ := extern_sound H hf hname hb hfree hc hargs
          rw [r1]
          exact hK σ' w' r2 r3
        · rename_i c hb
          rw [hb] at hg
          simp only [] at hg
          have h1 : fn.name ≠ "runtime.NumGoroutine" := by simpa using hname
          have hcf : (callFunc f (concs σ args).toArray).run P w = .ok (.enter f (concs σ args).toArray) w := by
            simp [callFunc, hf, h1, hb]
          rw [hcf, Oper.uponIn_enter]
          refine ⟨fun hd => (by cases hd), ?_⟩
          refine CallsIn.inRound (F := wideR none) 0 (callsIn_of_wp_marks (F := wideR none) hf hb trivial ?_)
          generalize hA : ({ tmps := (concs σ args).toArray ++ Array.replicate (fn.ntmps - (concs σ args).toArray.size) undef, defers := [] } : Act) = A
          have hAt : A.tmps = (concs σ args).toArray ++ Array.replicate (fn.ntmps - (concs σ args).toArray.size) undef := by rw [← hA]
          have hAd : A.defers = [] := by rw [← hA]
          have hT : EnvOk σ (enter args) A.tmps := by rw [hAt]; exact enter_ok _ hargs
          have hgA : goodCode A.tmps.size c = true := goodCode_mono (by rw [hAt]; simp; omega) c hg
          have key : ∀ (e : AExit) (T2 : Env) (h2 : Heap) (u : AVal), code P callF seqF c (enter args) h = some (e, T2, h2) → (e = .normal ∨ e = .ret) → resultOf P fn T2 h2 = some u → v = u → h' = h2 →
              c.wpIn (wideR none) (n - 1) P (bodyPostM (wideR none) (n - 1) P fn fun
                | .returned v, w'' => K (a.put o.dst v) w''
                | .panicked chain, w'' => Q (.panic chain) a w''
                | .outgrown, _ => LetsOut Q) A w := by
            rintro e T2 h2 u hr he hu rfl rfl
            refine wpIn_mono (code_sound hdraw c B none (n - 1) _ _ _ _ _ σ A w ih hseq (.inl rfl) hr hgA H hT hfree) ?_
            rintro e' a' w' ⟨rfl, σ', p1, p2, p3, l, el, hn, ha⟩
            rw [hAd, List.append_nil] at el
            have hlv : LeavesInM (wideR none) (n - 1) P fn a'.tmps (fun
                | .returned v, w'' => K (a.put o.dst v) w''
                | .panicked chain, w'' => Q (.panic chain) a w''
                | .outgrown, _ => LetsOut Q) a'.defers .returning w' := by
              rw [el]
              refine leaves_marks H l w' p1 hn ha fun w2 hp2 => ?_
              obtain ⟨s1, s2⟩ := results_sound hp2.rel p2 hu
              exact ⟨_, s1, hK σ' w2 s2 hp2⟩
            rcases he with rfl | rfl
            · exact hlv
            · exact hlv
          unfold finish at hc
          split at hc
          · rename_i T h2 hr
            simp only [Option.map_eq_some_iff] at hc
            obtain ⟨u, hu, hc⟩ := hc
            cases hc
            exact key _ _ _ _ hr (.inl rfl) hu rfl rfl
          · rename_i T h2 hr
            simp only [Option.map_eq_some_iff] at hc
            obtain ⟨u, hu, hc⟩ := hc
            cases hc
            exact key _ _ _ _ hr (.inr rfl) hu rfl rfl
          · cases hc

/-- What the handlers say holds. -/
def YieldSound (P : Program) (B : Base) (Y : YieldF) : Prop := ∀ i, HandSound P B i (Y i)

theorem HandSound.lift {B' : Base} (hB : B.le B') {i : Nat} {hd : List AVal → Heap → Option (AVal × Heap)} (H : HandSound P B i hd) : HandSound P B' i hd := by
  intro args h v h' σ w o a K Q r n hc R hfn hargs hf hK
  exact H args h v h' σ w o a K Q r n hc (R.less hB.1 hB.2.1 hB.2.2) hfn hargs hf fun σ' w' h1 h2 => hK σ' w' h1 (h2.lift hB.1.symm hf R)

theorem YieldSound.ext {B' : Base} {Y : YieldF} {i : Nat} {hd : List AVal → Heap → Option (AVal × Heap)} (hY : YieldSound P B Y) (hB : B.le B') (hh : HandSound P B' i hd) : YieldSound P B' (Y.ext i hd) := by
  intro j
  cases hb : Nat.beq j i with
  | true =>
    have e : j = i := Nat.eq_of_beq_eq_true hb
    subst e
    have : Y.ext j hd j = hd := by funext args h; simp only [YieldF.ext, hb]
    rw [this]
    exact hh
  | false =>
    have : Y.ext i hd j = Y j := by funext args h; simp only [YieldF.ext, hb]
    rw [this]
    exact (hY j).lift hB

theorem YieldSound.none : YieldSound P B (fun _ _ _ => none) := by
  intro i args h v h' σ w o a K Q r n hc
  cases hc

theorem callY_sound {ok : Nat} (hgood : ∀ f, Nat.testBit ok f = true → ∀ fn, P.funcs[f]? = some fn → goodFunc fn = true) (hdraw : ∀ callF, ∀ B, CallSound P B callF → DrawSound P B callF) :
    ∀ (d : Nat) (B : Base) (Y : YieldF), YieldSound P B Y → CallSound P B (callY P ok d Y) := by
  intro d
  induction d with
  | zero => intro B Y hY f args h v h' σ w o a K Q r n hc; cases hc
  | succ d ih =>
    intro B Y hY fn args h v h' σ w o a K Q r n hc H hfn hargs hf hK
    have hc' : callWith P ok (callY P ok d) Y fn args h = some (v, h') := hc
    unfold callWith at hc'
    cases fn with
    | func f => exact callStep_sound hgood (ih B Y hY) (fun B' i hd hB hh => ih B' (Y.ext i hd) (hY.ext hB hh)) (hdraw _) f args h v h' σ w o a K Q r n hc' H hargs hf hK
    | yield i => exact hY i args h v h' σ w o a K Q r n hc' H hfn hargs hf hK
    | _ => cases hc'

end Go.Abs

namespace Go.Abs
variable {P : Program} {B : Base} {callF : CallF}

/-! ### Quiet operations -/

theorem ret_bind {α : Type} (x : Option α) (f : α → Option AVal) (h : Heap) : (x.bind fun a => ret (f a) h) = ret (x.bind f) h := by cases x <;> rfl

theorem binOp_still {op : BinOp} (h1 : op ≠ .eql) (h2 : op ≠ .neq) (t : TypeId) (x y : Operand) (a b : AVal) (h h' : Heap) : binOp P op t x y a b h = binOp P op t x y a b h' := by
  cases op <;> first | rfl | exact absurd rfl h1 | exact absurd rfl h2

theorem quiet_form {op : Op} (hq : quietOp op = true) (T : Env) : ∃ r, ∀ h, oper P callF op T h = ret r h := by
  cases op with
  | move x => exact ⟨eval P T x, fun h => by show at_move P x T h = _; unfold at_move; cases eval P T x <;> rfl⟩
  | assign x => exact ⟨eval P T x, fun h => by show at_move P x T h = _; unfold at_move; cases eval P T x <;> rfl⟩
  | pick c x y =>
    cases hc : eval P T c with
    | none => exact ⟨none, fun h => by show at_pick P c x y T h = _; unfold at_pick; rw [hc]; rfl⟩
    | some u =>
      cases u with
      | bool b =>
        cases b with
        | true => exact ⟨eval P T x, fun h => by show at_pick P c x y T h = _; unfold at_pick; rw [hc]⟩
        | false => exact ⟨eval P T y, fun h => by show at_pick P c x y T h = _; unfold at_pick; rw [hc]⟩
      | _ => exact ⟨none, fun h => by show at_pick P c x y T h = _; unfold at_pick; rw [hc]; rfl⟩
  | build t ps => exact ⟨(parts? P T ps.toList).bind fun ps => build P t ps, fun h => ret_bind _ _ h⟩
  | nilCheck x =>
    cases hx : eval P T x with
    | none => exact ⟨none, fun h => by show at_nilCheck P x T h = _; unfold at_nilCheck; rw [hx]; rfl⟩
    | some u =>
      cases u with
      | ptr p => cases p with
        | none => exact ⟨none, fun h => by show at_nilCheck P x T h = _; unfold at_nilCheck; rw [hx]; rfl⟩
        | some p => exact ⟨some (.ptr (some p)), fun h => by show at_nilCheck P x T h = _; unfold at_nilCheck; rw [hx]; rfl⟩
      | slice p n c => exact ⟨some (.slice p n c), fun h => by show at_nilCheck P x T h = _; unfold at_nilCheck; rw [hx]; rfl⟩
      | _ => exact ⟨none, fun h => by show at_nilCheck P x T h = _; unfold at_nilCheck; rw [hx]; rfl⟩
  | binOp bop t x y yt =>
    have h1 : bop ≠ .eql := fun e => by subst e; cases hq
    have h2 : bop ≠ .neq := fun e => by subst e; cases hq
    refine ⟨(eval P T x).bind fun a => (eval P T y).bind fun b => binOp P bop t x y a b ⟨.leaf, 0, 0⟩, fun h => ?_⟩
    show at_binOp P bop t x y T h = _
    unfold at_binOp
    cases eval P T x with
    | none => rfl
    | some a => cases eval P T y with
      | none => rfl
      | some b => show ret (binOp P bop t x y a b h) h = ret (binOp P bop t x y a b ⟨.leaf, 0, 0⟩) h; rw [binOp_still h1 h2 t x y a b h ⟨.leaf, 0, 0⟩]
  | unOp uop t x => exact ⟨(eval P T x).bind fun a => unOp uop a, fun h => ret_bind _ _ h⟩
  | makeInterface t x =>
    cases hx : eval P T x with
    | none => exact ⟨none, fun h => by show at_makeInterface P t x T h = _; unfold at_makeInterface; rw [hx]; rfl⟩
    | some u =>
      cases hu : P.underlying t with
      | none => exact ⟨none, fun h => by show at_makeInterface P t x T h = _; unfold at_makeInterface; rw [hx, hu]; rfl⟩
      | some d =>
        cases d with
        | interface m => exact ⟨none, fun h => by show at_makeInterface P t x T h = _; unfold at_makeInterface; rw [hx, hu]; rfl⟩
        | _ => exact ⟨some (.iface t u), fun h => by show at_makeInterface P t x T h = _; unfold at_makeInterface; rw [hx, hu]; rfl⟩
  | makeFunc fn first cap =>
    refine ⟨(evals P T first.toList).bind fun a => (evals P T cap.toList).bind fun b => match fn with
      | .yield _ => none
      | fn => some (.func fn a b), fun h => ?_⟩
    show at_makeFunc P fn first cap T h = _
    unfold at_makeFunc
    cases evals P T first.toList with
    | none => rfl
    | some a => cases evals P T cap.toList <;> cases fn <;> rfl
  | fieldAddr s x i => exact ⟨(eval P T x).bind fun x => fieldAddr P s x i, fun h => ret_bind _ _ h⟩
  | field s x i => exact ⟨(eval P T x).bind fun x => fieldOf P s x i, fun h => ret_bind _ _ h⟩
  | indexAddr t x y =>
    refine ⟨(eval P T x).bind fun x => (eval P T y).bind fun i => indexAddr P t x i, fun h => ?_⟩
    show at_indexAddr P t x y T h = _
    unfold at_indexAddr
    cases eval P T x with
    | none => rfl
    | some a => exact ret_bind _ _ h
  | index t x y =>
    refine ⟨(eval P T x).bind fun x => (eval P T y).bind fun i => index P t x i, fun h => ?_⟩
    show at_index P t x y T h = _
    unfold at_index
    cases eval P T x with
    | none => rfl
    | some a => exact ret_bind _ _ h
  | extract x i => exact ⟨(eval P T x).bind fun x => extract x i, fun h => ret_bind _ _ h⟩
  | _ => cases hq

theorem quiet_oper {op : Op} (hq : quietOp op = true) {T : Env} {h h' : Heap} {v : AVal} (ho : oper P callF op T h = some (v, h')) : h' = h ∧ ∀ h2, oper P callF op T h2 = some (v, h2) := by
  obtain ⟨r, hr⟩ := quiet_form (P := P) (callF := callF) hq T
  rw [hr] at ho
  obtain ⟨rfl, rfl⟩ := ret_some ho
  exact ⟨rfl, fun h2 => by rw [hr]; rfl⟩

theorem calm_oper {op : Op} (hq : calmOp op = true) {T : Env} {h h' : Heap} {v : AVal} (ho : oper P callF op T h = some (v, h')) : h' = h := by
  cases op with
  | load t x =>
    change at_load P t x T h = some (v, h') at ho
    unfold at_load at ho
    simp only [Option.bind_eq_some_iff] at ho
    obtain ⟨a, _, ho⟩ := ho
    exact (ret_some ho).2
  | _ => exact (quiet_oper (by exact hq) ho).1

theorem ptrEq_sound {p q : APtr} (h : ptrEq p q = true) : p = q := by
  cases p; cases q
  simp only [ptrEq, Bool.and_eq_true, Nat.beq_eq] at h
  obtain ⟨⟨h1, h2⟩, h3⟩ := h
  simp only [APtr.mk.injEq]
  exact ⟨h1, h2, h3⟩
theorem optEq_sound {p q : Option APtr} (h : optEq p q = true) : p = q := by
  cases p with
  | none => cases q with
    | none => rfl
    | some q => cases h
  | some p => cases q with
    | none => cases h
    | some q => rw [ptrEq_sound h]
theorem capEq_sound {c d : ACap} (h : capEq c d = true) : c = d := by
  cases c <;> cases d <;> simp_all [capEq]
theorem plainEq_sound {a b : AVal} (h : plainEq a b = true) : a = b := by
  unfold plainEq at h
  split at h
  · rw [beq_iff_eq.1 h]
  · rw [Bool.and_eq_true] at h
    rw [beq_iff_eq.1 h.1, beq_iff_eq.1 h.2]
  · rw [beq_iff_eq.1 h]
  · rw [optEq_sound h]
  · simp only [Bool.and_eq_true, Nat.beq_eq] at h
    rw [optEq_sound h.1.1, h.1.2, capEq_sound h.2]
  · simp only [Bool.and_eq_true, Nat.beq_eq] at h
    rw [ptrEq_sound h.1.1, h.1.2, h.2]
  · rfl
  · rw [Nat.beq_eq] at h; rw [h]
  · rfl
  · rfl
  · cases h
theorem plainsEq_sound : ∀ {as bs : List AVal}, plainsEq as bs = true → as = bs
  | [], [], _ => rfl
  | [], _ :: _, h => by cases h
  | _ :: _, [], h => by cases h
  | a :: as, b :: bs, h => by
    unfold plainsEq at h
    rw [Bool.and_eq_true] at h
    rw [plainEq_sound h.1, plainsEq_sound h.2]
theorem valEq_sound {a b : AVal} (h : valEq a b = true) : a = b := by
  unfold valEq at h
  split at h
  · rw [plainsEq_sound h]
  · rw [Bool.and_eq_true] at h
    rw [of_decide_eq_true h.1, plainEq_sound h.2]
  · exact plainEq_sound h
theorem sameLoad_sound {t : TypeId} {a : AVal} {h h' : Heap} (hs : sameLoad P t a h h' = true) : ∃ v, load P t a h = some v ∧ load P t a h' = some v := by
  unfold sameLoad at hs
  split at hs
  · rename_i v hv
    split at hs
    · rename_i u hu
      exact ⟨v, hv, by rw [hu, valEq_sound hs]⟩
    · cases hs
  · cases hs

/-! ### The states of a region, one by one -/

theorem wp_some {o : Oper} {a : Act} {w : World} {K : Act → World → Prop} (h : o.wpIn (wideR none) 0 P a w K (fun _ _ _ => False)) : ∃ a' w', K a' w' := by
  obtain ⟨_, h⟩ := h
  have room : ∀ k, (wideR none).room k := fun k d hd => by cases hd
  generalize (o.semAt (wideR none).round a.eval).run P w = r at h
  cases r with
  | ok n w' =>
    cases n with
    | value v => exact ⟨_, _, h⟩
    | skip => exact ⟨_, _, h⟩
    | defer d => exact ⟨_, _, h⟩
    | enter f args =>
      obtain ⟨_, _, h⟩ := h
      obtain ⟨e, w2, fr, hR, _⟩ := h [] (room _)
      cases e with
      | returned v => exact ⟨_, _, hR⟩
      | panicked c => exact hR.elim
      | outgrown => obtain ⟨_, _, hf⟩ := hR; exact hf.elim
    | row r args =>
      obtain ⟨_, h⟩ := h
      obtain ⟨v, w2, hR, _⟩ := h default [] (room _)
      exact ⟨_, _, hR⟩
    | round l f tmps x y =>
      obtain ⟨_, _, h⟩ := h
      obtain ⟨e, w2, hR, _⟩ := h default [] (room _)
      cases e with
      | returned v => exact ⟨_, _, hR⟩
      | panicked c => exact hR.elim
      | outgrown => obtain ⟨_, _, hf⟩ := hR; exact hf.elim
    | _ => exact h.elim
  | halt x w' =>
    cases x with
    | panic v => exact h.elim
    | _ => exact h.elim

theorem checkLoud_mem {ms : List Nat} {i : Nat} {h' : Heap} : ∀ {rs : Reads1}, checkLoud P ms i h' rs = true → ∀ (j : Nat) (t : TypeId) (a : AVal) (hj : Heap), (j, t, a, hj) ∈ rs → ahead ms j i = true ∨ sameLoad P t a hj h' = true
  | [], _, _, _, _, _, hm => by cases hm
  | (j0, t0, a0, h0) :: rs, hc, j, t, a, hj, hm => by
    unfold checkLoud at hc
    rw [Bool.and_eq_true, Bool.or_eq_true] at hc
    rcases List.mem_cons.1 hm with e | hm
    · cases e; exact hc.1
    · exact checkLoud_mem hc.2 j t a hj hm
theorem checkRead_mem {ms : List Nat} {i : Nat} {t : TypeId} {a : AVal} {h : Heap} : ∀ {ss : Snaps}, checkRead P ms i t a h ss = true → ∀ (k : Nat) (hk : Heap), (k, hk) ∈ ss → ahead ms k i = true ∨ sameLoad P t a h hk = true
  | [], _, _, _, hm => by cases hm
  | (k0, h0) :: ss, hc, k, hk, hm => by
    unfold checkRead at hc
    rw [Bool.and_eq_true, Bool.or_eq_true] at hc
    rcases List.mem_cons.1 hm with e | hm
    · cases e; exact hc.1
    · exact checkRead_mem hc.2 k hk hm

theorem loadOf_calm {all : Array Oper} {o : Oper} {T : Env} {t : TypeId} {a : AVal} (h : loadOf P all o T = some (t, a)) : ∃ x, o.op = .load t x ∧ wanted all T o = some true ∧ eval P T x = some a := by
  unfold loadOf at h
  split at h
  · rename_i t' x hop
    split at h
    · rename_i hw
      simp only [Option.map_eq_some_iff] at h
      obtain ⟨a', ha, e⟩ := h
      cases e
      exact ⟨x, hop, hw, ha⟩
    · cases h
  · cases h
theorem flag_calm {o : Oper} {h h' : Heap} (hf : flagAt o h h' = true) : calmOp o.op = false ∧ ¬ h.next ≤ h'.low := by
  unfold flagAt at hf
  split at hf
  · cases hf
  · rename_i hb
    exact ⟨by simpa using hf, fun hh => by rw [Nat.ble_eq_true_of_le hh] at hb; cases hb⟩

/-- What stands behind an operation, by its kinds. -/
theorem behind_cases {all : Array Oper} {o : Oper} {i : Nat} {rs rs1 : Reads1} {ss ss1 : Snaps} {T : Env} {h h1 : Heap} (hb : behindD P all o i rs ss T h h1 = some (rs1, ss1)) :
    (∀ r ∈ rs, r ∈ rs1) ∧ (∀ s ∈ ss, s ∈ ss1) ∧ (flagAt o h h1 = true → checkLoud P (masks all) i h1 rs = true ∧ (i, h) ∈ ss1) ∧
    (∀ t a, loadOf P all o T = some (t, a) → checkRead P (masks all) i t a h ss = true ∧ (i, t, a, h) ∈ rs1) := by
  unfold behindD at hb
  split at hb
  · rename_i hf
    split at hb
    · rename_i hc
      cases hb
      refine ⟨fun r hr => hr, fun s hs => List.mem_cons_of_mem _ hs, fun _ => ⟨hc, List.mem_cons_self ..⟩, fun t a hl => ?_⟩
      obtain ⟨x, hop, _, _⟩ := loadOf_calm hl
      have := (flag_calm hf).1
      rw [hop] at this
      cases this
    · cases hb
  · rename_i hf
    split at hb
    · rename_i t a hl
      split at hb
      · rename_i hc
        cases hb
        refine ⟨fun r hr => List.mem_cons_of_mem _ hr, fun s hs => hs, fun hf' => (by rw [hf] at hf'; cases hf'), fun t' a' hl' => ?_⟩
        rw [hl] at hl'
        cases hl'
        exact ⟨hc, List.mem_cons_self ..⟩
      · cases hb
    · rename_i hl
      cases hb
      refine ⟨fun r hr => hr, fun s hs => hs, fun hf' => (by rw [hf] at hf'; cases hf'), fun t' a' hl' => ?_⟩
      rw [hl] at hl'
      cases hl'

theorem trace_of {all : Array Oper} : ∀ (ls : List Oper) (i : Nat) (rs : Reads1) (ss : Snaps) (T T' : Env) (h h' : Heap), opsD P callF all ls i rs ss T h = some (T', h') →
    ∃ (Ts : Nat → Env) (hs : Nat → Heap), Ts i = T ∧ hs i = h ∧ Ts (i + ls.length) = T' ∧ hs (i + ls.length) = h' ∧
      (∀ k o, ls[k]? = some o → opAtD P callF all o (i + k) (Ts (i + k)) (hs (i + k)) = some (Ts (i + k + 1), hs (i + k + 1))) ∧
      (∀ k o, ls[k]? = some o → flagAt o (hs (i + k)) (hs (i + k + 1)) = true →
        (∀ j t a hj, (j, t, a, hj) ∈ rs → ahead (masks all) j (i + k) = true ∨ sameLoad P t a hj (hs (i + k + 1)) = true) ∧
        ∀ j oj t a, j < k → ls[j]? = some oj → loadOf P all oj (Ts (i + j)) = some (t, a) → ahead (masks all) (i + j) (i + k) = true ∨ sameLoad P t a (hs (i + j)) (hs (i + k + 1)) = true) ∧
      (∀ k o t a, ls[k]? = some o → loadOf P all o (Ts (i + k)) = some (t, a) →
        (∀ q hq, (q, hq) ∈ ss → ahead (masks all) q (i + k) = true ∨ sameLoad P t a (hs (i + k)) hq = true) ∧
        ∀ q oq, q < k → ls[q]? = some oq → flagAt oq (hs (i + q)) (hs (i + q + 1)) = true → ahead (masks all) (i + q) (i + k) = true ∨ sameLoad P t a (hs (i + k)) (hs (i + q)) = true)
  | [], i, rs, ss, T, T', h, h', ho => by
    cases ho
    exact ⟨fun _ => T, fun _ => h, rfl, rfl, rfl, rfl, fun k o hk => by simp at hk, fun k o hk => by simp at hk, fun k o t a hk => by simp at hk⟩
  | o :: ls, i, rs, ss, T, T', h, h', ho => by
    obtain ⟨T1, h1, rs1, ss1, k1, kb, k2⟩ := opsD_cons ho
    obtain ⟨b1, b2, b3, b4⟩ := behind_cases kb
    obtain ⟨Ts, hs, e1, e2, e3, e4, e5, e6, e7⟩ := trace_of ls (i + 1) rs1 ss1 T1 T' h1 h' k2
    have hlen : i + (o :: ls).length = i + 1 + ls.length := by simp; omega
    let Ts' : Nat → Env := fun q => if q = i then T else Ts q
    let hs' : Nat → Heap := fun q => if q = i then h else hs q
    have t0 : Ts' i = T := by simp [Ts']
    have h0 : hs' i = h := by simp [hs']
    have tS : ∀ k, Ts' (i + (k + 1)) = Ts (i + 1 + k) := by intro k; simp only [Ts']; rw [if_neg (by omega), show i + (k + 1) = i + 1 + k by omega]
    have hS : ∀ k, hs' (i + (k + 1)) = hs (i + 1 + k) := by intro k; simp only [hs']; rw [if_neg (by omega), show i + (k + 1) = i + 1 + k by omega]
    have hS1 : hs' (i + 0 + 1) = h1 := by rw [show i + 0 + 1 = i + (0 + 1) by omega, hS 0]; exact e2
    have hS2 : ∀ k, hs' (i + (k + 1) + 1) = hs (i + 1 + k + 1) := by intro k; rw [show i + (k + 1) + 1 = i + (k + 1 + 1) by omega, hS (k + 1)]; rfl
    have hidx : ∀ k, i + (k + 1) = i + 1 + k := fun k => by omega
    refine ⟨Ts', hs', t0, h0, ?_, ?_, ?_, ?_, ?_⟩
    · simp only [Ts']; rw [if_neg (by simp), hlen]; exact e3
    · simp only [hs']; rw [if_neg (by simp), hlen]; exact e4
    · intro k x hx
      cases k with
      | zero =>
        cases hx
        rw [Nat.add_zero, t0, h0, show i + 1 = i + (0 + 1) by omega, tS 0, hS 0, Nat.add_zero, e1, e2]
        exact k1
      | succ k =>
        have := e5 k x (by simpa using hx)
        rw [tS k, hS k, hS2 k, show i + (k + 1) + 1 = i + (k + 1 + 1) by omega, tS (k + 1), hidx k]
        exact this
    · intro k x hx hf
      cases k with
      | zero =>
        cases hx
        rw [hS1, Nat.add_zero, h0] at hf
        obtain ⟨c1, _⟩ := b3 hf
        refine ⟨fun j t a hj hm => ?_, fun j oj t a hj => by omega⟩
        rw [hS1, Nat.add_zero]
        exact checkLoud_mem c1 j t a hj hm
      | succ k =>
        rw [hS k, hS2 k] at hf
        obtain ⟨c1, c2⟩ := e6 k x (by simpa using hx) hf
        rw [hS2 k, hidx k]
        refine ⟨fun j t a hj hm => c1 j t a hj (b1 _ hm), fun j oj t a hj hoj hl => ?_⟩
        cases j with
        | zero =>
          cases hoj
          rw [Nat.add_zero, t0] at hl
          rw [Nat.add_zero, h0]
          exact c1 i t a h (b4 t a hl).2
        | succ j =>
          rw [tS j] at hl
          rw [hS j, hidx j]
          exact c2 j oj t a (by omega) (by simpa using hoj) hl
    · intro k x t a hx hl
      cases k with
      | zero =>
        cases hx
        rw [Nat.add_zero, t0] at hl
        obtain ⟨c1, _⟩ := b4 t a hl
        refine ⟨fun q hq hm => ?_, fun q oq hq => by omega⟩
        rw [Nat.add_zero, h0]
        exact checkRead_mem c1 q hq hm
      | succ k =>
        rw [tS k] at hl
        obtain ⟨c1, c2⟩ := e7 k x t a (by simpa using hx) hl
        rw [hS k, hidx k]
        refine ⟨fun q hq hm => c1 q hq (b2 _ hm), fun q oq hq hoq hf => ?_⟩
        cases q with
        | zero =>
          cases hoq
          rw [hS1, Nat.add_zero, h0] at hf
          rw [Nat.add_zero, h0]
          exact c1 i h (b3 hf).2
        | succ q =>
          rw [hS q, hS2 q] at hf
          rw [hS q, hidx q]
          exact c2 q oq (by omega) (by simpa using hoq) hf

structure HOk (h : Heap) : Prop where
  deep : L4.deep 8 h.objs
  dom : ∀ f, h.next ≤ f → h.obj f = none
  full : ∀ f c, h.obj f = some (.cells c) → CWf c

theorem Rel.hok {σ : Real} {h : Heap} {w : World} (H : Rel P B σ h w) : HOk h := ⟨H.deep, H.dom, H.full⟩

/-- All that was there before is as it was. -/
def Soft (h h' : Heap) : Prop := ∀ f, f < h.next → h'.obj f = h.obj f

/-- The step leaves alone all that was there, and the evaluator has seen so. -/
def Still (P : Program) (callF : CallF) (l : Array Oper) (Ts : Nat → Env) (hs : Nat → Heap) (q : Nat) : Prop :=
  Soft (hs q) (hs (q + 1)) ∧ ∀ (o : Oper) (v : AVal) (h2 : Heap), l[q]? = some o → wanted l (Ts q) o = some true → oper P callF o.op (Ts q) { hs q with low := (hs q).next } = some (v, h2) → (hs q).next ≤ h2.low

/-- The states of a region that is run in the order in which it stands. -/
structure Run (P : Program) (callF : CallF) (l : Array Oper) (N : Nat) (Ts : Nat → Env) (hs : Nat → Heap) : Prop where
  step : ∀ q o, l[q]? = some o → opAtD P callF l o q (Ts q) (hs q) = some (Ts (q + 1), hs (q + 1))
  good : goodRegion N l true = true
  deepT : ∀ q, q ≤ l.size → E2.deep 4 (Ts q)
  ok : ∀ q, q ≤ l.size → HOk (hs q)
  next : ∀ q, q < l.size → (hs q).next ≤ (hs (q + 1)).next
  low : ∀ q, q < l.size → (hs (q + 1)).low ≤ (hs q).low
  keep : ∀ q, q < l.size → ∀ f, f < (hs q).next → (hs (q + 1)).writable f = (hs q).writable f
  soft : ∀ q, q < l.size → ∀ f, f < (hs q).next → f < (hs (q + 1)).low → (hs (q + 1)).obj f = (hs q).obj f
  loud : ∀ q o, l[q]? = some o → Still P callF l Ts hs q ∨ (loudOk l q = true ∧ calmOp o.op = false ∧ wanted l (Ts q) o = some true)
  reads : ∀ j o t a, l[j]? = some o → loadOf P l o (Ts j) = some (t, a) → ∃ v, load P t a (hs j) = some v ∧ ∀ q oq, l[q]? = some oq → ¬ Still P callF l Ts hs q →
    (q < j → ahead (masks l) q j = true ∨ load P t a (hs q) = some v) ∧ (j < q → ahead (masks l) j q = true ∨ load P t a (hs (q + 1)) = some v)

theorem low_step {a b : Nat} : (match Nat.ble a b with | true => a | false => b) ≤ a ∧ (match Nat.ble a b with | true => a | false => b) ≤ b ∧ (∀ c, c ≤ a → c ≤ b → c ≤ (match Nat.ble a b with | true => a | false => b)) := by
  cases h : Nat.ble a b
  · have : ¬ a ≤ b := fun hh => by rw [Nat.ble_eq_true_of_le hh] at h; cases h
    exact ⟨by simp only []; omega, Nat.le_refl _, fun c _ h2 => h2⟩
  · have := Nat.le_of_ble_eq_true h
    exact ⟨Nat.le_refl _, this, fun c h1 _ => h1⟩

theorem run_of (hcall : CallSound P B callF) {l : Array Oper} {T T' : Env} {h h' : Heap} {σ : Real} {a : Act} {w : World} (ho : opsD P callF l l.toList 0 [] [] T h = some (T', h')) (hg : goodRegion a.tmps.size l true = true)
    (H : Rel P B σ h w) (hT : EnvOk σ T a.tmps) (hf : Free σ h.next h'.next) :
    ∃ Ts hs, Run P callF l a.tmps.size Ts hs ∧ Ts 0 = T ∧ hs 0 = h ∧ Ts l.size = T' ∧ hs l.size = h' := by
  obtain ⟨Ts, hs, e1, e2, e3, e4, e5, e6, e7⟩ := trace_of l.toList 0 [] [] T T' h h' ho
  have hsize : 0 + l.toList.length = l.size := by simp
  rw [hsize] at e3 e4
  have step : ∀ (q : Nat) (o : Oper), l[q]? = some o → opAtD P callF l o q (Ts q) (hs q) = some (Ts (q + 1), hs (q + 1)) := by
    intro q o hq
    have := e5 q o (by simpa using hq)
    simpa using this
  have next : ∀ q, q < l.size → (hs q).next ≤ (hs (q + 1)).next := by
    intro q hq
    obtain ⟨o, hoq⟩ : ∃ o, l[q]? = some o := ⟨l[q], by simp [hq]⟩
    rcases opAtD_cases (step q o hoq) with ⟨_, _, e⟩ | ⟨_, v, h2, _, _, hn, _, e⟩
    · rw [e]; exact Nat.le_refl _
    · rw [e]; exact hn
  have nexts : ∀ d q, q + d = l.size → (hs q).next ≤ (hs l.size).next := by
    intro d
    induction d with
    | zero => intro q hq; rw [show q = l.size by omega]; exact Nat.le_refl _
    | succ d ih => intro q hq; exact Nat.le_trans (next q (by omega)) (ih (q + 1) (by omega))
  have hdst : ∀ (q : Nat) (o : Oper), l[q]? = some o → dstOk a.tmps.size o = true := by
    intro q o hq
    unfold goodRegion at hg
    rw [Bool.and_eq_true] at hg
    exact List.all_eq_true.1 hg.1 o (by simpa using List.mem_of_getElem? (by simpa using hq : l.toList[q]? = some o))
  -- the states, and what a step of them is
  have key : ∀ q, q ≤ l.size → ∃ (σq : Real) (wq : World) (aq : Act), Rel P B σq (hs q) wq ∧ EnvOk σq (Ts q) aq.tmps ∧ Free σq (hs q).next (hs l.size).next ∧ aq.tmps.size = a.tmps.size := by
    intro q
    induction q with
    | zero => intro _; exact ⟨σ, w, a, by rw [e2]; exact H, by rw [e1]; exact hT, by rw [e2, e4]; exact hf, rfl⟩
    | succ q ih =>
      intro hq
      obtain ⟨σq, wq, aq, k1, k2, k3, k4⟩ := ih (by omega)
      obtain ⟨o, hoq⟩ : ∃ o, l[q]? = some o := ⟨l[q], by simp⟩
      have hd := dst_lt (hdst q o hoq)
      have hnl := nexts (l.size - (q + 1)) (q + 1) (by omega)
      rcases opAtD_cases (step q o hoq) with ⟨_, eT, eh⟩ | ⟨_, v, h2, hop, eT, hn, _, eh⟩
      · refine ⟨σq, wq, aq.put o.dst undef, by rw [eh]; exact k1, ?_, by rw [eh]; exact k3, by rw [size_put]; exact k4⟩
        rw [eT]
        exact k2.putD (v := .tuple []) (fun d hd' => by rw [k4]; exact hd d hd') trivial
      · have hnx : h2.next = (hs (q + 1)).next := by rw [eh]
        obtain ⟨a2, w2, σ2, h3, h4, h5⟩ := wp_some (op_sound (K := fun a' w' => ∃ σ', okv σ' v ∧ Post P B σq { hs q with low := (hs q).next } wq σ' h2 w' ∧ a' = aq.put o.dst (conc σ' v)) (a := aq) (w := wq) hcall (k1.low (hs q).next)
          (k3.sub (Nat.le_refl _) (by rw [hnx]; exact hnl)) (fun x _ => fun u hu => eval_sound k1.glob k2 hu) hop (fun σ' w' hv hp => ⟨σ', hv, hp, rfl⟩))
        subst h5
        refine ⟨σ2, w2, aq.put o.dst (conc σ2 v), by rw [eh]; exact h4.rel.low _, ?_, ?_, by rw [size_put]; exact k4⟩
        · rw [eT]
          exact (k2.ext h4.ext).putD (fun d hd' => by rw [k4]; exact hd d hd') h3
        · have := Free.step (P := P) (B := B) (h := { hs q with low := (hs q).next }) (σ := σq) (n := (hs l.size).next) k3 h4
          rw [hnx] at this
          exact this
  have facts : ∀ (q : Nat) (o : Oper), l[q]? = some o → (hs (q + 1)).low ≤ (hs q).low ∧ (∀ f, f < (hs q).next → (hs (q + 1)).writable f = (hs q).writable f) ∧
      (∀ f, f < (hs q).next → f < (hs (q + 1)).low → (hs (q + 1)).obj f = (hs q).obj f) ∧ (Still P callF l Ts hs q ∨ (loudOk l q = true ∧ calmOp o.op = false ∧ wanted l (Ts q) o = some true)) := by
    intro q o hoq
    have hq : q < l.size := (Array.getElem?_eq_some_iff.1 hoq).1
    obtain ⟨σq, wq, aq, k1, k2, k3, k4⟩ := key q (by omega)
    have hnl := nexts (l.size - (q + 1)) (q + 1) (by omega)
    rcases opAtD_cases (step q o hoq) with ⟨hw0, eT, eh⟩ | ⟨hw, v, h2, hop, eT, hn, hl, eh⟩
    · refine ⟨by rw [eh]; exact Nat.le_refl _, fun _ _ => by rw [eh], fun _ _ _ => by rw [eh], .inl ⟨by rw [eh]; exact fun _ _ => rfl, fun o' v' h2' ho' hw' _ => ?_⟩⟩
      rw [hoq] at ho'; cases ho'
      rw [hw0] at hw'; cases hw'
    · have hnx : h2.next = (hs (q + 1)).next := by rw [eh]
      obtain ⟨a2, w2, σ2, h4⟩ := wp_some (op_sound (K := fun a' w' => ∃ σ', Post P B σq { hs q with low := (hs q).next } wq σ' h2 w') (a := aq) (w := wq) hcall (k1.low (hs q).next)
        (k3.sub (Nat.le_refl _) (by rw [hnx]; exact hnl)) (fun x _ => fun u hu => eval_sound k1.glob k2 hu) hop (fun σ' w' hv hp => ⟨σ', hp⟩))
      obtain ⟨l1, l2, l3⟩ := low_step (a := (hs q).low) (b := h2.low)
      refine ⟨by rw [eh]; exact l1, fun f hf => by rw [eh]; exact h4.keep f hf, fun f hf1 hf2 => ?_, ?_⟩
      · rw [eh] at hf2 ⊢
        exact (h4.soft f hf1 (Nat.lt_of_lt_of_le hf2 l2)).1
      · cases hqt : calmOp o.op with
        | true =>
          left
          have e := calm_oper hqt hop
          refine ⟨by rw [eh, e]; exact fun _ _ => rfl, fun o' v' h2' ho' _ hop' => ?_⟩
          rw [hoq] at ho'; cases ho'
          rw [hop] at hop'; cases hop'
          rw [e]
          exact Nat.le_refl _
        | false =>
          rcases hl with hl | hl
          · left
            refine ⟨by rw [eh]; exact fun f hf => (h4.soft f hf (Nat.lt_of_lt_of_le hf hl)).1, fun o' v' h2' ho' _ hop' => ?_⟩
            rw [hoq] at ho'; cases ho'
            rw [hop] at hop'; cases hop'
            exact hl
          · exact .inr ⟨hl, rfl, hw⟩
  have get : ∀ (q : Nat), q < l.size → ∃ o, l[q]? = some o := fun q hq => ⟨l[q], by simp [hq]⟩
  have flagged : ∀ (q : Nat) (o : Oper), l[q]? = some o → ¬ Still P callF l Ts hs q → flagAt o (hs q) (hs (q + 1)) = true := by
    intro q o hoq hns
    rcases (facts q o hoq).2.2.2 with hst | ⟨_, hc, hw⟩
    · exact absurd hst hns
    · unfold flagAt
      cases hb : Nat.ble (hs q).next (hs (q + 1)).low with
      | false => simp [hc]
      | true =>
        have hb := Nat.le_of_ble_eq_true hb
        refine absurd ⟨fun f hf => (facts q o hoq).2.2.1 f hf (Nat.lt_of_lt_of_le hf hb), fun o' v' h2' ho' _ hop' => ?_⟩ hns
        rw [hoq] at ho'; cases ho'
        rcases opAtD_cases (step q o hoq) with ⟨hw0, _, _⟩ | ⟨_, v, h2, hop, _, _, _, eh⟩
        · rw [hw] at hw0; cases hw0
        · rw [hop] at hop'; cases hop'
          rw [eh] at hb
          exact Nat.le_trans hb (low_step (a := (hs q).low)).2.1
  have reads : ∀ (j : Nat) (o : Oper) (t : TypeId) (a : AVal), l[j]? = some o → loadOf P l o (Ts j) = some (t, a) → ∃ v, load P t a (hs j) = some v ∧ ∀ (q : Nat) (oq : Oper), l[q]? = some oq → ¬ Still P callF l Ts hs q →
      (q < j → ahead (masks l) q j = true ∨ load P t a (hs q) = some v) ∧ (j < q → ahead (masks l) j q = true ∨ load P t a (hs (q + 1)) = some v) := by
    intro j o t a hoj hl
    obtain ⟨x, hop, hw, ha⟩ := loadOf_calm hl
    obtain ⟨v, hv⟩ : ∃ v, load P t a (hs j) = some v := by
      rcases opAtD_cases (step j o hoj) with ⟨hw0, _, _⟩ | ⟨_, v, h2, ho2, _, _, _, _⟩
      · rw [hw] at hw0; cases hw0
      · rw [hop] at ho2
        change at_load P t x (Ts j) { hs j with low := (hs j).next } = some (v, h2) at ho2
        unfold at_load at ho2
        rw [ha] at ho2
        obtain ⟨h3, _⟩ := ret_some ho2
        exact ⟨v, h3⟩
    refine ⟨v, hv, fun q oq hoq hns => ?_⟩
    have hf := flagged q oq hoq hns
    refine ⟨fun hqj => ?_, fun hjq => ?_⟩
    · rcases (e7 j o t a (by simpa using hoj) (by simpa using hl)).2 q oq hqj (by simpa using hoq) (by simpa using hf) with h1 | h1
      · exact .inl (by simpa using h1)
      · obtain ⟨u, u1, u2⟩ := sameLoad_sound h1
        simp only [Nat.zero_add] at u1 u2
        rw [hv] at u1; cases u1
        exact .inr u2
    · rcases (e6 q oq (by simpa using hoq) (by simpa using hf)).2 j o t a hjq (by simpa using hoj) (by simpa using hl) with h1 | h1
      · exact .inl (by simpa using h1)
      · obtain ⟨u, u1, u2⟩ := sameLoad_sound h1
        simp only [Nat.zero_add] at u1 u2
        rw [hv] at u1; cases u1
        exact .inr u2
  refine ⟨Ts, hs, ⟨step, hg, fun q hq => ?_, fun q hq => ?_, next, fun q hq => ?_, fun q hq => ?_, fun q hq => ?_, fun q o hq => (facts q o hq).2.2.2, reads⟩, e1, e2, e3, e4⟩
  · obtain ⟨_, _, _, _, k2, _⟩ := key q hq; exact k2.deep
  · obtain ⟨_, _, _, k1, _⟩ := key q hq; exact k1.hok
  · obtain ⟨o, ho⟩ := get q hq; exact (facts q o ho).1
  · obtain ⟨o, ho⟩ := get q hq; exact (facts q o ho).2.1
  · obtain ⟨o, ho⟩ := get q hq; exact (facts q o ho).2.2.1

end Go.Abs

namespace Go.Abs
variable {P : Program} {B : Base} {callF : CallF}

section
variable {l : Array Oper} {N : Nat} {Ts : Nat → Env} {hs : Nat → Heap}

theorem Run.get {l : Array Oper} {q : Nat} (hq : q < l.size) : ∃ o, l[q]? = some o := ⟨l[q], by simp [hq]⟩

theorem Run.nexts (R : Run P callF l N Ts hs) {q q' : Nat} (h : q ≤ q') (hq : q' ≤ l.size) : (hs q).next ≤ (hs q').next := by
  induction q' with
  | zero => obtain rfl : q = 0 := by omega
            exact Nat.le_refl _
  | succ k ih =>
    rcases Nat.eq_or_lt_of_le h with e | h
    · rw [e]; exact Nat.le_refl _
    · exact Nat.le_trans (ih (by omega) (by omega)) (R.next k (by omega))

theorem Run.lows (R : Run P callF l N Ts hs) {q q' : Nat} (h : q ≤ q') (hq : q' ≤ l.size) : (hs q').low ≤ (hs q).low := by
  induction q' with
  | zero => obtain rfl : q = 0 := by omega
            exact Nat.le_refl _
  | succ k ih =>
    rcases Nat.eq_or_lt_of_le h with e | h
    · rw [e]; exact Nat.le_refl _
    · exact Nat.le_trans (R.low k (by omega)) (ih (by omega) (by omega))

theorem Run.chain (R : Run P callF l N Ts hs) {q q' : Nat} (h : q ≤ q') (hq : q' ≤ l.size) (hsoft : ∀ k, q ≤ k → k < q' → Soft (hs k) (hs (k + 1))) : Soft (hs q) (hs q') := by
  induction q' with
  | zero => obtain rfl : q = 0 := by omega
            exact fun _ _ => rfl
  | succ k ih =>
    rcases Nat.eq_or_lt_of_le h with e | h
    · rw [e]; exact fun _ _ => rfl
    · intro f hf
      rw [hsoft k (by omega) (by omega) f (Nat.lt_of_lt_of_le hf (R.nexts (by omega) (by omega)))]
      exact ih (by omega) (by omega) (fun k' h1 h2 => hsoft k' h1 (by omega)) f hf

theorem next_phase (n : Nat) (S : Nat → Prop) : ∀ d p, p + d = n → ∃ p', p ≤ p' ∧ p' ≤ n ∧ (∀ q, p ≤ q → q < p' → S q) ∧ (p' < n → ¬ S p') := by
  intro d
  induction d with
  | zero => intro p hp; exact ⟨p, Nat.le_refl _, by omega, fun q h1 h2 => by omega, fun h => by omega⟩
  | succ d ih =>
    intro p hp
    by_cases hsf : S p
    · obtain ⟨p', h1, h2, h3, h4⟩ := ih (p + 1) (by omega)
      refine ⟨p', by omega, h2, fun q hq1 hq2 => ?_, h4⟩
      rcases Nat.eq_or_lt_of_le hq1 with e | hq1
      · rw [← e]; exact hsf
      · exact h3 q hq1 hq2
    · exact ⟨p, Nat.le_refl _, by omega, fun q h1 h2 => by omega, fun _ => hsf⟩

theorem Run.quiet_next (R : Run P callF l N Ts hs) {q : Nat} {o : Oper} (hq : l[q]? = some o) (hqt : calmOp o.op = true) : (hs (q + 1)).next = (hs q).next := by
  rcases opAtD_cases (R.step q o hq) with ⟨_, _, e⟩ | ⟨_, v, h2, hop, _, _, _, e⟩
  · rw [e]
  · have e2 := calm_oper hqt hop
    rw [e, e2]

theorem Run.loudGet (R : Run P callF l N Ts hs) {q : Nat} {o : Oper} (hq : l[q]? = some o) (hsf : ¬ Still P callF l Ts hs q) : calmOp o.op = false ∧ wanted l (Ts q) o = some true ∧
    ∀ (k : Nat) (x : Oper), l[k]? = some x → calmOp x.op = false → k ≠ q → (k < q → ahead (masks l) k q = true) ∧ (q < k → ahead (masks l) q k = true ∨ freshOp x = true) := by
  rcases R.loud q o hq with h | ⟨h1, h2, h3⟩
  · exact absurd h hsf
  · refine ⟨h2, h3, fun k x hk hx hne => ?_⟩
    have := loudFrom_get l.toList 0 h1 k x (by simpa using hk) hx (by simpa using hne)
    simpa using this

theorem calm_load {op : Op} (h1 : calmOp op = true) (h2 : quietOp op = false) : ∃ t x, op = .load t x := by
  cases op with
  | load t x => exact ⟨t, x, rfl⟩
  | _ => exact absurd (h1.symm.trans h2) (by simp)

/-- What a load gives stays as long as nothing writes to what was there. -/
theorem load_soft {t : TypeId} {a v : AVal} {h h' : Heap} (hd : ∀ f, h.next ≤ f → h.obj f = none) (hs : Soft h h') (hv : load P t a h = some v) : load P t a h' = some v := by
  unfold load at hv ⊢
  split at hv
  · rename_i p
    simp only [Option.bind_eq_some_iff] at hv
    obtain ⟨c, hc, hv⟩ := hv
    have ho := fam_obj hc
    have hlt : p.fam < h.next := by
      rcases Nat.lt_or_ge p.fam h.next with h1 | h1
      · exact h1
      · rw [hd _ h1] at ho; cases ho
    have ho' : h'.obj p.fam = some (.cells c) := by rw [hs _ hlt]; exact ho
    have hc' : h'.fam p.fam = some c := by
      unfold Heap.fam
      have : h'.objs.getL p.fam = some (.cells c) := ho'
      rw [this]
    simp only [hc', Option.bind_some]
    simpa only [Option.bind_eq_some_iff] using hv
  · cases hv

theorem last_phase (S : Nat → Prop) : ∀ (d i p : Nat), i + d = p → (∀ k, i ≤ k → k < p → S k) ∨ ∃ k, i ≤ k ∧ k < p ∧ ¬ S k ∧ ∀ m, k < m → m < p → S m := by
  intro d
  induction d with
  | zero => intro i p hp; exact .inl fun k h1 h2 => by omega
  | succ d ih =>
    intro i p hp
    by_cases hS : S (p - 1)
    · rcases ih i (p - 1) (by omega) with h | ⟨k, h1, h2, h3, h4⟩
      · refine .inl fun k h1 h2 => ?_
        rcases Nat.eq_or_lt_of_le (show k ≤ p - 1 by omega) with e | e
        · rw [e]; exact hS
        · exact h k h1 e
      · refine .inr ⟨k, h1, by omega, h3, fun m m1 m2 => ?_⟩
        rcases Nat.eq_or_lt_of_le (show m ≤ p - 1 by omega) with e | e
        · rw [e]; exact hS
        · exact h4 m m1 e
    · exact .inr ⟨p - 1, by omega, by omega, hS, fun m m1 m2 => by omega⟩

theorem Run.conflict (R : Run P callF l N Ts hs) {i j : Nat} {x y : Oper} (hi : l[i]? = some x) (hj : l[j]? = some y) (h : i < j) : x.apart l y = true ∨ ahead (masks l) i j = true := by
  have hg := R.good
  unfold goodRegion at hg
  simp only [Bool.and_eq_true, Bool.not_true, Bool.false_or] at hg
  have := apartAll_get l.toList 0 hg.2.1 i j x y (by simpa using hi) (by simpa using hj) h
  simpa using this

theorem Run.back (R : Run P callF l N Ts hs) {i : Nat} {x : Oper} (hi : l[i]? = some x) : ∀ e ∈ x.after, Region.binds .any e = true → e.on < i := by
  have hg := R.good
  unfold goodRegion at hg
  simp only [Bool.and_eq_true, Bool.not_true, Bool.false_or] at hg
  intro e he hb
  have := edgesBack_get l.toList 0 hg.2.2 i x (by simpa using hi) e he hb
  omega

theorem Run.dst (R : Run P callF l N Ts hs) {i : Nat} {x : Oper} (hi : l[i]? = some x) : ∀ d, x.dst = some d → d < N := by
  have hg := R.good
  unfold goodRegion at hg
  rw [Bool.and_eq_true] at hg
  exact dst_lt (List.all_eq_true.1 hg.1 x (List.mem_of_getElem? (by simpa using hi : l.toList[i]? = some x)))
end

/-! ### Posts -/

/-- What has become of the memory of a region: families may be laid ahead of their turn, below N. -/
structure PostN (P : Program) (B : Base) (N : Nat) (σ : Real) (h : Heap) (w : World) (σ' : Real) (h' : Heap) (w' : World) : Prop where
  ext : σ.le σ'
  rel : Rel P B σ' h' w'
  new : ∀ f g b, σ' f g = some b → σ f g = none → f < N ∧
    (w.heap.size ≤ b.block ∧ h.next ≤ f ∨ (f < h.next ∧ (w.heap.size ≤ b.block ∨ h.writable f = true ∧ ∃ g0 b0, σ f g0 = some b0 ∧ b0.block = b.block)))
  frame : ∀ k, k < w.heap.size → (∀ f g b, σ f g = some b → b.block = k → h.writable f = false) → w'.heap[k]? = w.heap[k]?
  size : w.heap.size ≤ w'.heap.size
  os : w'.os = w.os
  tape : w'.tape = w.tape
  output : w'.output = w.output
  keep : ∀ f, f < h.next → h'.writable f = h.writable f
  soft : ∀ f, f < h.next → f < h'.low → h'.obj f = h.obj f ∧ ∀ g, σ' f g = σ f g
  low : h'.low ≤ h.low

theorem Post.toN {N : Nat} {σ σ' : Real} {h h' : Heap} {w w' : World} (H : Post P B σ h w σ' h' w') (hN : h'.next ≤ N) : PostN P B N σ h w σ' h' w' :=
  ⟨H.ext, H.rel, fun f g b h1 h2 => ⟨Nat.lt_of_lt_of_le (H.new f g b h1 h2).1 hN, (H.new f g b h1 h2).2⟩, H.frame, H.size, H.os, H.tape, H.output, H.keep, H.soft, H.low⟩

theorem PostN.toPost {σ σ' : Real} {h h' : Heap} {w w' : World} (H : PostN P B h'.next σ h w σ' h' w') (hn : h.next ≤ h'.next) : Post P B σ h w σ' h' w' :=
  ⟨H.ext, H.rel, hn, H.new, H.frame, H.size, H.os, H.tape, H.output, H.keep, H.soft, H.low⟩

theorem PostN.trans {N : Nat} {σ0 σ1 σ2 : Real} {h0 h1 h2 : Heap} {w0 w1 w2 : World} (hf : Free σ0 h0.next N) (hN : h2.next ≤ N) (h01 : h0.next ≤ h1.next) (H : PostN P B N σ0 h0 w0 σ1 h1 w1) (K : Post P B σ1 h1 w1 σ2 h2 w2) :
    PostN P B N σ0 h0 w0 σ2 h2 w2 := by
  refine ⟨Real.le_trans H.ext K.ext, K.rel, ?_, ?_, Nat.le_trans H.size K.size, K.os.trans H.os, K.tape.trans H.tape, K.output.trans H.output, ?_, ?_, Nat.le_trans K.low H.low⟩
  · intro f g b h2' h0'
    cases h1' : σ1 f g with
    | some b1 =>
      obtain rfl : b1 = b := by have := K.ext _ _ _ h1'; rw [h2'] at this; exact (Option.some.inj this).symm
      exact H.new f g b1 h1' h0'
    | none =>
      obtain ⟨a1, a2⟩ := K.new f g b h2' h1'
      refine ⟨by omega, ?_⟩
      have hw := H.size
      rcases a2 with ⟨a2, a3⟩ | ⟨a2, a3⟩
      · exact .inl ⟨by omega, by omega⟩
      · by_cases hlt : f < h0.next
        · refine .inr ⟨hlt, ?_⟩
          rcases a3 with a3 | ⟨a3, g0, b0, a4, a5⟩
          · exact .inl (by omega)
          · cases h00 : σ0 f g0 with
            | some b0' =>
              obtain rfl : b0' = b0 := by have := H.ext _ _ _ h00; rw [a4] at this; exact (Option.some.inj this).symm
              exact .inr ⟨by rw [← H.keep f hlt]; exact a3, g0, b0', h00, a5⟩
            | none =>
              obtain ⟨_, a7⟩ := H.new f g0 b0 a4 h00
              rcases a7 with ⟨_, a8⟩ | ⟨_, a8 | ⟨a9, g1, b1, a10, a11⟩⟩
              · omega
              · exact .inl (by rw [← a5]; exact a8)
              · exact .inr ⟨a9, g1, b1, a10, by rw [a11, a5]⟩
        · rcases a3 with a3 | ⟨_, g0, b0, a4, a5⟩
          · exact .inl ⟨by omega, by omega⟩
          · have : σ0 f g0 = none := hf f g0 (by omega) (by omega)
            obtain ⟨_, a7⟩ := H.new f g0 b0 a4 this
            rcases a7 with ⟨a8, a9⟩ | ⟨a8, _⟩
            · exact .inl ⟨by omega, a9⟩
            · omega
  · intro k hk hno
    rw [K.frame k (Nat.lt_of_lt_of_le hk H.size) ?_, H.frame k hk hno]
    intro f g b h1' hbk
    cases h00 : σ0 f g with
    | some b0 =>
      obtain rfl : b0 = b := by have := H.ext _ _ _ h00; rw [h1'] at this; exact (Option.some.inj this).symm
      by_cases hlt : f < h0.next
      · rw [H.keep f hlt]; exact hno f g b0 h00 hbk
      · by_cases h2lt : f < N
        · have := hf f g (by omega) h2lt
          rw [this] at h00; cases h00
        · have hd : h1.obj f = none := H.rel.dom f (by have := K.next; omega)
          simp [Heap.writable, hd]
    | none =>
      obtain ⟨_, a7⟩ := H.new f g b h1' h00
      rcases a7 with ⟨a8, _⟩ | ⟨a6, a8 | ⟨a9, g1, b1, a10, a11⟩⟩
      · omega
      · omega
      · have := hno f g1 b1 a10 (by rw [a11, hbk])
        rw [this] at a9; cases a9
  · intro f hlt
    rw [K.keep f (Nat.lt_of_lt_of_le hlt h01), H.keep f hlt]
  · intro f hlt hlow
    obtain ⟨a1, a2⟩ := K.soft f (Nat.lt_of_lt_of_le hlt h01) hlow
    obtain ⟨b1, b2⟩ := H.soft f hlt (Nat.lt_of_lt_of_le hlow K.low)
    exact ⟨a1.trans b1, fun g => (a2 g).trans (b2 g)⟩

theorem PostN.unlow {N L : Nat} {σ σ' : Real} {h h2 : Heap} {w w' : World} (H : PostN P B N σ h w σ' { h2 with low := L } w') (hl : h2.low ≤ h.low) (hL : ∀ f, f < h.next → f < h2.low → f < L) : PostN P B N σ h w σ' h2 w' :=
  ⟨H.ext, H.rel.low h2.low, H.new, H.frame, H.size, H.os, H.tape, H.output, H.keep, fun f h1 h3 => H.soft f h1 (hL f h1 h3), hl⟩


section
variable {σ σ' : Real} {h h' h2 : Heap} {w w' : World}

theorem Post.relow (H : Post P B σ { h with low := h.next } w σ' h2 w') : Post P B σ h w σ' { h2 with low := match Nat.ble h.low h2.low with | true => h.low | false => h2.low } w' := by
  obtain ⟨l1, l2, _⟩ := low_step (a := h.low) (b := h2.low)
  exact ⟨H.ext, H.rel.low _, H.next, H.new, H.frame, H.size, H.os, H.tape, H.output, H.keep, fun f h1 h3 => H.soft f h1 (Nat.lt_of_lt_of_le h3 l2), l1⟩

theorem Post.unlow {L : Nat} (H : Post P B σ h w σ' { h2 with low := L } w') (hl : h2.low ≤ h.low) (hL : ∀ f, f < h.next → f < h2.low → f < L) : Post P B σ h w σ' h2 w' :=
  ⟨H.ext, H.rel.low h2.low, H.next, H.new, H.frame, H.size, H.os, H.tape, H.output, H.keep, fun f h1 h3 => H.soft f h1 (hL f h1 h3), hl⟩

theorem writable_soft (h : Heap) (h' : Heap) (f : Nat) (e : h'.obj f = h.obj f) : h'.writable f = h.writable f := by
  unfold Heap.writable; rw [e]

/-- Families that are still to come are laid in the abstract memory; nothing else is done. -/
theorem Post.ahead (H : Rel P B σ h w) (hok : HOk h') (hn : h.next ≤ h'.next) (hsf : Soft h h') (hfree : Free σ h.next h'.next) (hlow : h'.low ≤ h.low) : Post P B σ h w σ h' w := by
  have hobj : ∀ f g b o, σ f g = some b → h'.obj f = some o → h.obj f = some o := by
    intro f g b o hb ho
    by_cases h1 : f < h.next
    · rw [← hsf f h1]; exact ho
    · by_cases h2 : f < h'.next
      · rw [hfree f g (by omega) h2] at hb; cases hb
      · rw [hok.dom f (by omega)] at ho; cases ho
  have hwr : ∀ f g b, σ f g = some b → h'.writable f = true → h.writable f = true := by
    intro f g b hb hw
    cases ho : h'.obj f with
    | none => rw [Heap.writable, ho] at hw; cases hw
    | some o => rw [writable_of (hobj f g b o hb ho), ← writable_of ho]; exact hw
  exact ⟨Real.le_refl σ, ⟨hok.deep, hok.dom, hok.full, H.base, H.glob, fun f g b o hb ho => H.obj f g b o hb (hobj f g b o hb ho), fun f g b hb hw => H.wr f g b hb (hwr f g b hb hw), H.live,
      fun f g b f' g' b' hb hb' hne hw => H.apart f g b f' g' b' hb hb' hne (hwr f g b hb hw), H.alike,
      H.ctx.mono (Real.le_refl σ) (fun f b hb hk => by cases hx : h'.writable f with | false => rfl | true => rw [hwr f 0 b hb hx] at hk; cases hk) (fun _ _ _ _ _ hr => hr)⟩,
    hn, fun f g b h1 h2 => absurd (h1.symm.trans h2) (by simp), fun _ _ _ => rfl, Nat.le_refl _, rfl, rfl, rfl, fun f hf => writable_soft h h' f (hsf f hf), fun f hf _ => ⟨hsf f hf, fun _ => rfl⟩, hlow⟩

/-- A step that leaves alone all that was there, seen from where others have come to already. -/
theorem soft_post {hp hm : Heap} (Hp : Rel P B σ hp w) (hmp : Soft hm hp) (_hn : hm.next ≤ hp.next) (hdm : ∀ f, hm.next ≤ f → hm.obj f = none) (Pm : Post P B σ { hm with low := hm.next } w σ' h2 w') (hl : hm.next ≤ h2.low)
    (h2p : Soft h2 hp) (hn2 : h2.next ≤ hp.next) :
    Post P B σ hp w σ' { hp with low := match Nat.ble hp.low hm.next with | true => hp.low | false => hm.next } w' ∧ ∀ f g b, σ' f g = some b → σ f g = none → hm.next ≤ f ∧ f < h2.next := by
  have hnew : ∀ f g b, σ' f g = some b → σ f g = none → hm.next ≤ f ∧ f < h2.next := by
    intro f g b h1 h0
    obtain ⟨a1, a2⟩ := Pm.new f g b h1 h0
    refine ⟨?_, a1⟩
    rcases Nat.lt_or_ge f hm.next with h | h
    · have := (Pm.soft f h (Nat.lt_of_lt_of_le h hl)).2 g
      rw [h1, h0] at this; cases this
    · exact h
  have hmw : ∀ f, hm.writable f = true → f < hm.next ∧ hp.writable f = true := by
    intro f hw
    have : f < hm.next := by
      rcases Nat.lt_or_ge f hm.next with h | h
      · exact h
      · rw [Heap.writable, hdm f h] at hw; cases hw
    exact ⟨this, by rw [writable_soft hm hp f (hmp f this)]; exact hw⟩
  have hold : ∀ f g b, σ' f g = some b → h2.next ≤ f → σ f g = some b := by
    intro f g b h1 h3
    cases h0 : σ f g with
    | none => have := (hnew f g b h1 h0).2; omega
    | some b0 => have := Pm.ext f g b0 h0; rw [h1] at this; exact this.symm
  obtain ⟨l1, l2, _⟩ := low_step (a := hp.low) (b := hm.next)
  have hsame : ∀ f g b, σ f g = some b → hm.next ≤ f → hp.writable f = true → w'.heap[b.block]? = w.heap[b.block]? := by
    intro f g b hb hf hpw
    refine Pm.frame b.block (Hp.live f g b hb) fun f' g' b' hb' hbk => ?_
    cases hw : Heap.writable { hm with low := hm.next } f' with
    | false => rfl
    | true =>
      obtain ⟨k1, k2⟩ := hmw f' hw
      by_cases he : f' = f
      · omega
      · exact absurd hbk (Hp.apart f' g' b' f g b hb' hb he k2)
  have hsameO : ∀ f g b, σ f g = some b → h2.next ≤ f → hm.next ≤ f → w'.heap[b.block]? = w.heap[b.block]? := by
    intro f g b hb _ hf
    refine Pm.frame b.block (Hp.live f g b hb) fun f' g' b' hb' hbk => ?_
    cases hw : Heap.writable { hm with low := hm.next } f' with
    | false => rfl
    | true =>
      obtain ⟨k1, k2⟩ := hmw f' hw
      by_cases he : f' = f
      · omega
      · exact absurd hbk (Hp.apart f' g' b' f g b hb' hb he k2)
  have hn1 : hm.next ≤ h2.next := Pm.next
  have hrel : Rel P B σ' hp w' := by
    refine ⟨Hp.deep, Hp.dom, Hp.full, Nat.le_trans Hp.base Pm.size, Pm.rel.glob, ?_, ?_, Pm.rel.live, ?_, Pm.rel.alike,
      Hp.ctx.mono Pm.ext (fun _ _ _ hk => hk) (fun f b r hb hk hr => by
        rw [Pm.frame b.block (Hp.live f 0 b hb) fun f' g' b' hb' hbk => ?_]; exact hr
        cases hw : Heap.writable { hm with low := hm.next } f' with
        | false => rfl
        | true =>
          obtain ⟨k1, k2⟩ := hmw f' hw
          by_cases he : f' = f
          · rw [he, hk] at k2; cases k2
          · exact absurd hbk (Hp.apart f' g' b' f 0 b hb' hb he k2))⟩
    · intro f g b o hb ho
      rcases Nat.lt_or_ge f h2.next with h | h
      · exact Pm.rel.obj f g b o hb (by rw [← h2p f h]; exact ho)
      · have hb0 := hold f g b hb h
        exact ObjOk.mono (Hp.obj f g b o hb0 ho) Pm.ext (hsameO f g b hb0 h (by omega))
    · intro f g b hb hw
      rcases Nat.lt_or_ge f h2.next with h | h
      · exact Pm.rel.wr f g b hb (by rw [← writable_soft h2 hp f (h2p f h)]; exact hw)
      · exact Hp.wr f g b (hold f g b hb h) hw
    · intro f g b f' g' b' hb hb' hne hw
      rcases Nat.lt_or_ge f h2.next with h | h
      · exact Pm.rel.apart f g b f' g' b' hb hb' hne (by rw [← writable_soft h2 hp f (h2p f h)]; exact hw)
      · have hb0 := hold f g b hb h
        cases h0 : σ f' g' with
        | some b0 =>
          obtain rfl : b0 = b' := by have := Pm.ext f' g' b0 h0; rw [hb'] at this; exact (Option.some.inj this).symm
          exact Hp.apart f g b f' g' b0 hb0 h0 hne hw
        | none =>
          obtain ⟨a1, a2⟩ := Pm.new f' g' b' hb' h0
          obtain ⟨n1, n2⟩ := hnew f' g' b' hb' h0
          have hlv := Hp.live f g b hb0
          rcases a2 with ⟨a3, _⟩ | ⟨a3, _⟩
          · omega
          · have : f' < hm.next := a3
            omega
  refine ⟨⟨Pm.ext, hrel.low _, Nat.le_refl _, ?_, ?_, Pm.size, Pm.os, Pm.tape, Pm.output, fun _ _ => rfl, ?_, l1⟩, hnew⟩
  · intro f g b h1 h0
    obtain ⟨n1, n2⟩ := hnew f g b h1 h0
    refine ⟨Nat.lt_of_lt_of_le n2 hn2, .inr ⟨Nat.lt_of_lt_of_le n2 hn2, ?_⟩⟩
    rcases (Pm.new f g b h1 h0).2 with ⟨a3, _⟩ | ⟨a3, _⟩
    · exact .inl a3
    · have : f < hm.next := a3
      omega
  · intro k hk hno
    refine Pm.frame k hk fun f g b hb hbk => ?_
    cases hw : Heap.writable { hm with low := hm.next } f with
    | false => rfl
    | true => have := hno f g b hb hbk; rw [(hmw f hw).2] at this; cases this
  · intro f h1 h3
    refine ⟨rfl, fun g => ?_⟩
    have hlt : f < hm.next := Nat.lt_of_lt_of_le h3 l2
    exact (Pm.soft f hlt (Nat.lt_of_lt_of_le hlt hl)).2 g
end

theorem putD_get_ne {T : Env} (hd : E2.deep 4 T) {d : Option Tmp} {t : Tmp} (hne : d ≠ some t) (v : AVal) : (putD T d v).get t = T.get t := by
  cases d with
  | none => rfl
  | some d =>
    show (T.set d v).get t = _
    rw [E2.get_set _ hd, if_neg (fun e => hne (by rw [e]))]

theorem putD_get_eq {T : Env} (hd : E2.deep 4 T) {t : Tmp} {v u : AVal} (h : (putD T (some t) v).get t = some u) : u = v := by
  change (T.set t v).get t = some u at h
  rw [E2.get_set _ hd, if_pos rfl] at h
  split at h
  · cases h; rfl
  · cases h

end Go.Abs

namespace Go.Abs
variable {P : Program} {B : Base} {callF : CallF}

/-- Is an operation listed? -/
def Ld (L : Array Bool) (i : Nat) : Prop := L.getD i false = true

/-- A variable that was made ahead of its turn: its family is laid, nothing else has its block, and what will lie there lies there. -/
def Early (_ : Program) (B : Base) (hs : Nat → Heap) (σ : Real) (w : World) (j : Nat) : Prop :=
  ∃ b, σ (hs j).next 0 = some b ∧ (∀ g b', σ (hs j).next g = some b' → g = 0) ∧ (∀ ob, (hs (j + 1)).obj (hs j).next = some ob → ObjOk σ w 0 b ob) ∧ B.n ≤ b.block ∧
    (∀ f g b', σ f g = some b' → f ≠ (hs j).next → b'.block ≠ b.block) ∧ (hs (j + 1)).next = (hs j).next + 1

structure Inv (P : Program) (B : Base) (callF : CallF) (l : Array Oper) (Ts : Nat → Env) (hs : Nat → Heap) (σ0 : Real) (w0 : World) (a0 : Act) (σ : Real) (p : Nat) (L : Array Bool) (a : Act) (w : World) : Prop where
  size : L.size = l.size
  closed : Closed l (Ld L)
  ple : p ≤ l.size
  before : ∀ q, q < p → ¬ Still P callF l Ts hs q → Ld L q
  here : p < l.size → ¬ Still P callF l Ts hs p ∧ ¬ Ld L p
  post : PostN P B (hs l.size).next σ0 (hs 0) w0 σ (hs p) w
  free : ∀ q, q < l.size → ¬ Ld L q → ∀ f g, (hs q).next ≤ f → f < (hs (q + 1)).next → σ f g = none
  env : ∀ t q, q ≤ l.size → (∀ (i : Nat) (o : Oper), l[i]? = some o → o.dst = some t → (Ld L i ↔ i < q)) → ∀ v, (Ts q).get t = some v → okv σ v ∧ a.tmps.getD t undef = conc σ v
  tsize : a.tmps.size = a0.tmps.size
  defers : a.defers = a0.defers
  early : ∀ j o, l[j]? = some o → p ≤ j → Ld L j → freshOp o = true → Early P B hs σ w j

section
variable {l : Array Oper} {Ts : Nat → Env} {hs : Nat → Heap} {σ0 : Real} {w0 : World} {a0 : Act} {σ : Real} {p : Nat} {L : Array Bool} {a : Act} {w : World}

theorem ld_set {i k : Nat} (hi : i < L.size) : Ld (L.setIfInBounds i true) k ↔ (k = i ∨ Ld L k) := by
  unfold Ld
  by_cases h : k = i
  · subst h; simp [hi]
  · rw [getD_set_ne false (Ne.symm h)]; simp [h]

/-- What is known where an operation is ready. -/
structure Ready (l : Array Oper) (L : Array Bool) (i : Nat) (o : Oper) : Prop where
  get : l[i]? = some o
  no : ¬ Ld L i
  edges : ∀ e ∈ o.after, Region.binds .any e = true → Ld L e.on

theorem ready_of (hsz : L.size = l.size) {i : Nat} (h : i ∈ Region.ready .any l L) : ∃ o, Ready l L i o := by
  obtain ⟨h1, o, h2, h3⟩ := mem_ready.1 h
  refine ⟨o, h2, fun hl => ?_, h3⟩
  have hlt : i < L.size := by rw [hsz]; exact (Array.getElem?_eq_some_iff.1 h2).1
  unfold Ld at hl
  rw [Array.getD_eq_getD_getElem?] at h1 hl
  have hx : L[i]? = some L[i] := by simp [hlt]
  rw [hx] at h1 hl
  simp only [Option.getD_some] at h1 hl
  rw [h1] at hl
  cases hl

theorem Inv.comes (I : Inv P B callF l Ts hs σ0 w0 a0 σ p L a w) {i : Nat} {o : Oper} (hr : Ready l L i o) {j : Nat} (h : ahead (masks l) j i = true) : Ld L j :=
  ahead_sound I.closed i j o hr.get hr.edges h

theorem Inv.gone (I : Inv P B callF l Ts hs σ0 w0 a0 σ p L a w) {j k : Nat} {x : Oper} (hj : l[j]? = some x) (hl : Ld L j) (h : ahead (masks l) k j = true) : Ld L k :=
  ahead_sound I.closed j k x hj (I.closed j x hj hl) h

theorem Inv.cut (R : Run P callF l a0.tmps.size Ts hs) (I : Inv P B callF l Ts hs σ0 w0 a0 σ p L a w) {i : Nat} {o : Oper} (hr : Ready l L i o) {t : Tmp} (ht : t ∈ o.looksAt l ∨ o.dst = some t) :
    ∀ (j : Nat) (x : Oper), l[j]? = some x → x.dst = some t → (Ld L j ↔ j < i) := by
  intro j x hj hx
  rcases Nat.lt_trichotomy j i with h | h | h
  · refine ⟨fun _ => h, fun _ => ?_⟩
    rcases R.conflict hj hr.get h with hap | hah
    · obtain ⟨s1, s2, _⟩ := Oper.apart_spec hap
      rcases ht with ht | ht
      · exact absurd ht (s1 t hx)
      · exact absurd ht (s2 t hx)
    · exact I.comes hr hah
  · subst h
    exact ⟨fun hl => absurd hl hr.no, fun h => by omega⟩
  · refine ⟨fun hl => ?_, fun h' => by omega⟩
    rcases R.conflict hr.get hj h with hap | hah
    · obtain ⟨_, s2, s3⟩ := Oper.apart_spec hap
      rcases ht with ht | ht
      · exact absurd ht (s3 t hx)
      · exact absurd hx (s2 t ht)
    · exact absurd (I.gone hj hl hah) hr.no

theorem Inv.reads (R : Run P callF l a0.tmps.size Ts hs) (I : Inv P B callF l Ts hs σ0 w0 a0 σ p L a w) {i : Nat} {o : Oper} (hr : Ready l L i o) (x : Operand) (hx : x ∈ o.op.operands) : Reads P σ (Ts i) a x := by
  intro v hv
  have hi : i < l.size := (Array.getElem?_eq_some_iff.1 hr.get).1
  cases x with
  | tmp t =>
    have hin : t ∈ o.looksAt l := List.mem_append_left _ (List.mem_filterMap.2 ⟨.tmp t, by simpa using hx, rfl⟩)
    exact I.env t i (by omega) (I.cut R hr (.inl hin)) v hv
  | const c => exact eval_sound (T := .leaf) I.post.rel.glob ⟨E2.deep_leaf 4, fun t v h => by rw [E2.get_leaf] at h; cases h⟩ hv
  | global g => exact eval_sound (T := .leaf) I.post.rel.glob ⟨E2.deep_leaf 4, fun t v h => by rw [E2.get_leaf] at h; cases h⟩ hv
  | func f => exact eval_sound (T := .leaf) I.post.rel.glob ⟨E2.deep_leaf 4, fun t v h => by rw [E2.get_leaf] at h; cases h⟩ hv

theorem Inv.guard (R : Run P callF l a0.tmps.size Ts hs) (I : Inv P B callF l Ts hs σ0 w0 a0 σ p L a w) {i : Nat} {o : Oper} (hr : Ready l L i o) {b : Bool} (hw : wanted l (Ts i) o = some b) :
    Region.wanted o (yielded l a.tmps) = b := by
  have hi : i < l.size := (Array.getElem?_eq_some_iff.1 hr.get).1
  refine wanted_on (σ := σ) hw fun g want d hg hd v hv => ?_
  have hin : d ∈ o.looksAt l := List.mem_append_right _ (by rw [hg]; simp [hd])
  exact I.env d i (by omega) (I.cut R hr (.inl hin)) v hv

/-- The variables behind an operation. -/
theorem Inv.envPut (R : Run P callF l a0.tmps.size Ts hs) (I : Inv P B callF l Ts hs σ0 w0 a0 σ p L a w) {i : Nat} {o : Oper} (hr : Ready l L i o) {σ' : Real} (hle : σ.le σ') {v : AVal} (hv : okv σ' v)
    (hT : Ts (i + 1) = putD (Ts i) o.dst v) : ∀ t q, q ≤ l.size → (∀ (j : Nat) (x : Oper), l[j]? = some x → x.dst = some t → (Ld (L.setIfInBounds i true) j ↔ j < q)) → ∀ u, (Ts q).get t = some u →
      okv σ' u ∧ (a.put o.dst (conc σ' v)).tmps.getD t undef = conc σ' u := by
  have hi : i < l.size := (Array.getElem?_eq_some_iff.1 hr.get).1
  have hiL : i < L.size := by rw [I.size]; exact hi
  intro t q hq hcut u hu
  by_cases ht : o.dst = some t
  · have hiq : i < q := (hcut i o hr.get ht).1 ((ld_set hiL).2 (.inl rfl))
    have hst : ∀ d, i + 1 + d ≤ q → (Ts (i + 1 + d)).get t = (Ts (i + 1)).get t := by
      intro d
      induction d with
      | zero => intro _; rfl
      | succ d ih =>
        intro hd
        have hk : i + 1 + d < l.size := by omega
        obtain ⟨x, hx⟩ := Run.get hk
        have hne : x.dst ≠ some t := by
          intro hxt
          have h1 := (hcut (i + 1 + d) x hx hxt).2 (by omega)
          rcases (ld_set hiL).1 h1 with h2 | h2
          · omega
          · have := (I.cut R hr (.inr ht) (i + 1 + d) x hx hxt).1 h2
            omega
        rw [← ih (by omega)]
        have hdp := R.deepT (i + 1 + d) (by omega)
        rcases opAtD_cases (R.step _ x hx) with ⟨_, e, _⟩ | ⟨_, v2, _, _, e, _⟩
        · rw [show i + 1 + (d + 1) = i + 1 + d + 1 by omega, e, putD_get_ne hdp hne]
        · rw [show i + 1 + (d + 1) = i + 1 + d + 1 by omega, e, putD_get_ne hdp hne]
    have := hst (q - (i + 1)) (by omega)
    rw [show i + 1 + (q - (i + 1)) = q by omega] at this
    rw [this, hT, ht] at hu
    obtain rfl := putD_get_eq (R.deepT i (by omega)) hu
    refine ⟨hv, ?_⟩
    have hlt : t < a.tmps.size := by rw [I.tsize]; exact R.dst hr.get t ht
    rw [ht]
    simp [Act.put, hlt]
  · obtain ⟨e1, e2⟩ := I.env t q hq (fun j x hj hx => by
      have hne : j ≠ i := fun e => by
        subst e
        rw [hr.get] at hj
        cases hj
        exact ht hx
      rw [← hcut j x hj hx, ld_set hiL]
      simp [hne]) u hu
    obtain ⟨f1, f2⟩ := ext_v hle u e1
    refine ⟨f1, ?_⟩
    rw [f2, ← e2]
    cases hd : o.dst with
    | none => rfl
    | some d =>
      have hne : d ≠ t := fun e => ht (by rw [hd, e])
      simp [Act.put, Array.getElem?_setIfInBounds_ne hne]

theorem Inv.closedPut (I : Inv P B callF l Ts hs σ0 w0 a0 σ p L a w) {i : Nat} {o : Oper} (hr : Ready l L i o) : Closed l (Ld (L.setIfInBounds i true)) := by
  have hiL : i < L.size := by rw [I.size]; exact (Array.getElem?_eq_some_iff.1 hr.get).1
  intro j x hj hl e he hb
  rw [ld_set hiL] at hl ⊢
  rcases hl with rfl | hl
  · rw [hr.get] at hj; cases hj
    exact .inr (hr.edges e he hb)
  · exact .inr (I.closed j x hj hl e he hb)

/-- A step that leaves alone all that was there. -/
theorem Inv.stepSoft (R : Run P callF l a0.tmps.size Ts hs) (h0 : Free σ0 (hs 0).next (hs l.size).next) (I : Inv P B callF l Ts hs σ0 w0 a0 σ p L a w) {i : Nat} {o : Oper} (hr : Ready l L i o) (hsf : Still P callF l Ts hs i) (hnf : freshOp o = true → i < p)
    {σ' : Real} {w' : World} {v : AVal} {hm h2 : Heap} (hv : okv σ' v) (hT : Ts (i + 1) = putD (Ts i) o.dst v) (hm0 : (hs 0).next ≤ hm.next) (hmp : Soft hm (hs p)) (hn : hm.next ≤ (hs p).next) (hdm : ∀ f, hm.next ≤ f → hm.obj f = none)
    (Pm : Post P B σ { hm with low := hm.next } w σ' h2 w') (hl : hm.next ≤ h2.low) (h2p : Soft h2 (hs p)) (hn2 : h2.next ≤ (hs p).next) (hin : ∀ f, hm.next ≤ f → f < h2.next → (hs i).next ≤ f ∧ f < (hs (i + 1)).next) :
    Inv P B callF l Ts hs σ0 w0 a0 σ' p (L.setIfInBounds i true) (a.put o.dst (conc σ' v)) w' := by
  have hi : i < l.size := (Array.getElem?_eq_some_iff.1 hr.get).1
  have hiL : i < L.size := by rw [I.size]; exact hi
  obtain ⟨p1, p2⟩ := soft_post I.post.rel hmp hn hdm Pm hl h2p hn2
  obtain ⟨l1, l2, l3⟩ := low_step (a := (hs p).low) (b := hm.next)
  have hpN : (hs p).next ≤ (hs l.size).next := R.nexts I.ple (Nat.le_refl _)
  have p3 := PostN.trans (h2 := { hs p with low := match Nat.ble (hs p).low hm.next with | true => (hs p).low | false => hm.next }) h0 hpN (R.nexts (Nat.zero_le _) I.ple) I.post p1
  have hpost : PostN P B (hs l.size).next σ0 (hs 0) w0 σ' (hs p) w' := PostN.unlow (h2 := hs p) (L := match Nat.ble (hs p).low hm.next with | true => (hs p).low | false => hm.next) p3 I.post.low (fun f hf1 hf2 =>
    Nat.lt_of_lt_of_le (Nat.lt_succ_self f) (l3 (f + 1) hf2 (Nat.le_trans hf1 hm0)))
  have hearly : ∀ j y, l[j]? = some y → p ≤ j → Ld (L.setIfInBounds i true) j → freshOp y = true → Early P B hs σ' w' j := by
    intro j y hy hpj hl' hfr
    have hne : j ≠ i := by
      intro e
      subst e
      rw [hr.get] at hy
      cases hy
      have := hnf hfr
      omega
    have hlj : Ld L j := by
      rcases (ld_set hiL).1 hl' with e | h
      · exact absurd e hne
      · exact h
    obtain ⟨b, e1, e2, e3, e4, e5, e6⟩ := I.early j y hy hpj hlj hfr
    have hjs : j < l.size := (Array.getElem?_eq_some_iff.1 hy).1
    have hF : (hs p).next ≤ (hs j).next := R.nexts hpj (by omega)
    have hlv := I.post.rel.live _ _ _ e1
    have hblk : w'.heap[b.block]? = w.heap[b.block]? := Pm.frame b.block hlv fun f g b' hb hbk => by
      cases hw : Heap.writable { hm with low := hm.next } f with
      | false => rfl
      | true =>
        by_cases ef : f = (hs j).next
        · subst ef
          have hno : hm.obj (hs j).next = none := hdm _ (by omega)
          have : Heap.writable hm (hs j).next = false := by unfold Heap.writable; rw [hno]
          exact absurd (hw.symm.trans this) (by simp)
        · exact absurd hbk (e5 f g b' hb ef)
    refine ⟨b, Pm.ext _ _ _ e1, fun g b' hg => ?_, fun ob ho => (e3 ob ho).mono Pm.ext hblk, e4, fun f g b' hb ef => ?_, e6⟩
    · cases h00 : σ (hs j).next g with
      | some b0 => exact e2 g b0 h00
      | none =>
        obtain ⟨n1, n2⟩ := p2 _ g b' hg h00
        omega
    · cases h00 : σ f g with
      | some b0 =>
        have := Pm.ext f g b0 h00
        rw [hb] at this
        cases this
        exact e5 f g b' h00 ef
      | none =>
        obtain ⟨n1, n2⟩ := p2 f g b' hb h00
        rcases (Pm.new f g b' hb h00).2 with ⟨a3, _⟩ | ⟨a3, _⟩
        · omega
        · have : f < hm.next := a3
          omega
  refine ⟨by simpa using I.size, I.closedPut hr, I.ple, fun q hq hns => (ld_set hiL).2 (.inr (I.before q hq hns)), fun hp => ⟨(I.here hp).1, fun hl => ?_⟩, hpost, fun q hq hnl f g hf1 hf2 => ?_, I.envPut R hr Pm.ext hv hT,
    by rw [size_put]; exact I.tsize, by rw [defers_put]; exact I.defers, hearly⟩
  · rcases (ld_set hiL).1 hl with e | h
    · subst e; exact (I.here hp).1 hsf
    · exact (I.here hp).2 h
  · have hnq : ¬ Ld L q := fun h => hnl ((ld_set hiL).2 (.inr h))
    have hne : q ≠ i := fun h => hnl ((ld_set hiL).2 (.inl h))
    cases hs' : σ' f g with
    | none => rfl
    | some b =>
      obtain ⟨n1, n2⟩ := p2 f g b hs' (I.free q hq hnq f g hf1 hf2)
      obtain ⟨n3, n4⟩ := hin f n1 n2
      rcases Nat.lt_or_gt_of_ne hne with h | h
      · have := R.nexts (q := q + 1) (q' := i) h (by omega); omega
      · have := R.nexts (q := i + 1) (q' := q) h (by omega); omega

theorem calm_quiet {op : Op} (h : quietOp op = true) : calmOp op = true := by
  unfold calmOp
  split
  · rfl
  · exact h
theorem fresh_alloc {o : Oper} (h : freshOp o = true) : ∃ t, o.op = .alloc t ∧ o.guard = none := by
  unfold freshOp at h
  split at h
  · rename_i t ht
    split at h
    · rename_i hg; exact ⟨t, ht, hg⟩
    · cases h
  · cases h
theorem fresh_calm {o : Oper} (h : freshOp o = true) : calmOp o.op = false := by
  obtain ⟨t, ht, _⟩ := fresh_alloc h
  rw [ht]
  rfl
theorem fresh_wanted {o : Oper} (h : freshOp o = true) (all : Array Oper) (T : Env) : wanted all T o = some true := by
  obtain ⟨_, _, hg⟩ := fresh_alloc h
  unfold wanted
  rw [hg]

theorem fresh_oper {o : Oper} (h : freshOp o = true) {T : Env} {k h2 : Heap} {v : AVal} (hop : oper P callF o.op T k = some (v, h2)) :
    ∃ t z ob, o.op = .alloc t ∧ zero? P t = some z ∧ v = .ptr (some ⟨k.next, 0, 0⟩) ∧ h2 = k.push ob ∧ ∀ k' : Heap, newVar P t z k' = some (.ptr (some ⟨k'.next, 0, 0⟩), k'.push ob) := by
  obtain ⟨t, ht, _⟩ := fresh_alloc h
  rw [ht] at hop
  change at_alloc P t T k = some (v, h2) at hop
  unfold at_alloc at hop
  simp only [Option.bind_eq_some_iff] at hop
  obtain ⟨z, hz, hn⟩ := hop
  obtain ⟨ob, e1, e2, e3⟩ := newVar_shape hn
  exact ⟨t, z, ob, ht, hz, e1, e2, e3⟩

theorem push_obj (h : Heap) (o : AObj) (f : Nat) : (h.push o).obj f = if f = h.next then (if h.next < 65536 then some o else none) else h.obj f := L4.getL_setL _ trivial _ _ _

theorem fresh_still (R : Run P callF l a0.tmps.size Ts hs) {q : Nat} {o : Oper} (hq : l[q]? = some o) (hf : freshOp o = true) : Still P callF l Ts hs q := by
  refine ⟨?_, fun o' v h2 ho' _ hop => ?_⟩
  · rcases opAtD_cases (R.step q o hq) with ⟨hw, _, _⟩ | ⟨_, v, h2, hop, _, _, _, eh⟩
    · rw [fresh_wanted hf] at hw; cases hw
    · obtain ⟨t, z, ob, _, _, _, e2, _⟩ := fresh_oper hf hop
      intro f hlt
      rw [eh, e2]
      show (Heap.push { hs q with low := (hs q).next } ob).obj f = _
      rw [push_obj, if_neg (show ¬ f = (hs q).next by omega)]
      rfl
  · rw [hq] at ho'
    cases ho'
    obtain ⟨t, z, ob, _, _, _, e2, _⟩ := fresh_oper hf hop
    rw [e2]
    exact Nat.le_refl _

/-- A variable is made ahead of its turn. -/
theorem Inv.stepEarly (R : Run P callF l a0.tmps.size Ts hs) (I : Inv P B callF l Ts hs σ0 w0 a0 σ p L a w) {i : Nat} {o : Oper} (hr : Ready l L i o) (hpi : p < i) (hfr : freshOp o = true)
    {v : AVal} {h2 : Heap} (hop : oper P callF o.op (Ts i) { hs i with low := (hs i).next } = some (v, h2)) (eT : Ts (i + 1) = putD (Ts i) o.dst v) (hob : ∀ f, (hs (i + 1)).obj f = h2.obj f) (hnx : h2.next = (hs (i + 1)).next)
    {Q : Exit → Act → World → Prop} {rd : Option Nat} {nn : Nat} :
    o.wpIn (wideR rd) nn P a w (fun a' w' => ∃ σ' p', Inv P B callF l Ts hs σ0 w0 a0 σ' p' (L.setIfInBounds i true) a' w') Q := by
  have hi : i < l.size := (Array.getElem?_eq_some_iff.1 hr.get).1
  have hiL : i < L.size := by rw [I.size]; exact hi
  obtain ⟨t, z, ob, hopt, hz, hv, e2, hnv⟩ := fresh_oper hfr hop
  have hv' : v = .ptr (some ⟨(hs i).next, 0, 0⟩) := hv
  have hF : (hs p).next ≤ (hs i).next := R.nexts (Nat.le_of_lt hpi) (by omega)
  have hN1 : (hs (i + 1)).next = (hs i).next + 1 := by rw [← hnx, e2]; rfl
  have hNl : (hs (i + 1)).next ≤ (hs l.size).next := R.nexts hi (Nat.le_refl _)
  have h0F : (hs 0).next ≤ (hs i).next := R.nexts (Nat.zero_le _) (by omega)
  let hm : Heap := ⟨(hs p).objs, (hs i).next, (hs i).next⟩
  have K := I.post.rel
  have Hm : Rel P B σ hm w := ⟨K.deep, fun f hf => K.dom f (Nat.le_trans hF hf), K.full, K.base, K.glob, K.obj, K.wr, K.live, K.apart, K.alike, ⟨K.ctx.under, K.ctx.loops⟩⟩
  have hfree : Free σ hm.next (hm.push ob).next := by
    intro f g h1 h3
    have h3' : f < (hs i).next + 1 := h3
    exact I.free i hi hr.no f g h1 (by omega)
  obtain ⟨b, x, hrun, hbb, hok, hpost⟩ := alloc_exact Hm hfree hz (hnv hm)
  have hle : σ.le (σ.add (hs i).next b) := hpost.ext
  have hold : ∀ k, k < w.heap.size → (w.alloc x).heap[k]? = w.heap[k]? := fun k hk => by
    show (w.heap.push x)[k]? = w.heap[k]?
    rw [Array.getElem?_push, if_neg (by omega)]
  have hcase : ∀ f g b', σ.add (hs i).next b f g = some b' → (f ≠ (hs i).next ∧ σ f g = some b') ∨ (f = (hs i).next ∧ g = 0 ∧ b' = b) := by
    intro f g b' hb
    by_cases e : f = (hs i).next
    · simp only [Real.add, if_pos e] at hb
      split at hb
      · rename_i hg; exact .inr ⟨e, hg, (Option.some.inj hb).symm⟩
      · cases hb
    · simp only [Real.add, if_neg e] at hb
      exact .inl ⟨e, hb⟩
  have hsz : (w.alloc x).heap.size = w.heap.size + 1 := by
    show (w.heap.push x).size = _
    simp
  have hpo : ∀ f o', (hs p).obj f = some o' → (hm.push ob).obj f = some o' := by
    intro f o' ho'
    have hlt : f < (hs p).next := by
      rcases Nat.lt_or_ge f (hs p).next with h | h
      · exact h
      · rw [K.dom f h] at ho'; cases ho'
    have e : (hm.push ob).obj f = if f = (hs i).next then (if (hs i).next < 65536 then some ob else none) else (hs p).obj f := push_obj hm ob f
    rw [e, if_neg (by omega)]
    exact ho'
  have hpw : ∀ f, (hs p).writable f = true → (hm.push ob).writable f = true := by
    intro f hw'
    cases hx : (hs p).obj f with
    | none => rw [Heap.writable, hx] at hw'; cases hw'
    | some o' => rw [writable_of (hpo f o' hx), ← writable_of hx]; exact hw'
  have hrel : Rel P B (σ.add (hs i).next b) (hs p) (w.alloc x) :=
    ⟨K.deep, K.dom, K.full, hpost.rel.base, hpost.rel.glob, fun f g b' o' hb ho' => hpost.rel.obj f g b' o' hb (hpo f o' ho'), fun f g b' hb hw' => hpost.rel.wr f g b' hb (hpw f hw'), hpost.rel.live,
      fun f g b' f' g' b'' hb hb' hne hw' => hpost.rel.apart f g b' f' g' b'' hb hb' hne (hpw f hw'), hpost.rel.alike,
      hpost.rel.ctx.mono (Real.le_refl _) (fun f b' _ hk => by cases hx : (hs p).writable f with | false => rfl | true => rw [hpw f hx] at hk; cases hk) (fun _ _ _ _ _ hr => hr)⟩
  have hpostN : PostN P B (hs l.size).next σ0 (hs 0) w0 (σ.add (hs i).next b) (hs p) (w.alloc x) := by
    refine ⟨Real.le_trans I.post.ext hle, hrel, fun f g b' hb h00 => ?_, fun k hk hno => ?_, ?_, I.post.os, I.post.tape, I.post.output, I.post.keep, fun f hf hlow => ⟨(I.post.soft f hf hlow).1, fun g => ?_⟩, I.post.low⟩
    · rcases hcase f g b' hb with ⟨_, h3⟩ | ⟨rfl, rfl, rfl⟩
      · exact I.post.new f g b' h3 h00
      · refine ⟨by omega, .inl ⟨?_, h0F⟩⟩
        rw [hbb]
        exact I.post.size
    · rw [hold k (Nat.lt_of_lt_of_le hk I.post.size)]
      exact I.post.frame k hk hno
    · rw [hsz]
      exact Nat.le_succ_of_le I.post.size
    · have hne : f ≠ (hs i).next := by omega
      simp only [Real.add, if_neg hne]
      exact (I.post.soft f hf hlow).2 g
  refine ⟨fun _ _ => trivial, ?_⟩
  rw [Oper.semAt_eq _ _ _ (fun c e => by rw [hopt] at e; cases e)]
  have he : execOp a.eval o = (do pure (.value (← Instr.alloc t true (.tuple #[]))) : Sem Next) := by
    obtain ⟨dst, op, type, pos, after, guard⟩ := o
    change op = _ at hopt
    subst hopt
    rfl
  rw [he]
  simp only [Sem.run_bind, hrun, Result.andThen_ok, Sem.run_pure]
  have hTv : Ts (i + 1) = putD (Ts i) o.dst (.ptr (some ⟨hm.next, 0, 0⟩)) := by rw [eT, hv']
  show ∃ σ' p', Inv P B callF l Ts hs σ0 w0 a0 σ' p' (L.setIfInBounds i true) (a.put o.dst (conc (σ.add (hs i).next b) (.ptr (some ⟨(hs i).next, 0, 0⟩)))) (w.alloc x)
  refine ⟨σ.add (hs i).next b, p, by simpa using I.size, I.closedPut hr, I.ple, fun q hq hns => (ld_set hiL).2 (.inr (I.before q hq hns)), fun hp => ⟨(I.here hp).1, fun hl => ?_⟩, hpostN, fun q hq hnl f g hf1 hf2 => ?_,
    I.envPut R hr hle hok hTv, by rw [size_put]; exact I.tsize, by rw [defers_put]; exact I.defers, fun j y hy hpj hl' hfr' => ?_⟩
  · rcases (ld_set hiL).1 hl with e | h
    · omega
    · exact (I.here hp).2 h
  · have hnq : ¬ Ld L q := fun h => hnl ((ld_set hiL).2 (.inr h))
    have hne : q ≠ i := fun h => hnl ((ld_set hiL).2 (.inl h))
    have hfF : f ≠ (hs i).next := by
      rcases Nat.lt_or_gt_of_ne hne with h | h
      · have := R.nexts (q := q + 1) (q' := i) h (by omega); omega
      · have := R.nexts (q := i + 1) (q' := q) h (by omega); omega
    simp only [Real.add, if_neg hfF]
    exact I.free q hq hnq f g hf1 hf2
  · rcases (ld_set hiL).1 hl' with e | h
    · subst e
      refine ⟨b, by simp [Real.add], fun g b' hg => ?_, fun ob' ho' => ?_, ?_, fun f g b' hb hne => ?_, hN1⟩
      · rcases hcase _ g b' hg with ⟨h3, _⟩ | ⟨_, h3, _⟩
        · exact absurd rfl h3
        · exact h3
      · have e3 : (hm.push ob).obj (hs j).next = some ob' := by
          have d1 : h2.obj (hs j).next = if (hs j).next = (hs j).next then (if (hs j).next < 65536 then some ob else none) else (hs j).obj (hs j).next := by rw [e2]; exact push_obj _ ob _
          have d2 : (hm.push ob).obj (hs j).next = if (hs j).next = (hs j).next then (if (hs j).next < 65536 then some ob else none) else (hs p).obj (hs j).next := push_obj hm ob _
          rw [hob, d1, if_pos rfl] at ho'
          rw [d2, if_pos rfl]
          exact ho'
        exact hpost.rel.obj (hs j).next 0 b ob' (show σ.add (hs j).next b (hs j).next 0 = some b by simp [Real.add]) e3
      · rw [hbb]; exact K.base
      · rcases hcase f g b' hb with ⟨_, h3⟩ | ⟨h3, _⟩
        · have := K.live f g b' h3
          omega
        · exact absurd h3 hne
    · have hjs : j < l.size := (Array.getElem?_eq_some_iff.1 hy).1
      have hne : j ≠ i := fun e => hr.no (by rw [← e]; exact h)
      obtain ⟨b1, e1, e3, e4, e5, e6, e7⟩ := I.early j y hy hpj h hfr'
      have hFj : (hs j).next ≠ (hs i).next := by
        rcases Nat.lt_or_gt_of_ne hne with h3 | h3
        · have := R.nexts (q := j + 1) (q' := i) h3 (by omega); omega
        · have := R.nexts (q := i + 1) (q' := j) h3 (by omega); omega
      have hlv := K.live _ _ _ e1
      refine ⟨b1, hle _ _ _ e1, fun g b' hg => ?_, fun ob' ho' => (e4 ob' ho').mono hle (hold _ hlv), e5, fun f g b' hb hne' => ?_, e7⟩
      · rcases hcase _ g b' hg with ⟨_, h3⟩ | ⟨h3, _⟩
        · exact e3 g b' h3
        · exact absurd h3 hFj
      · rcases hcase f g b' hb with ⟨_, h3⟩ | ⟨_, _, h3⟩
        · exact e6 f g b' h3 hne'
        · rw [h3, hbb]
          omega

/-- Where a number lies among numbers that grow. -/
theorem locate (F : Nat → Nat) : ∀ (d p f : Nat), F p ≤ f → f < F (p + d) → ∃ q, p ≤ q ∧ q < p + d ∧ F q ≤ f ∧ f < F (q + 1)
  | 0, p, f, h1, h2 => by
    have h2' : f < F p := h2
    omega
  | d + 1, p, f, h1, h2 => by
    rcases Nat.lt_or_ge f (F (p + d)) with h | h
    · obtain ⟨q, a, b, c, e⟩ := locate F d p f h1 h
      exact ⟨q, a, by omega, c, e⟩
    · exact ⟨p + d, by omega, by omega, h, h2⟩

theorem Inv.step (hcall : CallSound P B callF) (R : Run P callF l a0.tmps.size Ts hs) (h0 : Free σ0 (hs 0).next (hs l.size).next) (I : Inv P B callF l Ts hs σ0 w0 a0 σ p L a w) {i : Nat} {o : Oper} (hr : Ready l L i o) {Q : Exit → Act → World → Prop} {rd : Option Nat} {nn : Nat} :
    wpOpIn (wideR rd) nn P l Q i (fun a' w' => ∃ σ' p', Inv P B callF l Ts hs σ0 w0 a0 σ' p' (L.setIfInBounds i true) a' w') a w := by
  have hi : i < l.size := (Array.getElem?_eq_some_iff.1 hr.get).1
  have hiL : i < L.size := by rw [I.size]; exact hi
  have hn0 : ∀ q, q ≤ l.size → (hs 0).next ≤ (hs q).next := fun q hq => R.nexts (Nat.zero_le q) hq
  unfold wpOpIn
  rw [hr.get]
  simp only []
  rcases opAtD_cases (R.step i o hr.get) with ⟨hw, eT, eh⟩ | ⟨hw, v, h2, hop, eT, hn, hl, eh⟩
  · -- the operation is left out
    rw [I.guard R hr hw, if_neg (by decide)]
    refine ⟨fun _ _ => trivial, ?_⟩
    have hsf : Still P callF l Ts hs i := ⟨by rw [eh]; exact fun _ _ => rfl, fun o' v' h2' ho' hw' _ => by rw [hr.get] at ho'; cases ho'; rw [hw] at hw'; cases hw'⟩
    have hpp : Soft { hs p with low := (hs p).next } (hs p) := fun _ _ => rfl
    exact ⟨σ, p, Inv.stepSoft (h2 := { hs p with low := (hs p).next }) (v := .tuple []) R h0 I hr hsf (fun hf => by rw [fresh_wanted hf] at hw; cases hw) trivial eT (hn0 p I.ple) (fun _ _ => rfl) (Nat.le_refl _) (R.ok p I.ple).dom (Post.refl (I.post.rel.low _)) (Nat.le_refl _) hpp (Nat.le_refl _) (fun f h1 h2 => by
      have : f < (hs p).next := h2
      omega)⟩
  · rw [I.guard R hr hw, if_pos rfl]
    have hnx : h2.next = (hs (i + 1)).next := by rw [eh]
    by_cases hsf : Still P callF l Ts hs i
    · cases hqt : quietOp o.op with
      | true =>
        obtain ⟨_, hq2⟩ := quiet_oper hqt hop
        have hpp : Soft { hs p with low := (hs p).next } (hs p) := fun _ _ => rfl
        refine op_sound hcall (h := { hs p with low := (hs p).next }) (I.post.rel.low _) (fun f g h1 h2 => by have : f < (hs p).next := h2; have h1' : (hs p).next ≤ f := h1; omega) (fun x hx => I.reads R hr x hx) (hq2 _) fun σ' w' hv hp => ?_
        exact ⟨σ', p, Inv.stepSoft R h0 I hr hsf (fun hf => by have := fresh_calm hf; rw [calm_quiet hqt] at this; cases this) hv eT (hn0 p I.ple) (fun _ _ => rfl) (Nat.le_refl _) (R.ok p I.ple).dom hp (Nat.le_refl _) hpp (Nat.le_refl _) (fun f h1 h2 => by
          have : f < (hs p).next := h2
          omega)⟩
      | false =>
       by_cases hcalm : calmOp o.op = true
       · -- a plain load
        obtain ⟨t, x, hopx⟩ := calm_load hcalm hqt
        have hop0 := hop
        rw [hopx] at hop0
        change at_load P t x (Ts i) { hs i with low := (hs i).next } = some (v, h2) at hop0
        unfold at_load at hop0
        simp only [Option.bind_eq_some_iff] at hop0
        obtain ⟨ad, had, hop0⟩ := hop0
        obtain ⟨hvi, _⟩ := ret_some hop0
        have hlo : loadOf P l o (Ts i) = some (t, ad) := by
          unfold loadOf
          rw [hopx]
          simp only [hw, had, Option.map_some]
        obtain ⟨v', hv', hrd⟩ := R.reads i o t ad hr.get hlo
        have hvv : v' = v := by
          have e : load P t ad (hs i) = some v := hvi
          rw [e] at hv'
          exact (Option.some.inj hv').symm
        subst hvv
        have hvp : load P t ad (hs p) = some v' := by
          rcases Nat.lt_trichotomy i p with h | h | h
          · rcases last_phase (Still P callF l Ts hs) (p - i) i p (by omega) with hall | ⟨k, k1, k2, k3, k4⟩
            · exact load_soft (R.ok i (by omega)).dom (R.chain (Nat.le_of_lt h) I.ple (fun k h1 h2 => (hall k h1 h2).1)) hv'
            · have hik : i < k := by
                rcases Nat.eq_or_lt_of_le k1 with e | e
                · subst e; exact absurd hsf k3
                · exact e
              obtain ⟨y, hy⟩ := Run.get (show k < l.size by have := I.ple; omega)
              rcases (hrd k y hy k3).2 hik with ha | hl'
              · exact absurd (I.gone hy (I.before k k2 k3) ha) hr.no
              · exact load_soft (R.ok (k + 1) (by have := I.ple; omega)).dom (R.chain (q := k + 1) (q' := p) k2 I.ple (fun m h1 h2 => (k4 m (by omega) h2).1)) hl'
          · subst h; exact absurd hsf (I.here hi).1
          · have hp : p < l.size := by omega
            obtain ⟨h1, h2⟩ := I.here hp
            obtain ⟨y, hy⟩ := Run.get hp
            rcases (hrd p y hy h1).1 h with ha | hl'
            · exact absurd (I.comes hr ha) h2
            · exact hl'
        have hq2 : oper P callF o.op (Ts i) { hs p with low := (hs p).next } = some (v', { hs p with low := (hs p).next }) := by
          rw [hopx]
          show at_load P t x (Ts i) { hs p with low := (hs p).next } = _
          unfold at_load
          rw [had]
          show ret (load P t ad (hs p)) { hs p with low := (hs p).next } = _
          rw [hvp]
          rfl
        have hpp : Soft { hs p with low := (hs p).next } (hs p) := fun _ _ => rfl
        refine op_sound hcall (h := { hs p with low := (hs p).next }) (I.post.rel.low _) (fun f g h1 h2 => by have : f < (hs p).next := h2; have h1' : (hs p).next ≤ f := h1; omega) (fun x hx => I.reads R hr x hx) hq2 fun σ' w' hv hp => ?_
        exact ⟨σ', p, Inv.stepSoft R h0 I hr hsf (fun hf => by have := fresh_calm hf; rw [hcalm] at this; cases this) hv eT (hn0 p I.ple) (fun _ _ => rfl) (Nat.le_refl _) (R.ok p I.ple).dom hp (Nat.le_refl _) hpp (Nat.le_refl _) (fun f h1 h2 => by
          have : f < (hs p).next := h2
          omega)⟩
       · have hqt : calmOp o.op = false := by simpa using hcalm
         have hway : i < p ∨ (p < i ∧ freshOp o = true) := by
           rcases Nat.lt_or_ge i p with h | h
           · exact .inl h
           · have hp : p < l.size := by omega
             obtain ⟨h1, h2⟩ := I.here hp
             obtain ⟨y, hy⟩ := Run.get hp
             by_cases he : i = p
             · subst he; exact absurd hsf h1
             · have hlt : p < i := by omega
               rcases ((R.loudGet hy h1).2.2 i o hr.get hqt he).2 hlt with h3 | h3
               · exact absurd (I.comes hr h3) h2
               · exact .inr ⟨hlt, h3⟩
         rcases hway with hip | ⟨hpi, hfr⟩
         case inr => exact Inv.stepEarly R I hr hpi hfr hop eT (fun f => by rw [eh]; rfl) hnx
         have hall : ∀ k, i ≤ k → k < p → Still P callF l Ts hs k := by
           intro k hk1 hk2
           by_cases hks : Still P callF l Ts hs k
           · exact hks
           · have hne : i ≠ k := fun e => by subst e; exact hks hsf
             obtain ⟨y, hy⟩ := Run.get (show k < l.size by have := I.ple; omega)
             have hlk := I.before k hk2 hks
             exact absurd (I.gone hy hlk (((R.loudGet hy hks).2.2 i o hr.get hqt hne).1 (by omega))) hr.no
         have hmp := R.chain (Nat.le_of_lt hip) I.ple (fun k h1 h2 => (hall k h1 h2).1)
         have hmp1 := R.chain (q := i + 1) (q' := p) hip I.ple (fun k h1 h2 => (hall k (by omega) h2).1)
         have hnp := R.nexts (q := i + 1) (q' := p) hip I.ple
         have hlow : (hs i).next ≤ h2.low := hsf.2 o v h2 hr.get hw hop
         have hRel : Rel P B σ { hs i with low := (hs i).next } w := by
           have hok := R.ok i (by omega)
           have hobj : ∀ f o', (hs i).obj f = some o' → (hs p).obj f = some o' := by
             intro f o' ho'
             rcases Nat.lt_or_ge f (hs i).next with h | h
             · rw [hmp f h]; exact ho'
             · rw [hok.dom f h] at ho'; cases ho'
           have hwr : ∀ f, (hs i).writable f = true → (hs p).writable f = true := by
             intro f hw'
             cases hx : (hs i).obj f with
             | none => rw [Heap.writable, hx] at hw'; cases hw'
             | some o' => rw [writable_of (hobj f o' hx), ← writable_of hx]; exact hw'
           have H := I.post.rel
           exact ⟨hok.deep, hok.dom, hok.full, H.base, H.glob, fun f g b o' hb ho' => H.obj f g b o' hb (hobj f o' ho'), fun f g b hb hw' => H.wr f g b hb (hwr f hw'), H.live,
             fun f g b f' g' b' hb hb' hne hw' => H.apart f g b f' g' b' hb hb' hne (hwr f hw'), H.alike,
             H.ctx.mono (Real.le_refl σ) (fun f b _ hk => by show (hs i).writable f = false; cases hx : (hs i).writable f with | false => rfl | true => rw [hwr f hx] at hk; cases hk) (fun _ _ _ _ _ hr => hr)⟩
         refine op_sound hcall hRel (fun f g h1 h3 => I.free i hi hr.no f g h1 (by rw [← hnx]; exact h3)) (fun x hx => I.reads R hr x hx) hop fun σ' w' hv hp => ?_
         exact ⟨σ', p, Inv.stepSoft R h0 I hr hsf (fun _ => hip) hv eT (hn0 i (by omega)) hmp (R.nexts (Nat.le_of_lt hip) I.ple) (R.ok i (by omega)).dom hp hlow
           (fun f hf => by rw [hmp1 f (by rw [← hnx]; exact hf), eh]; rfl) (by rw [hnx]; exact hnp) (fun f h1 h3 => ⟨h1, by rw [← hnx]; exact h3⟩)⟩
    · -- a loud operation: its turn has come
      have hip : i = p := by
        rcases Nat.lt_trichotomy i p with h | h | h
        · exact absurd (I.before i h hsf) hr.no
        · exact h
        · have hp : p < l.size := by omega
          obtain ⟨h1, h2⟩ := I.here hp
          obtain ⟨y, hy⟩ := Run.get hp
          exact absurd (I.comes hr (((R.loudGet hr.get hsf).2.2 p y hy (R.loudGet hy h1).1 (by omega)).1 h)) h2
      subst hip
      obtain ⟨p', n1, n2, n3, n4⟩ := next_phase l.size (Still P callF l Ts hs) (l.size - (i + 1)) (i + 1) (by omega)
      obtain ⟨_, _, hloud⟩ := R.loudGet hr.get hsf
      have hq : ∀ q, q < i → ¬ Ld L q → (hs (q + 1)).next = (hs q).next := by
        intro q hq hnq
        obtain ⟨y, hy⟩ := Run.get (show q < l.size by omega)
        cases hqt : calmOp y.op with
        | true => exact R.quiet_next hy hqt
        | false => exact absurd (I.comes hr ((hloud q y hy hqt (by omega)).1 hq)) hnq
      have hunl : ∀ q, i < q → q < l.size → Ld L q → (hs (q + 1)).next = (hs q).next ∨ ∃ y, l[q]? = some y ∧ freshOp y = true := by
        intro q hq1 hq2 hl
        obtain ⟨y, hy⟩ := Run.get hq2
        cases hqt : calmOp y.op with
        | true => exact .inl (R.quiet_next hy hqt)
        | false =>
          rcases (hloud q y hy hqt (by omega)).2 hq1 with h3 | h3
          · exact absurd (I.gone hy hl h3) hr.no
          · exact .inr ⟨y, hy, h3⟩
      have hfi : Free σ (hs i).next (hs (i + 1)).next := I.free i hi hr.no
      have hle1 := R.nexts (q := i + 1) (q' := l.size) (by omega) (Nat.le_refl _)
      refine op_sound hcall (I.post.rel.low (hs i).next) (hfi.sub (Nat.le_refl _) (by rw [hnx]; exact Nat.le_refl _)) (fun x hx => I.reads R hr x hx) hop fun σ' w' hv hp => ?_
      have hp1 : Post P B σ (hs i) w σ' (hs (i + 1)) w' := by rw [eh]; exact hp.relow
      have hp2 : PostN P B (hs l.size).next σ0 (hs 0) w0 σ' (hs (i + 1)) w' := PostN.trans h0 hle1 (R.nexts (Nat.zero_le _) (by omega)) I.post hp1
      have hfar : ∀ f g, (hs (i + 1)).next ≤ f → σ' f g = σ f g := by
        intro f g hf
        cases h3 : σ f g with
        | some b => exact hp1.ext f g b h3
        | none =>
          cases h4 : σ' f g with
          | none => rfl
          | some b =>
            have := (hp1.new f g b h4 h3).1
            omega
      have hear : ∀ j y, l[j]? = some y → i < j → Ld L j → freshOp y = true → Early P B hs σ' w' j := by
        intro j y hy hij hlj hfr
        obtain ⟨b, e1, e2, e3, e4, e5, e6⟩ := I.early j y hy (Nat.le_of_lt hij) hlj hfr
        have hjs : j < l.size := (Array.getElem?_eq_some_iff.1 hy).1
        have hFj : (hs (i + 1)).next ≤ (hs j).next := R.nexts hij (by omega)
        have hFi : (hs i).next ≤ (hs j).next := R.nexts (Nat.le_of_lt hij) (by omega)
        have hlv := I.post.rel.live _ _ _ e1
        have hblk : w'.heap[b.block]? = w.heap[b.block]? := hp1.frame b.block hlv fun f g b' hb hbk => by
          cases hw2 : Heap.writable (hs i) f with
          | false => rfl
          | true =>
            by_cases ef : f = (hs j).next
            · subst ef
              have hno : (hs i).obj (hs j).next = none := (R.ok i (by omega)).dom _ hFi
              rw [Heap.writable, hno] at hw2
              cases hw2
            · exact absurd hbk (e5 f g b' hb ef)
        refine ⟨b, hp1.ext _ _ _ e1, fun g b' hg => e2 g b' (by rw [← hfar _ g hFj]; exact hg), fun ob ho => (e3 ob ho).mono hp1.ext hblk, e4, fun f g b' hb ef => ?_, e6⟩
        cases h00 : σ f g with
        | some b0 =>
          have := hp1.ext f g b0 h00
          rw [hb] at this
          cases this
          exact e5 f g b' h00 ef
        | none =>
          rcases (hp1.new f g b' hb h00).2 with ⟨a3, _⟩ | ⟨_, a3 | ⟨_, g0, b0, a4, a5⟩⟩
          · omega
          · omega
          · rw [← a5]; exact e5 f g0 b0 a4 ef
      have hsfk : ∀ k, i + 1 ≤ k → k < p' → Soft (hs k) (hs (k + 1)) := fun k h1 h2 => (n3 k h1 h2).1
      have hch := R.chain n1 n2 hsfk
      -- what lies there at the next phase
      have hnewobj : ∀ f g b ob, σ' f g = some b → (hs p').obj f = some ob → (hs (i + 1)).next ≤ f → ∃ j y, l[j]? = some y ∧ i < j ∧ Ld L j ∧ freshOp y = true ∧ f = (hs j).next ∧ g = 0 ∧ (hs (j + 1)).obj (hs j).next = some ob := by
        intro f g b ob hb ho hf
        have hlt : f < (hs p').next := by
          rcases Nat.lt_or_ge f (hs p').next with h | h
          · exact h
          · rw [(R.ok p' n2).dom f h] at ho; cases ho
        obtain ⟨q, q1, q2, q3, q4⟩ := locate (fun k => (hs k).next) (p' - (i + 1)) (i + 1) f hf (by rw [show i + 1 + (p' - (i + 1)) = p' by omega]; exact hlt)
        have hqs : q < l.size := by omega
        by_cases hlq : Ld L q
        · rcases hunl q (by omega) hqs hlq with h3 | ⟨y, hy, hfr⟩
          · have q4' : f < (hs (q + 1)).next := q4
            have q3' : (hs q).next ≤ f := q3
            omega
          · obtain ⟨b1, e1, e2, e3, e4, e5, e6⟩ := I.early q y hy (by omega) hlq hfr
            have hfq : f = (hs q).next := by
              have q4' : f < (hs (q + 1)).next := q4
              have q3' : (hs q).next ≤ f := q3
              omega
            refine ⟨q, y, hy, by omega, hlq, hfr, hfq, ?_, ?_⟩
            · rw [hfar f g hf, hfq] at hb
              exact e2 g b hb
            · have := R.chain (q := q + 1) (q' := p') (by omega) n2 (fun k h1 h2 => (n3 k (by omega) h2).1) (hs q).next (by omega)
              rw [← this, ← hfq]
              exact ho
        · have := I.free q hqs hlq f g q3 q4
          rw [hfar f g hf, this] at hb
          cases hb
      have hobj1 : ∀ f ob, (hs p').obj f = some ob → f < (hs (i + 1)).next → (hs (i + 1)).obj f = some ob := by
        intro f ob ho hf
        rw [← hch f hf]
        exact ho
      have hwr1 : ∀ f, (hs p').writable f = true → f < (hs (i + 1)).next → (hs (i + 1)).writable f = true := by
        intro f hw2 hf
        rw [← writable_soft (hs (i + 1)) (hs p') f (hch f hf)]
        exact hw2
      have hsome : ∀ f, (hs p').writable f = true → ∃ ob, (hs p').obj f = some ob := by
        intro f hw2
        cases hx : (hs p').obj f with
        | none => rw [Heap.writable, hx] at hw2; cases hw2
        | some ob => exact ⟨ob, rfl⟩
      have K := hp1.rel
      have hrelp : Rel P B σ' (hs p') w' := by
        refine ⟨(R.ok p' n2).deep, (R.ok p' n2).dom, (R.ok p' n2).full, K.base, K.glob, fun f g b ob hb ho => ?_, fun f g b hb hw2 => ?_, K.live, fun f g b f' g' b' hb hb' hne hw2 => ?_, K.alike, ?_⟩
        · rcases Nat.lt_or_ge f (hs (i + 1)).next with h | h
          · exact K.obj f g b ob hb (hobj1 f ob ho h)
          · obtain ⟨j, y, hy, hij, hlj, hfr, rfl, rfl, hoj⟩ := hnewobj f g b ob hb ho h
            obtain ⟨b1, e1, _, e3, _⟩ := hear j y hy hij hlj hfr
            rw [hb] at e1
            cases e1
            exact e3 ob hoj
        · rcases Nat.lt_or_ge f (hs (i + 1)).next with h | h
          · exact K.wr f g b hb (hwr1 f hw2 h)
          · obtain ⟨ob, ho⟩ := hsome f hw2
            obtain ⟨j, y, hy, hij, hlj, hfr, rfl, rfl, hoj⟩ := hnewobj f g b ob hb ho h
            obtain ⟨b1, e1, _, _, e4, _⟩ := hear j y hy hij hlj hfr
            rw [hb] at e1
            cases e1
            exact e4
        · rcases Nat.lt_or_ge f (hs (i + 1)).next with h | h
          · exact K.apart f g b f' g' b' hb hb' hne (hwr1 f hw2 h)
          · obtain ⟨ob, ho⟩ := hsome f hw2
            obtain ⟨j, y, hy, hij, hlj, hfr, rfl, rfl, hoj⟩ := hnewobj f g b ob hb ho h
            obtain ⟨b1, e1, _, _, _, e5, _⟩ := hear j y hy hij hlj hfr
            rw [hb] at e1
            cases e1
            exact fun e => e5 f' g' b' hb' (Ne.symm hne) e.symm
        · refine ⟨K.ctx.under, fun f r hm => ?_⟩
          obtain ⟨k1, b, k2, k3⟩ := K.ctx.loops f r hm
          refine ⟨?_, b, k2, k3⟩
          cases hx : (hs p').writable f with
          | false => rfl
          | true =>
            rcases Nat.lt_or_ge f (hs (i + 1)).next with h | h
            · rw [hwr1 f hx h] at k1; cases k1
            · obtain ⟨ob, ho⟩ := hsome f hx
              obtain ⟨j, y, hy, hij, hlj, hfr, rfl, _, hoj⟩ := hnewobj f 0 b ob k2 ho h
              obtain ⟨b1, e1, _, e3, _⟩ := hear j y hy hij hlj hfr
              rw [k2] at e1
              cases e1
              exact absurd (show Hid (.loop r) from .inl ⟨r, rfl⟩) (obj_not_hid (e3 ob hoj) k3)
      have hp3 : PostN P B (hs l.size).next σ0 (hs 0) w0 σ' (hs p') w' := by
        have h01 : (hs 0).next ≤ (hs (i + 1)).next := R.nexts (Nat.zero_le _) (by omega)
        refine ⟨hp2.ext, hrelp, hp2.new, hp2.frame, hp2.size, hp2.os, hp2.tape, hp2.output, fun f hf => ?_, fun f hf hlow => ?_, Nat.le_trans (R.lows n1 n2) hp2.low⟩
        · rw [writable_soft (hs (i + 1)) (hs p') f (hch f (Nat.lt_of_lt_of_le hf h01))]
          exact hp2.keep f hf
        · obtain ⟨a1, a2⟩ := hp2.soft f hf (Nat.lt_of_lt_of_le hlow (R.lows n1 n2))
          exact ⟨(hch f (Nat.lt_of_lt_of_le hf h01)).trans a1, a2⟩
      refine ⟨σ', p', by simpa using I.size, I.closedPut hr, n2, fun q hq1 hq2 => ?_, fun hp' => ⟨n4 hp', fun hl' => ?_⟩, hp3, fun q hq1 hnl f g hf1 hf3 => ?_, I.envPut R hr hp.ext hv eT, by rw [size_put]; exact I.tsize, by rw [defers_put]; exact I.defers, fun j y hy hpj hl' hfr => ?_⟩
      · rw [ld_set hiL]
        rcases Nat.lt_trichotomy q i with h | h | h
        · exact .inr (I.before q h hq2)
        · exact .inl h
        · exact absurd (n3 q h hq1) hq2
      · rcases (ld_set hiL).1 hl' with e | h
        · omega
        · obtain ⟨y, hy⟩ := Run.get hp'
          rcases (hloud p' y hy (R.loudGet hy (n4 hp')).1 (by omega)).2 (by omega) with h3 | h3
          · exact absurd (I.gone hy h h3) hr.no
          · exact n4 hp' (fresh_still R hy h3)
      · have hnq : ¬ Ld L q := fun h => hnl ((ld_set hiL).2 (.inr h))
        have hne : q ≠ i := fun h => hnl ((ld_set hiL).2 (.inl h))
        rcases Nat.lt_or_gt_of_ne hne with h | h
        · have := hq q h hnq; omega
        · have h5 := R.nexts (q := i + 1) (q' := q) h (by omega)
          rw [hfar f g (by omega)]
          exact I.free q hq1 hnq f g hf1 hf3
      · rcases (ld_set hiL).1 hl' with e | h
        · omega
        · exact hear j y hy (by omega) h hfr

end
end Go.Abs

namespace Go.Abs
variable {P : Program} {B : Base} {callF : CallF} {seqF : SeqF}

theorem not_ld {l : Array Oper} {L : Array Bool} (hsz : L.size = l.size) {i : Nat} (hi : i < l.size) (h : ¬ Ld L i) : L.getD i true = false := by
  have hlt : i < L.size := by rw [hsz]; exact hi
  unfold Ld at h
  rw [Array.getD_eq_getD_getElem?] at h ⊢
  have hx : L[i]? = some L[i] := by simp [hlt]
  rw [hx] at h ⊢
  simp only [Option.getD_some] at h ⊢
  simpa using h

theorem all_listed {l : Array Oper} {L : Array Bool} (hsz : L.size = l.size) (hb : ∀ (i : Nat) (x : Oper), l[i]? = some x → ∀ e ∈ x.after, Region.binds .any e = true → e.on < i)
    (hr : Region.ready .any l L = []) : ∀ i, i < l.size → Ld L i := by
  intro i
  induction i using Nat.strongRecOn with
  | _ i ih =>
    intro hi
    by_cases h : Ld L i
    · exact h
    · obtain ⟨o, ho⟩ := Run.get hi
      have : i ∈ Region.ready .any l L := mem_ready.2 ⟨not_ld hsz hi h, o, ho, fun e he hbe => ih e.on (hb i o ho e he hbe) (Nat.lt_trans (hb i o ho e he hbe) hi)⟩
      rw [hr] at this
      cases this

theorem draw_main {rd : Option Nat} {nn : Nat} (hcall : CallSound P B callF) {l : Array Oper} {Ts : Nat → Env} {hs : Nat → Heap} {σ0 : Real} {w0 : World} {a0 : Act} (R : Run P callF l a0.tmps.size Ts hs) (h0 : Free σ0 (hs 0).next (hs l.size).next) :
    ∀ (fuel : Nat) (L : Array Bool) (σ : Real) (p : Nat) (a : Act) (w : World) (U : List Nat), Inv P B callF l Ts hs σ0 w0 a0 σ p L a w → (∀ i, i < l.size → ¬ Ld L i → i ∈ U) → U.length ≤ fuel →
      wpAnyIn (wideR rd) nn P .any l (fun e a' w' => e = .normal ∧ End P B σ0 (hs 0) w0 a0 (Ts l.size) (hs l.size) a' w') fuel L a w := by
  have fin : ∀ (L : Array Bool) (σ : Real) (p : Nat) (a : Act) (w : World), Inv P B callF l Ts hs σ0 w0 a0 σ p L a w → (∀ i, i < l.size → Ld L i) → End P B σ0 (hs 0) w0 a0 (Ts l.size) (hs l.size) a w := by
    intro L σ p a w I hall
    have hp : p = l.size := by
      rcases Nat.lt_or_ge p l.size with h | h
      · exact absurd (hall p h) (I.here h).2
      · have := I.ple; omega
    have hpost := I.post
    rw [hp] at hpost
    refine ⟨σ, hpost.toPost (R.nexts (Nat.zero_le _) (Nat.le_refl _)), ⟨R.deepT _ (Nat.le_refl _), fun t v hv => I.env t l.size (Nat.le_refl _) (fun i o hi _ => ?_) v hv⟩, I.tsize, I.defers⟩
    have hlt : i < l.size := (Array.getElem?_eq_some_iff.1 hi).1
    exact ⟨fun _ => hlt, fun _ => hall i hlt⟩
  intro fuel
  induction fuel with
  | zero =>
    intro L σ p a w U I hU hlen
    have hnil : U = [] := List.length_eq_zero_iff.1 (by omega)
    have hall : ∀ i, i < l.size → Ld L i := fun i hi => by
      by_cases h : Ld L i
      · exact h
      · have := hU i hi h
        rw [hnil] at this
        cases this
    refine ⟨List.eq_nil_iff_forall_not_mem.2 fun j hj => ?_, rfl, fin L σ p a w I hall⟩
    obtain ⟨o, hr⟩ := ready_of I.size hj
    exact hr.no (hall j (Array.getElem?_eq_some_iff.1 hr.get).1)
  | succ fuel ih =>
    intro L σ p a w U I hU hlen
    refine ⟨fun hr => ⟨rfl, fin L σ p a w I (all_listed I.size (fun i x hx => R.back hx) hr)⟩, fun i hi => ?_⟩
    obtain ⟨o, hr⟩ := ready_of I.size hi
    have hil : i < l.size := (Array.getElem?_eq_some_iff.1 hr.get).1
    have hiU := hU i hil hr.no
    refine wpOpIn_mono ?_ (I.step hcall R h0 hr)
    rintro a' w' ⟨σ', p', I'⟩
    refine ih _ σ' p' a' w' (U.erase i) I' (fun j hj hnj => ?_) (by rw [List.length_erase_of_mem hiU]; omega)
    have hiL : i < L.size := by rw [I.size]; exact hil
    rw [ld_set hiL] at hnj
    have hne : j ≠ i := fun e => hnj (.inl e)
    exact (List.mem_erase_of_ne hne).2 (hU j hj (fun h => hnj (.inr h)))

theorem draw_sound (hmix : P.follows .mixedOrders = true) (hcall : CallSound P B callF) : DrawSound P B callF := by
  intro id l T T' h h' σ a w ho hg H hT hf rd nn
  obtain ⟨Ts, hs, R, e1, e2, e3, e4⟩ := run_of hcall ho hg H hT hf
  subst e1 e2 e3 e4
  refine wpIn_region_any hmix ?_
  obtain ⟨p, n1, n2, n3, n4⟩ := next_phase l.size (Still P callF l Ts hs) l.size 0 (by omega)
  have hnol : ∀ i, ¬ Ld (Array.replicate l.size false) i := by
    intro i hl
    unfold Ld at hl
    rw [Array.getD_eq_getD_getElem?, Array.getElem?_replicate] at hl
    split at hl <;> cases hl
  refine draw_main (σ0 := σ) (w0 := w) (a0 := a) hcall R hf l.size _ σ p a _ (List.range l.size) ?_ (fun i hi _ => List.mem_range.2 hi) (by simp)
  refine ⟨by simp, fun j o _ hl => absurd hl (hnol j), n2, fun q hq hns => absurd (n3 q (Nat.zero_le _) hq) hns, fun hp => ⟨n4 hp, hnol p⟩, ?_, ?_, ?_, rfl, rfl, fun j _ _ _ hl => absurd hl (hnol j)⟩
  · refine Post.toN ?_ (R.nexts n2 (Nat.le_refl _))
    exact (Post.ahead H (R.ok p n2) (R.nexts n1 n2) (R.chain n1 n2 (fun k h1 h2 => (n3 k h1 h2).1)) (hf.sub (Nat.le_refl _) (R.nexts n2 (Nat.le_refl _))) (R.lows n1 n2)).drawn rfl rfl rfl rfl
  · intro q hq _ f g h1 h2
    exact hf f g (Nat.le_trans (R.nexts (Nat.zero_le q) (by omega)) h1) (Nat.lt_of_lt_of_le h2 (R.nexts hq (Nat.le_refl _)))
  · intro t q hq hcut v hv
    have hst : ∀ d, d ≤ q → (Ts d).get t = (Ts 0).get t := by
      intro d
      induction d with
      | zero => intro _; rfl
      | succ d ih =>
        intro hd
        obtain ⟨x, hx⟩ := Run.get (show d < l.size by omega)
        have hne : x.dst ≠ some t := fun hxt => hnol d ((hcut d x hx hxt).2 (by omega))
        rw [← ih (by omega)]
        have hdp := R.deepT d (by omega)
        rcases opAtD_cases (R.step _ x hx) with ⟨_, e, _⟩ | ⟨_, v2, _, _, e, _⟩
        · rw [e, putD_get_ne hdp hne]
        · rw [e, putD_get_ne hdp hne]
    rw [hst q (Nat.le_refl _)] at hv
    exact hT.val t v hv

/-- **A step of the evaluator of calls, and the model's calls.** -/
theorem calls_step {ok : Nat} {f : FuncId} {args : List AVal} {h h' : Heap} {v : AVal} {σ : Real} {w : World} (hmix : P.follows .mixedOrders = true)
    (hgood : ∀ f, Nat.testBit ok f = true → ∀ fn, P.funcs[f]? = some fn → goodFunc fn = true) (hcall : CallSound P B callF) (hseq : SeqSound P B seqF) (hc : callStep P ok callF seqF f args h = some (v, h')) {fn : Func} (hfn : P.funcs[f]? = some fn) (hbody : fn.body.isSome = true)
    (H : Rel P B σ h w) (hargs : okvs σ args) (hfree : Free σ h.next h'.next) :
    Calls P f (concs σ args).toArray w fun e w' => ∃ σ', e = .returned (conc σ' v) ∧ okv σ' v ∧ Post P B σ h w σ' h' w' := by
  have hcs := callStep_sound (B := B) hgood hcall hseq (fun _ hc => draw_sound hmix hc) f args h v h' σ w { (default : Oper) with dst := some 0 } { tmps := #[undef], defers := [] }
    (fun a' w' => ∃ σ', a'.tmps.getD 0 undef = conc σ' v ∧ okv σ' v ∧ Post P B σ h w σ' h' w') (fun _ _ _ => False) none 0 hc H hargs hfree (fun σ' w' h1 h2 => ⟨σ', rfl, h1, h2⟩)
  have hbit : Nat.testBit ok f = true := by
    unfold callStep at hc
    split at hc
    · cases hc
    · assumption
  have hgf := hgood f hbit fn hfn
  unfold goodFunc at hgf
  simp only [Bool.and_eq_true, Bool.not_eq_true'] at hgf
  have h1 : fn.name ≠ "runtime.NumGoroutine" := by simpa using hgf.1
  obtain ⟨c, hb⟩ := Option.isSome_iff_exists.1 hbody
  have hcf : (callFunc f (concs σ args).toArray).run P w = .ok (.enter f (concs σ args).toArray) w := by
    simp [callFunc, hfn, h1, hb]
  rw [hcf, Oper.uponIn_enter] at hcs
  refine Calls.mono ((CallsIn.calls hcs.2 fun _ _ h => by cases h)) fun e w' he => ?_
  cases e with
  | returned u =>
    obtain ⟨σ', k1, k2, k3⟩ := he
    exact ⟨σ', by rw [← k1]; rfl, k2, k3⟩
  | panicked c => exact he.elim
  | outgrown => obtain ⟨_, _, hf⟩ := he; exact hf.elim

/-- **The evaluator of calls, and the model's calls.** -/
theorem calls_of {ok d : Nat} {f : FuncId} {args : List AVal} {h h' : Heap} {v : AVal} {σ : Real} {w : World} (hmix : P.follows .mixedOrders = true)
    (hgood : ∀ f, Nat.testBit ok f = true → ∀ fn, P.funcs[f]? = some fn → goodFunc fn = true) (hc : call P ok (d + 1) f args h = some (v, h')) {fn : Func} (hfn : P.funcs[f]? = some fn) (hbody : fn.body.isSome = true)
    (H : Rel P B σ h w) (hargs : okvs σ args) (hfree : Free σ h.next h'.next) :
    Calls P f (concs σ args).toArray w fun e w' => ∃ σ', e = .returned (conc σ' v) ∧ okv σ' v ∧ Post P B σ h w σ' h' w' := by
  have hY := callY_sound (P := P) hgood (fun _ _ hcf => draw_sound hmix hcf) d
  exact calls_step hmix hgood (hY B _ YieldSound.none) (fun B' i hd hB hh => hY B' _ (YieldSound.none.ext hB hh))
    (show callStep P ok (callY P ok d fun _ _ _ => none) (fun i hd => callY P ok d (YieldF.ext (fun _ _ _ => none) i hd)) f args h = some (v, h') from hc) hfn hbody H hargs hfree

/-- What a call leaves that changes nothing that was there. -/
theorem Post.of_below {σ : Real} {h : Heap} {w w' : World} (H : Rel P B σ h w) (hb : RowKit.Below w.heap.size w w') : Post P B σ h w σ h w' := by
  have heap : ∀ f g b, σ f g = some b → w'.heap[b.block]? = w.heap[b.block]? := fun f g b h1 => hb.block _ (H.live f g b h1)
  refine ⟨Real.le_refl σ, ⟨H.deep, H.dom, H.full, Nat.le_trans H.base hb.size, H.glob, fun f g b o h1 h2 => ObjOk.mono (H.obj f g b o h1 h2) (Real.le_refl σ) (heap f g b h1), H.wr, fun f g b h1 => Nat.lt_of_lt_of_le (H.live f g b h1) hb.size, H.apart, H.alike,
    H.ctx.mono (Real.le_refl σ) (fun _ _ _ hk => hk) (fun f b r h1 _ hr => by rw [heap f 0 b h1]; exact hr)⟩,
    Nat.le_refl _, fun f g b h1 h2 => absurd (h1.symm.trans h2) (by simp), fun k hk _ => hb.block k hk, hb.size, hb.os, hb.tape, hb.output, fun _ _ => rfl, fun _ _ _ => ⟨rfl, fun _ => rfl⟩, Nat.le_refl _⟩

end Go.Abs
