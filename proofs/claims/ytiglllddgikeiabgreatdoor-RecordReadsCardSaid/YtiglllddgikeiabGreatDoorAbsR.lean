/- An evaluator of Go code over an abstract memory, and the proof that each of its runs is a run of the model, whatever the tape. It holds for each program, without conditions. -/
import Derived.Test.YtiglllddgikeiabGreatDoorAbsF
namespace Go.Abs

/-! ### Equality of values and objects, to be reckoned -/

def intEq (a b : Int) : Bool := match a, b with
  | .ofNat m, .ofNat n => Nat.beq m n
  | .negSucc m, .negSucc n => Nat.beq m n
  | _, _ => false
def boolEq (a b : Bool) : Bool := match a, b with
  | true, true => true
  | false, false => true
  | _, _ => false
def bytesEq : List UInt8 → List UInt8 → Bool
  | [], [] => true
  | a :: as, b :: bs => Nat.beq a.toNat b.toNat && bytesEq as bs
  | _, _ => false
def fnEq : Fn → Fn → Bool
  | .func f, .func g => Nat.beq f g
  | _, _ => false
mutual
def avEq : AVal → AVal → Bool
  | .bool a, x => match x with | .bool b => boolEq a b | _ => false
  | .int j a, x => match x with | .int k b => fkeq j k && intEq a b | _ => false
  | .str a, x => match x with | .str b => bytesEq a b | _ => false
  | .ptr p, x => match x with | .ptr q => optEq p q | _ => false
  | .slice p n c, x => match x with | .slice q m d => optEq p q && Nat.beq n m && capEq c d | _ => false
  | .zslice p a b, x => match x with | .zslice q c d => ptrEq p q && Nat.beq a c && Nat.beq b d | _ => false
  | .map none, x => match x with | .map none => true | _ => false
  | .map (some a), x => match x with | .map (some b) => Nat.beq a b | _ => false
  | .func f xs ys, x => match x with | .func g us vs => fnEq f g && avsEq xs us && avsEq ys vs | _ => false
  | .nilFunc, x => match x with | .nilFunc => true | _ => false
  | .iface t v, x => match x with | .iface u w => Nat.beq t u && avEq v w | _ => false
  | .nilIface, x => match x with | .nilIface => true | _ => false
  | .agg as, x => match x with | .agg bs => avsEq as bs | _ => false
  | .tuple as, x => match x with | .tuple bs => avsEq as bs | _ => false
def avsEq : List AVal → List AVal → Bool
  | [], x => match x with | [] => true | _ => false
  | a :: as, x => match x with | b :: bs => avEq a b && avsEq as bs | _ => false
end
def trEq : Tr (List AVal × Nat) → Tr (List AVal × Nat) → Bool
  | .leaf, x => match x with | .leaf => true | _ => false
  | .node l v r, x => match x with
    | .node l' v' r' => (match v, v' with
      | none, none => true
      | some (a, n), some (b, m) => avsEq a b && Nat.beq n m
      | _, _ => false) && trEq l l' && trEq r r'
    | _ => false
def cellsEq (a b : ACells) : Bool := Nat.beq a.ety b.ety && Nat.beq a.es b.es && Nat.beq a.size b.size && boolEq a.flex b.flex && Nat.beq a.gen b.gen && Nat.beq a.start b.start && Nat.beq a.frz b.frz && boolEq a.mark b.mark && boolEq a.ro b.ro && trEq a.elems b.elems
def entsEq : List (Int × AVal) → List (Int × AVal) → Bool
  | [], [] => true
  | (n, v) :: as, (m, u) :: bs => intEq n m && avEq v u && entsEq as bs
  | _, _ => false
def objEq : AObj → AObj → Bool
  | .cells a, .cells b => cellsEq a b
  | .siter s i, .siter t j => bytesEq s t && Nat.beq i j
  | .amap k a, .amap l b => fkeq k l && entsEq a b
  | .miter none, .miter none => true
  | .miter (some a), .miter (some b) => Nat.beq a b
  | _, _ => false

theorem intEq_sound {a b : Int} (h : intEq a b = true) : a = b := by
  cases a <;> cases b <;> simp_all [intEq]
theorem boolEq_sound {a b : Bool} (h : boolEq a b = true) : a = b := by
  cases a <;> cases b <;> simp_all [boolEq]
theorem bytesEq_sound : ∀ {a b : List UInt8}, bytesEq a b = true → a = b
  | [], [], _ => rfl
  | [], _ :: _, h => by cases h
  | _ :: _, [], h => by cases h
  | a :: as, b :: bs, h => by
    simp only [bytesEq, Bool.and_eq_true, Nat.beq_eq] at h
    rw [UInt8.toNat_inj.1 h.1, bytesEq_sound h.2]
theorem fkeq_sound {a b : IntKind} (h : fkeq a b = true) : a = b := by
  cases a <;> cases b <;> first | rfl | cases h
theorem fnEq_sound {a b : Fn} (h : fnEq a b = true) : a = b := by
  unfold fnEq at h
  split at h
  · rw [Nat.beq_eq] at h; rw [h]
  · cases h
mutual
theorem avEq_sound : ∀ {a b : AVal}, avEq a b = true → a = b
  | .bool a, x, h => by
    cases x <;> simp only [avEq, Bool.false_eq_true] at h
    rw [boolEq_sound h]
  | .int j a, x, h => by
    cases x <;> simp only [avEq, Bool.and_eq_true, Bool.false_eq_true] at h
    rw [fkeq_sound h.1, intEq_sound h.2]
  | .str a, x, h => by
    cases x <;> simp only [avEq, Bool.false_eq_true] at h
    rw [bytesEq_sound h]
  | .ptr p, x, h => by
    cases x <;> simp only [avEq, Bool.false_eq_true] at h
    rw [optEq_sound h]
  | .slice p n c, x, h => by
    cases x <;> simp only [avEq, Bool.and_eq_true, Nat.beq_eq, Bool.false_eq_true] at h
    rw [optEq_sound h.1.1, h.1.2, capEq_sound h.2]
  | .zslice p a b, x, h => by
    cases x <;> simp only [avEq, Bool.and_eq_true, Nat.beq_eq, Bool.false_eq_true] at h
    rw [ptrEq_sound h.1.1, h.1.2, h.2]
  | .map none, x, h => by
    cases x with
    | map m => cases m with
      | none => rfl
      | some m => simp [avEq] at h
    | _ => simp [avEq] at h
  | .map (some a), x, h => by
    cases x with
    | map m => cases m with
      | none => simp [avEq] at h
      | some m => simp only [avEq, Nat.beq_eq] at h; rw [h]
    | _ => simp [avEq] at h
  | .func f xs ys, x, h => by
    cases x <;> simp only [avEq, Bool.and_eq_true, Bool.false_eq_true] at h
    rw [fnEq_sound h.1.1, avsEq_sound h.1.2, avsEq_sound h.2]
  | .nilFunc, x, h => by
    cases x <;> simp only [avEq, Bool.false_eq_true] at h
    rfl
  | .iface t v, x, h => by
    cases x <;> simp only [avEq, Bool.and_eq_true, Nat.beq_eq, Bool.false_eq_true] at h
    rw [h.1, avEq_sound h.2]
  | .nilIface, x, h => by
    cases x <;> simp only [avEq, Bool.false_eq_true] at h
    rfl
  | .agg as, x, h => by
    cases x <;> simp only [avEq, Bool.false_eq_true] at h
    rw [avsEq_sound h]
  | .tuple as, x, h => by
    cases x <;> simp only [avEq, Bool.false_eq_true] at h
    rw [avsEq_sound h]
theorem avsEq_sound : ∀ {a b : List AVal}, avsEq a b = true → a = b
  | [], [], _ => rfl
  | [], _ :: _, h => by simp [avsEq] at h
  | _ :: _, [], h => by simp [avsEq] at h
  | a :: as, b :: bs, h => by
    simp only [avsEq, Bool.and_eq_true] at h
    rw [avEq_sound h.1, avsEq_sound h.2]
end
theorem trEq_sound : ∀ {a b : Tr (List AVal × Nat)}, trEq a b = true → a = b
  | .leaf, .leaf, _ => rfl
  | .leaf, .node _ _ _, h => by simp [trEq] at h
  | .node _ _ _, .leaf, h => by simp [trEq] at h
  | .node l v r, .node l' v' r', h => by
    simp only [trEq, Bool.and_eq_true] at h
    obtain ⟨⟨h1, h2⟩, h3⟩ := h
    rw [trEq_sound h2, trEq_sound h3]
    congr 1
    cases v with
    | none => cases v' with
      | none => rfl
      | some y => cases h1
    | some x => cases v' with
      | none => cases h1
      | some y =>
        obtain ⟨a, n⟩ := x
        obtain ⟨b, m⟩ := y
        simp only [Bool.and_eq_true, Nat.beq_eq] at h1
        rw [avsEq_sound h1.1, h1.2]
theorem cellsEq_sound {a b : ACells} (h : cellsEq a b = true) : a = b := by
  cases a; cases b
  simp only [cellsEq, Bool.and_eq_true, Nat.beq_eq] at h
  obtain ⟨⟨⟨⟨⟨⟨⟨⟨⟨h1, h2⟩, h3⟩, h4⟩, h5⟩, h6⟩, h7⟩, h8⟩, h9⟩, h10⟩ := h
  simp only [ACells.mk.injEq]
  exact ⟨h1, h2, h3, trEq_sound h10, boolEq_sound h4, h5, h6, h7, boolEq_sound h8, boolEq_sound h9⟩
theorem entsEq_sound : ∀ {a b : List (Int × AVal)}, entsEq a b = true → a = b
  | [], [], _ => rfl
  | [], _ :: _, h => by simp [entsEq] at h
  | _ :: _, [], h => by simp [entsEq] at h
  | (n, v) :: as, (m, u) :: bs, h => by
    simp only [entsEq, Bool.and_eq_true] at h
    rw [intEq_sound h.1.1, avEq_sound h.1.2, entsEq_sound h.2]
theorem objEq_sound {a b : AObj} (h : objEq a b = true) : a = b := by
  unfold objEq at h
  split at h
  · rw [cellsEq_sound h]
  · simp only [Bool.and_eq_true, Nat.beq_eq] at h
    rw [bytesEq_sound h.1, h.2]
  · simp only [Bool.and_eq_true] at h
    rw [fkeq_sound h.1, entsEq_sound h.2]
  · rfl
  · rw [Nat.beq_eq] at h; rw [h]
  · cases h

/-! ### The addresses in values -/

mutual
/-- All addresses in a value are such as p lets in, and no loop is named. -/
def refsIn (p : Nat → Nat → Bool) : AVal → Bool
  | .ptr none => true
  | .ptr (some q) => p q.fam q.gen
  | .slice none _ _ => true
  | .slice (some q) _ _ => p q.fam q.gen
  | .zslice q _ _ => p q.fam q.gen
  | .map none => true
  | .map (some f) => p f 0
  | .func fn xs ys => (match fn with | .yield _ => false | _ => true) && refsAll p xs && refsAll p ys
  | .iface _ v => refsIn p v
  | .agg cs => refsAll p cs
  | .tuple cs => refsAll p cs
  | _ => true
def refsAll (p : Nat → Nat → Bool) : List AVal → Bool
  | [] => true
  | v :: vs => refsIn p v && refsAll p vs
end
theorem refsAll_mem {p : Nat → Nat → Bool} : ∀ {l : List AVal}, refsAll p l = true → ∀ v ∈ l, refsIn p v = true
  | [], _, v, hv => by cases hv
  | a :: l, h, v, hv => by
    simp only [refsAll, Bool.and_eq_true] at h
    rcases List.mem_cons.1 hv with rfl | hv
    · exact h.1
    · exact refsAll_mem h.2 v hv
def trAll (q : List AVal × Nat → Bool) : Tr (List AVal × Nat) → Bool
  | .leaf => true
  | .node l v r => (match v with | some x => q x | none => true) && trAll q l && trAll q r
theorem trAll_get {q : List AVal × Nat → Bool} : ∀ {t : Tr (List AVal × Nat)} {k : Nat} {x : List AVal × Nat}, trAll q t = true → t.get k = some x → q x = true
  | .leaf, k, x, _, h => by cases h
  | .node l v r, k, x, h, hg => by
    simp only [trAll, Bool.and_eq_true] at h
    obtain ⟨⟨h1, h2⟩, h3⟩ := h
    change (Bool.rec (Bool.rec (r.get (Nat.div (Nat.sub k 1) 2)) (l.get (Nat.div (Nat.sub k 1) 2)) (Nat.beq (Nat.mod k 2) 1)) v (Nat.beq k 0) : Option _) = some x at hg
    cases h0 : Nat.beq k 0 with
    | true =>
      rw [h0] at hg
      have hv : v = some x := hg
      rw [hv] at h1
      exact h1
    | false =>
      rw [h0] at hg
      cases h4 : Nat.beq (Nat.mod k 2) 1 with
      | true => rw [h4] at hg; exact trAll_get h2 hg
      | false => rw [h4] at hg; exact trAll_get h3 hg
def objRefs (p : Nat → Nat → Bool) : AObj → Bool
  | .cells c => trAll (fun x => refsAll p x.1) c.elems
  | .siter _ _ => true
  | .amap _ es => es.all fun e => refsIn p e.2
  | .miter none => true
  | .miter (some f) => p f 0

mutual
theorem turn_v {σ σ' : Real} {p : Nat → Nat → Bool} (h : ∀ f g, p f g = true → σ' f g = σ f g) : ∀ v, refsIn p v = true → okv σ v → okv σ' v ∧ conc σ' v = conc σ v
  | .bool _, _, _ => ⟨trivial, rfl⟩
  | .int _ _, _, _ => ⟨trivial, rfl⟩
  | .str _, _, _ => ⟨trivial, rfl⟩
  | .ptr none, _, _ => ⟨trivial, rfl⟩
  | .ptr (some q), hp, ⟨b, hb, ho⟩ => by
    have e := h _ _ (show p q.fam q.gen = true by simpa only [refsIn] using hp)
    exact ⟨⟨b, e.trans hb, ho⟩, by simp only [conc, e]⟩
  | .slice none _ _, _, hc => ⟨hc, rfl⟩
  | .slice (some q) len cap, hp, ⟨b, hb, ho, hc⟩ => by
    have e := h _ _ (show p q.fam q.gen = true by simpa only [refsIn] using hp)
    exact ⟨⟨b, e.trans hb, ho, hc⟩, by simp only [conc, e]⟩
  | .zslice q low es, hp, ⟨b, hb, ho⟩ => by
    have e := h _ _ (show p q.fam q.gen = true by simpa only [refsIn] using hp)
    exact ⟨⟨b, e.trans hb, ho⟩, by simp only [conc, e]⟩
  | .map none, _, _ => ⟨trivial, rfl⟩
  | .map (some f), hp, ⟨b, hb⟩ => by
    have e := h _ _ (show p f 0 = true by simpa only [refsIn] using hp)
    exact ⟨⟨b, e.trans hb⟩, by simp only [conc, e]⟩
  | .func fn first cap, hp, ⟨h0, h1, h2⟩ => by
    simp only [refsIn, Bool.and_eq_true] at hp
    have e1 := turn_vs h first hp.1.2 h1
    have e2 := turn_vs h cap hp.2 h2
    have e0 : okFn σ' fn ∧ realFn σ' fn = realFn σ fn := by
      cases fn with
      | yield f => exact absurd hp.1.1 (by simp)
      | _ => exact ⟨trivial, rfl⟩
    exact ⟨⟨e0.1, e1.1, e2.1⟩, by simp only [conc, e0.2, e1.2, e2.2]⟩
  | .nilFunc, _, _ => ⟨trivial, rfl⟩
  | .iface t v, hp, hv => have e := turn_v h v (by simpa only [refsIn] using hp) hv; ⟨e.1, by simp only [conc, e.2]⟩
  | .nilIface, _, _ => ⟨trivial, rfl⟩
  | .agg cs, hp, hv => have e := turn_vs h cs (by simpa only [refsIn] using hp) hv.1; ⟨⟨e.1, hv.2⟩, by simp only [conc, e.2]⟩
  | .tuple vs, hp, hv => have e := turn_vs h vs (by simpa only [refsIn] using hp) hv; ⟨e.1, by simp only [conc, e.2]⟩
theorem turn_vs {σ σ' : Real} {p : Nat → Nat → Bool} (h : ∀ f g, p f g = true → σ' f g = σ f g) : ∀ l, refsAll p l = true → okvs σ l → okvs σ' l ∧ concs σ' l = concs σ l
  | [], _, _ => ⟨trivial, rfl⟩
  | v :: vs, hp, ⟨h1, h2⟩ => by
    simp only [refsAll, Bool.and_eq_true] at hp
    have e1 := turn_v h v hp.1 h1
    have e2 := turn_vs h vs hp.2 h2
    exact ⟨⟨e1.1, e2.1⟩, by simp only [concs, e1.2, e2.2]⟩
end

theorem ObjOk.turn {σ σ' : Real} {p : Nat → Nat → Bool} (h : ∀ f g, p f g = true → σ' f g = σ f g) {w : World} {g : Nat} {b : RB} {o : AObj} (ho : objRefs p o = true) (hc : ObjOk σ w g b o) : ObjOk σ' w g b o := by
  cases o with
  | siter s q => exact hc
  | amap k es =>
    obtain ⟨⟨⟨ents, clock, h1, h2⟩, h3⟩, hg⟩ := hc
    have hr : ∀ q ∈ es, refsIn p q.2 = true := fun q hq => List.all_eq_true.1 ho q hq
    refine ⟨⟨⟨ents, clock, h1, ?_⟩, fun q hq => (turn_v h _ (hr q hq) (h3 q hq)).1⟩, hg⟩
    rw [h2]
    exact List.map_congr_left fun q hq => by rw [(turn_v h _ (hr q hq) (h3 q hq)).2]
  | miter m =>
    obtain ⟨⟨since, last, h1⟩, h2, h3⟩ := hc
    cases m with
    | none => exact ⟨⟨since, last, h1⟩, (fun f hf => by cases hf), h3⟩
    | some f =>
      have e := h f 0 ho
      refine ⟨⟨since, last, ?_⟩, fun f' hf => ?_, h3⟩
      · rw [h1]
        simp only [Option.bind_some, e]
      · cases hf
        obtain ⟨b', hb'⟩ := h2 f rfl
        exact ⟨b', e.trans hb'⟩
  | cells c =>
    obtain ⟨cs, fr, k1, k2, k3, k4⟩ := hc.heap
    refine ⟨hc.gen, hc.es, hc.start, hc.size, hc.exact, cs, fr, k1, k2, k3, fun i v lo hv h1 h2 => ?_⟩
    obtain ⟨q1, q2, q3, q4⟩ := k4 i v lo hv h1 h2
    have hr : refsIn p v = true := by
      unfold ACells.cellAt at hv
      split at hv
      · rename_i vs lo' hg
        obtain ⟨u, hu, e⟩ := Option.map_eq_some_iff.1 hv
        cases e
        exact refsAll_mem (trAll_get ho hg) _ (List.mem_of_getElem? hu)
      · cases hv
    obtain ⟨t1, t2⟩ := turn_v h v hr q2
    exact ⟨q1, t1, q3, by rw [t2]; exact q4⟩
end Go.Abs

namespace Go.Abs
variable {P : Program} {B : Base}

/-! ### Calls that are written down -/

/-- Numbers of one kind. -/
def nats (k : IntKind) : List Nat → List AVal
  | [] => []
  | n :: l => .int k (.ofNat n) :: nats k l
noncomputable def elemsR (es : Nat) : List (Nat × Nat × List AVal) → Tr (List AVal × Nat)
  | [] => .leaf
  | x :: l => setElems es x.2.1 x.2.2.length x.1 x.2.2 (elemsR es l)
noncomputable def cellsR (ety es size : Nat) (flex : Bool) (gen start frz : Nat) (mark ro : Bool) (rs : List (Nat × Nat × List AVal)) : ACells := ⟨ety, es, size, elemsR es rs, flex, gen, start, frz, mark, ro⟩

/-- A call: its function, how many families there are, its arguments, what lies in memory, what it returns, what it leaves there. -/
structure Rec where
  f : FuncId
  next : Nat
  args : List AVal
  objs : List (Nat × AObj)
  v : AVal
  out : List (Nat × AObj)
  next' : Nat
  low : Nat

def maskL : List (Nat × AObj) → Nat
  | [] => 0
  | x :: l => Nat.lor (Nat.shiftLeft 1 x.1) (maskL l)
noncomputable def putAll (t : L4) : List (Nat × AObj) → L4
  | [] => t
  | x :: l => (putAll t l).setL x.1 x.2
def findO : List (Nat × AObj) → Nat → Option AObj
  | [], _ => none
  | x :: l, f => if f = x.1 then some x.2 else findO l f
noncomputable def Rec.heap (r : Rec) : Heap := ⟨putAll L4.leaf r.objs, r.next, r.next⟩
/-- The addresses that are let in. -/
def Rec.may (r : Rec) (G : Nat) (f g : Nat) : Bool := Nat.testBit (maskL r.objs) f || Nat.ble r.next f || (Nat.blt f G && Nat.beq g 0)
noncomputable def lies (h : Heap) (x : Nat × AObj) : Bool := match h.objs.getL x.1 with
  | some o => objEq o x.2
  | none => false
noncomputable def Rec.fits (r : Rec) (args : List AVal) (h : Heap) : Bool := Nat.beq h.next r.next && avsEq args r.args && r.objs.all (lies h)
noncomputable def Rec.run (r : Rec) (args : List AVal) (h : Heap) : R1 :=
  Bool.rec .fail (.ok r.v ⟨putAll h.objs r.out, r.next', Bool.rec h.low r.low (Nat.ble r.low h.low)⟩) (r.fits args h)
noncomputable def Rec.left (r : Rec) (G : Nat) (h1 : Heap) : Bool :=
  Nat.beq h1.next r.next' && Nat.ble r.next r.next' && Nat.ble G r.next && Nat.ble r.low h1.low &&
  r.out.all (fun x => Nat.blt x.1 r.next' && Nat.blt x.1 65536 && (Nat.ble r.next x.1 || Nat.testBit (maskL r.objs) x.1) && objRefs (r.may G) x.2 && lies h1 x) &&
  r.objs.all (fun x => Nat.blt x.1 r.next && Nat.blt x.1 65536 && objRefs (r.may G) x.2 && (Nat.testBit (maskL r.out) x.1 || lies h1 x))
noncomputable def Rec.check (r : Rec) (G : Nat) (res : R1) : Bool :=
  R1.rec false (fun v h1 => avEq v r.v && r.left G h1 && refsIn (r.may G) r.v && refsAll (r.may G) r.args) res

theorem findO_mask : ∀ {l : List (Nat × AObj)} {f : Nat}, Nat.testBit (maskL l) f = true ↔ ∃ o, findO l f = some o
  | [], f => by simp [maskL, findO]
  | x :: l, f => by
    have h : Nat.testBit (maskL (x :: l)) f = (Nat.testBit (1 <<< x.1) f || Nat.testBit (maskL l) f) := Nat.testBit_or ..
    rw [h, Bool.or_eq_true, findO_mask (l := l), Nat.one_shiftLeft, Nat.testBit_two_pow]
    have hf : findO (x :: l) f = if f = x.1 then some x.2 else findO l f := rfl
    rw [hf]
    by_cases e : f = x.1
    · simp [e]
    · have e' : ¬ x.1 = f := fun h => e h.symm
      simp [e, e']

theorem findO_mem : ∀ {l : List (Nat × AObj)} {f : Nat} {o : AObj}, findO l f = some o → (f, o) ∈ l
  | [], f, o, h => by cases h
  | x :: l, f, o, h => by
    unfold findO at h
    by_cases e : f = x.1
    · rw [if_pos e] at h
      cases h
      rw [e]
      exact List.mem_cons_self
    · rw [if_neg e] at h
      exact List.mem_cons_of_mem _ (findO_mem h)

theorem deep8 (t : L4) : L4.deep 8 t := trivial

theorem putAll_get (t : L4) : ∀ (l : List (Nat × AObj)), (∀ x ∈ l, x.1 < 65536) → ∀ f, (putAll t l).getL f = match findO l f with
    | some o => some o
    | none => t.getL f
  | [], _, f => rfl
  | x :: l, hl, f => by
    rw [show putAll t (x :: l) = (putAll t l).setL x.1 x.2 from rfl, L4.getL_setL _ (deep8 _)]
    unfold findO
    by_cases e : f = x.1
    · rw [if_pos e, if_pos e, if_pos (hl x List.mem_cons_self)]
    · rw [if_neg e, if_neg e]
      exact putAll_get t l (fun y hy => hl y (List.mem_cons_of_mem _ hy)) f

theorem lies_iff {h : Heap} {x : Nat × AObj} (hl : lies h x = true) : h.obj x.1 = some x.2 := by
  unfold lies at hl
  split at hl
  · rename_i o ho
    rw [Heap.obj, ho, objEq_sound hl]
  · cases hl

/-- What a call that is written down has left, in the memory that it is asked of. -/
theorem rec_post {r : Rec} {σ σ' : Real} {h h1 : Heap} {w w' : World} (H : Rel P B σ h w) (hfree : Free σ h.next r.next') (hn : h.next = r.next) (hin : ∀ x ∈ r.objs, lies h x = true) (hl : r.left P.globals.size h1 = true)
    (Q : Post P (.plain B.n) (fun f g => if r.next ≤ f ∨ Nat.testBit (maskL r.objs) f = true ∨ f < P.globals.size then σ f g else none) r.heap w σ' h1 w') :
    ∃ σ'', (∀ f g, r.may P.globals.size f g = true → σ'' f g = σ' f g) ∧ Post P B σ h w σ'' ⟨putAll h.objs r.out, r.next', Bool.rec h.low r.low (Nat.ble r.low h.low)⟩ w' := by
  unfold Rec.left at hl
  simp only [Bool.and_eq_true, Nat.beq_eq, Nat.ble_eq, List.all_eq_true, Nat.blt_eq, Bool.or_eq_true] at hl
  obtain ⟨⟨⟨⟨⟨l1, l2⟩, l3⟩, l4⟩, l5⟩, l6⟩ := hl
  generalize hσ0 : (fun f g => if r.next ≤ f ∨ Nat.testBit (maskL r.objs) f = true ∨ f < P.globals.size then σ f g else none : Real) = σ0 at Q
  have s0 : ∀ f g b, σ0 f g = some b → σ f g = some b := by
    intro f g b hb
    rw [← hσ0] at hb
    simp only at hb
    split at hb
    · exact hb
    · cases hb
  have s1 : ∀ f g, (r.next ≤ f ∨ Nat.testBit (maskL r.objs) f = true ∨ f < P.globals.size) → σ0 f g = σ f g := by
    intro f g hc
    rw [← hσ0]
    simp only
    rw [if_pos hc]
  -- what is kept of the call's own memory
  have ho : ∀ f, r.heap.obj f = findO r.objs f := by
    intro f
    have := putAll_get L4.leaf r.objs (fun x hx => (l6 x hx).1.1.2) f
    unfold Heap.obj Rec.heap
    rw [this]
    cases findO r.objs f with
    | some o => rfl
    | none => exact L4.getL_leaf f
  have h2o : ∀ f, (⟨putAll h.objs r.out, r.next', Bool.rec h.low r.low (Nat.ble r.low h.low)⟩ : Heap).obj f = match findO r.out f with
      | some o => some o
      | none => h.obj f := by
    intro f
    exact putAll_get h.objs r.out (fun x hx => (l5 x hx).1.1.1.2) f
  generalize hlow : (Bool.rec h.low r.low (Nat.ble r.low h.low) : Nat) = low2 at h2o
  have hlow1 : low2 ≤ h.low ∧ low2 ≤ r.low ∨ low2 = h.low ∧ h.low ≤ r.low := by
    rw [← hlow]
    cases e : Nat.ble r.low h.low with
    | true => exact .inl ⟨Nat.le_of_ble_eq_true e, Nat.le_refl _⟩
    | false =>
      refine .inr ⟨rfl, Nat.le_of_lt (Nat.lt_of_not_le fun hh => ?_)⟩
      rw [Nat.ble_eq_true_of_le hh] at e
      cases e
  have hlow2 : low2 ≤ h.low ∧ low2 ≤ h1.low := by omega
  have h0n : r.heap.next = r.next := rfl
  -- the kept ones lie in h
  have hk : ∀ f o, r.heap.obj f = some o → h.obj f = some o ∧ f < r.next ∧ Nat.testBit (maskL r.objs) f = true ∧ objRefs (r.may P.globals.size) o = true := by
    intro f o hf
    rw [ho] at hf
    have hm := findO_mem hf
    exact ⟨lies_iff (hin _ hm), (l6 _ hm).1.1.1, findO_mask.2 ⟨o, hf⟩, (l6 _ hm).1.2⟩
  have hkb : ∀ f, Nat.testBit (maskL r.objs) f = true → ∃ o, r.heap.obj f = some o := by
    intro f hf
    obtain ⟨o, ho'⟩ := findO_mask.1 hf
    exact ⟨o, by rw [ho]; exact ho'⟩
  have hout : ∀ f o, findO r.out f = some o → h1.obj f = some o ∧ f < r.next' ∧ (r.next ≤ f ∨ Nat.testBit (maskL r.objs) f = true) ∧ objRefs (r.may P.globals.size) o = true := by
    intro f o hf
    have hm := findO_mem hf
    obtain ⟨⟨⟨⟨m1, m2⟩, m3⟩, m4⟩, m5⟩ := l5 _ hm
    exact ⟨lies_iff m5, m1, m3, m4⟩
  have hsame : ∀ f o, r.heap.obj f = some o → findO r.out f = none → h1.obj f = some o := by
    intro f o hf hno
    rw [ho] at hf
    have hm := findO_mem hf
    rcases (l6 _ hm).2 with h3 | h3
    · obtain ⟨o', ho'⟩ := findO_mask.1 h3
      have : findO r.out f = some o' := ho'
      rw [hno] at this
      cases this
    · exact lies_iff h3
  have hw0 : ∀ f, r.heap.writable f = true → h.writable f = true ∧ Nat.testBit (maskL r.objs) f = true := by
    intro f hf
    unfold Heap.writable at hf ⊢
    cases e : r.heap.obj f with
    | none => rw [e] at hf; cases hf
    | some o =>
      rw [e] at hf
      obtain ⟨k1, _, k3, _⟩ := hk f o e
      rw [k1]
      exact ⟨hf, k3⟩
  -- far: a family that the call has not seen
  let far : Nat → Prop := fun f => f < r.next ∧ Nat.testBit (maskL r.objs) f = false
  have hdec : ∀ f, far f ∨ (r.next ≤ f ∨ Nat.testBit (maskL r.objs) f = true) := by
    intro f
    rcases Nat.lt_or_ge f r.next with h3 | h3
    · cases e : Nat.testBit (maskL r.objs) f with
      | true => exact .inr (.inr rfl)
      | false => exact .inl ⟨h3, e⟩
    · exact .inr (.inl h3)
  have hfarout : ∀ f, far f → findO r.out f = none := by
    intro f hf
    cases e : findO r.out f with
    | none => rfl
    | some o =>
      obtain ⟨_, _, h3, _⟩ := hout f o e
      rcases h3 with h3 | h3
      · have := hf.1; omega
      · rw [hf.2] at h3; cases h3
  have hnear : ∀ f, ¬ far f → ∀ g, σ0 f g = σ f g := by
    intro f hf g
    rcases hdec f with h3 | h3 | h3
    · exact absurd h3 hf
    · exact s1 f g (.inl h3)
    · exact s1 f g (.inr (.inl h3))
  classical
  let σ2 : Real := fun f g => if far f then σ f g else σ' f g
  have e1 : ∀ f g, far f → σ2 f g = σ f g := fun f g hf => if_pos hf
  have e2 : ∀ f g, ¬ far f → σ2 f g = σ' f g := fun f g hf => if_neg hf
  have hext : σ.le σ2 := by
    intro f g b hb
    by_cases hf : far f
    · rw [e1 f g hf]; exact hb
    · rw [e2 f g hf]
      exact Q.ext f g b (by rw [hnear f hf]; exact hb)
  have hmay : ∀ f g, r.may P.globals.size f g = true → σ2 f g = σ' f g := by
    intro f g hm
    by_cases hf : far f
    · rw [e1 f g hf]
      unfold Rec.may at hm
      rw [hf.2, Bool.false_or, Bool.or_eq_true, Bool.and_eq_true, Nat.ble_eq, Nat.blt_eq, Nat.beq_eq] at hm
      rcases hm with h3 | ⟨h3, rfl⟩
      · have := hf.1; omega
      · obtain ⟨b, hb, _⟩ := H.glob f h3
        rw [hb, Q.ext f 0 b (by rw [s1 f 0 (.inr (.inr h3))]; exact hb)]
    · exact e2 f g hf
  have hnewer : ∀ f g b, ¬ far f → σ' f g = some b → σ f g = some b ∨ (w.heap.size ≤ b.block ∨ r.heap.writable f = true ∧ ∃ g0 b0, σ f g0 = some b0 ∧ b0.block = b.block) := by
    intro f g b hf hb
    cases h00 : σ0 f g with
    | some b0 =>
      have := Q.ext f g b0 h00
      rw [hb] at this
      cases this
      exact .inl (s0 _ _ _ h00)
    | none =>
      rcases (Q.new f g b hb h00).2 with ⟨h3, _⟩ | ⟨_, h3 | ⟨h3, g0, b0, h4, h5⟩⟩
      · exact .inr (.inl h3)
      · exact .inr (.inl h3)
      · exact .inr (.inr ⟨h3, g0, b0, s0 _ _ _ h4, h5⟩)
  have hframe : ∀ f g b, far f → σ f g = some b → w'.heap[b.block]? = w.heap[b.block]? := by
    intro f g b hf hb
    refine Q.frame b.block (H.live f g b hb) fun f' g' b' hb' hbk => ?_
    cases e : r.heap.writable f' with
    | false => rfl
    | true =>
      obtain ⟨k1, k2⟩ := hw0 f' e
      have hne : f' ≠ f := by intro e'; rw [e', hf.2] at k2; cases k2
      exact absurd hbk (H.apart f' g' b' f g b (s0 _ _ _ hb') hb hne k1)
  have h2far : ∀ f, far f → (⟨putAll h.objs r.out, r.next', low2⟩ : Heap).obj f = h.obj f := by
    intro f hf
    rw [h2o, hfarout f hf]
  have h2near : ∀ f, ¬ far f → ∀ o, (⟨putAll h.objs r.out, r.next', low2⟩ : Heap).obj f = some o → h1.obj f = some o ∧ objRefs (r.may P.globals.size) o = true := by
    intro f hf o hx
    rw [h2o] at hx
    cases e : findO r.out f with
    | some o' =>
      rw [e] at hx
      cases hx
      exact ⟨(hout f o e).1, (hout f o e).2.2.2⟩
    | none =>
      rw [e] at hx
      have hx' : h.obj f = some o := hx
      rcases hdec f with h3 | h3 | h3
      · exact absurd h3 hf
      · rw [H.dom f (by omega)] at hx'; cases hx'
      · obtain ⟨o', ho'⟩ := hkb f h3
        obtain ⟨k1, _, _, k4⟩ := hk f o' ho'
        rw [hx'] at k1
        cases k1
        exact ⟨hsame f o ho' e, k4⟩
  have hwnear : ∀ f, ¬ far f → (⟨putAll h.objs r.out, r.next', low2⟩ : Heap).writable f = true → h1.writable f = true := by
    intro f hf hx
    unfold Heap.writable at hx ⊢
    cases e : (⟨putAll h.objs r.out, r.next', low2⟩ : Heap).obj f with
    | none => rw [e] at hx; cases hx
    | some o => rw [e] at hx; rw [(h2near f hf o e).1]; exact hx
  have hwfar : ∀ f, far f → (⟨putAll h.objs r.out, r.next', low2⟩ : Heap).writable f = h.writable f := by
    intro f hf
    unfold Heap.writable
    rw [h2far f hf]
  have hkeep : ∀ f, f < h.next → (⟨putAll h.objs r.out, r.next', low2⟩ : Heap).writable f = h.writable f := by
    intro f hlt
    by_cases hf : far f
    · exact hwfar f hf
    · rcases hdec f with h3 | h3 | h3
      · exact absurd h3 hf
      · omega
      · obtain ⟨o', ho'⟩ := hkb f h3
        obtain ⟨k1, _, _, _⟩ := hk f o' ho'
        have q1 := Q.keep f (by rw [h0n]; omega)
        have q2 : r.heap.writable f = o'.writable := writable_of ho'
        have q3 : h.writable f = o'.writable := writable_of k1
        rw [q3, ← q2, ← q1]
        unfold Heap.writable
        rw [h2o]
        cases e : findO r.out f with
        | some o => rw [(hout f o e).1]
        | none => rw [hsame f o' ho' e, k1]
  have hdom0 : ∀ f, r.next' ≤ f → (⟨putAll h.objs r.out, r.next', low2⟩ : Heap).obj f = none := by
    intro f hf
    rw [h2o]
    cases e : findO r.out f with
    | some o => have := (hout f o e).2.1; omega
    | none => exact H.dom f (by omega)
  have hdom : ∀ f, r.next' ≤ f → (⟨putAll h.objs r.out, r.next', low2⟩ : Heap).writable f = false := by
    intro f hf
    unfold Heap.writable
    rw [hdom0 f hf]
  refine ⟨σ2, hmay, ⟨hext, ⟨deep8 _, fun f hf => hdom0 f hf, fun f c hc => ?_, Q.rel.base, fun g hg => ?_, fun f g b o hb hx => ?_, fun f g b hb hx => ?_, fun f g b hb => ?_, fun f g b f' g' b' hb hb' hne hx => ?_, fun f g b g' b' hb hb' hbk => ?_, ?_⟩,
    ?_, fun f g b hb hno => ?_, fun k hk' hno => ?_, Q.size, Q.os, Q.tape, Q.output, hkeep, fun f h3 h4 => ?_, hlow2.1⟩⟩
  · -- full
    by_cases hf : far f
    · rw [h2far f hf] at hc; exact H.full f c hc
    · exact Q.rel.full f c (h2near f hf _ hc).1
  · -- glob
    by_cases hf : far g
    · rw [e1 g 0 hf]; exact H.glob g hg
    · rw [e2 g 0 hf]; exact Q.rel.glob g hg
  · -- obj
    by_cases hf : far f
    · rw [e1 f g hf] at hb
      rw [h2far f hf] at hx
      exact (H.obj f g b o hb hx).mono hext (hframe f g b hf hb)
    · rw [e2 f g hf] at hb
      obtain ⟨k1, k2⟩ := h2near f hf o hx
      exact (Q.rel.obj f g b o hb k1).turn hmay k2
  · -- wr
    by_cases hf : far f
    · rw [e1 f g hf] at hb
      rw [hwfar f hf] at hx
      exact H.wr f g b hb hx
    · rw [e2 f g hf] at hb
      exact Q.rel.wr f g b hb (hwnear f hf hx)
  · -- live
    by_cases hf : far f
    · rw [e1 f g hf] at hb
      exact Nat.lt_of_lt_of_le (H.live f g b hb) Q.size
    · rw [e2 f g hf] at hb
      exact Q.rel.live f g b hb
  · -- apart
    by_cases hf : far f
    · rw [e1 f g hf] at hb
      rw [hwfar f hf] at hx
      by_cases hf' : far f'
      · rw [e1 f' g' hf'] at hb'
        exact H.apart f g b f' g' b' hb hb' hne hx
      · rw [e2 f' g' hf'] at hb'
        rcases hnewer f' g' b' hf' hb' with h3 | h3 | ⟨_, g0, b0, h4, h5⟩
        · exact H.apart f g b f' g' b' hb h3 hne hx
        · have := H.live f g b hb; omega
        · rw [← h5]; exact H.apart f g b f' g0 b0 hb h4 hne hx
    · rw [e2 f g hf] at hb
      have hw1 := hwnear f hf hx
      by_cases hf' : far f'
      · rw [e1 f' g' hf'] at hb'
        rcases hnewer f g b hf hb with h3 | h3 | ⟨h6, g0, b0, h4, h5⟩
        · -- laid before: it is writable there too
          have hlt : f < h.next := by
            rcases Nat.lt_or_ge f h.next with h7 | h7
            · exact h7
            · rcases Nat.lt_or_ge f r.next' with h8 | h8
              · rw [hfree f g h7 h8] at h3; cases h3
              · rw [hdom f h8] at hx; cases hx
          rw [hkeep f hlt] at hx
          exact H.apart f g b f' g' b' h3 hb' hne hx
        · have := H.live f' g' b' hb'; omega
        · rw [← h5]; exact H.apart f g0 b0 f' g' b' h4 hb' hne (hw0 f h6).1
      · rw [e2 f' g' hf'] at hb'
        exact Q.rel.apart f g b f' g' b' hb hb' hne hw1
  · -- alike
    by_cases hf : far f
    · rw [e1 f _ hf] at hb hb'
      exact H.alike f g b g' b' hb hb' hbk
    · rw [e2 f _ hf] at hb hb'
      exact Q.rel.alike f g b g' b' hb hb' hbk
  · -- ctx
    refine H.ctx.mono hext (fun f b hb hk' => ?_) fun f b x hb hk' hx => ?_
    · rcases Nat.lt_or_ge f h.next with h3 | h3
      · rw [hkeep f h3]; exact hk'
      · rcases Nat.lt_or_ge f r.next' with h8 | h8
        · rw [hfree f 0 h3 h8] at hb; cases hb
        · exact hdom f h8
    · have hlt := H.live f 0 b hb
      rw [Q.frame b.block hlt fun f' g' b' hb' hbk => ?_]
      · exact hx
      · cases e : r.heap.writable f' with
        | false => rfl
        | true =>
          obtain ⟨k1, k2⟩ := hw0 f' e
          have hne : f' ≠ f := by intro e'; rw [e', hk'] at k1; cases k1
          exact absurd hbk (H.apart f' g' b' f 0 b (s0 _ _ _ hb') hb hne k1)
  · -- next
    show h.next ≤ r.next'
    omega
  · -- new
    have hf : ¬ far f := by intro hf; rw [e1 f g hf, hno] at hb; cases hb
    rw [e2 f g hf] at hb
    have h00 : σ0 f g = none := by rw [hnear f hf]; exact hno
    obtain ⟨a1, a2⟩ := Q.new f g b hb h00
    refine ⟨show f < r.next' by omega, ?_⟩
    rcases a2 with ⟨h3, h4⟩ | ⟨h3, h4 | ⟨h4, g0, b0, h5, h6⟩⟩
    · exact .inl ⟨h3, by rw [hn]; exact h4⟩
    · exact .inr ⟨by rw [hn]; exact h3, .inl h4⟩
    · exact .inr ⟨by rw [hn]; exact h3, .inr ⟨(hw0 f h4).1, g0, b0, s0 _ _ _ h5, h6⟩⟩
  · -- frame
    refine Q.frame k hk' fun f g b hb hbk => ?_
    cases e : r.heap.writable f with
    | false => rfl
    | true => have := hno f g b (s0 _ _ _ hb) hbk; rw [(hw0 f e).1] at this; cases this
  · -- soft
    by_cases hf : far f
    · exact ⟨h2far f hf, fun g => e1 f g hf⟩
    · have h5 : f < h1.low := Nat.lt_of_lt_of_le h4 hlow2.2
      obtain ⟨q1, q2⟩ := Q.soft f (by rw [h0n]; omega) h5
      refine ⟨?_, fun g => by rw [e2 f g hf, q2 g, hnear f hf]⟩
      rcases hdec f with h6 | h6 | h6
      · exact absurd h6 hf
      · omega
      · obtain ⟨o', ho'⟩ := hkb f h6
        obtain ⟨k1, _, _, _⟩ := hk f o' ho'
        rw [h2o, k1]
        cases e : findO r.out f with
        | none => rfl
        | some o =>
          have := (hout f o e).1
          rw [q1, ho'] at this
          cases this
          rfl
end Go.Abs

namespace Go.Abs
variable {P : Program} {B : Base}

/-! ### The evaluator that looks calls up -/

abbrev LF := FuncId → List AVal → Heap → R1
noncomputable def orElse1 (r : R1) (k : R1) : R1 := R1.rec k (fun v h => .ok v h) r
noncomputable def fwithO (ih : Program → Nat → Nat → LF → YF → CF) (P : Program) (ok sk : Nat) (S : LF) (Y : YF) (fn : Fn) : List AVal → Heap → R1 := match fn with
  | .func f => fun args h => Bool.rec (motive := fun _ => R1) (fstep ok P (ih P ok sk S Y) (fun i hd => ih P ok sk S (fext Y i hd)) f args h)
      (orElse1 (S f args h) (fstep ok P (ih P ok sk S Y) (fun i hd => ih P ok sk S (fext Y i hd)) f args h)) (Nat.testBit sk f)
  | .yield i => fun args h => Y i args h
  | _ => fun _ _ => .fail
noncomputable def fcallO (P : Program) (ok sk d : Nat) (S : LF) (Y : YF) : CF :=
  Nat.rec (motive := fun _ => Program → Nat → Nat → LF → YF → CF) (fun _ _ _ _ _ _ _ _ => .fail) (fun _ ih P ok sk S Y fn args h => fwithO ih P ok sk S Y fn args h) d P ok sk S Y
noncomputable def noY : YF := fun _ _ _ => .fail
noncomputable def noS : LF := fun _ _ _ => .fail
noncomputable def recsRun (rs : List Rec) (f : FuncId) (args : List AVal) (h : Heap) : R1 :=
  List.rec (motive := fun _ => R1) .fail (fun r _ ih => Bool.rec (motive := fun _ => R1) ih (r.run args h) (Bool.rec false (Nat.beq r.next h.next) (Nat.beq r.f f))) rs

abbrev LookF := FuncId → List AVal → Heap → Option (AVal × Heap)
noncomputable def callWithO (ok sk : Nat) (S : LookF) (ih : YieldF → CallF) (Y : YieldF) (fn : Fn) (args : List AVal) (h : Heap) : Option (AVal × Heap) :=
  match fn with
  | .func f => match Nat.testBit sk f with
    | true => match S f args h with
      | some r => some r
      | none => callStep P ok (ih Y) (fun i hd => ih (Y.ext i hd)) f args h
    | false => callStep P ok (ih Y) (fun i hd => ih (Y.ext i hd)) f args h
  | .yield f => Y f args h
  | _ => none
noncomputable def callO (P : Program) (ok sk d : Nat) (S : LookF) : YieldF → CallF :=
  Nat.rec (motive := fun _ => YieldF → CallF) (fun _ _ _ _ => none) (fun _ ih => callWithO (P := P) ok sk S ih) d

theorem opt_orElse (r k : R1) : (orElse1 r k).opt = match r.opt with
    | some x => some x
    | none => k.opt := by cases r <;> rfl

theorem fcallO_eq (ok sk : Nat) {S : LF} {S' : LookF} (hS : ∀ f args h, (S f args h).opt = S' f args h) : ∀ (d : Nat) (Y : YF) (Y' : YieldF), (∀ i args h, (Y i args h).opt = Y' i args h) → Agree (fcallO P ok sk d S Y) (callO P ok sk d S' Y')
  | 0, _, _, _ => fun _ _ _ => rfl
  | d + 1, Y, Y', hY => fun fn args h => by
    show (fwithO (fun P ok sk S Y => fcallO P ok sk d S Y) P ok sk S Y fn args h).opt = callWithO (P := P) ok sk S' (callO P ok sk d S') Y' fn args h
    cases fn with
    | func f =>
      have hst : ∀ (f : FuncId) (args : List AVal) (h : Heap), (fstep ok P (fcallO P ok sk d S Y) (fun i hd => fcallO P ok sk d S (fext Y i hd)) f args h).opt = callStep P ok (callO P ok sk d S' Y') (fun i hd => callO P ok sk d S' (Y'.ext i hd)) f args h :=
        fun f args h => fstep_eq (fcallO_eq ok sk hS d Y Y' hY) (fun i hd hd' hh => fcallO_eq ok sk hS d (fext Y i hd) (Y'.ext i hd') (fext_eq hY i hh)) ok f args h
      unfold fwithO callWithO
      simp only []
      cases Nat.testBit sk f with
      | false => exact hst f args h
      | true =>
        show (orElse1 (S f args h) _).opt = _
        rw [opt_orElse, hS, hst]
    | yield i => exact hY i args h
    | _ => rfl

/-- What is looked up holds. -/
def LookSound (P : Program) (S : LookF) : Prop := ∀ B, StepSound P B S

theorem callO_sound {ok sk : Nat} {S : LookF} (hS : LookSound P S) (hgood : ∀ f, Nat.testBit ok f = true → ∀ fn, P.funcs[f]? = some fn → goodFunc fn = true) (hdraw : ∀ callF, ∀ B, CallSound P B callF → DrawSound P B callF) :
    ∀ (d : Nat) (B : Base) (Y : YieldF), YieldSound P B Y → CallSound P B (callO P ok sk d S Y) := by
  intro d
  induction d with
  | zero => intro B Y hY f args h v h' σ w o a K Q r n hc; cases hc
  | succ d ih =>
    intro B Y hY fn args h v h' σ w o a K Q r n hc H hfn hargs hf hK
    have hc' : callWithO (P := P) ok sk S (callO P ok sk d S) Y fn args h = some (v, h') := hc
    have hstep := callStep_sound hgood (ih B Y hY) (fun B' i hd hB hh => ih B' (Y.ext i hd) (hY.ext hB hh)) (hdraw _) (P := P) (B := B)
    unfold callWithO at hc'
    cases fn with
    | func f =>
      simp only [] at hc'
      split at hc'
      · split at hc'
        · rename_i x hx
          cases hc'
          exact hS B f args h v h' σ w o a K Q r n hx H hargs hf hK
        · exact hstep f args h v h' σ w o a K Q r n hc' H hargs hf hK
      · exact hstep f args h v h' σ w o a K Q r n hc' H hargs hf hK
    | yield i => exact hY i args h v h' σ w o a K Q r n hc' H hfn hargs hf hK
    | _ => cases hc'

theorem look_none : LookSound P (fun f args h => (noS f args h).opt) := fun _ f args h v h' σ w o a K Q r n hc => by cases hc

theorem run_some {r : Rec} {args : List AVal} {h : Heap} {v : AVal} {h' : Heap} (hr : (r.run args h).opt = some (v, h')) :
    h.next = r.next ∧ args = r.args ∧ (∀ x ∈ r.objs, lies h x = true) ∧ v = r.v ∧ h' = ⟨putAll h.objs r.out, r.next', Bool.rec h.low r.low (Nat.ble r.low h.low)⟩ := by
  unfold Rec.run at hr
  cases hf : r.fits args h with
  | false => rw [hf] at hr; cases hr
  | true =>
    rw [hf] at hr
    cases hr
    unfold Rec.fits at hf
    simp only [Bool.and_eq_true, Nat.beq_eq] at hf
    exact ⟨hf.1.1, avsEq_sound hf.1.2, List.all_eq_true.1 hf.2, rfl, rfl⟩

/-- A record holds. -/
def RecSound (P : Program) (r : Rec) : Prop := ∀ B, StepSound P B (fun f args h => match Nat.beq r.f f with
  | true => (r.run args h).opt
  | false => none)

/-- **A run of the evaluator makes a record hold.** -/
theorem rec_sound {ok sk d : Nat} {S : LF} {r : Rec} (hmix : P.follows .mixedOrders = true) (hgood : ∀ f, Nat.testBit ok f = true → ∀ fn, P.funcs[f]? = some fn → goodFunc fn = true)
    (hS : LookSound P (fun f args h => (S f args h).opt)) (hck : r.check P.globals.size (fcallO P ok sk d S noY (.func r.f) r.args r.heap) = true) : RecSound P r := by
  intro B f args h v h' σ w o a K Q rd n hc H hargs hfree hK
  simp only [] at hc
  cases hff : Nat.beq r.f f with
  | false => rw [hff] at hc; cases hc
  | true =>
  rw [hff] at hc
  obtain rfl : r.f = f := Nat.eq_of_beq_eq_true hff
  obtain ⟨hn, rfl, hin, rfl, rfl⟩ := run_some hc
  cases hres : fcallO P ok sk d S noY (.func r.f) r.args r.heap with
  | fail => rw [hres] at hck; cases hck
  | ok v1 h1 =>
    rw [hres] at hck
    have hck' : (avEq v1 r.v && r.left P.globals.size h1 && refsIn (r.may P.globals.size) r.v && refsAll (r.may P.globals.size) r.args) = true := hck
    simp only [Bool.and_eq_true] at hck'
    obtain ⟨⟨⟨hv, hleft⟩, hrv⟩, hra⟩ := hck'
    obtain rfl := avEq_sound hv
    have hl0 := hleft
    unfold Rec.left at hl0
    simp only [Bool.and_eq_true, Nat.beq_eq, Nat.ble_eq, List.all_eq_true, Nat.blt_eq, Bool.or_eq_true] at hl0
    obtain ⟨⟨⟨⟨⟨l1, l2⟩, l3⟩, l4⟩, l5⟩, l6⟩ := hl0
    -- the call's own view of the memory
    let σ0 : Real := fun f g => if r.next ≤ f ∨ Nat.testBit (maskL r.objs) f = true ∨ f < P.globals.size then σ f g else none
    have s0 : ∀ f g b, σ0 f g = some b → σ f g = some b := by
      intro f g b hb
      simp only [σ0] at hb
      split at hb
      · exact hb
      · cases hb
    have s1 : ∀ f g, r.may P.globals.size f g = true → σ0 f g = σ f g := by
      intro f g hm
      unfold Rec.may at hm
      rw [Bool.or_eq_true, Bool.or_eq_true, Bool.and_eq_true, Nat.ble_eq, Nat.blt_eq, Nat.beq_eq] at hm
      simp only [σ0]
      rw [if_pos]
      rcases hm with (h3 | h3) | ⟨h3, _⟩
      · exact .inr (.inl h3)
      · exact .inl h3
      · exact .inr (.inr h3)
    have ho : ∀ f, r.heap.obj f = findO r.objs f := by
      intro f
      have := putAll_get L4.leaf r.objs (fun x hx => (l6 x hx).1.1.2) f
      unfold Heap.obj Rec.heap
      rw [this]
      cases findO r.objs f with
      | some o => rfl
      | none => exact L4.getL_leaf f
    have hk : ∀ f o, r.heap.obj f = some o → h.obj f = some o ∧ f < r.next ∧ objRefs (r.may P.globals.size) o = true := by
      intro f o hf
      rw [ho] at hf
      have hm := findO_mem hf
      exact ⟨lies_iff (hin _ hm), (l6 _ hm).1.1.1, (l6 _ hm).1.2⟩
    have hw0 : ∀ f, r.heap.writable f = true → h.writable f = true := by
      intro f hf
      unfold Heap.writable at hf ⊢
      cases e : r.heap.obj f with
      | none => rw [e] at hf; cases hf
      | some o => rw [e] at hf; rw [(hk f o e).1]; exact hf
    have H0 : Rel P (.plain B.n) σ0 r.heap w := by
      refine ⟨deep8 _, fun f hf => ?_, fun f c hc => H.full f c (hk f _ hc).1, H.base, fun g hg => ?_, fun f g b o' hb hx => ?_, fun f g b hb hx => H.wr f g b (s0 _ _ _ hb) (hw0 f hx), fun f g b hb => H.live f g b (s0 _ _ _ hb),
        fun f g b f' g' b' hb hb' hne hx => H.apart f g b f' g' b' (s0 _ _ _ hb) (s0 _ _ _ hb') hne (hw0 f hx), fun f g b g' b' hb hb' hbk => H.alike f g b g' b' (s0 _ _ _ hb) (s0 _ _ _ hb') hbk, Ctx.plain⟩
      · cases e : r.heap.obj f with
        | none => rfl
        | some o' =>
          have := (hk f o' e).2.1
          have hf' : r.next ≤ f := hf
          omega
      · obtain ⟨b, hb, hb2⟩ := H.glob g hg
        refine ⟨b, ?_, hb2⟩
        simp only [σ0]
        rw [if_pos (.inr (.inr hg))]
        exact hb
      · obtain ⟨k1, _, k3⟩ := hk f o' hx
        exact (H.obj f g b o' (s0 _ _ _ hb) k1).turn s1 k3
    obtain ⟨ha0, ha1⟩ := turn_vs s1 r.args hra hargs
    have hcs := callO_sound (P := P) (ok := ok) (sk := sk) hS hgood (fun _ _ hcf => draw_sound hmix hcf) d (.plain B.n) (fun _ _ _ => none) YieldSound.none
    have hcall : callO P ok sk d (fun f args h => (S f args h).opt) (fun _ _ _ => none) (.func r.f) r.args r.heap = some (r.v, h1) := by
      have := fcallO_eq (P := P) ok sk (S := S) (fun _ _ _ => rfl) d noY (fun _ _ _ => none) (fun _ _ _ => rfl) (.func r.f) r.args r.heap
      rw [hres] at this
      exact this.symm
    have hfr0 : Free σ0 r.heap.next h1.next := by
      intro f g h3 h4
      have h3' : r.next ≤ f := h3
      simp only [σ0]
      rw [if_pos (.inl h3')]
      exact hfree f g (by omega) (show f < r.next' by omega)
    have := hcs (.func r.f) r.args r.heap r.v h1 σ0 w o a K Q rd n hcall H0 trivial ha0 hfr0 fun σ' w' hv' Q' => by
      obtain ⟨σ2, t1, t2⟩ := rec_post (B := B) H (by exact hfree) hn hin hleft Q'
      obtain ⟨u1, u2⟩ := turn_v t1 r.v hrv hv'
      rw [← u2]
      exact hK σ2 w' u1 t2
    rw [ha1] at this
    exact this

theorem look_cons {r : Rec} {rs : List Rec} (h1 : RecSound P r) (h2 : LookSound P (fun f args h => (recsRun rs f args h).opt)) : LookSound P (fun f args h => (recsRun (r :: rs) f args h).opt) := by
  intro B f args h v h' σ w o a K Q rd n hc H hargs hfree hK
  change (Bool.rec (motive := fun _ => R1) (recsRun rs f args h) (r.run args h) (Bool.rec false (Nat.beq r.next h.next) (Nat.beq r.f f)) : R1).opt = some (v, h') at hc
  cases e : Nat.beq r.f f with
  | false => rw [e] at hc; exact h2 B f args h v h' σ w o a K Q rd n hc H hargs hfree hK
  | true =>
    rw [e] at hc
    cases e2 : Nat.beq r.next h.next with
    | false => rw [e2] at hc; exact h2 B f args h v h' σ w o a K Q rd n hc H hargs hfree hK
    | true =>
      rw [e2] at hc
      refine h1 B f args h v h' σ w o a K Q rd n ?_ H hargs hfree hK
      simp only []
      rw [e]
      exact hc

theorem look_nil : LookSound P (fun f args h => (recsRun [] f args h).opt) := fun _ f args h v h' σ w o a K Q r n hc => by cases hc

/-- A run that looks calls up, from the tables, is a run of the model, whatever the tape. -/
theorem calls_recs {ok sk d : Nat} {S : LF} {f : FuncId} {args : List AVal} {ts : List Tab} {v : AVal} {W : World} (hmix : P.follows .mixedOrders = true)
    (hgood : ∀ f, Nat.testBit ok f = true → ∀ fn, P.funcs[f]? = some fn → goodFunc fn = true) (hS : LookSound P (fun f args h => (S f args h).opt)) {fn : Func} (hfn : P.funcs[f]? = some fn) (hbody : fn.body.isSome = true) (hsz : P.globals.size ≤ W.heap.size)
    (ht : ∀ t ∈ ts, t.at' < P.globals.size ∧ 0 < t.es ∧ t.vs.length % t.es = 0 ∧ okvs (fun _ _ => none) t.vs ∧ t.vs.all AVal.scalar = true ∧ W.heap[t.at']? = some (.cells (concs (fun _ _ => none) t.vs).toArray t.ety (0, 0)))
    (hargs : okvs (startAt P.globals.size ts) args) (hc : (fstep ok P (fcallO P ok sk d S noY) (fun i hd => fcallO P ok sk d S (fext noY i hd)) f args (start P.globals.size ts)).val = some v) :
    Calls P f (concs (startAt P.globals.size ts) args).toArray W fun e W' => ∃ σ', e = .returned (conc σ' v) ∧ okv σ' v ∧ RowKit.Below W.heap.size W W' := by
  have H := start_rel hsz ht
  have hcs := callO_sound (P := P) (ok := ok) (sk := sk) hS hgood (fun _ _ hcf => draw_sound hmix hcf) d
  have he := fstep_eq (P := P) (fcallO_eq (P := P) ok sk (S := S) (fun _ _ _ => rfl) d noY (fun _ _ _ => none) (fun _ _ _ => rfl)) (fun i hd hd' hh => fcallO_eq (P := P) ok sk (S := S) (fun _ _ _ => rfl) d (fext noY i hd) (YieldF.ext (fun _ _ _ => none) i hd') (fext_eq (fun _ _ _ => rfl) i hh)) ok f args (start P.globals.size ts)
  rw [val_opt, he] at hc
  obtain ⟨⟨v', h'⟩, hr, hv⟩ := Option.map_eq_some_iff.1 hc
  cases hv
  exact (calls_step hmix hgood (hcs _ _ YieldSound.none) (fun B' i hd hB hh => hcs B' _ (YieldSound.none.ext hB hh)) hr hfn hbody H hargs (start_free _ _ _)).mono fun e W' ⟨σ', h1, h2, h3⟩ => ⟨σ', h1, h2, h3.below H⟩
end Go.Abs
