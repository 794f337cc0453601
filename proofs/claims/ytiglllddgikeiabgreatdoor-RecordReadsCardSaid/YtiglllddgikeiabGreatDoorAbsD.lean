/- An evaluator of Go code over an abstract memory, and the proof that each of its runs is a run of the model, whatever the tape. It holds for each program, without conditions. -/
import Derived.Test.YtiglllddgikeiabGreatDoorAbsC
import Derived.LaidLaws
import Derived.Lib.LaidTab
import Derived.Handed
import Derived.Carry
import Derived.ChangeSame
import Derived.RowKit
import Derived.OpenShut
import Derived.LaidMore
import Derived.LaidHandle
import Derived.MakeChecks
import Derived.JoinedOf
import Derived.Stop.Joined
namespace Go.Abs
variable {P : Program}

/-- A table that nothing writes. -/
structure Tab where
  at' : Nat
  ety : TypeId
  es : Nat
  vs : List AVal

noncomputable def Tab.cells (t : Tab) : ACells := { ACells.made t.ety t.es t.vs with ro := true }

noncomputable def startObjs : List Tab → L4
  | [] => .leaf
  | t :: ts => (startObjs ts).setL t.at' (.cells t.cells)

/-- The memory that holds some tables, and knows nothing else. -/
noncomputable def start (n : Nat) (ts : List Tab) : Heap := { objs := startObjs ts, next := n, low := n }

/-- Package-level variable g lies at block g. -/
noncomputable def startAt (n : Nat) (ts : List Tab) : Real := fun f g =>
  if g = 0 ∧ f < n then some (match (start n ts).fam f with | some c => ⟨f, 0, 0, c.size, c.es⟩ | none => ⟨f, 0, 0, 0, 1⟩) else none

theorem startObjs_deep : ∀ ts : List Tab, L4.deep 8 (startObjs ts)
  | [] => L4.deep_leaf 8
  | _ :: ts => L4.deep_setL (startObjs_deep ts) _ _

theorem startObjs_get : ∀ (ts : List Tab) (f : Nat) (o : AObj), (startObjs ts).getL f = some o → ∃ t ∈ ts, f = t.at' ∧ o = .cells t.cells
  | [], f, o, h => by
    have := L4.getL_leaf f
    rw [show startObjs [] = (L4.leaf : L4) from rfl, this] at h
    cases h
  | t :: ts, f, o, h => by
    rw [show startObjs (t :: ts) = (startObjs ts).setL t.at' (.cells t.cells) from rfl, L4.getL_setL _ (startObjs_deep ts)] at h
    by_cases e : f = t.at'
    · rw [if_pos e] at h
      split at h
      · cases h; exact ⟨t, by simp, e, rfl⟩
      · cases h
    · rw [if_neg e] at h
      obtain ⟨t', h1, h2⟩ := startObjs_get ts f o h
      exact ⟨t', by simp [h1], h2⟩

theorem start_rel {W : World} {ts : List Tab} (hsz : P.globals.size ≤ W.heap.size)
    (ht : ∀ t ∈ ts, t.at' < P.globals.size ∧ 0 < t.es ∧ t.vs.length % t.es = 0 ∧ okvs (fun _ _ => none) t.vs ∧ t.vs.all AVal.scalar = true ∧ W.heap[t.at']? = some (.cells (concs (fun _ _ => none) t.vs).toArray t.ety (0, 0))) :
    Rel P (.plain W.heap.size) (startAt P.globals.size ts) (start P.globals.size ts) W := by
  have hget : ∀ f o, (start P.globals.size ts).obj f = some o → ∃ t ∈ ts, f = t.at' ∧ o = .cells t.cells := startObjs_get ts
  have hnw : ∀ f, (start P.globals.size ts).writable f = false := by
    intro f
    unfold Heap.writable
    cases h : (start P.globals.size ts).obj f with
    | none => rfl
    | some o => obtain ⟨t, _, _, rfl⟩ := hget f o h; rfl
  have hσ : ∀ f g b, startAt P.globals.size ts f g = some b → g = 0 ∧ f < P.globals.size ∧ b = (match (start P.globals.size ts).fam f with | some c => ⟨f, 0, 0, c.size, c.es⟩ | none => ⟨f, 0, 0, 0, 1⟩) := by
    intro f g b h
    unfold startAt at h
    split at h
    · rename_i hc; exact ⟨hc.1, hc.2, (Option.some.inj h).symm⟩
    · cases h
  have hblk : ∀ f g b, startAt P.globals.size ts f g = some b → b.block = f ∧ b.base = 0 ∧ b.start = 0 := by
    intro f g b h
    obtain ⟨_, _, rfl⟩ := hσ f g b h
    cases (start P.globals.size ts).fam f <;> exact ⟨rfl, rfl, rfl⟩
  refine ⟨startObjs_deep ts, fun f hf => ?_, fun f c hc => ?_, Nat.le_refl _, fun g hg => ?_, fun f g b o hb ho => ?_, fun f g b _ hw => ?_, fun f g b hb => ?_, fun f g b f' g' b' _ _ _ hw => ?_, fun f g b g' b' hb hb' _ => ?_, Ctx.plain⟩
  · cases h : (start P.globals.size ts).obj f with
    | none => rfl
    | some o =>
      obtain ⟨t, h1, rfl, _⟩ := hget f o h
      have := (ht t h1).1
      have hf' : P.globals.size ≤ t.at' := hf
      omega
  · obtain ⟨t, h1, _, e⟩ := hget f _ hc
    cases e
    obtain ⟨_, k1, k2, _⟩ := ht t h1
    exact cwf_made t.es t.vs k1 k2 _ rfl (Nat.le_refl _) rfl
  · refine ⟨_, by unfold startAt; rw [if_pos ⟨rfl, hg⟩], ?_⟩
    cases (start P.globals.size ts).fam g <;> exact ⟨rfl, rfl, rfl⟩
  · obtain ⟨rfl, hlt, hbe⟩ := hσ f g b hb
    obtain ⟨t, h1, rfl, rfl⟩ := hget f o ho
    have hfam : (start P.globals.size ts).fam t.at' = some t.cells := by
      unfold Heap.fam
      have : (start P.globals.size ts).objs.getL t.at' = some (.cells t.cells) := ho
      rw [this]
    rw [hfam] at hbe
    subst hbe
    obtain ⟨_, k1, k2, k3, k4, k5⟩ := ht t h1
    have hle : Real.le (fun _ _ => none) (startAt P.globals.size ts) := fun f g b h => by cases h
    refine ⟨Nat.le_refl _, rfl, Nat.zero_le _, fun _ => Nat.le_refl _, fun _ => ⟨rfl, rfl, rfl, rfl⟩, _, _, k5, by simp [Tab.cells, ACells.made, concs_length], fun e => Bool.noConfusion e, fun i v lo hv _ _ => ?_⟩
    obtain ⟨q1, q2⟩ := cellAt_made t.es t.vs k1 k2 t.cells rfl rfl hv
    have hi := (List.getElem?_eq_some_iff.1 q2).1
    have hmem : v ∈ t.vs := List.mem_iff_getElem?.2 ⟨_, q2⟩
    obtain ⟨e1, e2⟩ := ext_v hle v (okvs_iff.1 k3 v hmem)
    refine ⟨hi, e1, List.all_eq_true.1 k4 v hmem, ?_⟩
    rw [e2]
    simp [concs_eq, q2]
  · rw [hnw f] at hw; cases hw
  · obtain ⟨_, hlt, _⟩ := hσ f g b hb
    rw [(hblk f g b hb).1]
    omega
  · rw [hnw f] at hw; cases hw
  · obtain ⟨rfl, _, _⟩ := hσ f g b hb
    obtain ⟨rfl, _, _⟩ := hσ f g' b' hb'
    rw [hb] at hb'
    exact (Option.some.inj hb').symm

theorem start_free (n m : Nat) (ts : List Tab) : Free (startAt n ts) (start n ts).next m := by
  intro f g h1 _
  unfold startAt
  rw [if_neg]
  rintro ⟨_, h2⟩
  have h1' : n ≤ f := h1
  omega

/-- A run of the evaluator from the tables is a run of the model, whatever the tape. -/
theorem calls_start {ok d : Nat} {f : FuncId} {args : List AVal} {ts : List Tab} {v : AVal} {W : World} (hmix : P.follows .mixedOrders = true)
    (hgood : ∀ f, Nat.testBit ok f = true → ∀ fn, P.funcs[f]? = some fn → goodFunc fn = true) {fn : Func} (hfn : P.funcs[f]? = some fn) (hbody : fn.body.isSome = true) (hsz : P.globals.size ≤ W.heap.size)
    (ht : ∀ t ∈ ts, t.at' < P.globals.size ∧ 0 < t.es ∧ t.vs.length % t.es = 0 ∧ okvs (fun _ _ => none) t.vs ∧ t.vs.all AVal.scalar = true ∧ W.heap[t.at']? = some (.cells (concs (fun _ _ => none) t.vs).toArray t.ety (0, 0)))
    (hargs : okvs (startAt P.globals.size ts) args) (hc : (call P ok (d + 1) f args (start P.globals.size ts)).map Prod.fst = some v) :
    Calls P f (concs (startAt P.globals.size ts) args).toArray W fun e W' => ∃ σ', e = .returned (conc σ' v) ∧ okv σ' v ∧ RowKit.Below W.heap.size W W' := by
  obtain ⟨r, hr, hv⟩ := Option.map_eq_some_iff.1 hc
  obtain ⟨v', h'⟩ := r
  cases hv
  have H := start_rel hsz ht
  exact (calls_of hmix hgood hr hfn hbody H hargs (start_free _ _ _)).mono fun e W' ⟨σ', h1, h2, h3⟩ => ⟨σ', h1, h2, h3.below H⟩

end Go.Abs

namespace Go.Abs
open Go.ChangeShapes

mutual
/-- The cells that a datum of integers stands for. -/
def flatD : DataW Unit → Option (List AVal)
  | .lit (.int k n) => some [.int k n]
  | .agg ds => flatDs ds
  | _ => none
def flatDs : List (DataW Unit) → Option (List AVal)
  | [] => some []
  | d :: ds => (flatD d).bind fun a => (flatDs ds).map (a ++ ·)
end

/-- Fields that lie one behind another, from a place on. -/
def rowOf (P : Program) : List Field → Nat → Option Nat
  | [], a => some a
  | f :: fs, a => if f.offset = a then rowOf P fs (a + P.cellsOf f.type) else none

/-- A type of integers, arrays and structs of them, that lie close together. -/
def plainT (P : Program) : Nat → TypeId → Bool
  | 0, _ => false
  | k + 1, t => match P.underlying t with
    | some (.int _) => true
    | some (.array n e) => plainT P k e && Nat.beq (P.cellsOf t) (n * P.cellsOf e)
    | some (.struct fs) => fs.toList.all (fun f => plainT P k f.type) && rowOf P fs.toList 0 == some (P.cellsOf t)
    | _ => false

/-- What a list of cells holds. -/
def Holds (σ : Real) (cs : List Value) (vs : List AVal) : Prop := cs = concs σ vs ∧ okvs σ vs ∧ vs.all AVal.scalar = true

theorem Holds.append {σ : Real} {a b : List Value} {u v : List AVal} (h : Holds σ a u) (k : Holds σ b v) : Holds σ (a ++ b) (u ++ v) :=
  ⟨by rw [h.1, k.1, concs_append], okvs_append.2 ⟨h.2.1, k.2.1⟩, by rw [List.all_append, h.2.2, k.2.2]; rfl⟩

theorem drop_split {α : Type} (cs : List α) (a m : Nat) : cs.drop a = (cs.drop a).take m ++ cs.drop (a + m) := by
  rw [← List.drop_drop, List.take_append_drop]

/-- Pieces that lie one behind another. -/
theorem holds_pieces {ι : Type} {σ : Real} {cs : List Value} {off sz : ι → Nat} {g : ι → Option (DataW Unit × List MemPlace)} (items : List ι)
    (hg : ∀ i ∈ items, ∀ d p vs, g i = some (d, p) → flatD d = some vs → Holds σ ((cs.drop (off i)).take (sz i)) vs) :
    ∀ (a b : Nat) (xs : List (DataW Unit × List MemPlace)) (vs : List AVal), (∀ (l r : List ι) (i : ι), items = l ++ i :: r → off i = a + (l.map sz).sum) → b = a + (items.map sz).sum →
      items.mapM g = some xs → flatDs (xs.map (·.1)) = some vs → Holds σ ((cs.drop a).take (b - a)) vs := by
  induction items with
  | nil =>
    intro a b xs vs _ hb hm hf
    simp only [List.mapM_nil, Option.pure_def, Option.some.injEq] at hm
    subst hm
    simp only [List.map_nil, flatDs, Option.some.injEq] at hf
    subst hf
    simp only [List.map_nil, List.sum_nil, Nat.add_zero] at hb
    rw [hb, Nat.sub_self]
    exact ⟨rfl, trivial, rfl⟩
  | cons i items ih =>
    intro a b xs vs hoff hb hm hf
    rw [List.mapM_cons] at hm
    simp only [Option.bind_eq_bind, Option.bind_eq_some_iff, Option.pure_def, Option.some.injEq] at hm
    obtain ⟨⟨d, p⟩, h1, ys, h2, rfl⟩ := hm
    simp only [List.map_cons, flatDs, Option.bind_eq_some_iff, Option.map_eq_some_iff] at hf
    obtain ⟨u, hu, us, hus, rfl⟩ := hf
    have ho : off i = a := by have := hoff [] items i rfl; simpa using this
    have k1 := hg i (by simp) d p u h1 hu
    rw [ho] at k1
    have k2 := ih (fun j hj => hg j (by simp [hj])) (a + sz i) b ys us (fun l r j hj => by
      have := hoff (i :: l) r j (by rw [hj]; rfl)
      simp only [List.map_cons, List.sum_cons] at this
      omega) (by simp only [List.map_cons, List.sum_cons] at hb; omega) h2 hus
    have hb' : b - a = sz i + (b - (a + sz i)) := by simp only [List.map_cons, List.sum_cons] at hb; omega
    rw [hb', List.take_add, List.drop_drop]
    exact k1.append k2

theorem rowOf_off (P : Program) : ∀ (fs : List Field) (a b : Nat), rowOf P fs a = some b →
    (∀ (l r : List Field) (f : Field), fs = l ++ f :: r → f.offset = a + (l.map fun f => P.cellsOf f.type).sum) ∧ b = a + (fs.map fun f => P.cellsOf f.type).sum
  | [], a, b, h => by
    simp only [rowOf, Option.some.injEq] at h
    subst h
    exact ⟨fun l r f hf => by simp at hf, by simp⟩
  | f :: fs, a, b, h => by
    unfold rowOf at h
    split at h
    · rename_i ho
      obtain ⟨h1, h2⟩ := rowOf_off P fs _ _ h
      refine ⟨fun l r g hg => ?_, by simp only [List.map_cons, List.sum_cons]; omega⟩
      cases l with
      | nil => simp only [List.nil_append, List.cons.injEq] at hg; rw [← hg.1]; simpa using ho
      | cons x l =>
        simp only [List.cons_append, List.cons.injEq] at hg
        have := h1 l r g hg.2
        simp only [List.map_cons, List.sum_cons, ← hg.1]
        omega
    · cases h

theorem sum_const (c : Nat) : ∀ l : List Nat, (l.map fun _ => c).sum = l.length * c
  | [] => by simp
  | x :: l => by simp only [List.map_cons, List.sum_cons, sum_const c l, List.length_cons, Nat.succ_mul]; omega

/-- Cells that read as a datum of integers. -/
theorem holds_trod {P : Program} {w : World} {base : Nat} {sp : Nat → Bool} {held : Bool} {σ : Real} : ∀ (k fuel : Nat) (t : TypeId) (cs : List Value) (d : DataW Unit) (p : List MemPlace) (vs : List AVal),
    plainT P k t = true → DataW.trod (fun _ => ()) P w base sp held fuel t cs = some (d, p) → flatD d = some vs → Holds σ cs vs := by
  intro k
  induction k with
  | zero => intro fuel t cs d p vs hp; cases hp
  | succ k ih =>
    intro fuel t cs d p vs hp ht hf
    unfold plainT at hp
    split at hp
    · rename_i ik hu
      obtain ⟨n, rfl, hx, _⟩ := DataW.trod_int hu ht
      cases hx
      simp only [flatD, Option.some.injEq] at hf
      subst hf
      exact ⟨rfl, ⟨trivial, trivial⟩, rfl⟩
    · rename_i n e hu
      rw [Bool.and_eq_true, Nat.beq_eq] at hp
      cases fuel with
      | zero => simp [DataW.trod] at ht
      | succ fuel =>
        simp only [DataW.trod, hu] at ht
        split at ht
        · rename_i hl
          obtain ⟨xs, hm, hx⟩ := Option.map_eq_some_iff.1 ht
          cases hx
          rw [flatD] at hf
          have := holds_pieces (σ := σ) (cs := cs) (off := fun i => i * P.cellsOf e) (sz := fun _ => P.cellsOf e) (List.range n) (fun i _ d p vs h1 h2 => ih fuel e _ d p vs hp.1 h1 h2) 0 (n * P.cellsOf e) xs vs
            (fun l r i hi => by
              have hli : i = l.length := by
                have h3 : (List.range n)[l.length]? = some i := by rw [hi]; simp
                rw [List.getElem?_range] at h3
                · simpa using h3.symm
                · have := congrArg List.length hi; simp at this; omega
              rw [sum_const, hli]; omega)
            (by rw [sum_const]; simp) hm hf
          rw [Nat.sub_zero, List.drop_zero, List.take_of_length_le (by omega)] at this
          exact this
        · cases ht
    · rename_i fs hu
      rw [Bool.and_eq_true] at hp
      obtain ⟨hp1, hp2⟩ := hp
      have hp3 : rowOf P fs.toList 0 = some (P.cellsOf t) := by simpa using hp2
      obtain ⟨o1, o2⟩ := rowOf_off P _ _ _ hp3
      cases fuel with
      | zero => simp [DataW.trod] at ht
      | succ fuel =>
        simp only [DataW.trod, hu] at ht
        split at ht
        · rename_i hl
          obtain ⟨xs, hm, hx⟩ := Option.map_eq_some_iff.1 ht
          cases hx
          rw [flatD] at hf
          have := holds_pieces (σ := σ) (cs := cs) (off := fun f : Field => f.offset) (sz := fun f => P.cellsOf f.type) fs.toList (fun f hf' d p vs h1 h2 => ih fuel f.type _ d p vs (List.all_eq_true.1 hp1 f hf') h1 h2) 0 (P.cellsOf t) xs vs
            o1 o2 hm hf
          rw [Nat.sub_zero, List.drop_zero, List.take_of_length_le (by omega)] at this
          exact this
        · cases ht
    · cases hp

end Go.Abs

namespace Go.Abs
variable {P : Program}

theorem laid_get {W : World} : ∀ {laid : List (String × DataW Unit)} {ps : List MemPlace}, DataW.LaidVars P W laid ps → ∀ x ∈ laid, ∃ g t cs fuel p, P.globalNamed x.1 = some g ∧ (P.globals[g]?).map (·.type) = some t ∧ W.var? P x.1 = some cs ∧
    DataW.trod (fun _ => ()) P W 0 (fun _ => true) false fuel t cs.toList = some (x.2, p)
  | [], _, _, x, hx => by cases hx
  | (n, d) :: r, ps, h, x, hx => by
    obtain ⟨g, t, cs, fuel, p, q, h1, h2, h3, h4, h5, _⟩ := h
    rcases List.mem_cons.1 hx with rfl | hx
    · exact ⟨g, t, cs, fuel, p, h1, h2, h3, h4⟩
    · exact laid_get h5 x hx

/-- What has to be known of a table, by the program's text alone. -/
structure Tab.Is (P : Program) (laid : List (String × DataW Unit)) (t : Tab) (x : String × DataW Unit) (ty : TypeId) (k : Nat) : Prop where
  mem : x ∈ laid
  named : P.globalNamed x.1 = some t.at'
  lt : t.at' < P.globals.size
  type : (P.globals[t.at']?).map (·.type) = some ty
  plain : plainT P k ty = true
  flat : flatD x.2 = some t.vs
  pos : 0 < t.es
  fits : t.vs.length % t.es = 0
  made : ∃ zero, ((begin P (fun _ _ => 0) default).world.heap[t.at']?).bind Obj.row? = some (zero, t.ety)

theorem tab_met {W : World} {laid : List (String × DataW Unit)} {t : Tab} {x : String × DataW Unit} {ty : TypeId} {k : Nat} (hW : W.ShapedOpen P) (hL : laidMet P laid W) (h : t.Is P laid x ty k) :
    t.at' < P.globals.size ∧ 0 < t.es ∧ t.vs.length % t.es = 0 ∧ okvs (fun _ _ => none) t.vs ∧ t.vs.all AVal.scalar = true ∧ W.heap[t.at']? = some (.cells (concs (fun _ _ => none) t.vs).toArray t.ety (0, 0)) := by
  obtain ⟨ps, hv, _⟩ := hL
  obtain ⟨g, ty', cs, fuel, p, h1, h2, h3, h4⟩ := laid_get hv x h.mem
  obtain rfl : g = t.at' := Option.some.inj (h1.symm.trans h.named)
  obtain rfl : ty' = ty := Option.some.inj (h2.symm.trans h.type)
  obtain ⟨zero, hz⟩ := h.made
  obtain ⟨cs', c1, _, _⟩ := hW.1 t.at' zero t.ety h.lt hz
  have hcs : cs' = cs := by
    unfold World.var? at h3
    rw [h.named] at h3
    simp only [Option.bind_some, c1] at h3
    exact Option.some.inj h3
  subst hcs
  obtain ⟨e1, e2, e3⟩ := holds_trod (σ := fun _ _ => none) k fuel ty' cs'.toList x.2 p t.vs h.plain h4 h.flat
  refine ⟨h.lt, h.pos, h.fits, e2, e3, ?_⟩
  rw [c1, ← e1]

theorem globals_in {W : World} (hW : W.ShapedOpen P) (h : ∀ g, P.globals.size = g + 1 → ∃ zero t, ((begin P (fun _ _ => 0) default).world.heap[g]?).bind Obj.row? = some (zero, t)) : P.globals.size ≤ W.heap.size := by
  cases hs : P.globals.size with
  | zero => exact Nat.zero_le _
  | succ g =>
    obtain ⟨zero, t, hz⟩ := h g hs
    obtain ⟨cs, c1, _⟩ := hW.1 g zero t (by omega) hz
    exact (Array.getElem?_eq_some_iff.1 c1).1

end Go.Abs

namespace Go.Abs
open Go.RowKit Go.ChangeShapes Go.WideShapes
section
variable {H : Type} {enc : TypeId × Value → H} {P : Program}

theorem trodAll_long {w : World} {base : Nat} {spare : Nat → Bool} {held : Bool} : ∀ {ts : List TypeId} {vs : List Value} {ds : List (DataW H)} {ps : List MemPlace}, DataW.TrodAll enc P w base spare held ts vs ds ps → vs.length = ts.length ∧ ds.length = ts.length
  | [], _, _, _, h => by
    obtain ⟨rfl, rfl, _⟩ := trodAll_nil h
    exact ⟨rfl, rfl⟩
  | _ :: _, _, _, _, h => by
    obtain ⟨v, vs1, d, ds1, a, b, rfl, rfl, rfl, _, h2⟩ := trodAll_cons h
    have := trodAll_long h2
    simp [this.1, this.2]

/-- The arguments read behind the call as they did before. -/
theorem trodAll_carry (hl : laidOutB P = true) {W W' : World} (hb : Below W.heap.size W W') : ∀ {ts : List TypeId} {vs : List Value} {ds : List (DataW H)} {ps : List MemPlace},
    ts.all (fun t => P.readableRec t && decide (t < P.types.size)) = true → DataW.TrodAll enc P W 0 (fun _ => true) true ts vs ds ps → (∀ x ∈ ps, x.block < W.heap.size) → ∀ sp : Nat → Bool, (∀ p ∈ ps, sp p.block = true) → DataW.TrodAll enc P W' 0 sp true ts vs ds ps
  | [], _, _, _, _, h, _, _, _ => by
    obtain ⟨rfl, rfl, rfl⟩ := trodAll_nil h
    rfl
  | t :: ts, _, _, _, ht, h, hlt, sp, hsp => by
    obtain ⟨v, vs, d, ds, p, q, rfl, rfl, rfl, h1, h2⟩ := trodAll_cons h
    simp only [List.all_cons, Bool.and_eq_true, decide_eq_true_eq] at ht
    exact trodAll_cons_mk (WideElems.Trod_stays hl ht.1.1 ht.1.2 h1 (fun x hx => hb.same (hlt x (by simp [hx]))) (fun x hx => hsp x (by simp [hx])))
      (trodAll_carry hl hb (by simpa using ht.2) h2 (fun x hx => hlt x (by simp [hx])) sp (fun x hx => hsp x (by simp [hx])))

/-- A law that answers true and changes nothing that was there. -/
theorem post_true {f : Func} {s : ChangeSpec} {apart fresh handsOn again : Bool} {W W' : World} {args : Array Value} {ds gs : List (DataW H)} {before : List MemPlace} {bt : TypeId}
    (hl : laidOutB P = true) (hpar : f.params.toList.all (fun t => P.readableRec t && decide (t < P.types.size)) = true) (hvars : s.vars = []) (hres : f.resultTypes = #[bt]) (hbt : P.underlying bt = some .bool)
    (hW : DataW.Whole enc P f.params.toList s.vars apart W args.toList ds gs before) (hs : s.fn H (ds ++ gs) = { results := [.lit (.bool true)], args := ds }) (hb : Below W.heap.size W W') :
    s.post enc P f apart fresh handsOn again W args (.bool true) W' := by
  have hlt : ∀ p ∈ before, p.block < W.heap.size := fun p hp => hW.lt p hp
  have hold : ∀ p ∈ before, (fun b => decide (b < W.heap.size)) p.block = true := fun p hp => by simpa using hlt p hp
  have hW0 := hW
  obtain ⟨p, q, hA, hV, he, hz, hn⟩ := hW
  rw [hvars] at hV
  obtain ⟨rfl, rfl⟩ := trodVars_none hV
  rw [List.append_nil] at he
  subst he
  have hr : ∀ (b : Nat) (sp : Nat → Bool) (hd : Bool), DataW.TrodAll enc P W' b sp hd f.resultTypes.toList ((Value.bool true).resultList f.resultTypes.size) (s.fn H (ds ++ [])).results [] := fun b sp hd => by
    rw [hs, hres]
    exact trodAll_mk1 (shut_bool hbt _)
  have ha : ∀ sp : Nat → Bool, (∀ x ∈ before, sp x.block = true) → DataW.TrodAll enc P W' 0 sp true f.params.toList args.toList (s.fn H (ds ++ [])).args before := fun sp hsp => by
    rw [hs]
    exact trodAll_carry hl hb hpar hA hlt sp hsp
  have hv : ∀ sp : Nat → Bool, DataW.TrodVars enc P W' sp s.vars (s.fn H (ds ++ [])).vars [] := fun sp => by
    rw [hs, hvars]
    rfl
  refine ⟨ds, [], before, [], before, [], hW0, hr _ _ _, ha _ hold, hv _, World.keptBut_mono (fun x hx => ⟨hx, by simpa using hx⟩) (hb.frame (· ∈ before)), fun _ => ?_⟩
  refine ⟨ok_one hres rfl (okWide_bool_mk hbt _), _, _, ([] ++ before) ++ [], ⟨[] ++ before, [], trodAll_append (ha _ (fun _ _ => rfl)) (hr _ _ _), hv _, by simp, ?_, ?_⟩, ?_⟩
  · intro b off hp
    have hin : MemPlace.cell b off ∈ before := by simpa using hp
    rw [hb.frozen (hlt _ hin)]
    exact hz b off hin
  · intro hap
    simpa using hn hap
  · intro x hx _
    simpa using hx
end

/-- The row of a law from the contract of its function. -/
theorem law_row {H : Type} {enc : TypeId × Value → H} {a : Assume} {C : Checked} {os : Os} {f : FuncId} {fn : Func} {s : ChangeSpec} {conds : List PathCond} {apart fresh handsOn again : Bool} {laid : List (String × DataW Unit)} {bt : TypeId}
    (own : ownKnob C.prog.godebug = none) (started : os.Started) (noInit : C.prog.inits.idxOf? f = none) (hfn : C.prog.funcs[f]? = some fn)
    (hl : laidOutB C.prog = true) (hpar : fn.params.toList.all (fun t => C.prog.readableRec t && decide (t < C.prog.types.size)) = true) (hvars : s.vars = []) (hres : fn.resultTypes = #[bt]) (hbt : C.prog.underlying bt = some .bool)
    (hs : ∀ ds : List (DataW H), ds.length = fn.params.toList.length → s.fn H ds = { results := [.lit (.bool true)], args := ds })
    (witness : ∃ (w : World) (tape : Tape) (i : Input), w.os = os ∧ (w.forCall tape i).Shaped C.prog ∧ i.vars = [] ∧ Input.okWide C.prog (w.forCall tape i) .any w.heap.size f i ∧
      ((s.pre enc C.prog fn conds apart (w.forCall tape i).memory i.args ∧ laidMetH C.prog laid (w.forCall tape i).memory) ∧ sizedMet enc C.prog fn (OpenSpec.ofChange s) apart (w.forCall tape i).memory i.args) ∧ a.holds C.prog (lone (Frame.enter C.prog f i.args .normal) [] (w.forCall tape i)))
    (contract : ∀ (W : World) (base : Nat) (args : Array Value) (ds : List (DataW H)) (before : List MemPlace),
      (∀ (j : Nat) t v, fn.params[j]? = some t → args[j]? = some v → Value.okWide C.prog W .any base t v) →
      DataW.TrodAll enc C.prog W 0 (fun _ => true) true fn.params.toList args.toList ds before →
      (DataW.weightsEach C.prog fn.params.toList ds).all (· ≤ reachBytes) = true → W.ShapedOpen C.prog → laidMetH C.prog laid W →
      Calls C.prog f args W fun e W' => e = .returned (.bool true) ∧ Below W.heap.size W W') :
    ReturnsInHanded a C os f .any (fun w args => (s.pre enc C.prog fn conds apart w args ∧ laidMetH C.prog laid w) ∧ sizedMet enc C.prog fn (OpenSpec.ofChange s) apart w args) (s.post enc C.prog fn apart fresh handsOn again) := by
  refine returnsInHanded_of_calls own started noInit witness ?_
  intro w tape i _ hsh _ hok hpre hholds
  obtain ⟨_, _, _, fn', hfn', _, _, _, _, hval⟩ := hok
  have e : fn' = fn := Option.some.inj (hfn'.symm.trans hfn)
  subst e
  obtain ⟨⟨⟨ds, gs, before, hw, hc⟩, hx⟩, hz⟩ := hpre
  have hw' := DataW.Whole.of_heap (w' := w.forCall tape i) (by rfl) hw
  have hwe := hz.weights hw
  have hx' : laidMetH C.prog laid (w.forCall tape i) := hx.of_heap (by rfl)
  have hw0 := hw'
  obtain ⟨p, q, hA, hV, he, hfz, hnd⟩ := hw'
  rw [hvars] at hV
  obtain ⟨rfl, rfl⟩ := trodVars_none hV
  rw [List.append_nil] at hwe
  have hwe' : (DataW.weightsEach C.prog fn'.params.toList ds).all (· ≤ reachBytes) = true := by
    have e1 : (OpenSpec.ofChange s).bare.plain.varTypes C.prog = [] := by
      show (s.vars.filterMap _) = []
      rw [hvars]; rfl
    rw [e1, List.append_nil] at hwe
    exact hwe
  refine (contract (w.forCall tape i) w.heap.size i.args ds p hval hA hwe' hsh hx').mono fun e W' ⟨h1, h2⟩ => ?_
  subst h1
  exact ChangeSpec.post_blind (post_true hl hpar hvars hres hbt hw0 (by rw [List.append_nil]; exact hs ds (trodAll_long hA).2) h2)

/-- A struct of two integers, as it may come. -/
theorem okWide_ints2 {P : Program} {w : World} {r : Reach} {base : Nat} {t u u' : TypeId} {k k' : IntKind} {v : Value} {fs : Array Field} (ht : P.underlying t = some (.struct fs)) (hc : P.cellsOf t = 2)
    (hts : P.cellTypes P.depth t = some [u, u']) (hu : P.underlying u = some (.int k)) (hu' : P.underlying u' = some (.int k')) (h : Value.okWide P w r base t v) : ∃ n m, v = .agg #[.int k n, .int k' m] := by
  simp only [Value.okWide, ht] at h
  obtain ⟨cs, rfl, hsz, ts, h1, _, h3⟩ := h
  rw [hts] at h1
  cases h1
  rw [hc] at hsz
  obtain ⟨l⟩ := cs
  match l, hsz with
  | [a, b], _ =>
    obtain ⟨x, e, ha⟩ := h3 0 a rfl
    cases e
    obtain ⟨y, e, hb⟩ := h3 1 b rfl
    cases e
    simp only [Cell.okWide, hu] at ha
    simp only [Cell.okWide, hu'] at hb
    cases a <;> simp_all [Cell.ok]
    cases b <;> simp_all
end Go.Abs

namespace Go.Abs

/-- Places in runs: within a run one block, and places that grow; no block twice. -/
def runsOk : List MemPlace → Nat → Nat → List Nat → Bool
  | [], _, _, _ => true
  | .map _ :: _, _, _, _ => false
  | .cell b off :: ps, cb, co, seen => match Nat.beq b cb with
    | true => Nat.ble co off && runsOk ps cb (off + 1) seen
    | false => !(seen.any (Nat.beq b)) && runsOk ps b (off + 1) (b :: seen)

theorem runsOk_sound : ∀ {ps : List MemPlace} {cb co : Nat} {seen : List Nat}, runsOk ps cb co seen = true → cb ∈ seen →
    ps.Nodup ∧ ∀ p ∈ ps, ∃ b off, p = .cell b off ∧ (b = cb ∧ co ≤ off ∨ b ∉ seen)
  | [], _, _, _, _, _ => ⟨List.nodup_nil, fun p hp => by cases hp⟩
  | .map _ :: _, _, _, _, h, _ => by cases h
  | .cell b off :: ps, cb, co, seen, h, hc => by
    unfold runsOk at h
    split at h
    · rename_i hb
      obtain rfl : b = cb := Nat.eq_of_beq_eq_true hb
      rw [Bool.and_eq_true] at h
      have hle := Nat.le_of_ble_eq_true h.1
      obtain ⟨h1, h2⟩ := runsOk_sound h.2 hc
      refine ⟨List.nodup_cons.2 ⟨fun hm => ?_, h1⟩, fun p hp => ?_⟩
      · obtain ⟨b', off', e, h3⟩ := h2 _ hm
        cases e
        rcases h3 with h3 | h3
        · omega
        · exact h3 hc
      · rcases List.mem_cons.1 hp with rfl | hp
        · exact ⟨b, off, rfl, .inl ⟨rfl, hle⟩⟩
        · obtain ⟨b', off', e, h3⟩ := h2 p hp
          refine ⟨b', off', e, h3.imp (fun h4 => ⟨h4.1, by omega⟩) id⟩
    · rw [Bool.and_eq_true, Bool.not_eq_true'] at h
      have hns : b ∉ seen := fun hm => by
        have : seen.any (Nat.beq b) = true := List.any_eq_true.2 ⟨b, hm, Nat.beq_refl b⟩
        rw [this] at h
        cases h.1
      obtain ⟨h1, h2⟩ := runsOk_sound h.2 List.mem_cons_self
      refine ⟨List.nodup_cons.2 ⟨fun hm => ?_, h1⟩, fun p hp => ?_⟩
      · obtain ⟨b', off', e, h3⟩ := h2 _ hm
        cases e
        rcases h3 with h3 | h3
        · omega
        · exact h3 List.mem_cons_self
      · rcases List.mem_cons.1 hp with rfl | hp
        · exact ⟨b, off, rfl, .inr hns⟩
        · obtain ⟨b', off', e, h3⟩ := h2 p hp
          refine ⟨b', off', e, .inr ?_⟩
          rcases h3 with h3 | h3
          · rw [h3.1]; exact hns
          · exact fun hm => h3 (List.mem_cons_of_mem _ hm)

theorem runsOk_nodup {ps : List MemPlace} {n : Nat} (h : runsOk ps n 0 [n] = true) : ps.Nodup := (runsOk_sound h List.mem_cons_self).1

/-- The condition on the listed variables, out of a run; that no place is met twice is told by runs. -/
theorem laidMet_runs {P : Program} {w : World} {l : List (String × DataW Unit)} (fuel n : Nat) (h : (DataW.laidRun P w fuel (l.map (·.1))).map (·.1) = some l)
    (hr : (DataW.laidRun P w fuel (l.map (·.1))).map (fun x => runsOk x.2 n 0 [n] && laidRowsB P w x.2) = some true) : laidMet P l w := by
  cases hx : DataW.laidRun P w fuel (l.map (·.1)) with
  | none => simp [hx] at h
  | some x =>
    obtain ⟨l', ps⟩ := x
    simp only [hx, Option.map_some, Option.some.injEq] at h hr
    subst h
    simp only [Bool.and_eq_true] at hr
    exact laidMet_of_run fuel hx (decide_eq_true (runsOk_nodup hr.1)) hr.2
end Go.Abs
