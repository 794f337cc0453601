/- An evaluator of Go code over an abstract memory, and the proof that each of its runs is a run of the model, whatever the tape. It holds for each program, without conditions. -/
import Derived.Test.YthophmihgmjnfaaDoorAbsB
import Derived.Tactics
import Derived.Test.YthophmihgmjnfaaDoorAbsA
import Derived.Orders
import Derived.LaidLaws
import Derived.Lib.LaidTab
import Derived.Handed
import Derived.Carry
import Derived.ChangeSame
import Derived.RowKit
import Derived.OpenShut
import Derived.LaidMore
import Derived.LaidHandle
import Derived.MakeChecks
import Derived.JoinedOf
import Derived.Stop.Joined
set_option linter.unusedVariables false
set_option linter.unusedSimpArgs false
-- --
/- An evaluator of Go code over an abstract memory, and the proof that each of its runs is a run of the model, whatever the tape. It holds for each program, without conditions. -/
namespace Go.Abs
variable {P : Program} {B : Nat} {callF : FuncId → List AVal → Heap → Option (AVal × Heap)}

/-- Where a piece of code has arrived. -/
def End (P : Program) (B : Nat) (σ : Real) (h : Heap) (w : World) (a : Act) (T' : Env) (h' : Heap) (a' : Act) (w' : World) : Prop :=
  ∃ σ', Post P B σ h w σ' h' w' ∧ EnvOk σ' T' a'.tmps ∧ a'.tmps.size = a.tmps.size ∧ a'.defers = a.defers

theorem Free.sub {σ : Real} {a b c d : Nat} (hf : Free σ a d) (h1 : a ≤ b) (h2 : c ≤ d) : Free σ b c := fun f g l1 l2 => hf f g (Nat.le_trans h1 l1) (Nat.lt_of_lt_of_le l2 h2)

/-- What lies ahead is free behind a step too. -/
theorem Free.step {σ σ' : Real} {h h' : Heap} {w w' : World} {n : Nat} (hf : Free σ h.next n) (hp : Post P B σ h w σ' h' w') : Free σ' h'.next n := by
  intro f g h1 h2
  cases hs : σ' f g with
  | none => rfl
  | some b =>
    have h0 := hf f g (Nat.le_trans hp.next h1) h2
    have := (hp.new f g b hs h0).1
    omega

theorem End.trans {σ0 : Real} {h0 : Heap} {w0 : World} {a0 : Act} {h1 : Heap} {a1 : Act} {w1 : World} {T2 : Env} {h2 : Heap} {a2 : Act} {w2 : World} {σ1 : Real}
    (hf : Free σ0 h0.next h2.next) (hp : Post P B σ0 h0 w0 σ1 h1 w1) (hs : a1.tmps.size = a0.tmps.size) (hd : a1.defers = a0.defers) (hq : End P B σ1 h1 w1 a1 T2 h2 a2 w2) : End P B σ0 h0 w0 a0 T2 h2 a2 w2 := by
  obtain ⟨σ2, q1, q2, q3, q4⟩ := hq
  exact ⟨σ2, Post.trans hf hp q1, q2, q3.trans hs, q4.trans hd⟩

theorem reads_of {σ : Real} {T : Env} {a : Act} (hg : GlobOk P σ) (hT : EnvOk σ T a.tmps) (x : Operand) : Reads P σ T a x := fun _ hv => eval_sound hg hT hv

theorem dst_lt {n : Nat} {o : Oper} (h : dstOk n o = true) : ∀ d, o.dst = some d → d < n := by
  intro d hd
  unfold dstOk at h
  rw [hd] at h
  simp only [Nat.blt_eq] at h
  exact h

/-- Whether a guard lets an operation run. -/
theorem wanted_on {σ : Real} {T : Env} {a : Act} {all : Array Oper} {o : Oper} {b : Bool} (hw : wanted all T o = some b)
    (hT : ∀ g want d, o.guard = some (g, want) → (all[g]?).bind (·.dst) = some d → ∀ v, T.get d = some v → okv σ v ∧ a.tmps.getD d undef = conc σ v) :
    Region.wanted o (yielded all a.tmps) = b := by
  unfold wanted at hw
  unfold Region.wanted
  split at hw
  · rename_i hgd; rw [hgd]; cases hw; rfl
  · rename_i j want hgd
    rw [hgd]
    simp only []
    split at hw
    · cases hw
    · rename_i d hd
      unfold yielded
      rw [hd]
      simp only [Option.bind_some]
      split at hw
      · rename_i b' hb
        cases hw
        obtain ⟨_, e⟩ := hT j want d hgd hd _ hb
        simp only [conc] at e
        have : a.tmps[d]? = some (.bool b') := by
          rw [Array.getD_eq_getD_getElem?] at e
          cases hx : a.tmps[d]? with
          | none => rw [hx] at e; cases e
          | some u => rw [hx] at e; simp only [Option.getD_some] at e; rw [e]
        rw [this]
        simp
      · rename_i hb
        cases hw
        obtain ⟨_, e⟩ := hT j want d hgd hd _ hb
        rw [Array.getD_eq_getD_getElem?] at e
        cases hx : a.tmps[d]? with
        | none => simp
        | some u =>
          rw [hx] at e
          simp only [Option.getD_some, conc, concs] at e
          rw [e]
          simp
      · cases hw

theorem opAt_cases {all : Array Oper} {o : Oper} {T T1 : Env} {h h1 : Heap} (ho : opAt P callF all o T h = some (T1, h1)) :
    (wanted all T o = some false ∧ T1 = putD T o.dst (.tuple []) ∧ h1 = h) ∨
    (wanted all T o = some true ∧ ∃ v, oper P callF o.op T h = some (v, h1) ∧ T1 = putD T o.dst v ∧ h.next ≤ h1.next) := by
  unfold opAt at ho
  split at ho
  · cases ho
  · rename_i b hw
    split at ho
    · cases ho; exact .inl ⟨hw, rfl, rfl⟩
    · split at ho
      · cases ho
      · rename_i r hr
        obtain ⟨v, h2⟩ := r
        simp only [] at ho
        cases hb : Nat.ble h.next h2.next
        · rw [hb] at ho; cases ho
        · rw [hb] at ho; cases ho; exact .inr ⟨hw, v, hr, rfl, Nat.le_of_ble_eq_true hb⟩

theorem ops_cons {all : Array Oper} {o : Oper} {l : List Oper} {T T' : Env} {h h' : Heap} (ho : ops P callF all (o :: l) T h = some (T', h')) :
    ∃ T1 h1, opAt P callF all o T h = some (T1, h1) ∧ ops P callF all l T1 h1 = some (T', h') := by
  change Option.rec none (fun r => Prod.rec (ops P callF all l) r) (opAt P callF all o T h) = some (T', h') at ho
  cases hx : opAt P callF all o T h with
  | none => rw [hx] at ho; cases ho
  | some r => obtain ⟨T1, h1⟩ := r; rw [hx] at ho; exact ⟨T1, h1, rfl, ho⟩

theorem opAt_next {all : Array Oper} {o : Oper} {T T' : Env} {h h' : Heap} (ho : opAt P callF all o T h = some (T', h')) : h.next ≤ h'.next := by
  rcases opAt_cases ho with ⟨_, _, rfl⟩ | ⟨_, v, _, _, hn⟩
  · exact Nat.le_refl _
  · exact hn

theorem ops_next {all : Array Oper} : ∀ {l : List Oper} {T T' : Env} {h h' : Heap}, ops P callF all l T h = some (T', h') → h.next ≤ h'.next
  | [], T, T', h, h', ho => by cases ho; exact Nat.le_refl _
  | o :: l, T, T', h, h', ho => by
    obtain ⟨T1, h1, h2, h3⟩ := ops_cons ho
    exact Nat.le_trans (opAt_next h2) (ops_next h3)

theorem ops_sound (hcall : CallSound P B callF) {all : Array Oper} {Q : Exit → Act → World → Prop} {T' : Env} {h' : Heap} : ∀ (l : List Oper) (T : Env) (h : Heap) (σ : Real) (a : Act) (w : World),
    ops P callF all l T h = some (T', h') → l.all (dstOk a.tmps.size) = true → Rel P B σ h w → EnvOk σ T a.tmps → Free σ h.next h'.next →
    (∀ a' w', End P B σ h w a T' h' a' w' → Q .normal a' w') → wpList P all Q l a w
  | [], T, h, σ, a, w, ho, _, H, hT, _, hQ => by
    cases ho
    exact hQ a w ⟨σ, Post.refl H, hT, rfl, rfl⟩
  | o :: l, T, h, σ, a, w, ho, hd, H, hT, hfree, hQ => by
    obtain ⟨T1, h1, ho1, ho2⟩ := ops_cons ho
    simp only [List.all_cons, Bool.and_eq_true] at hd
    obtain ⟨hd1, hd2⟩ := hd
    have hdl := dst_lt hd1
    have hn1 := opAt_next ho1
    have hn2 := ops_next ho2
    have hgo : GlobOk P σ := H.glob
    have hE : ∀ x, Reads P σ T a x := fun x v hv => eval_sound hgo hT hv
    refine wpList_step fun K hK => ?_
    rcases opAt_cases ho1 with ⟨hw, rfl, rfl⟩ | ⟨hw, v, hop, rfl, _⟩
    · rw [wanted_on hw (fun g want d _ _ v hv => hT.val d v hv)]
      rw [if_neg (by decide)]
      refine hK _ _ (ops_sound hcall l _ _ σ _ w ho2 (by rw [size_put]; exact hd2) H ?_ hfree fun a' w' he => hQ a' w' (End.trans hfree (Post.refl H) (size_put _ _ _) (defers_put _ _ _) he))
      exact hT.putD hdl (v := .tuple []) trivial
    · rw [wanted_on hw (fun g want d _ _ v hv => hT.val d v hv)]
      rw [if_pos rfl]
      refine op_sound hcall H (hfree.sub (Nat.le_refl _) hn2) (fun x _ => hE x) hop fun σ1 w1 hv hp => ?_
      exact hK _ _ (ops_sound hcall l _ _ σ1 _ w1 ho2 (by rw [size_put]; exact hd2) hp.rel ((hT.ext hp.ext).putD hdl hv) (Free.step hfree hp)
        fun a' w' he => hQ a' w' (End.trans hfree hp (size_put _ _ _) (defers_put _ _ _) he))

end Go.Abs

namespace Go.Abs
variable {P : Program} {B : Nat} {callF : FuncId → List AVal → Heap → Option (AVal × Heap)}

def AExit.real : AExit → Exit
  | .normal => .normal
  | .exit i => .exit i
  | .ret => .ret

/-- What the evaluator says of regions that draw their order holds. -/
def DrawSound (P : Program) (B : Nat) (callF : FuncId → List AVal → Heap → Option (AVal × Heap)) : Prop :=
  ∀ (id : Nat) (l : Array Oper) (T T' : Env) (h h' : Heap) (σ : Real) (a : Act) (w : World), opsD P callF l l.toList 0 T h = some (T', h') → goodRegion a.tmps.size l true = true →
    Rel P B σ h w → EnvOk σ T a.tmps → Free σ h.next h'.next → (Code.region id l true).wp P (fun e a' w' => e = .normal ∧ End P B σ h w a T' h' a' w') a w

theorem opAtD_cases {all : Array Oper} {o : Oper} {i : Nat} {T T1 : Env} {h h1 : Heap} (ho : opAtD P callF all o i T h = some (T1, h1)) :
    (wanted all T o = some false ∧ T1 = putD T o.dst (.tuple []) ∧ h1 = h) ∨
    (wanted all T o = some true ∧ ∃ v h2, oper P callF o.op T { h with low := h.next } = some (v, h2) ∧ T1 = putD T o.dst v ∧ h.next ≤ h2.next ∧ (h.next ≤ h2.low ∨ loudOk all i = true) ∧
      h1 = { h2 with low := match Nat.ble h.low h2.low with | true => h.low | false => h2.low }) := by
  unfold opAtD at ho
  split at ho
  · cases ho
  · rename_i hw; cases ho; exact .inl ⟨hw, rfl, rfl⟩
  · rename_i hw
    split at ho
    · cases ho
    · rename_i v h2 hr
      split at ho
      · cases ho
      · rename_i hc
        cases ho
        simp only [Bool.and_eq_true, Bool.or_eq_true] at hc
        exact .inr ⟨hw, v, h2, hr, rfl, Nat.le_of_ble_eq_true hc.1, hc.2.imp Nat.le_of_ble_eq_true id, rfl⟩

theorem opsD_cons {all : Array Oper} {o : Oper} {i : Nat} {l : List Oper} {T T' : Env} {h h' : Heap} (ho : opsD P callF all (o :: l) i T h = some (T', h')) :
    ∃ T1 h1, opAtD P callF all o i T h = some (T1, h1) ∧ opsD P callF all l (i + 1) T1 h1 = some (T', h') := by
  change Option.rec none (fun r => Prod.rec (fun T' h' => opsD P callF all l (i + 1) T' h') r) (opAtD P callF all o i T h) = some (T', h') at ho
  cases hx : opAtD P callF all o i T h with
  | none => rw [hx] at ho; cases ho
  | some r => obtain ⟨T1, h1⟩ := r; rw [hx] at ho; exact ⟨T1, h1, rfl, ho⟩

theorem opsD_next {all : Array Oper} : ∀ {l : List Oper} {i : Nat} {T T' : Env} {h h' : Heap}, opsD P callF all l i T h = some (T', h') → h.next ≤ h'.next
  | [], _, T, T', h, h', ho => by cases ho; exact Nat.le_refl _
  | o :: l, _, T, T', h, h', ho => by
    obtain ⟨T1, h1, h2, h3⟩ := opsD_cons ho
    refine Nat.le_trans ?_ (opsD_next h3)
    rcases opAtD_cases h2 with ⟨_, _, rfl⟩ | ⟨_, v, h2, _, _, hn, _, rfl⟩
    · exact Nat.le_refl _
    · exact hn

theorem regionF_cases {l : Array Oper} {draw : Bool} {T T' : Env} {h h' : Heap} {e : AExit} (hr : regionF P callF l draw T h = some (e, T', h')) :
    e = .normal ∧ ((draw = false ∧ ops P callF l l.toList T h = some (T', h')) ∨ (draw = true ∧ opsD P callF l l.toList 0 T h = some (T', h'))) := by
  unfold regionF at hr
  cases draw with
  | false =>
    simp only [] at hr
    cases hx : ops P callF l l.toList T h with
    | none => rw [hx] at hr; cases hr
    | some r => rw [hx] at hr; cases hr; exact ⟨rfl, .inl ⟨rfl, rfl⟩⟩
  | true =>
    simp only [] at hr
    cases hx : opsD P callF l l.toList 0 T h with
    | none => rw [hx] at hr; cases hr
    | some r => rw [hx] at hr; cases hr; exact ⟨rfl, .inr ⟨rfl, rfl⟩⟩

theorem thenF_cases {r : Res} {k : Env → Heap → Res} {e : AExit} {T' : Env} {h' : Heap} (hr : thenF r k = some (e, T', h')) :
    (∃ T1 h1, r = some (.normal, T1, h1) ∧ k T1 h1 = some (e, T', h')) ∨ (e ≠ .normal ∧ r = some (e, T', h')) := by
  cases r with
  | none => cases hr
  | some r =>
    obtain ⟨e1, T1, h1⟩ := r
    cases e1 with
    | normal => exact .inl ⟨T1, h1, rfl, hr⟩
    | exit i => cases hr; exact .inr ⟨by simp, rfl⟩
    | ret => cases hr; exact .inr ⟨by simp, rfl⟩

theorem condF_cases {c : Option AVal} {f g : Env → Heap → Res} {T : Env} {h : Heap} {r : AExit × Env × Heap} (hr : condF c f g T h = some r) :
    (c = some (.bool true) ∧ f T h = some r) ∨ (c = some (.bool false) ∧ g T h = some r) := by
  unfold condF at hr
  split at hr
  · exact .inl ⟨rfl, hr⟩
  · exact .inr ⟨rfl, hr⟩
  · cases hr

theorem blockF_cases {id : Nat} {r : Res} {e : AExit} {T' : Env} {h' : Heap} (hr : blockF id r = some (e, T', h')) :
    (e = .normal ∧ r = some (.exit id, T', h')) ∨ ((∀ i, e = .exit i → i ≠ id) ∧ r = some (e, T', h')) := by
  unfold blockF at hr
  split at hr
  · rename_i i T h
    split at hr
    · rename_i hi
      rw [Nat.beq_eq] at hi
      cases hr
      exact .inl ⟨rfl, by rw [hi]⟩
    · rename_i hi
      cases hr
      refine .inr ⟨fun j hj => ?_, rfl⟩
      cases hj
      intro e
      subst e
      rw [Nat.beq_refl] at hi
      cases hi
  · rename_i hne
    refine .inr ⟨fun i hi => ?_, hr⟩
    subst hi
    exact absurd hr (hne i T' h')

/-- n rounds of a loop. -/
noncomputable def rounds (f : Env → Heap → Res) : Nat → Env → Heap → Res
  | 0 => fun T h => some (.normal, T, h)
  | n + 1 => fun T h => thenF (f T h) (rounds f n)

theorem thenF_assoc (r : Res) (k l : Env → Heap → Res) : thenF (thenF r k) l = thenF r (fun T h => thenF (k T h) l) := by
  cases r with
  | none => rfl
  | some r => obtain ⟨e, T, h⟩ := r; cases e <;> rfl

theorem rounds_add (f : Env → Heap → Res) : ∀ (m n : Nat) (T : Env) (h : Heap), rounds f (m + n) T h = thenF (rounds f m T h) (rounds f n)
  | 0, n, T, h => by rw [Nat.zero_add]; rfl
  | m + 1, n, T, h => by
    have : m + 1 + n = (m + n) + 1 := by omega
    rw [this]
    show thenF (f T h) (rounds f (m + n)) = thenF (thenF (f T h) (rounds f m)) (rounds f n)
    rw [thenF_assoc]
    congr 1
    funext T h
    exact rounds_add f m n T h

theorem rounds_one (f : Env → Heap → Res) (T : Env) (h : Heap) : rounds f 1 T h = f T h := by
  show thenF (f T h) (fun T h => some (.normal, T, h)) = f T h
  cases f T h with
  | none => rfl
  | some r => obtain ⟨e, T, h⟩ := r; cases e <;> rfl

theorem iter_rounds (f : Env → Heap → Res) : ∀ (d : Nat) (T : Env) (h : Heap), iter f d T h = rounds f (2 ^ d) T h
  | 0, T, h => (rounds_one f T h).symm
  | d + 1, T, h => by
    show thenF (iter f d T h) (iter f d) = _
    rw [Nat.pow_succ, Nat.mul_two, rounds_add, iter_rounds f d]
    congr 1
    funext T h
    exact iter_rounds f d T h

theorem upto_rounds (f : Env → Heap → Res) {e : AExit} {T' : Env} {h' : Heap} : ∀ (n k : Nat) (T : Env) (h : Heap), upto f n k T h = some (e, T', h') → e ≠ .normal ∧ ∃ m, rounds f m T h = some (e, T', h')
  | 0, k, T, h, hr => by cases hr
  | n + 1, k, T, h, hr => by
    change thenF (iter f k T h) (upto f n (k + 1)) = some (e, T', h') at hr
    rcases thenF_cases hr with ⟨T1, h1, h2, h3⟩ | ⟨hne, h2⟩
    · obtain ⟨hne, m, hm⟩ := upto_rounds f n (k + 1) T1 h1 h3
      refine ⟨hne, 2 ^ k + m, ?_⟩
      rw [rounds_add, ← iter_rounds, h2]
      exact hm
    · exact ⟨hne, _, by rw [← iter_rounds]; exact h2⟩

theorem least_one {p : Nat → Prop} : ∀ n, p n → ∃ m, p m ∧ ∀ k, p k → m ≤ k := by
  intro n
  induction n using Nat.strongRecOn with
  | _ n ih =>
    intro hn
    by_cases hs : ∃ k, k < n ∧ p k
    · obtain ⟨k, h1, h2⟩ := hs
      exact ih k h1 h2
    · exact ⟨n, hn, fun k hk => Nat.le_of_not_lt fun hlt => hs ⟨k, hlt, hk⟩⟩

/-- A loop that is shown to end by a count of its rounds. -/
theorem wp_loop_count {c : Code} {Q : Exit → Act → World → Prop} (I : Nat → Act → World → Prop)
    (round : ∀ n a w, I n a w → c.wp P (Exit.then (fun a' w' => ∃ m, m < n ∧ I m a' w') Q) a w) (n : Nat) (a : Act) (w : World) (h0 : I n a w) : (Code.loop c).wp P Q a w := by
  classical
  have hex : ∀ a w, ∃ m, (∃ n, I n a w) → I m a w ∧ ∀ k, I k a w → m ≤ k := by
    intro a w
    by_cases hn : ∃ n, I n a w
    · obtain ⟨n, hn⟩ := hn
      obtain ⟨m, h1, h2⟩ := least_one (p := fun n => I n a w) n hn
      exact ⟨m, fun _ => ⟨h1, h2⟩⟩
    · exact ⟨0, fun h => absurd h hn⟩
  let μ : Act → World → Nat := fun a w => Classical.choose (hex a w)
  have hμ : ∀ a w n, I n a w → μ a w ≤ n ∧ I (μ a w) a w := by
    intro a w n hn
    obtain ⟨h1, h2⟩ := Classical.choose_spec (hex a w) ⟨n, hn⟩
    exact ⟨h2 n hn, h1⟩
  refine wp_loop (fun a w => ∃ n, I n a w) μ ⟨n, h0⟩ ?_
  rintro a w ⟨n, hn⟩
  obtain ⟨_, h2⟩ := hμ a w n hn
  refine wp_mono (round _ a w h2) fun e a' w' hq => ?_
  cases e with
  | normal =>
    obtain ⟨m, hm, hI⟩ := hq
    exact ⟨⟨m, hI⟩, Nat.lt_of_le_of_lt (hμ a' w' m hI).1 hm⟩
  | _ => exact hq

/-! ### Code -/

theorem code_next : ∀ (c : Code) {T T' : Env} {h h' : Heap} {e : AExit}, code P callF c T h = some (e, T', h') → h.next ≤ h'.next := by
  intro c
  induction c with
  | skip => intro T T' h h' e hc; cases hc; exact Nat.le_refl _
  | region id l d =>
    intro T T' h h' e hc
    rcases (regionF_cases (show regionF P callF l d T h = some (e, T', h') from hc)).2 with ⟨_, h1⟩ | ⟨_, h1⟩
    · exact ops_next h1
    · exact opsD_next h1
  | seq x y ihx ihy =>
    intro T T' h h' e hc
    rcases thenF_cases (show thenF (code P callF x T h) (code P callF y) = some (e, T', h') from hc) with ⟨T1, h1, h2, h3⟩ | ⟨_, h2⟩
    · exact Nat.le_trans (ihx h2) (ihy h3)
    · exact ihx h2
  | cond c x y ihx ihy =>
    intro T T' h h' e hc
    rcases condF_cases (show condF (eval P T c) (code P callF x) (code P callF y) T h = some (e, T', h') from hc) with ⟨_, h1⟩ | ⟨_, h1⟩
    · exact ihx h1
    · exact ihy h1
  | block id c ih =>
    intro T T' h h' e hc
    rcases blockF_cases (show blockF id (code P callF c T h) = some (e, T', h') from hc) with ⟨_, h1⟩ | ⟨_, h1⟩
    · exact ih h1
    · exact ih h1
  | loop c ih =>
    intro T T' h h' e hc
    obtain ⟨_, m, hm⟩ := upto_rounds (code P callF c) 20 0 T h hc
    clear hc
    induction m generalizing T h with
    | zero => cases hm; exact Nat.le_refl _
    | succ m im =>
      rcases thenF_cases (show thenF (code P callF c T h) (rounds (code P callF c) m) = some (e, T', h') from hm) with ⟨T1, h1, h2, h3⟩ | ⟨_, h2⟩
      · exact Nat.le_trans (ih h2) (im h3)
      · exact ih h2
  | exit id => intro T T' h h' e hc; cases hc; exact Nat.le_refl _
  | ret => intro T T' h h' e hc; cases hc; exact Nat.le_refl _
  | rangeFunc => intro T T' h h' e hc; cases hc
  | scope => intro T T' h h' e hc; cases hc
  | label => intro T T' h h' e hc; cases hc
  | goto => intro T T' h h' e hc; cases hc
  | refuse => intro T T' h h' e hc; cases hc

/-- What the evaluator says of a piece of code. -/
def CodeSound (P : Program) (B : Nat) (callF : FuncId → List AVal → Heap → Option (AVal × Heap)) (c : Code) : Prop :=
  ∀ (T T' : Env) (h h' : Heap) (e : AExit) (σ : Real) (a : Act) (w : World), code P callF c T h = some (e, T', h') → goodCode a.tmps.size c = true → Rel P B σ h w → EnvOk σ T a.tmps → Free σ h.next h'.next →
    c.wp P (fun e' a' w' => e' = e.real ∧ End P B σ h w a T' h' a' w') a w

theorem code_sound (hcall : CallSound P B callF) (hdraw : DrawSound P B callF) : ∀ c, CodeSound P B callF c := by
  intro c
  induction c with
  | skip =>
    intro T T' h h' e σ a w hc _ H hT _
    cases hc
    exact wp_skip ⟨rfl, σ, Post.refl H, hT, rfl, rfl⟩
  | region id l d =>
    intro T T' h h' e σ a w hc hg H hT hf
    obtain ⟨rfl, h1⟩ := regionF_cases (show regionF P callF l d T h = some (e, T', h') from hc)
    have hg' : goodRegion a.tmps.size l d = true := hg
    rcases h1 with ⟨rfl, h1⟩ | ⟨rfl, h1⟩
    · unfold goodRegion at hg'
      rw [Bool.and_eq_true] at hg'
      exact wp_region_list (ops_sound hcall l.toList T h σ a w h1 hg'.1 H hT hf fun a' w' he => ⟨rfl, he⟩)
    · exact hdraw id l T T' h h' σ a w h1 hg' H hT hf
  | seq x y ihx ihy =>
    intro T T' h h' e σ a w hc hg H hT hf
    obtain ⟨hg1, hg2⟩ : goodCode a.tmps.size x = true ∧ goodCode a.tmps.size y = true := by
      have : (goodCode a.tmps.size x && goodCode a.tmps.size y) = true := hg
      simpa using this
    rcases thenF_cases (show thenF (code P callF x T h) (code P callF y) = some (e, T', h') from hc) with ⟨T1, h1, h2, h3⟩ | ⟨hne, h2⟩
    · have hn := code_next y h3
      refine wp_seq (wp_mono (ihx T T1 h h1 .normal σ a w h2 hg1 H hT (hf.sub (Nat.le_refl _) hn)) ?_)
      rintro e1 a1 w1 ⟨rfl, σ1, p1, p2, p3, p4⟩
      refine wp_mono (ihy T1 T' h1 h' e σ1 a1 w1 h3 (by rw [p3]; exact hg2) p1.rel p2 (Free.step hf p1)) ?_
      rintro e2 a2 w2 ⟨rfl, he⟩
      exact ⟨rfl, End.trans hf p1 p3 p4 he⟩
    · refine wp_seq (wp_mono (ihx T T' h h' e σ a w h2 hg1 H hT hf) ?_)
      rintro e1 a1 w1 ⟨rfl, he⟩
      cases e with
      | normal => exact absurd rfl hne
      | exit i => exact ⟨rfl, he⟩
      | ret => exact ⟨rfl, he⟩
  | cond c x y ihx ihy =>
    intro T T' h h' e σ a w hc hg H hT hf
    obtain ⟨hg1, hg2⟩ : goodCode a.tmps.size x = true ∧ goodCode a.tmps.size y = true := by
      have : (goodCode a.tmps.size x && goodCode a.tmps.size y) = true := hg
      simpa using this
    rcases condF_cases (show condF (eval P T c) (code P callF x) (code P callF y) T h = some (e, T', h') from hc) with ⟨h0, h1⟩ | ⟨h0, h1⟩
    · exact wp_cond_true (eval_sound H.glob hT h0).2 (ihx T T' h h' e σ a w h1 hg1 H hT hf)
    · exact wp_cond_false (eval_sound H.glob hT h0).2 (ihy T T' h h' e σ a w h1 hg2 H hT hf)
  | block id c ih =>
    intro T T' h h' e σ a w hc hg H hT hf
    have hg1 : goodCode a.tmps.size c = true := hg
    rcases blockF_cases (show blockF id (code P callF c T h) = some (e, T', h') from hc) with ⟨rfl, h1⟩ | ⟨hne, h1⟩
    · refine wp_block (wp_mono (ih T T' h h' (.exit id) σ a w h1 hg1 H hT hf) ?_)
      rintro e1 a1 w1 ⟨rfl, he⟩
      simp only [AExit.real, Exit.inBlock, if_true]
      exact ⟨trivial, he⟩
    · refine wp_block (wp_mono (ih T T' h h' e σ a w h1 hg1 H hT hf) ?_)
      rintro e1 a1 w1 ⟨rfl, he⟩
      cases e with
      | normal => exact ⟨rfl, he⟩
      | ret => exact ⟨rfl, he⟩
      | exit i =>
        simp only [AExit.real, Exit.inBlock, if_neg (hne i rfl)]
        exact ⟨trivial, he⟩
  | loop c ih =>
    intro T T' h h' e σ a w hc hg H hT hf
    have hg1 : goodCode a.tmps.size c = true := hg
    obtain ⟨hne, m, hm⟩ := upto_rounds (code P callF c) 20 0 T h hc
    refine wp_loop_count (fun n a1 w1 => ∃ T1 h1 σ1, rounds (code P callF c) n T1 h1 = some (e, T', h') ∧ Post P B σ h w σ1 h1 w1 ∧ EnvOk σ1 T1 a1.tmps ∧ a1.tmps.size = a.tmps.size ∧ a1.defers = a.defers) ?_ m a w
      ⟨T, h, σ, hm, Post.refl H, hT, rfl, rfl⟩
    rintro n a1 w1 ⟨T1, h1, σ1, r1, r2, r3, r4, r5⟩
    cases n with
    | zero => cases r1; exact absurd rfl hne
    | succ n =>
      have hf1 := Free.step hf r2
      rcases thenF_cases (show thenF (code P callF c T1 h1) (rounds (code P callF c) n) = some (e, T', h') from r1) with ⟨T2, h2, k1, k2⟩ | ⟨_, k1⟩
      · have hn2 : h2.next ≤ h'.next := by
          clear r1 k1
          induction n generalizing T2 h2 with
          | zero => cases k2; exact Nat.le_refl _
          | succ n im =>
            rcases thenF_cases (show thenF (code P callF c T2 h2) (rounds (code P callF c) n) = some (e, T', h') from k2) with ⟨T3, h3, j1, j2⟩ | ⟨_, j1⟩
            · exact Nat.le_trans (code_next c j1) (im T3 h3 j2)
            · exact code_next c j1
        refine wp_mono (ih T1 T2 h1 h2 .normal σ1 a1 w1 k1 (by rw [r4]; exact hg1) r2.rel r3 (hf1.sub (Nat.le_refl _) hn2)) ?_
        rintro e1 a2 w2 ⟨rfl, σ2, q1, q2, q3, q4⟩
        exact ⟨n, Nat.lt_succ_self n, T2, h2, σ2, k2, Post.trans (hf.sub (Nat.le_refl _) hn2) r2 q1, q2, q3.trans r4, q4.trans r5⟩
      · refine wp_mono (ih T1 T' h1 h' e σ1 a1 w1 k1 (by rw [r4]; exact hg1) r2.rel r3 hf1) ?_
        rintro e1 a2 w2 ⟨rfl, he⟩
        have hend := End.trans hf r2 r4 r5 he
        cases e with
        | normal => exact absurd rfl hne
        | exit i => exact ⟨rfl, hend⟩
        | ret => exact ⟨rfl, hend⟩
  | exit id =>
    intro T T' h h' e σ a w hc _ H hT _
    cases hc
    exact wp_exit ⟨rfl, σ, Post.refl H, hT, rfl, rfl⟩
  | ret =>
    intro T T' h h' e σ a w hc _ H hT _
    cases hc
    exact wp_ret ⟨rfl, σ, Post.refl H, hT, rfl, rfl⟩
  | rangeFunc => intro T T' h h' e σ a w hc; cases hc
  | scope => intro T T' h h' e σ a w hc; cases hc
  | label => intro T T' h h' e σ a w hc; cases hc
  | goto => intro T T' h h' e σ a w hc; cases hc
  | refuse => intro T T' h h' e σ a w hc; cases hc

end Go.Abs

namespace Go.Abs

theorem masksFrom_prefix : ∀ (rest : List Oper) (ms : List Nat), ∃ tl, masksFrom ms rest = ms ++ tl ∧ tl.length = rest.length
  | [], ms => ⟨[], by simp [masksFrom], rfl⟩
  | o :: rest, ms => by
    obtain ⟨tl, h1, h2⟩ := masksFrom_prefix rest (ms ++ [maskOf ms o.after.toList])
    exact ⟨maskOf ms o.after.toList :: tl, by rw [masksFrom, h1]; simp, by simp [h2]⟩

theorem masksFrom_get : ∀ (rest : List Oper) (ms : List Nat) (k : Nat) (o : Oper), rest[k]? = some o →
    (masksFrom ms rest)[ms.length + k]? = some (maskOf ((masksFrom ms rest).take (ms.length + k)) o.after.toList)
  | [], ms, k, o, h => by simp at h
  | x :: rest, ms, 0, o, h => by
    simp only [List.getElem?_cons_zero, Option.some.injEq] at h
    subst h
    obtain ⟨tl, h1, _⟩ := masksFrom_prefix rest (ms ++ [maskOf ms x.after.toList])
    rw [masksFrom, h1]
    simp
  | x :: rest, ms, k + 1, o, h => by
    have := masksFrom_get rest (ms ++ [maskOf ms x.after.toList]) k o (by simpa using h)
    have e : (ms ++ [maskOf ms x.after.toList]).length + k = ms.length + (k + 1) := by simp; omega
    rw [e] at this
    exact this

theorem masks_get {ops : Array Oper} {j : Nat} {o : Oper} (h : ops[j]? = some o) : (masks ops)[j]? = some (maskOf ((masks ops).take j) o.after.toList) := by
  have := masksFrom_get ops.toList [] j o (by simpa using h)
  simpa [masks] using this

theorem maskOf_bit {ms : List Nat} {i : Nat} : ∀ {es : List Edge}, Nat.testBit (maskOf ms es) i = true →
    ∃ e ∈ es, Region.binds .any e = true ∧ ∃ x, ms[e.on]? = some x ∧ (i = e.on ∨ Nat.testBit x i = true)
  | [], h => by simp [maskOf] at h
  | e :: es, h => by
    have ih := maskOf_bit (ms := ms) (i := i) (es := es)
    unfold maskOf at h
    split at h
    · obtain ⟨e', h1, h2⟩ := ih h
      exact ⟨e', by simp [h1], h2⟩
    · rename_i hb
      split at h
      · rename_i x hx
        have h' : ((maskOf ms es ||| x) ||| (1 <<< e.on)).testBit i = true := h
        rw [Nat.testBit_or, Nat.testBit_or, Bool.or_eq_true, Bool.or_eq_true] at h'
        rcases h' with (h' | h') | h'
        · obtain ⟨e', h1, h2⟩ := ih h'
          exact ⟨e', by simp [h1], h2⟩
        · exact ⟨e, by simp, hb, x, hx, .inr h'⟩
        · refine ⟨e, by simp, hb, x, hx, .inl ?_⟩
          rw [Nat.one_shiftLeft, Nat.testBit_two_pow] at h'
          simpa using (of_decide_eq_true h').symm
      · obtain ⟨e', h1, h2⟩ := ih h
        exact ⟨e', by simp [h1], h2⟩

/-- A set of listed operations with each of which all stand that come before it. -/
def Closed (ops : Array Oper) (L : Nat → Prop) : Prop := ∀ j o, ops[j]? = some o → L j → ∀ e ∈ o.after, Region.binds .any e = true → L e.on

theorem ahead_sound {ops : Array Oper} {L : Nat → Prop} (hL : Closed ops L) : ∀ (j i : Nat) (o : Oper), ops[j]? = some o → (∀ e ∈ o.after, Region.binds .any e = true → L e.on) → ahead (masks ops) i j = true → L i := by
  intro j
  induction j using Nat.strongRecOn with
  | _ j ih =>
    intro i o ho he ha
    unfold ahead at ha
    rw [masks_get ho] at ha
    simp only [] at ha
    obtain ⟨e, h1, h2, x, h3, h4⟩ := maskOf_bit ha
    have hLe := he e (by simpa using h1) h2
    rcases h4 with rfl | h4
    · exact hLe
    · rw [List.getElem?_take] at h3
      split at h3
      · rename_i hlt
        cases hoe : ops[e.on]? with
        | none =>
          have hlen : (masks ops).length = ops.size := by
            obtain ⟨tl, m1, m2⟩ := masksFrom_prefix ops.toList []
            unfold masks
            rw [m1]
            simpa using m2
          have := (List.getElem?_eq_some_iff.1 h3).1
          rw [hlen] at this
          rw [Array.getElem?_eq_none_iff] at hoe
          omega
        | some o' =>
          exact ih e.on hlt i o' hoe (hL e.on o' hoe hLe) (by unfold ahead; rw [h3]; exact h4)
      · cases h3

theorem apartFrom_get {ops : Array Oper} {ms : List Nat} {x : Oper} {i : Nat} : ∀ (rest : List Oper) (j : Nat), apartFrom ops ms x i j rest = true → ∀ k y, rest[k]? = some y → x.apart ops y = true ∨ ahead ms i (j + k) = true
  | [], j, _, k, y, hy => by simp at hy
  | z :: rest, j, h, k, y, hy => by
    unfold apartFrom at h
    simp only [Bool.and_eq_true, Bool.or_eq_true] at h
    cases k with
    | zero => cases hy; exact h.1
    | succ k =>
      have := apartFrom_get rest (j + 1) h.2 k y (by simpa using hy)
      rwa [show j + 1 + k = j + (k + 1) by omega] at this

theorem apartAll_get {ops : Array Oper} {ms : List Nat} : ∀ (rest : List Oper) (b : Nat), apartAll ops ms b rest = true → ∀ i k x y, rest[i]? = some x → rest[k]? = some y → i < k → x.apart ops y = true ∨ ahead ms (b + i) (b + k) = true
  | [], b, _, i, k, x, y, hx, _, _ => by simp at hx
  | z :: rest, b, h, i, k, x, y, hx, hy, hlt => by
    unfold apartAll at h
    rw [Bool.and_eq_true] at h
    obtain ⟨k, rfl⟩ : ∃ k', k = k' + 1 := ⟨k - 1, by omega⟩
    cases i with
    | zero =>
      cases hx
      have := apartFrom_get rest (b + 1) h.1 k y (by simpa using hy)
      rw [show b + 1 + k = b + (k + 1) by omega] at this
      simpa using this
    | succ i =>
      have := apartAll_get rest (b + 1) h.2 i k x y (by simpa using hx) (by simpa using hy) (by omega)
      rwa [show b + 1 + i = b + (i + 1) by omega, show b + 1 + k = b + (k + 1) by omega] at this

theorem edgesBack_get : ∀ (rest : List Oper) (b : Nat), edgesBack b rest = true → ∀ k o, rest[k]? = some o → ∀ e ∈ o.after, Region.binds .any e = true → e.on < b + k
  | [], b, _, k, o, ho, _, _, _ => by simp at ho
  | z :: rest, b, h, k, o, ho, e, he, hb => by
    unfold edgesBack at h
    rw [Bool.and_eq_true] at h
    cases k with
    | zero =>
      cases ho
      have := List.all_eq_true.1 h.1 e (by simpa using he)
      rw [hb] at this
      simpa using this
    | succ k =>
      have := edgesBack_get rest (b + 1) h.2 k o (by simpa using ho) e he hb
      omega

theorem loudFrom_get {ms : List Nat} {l : Nat} : ∀ (rest : List Oper) (b : Nat), loudFrom ms l b rest = true → ∀ k o, rest[k]? = some o → quietOp o.op = false → b + k ≠ l → (b + k < l → ahead ms (b + k) l = true) ∧ (l < b + k → ahead ms l (b + k) = true)
  | [], b, _, k, o, ho, _, _ => by simp at ho
  | z :: rest, b, h, k, o, ho, hq, hne => by
    unfold loudFrom at h
    rw [Bool.and_eq_true] at h
    cases k with
    | zero =>
      cases ho
      have h1 := h.1
      rw [hq] at h1
      have hbl : Nat.beq b l = false := by
        cases hx : Nat.beq b l
        · rfl
        · exact absurd (by rw [Nat.beq_eq] at hx; omega) hne
      rw [hbl] at h1
      simp only [Bool.false_or] at h1
      cases hle : Nat.ble b l
      · rw [hle] at h1
        have : ¬ b ≤ l := fun hh => by rw [Nat.ble_eq_true_of_le hh] at hle; cases hle
        exact ⟨fun _ => by omega, fun _ => h1⟩
      · rw [hle] at h1
        have := Nat.le_of_ble_eq_true hle
        exact ⟨fun _ => h1, fun _ => by omega⟩
    | succ k =>
      have := loudFrom_get rest (b + 1) h.2 k o (by simpa using ho) hq (by omega)
      rwa [show b + 1 + k = b + (k + 1) by omega] at this

end Go.Abs

namespace Go.Abs
variable {P : Program} {B : Nat} {callF : FuncId → List AVal → Heap → Option (AVal × Heap)}

/-- What is asked of a reader of results: a slot is read as it stands, a cell from memory. -/
structure ReadsOut (P : Program) (w : World) (tmps : Array Value) (g : ResultVar → Sem Value) : Prop where
  slot : ∀ (t : Tmp) (v : Value), tmps.getD t undef = v → (g (.tmp t)).run P w = .ok v w
  cell : ∀ (c : Tmp) (t : TypeId) (a : Addr) (v : Value), tmps.getD c undef = .pointer (some a) → (loadVar t a).run P w = .ok v w → (g (.cell c t)).run P w = .ok v w

theorem resultsOf_ok {σ : Real} {h : Heap} {w : World} (H : Rel P B σ h w) {T : Env} {tmps : Array Value} (hT : EnvOk σ T tmps) : ∀ {rs : List ResultVar} {vs : List AVal}, resultsOf P T h rs = some vs → okvs σ vs
  | [], vs, hr => by cases hr; exact trivial
  | .tmp t :: rs, vs, hr => by
    simp only [resultsOf, Option.bind_eq_some_iff, Option.map_eq_some_iff] at hr
    obtain ⟨v, hv, us, hu, rfl⟩ := hr
    exact ⟨(hT.val t v hv).1, resultsOf_ok H hT hu⟩
  | .cell c t :: rs, vs, hr => by
    simp only [resultsOf, Option.bind_eq_some_iff, Option.map_eq_some_iff] at hr
    obtain ⟨p, hp, v, hv, us, hu, rfl⟩ := hr
    exact ⟨(load_sound H (hT.val c p hp).1 hv).2, resultsOf_ok H hT hu⟩

theorem resultsOf_sound {σ : Real} {h : Heap} {w : World} (H : Rel P B σ h w) {T : Env} {tmps : Array Value} (hT : EnvOk σ T tmps) {g : ResultVar → Sem Value} (hg : ReadsOut P w tmps g) : ∀ {rs : List ResultVar} {vs : List AVal}, resultsOf P T h rs = some vs → (rs.mapM g).run P w = .ok (concs σ vs) w
  | [], vs, hr => by cases hr; rfl
  | .tmp t :: rs, vs, hr => by
    simp only [resultsOf, Option.bind_eq_some_iff, Option.map_eq_some_iff] at hr
    obtain ⟨v, hv, us, hu, rfl⟩ := hr
    obtain ⟨e1, e2⟩ := hT.val t v hv
    have f2 := resultsOf_sound H hT hg hu
    simp only [List.mapM_cons, Sem.run_bind, hg.slot t _ e2, Result.andThen_ok, f2, Sem.run_pure, concs]
  | .cell c t :: rs, vs, hr => by
    simp only [resultsOf, Option.bind_eq_some_iff, Option.map_eq_some_iff] at hr
    obtain ⟨p, hp, v, hv, us, hu, rfl⟩ := hr
    obtain ⟨e1, e2⟩ := hT.val c p hp
    have f2 := resultsOf_sound H hT hg hu
    obtain ⟨l1, l2⟩ := load_sound H e1 hv
    have hshape : ∃ q, p = .ptr (some q) := by
      unfold load at hv
      split at hv
      · exact ⟨_, rfl⟩
      · cases hv
    obtain ⟨q, rfl⟩ := hshape
    obtain ⟨b, hb, _⟩ := e1
    have hc : conc σ (.ptr (some q)) = .pointer (some (b.at q.off)) := by simp only [conc, hb, Option.map_some]
    rw [hc] at l1 e2
    have l1' : (loadVar t (b.at q.off)).run P w = .ok (conc σ v) w := l1
    simp only [List.mapM_cons, Sem.run_bind, hg.cell c t _ _ e2 l1', Result.andThen_ok, f2, Sem.run_pure, concs]

theorem results_sound {σ : Real} {h : Heap} {w : World} (H : Rel P B σ h w) {T : Env} {tmps : Array Value} (hT : EnvOk σ T tmps) {fn : Func} {v : AVal} (hr : resultOf P fn T h = some v) :
    (results fn tmps).run P w = .ok (conc σ v) w ∧ okv σ v := by
  unfold resultOf at hr
  simp only [Option.map_eq_some_iff] at hr
  obtain ⟨vs, hvs, hr⟩ := hr
  have hm : ∀ g : ResultVar → Sem Value, ReadsOut P w tmps g → (fn.results.mapM g).run P w = .ok (concs σ vs).toArray w := by
    intro g hg
    rw [Array.mapM_eq_mapM_toList, map_eq_pure_bind, Sem.run_bind, resultsOf_sound H hT hg hvs]
    rfl
  have e1 : okvs σ vs := resultsOf_ok H hT hvs
  unfold results
  rw [Sem.run_bind, hm _ ⟨fun t v hv => by simp only [Sem.run_pure, hv], fun c t a v hc hl => by simp only [hc, asAddr, Sem.run_bind, Sem.run_pure, Result.andThen_ok, hl]⟩]
  simp only [Result.andThen_ok]
  match vs, hr, e1 with
  | [u], hr, e1 => cases hr; exact ⟨rfl, e1.1⟩
  | [], hr, e1 => cases hr; exact ⟨rfl, trivial⟩
  | u :: u2 :: us, hr, e1 => cases hr; exact ⟨rfl, e1⟩

theorem enter_ok {σ : Real} {args : List AVal} (n : Nat) (hargs : okvs σ args) : EnvOk σ (enter args) ((concs σ args).toArray ++ Array.replicate n undef) := by
  have key : ∀ (l : List AVal) (i : Nat) (T : Env), N4.deep 4 T → N4.deep 4 (enterAt i l T) ∧ ∀ t v, (enterAt i l T).get t = some v → T.get t = some v ∧ t < i ∨ T.get t = some v ∧ i ≤ t ∨ ∃ j, t = i + j ∧ l[j]? = some v := by
    intro l
    induction l with
    | nil => intro i T hd; exact ⟨hd, fun t v hv => by rcases Nat.lt_or_ge t i with h | h; exact .inl ⟨hv, h⟩; exact .inr (.inl ⟨hv, h⟩)⟩
    | cons x l ih =>
      intro i T hd
      obtain ⟨d1, d2⟩ := ih (i + 1) (T.set i x) (N4.deep_set hd _ _)
      refine ⟨d1, fun t v hv => ?_⟩
      have aux : (T.set i x).get t = some v → (T.get t = some v ∧ t < i) ∨ (T.get t = some v ∧ i ≤ t) ∨ ∃ j, t = i + j ∧ (x :: l)[j]? = some v := by
        intro hg
        rw [N4.get_set _ hd] at hg
        by_cases ht : t = i
        · rw [if_pos ht] at hg
          split at hg
          · exact .inr (.inr ⟨0, by omega, hg⟩)
          · cases hg
        · rw [if_neg ht] at hg
          rcases Nat.lt_or_ge t i with h | h
          · exact .inl ⟨hg, h⟩
          · exact .inr (.inl ⟨hg, h⟩)
      rcases d2 t v hv with ⟨h1, _⟩ | ⟨h1, _⟩ | ⟨j, h1, h2⟩
      · exact aux h1
      · exact aux h1
      · exact .inr (.inr ⟨j + 1, by omega, h2⟩)
  obtain ⟨d1, d2⟩ := key args 0 .leaf (N4.deep_leaf 4)
  refine ⟨d1, fun t v hv => ?_⟩
  have hnone : N4.get (N4.leaf : Env) t = none := N4.get_leaf t
  rcases d2 t v hv with ⟨h1, _⟩ | ⟨h1, _⟩ | ⟨j, h1, h2⟩
  · rw [hnone] at h1; cases h1
  · rw [hnone] at h1; cases h1
  · obtain rfl : t = j := by omega
    have hlt := (List.getElem?_eq_some_iff.1 h2).1
    refine ⟨okvs_iff.1 hargs v (List.mem_iff_getElem?.2 ⟨_, h2⟩), ?_⟩
    have : ((concs σ args).toArray ++ Array.replicate n undef)[t]? = some (conc σ v) := by
      rw [Array.getElem?_append_left (by simpa [concs_length] using hlt)]
      simp [concs_eq, h2]
    rw [Array.getD_eq_getD_getElem?, this]
    rfl

theorem dstOk_mono {m n : Nat} (h : m ≤ n) {o : Oper} (ho : dstOk m o = true) : dstOk n o = true := by
  unfold dstOk at ho ⊢
  split at ho
  · rename_i d hd
    simp only [Nat.blt_eq] at ho ⊢
    omega
  · rfl

theorem goodCode_mono {m n : Nat} (h : m ≤ n) : ∀ c, goodCode m c = true → goodCode n c = true := by
  intro c
  induction c with
  | region id l d =>
    intro hg
    have hg' : goodRegion m l d = true := hg
    show goodRegion n l d = true
    unfold goodRegion at hg' ⊢
    rw [Bool.and_eq_true] at hg' ⊢
    exact ⟨List.all_eq_true.2 fun o ho => dstOk_mono h (List.all_eq_true.1 hg'.1 o ho), hg'.2⟩
  | seq x y ihx ihy =>
    intro hg
    have hg' : (goodCode m x && goodCode m y) = true := hg
    show (goodCode n x && goodCode n y) = true
    rw [Bool.and_eq_true] at hg' ⊢
    exact ⟨ihx hg'.1, ihy hg'.2⟩
  | cond c x y ihx ihy =>
    intro hg
    have hg' : (goodCode m x && goodCode m y) = true := hg
    show (goodCode n x && goodCode n y) = true
    rw [Bool.and_eq_true] at hg' ⊢
    exact ⟨ihx hg'.1, ihy hg'.2⟩
  | block id c ih => exact ih
  | loop c ih => exact ih
  | _ => intro _; rfl

/-- The evaluator of calls, and the model's calls. -/
theorem callStep_sound {ok : Nat} (hgood : ∀ f, Nat.testBit ok f = true → ∀ fn, P.funcs[f]? = some fn → goodFunc fn = true) (ih : CallSound P B callF) (hdraw : DrawSound P B callF) :
    CallSound P B (callStep P ok callF) := by
    intro f args h v h' σ w o a K Q hc H hargs hfree hK
    unfold callStep at hc
    split at hc
    · cases hc
    · rename_i hbit
      split at hc
      · cases hc
      · rename_i fn hf
        have hgf := hgood f hbit fn hf
        unfold goodFunc at hgf
        simp only [Bool.and_eq_true, Bool.not_eq_true'] at hgf
        obtain ⟨hname, hg⟩ := hgf
        split at hc
        · rename_i hb
          obtain ⟨σ', w', r1, r2, r3⟩ := extern_sound H hf hname hb hfree hc hargs
          rw [r1]
          exact hK σ' w' r2 r3
        · rename_i c hb
          rw [hb] at hg
          simp only [] at hg
          have h1 : fn.name ≠ "runtime.NumGoroutine" := by simpa using hname
          have hcf : (callFunc f (concs σ args).toArray).run P w = .ok (.enter f (concs σ args).toArray) w := by
            simp [callFunc, hf, h1, hb]
          rw [hcf, Oper.upon_enter]
          refine calls_of_wp hf hb ?_
          generalize hA : ({ tmps := (concs σ args).toArray ++ Array.replicate (fn.ntmps - (concs σ args).toArray.size) undef, defers := [] } : Act) = A
          have hAt : A.tmps = (concs σ args).toArray ++ Array.replicate (fn.ntmps - (concs σ args).toArray.size) undef := by rw [← hA]
          have hAd : A.defers = [] := by rw [← hA]
          have hT : EnvOk σ (enter args) A.tmps := by rw [hAt]; exact enter_ok _ hargs
          have hgA : goodCode A.tmps.size c = true := goodCode_mono (by rw [hAt]; simp; omega) c hg
          unfold finish at hc
          split at hc
          · rename_i T h2 hr
            simp only [Option.map_eq_some_iff] at hc
            obtain ⟨u, hu, hc⟩ := hc
            cases hc
            refine wp_mono (code_sound ih hdraw c _ _ _ _ _ σ A w hr hgA H hT hfree) ?_
            rintro e a' w' ⟨rfl, σ', p1, p2, p3, p4⟩
            obtain ⟨s1, s2⟩ := results_sound p1.rel p2 hu
            exact ⟨p4.trans hAd, _, s1, hK σ' w' s2 p1⟩
          · rename_i T h2 hr
            simp only [Option.map_eq_some_iff] at hc
            obtain ⟨u, hu, hc⟩ := hc
            cases hc
            refine wp_mono (code_sound ih hdraw c _ _ _ _ _ σ A w hr hgA H hT hfree) ?_
            rintro e a' w' ⟨rfl, σ', p1, p2, p3, p4⟩
            obtain ⟨s1, s2⟩ := results_sound p1.rel p2 hu
            exact ⟨p4.trans hAd, _, s1, hK σ' w' s2 p1⟩
          · cases hc

theorem call_sound {ok : Nat} (hgood : ∀ f, Nat.testBit ok f = true → ∀ fn, P.funcs[f]? = some fn → goodFunc fn = true) (hdraw : ∀ callF, CallSound P B callF → DrawSound P B callF) :
    ∀ d, CallSound P B (call P ok d) := by
  intro d
  induction d with
  | zero => intro f args h v h' σ w o a K Q hc; cases hc
  | succ d ih => exact callStep_sound hgood ih (hdraw _ ih)

end Go.Abs

namespace Go.Abs
variable {P : Program} {B : Nat} {callF : FuncId → List AVal → Heap → Option (AVal × Heap)}

/-! ### Quiet operations -/

theorem ret_bind {α : Type} (x : Option α) (f : α → Option AVal) (h : Heap) : (x.bind fun a => ret (f a) h) = ret (x.bind f) h := by cases x <;> rfl

theorem binOp_still {op : BinOp} (h1 : op ≠ .eql) (h2 : op ≠ .neq) (t : TypeId) (x y : Operand) (a b : AVal) (h h' : Heap) : binOp P op t x y a b h = binOp P op t x y a b h' := by
  cases op <;> first | rfl | exact absurd rfl h1 | exact absurd rfl h2

theorem quiet_form {op : Op} (hq : quietOp op = true) (T : Env) : ∃ r, ∀ h, oper P callF op T h = ret r h := by
  cases op with
  | move x => exact ⟨eval P T x, fun h => by show at_move P x T h = _; unfold at_move; cases eval P T x <;> rfl⟩
  | assign x => exact ⟨eval P T x, fun h => by show at_move P x T h = _; unfold at_move; cases eval P T x <;> rfl⟩
  | pick c x y =>
    cases hc : eval P T c with
    | none => exact ⟨none, fun h => by show at_pick P c x y T h = _; unfold at_pick; rw [hc]; rfl⟩
    | some u =>
      cases u with
      | bool b =>
        cases b with
        | true => exact ⟨eval P T x, fun h => by show at_pick P c x y T h = _; unfold at_pick; rw [hc]⟩
        | false => exact ⟨eval P T y, fun h => by show at_pick P c x y T h = _; unfold at_pick; rw [hc]⟩
      | _ => exact ⟨none, fun h => by show at_pick P c x y T h = _; unfold at_pick; rw [hc]; rfl⟩
  | build t ps => exact ⟨(parts? P T ps.toList).bind fun ps => build P t ps, fun h => ret_bind _ _ h⟩
  | nilCheck x =>
    cases hx : eval P T x with
    | none => exact ⟨none, fun h => by show at_nilCheck P x T h = _; unfold at_nilCheck; rw [hx]; rfl⟩
    | some u =>
      cases u with
      | ptr p => cases p with
        | none => exact ⟨none, fun h => by show at_nilCheck P x T h = _; unfold at_nilCheck; rw [hx]; rfl⟩
        | some p => exact ⟨some (.ptr (some p)), fun h => by show at_nilCheck P x T h = _; unfold at_nilCheck; rw [hx]; rfl⟩
      | slice p n c => exact ⟨some (.slice p n c), fun h => by show at_nilCheck P x T h = _; unfold at_nilCheck; rw [hx]; rfl⟩
      | _ => exact ⟨none, fun h => by show at_nilCheck P x T h = _; unfold at_nilCheck; rw [hx]; rfl⟩
  | binOp bop t x y yt =>
    have h1 : bop ≠ .eql := fun e => by subst e; cases hq
    have h2 : bop ≠ .neq := fun e => by subst e; cases hq
    refine ⟨(eval P T x).bind fun a => (eval P T y).bind fun b => binOp P bop t x y a b ⟨.leaf, 0, 0⟩, fun h => ?_⟩
    show at_binOp P bop t x y T h = _
    unfold at_binOp
    cases eval P T x with
    | none => rfl
    | some a => cases eval P T y with
      | none => rfl
      | some b => show ret (binOp P bop t x y a b h) h = ret (binOp P bop t x y a b ⟨.leaf, 0, 0⟩) h; rw [binOp_still h1 h2 t x y a b h ⟨.leaf, 0, 0⟩]
  | unOp uop t x => exact ⟨(eval P T x).bind fun a => unOp uop a, fun h => ret_bind _ _ h⟩
  | makeInterface t x =>
    cases hx : eval P T x with
    | none => exact ⟨none, fun h => by show at_makeInterface P t x T h = _; unfold at_makeInterface; rw [hx]; rfl⟩
    | some u =>
      cases hu : P.underlying t with
      | none => exact ⟨none, fun h => by show at_makeInterface P t x T h = _; unfold at_makeInterface; rw [hx, hu]; rfl⟩
      | some d =>
        cases d with
        | interface m => exact ⟨none, fun h => by show at_makeInterface P t x T h = _; unfold at_makeInterface; rw [hx, hu]; rfl⟩
        | _ => exact ⟨some (.iface t u), fun h => by show at_makeInterface P t x T h = _; unfold at_makeInterface; rw [hx, hu]; rfl⟩
  | makeFunc fn first cap =>
    refine ⟨(evals P T first.toList).bind fun a => (evals P T cap.toList).bind fun b => some (.func fn a b), fun h => ?_⟩
    show at_makeFunc P fn first cap T h = _
    unfold at_makeFunc
    cases evals P T first.toList with
    | none => rfl
    | some a => cases evals P T cap.toList <;> rfl
  | fieldAddr s x i => exact ⟨(eval P T x).bind fun x => fieldAddr P s x i, fun h => ret_bind _ _ h⟩
  | field s x i => exact ⟨(eval P T x).bind fun x => fieldOf P s x i, fun h => ret_bind _ _ h⟩
  | indexAddr t x y =>
    refine ⟨(eval P T x).bind fun x => (eval P T y).bind fun i => indexAddr P t x i, fun h => ?_⟩
    show at_indexAddr P t x y T h = _
    unfold at_indexAddr
    cases eval P T x with
    | none => rfl
    | some a => exact ret_bind _ _ h
  | index t x y =>
    refine ⟨(eval P T x).bind fun x => (eval P T y).bind fun i => index P t x i, fun h => ?_⟩
    show at_index P t x y T h = _
    unfold at_index
    cases eval P T x with
    | none => rfl
    | some a => exact ret_bind _ _ h
  | extract x i => exact ⟨(eval P T x).bind fun x => extract x i, fun h => ret_bind _ _ h⟩
  | _ => cases hq

theorem quiet_oper {op : Op} (hq : quietOp op = true) {T : Env} {h h' : Heap} {v : AVal} (ho : oper P callF op T h = some (v, h')) : h' = h ∧ ∀ h2, oper P callF op T h2 = some (v, h2) := by
  obtain ⟨r, hr⟩ := quiet_form (P := P) (callF := callF) hq T
  rw [hr] at ho
  obtain ⟨rfl, rfl⟩ := ret_some ho
  exact ⟨rfl, fun h2 => by rw [hr]; rfl⟩

/-! ### The states of a region, one by one -/

theorem wp_some {o : Oper} {a : Act} {w : World} {K : Act → World → Prop} (h : o.wp P a w K (fun _ _ _ => False)) : ∃ a' w', K a' w' := by
  unfold Oper.wp at h
  generalize (execOp a.eval o).run P w = r at h
  cases r with
  | ok n w' =>
    cases n with
    | value v => exact ⟨_, _, h⟩
    | skip => exact ⟨_, _, h⟩
    | defer d => exact ⟨_, _, h⟩
    | enter f args =>
      obtain ⟨e, w2, fr, hR, _⟩ := h []
      cases e with
      | returned v => exact ⟨_, _, hR⟩
      | panicked c => exact hR.elim
      | outgrown => obtain ⟨_, _, hf⟩ := hR; exact hf.elim
    | row r args =>
      obtain ⟨v, w2, hR, _⟩ := h default []
      exact ⟨_, _, hR⟩
    | _ => exact h.elim
  | halt x w' =>
    cases x with
    | panic v => exact h.elim
    | _ => exact h.elim

theorem trace_of {all : Array Oper} : ∀ (ls : List Oper) (i : Nat) (T T' : Env) (h h' : Heap), opsD P callF all ls i T h = some (T', h') →
    ∃ (Ts : Nat → Env) (hs : Nat → Heap), Ts i = T ∧ hs i = h ∧ Ts (i + ls.length) = T' ∧ hs (i + ls.length) = h' ∧
      ∀ k o, ls[k]? = some o → opAtD P callF all o (i + k) (Ts (i + k)) (hs (i + k)) = some (Ts (i + k + 1), hs (i + k + 1))
  | [], i, T, T', h, h', ho => by
    cases ho
    exact ⟨fun _ => T, fun _ => h, rfl, rfl, rfl, rfl, fun k o hk => by simp at hk⟩
  | o :: ls, i, T, T', h, h', ho => by
    obtain ⟨T1, h1, k1, k2⟩ := opsD_cons ho
    obtain ⟨Ts, hs, e1, e2, e3, e4, e5⟩ := trace_of ls (i + 1) T1 T' h1 h' k2
    have hlen : i + (o :: ls).length = i + 1 + ls.length := by simp; omega
    refine ⟨fun q => if q = i then T else Ts q, fun q => if q = i then h else hs q, by simp, by simp, ?_, ?_, ?_⟩
    · simp only []; rw [if_neg (by simp), hlen]; exact e3
    · simp only []; rw [if_neg (by simp), hlen]; exact e4
    · intro k x hx
      cases k with
      | zero =>
        cases hx
        simp only [Nat.add_zero, if_true]
        rw [if_neg (by omega), if_neg (by omega), e1, e2]
        exact k1
      | succ k =>
        have := e5 k x (by simpa using hx)
        simp only []
        rw [if_neg (by omega), if_neg (by omega), if_neg (by omega), if_neg (by omega)]
        rw [show i + (k + 1) = i + 1 + k by omega]
        exact this

structure HOk (h : Heap) : Prop where
  deep : N4.deep 8 h.objs
  dom : ∀ f, h.next ≤ f → h.obj f = none
  full : ∀ f c, h.obj f = some (.cells c) → CWf c

theorem Rel.hok {σ : Real} {h : Heap} {w : World} (H : Rel P B σ h w) : HOk h := ⟨H.deep, H.dom, H.full⟩

/-- All that was there before is as it was. -/
def Soft (h h' : Heap) : Prop := ∀ f, f < h.next → h'.obj f = h.obj f

/-- The step leaves alone all that was there, and the evaluator has seen so. -/
def Still (P : Program) (callF : FuncId → List AVal → Heap → Option (AVal × Heap)) (l : Array Oper) (Ts : Nat → Env) (hs : Nat → Heap) (q : Nat) : Prop :=
  Soft (hs q) (hs (q + 1)) ∧ ∀ (o : Oper) (v : AVal) (h2 : Heap), l[q]? = some o → wanted l (Ts q) o = some true → oper P callF o.op (Ts q) { hs q with low := (hs q).next } = some (v, h2) → (hs q).next ≤ h2.low

/-- The states of a region that is run in the order in which it stands. -/
structure Run (P : Program) (callF : FuncId → List AVal → Heap → Option (AVal × Heap)) (l : Array Oper) (N : Nat) (Ts : Nat → Env) (hs : Nat → Heap) : Prop where
  step : ∀ q o, l[q]? = some o → opAtD P callF l o q (Ts q) (hs q) = some (Ts (q + 1), hs (q + 1))
  good : goodRegion N l true = true
  deepT : ∀ q, q ≤ l.size → N4.deep 4 (Ts q)
  ok : ∀ q, q ≤ l.size → HOk (hs q)
  next : ∀ q, q < l.size → (hs q).next ≤ (hs (q + 1)).next
  low : ∀ q, q < l.size → (hs (q + 1)).low ≤ (hs q).low
  keep : ∀ q, q < l.size → ∀ f, f < (hs q).next → (hs (q + 1)).writable f = (hs q).writable f
  soft : ∀ q, q < l.size → ∀ f, f < (hs q).next → f < (hs (q + 1)).low → (hs (q + 1)).obj f = (hs q).obj f
  loud : ∀ q o, l[q]? = some o → Still P callF l Ts hs q ∨ (loudOk l q = true ∧ quietOp o.op = false ∧ wanted l (Ts q) o = some true)

theorem low_step {a b : Nat} : (match Nat.ble a b with | true => a | false => b) ≤ a ∧ (match Nat.ble a b with | true => a | false => b) ≤ b ∧ (∀ c, c ≤ a → c ≤ b → c ≤ (match Nat.ble a b with | true => a | false => b)) := by
  cases h : Nat.ble a b
  · have : ¬ a ≤ b := fun hh => by rw [Nat.ble_eq_true_of_le hh] at h; cases h
    exact ⟨by simp only []; omega, Nat.le_refl _, fun c _ h2 => h2⟩
  · have := Nat.le_of_ble_eq_true h
    exact ⟨Nat.le_refl _, this, fun c h1 _ => h1⟩

theorem run_of (hcall : CallSound P B callF) {l : Array Oper} {T T' : Env} {h h' : Heap} {σ : Real} {a : Act} {w : World} (ho : opsD P callF l l.toList 0 T h = some (T', h')) (hg : goodRegion a.tmps.size l true = true)
    (H : Rel P B σ h w) (hT : EnvOk σ T a.tmps) (hf : Free σ h.next h'.next) :
    ∃ Ts hs, Run P callF l a.tmps.size Ts hs ∧ Ts 0 = T ∧ hs 0 = h ∧ Ts l.size = T' ∧ hs l.size = h' := by
  obtain ⟨Ts, hs, e1, e2, e3, e4, e5⟩ := trace_of l.toList 0 T T' h h' ho
  have hsize : 0 + l.toList.length = l.size := by simp
  rw [hsize] at e3 e4
  have step : ∀ (q : Nat) (o : Oper), l[q]? = some o → opAtD P callF l o q (Ts q) (hs q) = some (Ts (q + 1), hs (q + 1)) := by
    intro q o hq
    have := e5 q o (by simpa using hq)
    simpa using this
  have next : ∀ q, q < l.size → (hs q).next ≤ (hs (q + 1)).next := by
    intro q hq
    obtain ⟨o, hoq⟩ : ∃ o, l[q]? = some o := ⟨l[q], by simp [hq]⟩
    rcases opAtD_cases (step q o hoq) with ⟨_, _, e⟩ | ⟨_, v, h2, _, _, hn, _, e⟩
    · rw [e]; exact Nat.le_refl _
    · rw [e]; exact hn
  have nexts : ∀ d q, q + d = l.size → (hs q).next ≤ (hs l.size).next := by
    intro d
    induction d with
    | zero => intro q hq; rw [show q = l.size by omega]; exact Nat.le_refl _
    | succ d ih => intro q hq; exact Nat.le_trans (next q (by omega)) (ih (q + 1) (by omega))
  have hdst : ∀ (q : Nat) (o : Oper), l[q]? = some o → dstOk a.tmps.size o = true := by
    intro q o hq
    unfold goodRegion at hg
    rw [Bool.and_eq_true] at hg
    exact List.all_eq_true.1 hg.1 o (by simpa using List.mem_of_getElem? (by simpa using hq : l.toList[q]? = some o))
  -- the states, and what a step of them is
  have key : ∀ q, q ≤ l.size → ∃ (σq : Real) (wq : World) (aq : Act), Rel P B σq (hs q) wq ∧ EnvOk σq (Ts q) aq.tmps ∧ Free σq (hs q).next (hs l.size).next ∧ aq.tmps.size = a.tmps.size := by
    intro q
    induction q with
    | zero => intro _; exact ⟨σ, w, a, by rw [e2]; exact H, by rw [e1]; exact hT, by rw [e2, e4]; exact hf, rfl⟩
    | succ q ih =>
      intro hq
      obtain ⟨σq, wq, aq, k1, k2, k3, k4⟩ := ih (by omega)
      obtain ⟨o, hoq⟩ : ∃ o, l[q]? = some o := ⟨l[q], by simp⟩
      have hd := dst_lt (hdst q o hoq)
      have hnl := nexts (l.size - (q + 1)) (q + 1) (by omega)
      rcases opAtD_cases (step q o hoq) with ⟨_, eT, eh⟩ | ⟨_, v, h2, hop, eT, hn, _, eh⟩
      · refine ⟨σq, wq, aq.put o.dst undef, by rw [eh]; exact k1, ?_, by rw [eh]; exact k3, by rw [size_put]; exact k4⟩
        rw [eT]
        exact k2.putD (v := .tuple []) (fun d hd' => by rw [k4]; exact hd d hd') trivial
      · have hnx : h2.next = (hs (q + 1)).next := by rw [eh]
        obtain ⟨a2, w2, σ2, h3, h4, h5⟩ := wp_some (op_sound (K := fun a' w' => ∃ σ', okv σ' v ∧ Post P B σq { hs q with low := (hs q).next } wq σ' h2 w' ∧ a' = aq.put o.dst (conc σ' v)) (a := aq) (w := wq) hcall (k1.low (hs q).next)
          (k3.sub (Nat.le_refl _) (by rw [hnx]; exact hnl)) (fun x _ => fun u hu => eval_sound k1.glob k2 hu) hop (fun σ' w' hv hp => ⟨σ', hv, hp, rfl⟩))
        subst h5
        refine ⟨σ2, w2, aq.put o.dst (conc σ2 v), by rw [eh]; exact h4.rel.low _, ?_, ?_, by rw [size_put]; exact k4⟩
        · rw [eT]
          exact (k2.ext h4.ext).putD (fun d hd' => by rw [k4]; exact hd d hd') h3
        · have := Free.step (P := P) (B := B) (h := { hs q with low := (hs q).next }) (σ := σq) (n := (hs l.size).next) k3 h4
          rw [hnx] at this
          exact this
  have facts : ∀ (q : Nat) (o : Oper), l[q]? = some o → (hs (q + 1)).low ≤ (hs q).low ∧ (∀ f, f < (hs q).next → (hs (q + 1)).writable f = (hs q).writable f) ∧
      (∀ f, f < (hs q).next → f < (hs (q + 1)).low → (hs (q + 1)).obj f = (hs q).obj f) ∧ (Still P callF l Ts hs q ∨ (loudOk l q = true ∧ quietOp o.op = false ∧ wanted l (Ts q) o = some true)) := by
    intro q o hoq
    have hq : q < l.size := (Array.getElem?_eq_some_iff.1 hoq).1
    obtain ⟨σq, wq, aq, k1, k2, k3, k4⟩ := key q (by omega)
    have hnl := nexts (l.size - (q + 1)) (q + 1) (by omega)
    rcases opAtD_cases (step q o hoq) with ⟨hw0, eT, eh⟩ | ⟨hw, v, h2, hop, eT, hn, hl, eh⟩
    · refine ⟨by rw [eh]; exact Nat.le_refl _, fun _ _ => by rw [eh], fun _ _ _ => by rw [eh], .inl ⟨by rw [eh]; exact fun _ _ => rfl, fun o' v' h2' ho' hw' _ => ?_⟩⟩
      rw [hoq] at ho'; cases ho'
      rw [hw0] at hw'; cases hw'
    · have hnx : h2.next = (hs (q + 1)).next := by rw [eh]
      obtain ⟨a2, w2, σ2, h4⟩ := wp_some (op_sound (K := fun a' w' => ∃ σ', Post P B σq { hs q with low := (hs q).next } wq σ' h2 w') (a := aq) (w := wq) hcall (k1.low (hs q).next)
        (k3.sub (Nat.le_refl _) (by rw [hnx]; exact hnl)) (fun x _ => fun u hu => eval_sound k1.glob k2 hu) hop (fun σ' w' hv hp => ⟨σ', hp⟩))
      obtain ⟨l1, l2, l3⟩ := low_step (a := (hs q).low) (b := h2.low)
      refine ⟨by rw [eh]; exact l1, fun f hf => by rw [eh]; exact h4.keep f hf, fun f hf1 hf2 => ?_, ?_⟩
      · rw [eh] at hf2 ⊢
        exact (h4.soft f hf1 (Nat.lt_of_lt_of_le hf2 l2)).1
      · cases hqt : quietOp o.op with
        | true =>
          left
          obtain ⟨e, _⟩ := quiet_oper hqt hop
          refine ⟨by rw [eh, e]; exact fun _ _ => rfl, fun o' v' h2' ho' _ hop' => ?_⟩
          rw [hoq] at ho'; cases ho'
          rw [hop] at hop'; cases hop'
          rw [e]
          exact Nat.le_refl _
        | false =>
          rcases hl with hl | hl
          · left
            refine ⟨by rw [eh]; exact fun f hf => (h4.soft f hf (Nat.lt_of_lt_of_le hf hl)).1, fun o' v' h2' ho' _ hop' => ?_⟩
            rw [hoq] at ho'; cases ho'
            rw [hop] at hop'; cases hop'
            exact hl
          · exact .inr ⟨hl, rfl, hw⟩
  have get : ∀ (q : Nat), q < l.size → ∃ o, l[q]? = some o := fun q hq => ⟨l[q], by simp [hq]⟩
  refine ⟨Ts, hs, ⟨step, hg, fun q hq => ?_, fun q hq => ?_, next, fun q hq => ?_, fun q hq => ?_, fun q hq => ?_, fun q o hq => (facts q o hq).2.2.2⟩, e1, e2, e3, e4⟩
  · obtain ⟨_, _, _, _, k2, _⟩ := key q hq; exact k2.deep
  · obtain ⟨_, _, _, k1, _⟩ := key q hq; exact k1.hok
  · obtain ⟨o, ho⟩ := get q hq; exact (facts q o ho).1
  · obtain ⟨o, ho⟩ := get q hq; exact (facts q o ho).2.1
  · obtain ⟨o, ho⟩ := get q hq; exact (facts q o ho).2.2.1

end Go.Abs

namespace Go.Abs
variable {P : Program} {B : Nat} {callF : FuncId → List AVal → Heap → Option (AVal × Heap)}

section
variable {l : Array Oper} {N : Nat} {Ts : Nat → Env} {hs : Nat → Heap}

theorem Run.get {l : Array Oper} {q : Nat} (hq : q < l.size) : ∃ o, l[q]? = some o := ⟨l[q], by simp [hq]⟩

theorem Run.nexts (R : Run P callF l N Ts hs) {q q' : Nat} (h : q ≤ q') (hq : q' ≤ l.size) : (hs q).next ≤ (hs q').next := by
  induction q' with
  | zero => obtain rfl : q = 0 := by omega
            exact Nat.le_refl _
  | succ k ih =>
    rcases Nat.eq_or_lt_of_le h with e | h
    · rw [e]; exact Nat.le_refl _
    · exact Nat.le_trans (ih (by omega) (by omega)) (R.next k (by omega))

theorem Run.lows (R : Run P callF l N Ts hs) {q q' : Nat} (h : q ≤ q') (hq : q' ≤ l.size) : (hs q').low ≤ (hs q).low := by
  induction q' with
  | zero => obtain rfl : q = 0 := by omega
            exact Nat.le_refl _
  | succ k ih =>
    rcases Nat.eq_or_lt_of_le h with e | h
    · rw [e]; exact Nat.le_refl _
    · exact Nat.le_trans (R.low k (by omega)) (ih (by omega) (by omega))

theorem Run.chain (R : Run P callF l N Ts hs) {q q' : Nat} (h : q ≤ q') (hq : q' ≤ l.size) (hsoft : ∀ k, q ≤ k → k < q' → Soft (hs k) (hs (k + 1))) : Soft (hs q) (hs q') := by
  induction q' with
  | zero => obtain rfl : q = 0 := by omega
            exact fun _ _ => rfl
  | succ k ih =>
    rcases Nat.eq_or_lt_of_le h with e | h
    · rw [e]; exact fun _ _ => rfl
    · intro f hf
      rw [hsoft k (by omega) (by omega) f (Nat.lt_of_lt_of_le hf (R.nexts (by omega) (by omega)))]
      exact ih (by omega) (by omega) (fun k' h1 h2 => hsoft k' h1 (by omega)) f hf

theorem next_phase (n : Nat) (S : Nat → Prop) : ∀ d p, p + d = n → ∃ p', p ≤ p' ∧ p' ≤ n ∧ (∀ q, p ≤ q → q < p' → S q) ∧ (p' < n → ¬ S p') := by
  intro d
  induction d with
  | zero => intro p hp; exact ⟨p, Nat.le_refl _, by omega, fun q h1 h2 => by omega, fun h => by omega⟩
  | succ d ih =>
    intro p hp
    by_cases hsf : S p
    · obtain ⟨p', h1, h2, h3, h4⟩ := ih (p + 1) (by omega)
      refine ⟨p', by omega, h2, fun q hq1 hq2 => ?_, h4⟩
      rcases Nat.eq_or_lt_of_le hq1 with e | hq1
      · rw [← e]; exact hsf
      · exact h3 q hq1 hq2
    · exact ⟨p, Nat.le_refl _, by omega, fun q h1 h2 => by omega, fun _ => hsf⟩

theorem Run.quiet_next (R : Run P callF l N Ts hs) {q : Nat} {o : Oper} (hq : l[q]? = some o) (hqt : quietOp o.op = true) : (hs (q + 1)).next = (hs q).next := by
  rcases opAtD_cases (R.step q o hq) with ⟨_, _, e⟩ | ⟨_, v, h2, hop, _, _, _, e⟩
  · rw [e]
  · obtain ⟨e2, _⟩ := quiet_oper hqt hop
    rw [e, e2]

theorem Run.loudGet (R : Run P callF l N Ts hs) {q : Nat} {o : Oper} (hq : l[q]? = some o) (hsf : ¬ Still P callF l Ts hs q) : quietOp o.op = false ∧ wanted l (Ts q) o = some true ∧
    ∀ (k : Nat) (x : Oper), l[k]? = some x → quietOp x.op = false → k ≠ q → (k < q → ahead (masks l) k q = true) ∧ (q < k → ahead (masks l) q k = true) := by
  rcases R.loud q o hq with h | ⟨h1, h2, h3⟩
  · exact absurd h hsf
  · refine ⟨h2, h3, fun k x hk hx hne => ?_⟩
    have := loudFrom_get l.toList 0 h1 k x (by simpa using hk) hx (by simpa using hne)
    simpa using this

theorem Run.conflict (R : Run P callF l N Ts hs) {i j : Nat} {x y : Oper} (hi : l[i]? = some x) (hj : l[j]? = some y) (h : i < j) : x.apart l y = true ∨ ahead (masks l) i j = true := by
  have hg := R.good
  unfold goodRegion at hg
  simp only [Bool.and_eq_true, Bool.not_true, Bool.false_or] at hg
  have := apartAll_get l.toList 0 hg.2.1 i j x y (by simpa using hi) (by simpa using hj) h
  simpa using this

theorem Run.back (R : Run P callF l N Ts hs) {i : Nat} {x : Oper} (hi : l[i]? = some x) : ∀ e ∈ x.after, Region.binds .any e = true → e.on < i := by
  have hg := R.good
  unfold goodRegion at hg
  simp only [Bool.and_eq_true, Bool.not_true, Bool.false_or] at hg
  intro e he hb
  have := edgesBack_get l.toList 0 hg.2.2 i x (by simpa using hi) e he hb
  omega

theorem Run.dst (R : Run P callF l N Ts hs) {i : Nat} {x : Oper} (hi : l[i]? = some x) : ∀ d, x.dst = some d → d < N := by
  have hg := R.good
  unfold goodRegion at hg
  rw [Bool.and_eq_true] at hg
  exact dst_lt (List.all_eq_true.1 hg.1 x (List.mem_of_getElem? (by simpa using hi : l.toList[i]? = some x)))
end

/-! ### Posts -/

section
variable {σ σ' : Real} {h h' h2 : Heap} {w w' : World}

theorem Post.relow (H : Post P B σ { h with low := h.next } w σ' h2 w') : Post P B σ h w σ' { h2 with low := match Nat.ble h.low h2.low with | true => h.low | false => h2.low } w' := by
  obtain ⟨l1, l2, _⟩ := low_step (a := h.low) (b := h2.low)
  exact ⟨H.ext, H.rel.low _, H.next, H.new, H.frame, H.size, H.os, H.tape, H.output, H.keep, fun f h1 h3 => H.soft f h1 (Nat.lt_of_lt_of_le h3 l2), l1⟩

theorem Post.unlow {L : Nat} (H : Post P B σ h w σ' { h2 with low := L } w') (hl : h2.low ≤ h.low) (hL : ∀ f, f < h.next → f < h2.low → f < L) : Post P B σ h w σ' h2 w' :=
  ⟨H.ext, H.rel.low h2.low, H.next, H.new, H.frame, H.size, H.os, H.tape, H.output, H.keep, fun f h1 h3 => H.soft f h1 (hL f h1 h3), hl⟩

theorem writable_soft (h : Heap) (h' : Heap) (f : Nat) (e : h'.obj f = h.obj f) : h'.writable f = h.writable f := by
  unfold Heap.writable; rw [e]

/-- Families that are still to come are laid in the abstract memory; nothing else is done. -/
theorem Post.ahead (H : Rel P B σ h w) (hok : HOk h') (hn : h.next ≤ h'.next) (hsf : Soft h h') (hfree : Free σ h.next h'.next) (hlow : h'.low ≤ h.low) : Post P B σ h w σ h' w := by
  have hobj : ∀ f g b o, σ f g = some b → h'.obj f = some o → h.obj f = some o := by
    intro f g b o hb ho
    by_cases h1 : f < h.next
    · rw [← hsf f h1]; exact ho
    · by_cases h2 : f < h'.next
      · rw [hfree f g (by omega) h2] at hb; cases hb
      · rw [hok.dom f (by omega)] at ho; cases ho
  have hwr : ∀ f g b, σ f g = some b → h'.writable f = true → h.writable f = true := by
    intro f g b hb hw
    cases ho : h'.obj f with
    | none => rw [Heap.writable, ho] at hw; cases hw
    | some o => rw [writable_of (hobj f g b o hb ho), ← writable_of ho]; exact hw
  exact ⟨Real.le_refl σ, ⟨hok.deep, hok.dom, hok.full, H.base, H.glob, fun f g b o hb ho => H.obj f g b o hb (hobj f g b o hb ho), fun f g b hb hw => H.wr f g b hb (hwr f g b hb hw), H.live,
      fun f g b f' g' b' hb hb' hne hw => H.apart f g b f' g' b' hb hb' hne (hwr f g b hb hw), H.alike⟩,
    hn, fun f g b h1 h2 => absurd (h1.symm.trans h2) (by simp), fun _ _ _ => rfl, Nat.le_refl _, rfl, rfl, rfl, fun f hf => writable_soft h h' f (hsf f hf), fun f hf _ => ⟨hsf f hf, fun _ => rfl⟩, hlow⟩

/-- A step that leaves alone all that was there, seen from where others have come to already. -/
theorem soft_post {hp hm : Heap} (Hp : Rel P B σ hp w) (hmp : Soft hm hp) (hn : hm.next ≤ hp.next) (hdm : ∀ f, hm.next ≤ f → hm.obj f = none) (Pm : Post P B σ { hm with low := hm.next } w σ' h2 w') (hl : hm.next ≤ h2.low)
    (h2p : Soft h2 hp) (hn2 : h2.next ≤ hp.next) :
    Post P B σ hp w σ' { hp with low := match Nat.ble hp.low hm.next with | true => hp.low | false => hm.next } w' ∧ ∀ f g b, σ' f g = some b → σ f g = none → hm.next ≤ f ∧ f < h2.next := by
  have hnew : ∀ f g b, σ' f g = some b → σ f g = none → hm.next ≤ f ∧ f < h2.next := by
    intro f g b h1 h0
    obtain ⟨a1, a2⟩ := Pm.new f g b h1 h0
    refine ⟨?_, a1⟩
    rcases Nat.lt_or_ge f hm.next with h | h
    · have := (Pm.soft f h (Nat.lt_of_lt_of_le h hl)).2 g
      rw [h1, h0] at this; cases this
    · exact h
  have hmw : ∀ f, hm.writable f = true → f < hm.next ∧ hp.writable f = true := by
    intro f hw
    have : f < hm.next := by
      rcases Nat.lt_or_ge f hm.next with h | h
      · exact h
      · rw [Heap.writable, hdm f h] at hw; cases hw
    exact ⟨this, by rw [writable_soft hm hp f (hmp f this)]; exact hw⟩
  have hold : ∀ f g b, σ' f g = some b → h2.next ≤ f → σ f g = some b := by
    intro f g b h1 h3
    cases h0 : σ f g with
    | none => have := (hnew f g b h1 h0).2; omega
    | some b0 => have := Pm.ext f g b0 h0; rw [h1] at this; exact this.symm
  obtain ⟨l1, l2, _⟩ := low_step (a := hp.low) (b := hm.next)
  have hsame : ∀ f g b, σ f g = some b → hm.next ≤ f → hp.writable f = true → w'.heap[b.block]? = w.heap[b.block]? := by
    intro f g b hb hf hpw
    refine Pm.frame b.block (Hp.live f g b hb) fun f' g' b' hb' hbk => ?_
    cases hw : Heap.writable { hm with low := hm.next } f' with
    | false => rfl
    | true =>
      obtain ⟨k1, k2⟩ := hmw f' hw
      by_cases he : f' = f
      · omega
      · exact absurd hbk (Hp.apart f' g' b' f g b hb' hb he k2)
  have hsameO : ∀ f g b, σ f g = some b → h2.next ≤ f → hm.next ≤ f → w'.heap[b.block]? = w.heap[b.block]? := by
    intro f g b hb _ hf
    refine Pm.frame b.block (Hp.live f g b hb) fun f' g' b' hb' hbk => ?_
    cases hw : Heap.writable { hm with low := hm.next } f' with
    | false => rfl
    | true =>
      obtain ⟨k1, k2⟩ := hmw f' hw
      by_cases he : f' = f
      · omega
      · exact absurd hbk (Hp.apart f' g' b' f g b hb' hb he k2)
  have hn1 : hm.next ≤ h2.next := Pm.next
  have hrel : Rel P B σ' hp w' := by
    refine ⟨Hp.deep, Hp.dom, Hp.full, Nat.le_trans Hp.base Pm.size, Pm.rel.glob, ?_, ?_, Pm.rel.live, ?_, Pm.rel.alike⟩
    · intro f g b o hb ho
      rcases Nat.lt_or_ge f h2.next with h | h
      · exact Pm.rel.obj f g b o hb (by rw [← h2p f h]; exact ho)
      · have hb0 := hold f g b hb h
        exact ObjOk.mono (Hp.obj f g b o hb0 ho) Pm.ext (hsameO f g b hb0 h (by omega))
    · intro f g b hb hw
      rcases Nat.lt_or_ge f h2.next with h | h
      · exact Pm.rel.wr f g b hb (by rw [← writable_soft h2 hp f (h2p f h)]; exact hw)
      · exact Hp.wr f g b (hold f g b hb h) hw
    · intro f g b f' g' b' hb hb' hne hw
      rcases Nat.lt_or_ge f h2.next with h | h
      · exact Pm.rel.apart f g b f' g' b' hb hb' hne (by rw [← writable_soft h2 hp f (h2p f h)]; exact hw)
      · have hb0 := hold f g b hb h
        cases h0 : σ f' g' with
        | some b0 =>
          obtain rfl : b0 = b' := by have := Pm.ext f' g' b0 h0; rw [hb'] at this; exact (Option.some.inj this).symm
          exact Hp.apart f g b f' g' b0 hb0 h0 hne hw
        | none =>
          obtain ⟨a1, a2⟩ := Pm.new f' g' b' hb' h0
          obtain ⟨n1, n2⟩ := hnew f' g' b' hb' h0
          have hlv := Hp.live f g b hb0
          rcases a2 with ⟨a3, _⟩ | ⟨a3, _⟩
          · omega
          · have : f' < hm.next := a3
            omega
  refine ⟨⟨Pm.ext, hrel.low _, Nat.le_refl _, ?_, ?_, Pm.size, Pm.os, Pm.tape, Pm.output, fun _ _ => rfl, ?_, l1⟩, hnew⟩
  · intro f g b h1 h0
    obtain ⟨n1, n2⟩ := hnew f g b h1 h0
    refine ⟨Nat.lt_of_lt_of_le n2 hn2, .inr ⟨Nat.lt_of_lt_of_le n2 hn2, ?_⟩⟩
    rcases (Pm.new f g b h1 h0).2 with ⟨a3, _⟩ | ⟨a3, _⟩
    · exact .inl a3
    · have : f < hm.next := a3
      omega
  · intro k hk hno
    refine Pm.frame k hk fun f g b hb hbk => ?_
    cases hw : Heap.writable { hm with low := hm.next } f with
    | false => rfl
    | true => have := hno f g b hb hbk; rw [(hmw f hw).2] at this; cases this
  · intro f h1 h3
    refine ⟨rfl, fun g => ?_⟩
    have hlt : f < hm.next := Nat.lt_of_lt_of_le h3 l2
    exact (Pm.soft f hlt (Nat.lt_of_lt_of_le hlt hl)).2 g
end

theorem putD_get_ne {T : Env} (hd : N4.deep 4 T) {d : Option Tmp} {t : Tmp} (hne : d ≠ some t) (v : AVal) : (putD T d v).get t = T.get t := by
  cases d with
  | none => rfl
  | some d =>
    show (T.set d v).get t = _
    rw [N4.get_set _ hd, if_neg (fun e => hne (by rw [e]))]

theorem putD_get_eq {T : Env} (hd : N4.deep 4 T) {t : Tmp} {v u : AVal} (h : (putD T (some t) v).get t = some u) : u = v := by
  change (T.set t v).get t = some u at h
  rw [N4.get_set _ hd, if_pos rfl] at h
  split at h
  · cases h; rfl
  · cases h

end Go.Abs

namespace Go.Abs
variable {P : Program} {B : Nat} {callF : FuncId → List AVal → Heap → Option (AVal × Heap)}

/-- Is an operation listed? -/
def Ld (L : Array Bool) (i : Nat) : Prop := L.getD i false = true

structure Inv (P : Program) (B : Nat) (callF : FuncId → List AVal → Heap → Option (AVal × Heap)) (l : Array Oper) (Ts : Nat → Env) (hs : Nat → Heap) (σ0 : Real) (w0 : World) (a0 : Act) (σ : Real) (p : Nat) (L : Array Bool) (a : Act) (w : World) : Prop where
  size : L.size = l.size
  closed : Closed l (Ld L)
  ple : p ≤ l.size
  before : ∀ q, q < p → ¬ Still P callF l Ts hs q → Ld L q
  here : p < l.size → ¬ Still P callF l Ts hs p ∧ ¬ Ld L p
  post : Post P B σ0 (hs 0) w0 σ (hs p) w
  free : ∀ q, q < l.size → ¬ Ld L q → ∀ f g, (hs q).next ≤ f → f < (hs (q + 1)).next → σ f g = none
  env : ∀ t q, q ≤ l.size → (∀ (i : Nat) (o : Oper), l[i]? = some o → o.dst = some t → (Ld L i ↔ i < q)) → ∀ v, (Ts q).get t = some v → okv σ v ∧ a.tmps.getD t undef = conc σ v
  tsize : a.tmps.size = a0.tmps.size
  defers : a.defers = a0.defers

section
variable {l : Array Oper} {Ts : Nat → Env} {hs : Nat → Heap} {σ0 : Real} {w0 : World} {a0 : Act} {σ : Real} {p : Nat} {L : Array Bool} {a : Act} {w : World}

theorem ld_set {i k : Nat} (hi : i < L.size) : Ld (L.setIfInBounds i true) k ↔ (k = i ∨ Ld L k) := by
  unfold Ld
  by_cases h : k = i
  · subst h; simp [hi]
  · rw [getD_set_ne false (Ne.symm h)]; simp [h]

/-- What is known where an operation is ready. -/
structure Ready (l : Array Oper) (L : Array Bool) (i : Nat) (o : Oper) : Prop where
  get : l[i]? = some o
  no : ¬ Ld L i
  edges : ∀ e ∈ o.after, Region.binds .any e = true → Ld L e.on

theorem ready_of (hsz : L.size = l.size) {i : Nat} (h : i ∈ Region.ready .any l L) : ∃ o, Ready l L i o := by
  obtain ⟨h1, o, h2, h3⟩ := mem_ready.1 h
  refine ⟨o, h2, fun hl => ?_, h3⟩
  have hlt : i < L.size := by rw [hsz]; exact (Array.getElem?_eq_some_iff.1 h2).1
  unfold Ld at hl
  rw [Array.getD_eq_getD_getElem?] at h1 hl
  have hx : L[i]? = some L[i] := by simp [hlt]
  rw [hx] at h1 hl
  simp only [Option.getD_some] at h1 hl
  rw [h1] at hl
  cases hl

theorem Inv.comes (I : Inv P B callF l Ts hs σ0 w0 a0 σ p L a w) {i : Nat} {o : Oper} (hr : Ready l L i o) {j : Nat} (h : ahead (masks l) j i = true) : Ld L j :=
  ahead_sound I.closed i j o hr.get hr.edges h

theorem Inv.gone (I : Inv P B callF l Ts hs σ0 w0 a0 σ p L a w) {j k : Nat} {x : Oper} (hj : l[j]? = some x) (hl : Ld L j) (h : ahead (masks l) k j = true) : Ld L k :=
  ahead_sound I.closed j k x hj (I.closed j x hj hl) h

theorem Inv.cut (R : Run P callF l a0.tmps.size Ts hs) (I : Inv P B callF l Ts hs σ0 w0 a0 σ p L a w) {i : Nat} {o : Oper} (hr : Ready l L i o) {t : Tmp} (ht : t ∈ o.looksAt l ∨ o.dst = some t) :
    ∀ (j : Nat) (x : Oper), l[j]? = some x → x.dst = some t → (Ld L j ↔ j < i) := by
  intro j x hj hx
  rcases Nat.lt_trichotomy j i with h | h | h
  · refine ⟨fun _ => h, fun _ => ?_⟩
    rcases R.conflict hj hr.get h with hap | hah
    · obtain ⟨s1, s2, _⟩ := Oper.apart_spec hap
      rcases ht with ht | ht
      · exact absurd ht (s1 t hx)
      · exact absurd ht (s2 t hx)
    · exact I.comes hr hah
  · subst h
    exact ⟨fun hl => absurd hl hr.no, fun h => by omega⟩
  · refine ⟨fun hl => ?_, fun h' => by omega⟩
    rcases R.conflict hr.get hj h with hap | hah
    · obtain ⟨_, s2, s3⟩ := Oper.apart_spec hap
      rcases ht with ht | ht
      · exact absurd ht (s3 t hx)
      · exact absurd hx (s2 t ht)
    · exact absurd (I.gone hj hl hah) hr.no

theorem Inv.reads (R : Run P callF l a0.tmps.size Ts hs) (I : Inv P B callF l Ts hs σ0 w0 a0 σ p L a w) {i : Nat} {o : Oper} (hr : Ready l L i o) (x : Operand) (hx : x ∈ o.op.operands) : Reads P σ (Ts i) a x := by
  intro v hv
  have hi : i < l.size := (Array.getElem?_eq_some_iff.1 hr.get).1
  cases x with
  | tmp t =>
    have hin : t ∈ o.looksAt l := List.mem_append_left _ (List.mem_filterMap.2 ⟨.tmp t, by simpa using hx, rfl⟩)
    exact I.env t i (by omega) (I.cut R hr (.inl hin)) v hv
  | const c => exact eval_sound (T := .leaf) I.post.rel.glob ⟨N4.deep_leaf 4, fun t v h => by rw [N4.get_leaf] at h; cases h⟩ hv
  | global g => exact eval_sound (T := .leaf) I.post.rel.glob ⟨N4.deep_leaf 4, fun t v h => by rw [N4.get_leaf] at h; cases h⟩ hv
  | func f => exact eval_sound (T := .leaf) I.post.rel.glob ⟨N4.deep_leaf 4, fun t v h => by rw [N4.get_leaf] at h; cases h⟩ hv

theorem Inv.guard (R : Run P callF l a0.tmps.size Ts hs) (I : Inv P B callF l Ts hs σ0 w0 a0 σ p L a w) {i : Nat} {o : Oper} (hr : Ready l L i o) {b : Bool} (hw : wanted l (Ts i) o = some b) :
    Region.wanted o (yielded l a.tmps) = b := by
  have hi : i < l.size := (Array.getElem?_eq_some_iff.1 hr.get).1
  refine wanted_on (σ := σ) hw fun g want d hg hd v hv => ?_
  have hin : d ∈ o.looksAt l := List.mem_append_right _ (by rw [hg]; simp [hd])
  exact I.env d i (by omega) (I.cut R hr (.inl hin)) v hv

/-- The variables behind an operation. -/
theorem Inv.envPut (R : Run P callF l a0.tmps.size Ts hs) (I : Inv P B callF l Ts hs σ0 w0 a0 σ p L a w) {i : Nat} {o : Oper} (hr : Ready l L i o) {σ' : Real} (hle : σ.le σ') {v : AVal} (hv : okv σ' v)
    (hT : Ts (i + 1) = putD (Ts i) o.dst v) : ∀ t q, q ≤ l.size → (∀ (j : Nat) (x : Oper), l[j]? = some x → x.dst = some t → (Ld (L.setIfInBounds i true) j ↔ j < q)) → ∀ u, (Ts q).get t = some u →
      okv σ' u ∧ (a.put o.dst (conc σ' v)).tmps.getD t undef = conc σ' u := by
  have hi : i < l.size := (Array.getElem?_eq_some_iff.1 hr.get).1
  have hiL : i < L.size := by rw [I.size]; exact hi
  intro t q hq hcut u hu
  by_cases ht : o.dst = some t
  · have hiq : i < q := (hcut i o hr.get ht).1 ((ld_set hiL).2 (.inl rfl))
    have hst : ∀ d, i + 1 + d ≤ q → (Ts (i + 1 + d)).get t = (Ts (i + 1)).get t := by
      intro d
      induction d with
      | zero => intro _; rfl
      | succ d ih =>
        intro hd
        have hk : i + 1 + d < l.size := by omega
        obtain ⟨x, hx⟩ := Run.get hk
        have hne : x.dst ≠ some t := by
          intro hxt
          have h1 := (hcut (i + 1 + d) x hx hxt).2 (by omega)
          rcases (ld_set hiL).1 h1 with h2 | h2
          · omega
          · have := (I.cut R hr (.inr ht) (i + 1 + d) x hx hxt).1 h2
            omega
        rw [← ih (by omega)]
        have hdp := R.deepT (i + 1 + d) (by omega)
        rcases opAtD_cases (R.step _ x hx) with ⟨_, e, _⟩ | ⟨_, v2, _, _, e, _⟩
        · rw [show i + 1 + (d + 1) = i + 1 + d + 1 by omega, e, putD_get_ne hdp hne]
        · rw [show i + 1 + (d + 1) = i + 1 + d + 1 by omega, e, putD_get_ne hdp hne]
    have := hst (q - (i + 1)) (by omega)
    rw [show i + 1 + (q - (i + 1)) = q by omega] at this
    rw [this, hT, ht] at hu
    obtain rfl := putD_get_eq (R.deepT i (by omega)) hu
    refine ⟨hv, ?_⟩
    have hlt : t < a.tmps.size := by rw [I.tsize]; exact R.dst hr.get t ht
    rw [ht]
    simp [Act.put, hlt]
  · obtain ⟨e1, e2⟩ := I.env t q hq (fun j x hj hx => by
      have hne : j ≠ i := fun e => by
        subst e
        rw [hr.get] at hj
        cases hj
        exact ht hx
      rw [← hcut j x hj hx, ld_set hiL]
      simp [hne]) u hu
    obtain ⟨f1, f2⟩ := ext_v hle u e1
    refine ⟨f1, ?_⟩
    rw [f2, ← e2]
    cases hd : o.dst with
    | none => rfl
    | some d =>
      have hne : d ≠ t := fun e => ht (by rw [hd, e])
      simp [Act.put, Array.getElem?_setIfInBounds_ne hne]

theorem Inv.closedPut (I : Inv P B callF l Ts hs σ0 w0 a0 σ p L a w) {i : Nat} {o : Oper} (hr : Ready l L i o) : Closed l (Ld (L.setIfInBounds i true)) := by
  have hiL : i < L.size := by rw [I.size]; exact (Array.getElem?_eq_some_iff.1 hr.get).1
  intro j x hj hl e he hb
  rw [ld_set hiL] at hl ⊢
  rcases hl with rfl | hl
  · rw [hr.get] at hj; cases hj
    exact .inr (hr.edges e he hb)
  · exact .inr (I.closed j x hj hl e he hb)

/-- A step that leaves alone all that was there. -/
theorem Inv.stepSoft (R : Run P callF l a0.tmps.size Ts hs) (h0 : Free σ0 (hs 0).next (hs l.size).next) (I : Inv P B callF l Ts hs σ0 w0 a0 σ p L a w) {i : Nat} {o : Oper} (hr : Ready l L i o) (hsf : Still P callF l Ts hs i)
    {σ' : Real} {w' : World} {v : AVal} {hm h2 : Heap} (hv : okv σ' v) (hT : Ts (i + 1) = putD (Ts i) o.dst v) (hm0 : (hs 0).next ≤ hm.next) (hmp : Soft hm (hs p)) (hn : hm.next ≤ (hs p).next) (hdm : ∀ f, hm.next ≤ f → hm.obj f = none)
    (Pm : Post P B σ { hm with low := hm.next } w σ' h2 w') (hl : hm.next ≤ h2.low) (h2p : Soft h2 (hs p)) (hn2 : h2.next ≤ (hs p).next) (hin : ∀ f, hm.next ≤ f → f < h2.next → (hs i).next ≤ f ∧ f < (hs (i + 1)).next) :
    Inv P B callF l Ts hs σ0 w0 a0 σ' p (L.setIfInBounds i true) (a.put o.dst (conc σ' v)) w' := by
  have hi : i < l.size := (Array.getElem?_eq_some_iff.1 hr.get).1
  have hiL : i < L.size := by rw [I.size]; exact hi
  obtain ⟨p1, p2⟩ := soft_post I.post.rel hmp hn hdm Pm hl h2p hn2
  obtain ⟨l1, l2, l3⟩ := low_step (a := (hs p).low) (b := hm.next)
  have p3 := Post.trans (h2 := { hs p with low := match Nat.ble (hs p).low hm.next with | true => (hs p).low | false => hm.next }) (h0.sub (Nat.le_refl _) (R.nexts I.ple (Nat.le_refl _))) I.post p1
  have hpost : Post P B σ0 (hs 0) w0 σ' (hs p) w' := Post.unlow (h2 := hs p) (L := match Nat.ble (hs p).low hm.next with | true => (hs p).low | false => hm.next) p3 I.post.low (fun f hf1 hf2 =>
    Nat.lt_of_lt_of_le (Nat.lt_succ_self f) (l3 (f + 1) hf2 (Nat.le_trans hf1 hm0)))
  refine ⟨by simpa using I.size, I.closedPut hr, I.ple, fun q hq hns => (ld_set hiL).2 (.inr (I.before q hq hns)), fun hp => ⟨(I.here hp).1, fun hl => ?_⟩, hpost, fun q hq hnl f g hf1 hf2 => ?_, I.envPut R hr Pm.ext hv hT,
    by rw [size_put]; exact I.tsize, by rw [defers_put]; exact I.defers⟩
  · rcases (ld_set hiL).1 hl with e | h
    · subst e; exact (I.here hp).1 hsf
    · exact (I.here hp).2 h
  · have hnq : ¬ Ld L q := fun h => hnl ((ld_set hiL).2 (.inr h))
    have hne : q ≠ i := fun h => hnl ((ld_set hiL).2 (.inl h))
    cases hs' : σ' f g with
    | none => rfl
    | some b =>
      obtain ⟨n1, n2⟩ := p2 f g b hs' (I.free q hq hnq f g hf1 hf2)
      obtain ⟨n3, n4⟩ := hin f n1 n2
      rcases Nat.lt_or_gt_of_ne hne with h | h
      · have := R.nexts (q := q + 1) (q' := i) h (by omega); omega
      · have := R.nexts (q := i + 1) (q' := q) h (by omega); omega

theorem Inv.step (hcall : CallSound P B callF) (R : Run P callF l a0.tmps.size Ts hs) (h0 : Free σ0 (hs 0).next (hs l.size).next) (I : Inv P B callF l Ts hs σ0 w0 a0 σ p L a w) {i : Nat} {o : Oper} (hr : Ready l L i o) {Q : Exit → Act → World → Prop} :
    wpOp P l Q i (fun a' w' => ∃ σ' p', Inv P B callF l Ts hs σ0 w0 a0 σ' p' (L.setIfInBounds i true) a' w') a w := by
  have hi : i < l.size := (Array.getElem?_eq_some_iff.1 hr.get).1
  have hiL : i < L.size := by rw [I.size]; exact hi
  have hn0 : ∀ q, q ≤ l.size → (hs 0).next ≤ (hs q).next := fun q hq => R.nexts (Nat.zero_le q) hq
  unfold wpOp
  rw [hr.get]
  simp only []
  rcases opAtD_cases (R.step i o hr.get) with ⟨hw, eT, eh⟩ | ⟨hw, v, h2, hop, eT, hn, hl, eh⟩
  · -- the operation is left out
    rw [I.guard R hr hw, if_neg (by decide)]
    have hsf : Still P callF l Ts hs i := ⟨by rw [eh]; exact fun _ _ => rfl, fun o' v' h2' ho' hw' _ => by rw [hr.get] at ho'; cases ho'; rw [hw] at hw'; cases hw'⟩
    have hpp : Soft { hs p with low := (hs p).next } (hs p) := fun _ _ => rfl
    exact ⟨σ, p, Inv.stepSoft (h2 := { hs p with low := (hs p).next }) (v := .tuple []) R h0 I hr hsf trivial eT (hn0 p I.ple) (fun _ _ => rfl) (Nat.le_refl _) (R.ok p I.ple).dom (Post.refl (I.post.rel.low _)) (Nat.le_refl _) hpp (Nat.le_refl _) (fun f h1 h2 => by
      have : f < (hs p).next := h2
      omega)⟩
  · rw [I.guard R hr hw, if_pos rfl]
    left
    have hnx : h2.next = (hs (i + 1)).next := by rw [eh]
    by_cases hsf : Still P callF l Ts hs i
    · cases hqt : quietOp o.op with
      | true =>
        obtain ⟨_, hq2⟩ := quiet_oper hqt hop
        have hpp : Soft { hs p with low := (hs p).next } (hs p) := fun _ _ => rfl
        refine op_sound hcall (h := { hs p with low := (hs p).next }) (I.post.rel.low _) (fun f g h1 h2 => by have : f < (hs p).next := h2; have h1' : (hs p).next ≤ f := h1; omega) (fun x hx => I.reads R hr x hx) (hq2 _) fun σ' w' hv hp => ?_
        exact ⟨σ', p, Inv.stepSoft R h0 I hr hsf hv eT (hn0 p I.ple) (fun _ _ => rfl) (Nat.le_refl _) (R.ok p I.ple).dom hp (Nat.le_refl _) hpp (Nat.le_refl _) (fun f h1 h2 => by
          have : f < (hs p).next := h2
          omega)⟩
      | false =>
        have hip : i < p := by
          rcases Nat.lt_or_ge i p with h | h
          · exact h
          · have hp : p < l.size := by omega
            obtain ⟨h1, h2⟩ := I.here hp
            obtain ⟨y, hy⟩ := Run.get hp
            by_cases he : i = p
            · subst he; exact absurd hsf h1
            · exact absurd (I.comes hr (((R.loudGet hy h1).2.2 i o hr.get hqt he).2 (by omega))) h2
        have hall : ∀ k, i ≤ k → k < p → Still P callF l Ts hs k := by
          intro k hk1 hk2
          by_cases hks : Still P callF l Ts hs k
          · exact hks
          · have hne : i ≠ k := fun e => by subst e; exact hks hsf
            obtain ⟨y, hy⟩ := Run.get (show k < l.size by have := I.ple; omega)
            have hlk := I.before k hk2 hks
            exact absurd (I.gone hy hlk (((R.loudGet hy hks).2.2 i o hr.get hqt hne).1 (by omega))) hr.no
        have hmp := R.chain (Nat.le_of_lt hip) I.ple (fun k h1 h2 => (hall k h1 h2).1)
        have hmp1 := R.chain (q := i + 1) (q' := p) hip I.ple (fun k h1 h2 => (hall k (by omega) h2).1)
        have hnp := R.nexts (q := i + 1) (q' := p) hip I.ple
        have hlow : (hs i).next ≤ h2.low := hsf.2 o v h2 hr.get hw hop
        have hRel : Rel P B σ { hs i with low := (hs i).next } w := by
          have hok := R.ok i (by omega)
          have hobj : ∀ f o', (hs i).obj f = some o' → (hs p).obj f = some o' := by
            intro f o' ho'
            rcases Nat.lt_or_ge f (hs i).next with h | h
            · rw [hmp f h]; exact ho'
            · rw [hok.dom f h] at ho'; cases ho'
          have hwr : ∀ f, (hs i).writable f = true → (hs p).writable f = true := by
            intro f hw'
            cases hx : (hs i).obj f with
            | none => rw [Heap.writable, hx] at hw'; cases hw'
            | some o' => rw [writable_of (hobj f o' hx), ← writable_of hx]; exact hw'
          have H := I.post.rel
          exact ⟨hok.deep, hok.dom, hok.full, H.base, H.glob, fun f g b o' hb ho' => H.obj f g b o' hb (hobj f o' ho'), fun f g b hb hw' => H.wr f g b hb (hwr f hw'), H.live,
            fun f g b f' g' b' hb hb' hne hw' => H.apart f g b f' g' b' hb hb' hne (hwr f hw'), H.alike⟩
        refine op_sound hcall hRel (fun f g h1 h3 => I.free i hi hr.no f g h1 (by rw [← hnx]; exact h3)) (fun x hx => I.reads R hr x hx) hop fun σ' w' hv hp => ?_
        exact ⟨σ', p, Inv.stepSoft R h0 I hr hsf hv eT (hn0 i (by omega)) hmp (R.nexts (Nat.le_of_lt hip) I.ple) (R.ok i (by omega)).dom hp hlow
          (fun f hf => by rw [hmp1 f (by rw [← hnx]; exact hf), eh]; rfl) (by rw [hnx]; exact hnp) (fun f h1 h3 => ⟨h1, by rw [← hnx]; exact h3⟩)⟩
    · -- a loud operation: its turn has come
      have hip : i = p := by
        rcases Nat.lt_trichotomy i p with h | h | h
        · exact absurd (I.before i h hsf) hr.no
        · exact h
        · have hp : p < l.size := by omega
          obtain ⟨h1, h2⟩ := I.here hp
          obtain ⟨y, hy⟩ := Run.get hp
          exact absurd (I.comes hr (((R.loudGet hr.get hsf).2.2 p y hy (R.loudGet hy h1).1 (by omega)).1 h)) h2
      subst hip
      obtain ⟨p', n1, n2, n3, n4⟩ := next_phase l.size (Still P callF l Ts hs) (l.size - (i + 1)) (i + 1) (by omega)
      obtain ⟨_, _, hloud⟩ := R.loudGet hr.get hsf
      have hq : ∀ q, q < i → ¬ Ld L q → (hs (q + 1)).next = (hs q).next := by
        intro q hq hnq
        obtain ⟨y, hy⟩ := Run.get (show q < l.size by omega)
        cases hqt : quietOp y.op with
        | true => exact R.quiet_next hy hqt
        | false => exact absurd (I.comes hr ((hloud q y hy hqt (by omega)).1 hq)) hnq
      have hunl : ∀ q, i < q → q < l.size → Ld L q → (hs (q + 1)).next = (hs q).next := by
        intro q hq1 hq2 hl
        obtain ⟨y, hy⟩ := Run.get hq2
        cases hqt : quietOp y.op with
        | true => exact R.quiet_next hy hqt
        | false => exact absurd (I.gone hy hl ((hloud q y hy hqt (by omega)).2 hq1)) hr.no
      have hfreeAll : ∀ d, i + d ≤ l.size → Free σ (hs i).next (hs (i + d)).next := by
        intro d
        induction d with
        | zero => intro _ f g h1 h3; have h3' : f < (hs i).next := h3; omega
        | succ d ih =>
          intro hd f g h1 h3
          rcases Nat.lt_or_ge f (hs (i + d)).next with h | h
          · exact ih (by omega) f g h1 h
          · by_cases hld : Ld L (i + d)
            · by_cases hd0 : d = 0
              · subst hd0; exact absurd hld hr.no
              · have := hunl (i + d) (by omega) (by omega) hld
                have h3' : f < (hs (i + d + 1)).next := h3
                omega
            · exact I.free (i + d) (by omega) hld f g h h3
      have hfn : Free σ (hs i).next (hs l.size).next := by
        have := hfreeAll (l.size - i) (by omega)
        rwa [show i + (l.size - i) = l.size by omega] at this
      have hle1 := R.nexts (q := i + 1) (q' := l.size) (by omega) (Nat.le_refl _)
      refine op_sound hcall (I.post.rel.low (hs i).next) (hfn.sub (Nat.le_refl _) (by rw [hnx]; exact hle1)) (fun x hx => I.reads R hr x hx) hop fun σ' w' hv hp => ?_
      have hp1 : Post P B σ (hs i) w σ' (hs (i + 1)) w' := by rw [eh]; exact hp.relow
      have hp2 : Post P B σ0 (hs 0) w0 σ' (hs (i + 1)) w' := Post.trans (h0.sub (Nat.le_refl _) hle1) I.post hp1
      have hf2 : Free σ' (hs (i + 1)).next (hs l.size).next := Free.step hfn hp1
      have hp3 : Post P B σ0 (hs 0) w0 σ' (hs p') w' := Post.trans (h0.sub (Nat.le_refl _) (R.nexts n2 (Nat.le_refl _))) hp2
        (Post.ahead hp2.rel (R.ok p' n2) (R.nexts n1 n2) (R.chain n1 n2 (fun k h1 h2 => (n3 k h1 h2).1)) (hf2.sub (Nat.le_refl _) (R.nexts n2 (Nat.le_refl _))) (R.lows n1 n2))
      refine ⟨σ', p', by simpa using I.size, I.closedPut hr, n2, fun q hq1 hq2 => ?_, fun hp' => ⟨n4 hp', fun hl' => ?_⟩, hp3, fun q hq1 hnl f g hf1 hf3 => ?_, I.envPut R hr hp.ext hv eT, by rw [size_put]; exact I.tsize, by rw [defers_put]; exact I.defers⟩
      · rw [ld_set hiL]
        rcases Nat.lt_trichotomy q i with h | h | h
        · exact .inr (I.before q h hq2)
        · exact .inl h
        · exact absurd (n3 q h hq1) hq2
      · rcases (ld_set hiL).1 hl' with e | h
        · omega
        · obtain ⟨y, hy⟩ := Run.get hp'
          exact absurd (I.gone hy h ((hloud p' y hy (R.loudGet hy (n4 hp')).1 (by omega)).2 (by omega))) hr.no
      · have hnq : ¬ Ld L q := fun h => hnl ((ld_set hiL).2 (.inr h))
        have hne : q ≠ i := fun h => hnl ((ld_set hiL).2 (.inl h))
        rcases Nat.lt_or_gt_of_ne hne with h | h
        · have := hq q h hnq; omega
        · exact hf2 f g (by have := R.nexts (q := i + 1) (q' := q) h (by omega); omega) (by have := R.nexts (q := q + 1) (q' := l.size) (by omega) (Nat.le_refl _); omega)

end
end Go.Abs

namespace Go.Abs
variable {P : Program} {B : Nat} {callF : FuncId → List AVal → Heap → Option (AVal × Heap)}

theorem not_ld {l : Array Oper} {L : Array Bool} (hsz : L.size = l.size) {i : Nat} (hi : i < l.size) (h : ¬ Ld L i) : L.getD i true = false := by
  have hlt : i < L.size := by rw [hsz]; exact hi
  unfold Ld at h
  rw [Array.getD_eq_getD_getElem?] at h ⊢
  have hx : L[i]? = some L[i] := by simp [hlt]
  rw [hx] at h ⊢
  simp only [Option.getD_some] at h ⊢
  simpa using h

theorem all_listed {l : Array Oper} {L : Array Bool} (hsz : L.size = l.size) (hb : ∀ (i : Nat) (x : Oper), l[i]? = some x → ∀ e ∈ x.after, Region.binds .any e = true → e.on < i)
    (hr : Region.ready .any l L = []) : ∀ i, i < l.size → Ld L i := by
  intro i
  induction i using Nat.strongRecOn with
  | _ i ih =>
    intro hi
    by_cases h : Ld L i
    · exact h
    · obtain ⟨o, ho⟩ := Run.get hi
      have : i ∈ Region.ready .any l L := mem_ready.2 ⟨not_ld hsz hi h, o, ho, fun e he hbe => ih e.on (hb i o ho e he hbe) (Nat.lt_trans (hb i o ho e he hbe) hi)⟩
      rw [hr] at this
      cases this

theorem draw_main (hcall : CallSound P B callF) {l : Array Oper} {Ts : Nat → Env} {hs : Nat → Heap} {σ0 : Real} {w0 : World} {a0 : Act} (R : Run P callF l a0.tmps.size Ts hs) (h0 : Free σ0 (hs 0).next (hs l.size).next) :
    ∀ (fuel : Nat) (L : Array Bool) (σ : Real) (p : Nat) (a : Act) (w : World) (U : List Nat), Inv P B callF l Ts hs σ0 w0 a0 σ p L a w → (∀ i, i < l.size → ¬ Ld L i → i ∈ U) → U.length ≤ fuel →
      wpAny P .any l (fun e a' w' => e = .normal ∧ End P B σ0 (hs 0) w0 a0 (Ts l.size) (hs l.size) a' w') fuel L a w := by
  have fin : ∀ (L : Array Bool) (σ : Real) (p : Nat) (a : Act) (w : World), Inv P B callF l Ts hs σ0 w0 a0 σ p L a w → (∀ i, i < l.size → Ld L i) → End P B σ0 (hs 0) w0 a0 (Ts l.size) (hs l.size) a w := by
    intro L σ p a w I hall
    have hp : p = l.size := by
      rcases Nat.lt_or_ge p l.size with h | h
      · exact absurd (hall p h) (I.here h).2
      · have := I.ple; omega
    have hpost := I.post
    rw [hp] at hpost
    refine ⟨σ, hpost, ⟨R.deepT _ (Nat.le_refl _), fun t v hv => I.env t l.size (Nat.le_refl _) (fun i o hi _ => ?_) v hv⟩, I.tsize, I.defers⟩
    have hlt : i < l.size := (Array.getElem?_eq_some_iff.1 hi).1
    exact ⟨fun _ => hlt, fun _ => hall i hlt⟩
  intro fuel
  induction fuel with
  | zero =>
    intro L σ p a w U I hU hlen
    have hnil : U = [] := List.length_eq_zero_iff.1 (by omega)
    have hall : ∀ i, i < l.size → Ld L i := fun i hi => by
      by_cases h : Ld L i
      · exact h
      · have := hU i hi h
        rw [hnil] at this
        cases this
    refine ⟨List.eq_nil_iff_forall_not_mem.2 fun j hj => ?_, rfl, fin L σ p a w I hall⟩
    obtain ⟨o, hr⟩ := ready_of I.size hj
    exact hr.no (hall j (Array.getElem?_eq_some_iff.1 hr.get).1)
  | succ fuel ih =>
    intro L σ p a w U I hU hlen
    refine ⟨fun hr => ⟨rfl, fin L σ p a w I (all_listed I.size (fun i x hx => R.back hx) hr)⟩, fun i hi => ?_⟩
    obtain ⟨o, hr⟩ := ready_of I.size hi
    have hil : i < l.size := (Array.getElem?_eq_some_iff.1 hr.get).1
    have hiU := hU i hil hr.no
    refine wpOp_mono ?_ (I.step hcall R h0 hr)
    rintro a' w' ⟨σ', p', I'⟩
    refine ih _ σ' p' a' w' (U.erase i) I' (fun j hj hnj => ?_) (by rw [List.length_erase_of_mem hiU]; omega)
    have hiL : i < L.size := by rw [I.size]; exact hil
    rw [ld_set hiL] at hnj
    have hne : j ≠ i := fun e => hnj (.inl e)
    exact (List.mem_erase_of_ne hne).2 (hU j hj (fun h => hnj (.inr h)))

theorem draw_sound (hmix : P.follows .mixedOrders = true) (hcall : CallSound P B callF) : DrawSound P B callF := by
  intro id l T T' h h' σ a w ho hg H hT hf
  obtain ⟨Ts, hs, R, e1, e2, e3, e4⟩ := run_of hcall ho hg H hT hf
  subst e1 e2 e3 e4
  refine wp_region_any hmix ?_
  obtain ⟨p, n1, n2, n3, n4⟩ := next_phase l.size (Still P callF l Ts hs) l.size 0 (by omega)
  have hnol : ∀ i, ¬ Ld (Array.replicate l.size false) i := by
    intro i hl
    unfold Ld at hl
    rw [Array.getD_eq_getD_getElem?, Array.getElem?_replicate] at hl
    split at hl <;> cases hl
  refine draw_main (σ0 := σ) (w0 := w) (a0 := a) hcall R hf l.size _ σ p a _ (List.range l.size) ?_ (fun i hi _ => List.mem_range.2 hi) (by simp)
  refine ⟨by simp, fun j o _ hl => absurd hl (hnol j), n2, fun q hq hns => absurd (n3 q (Nat.zero_le _) hq) hns, fun hp => ⟨n4 hp, hnol p⟩, ?_, ?_, ?_, rfl, rfl⟩
  · exact (Post.ahead H (R.ok p n2) (R.nexts n1 n2) (R.chain n1 n2 (fun k h1 h2 => (n3 k h1 h2).1)) (hf.sub (Nat.le_refl _) (R.nexts n2 (Nat.le_refl _))) (R.lows n1 n2)).drawn rfl rfl rfl rfl
  · intro q hq _ f g h1 h2
    exact hf f g (Nat.le_trans (R.nexts (Nat.zero_le q) (by omega)) h1) (Nat.lt_of_lt_of_le h2 (R.nexts hq (Nat.le_refl _)))
  · intro t q hq hcut v hv
    have hst : ∀ d, d ≤ q → (Ts d).get t = (Ts 0).get t := by
      intro d
      induction d with
      | zero => intro _; rfl
      | succ d ih =>
        intro hd
        obtain ⟨x, hx⟩ := Run.get (show d < l.size by omega)
        have hne : x.dst ≠ some t := fun hxt => hnol d ((hcut d x hx hxt).2 (by omega))
        rw [← ih (by omega)]
        have hdp := R.deepT d (by omega)
        rcases opAtD_cases (R.step _ x hx) with ⟨_, e, _⟩ | ⟨_, v2, _, _, e, _⟩
        · rw [e, putD_get_ne hdp hne]
        · rw [e, putD_get_ne hdp hne]
    rw [hst q (Nat.le_refl _)] at hv
    exact hT.val t v hv

/-- **A step of the evaluator of calls, and the model's calls.** -/
theorem calls_step {ok : Nat} {f : FuncId} {args : List AVal} {h h' : Heap} {v : AVal} {σ : Real} {w : World} (hmix : P.follows .mixedOrders = true)
    (hgood : ∀ f, Nat.testBit ok f = true → ∀ fn, P.funcs[f]? = some fn → goodFunc fn = true) (hcall : CallSound P B callF) (hc : callStep P ok callF f args h = some (v, h')) {fn : Func} (hfn : P.funcs[f]? = some fn) (hbody : fn.body.isSome = true)
    (H : Rel P B σ h w) (hargs : okvs σ args) (hfree : Free σ h.next h'.next) :
    Calls P f (concs σ args).toArray w fun e w' => ∃ σ', e = .returned (conc σ' v) ∧ okv σ' v ∧ Post P B σ h w σ' h' w' := by
  have hcs := callStep_sound (B := B) hgood hcall (draw_sound hmix hcall) f args h v h' σ w { (default : Oper) with dst := some 0 } { tmps := #[undef], defers := [] }
    (fun a' w' => ∃ σ', a'.tmps.getD 0 undef = conc σ' v ∧ okv σ' v ∧ Post P B σ h w σ' h' w') (fun _ _ _ => False) hc H hargs hfree (fun σ' w' h1 h2 => ⟨σ', rfl, h1, h2⟩)
  have hbit : Nat.testBit ok f = true := by
    unfold callStep at hc
    split at hc
    · cases hc
    · assumption
  have hgf := hgood f hbit fn hfn
  unfold goodFunc at hgf
  simp only [Bool.and_eq_true, Bool.not_eq_true'] at hgf
  have h1 : fn.name ≠ "runtime.NumGoroutine" := by simpa using hgf.1
  obtain ⟨c, hb⟩ := Option.isSome_iff_exists.1 hbody
  have hcf : (callFunc f (concs σ args).toArray).run P w = .ok (.enter f (concs σ args).toArray) w := by
    simp [callFunc, hfn, h1, hb]
  rw [hcf, Oper.upon_enter] at hcs
  refine Calls.mono hcs fun e w' he => ?_
  cases e with
  | returned u =>
    obtain ⟨σ', k1, k2, k3⟩ := he
    exact ⟨σ', by rw [← k1]; rfl, k2, k3⟩
  | panicked c => exact he.elim
  | outgrown => obtain ⟨_, _, hf⟩ := he; exact hf.elim

/-- **The evaluator of calls, and the model's calls.** -/
theorem calls_of {ok d : Nat} {f : FuncId} {args : List AVal} {h h' : Heap} {v : AVal} {σ : Real} {w : World} (hmix : P.follows .mixedOrders = true)
    (hgood : ∀ f, Nat.testBit ok f = true → ∀ fn, P.funcs[f]? = some fn → goodFunc fn = true) (hc : call P ok (d + 1) f args h = some (v, h')) {fn : Func} (hfn : P.funcs[f]? = some fn) (hbody : fn.body.isSome = true)
    (H : Rel P B σ h w) (hargs : okvs σ args) (hfree : Free σ h.next h'.next) :
    Calls P f (concs σ args).toArray w fun e w' => ∃ σ', e = .returned (conc σ' v) ∧ okv σ' v ∧ Post P B σ h w σ' h' w' :=
  calls_step hmix hgood (call_sound (B := B) hgood (fun callF hcf => draw_sound hmix hcf) d) (show callStep P ok (call P ok d) f args h = some (v, h') from hc) hfn hbody H hargs hfree

/-- What a call leaves that changes nothing that was there. -/
theorem Post.of_below {σ : Real} {h : Heap} {w w' : World} (H : Rel P B σ h w) (hb : RowKit.Below w.heap.size w w') : Post P B σ h w σ h w' := by
  have heap : ∀ f g b, σ f g = some b → w'.heap[b.block]? = w.heap[b.block]? := fun f g b h1 => hb.block _ (H.live f g b h1)
  refine ⟨Real.le_refl σ, ⟨H.deep, H.dom, H.full, Nat.le_trans H.base hb.size, H.glob, fun f g b o h1 h2 => ObjOk.mono (H.obj f g b o h1 h2) (Real.le_refl σ) (heap f g b h1), H.wr, fun f g b h1 => Nat.lt_of_lt_of_le (H.live f g b h1) hb.size, H.apart, H.alike⟩,
    Nat.le_refl _, fun f g b h1 h2 => absurd (h1.symm.trans h2) (by simp), fun k hk _ => hb.block k hk, hb.size, hb.os, hb.tape, hb.output, fun _ _ => rfl, fun _ _ _ => ⟨rfl, fun _ => rfl⟩, Nat.le_refl _⟩

end Go.Abs

namespace Go.Abs
variable {P : Program}

/-- A table that nothing writes. -/
structure Tab where
  at' : Nat
  ety : TypeId
  es : Nat
  vs : List AVal

noncomputable def Tab.cells (t : Tab) : ACells := { ACells.made t.ety t.es t.vs with ro := true }

noncomputable def startObjs : List Tab → N4 AObj
  | [] => .leaf
  | t :: ts => (startObjs ts).setL t.at' (.cells t.cells)

/-- The memory that holds some tables, and knows nothing else. -/
noncomputable def start (n : Nat) (ts : List Tab) : Heap := { objs := startObjs ts, next := n, low := n }

/-- Package-level variable g lies at block g. -/
noncomputable def startAt (n : Nat) (ts : List Tab) : Real := fun f g =>
  if g = 0 ∧ f < n then some (match (start n ts).fam f with | some c => ⟨f, 0, 0, c.size, c.es⟩ | none => ⟨f, 0, 0, 0, 1⟩) else none

theorem startObjs_deep : ∀ ts : List Tab, N4.deep 8 (startObjs ts)
  | [] => N4.deep_leaf 8
  | _ :: ts => N4.deep_setL (startObjs_deep ts) _ _

theorem startObjs_get : ∀ (ts : List Tab) (f : Nat) (o : AObj), (startObjs ts).getL f = some o → ∃ t ∈ ts, f = t.at' ∧ o = .cells t.cells
  | [], f, o, h => by
    have := N4.getL_leaf (α := AObj) f
    rw [show startObjs [] = (N4.leaf : N4 AObj) from rfl, this] at h
    cases h
  | t :: ts, f, o, h => by
    rw [show startObjs (t :: ts) = (startObjs ts).setL t.at' (.cells t.cells) from rfl, N4.getL_setL _ (startObjs_deep ts)] at h
    by_cases e : f = t.at'
    · rw [if_pos e] at h
      split at h
      · cases h; exact ⟨t, by simp, e, rfl⟩
      · cases h
    · rw [if_neg e] at h
      obtain ⟨t', h1, h2⟩ := startObjs_get ts f o h
      exact ⟨t', by simp [h1], h2⟩

theorem start_rel {W : World} {ts : List Tab} (hsz : P.globals.size ≤ W.heap.size)
    (ht : ∀ t ∈ ts, t.at' < P.globals.size ∧ 0 < t.es ∧ t.vs.length % t.es = 0 ∧ okvs (fun _ _ => none) t.vs ∧ t.vs.all AVal.scalar = true ∧ W.heap[t.at']? = some (.cells (concs (fun _ _ => none) t.vs).toArray t.ety (0, 0))) :
    Rel P W.heap.size (startAt P.globals.size ts) (start P.globals.size ts) W := by
  have hget : ∀ f o, (start P.globals.size ts).obj f = some o → ∃ t ∈ ts, f = t.at' ∧ o = .cells t.cells := startObjs_get ts
  have hnw : ∀ f, (start P.globals.size ts).writable f = false := by
    intro f
    unfold Heap.writable
    cases h : (start P.globals.size ts).obj f with
    | none => rfl
    | some o => obtain ⟨t, _, _, rfl⟩ := hget f o h; rfl
  have hσ : ∀ f g b, startAt P.globals.size ts f g = some b → g = 0 ∧ f < P.globals.size ∧ b = (match (start P.globals.size ts).fam f with | some c => ⟨f, 0, 0, c.size, c.es⟩ | none => ⟨f, 0, 0, 0, 1⟩) := by
    intro f g b h
    unfold startAt at h
    split at h
    · rename_i hc; exact ⟨hc.1, hc.2, (Option.some.inj h).symm⟩
    · cases h
  have hblk : ∀ f g b, startAt P.globals.size ts f g = some b → b.block = f ∧ b.base = 0 ∧ b.start = 0 := by
    intro f g b h
    obtain ⟨_, _, rfl⟩ := hσ f g b h
    cases (start P.globals.size ts).fam f <;> exact ⟨rfl, rfl, rfl⟩
  refine ⟨startObjs_deep ts, fun f hf => ?_, fun f c hc => ?_, Nat.le_refl _, fun g hg => ?_, fun f g b o hb ho => ?_, fun f g b _ hw => ?_, fun f g b hb => ?_, fun f g b f' g' b' _ _ _ hw => ?_, fun f g b g' b' hb hb' _ => ?_⟩
  · cases h : (start P.globals.size ts).obj f with
    | none => rfl
    | some o =>
      obtain ⟨t, h1, rfl, _⟩ := hget f o h
      have := (ht t h1).1
      have hf' : P.globals.size ≤ t.at' := hf
      omega
  · obtain ⟨t, h1, _, e⟩ := hget f _ hc
    cases e
    obtain ⟨_, k1, k2, _⟩ := ht t h1
    exact cwf_made t.es t.vs k1 k2 _ rfl (Nat.le_refl _) rfl
  · refine ⟨_, by unfold startAt; rw [if_pos ⟨rfl, hg⟩], ?_⟩
    cases (start P.globals.size ts).fam g <;> exact ⟨rfl, rfl, rfl⟩
  · obtain ⟨rfl, hlt, hbe⟩ := hσ f g b hb
    obtain ⟨t, h1, rfl, rfl⟩ := hget f o ho
    have hfam : (start P.globals.size ts).fam t.at' = some t.cells := by
      unfold Heap.fam
      have : (start P.globals.size ts).objs.getL t.at' = some (.cells t.cells) := ho
      rw [this]
    rw [hfam] at hbe
    subst hbe
    obtain ⟨_, k1, k2, k3, k4, k5⟩ := ht t h1
    have hle : Real.le (fun _ _ => none) (startAt P.globals.size ts) := fun f g b h => by cases h
    refine ⟨Nat.le_refl _, rfl, Nat.zero_le _, fun _ => Nat.le_refl _, fun _ => ⟨rfl, rfl, rfl, rfl⟩, _, _, k5, by simp [Tab.cells, ACells.made, concs_length], fun e => Bool.noConfusion e, fun i v lo hv _ _ => ?_⟩
    obtain ⟨q1, q2⟩ := cellAt_made t.es t.vs k1 k2 t.cells rfl rfl hv
    have hi := (List.getElem?_eq_some_iff.1 q2).1
    have hmem : v ∈ t.vs := List.mem_iff_getElem?.2 ⟨_, q2⟩
    obtain ⟨e1, e2⟩ := ext_v hle v (okvs_iff.1 k3 v hmem)
    refine ⟨hi, e1, List.all_eq_true.1 k4 v hmem, ?_⟩
    rw [e2]
    simp [concs_eq, q2]
  · rw [hnw f] at hw; cases hw
  · obtain ⟨_, hlt, _⟩ := hσ f g b hb
    rw [(hblk f g b hb).1]
    omega
  · rw [hnw f] at hw; cases hw
  · obtain ⟨rfl, _, _⟩ := hσ f g b hb
    obtain ⟨rfl, _, _⟩ := hσ f g' b' hb'
    rw [hb] at hb'
    exact (Option.some.inj hb').symm

theorem start_free (n m : Nat) (ts : List Tab) : Free (startAt n ts) (start n ts).next m := by
  intro f g h1 _
  unfold startAt
  rw [if_neg]
  rintro ⟨_, h2⟩
  have h1' : n ≤ f := h1
  omega

/-- A run of the evaluator from the tables is a run of the model, whatever the tape. -/
theorem calls_start {ok d : Nat} {f : FuncId} {args : List AVal} {ts : List Tab} {v : AVal} {W : World} (hmix : P.follows .mixedOrders = true)
    (hgood : ∀ f, Nat.testBit ok f = true → ∀ fn, P.funcs[f]? = some fn → goodFunc fn = true) {fn : Func} (hfn : P.funcs[f]? = some fn) (hbody : fn.body.isSome = true) (hsz : P.globals.size ≤ W.heap.size)
    (ht : ∀ t ∈ ts, t.at' < P.globals.size ∧ 0 < t.es ∧ t.vs.length % t.es = 0 ∧ okvs (fun _ _ => none) t.vs ∧ t.vs.all AVal.scalar = true ∧ W.heap[t.at']? = some (.cells (concs (fun _ _ => none) t.vs).toArray t.ety (0, 0)))
    (hargs : okvs (startAt P.globals.size ts) args) (hc : (call P ok (d + 1) f args (start P.globals.size ts)).map Prod.fst = some v) :
    Calls P f (concs (startAt P.globals.size ts) args).toArray W fun e W' => ∃ σ', e = .returned (conc σ' v) ∧ okv σ' v ∧ RowKit.Below W.heap.size W W' := by
  obtain ⟨r, hr, hv⟩ := Option.map_eq_some_iff.1 hc
  obtain ⟨v', h'⟩ := r
  cases hv
  have H := start_rel hsz ht
  exact (calls_of hmix hgood hr hfn hbody H hargs (start_free _ _ _)).mono fun e W' ⟨σ', h1, h2, h3⟩ => ⟨σ', h1, h2, h3.below H⟩

end Go.Abs

namespace Go.Abs
open Go.ChangeShapes

mutual
/-- The cells that a datum of integers stands for. -/
def flatD : DataW Unit → Option (List AVal)
  | .lit (.int k n) => some [.int k n]
  | .agg ds => flatDs ds
  | _ => none
def flatDs : List (DataW Unit) → Option (List AVal)
  | [] => some []
  | d :: ds => (flatD d).bind fun a => (flatDs ds).map (a ++ ·)
end

/-- Fields that lie one behind another, from a place on. -/
def rowOf (P : Program) : List Field → Nat → Option Nat
  | [], a => some a
  | f :: fs, a => if f.offset = a then rowOf P fs (a + P.cellsOf f.type) else none

/-- A type of integers, arrays and structs of them, that lie close together. -/
def plainT (P : Program) : Nat → TypeId → Bool
  | 0, _ => false
  | k + 1, t => match P.underlying t with
    | some (.int _) => true
    | some (.array n e) => plainT P k e && Nat.beq (P.cellsOf t) (n * P.cellsOf e)
    | some (.struct fs) => fs.toList.all (fun f => plainT P k f.type) && rowOf P fs.toList 0 == some (P.cellsOf t)
    | _ => false

/-- What a list of cells holds. -/
def Holds (σ : Real) (cs : List Value) (vs : List AVal) : Prop := cs = concs σ vs ∧ okvs σ vs ∧ vs.all AVal.scalar = true

theorem Holds.append {σ : Real} {a b : List Value} {u v : List AVal} (h : Holds σ a u) (k : Holds σ b v) : Holds σ (a ++ b) (u ++ v) :=
  ⟨by rw [h.1, k.1, concs_append], okvs_append.2 ⟨h.2.1, k.2.1⟩, by rw [List.all_append, h.2.2, k.2.2]; rfl⟩

theorem drop_split {α : Type} (cs : List α) (a m : Nat) : cs.drop a = (cs.drop a).take m ++ cs.drop (a + m) := by
  rw [← List.drop_drop, List.take_append_drop]

/-- Pieces that lie one behind another. -/
theorem holds_pieces {ι : Type} {σ : Real} {cs : List Value} {off sz : ι → Nat} {g : ι → Option (DataW Unit × List MemPlace)} (items : List ι)
    (hg : ∀ i ∈ items, ∀ d p vs, g i = some (d, p) → flatD d = some vs → Holds σ ((cs.drop (off i)).take (sz i)) vs) :
    ∀ (a b : Nat) (xs : List (DataW Unit × List MemPlace)) (vs : List AVal), (∀ (l r : List ι) (i : ι), items = l ++ i :: r → off i = a + (l.map sz).sum) → b = a + (items.map sz).sum →
      items.mapM g = some xs → flatDs (xs.map (·.1)) = some vs → Holds σ ((cs.drop a).take (b - a)) vs := by
  induction items with
  | nil =>
    intro a b xs vs _ hb hm hf
    simp only [List.mapM_nil, Option.pure_def, Option.some.injEq] at hm
    subst hm
    simp only [List.map_nil, flatDs, Option.some.injEq] at hf
    subst hf
    simp only [List.map_nil, List.sum_nil, Nat.add_zero] at hb
    rw [hb, Nat.sub_self]
    exact ⟨rfl, trivial, rfl⟩
  | cons i items ih =>
    intro a b xs vs hoff hb hm hf
    rw [List.mapM_cons] at hm
    simp only [Option.bind_eq_bind, Option.bind_eq_some_iff, Option.pure_def, Option.some.injEq] at hm
    obtain ⟨⟨d, p⟩, h1, ys, h2, rfl⟩ := hm
    simp only [List.map_cons, flatDs, Option.bind_eq_some_iff, Option.map_eq_some_iff] at hf
    obtain ⟨u, hu, us, hus, rfl⟩ := hf
    have ho : off i = a := by have := hoff [] items i rfl; simpa using this
    have k1 := hg i (by simp) d p u h1 hu
    rw [ho] at k1
    have k2 := ih (fun j hj => hg j (by simp [hj])) (a + sz i) b ys us (fun l r j hj => by
      have := hoff (i :: l) r j (by rw [hj]; rfl)
      simp only [List.map_cons, List.sum_cons] at this
      omega) (by simp only [List.map_cons, List.sum_cons] at hb; omega) h2 hus
    have hb' : b - a = sz i + (b - (a + sz i)) := by simp only [List.map_cons, List.sum_cons] at hb; omega
    rw [hb', List.take_add, List.drop_drop]
    exact k1.append k2

theorem rowOf_off (P : Program) : ∀ (fs : List Field) (a b : Nat), rowOf P fs a = some b →
    (∀ (l r : List Field) (f : Field), fs = l ++ f :: r → f.offset = a + (l.map fun f => P.cellsOf f.type).sum) ∧ b = a + (fs.map fun f => P.cellsOf f.type).sum
  | [], a, b, h => by
    simp only [rowOf, Option.some.injEq] at h
    subst h
    exact ⟨fun l r f hf => by simp at hf, by simp⟩
  | f :: fs, a, b, h => by
    unfold rowOf at h
    split at h
    · rename_i ho
      obtain ⟨h1, h2⟩ := rowOf_off P fs _ _ h
      refine ⟨fun l r g hg => ?_, by simp only [List.map_cons, List.sum_cons]; omega⟩
      cases l with
      | nil => simp only [List.nil_append, List.cons.injEq] at hg; rw [← hg.1]; simpa using ho
      | cons x l =>
        simp only [List.cons_append, List.cons.injEq] at hg
        have := h1 l r g hg.2
        simp only [List.map_cons, List.sum_cons, ← hg.1]
        omega
    · cases h

theorem sum_const (c : Nat) : ∀ l : List Nat, (l.map fun _ => c).sum = l.length * c
  | [] => by simp
  | x :: l => by simp only [List.map_cons, List.sum_cons, sum_const c l, List.length_cons, Nat.succ_mul]; omega

/-- Cells that read as a datum of integers. -/
theorem holds_trod {P : Program} {w : World} {base : Nat} {sp : Nat → Bool} {held : Bool} {σ : Real} : ∀ (k fuel : Nat) (t : TypeId) (cs : List Value) (d : DataW Unit) (p : List MemPlace) (vs : List AVal),
    plainT P k t = true → DataW.trod (fun _ => ()) P w base sp held fuel t cs = some (d, p) → flatD d = some vs → Holds σ cs vs := by
  intro k
  induction k with
  | zero => intro fuel t cs d p vs hp; cases hp
  | succ k ih =>
    intro fuel t cs d p vs hp ht hf
    unfold plainT at hp
    split at hp
    · rename_i ik hu
      obtain ⟨n, rfl, hx, _⟩ := DataW.trod_int hu ht
      cases hx
      simp only [flatD, Option.some.injEq] at hf
      subst hf
      exact ⟨rfl, ⟨trivial, trivial⟩, rfl⟩
    · rename_i n e hu
      rw [Bool.and_eq_true, Nat.beq_eq] at hp
      cases fuel with
      | zero => simp [DataW.trod] at ht
      | succ fuel =>
        simp only [DataW.trod, hu] at ht
        split at ht
        · rename_i hl
          obtain ⟨xs, hm, hx⟩ := Option.map_eq_some_iff.1 ht
          cases hx
          rw [flatD] at hf
          have := holds_pieces (σ := σ) (cs := cs) (off := fun i => i * P.cellsOf e) (sz := fun _ => P.cellsOf e) (List.range n) (fun i _ d p vs h1 h2 => ih fuel e _ d p vs hp.1 h1 h2) 0 (n * P.cellsOf e) xs vs
            (fun l r i hi => by
              have hli : i = l.length := by
                have h3 : (List.range n)[l.length]? = some i := by rw [hi]; simp
                rw [List.getElem?_range] at h3
                · simpa using h3.symm
                · have := congrArg List.length hi; simp at this; omega
              rw [sum_const, hli]; omega)
            (by rw [sum_const]; simp) hm hf
          rw [Nat.sub_zero, List.drop_zero, List.take_of_length_le (by omega)] at this
          exact this
        · cases ht
    · rename_i fs hu
      rw [Bool.and_eq_true] at hp
      obtain ⟨hp1, hp2⟩ := hp
      have hp3 : rowOf P fs.toList 0 = some (P.cellsOf t) := by simpa using hp2
      obtain ⟨o1, o2⟩ := rowOf_off P _ _ _ hp3
      cases fuel with
      | zero => simp [DataW.trod] at ht
      | succ fuel =>
        simp only [DataW.trod, hu] at ht
        split at ht
        · rename_i hl
          obtain ⟨xs, hm, hx⟩ := Option.map_eq_some_iff.1 ht
          cases hx
          rw [flatD] at hf
          have := holds_pieces (σ := σ) (cs := cs) (off := fun f : Field => f.offset) (sz := fun f => P.cellsOf f.type) fs.toList (fun f hf' d p vs h1 h2 => ih fuel f.type _ d p vs (List.all_eq_true.1 hp1 f hf') h1 h2) 0 (P.cellsOf t) xs vs
            o1 o2 hm hf
          rw [Nat.sub_zero, List.drop_zero, List.take_of_length_le (by omega)] at this
          exact this
        · cases ht
    · cases hp

end Go.Abs

namespace Go.Abs
variable {P : Program}

theorem laid_get {W : World} : ∀ {laid : List (String × DataW Unit)} {ps : List MemPlace}, DataW.LaidVars P W laid ps → ∀ x ∈ laid, ∃ g t cs fuel p, P.globalNamed x.1 = some g ∧ (P.globals[g]?).map (·.type) = some t ∧ W.var? P x.1 = some cs ∧
    DataW.trod (fun _ => ()) P W 0 (fun _ => true) false fuel t cs.toList = some (x.2, p)
  | [], _, _, x, hx => by cases hx
  | (n, d) :: r, ps, h, x, hx => by
    obtain ⟨g, t, cs, fuel, p, q, h1, h2, h3, h4, h5, _⟩ := h
    rcases List.mem_cons.1 hx with rfl | hx
    · exact ⟨g, t, cs, fuel, p, h1, h2, h3, h4⟩
    · exact laid_get h5 x hx

/-- What has to be known of a table, by the program's text alone. -/
structure Tab.Is (P : Program) (laid : List (String × DataW Unit)) (t : Tab) (x : String × DataW Unit) (ty : TypeId) (k : Nat) : Prop where
  mem : x ∈ laid
  named : P.globalNamed x.1 = some t.at'
  lt : t.at' < P.globals.size
  type : (P.globals[t.at']?).map (·.type) = some ty
  plain : plainT P k ty = true
  flat : flatD x.2 = some t.vs
  pos : 0 < t.es
  fits : t.vs.length % t.es = 0
  made : ∃ zero, ((begin P (fun _ _ => 0) default).world.heap[t.at']?).bind Obj.row? = some (zero, t.ety)

theorem tab_met {W : World} {laid : List (String × DataW Unit)} {t : Tab} {x : String × DataW Unit} {ty : TypeId} {k : Nat} (hW : W.ShapedOpen P) (hL : laidMet P laid W) (h : t.Is P laid x ty k) :
    t.at' < P.globals.size ∧ 0 < t.es ∧ t.vs.length % t.es = 0 ∧ okvs (fun _ _ => none) t.vs ∧ t.vs.all AVal.scalar = true ∧ W.heap[t.at']? = some (.cells (concs (fun _ _ => none) t.vs).toArray t.ety (0, 0)) := by
  obtain ⟨ps, hv, _⟩ := hL
  obtain ⟨g, ty', cs, fuel, p, h1, h2, h3, h4⟩ := laid_get hv x h.mem
  obtain rfl : g = t.at' := Option.some.inj (h1.symm.trans h.named)
  obtain rfl : ty' = ty := Option.some.inj (h2.symm.trans h.type)
  obtain ⟨zero, hz⟩ := h.made
  obtain ⟨cs', c1, _, _⟩ := hW.1 t.at' zero t.ety h.lt hz
  have hcs : cs' = cs := by
    unfold World.var? at h3
    rw [h.named] at h3
    simp only [Option.bind_some, c1] at h3
    exact Option.some.inj h3
  subst hcs
  obtain ⟨e1, e2, e3⟩ := holds_trod (σ := fun _ _ => none) k fuel ty' cs'.toList x.2 p t.vs h.plain h4 h.flat
  refine ⟨h.lt, h.pos, h.fits, e2, e3, ?_⟩
  rw [c1, ← e1]

theorem globals_in {W : World} (hW : W.ShapedOpen P) (h : ∀ g, P.globals.size = g + 1 → ∃ zero t, ((begin P (fun _ _ => 0) default).world.heap[g]?).bind Obj.row? = some (zero, t)) : P.globals.size ≤ W.heap.size := by
  cases hs : P.globals.size with
  | zero => exact Nat.zero_le _
  | succ g =>
    obtain ⟨zero, t, hz⟩ := h g hs
    obtain ⟨cs, c1, _⟩ := hW.1 g zero t (by omega) hz
    exact (Array.getElem?_eq_some_iff.1 c1).1

end Go.Abs

namespace Go.Abs
open Go.RowKit Go.ChangeShapes Go.WideShapes
section
variable {H : Type} {enc : TypeId × Value → H} {P : Program}

theorem trodAll_long {w : World} {base : Nat} {spare : Nat → Bool} {held : Bool} : ∀ {ts : List TypeId} {vs : List Value} {ds : List (DataW H)} {ps : List MemPlace}, DataW.TrodAll enc P w base spare held ts vs ds ps → vs.length = ts.length ∧ ds.length = ts.length
  | [], _, _, _, h => by
    obtain ⟨rfl, rfl, _⟩ := trodAll_nil h
    exact ⟨rfl, rfl⟩
  | _ :: _, _, _, _, h => by
    obtain ⟨v, vs1, d, ds1, a, b, rfl, rfl, rfl, _, h2⟩ := trodAll_cons h
    have := trodAll_long h2
    simp [this.1, this.2]

/-- The arguments read behind the call as they did before. -/
theorem trodAll_carry (hl : laidOutB P = true) {W W' : World} (hb : Below W.heap.size W W') : ∀ {ts : List TypeId} {vs : List Value} {ds : List (DataW H)} {ps : List MemPlace},
    ts.all (fun t => P.readableRec t && decide (t < P.types.size)) = true → DataW.TrodAll enc P W 0 (fun _ => true) true ts vs ds ps → (∀ x ∈ ps, x.block < W.heap.size) → ∀ sp : Nat → Bool, (∀ p ∈ ps, sp p.block = true) → DataW.TrodAll enc P W' 0 sp true ts vs ds ps
  | [], _, _, _, _, h, _, _, _ => by
    obtain ⟨rfl, rfl, rfl⟩ := trodAll_nil h
    rfl
  | t :: ts, _, _, _, ht, h, hlt, sp, hsp => by
    obtain ⟨v, vs, d, ds, p, q, rfl, rfl, rfl, h1, h2⟩ := trodAll_cons h
    simp only [List.all_cons, Bool.and_eq_true, decide_eq_true_eq] at ht
    exact trodAll_cons_mk (WideElems.Trod_stays hl ht.1.1 ht.1.2 h1 (fun x hx => hb.same (hlt x (by simp [hx]))) (fun x hx => hsp x (by simp [hx])))
      (trodAll_carry hl hb (by simpa using ht.2) h2 (fun x hx => hlt x (by simp [hx])) sp (fun x hx => hsp x (by simp [hx])))

/-- A law that answers true and changes nothing that was there. -/
theorem post_true {f : Func} {s : ChangeSpec} {apart fresh handsOn again : Bool} {W W' : World} {args : Array Value} {ds gs : List (DataW H)} {before : List MemPlace} {bt : TypeId}
    (hl : laidOutB P = true) (hpar : f.params.toList.all (fun t => P.readableRec t && decide (t < P.types.size)) = true) (hvars : s.vars = []) (hres : f.resultTypes = #[bt]) (hbt : P.underlying bt = some .bool)
    (hW : DataW.Whole enc P f.params.toList s.vars apart W args.toList ds gs before) (hs : s.fn H (ds ++ gs) = { results := [.lit (.bool true)], args := ds }) (hb : Below W.heap.size W W') :
    s.post enc P f apart fresh handsOn again W args (.bool true) W' := by
  have hlt : ∀ p ∈ before, p.block < W.heap.size := fun p hp => hW.lt p hp
  have hold : ∀ p ∈ before, (fun b => decide (b < W.heap.size)) p.block = true := fun p hp => by simpa using hlt p hp
  have hW0 := hW
  obtain ⟨p, q, hA, hV, he, hz, hn⟩ := hW
  rw [hvars] at hV
  obtain ⟨rfl, rfl⟩ := trodVars_none hV
  rw [List.append_nil] at he
  subst he
  have hr : ∀ (b : Nat) (sp : Nat → Bool) (hd : Bool), DataW.TrodAll enc P W' b sp hd f.resultTypes.toList ((Value.bool true).resultList f.resultTypes.size) (s.fn H (ds ++ [])).results [] := fun b sp hd => by
    rw [hs, hres]
    exact trodAll_mk1 (shut_bool hbt _)
  have ha : ∀ sp : Nat → Bool, (∀ x ∈ before, sp x.block = true) → DataW.TrodAll enc P W' 0 sp true f.params.toList args.toList (s.fn H (ds ++ [])).args before := fun sp hsp => by
    rw [hs]
    exact trodAll_carry hl hb hpar hA hlt sp hsp
  have hv : ∀ sp : Nat → Bool, DataW.TrodVars enc P W' sp s.vars (s.fn H (ds ++ [])).vars [] := fun sp => by
    rw [hs, hvars]
    rfl
  refine ⟨ds, [], before, [], before, [], hW0, hr _ _ _, ha _ hold, hv _, World.keptBut_mono (fun x hx => ⟨hx, by simpa using hx⟩) (hb.frame (· ∈ before)), fun _ => ?_⟩
  refine ⟨ok_one hres rfl (okWide_bool_mk hbt _), _, _, ([] ++ before) ++ [], ⟨[] ++ before, [], trodAll_append (ha _ (fun _ _ => rfl)) (hr _ _ _), hv _, by simp, ?_, ?_⟩, ?_⟩
  · intro b off hp
    have hin : MemPlace.cell b off ∈ before := by simpa using hp
    rw [hb.frozen (hlt _ hin)]
    exact hz b off hin
  · intro hap
    simpa using hn hap
  · intro x hx _
    simpa using hx
end

/-- The row of a law from the contract of its function. -/
theorem law_row {H : Type} {enc : TypeId × Value → H} {a : Assume} {C : Checked} {os : Os} {f : FuncId} {fn : Func} {s : ChangeSpec} {conds : List PathCond} {apart fresh handsOn again : Bool} {laid : List (String × DataW Unit)} {bt : TypeId}
    (own : ownKnob C.prog.godebug = none) (started : os.Started) (noInit : C.prog.inits.idxOf? f = none) (hfn : C.prog.funcs[f]? = some fn)
    (hl : laidOutB C.prog = true) (hpar : fn.params.toList.all (fun t => C.prog.readableRec t && decide (t < C.prog.types.size)) = true) (hvars : s.vars = []) (hres : fn.resultTypes = #[bt]) (hbt : C.prog.underlying bt = some .bool)
    (hs : ∀ ds : List (DataW H), ds.length = fn.params.toList.length → s.fn H ds = { results := [.lit (.bool true)], args := ds })
    (witness : ∃ (w : World) (tape : Tape) (i : Input), w.os = os ∧ (w.forCall tape i).Shaped C.prog ∧ i.vars = [] ∧ Input.okWide C.prog (w.forCall tape i) .any w.heap.size f i ∧
      ((s.pre enc C.prog fn conds apart (w.forCall tape i).memory i.args ∧ laidMetH C.prog laid (w.forCall tape i).memory) ∧ sizedMet enc C.prog fn (OpenSpec.ofChange s) apart (w.forCall tape i).memory i.args) ∧ a.holds C.prog (lone (Frame.enter C.prog f i.args .normal) [] (w.forCall tape i)))
    (contract : ∀ (W : World) (base : Nat) (args : Array Value) (ds : List (DataW H)) (before : List MemPlace),
      (∀ (j : Nat) t v, fn.params[j]? = some t → args[j]? = some v → Value.okWide C.prog W .any base t v) →
      DataW.TrodAll enc C.prog W 0 (fun _ => true) true fn.params.toList args.toList ds before →
      (DataW.weightsEach C.prog fn.params.toList ds).all (· ≤ reachBytes) = true → W.ShapedOpen C.prog → laidMetH C.prog laid W →
      Calls C.prog f args W fun e W' => e = .returned (.bool true) ∧ Below W.heap.size W W') :
    ReturnsInHanded a C os f .any (fun w args => (s.pre enc C.prog fn conds apart w args ∧ laidMetH C.prog laid w) ∧ sizedMet enc C.prog fn (OpenSpec.ofChange s) apart w args) (s.post enc C.prog fn apart fresh handsOn again) := by
  refine returnsInHanded_of_calls own started noInit witness ?_
  intro w tape i _ hsh _ hok hpre hholds
  obtain ⟨_, _, _, fn', hfn', _, _, _, _, hval⟩ := hok
  have e : fn' = fn := Option.some.inj (hfn'.symm.trans hfn)
  subst e
  obtain ⟨⟨⟨ds, gs, before, hw, hc⟩, hx⟩, hz⟩ := hpre
  have hw' := DataW.Whole.of_heap (w' := w.forCall tape i) (by rfl) hw
  have hwe := hz.weights hw
  have hx' : laidMetH C.prog laid (w.forCall tape i) := hx.of_heap (by rfl)
  have hw0 := hw'
  obtain ⟨p, q, hA, hV, he, hfz, hnd⟩ := hw'
  rw [hvars] at hV
  obtain ⟨rfl, rfl⟩ := trodVars_none hV
  rw [List.append_nil] at hwe
  have hwe' : (DataW.weightsEach C.prog fn'.params.toList ds).all (· ≤ reachBytes) = true := by
    have e1 : (OpenSpec.ofChange s).bare.plain.varTypes C.prog = [] := by
      show (s.vars.filterMap _) = []
      rw [hvars]; rfl
    rw [e1, List.append_nil] at hwe
    exact hwe
  refine (contract (w.forCall tape i) w.heap.size i.args ds p hval hA hwe' hsh hx').mono fun e W' ⟨h1, h2⟩ => ?_
  subst h1
  exact ChangeSpec.post_blind (post_true hl hpar hvars hres hbt hw0 (by rw [List.append_nil]; exact hs ds (trodAll_long hA).2) h2)

end Go.Abs
