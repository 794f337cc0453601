/- The symbolic evaluator is sound: regions, code and functions. -/
import Derived.Test.YthophmihgmjnfaaDoorEC
import Derived.OrdersHeld
import Derived.KernelRfl
set_option linter.unusedVariables false
set_option linter.unusedSimpArgs false
-- --
namespace Go.Sy
open Go.RowKit (Below)
variable {P : Program} {w0 : World} {F : Nat → Prop} {N : Nat}

abbrev Facts := List (Nat × (World → Prop))
def alive (all : Array Oper) (i : Nat) (Fs : Facts) : Facts := Fs.filter fun f => !Abs.ahead (Abs.masks all) f.1 i

/-- Whatever order is picked from here on; what a fact says is kept by the operations that need not wait for its own. -/
def wpAnyP (P : Program) (all : Array Oper) (Q : Exit → Act → World → Prop) : Facts → Nat → Array Bool → Act → World → Prop
  | _, 0, listed, a, w => Region.ready .any all listed = [] ∧ Q .normal a w
  | Fs, n + 1, listed, a, w => (Region.ready .any all listed = [] → Q .normal a w) ∧
    ∀ i ∈ Region.ready .any all listed, wpOp P all Q i (fun a' w' => (∀ f ∈ Fs, f.2 w → Abs.ahead (Abs.masks all) f.1 i = false → f.2 w') ∧ wpAnyP P all Q (alive all i Fs) n (listed.setIfInBounds i true) a' w') a w

variable {all : Array Oper} {Q : Exit → Act → World → Prop}

theorem wpAny_of_P : ∀ (n : Nat) (Fs : Facts) (listed : Array Bool) (a : Act) (w : World), wpAnyP P all Q Fs n listed a w → wpAny P .any all Q n listed a w
  | 0, _, _, _, _, h => h
  | n + 1, _, _, _, _, h => ⟨h.1, fun i hi => wpOp_mono (fun a' w' h' => wpAny_of_P n _ _ a' w' h'.2) (h.2 i hi)⟩
theorem wpAnyP_mono : ∀ (n : Nat) (Fs Gs : Facts) (listed : Array Bool) (a : Act) (w : World), (∀ f ∈ Gs, f ∈ Fs) → wpAnyP P all Q Fs n listed a w → wpAnyP P all Q Gs n listed a w
  | 0, _, _, _, _, _, _, h => h
  | n + 1, Fs, Gs, _, _, _, hs, h => ⟨h.1, fun i hi => wpOp_mono (fun a' w' h' => ⟨fun f hf => h'.1 f (hs f hf), wpAnyP_mono n (alive all i Fs) (alive all i Gs) _ a' w' (fun f hf => by
      unfold alive at *
      rw [List.mem_filter] at *
      exact ⟨hs f hf.1, hf.2⟩) h'.2⟩) (h.2 i hi)⟩

/-- What has come up, and all that it waited for. -/
def ClosedL (all : Array Oper) (listed : Array Bool) : Prop := Abs.Closed all (fun j => listed.getD j false = true)
theorem ClosedL.next {listed : Array Bool} (h : ClosedL all listed) {i : Nat} (hi : i ∈ Region.ready .any all listed) : ClosedL all (listed.setIfInBounds i true) := by
  intro j o hj hl e he hb
  obtain ⟨h0, oi, hoi, hall⟩ := mem_ready.1 hi
  by_cases hji : j = i
  · subst hji
    obtain rfl : oi = o := by rw [hoi] at hj; exact Option.some.inj hj
    exact getD_set_true (hall e he hb)
  · rw [getD_set_ne false (Ne.symm hji)] at hl
    exact getD_set_true (h j o hj hl e he hb)
theorem ClosedL.not_ahead {listed : Array Bool} (h : ClosedL all listed) {i j : Nat} (hj : j ∈ Region.ready .any all listed) (hi : i ∈ Region.ready .any all listed) : Abs.ahead (Abs.masks all) i j = false := by
  cases ha : Abs.ahead (Abs.masks all) i j with
  | false => rfl
  | true =>
    obtain ⟨_, o, ho, hall⟩ := mem_ready.1 hj
    have := Abs.ahead_sound h j i o ho hall ha
    have h0 := (mem_ready.1 hi).1
    rcases Nat.lt_or_ge i listed.size with h' | h'
    · simp [h'] at h0 this; rw [h0] at this; cases this
    · simp [Array.getElem?_eq_none h'] at this

/-- An operation that may come up may be taken first. -/
theorem wpAnyP_take {i : Nat} {oi : Oper} {v : Value} {S : World → Prop} (hi : all[i]? = some oi) (hsel : ∀ (j : Nat) (o : Oper) cs b, all[j]? = some o → o.op ≠ .select cs b)
    (hQ : ∀ c a w, Q (.panic c) (a.put oi.dst v) w → Q (.panic c) a w) :
    ∀ (n : Nat) (Fs : Facts) (listed : Array Bool) (a : Act) (w : World), ClosedL all listed →
      (∀ j oj, all[j]? = some oj → j ≠ i → listed.getD j true = false → (∀ e ∈ oj.after, Region.binds .any e = true → e.on ≠ i) → oi.apart all oj = true) →
      i ∈ Region.ready .any all listed → YieldsIf P all S oi v a → S w →
      wpAnyP P all Q ((i, S) :: Fs) n (listed.setIfInBounds i true) (a.put oi.dst v) w → wpAnyP P all Q Fs (n + 1) listed a w := by
  intro n
  induction n with
  | zero =>
    intro Fs listed a w hcl _ hr hy hS H
    refine ⟨fun h => (by rw [h] at hr; cases hr), fun j hj => ?_⟩
    by_cases hji : j = i
    · subst hji; exact hy.wpOp hi hS ⟨fun f _ hf _ => hf, H⟩
    · have := ready_mono hj hji
      rw [H.1] at this
      cases this
  | succ n ih =>
    intro Fs listed a w hcl hfree hr hy hS H
    refine ⟨fun h => (by rw [h] at hr; cases hr), fun j hj => ?_⟩
    by_cases hji : j = i
    · subst hji
      refine hy.wpOp hi hS ⟨fun f _ hf _ => hf, wpAnyP_mono _ _ _ _ _ _ (fun f hf => ?_) H⟩
      unfold alive at hf
      rw [List.mem_filter] at hf
      exact List.mem_cons_of_mem _ hf.1
    · have h1 := H.2 j (ready_mono hj hji)
      obtain ⟨hjun, oj, hoj, hall⟩ := mem_ready.1 hj
      have hnot : ∀ e ∈ oj.after, Region.binds .any e = true → e.on ≠ i := fun e he hb heq => by
        have h1 := hall e he hb
        have h0 := (mem_ready.1 hr).1
        rw [heq] at h1
        rcases Nat.lt_or_ge i listed.size with h' | h'
        · simp [h'] at h0 h1; rw [h0] at h1; cases h1
        · simp [Array.getElem?_eq_none h'] at h1
      have hna : Abs.ahead (Abs.masks all) i j = false := hcl.not_ahead hj hr
      have h2 := wpOp_putIf hoj (hfree j oj hoj hji hjun hnot) (fun cs b => hsel i oi cs b hi) (fun cs b => hsel j oj cs b hoj) hQ hy h1
      have hfree' : ∀ k ok, all[k]? = some ok → k ≠ i → (listed.setIfInBounds j true).getD k true = false →
          (∀ e ∈ ok.after, Region.binds .any e = true → e.on ≠ i) → oi.apart all ok = true := fun k ok hk hki hun hno => by
        refine hfree k ok hk hki ?_ hno
        by_cases hjk : j = k
        · subst hjk; exact hjun
        · rw [getD_set_ne true hjk] at hun; exact hun
      refine wpOp_mono (fun a' w' h3 => ⟨fun f hf => h3.2.1 f (List.mem_cons_of_mem _ hf), ih (alive all j Fs) (listed.setIfInBounds j true) a' w' (hcl.next hj) hfree' (ready_mono hr (Ne.symm hji)) h3.1 (h3.2.1 (i, S) (List.mem_cons_self ..) hS hna) ?_⟩) h2
      have h4 := h3.2.2
      have e : alive all j ((i, S) :: Fs) = (i, S) :: alive all j Fs := by
        unfold alive
        rw [List.filter_cons, if_pos (by rw [hna]; rfl)]
      rw [e, Array.setIfInBounds_comm _ _ (Ne.symm hji)] at h4
      first | exact h4 | (rw [Array.setIfInBounds_comm _ _ hji]; exact h4)

/-- What is done at a region's end. -/
def NQ (R : Act → World → Prop) : Exit → Act → World → Prop
  | .normal, a, w => R a w
  | _, _, _ => False

/-- What a fact stands on. -/
def Stands (s : St) (p : Pend) (f : Nat × (World → Prop)) : Prop := p.i = f.1 ∧ match p.own, p.old with
  | some k, _ => ∃ l, s.L[k]? = some l ∧ okvs s.L.length l.cells ∧ ∀ w, Whole w l.blk l.ty (reals (blks s.L) l.cells) → f.2 w
  | none, some (a, o, vs) => ∀ w, At w a o vs → f.2 w
  | none, none => False
def StandsAll (s : St) (ps : List Pend) (Fs : Facts) : Prop := ∀ f ∈ Fs, (∀ w, f.2 w) ∨ ∃ p ∈ ps, Stands s p f

theorem Stands.like {s s' : St} (h : s'.L = s.L) {p : Pend} {f : Nat × (World → Prop)} (k : Stands s p f) : Stands s' p f := by
  unfold Stands at *
  rw [h]; exact k
theorem StandsAll.like {s s' : St} (h : s'.L = s.L) {ps : List Pend} {Fs : Facts} (k : StandsAll s ps Fs) : StandsAll s' ps Fs := fun f hf => (k f hf).imp id fun ⟨p, h1, h2⟩ => ⟨p, h1, h2.like h⟩

theorem stillOk_elim {ms : List Nat} {i : Nat} {big : Bool} {ch D : List Nat} {w : World} : ∀ {ps : List Pend} {Q : Prop}, stillOk ms i big ch D w ps Q → Q ∧ ∀ p ∈ ps, Abs.ahead ms p.i i = false →
    match p.own, p.old with
    | some k, _ => k ∉ ch
    | none, some (a, o, vs) => (big = true → At w a o vs) ∧ (big = false → a.block ∉ D)
    | none, none => True
  | [], Q, h => ⟨h, fun p hp => by cases hp⟩
  | p :: ps, Q, h => by
    unfold stillOk at h
    split at h
    · rename_i ha
      obtain ⟨h1, h2⟩ := stillOk_elim h
      refine ⟨h1, fun q hq hn => ?_⟩
      rcases List.mem_cons.1 hq with rfl | hq
      · rw [ha] at hn; cases hn
      · exact h2 q hq hn
    · split at h
      · rename_i k hk
        split at h
        · exact h.elim
        · rename_i hc
          obtain ⟨h1, h2⟩ := stillOk_elim h
          refine ⟨h1, fun q hq hn => ?_⟩
          rcases List.mem_cons.1 hq with rfl | hq
          · rw [hk]; simpa using hc
          · exact h2 q hq hn
      · rename_i hk
        split at h
        · rename_i a o vs ho
          cases big with
          | true =>
            obtain ⟨h0, h⟩ := h
            obtain ⟨h1, h2⟩ := stillOk_elim h
            refine ⟨h1, fun q hq hn => ?_⟩
            rcases List.mem_cons.1 hq with rfl | hq
            · rw [hk, ho]; exact ⟨fun _ => h0, fun e => absurd e (by simp)⟩
            · exact h2 q hq hn
          | false =>
            obtain ⟨h0, h⟩ := notIn_sound h
            obtain ⟨h1, h2⟩ := stillOk_elim h
            refine ⟨h1, fun q hq hn => ?_⟩
            rcases List.mem_cons.1 hq with rfl | hq
            · rw [hk, ho]; exact ⟨fun e => absurd e (by simp), fun _ => h0⟩
            · exact h2 q hq hn
        · rename_i ho
          obtain ⟨h1, h2⟩ := stillOk_elim h
          refine ⟨h1, fun q hq hn => ?_⟩
          rcases List.mem_cons.1 hq with rfl | hq
          · rw [hk, ho]; trivial
          · exact h2 q hq hn

theorem firstCalm_mem {l : List Oper} : ∀ {is : List Nat} {i : Nat}, firstCalm P l is = some i → i ∈ is ∧ ∃ o, l[i]? = some o ∧ calmB P o.op = true
  | [], i, h => by cases h
  | j :: js, i, h => by
    unfold firstCalm at h
    split at h
    · rename_i o ho
      split at h
      · rename_i hc
        cases h
        exact ⟨List.mem_cons_self .., o, ho, hc⟩
      · obtain ⟨h1, h2⟩ := firstCalm_mem h
        exact ⟨List.mem_cons_of_mem _ h1, h2⟩
    · obtain ⟨h1, h2⟩ := firstCalm_mem h
      exact ⟨List.mem_cons_of_mem _ h1, h2⟩


theorem calm_not_ahead {s : St} {a : Act} {w : World} {o : Oper} {i : Nat} {v : SV} {q : Pend} (H : Ok w0 F N s a w) (hp : pendOf P i o.op s v = some q) (hl : isLoad o.op = true) (hf : fact P s o.op v) : Stands s q (i, needs P s o.op v) := by
  obtain ⟨dst, op, ty, pos, after, guard⟩ := o
  cases op with
  | load t x =>
    simp only [pendOf] at hp
    simp only [fact] at hf
    split at hp
    · rename_i k o hx
      cases hp
      rw [hx] at hf
      obtain ⟨l, h1, h2, h3⟩ := hf
      refine ⟨rfl, l, h1, (H.cells k l h1).1, fun w hw => ?_⟩
      simp only [needs, hx, readsAt]
      exact At.own h1 hw h3
    · rename_i ad o hx
      cases hp
      refine ⟨rfl, fun w hw => ?_⟩
      simp only [needs, hx, readsAt]
      exact hw
    · cases hp
  | _ => cases hl

theorem pendOf_old {s : St} {o : Oper} {i : Nat} {v : SV} {q : Pend} (hp : pendOf P i o.op s v = some q) (hf : fact P s o.op v) (hn : q.own = none) {ad : Addr} {ofs : Nat} {vs : List Value} (ho : q.old = some (ad, ofs, vs)) : At s.wb ad ofs vs := by
  obtain ⟨dst, op, ty, pos, after, guard⟩ := o
  cases op with
  | load t x =>
    simp only [pendOf] at hp
    simp only [fact] at hf
    split at hp
    · cases hp; cases hn
    · rename_i ad' o' hx
      cases hp
      rw [hx] at hf
      cases ho
      exact hf.2
    · cases hp
  | _ => cases hp; cases ho

/-- Behind a step that is no calm one. -/
theorem stands_next {s s' : St} {a : Act} {w' : World} (H' : Ok w0 F N s' a w') {ch : List Nat} (hm : Moves s s' ch) {p : Pend} {f : Nat × (World → Prop)} (h : Stands s p f) {big : Bool} (hb1 : big = true → s'.D = []) (hb2 : big = false → s'.wb = s.wb) (hw : big = false → ∀ a o vs, p.own = none → p.old = some (a, o, vs) → At s.wb a o vs)
    (hs : match p.own, p.old with
      | some k, _ => k ∉ ch
      | none, some (a, o, vs) => (big = true → At s'.wb a o vs) ∧ (big = false → a.block ∉ s'.D)
      | none, none => True) : Stands s' p f ∧ f.2 w' ∧ (∀ a o vs, p.own = none → p.old = some (a, o, vs) → At s'.wb a o vs) := by
  obtain ⟨hi, h⟩ := h
  have hal : Alike s.L.length (blks s.L) (blks s'.L) := alike_of fun k l hl => by
    obtain ⟨l', h1, h2, _⟩ := hm.old k l hl
    exact ⟨l', h1, h2⟩
  cases ho : p.own with
  | some k =>
    rw [ho] at h hs
    simp only [] at h hs
    obtain ⟨l, hl, hok, hf⟩ := h
    obtain ⟨l', q1, _, _, _, q5, _⟩ := hm.old k l hl
    obtain rfl := q5 hs
    have hr : reals (blks s'.L) l'.cells = reals (blks s.L) l'.cells := reals_alike hal _ hok
    refine ⟨⟨hi, ?_⟩, hf w' (by rw [← hr]; exact (H'.lies k l' q1).1), fun _ _ _ e => by cases e⟩
    rw [ho]
    exact ⟨l', q1, (H'.cells k l' q1).1, fun w hw => hf w (by rw [← hr]; exact hw)⟩
  | none =>
    rw [ho] at h hs
    cases hold : p.old with
    | none => rw [hold] at h; exact h.elim
    | some x =>
      obtain ⟨ad, o, vs⟩ := x
      rw [hold] at h hs
      simp only [] at h hs
      have hat : At s'.wb ad o vs ∧ ad.block ∉ s'.D := by
        cases hbig : big with
        | true => exact ⟨hs.1 hbig, by rw [hb1 hbig]; simp⟩
        | false => exact ⟨by rw [hb2 hbig]; exact hw hbig ad o vs ho hold, hs.2 hbig⟩
      refine ⟨⟨hi, by rw [ho, hold]; exact h⟩, h w' (hat.1.grown H'.grow hat.2), fun a' o' vs' _ e => ?_⟩
      cases e
      exact hat.1

end Go.Sy

namespace Go.Sy
open Go.RowKit (Below)
variable {P : Program} {w0 : World} {F : Nat → Prop} {N : Nat}
variable {all : Array Oper}

/-- What is known of the loads that may yet come up. -/
def OldAll (s : St) (ps : List Pend) : Prop := ∀ p ∈ ps, p.own = none → ∀ a o vs, p.old = some (a, o, vs) → At s.wb a o vs

theorem draw_sound (hsel : Region.noSelect all = true) (hd : ∀ o ∈ all.toList, ∀ d, o.dst = some d → d < N) {R : Act → World → Prop} :
    ∀ (n : Nat) (listed : Array Bool) (pend : List Pend) (Fs : Facts) (s : St) (a : Act) (w : World) (K : St → Prop), ClosedL all listed → StandsAll s pend Fs → OldAll s pend → Ok w0 F N s a w →
      draw P w0 F all (Abs.masks all) n listed pend s K → (∀ s' a' w', K s' → Ok w0 F N s' a' w' → (∃ ch, Moves s s' ch) → Same (Dst all.toList) a a' → R a' w') → wpAnyP P all (NQ R) Fs n listed a w := by
  have hin : ∀ (i : Nat) (o : Oper), all[i]? = some o → o ∈ all.toList := fun i o ho => by
    have : all.toList[i]? = some o := by rw [Array.getElem?_toList]; exact ho
    exact List.mem_of_getElem? this
  have hdst : ∀ (i : Nat) (o : Oper), all[i]? = some o → ∀ d, o.dst = some d → d < N := fun i o ho => hd o (hin i o ho)
  intro n
  induction n with
  | zero =>
    intro listed pend Fs s a w K _ _ _ H h hR
    unfold draw at h
    split at h
    · rename_i hr
      exact ⟨hr, hR s a w h H ⟨[], Moves.refl _ _⟩ (Same.refl _ _)⟩
    · exact h.elim
  | succ n ih =>
    intro listed pend Fs s a w K hcl hst hold H h hR
    -- an operation that leaves memory alone, or does not run
    have take : ∀ (i : Nat) (o : Oper) (s2 : St) (v : SV) (q : List Pend) (S : World → Prop), all[i]? = some o → i ∈ Region.ready .any all listed → Region.free .any all listed i = true → Ok w0 F N s2 a w → s2.L = s.L → okv s2.L.length v →
        YieldsIf P all S o (real (blks s2.L) v) a → S w → StandsAll s2 (q ++ pend) ((i, S) :: Fs) → OldAll s2 (q ++ pend) →
        draw P w0 F all (Abs.masks all) n (listed.setIfInBounds i true) (q ++ pend) (s2.put o.dst v) K → wpAnyP P all (NQ R) Fs (n + 1) listed a w := by
      intro i o s2 v q S ho hr hf H2 hL hv hy hS hst2 hold2 h2
      refine wpAnyP_take ho (Region.noSelect_spec hsel) (fun c a w h => h) n Fs listed a w hcl (Region.free_spec ho hf) hr hy hS ?_
      refine ih _ (q ++ pend) ((i, S) :: Fs) (s2.put o.dst v) _ w K (hcl.next hr) (hst2.like (put_L _ _ _)) (fun p hp ho' a' o' vs' e => by rw [put_wb]; exact hold2 p hp ho' a' o' vs' e) (H2.put (fun d hd' => hdst i o ho d hd') hv) h2 ?_
      intro s' a' w' k1 k2 ⟨ch, k3⟩ k4
      exact hR s' a' w' k1 k2 ⟨_, (Moves.ofEq (s' := s2.put o.dst v) ((put_L _ _ _).trans hL) []).trans k3⟩ ((Same.put a (fun t ht => ⟨o, hin i o ho, ht⟩) _).trans k4)
    have skip : ∀ (i : Nat) (o : Oper) (s2 : St), all[i]? = some o → i ∈ Region.ready .any all listed → Region.free .any all listed i = true → Ok w0 F N s2 a w → Like s s2 → Region.wanted o (yielded all a.tmps) = false →
        draw P w0 F all (Abs.masks all) n (listed.setIfInBounds i true) pend (s2.put o.dst (.tup [])) K → wpAnyP P all (NQ R) Fs (n + 1) listed a w := by
      intro i o s2 ho hr hf H2 hl hw h2
      obtain ⟨T, rfl⟩ := hl
      exact take i o _ (.tup []) [] (fun _ => True) ho hr hf H2 rfl trivial (.inr ⟨hw, rfl⟩) trivial (fun f hf => by
        rcases List.mem_cons.1 hf with rfl | hf
        · exact .inl fun _ => trivial
        · exact (hst.like rfl) f hf) hold h2
    unfold draw at h
    split at h
    · rename_i hr
      exact ⟨fun _ => hR s a w h H ⟨[], Moves.refl _ _⟩ (Same.refl _ _), by rw [hr]; simp⟩
    · rename_i r rs hr
      split at h
      · rename_i i hfc
        obtain ⟨hmem, oc, hoc, hcalm⟩ := firstCalm_mem hfc
        rw [← hr] at hmem
        split at h
        · rename_i o hfree ho
          have hoo : oc = o := by
            have : all.toList[i]? = some o := by rw [Array.getElem?_toList]; exact ho
            rw [this] at hoc; exact (Option.some.inj hoc).symm
          subst hoo
          obtain ⟨s1, b, h, H1, hw, hl1⟩ := guarded_sound H h
          cases b with
          | false => exact skip i oc s1 ho hmem hfree H1 hl1 hw h
          | true =>
            simp only [] at h
            obtain ⟨s2, h, H2, hl2⟩ := picked_sound H1 h
            obtain ⟨v, v1, v2, v3, v4⟩ := calm_sound (P := P) (o := oc) H2.env H2.cells h
            have hlike : Like s s2 := by
              obtain ⟨T1, rfl⟩ := hl1
              obtain ⟨T2, rfl⟩ := hl2
              exact ⟨T2, rfl⟩
            have hLL := hlike.L
            have hy : YieldsIf P all (needs P s2 oc.op v) oc (real (blks s2.L) v) a := .inl ⟨hw, fun w hw => v4 w hw⟩
            cases hload : isLoad oc.op with
            | true =>
              rw [hload] at v2
              split at v2
              · rename_i q e1 hq
                have hs := calm_not_ahead H2 hq hload v3
                refine take i oc s2 v [q] _ ho hmem hfree H2 hLL v1 hy (H2.needs v3) (fun f hf => ?_) (fun p hp hpo a' o' vs' e => ?_) v2
                · rcases List.mem_cons.1 hf with rfl | hf
                  · exact .inr ⟨q, by simp, hs⟩
                  · rcases (hst.like hLL) f hf with h1 | ⟨p, h1, h2⟩
                    · exact .inl h1
                    · exact .inr ⟨p, List.mem_append_right _ h1, h2⟩
                · rcases List.mem_append.1 hp with hp | hp
                  · rw [List.mem_singleton] at hp
                    subst hp
                    exact pendOf_old hq v3 hpo e
                  · obtain ⟨T, rfl⟩ := hlike
                    exact hold p hp hpo a' o' vs' e
              · exact v2.elim
              · rename_i e1; cases e1
            | false =>
              rw [hload] at v2
              have v2' : draw P w0 F all (Abs.masks all) n (listed.setIfInBounds i true) pend (s2.put oc.dst v) K := v2
              refine take i oc s2 v [] (fun _ => True) ho hmem hfree H2 hLL v1 (.inl ⟨hw, fun w _ => v4 w ?_⟩) trivial (fun f hf => ?_) ?_ v2'
              · cases hop : oc.op with
                | load t x => rw [hop] at hload; cases hload
                | _ => trivial
              · rcases List.mem_cons.1 hf with rfl | hf
                · exact .inl fun _ => trivial
                · exact (hst.like hLL) f hf
              · obtain ⟨T, rfl⟩ := hlike
                exact hold
        · exact h.elim
      · split at h
        · rename_i o ho
          have hmem : r ∈ Region.ready .any all listed := by rw [hr]; simp
          obtain ⟨s1, b, h, H1, hw, hl1⟩ := guarded_sound H h
          cases b with
          | false =>
            simp only [] at h
            split at h
            · rename_i hfree
              exact skip r o s1 ho hmem hfree H1 hl1 hw h
            · exact h.elim
          | true =>
            simp only [] at h
            split at h
            · refine ⟨fun e => (by rw [hr] at e; cases e), fun i hi => ?_⟩
              rw [hr, List.mem_singleton] at hi
              subst hi
              unfold wpOp
              simp only [ho, hw, if_true]
              refine .inl (loud_sound H1 h ?_)
              intro v s2 ch w2 hk hm hb1 hb2 H2 hv
              have hall : (∀ f ∈ Fs, f.2 w → Abs.ahead (Abs.masks all) f.1 i = false → f.2 w2) ∧ StandsAll s2 (pend.filter fun p => !Abs.ahead (Abs.masks all) p.i i) (alive all i Fs) ∧ OldAll s2 (pend.filter fun p => !Abs.ahead (Abs.masks all) p.i i) ∧
                  draw P w0 F all (Abs.masks all) n (listed.setIfInBounds i true) (pend.filter fun p => !Abs.ahead (Abs.masks all) p.i i) (s2.put o.dst v) K := by
                obtain ⟨k1, k2⟩ := stillOk_elim hk
                obtain ⟨T1, rfl⟩ := hl1
                have step : ∀ p ∈ pend, ∀ f, Stands s p f → Abs.ahead (Abs.masks all) f.1 i = false → Stands s2 p f ∧ f.2 w2 := fun p hp f hs hn => by
                  have hn' : Abs.ahead (Abs.masks all) p.i i = false := by rw [hs.1]; exact hn
                  have := stands_next (s := { s with T := T1 }) H2 hm (hs.like rfl) hb1 hb2 (fun _ a' o' vs' hpo e => hold p hp hpo a' o' vs' e) (k2 p hp hn')
                  exact ⟨this.1, this.2.1⟩
                refine ⟨fun f hf _ hn => ?_, fun f hf => ?_, fun p hp hpo a' o' vs' e => ?_, k1⟩
                · rcases hst f hf with h1 | ⟨p, h1, h2⟩
                  · exact h1 w2
                  · exact (step p h1 f h2 hn).2
                · unfold alive at hf
                  rw [List.mem_filter] at hf
                  have hn : Abs.ahead (Abs.masks all) f.1 i = false := by simpa using hf.2
                  rcases hst f hf.1 with h1 | ⟨p, h1, h2⟩
                  · exact .inl h1
                  · exact .inr ⟨p, List.mem_filter.2 ⟨h1, by rw [h2.1, hn]; rfl⟩, (step p h1 f h2 hn).1⟩
                · rw [List.mem_filter] at hp
                  have hn : Abs.ahead (Abs.masks all) p.i i = false := by simpa using hp.2
                  have hs := k2 p hp.1 hn
                  rw [hpo, e] at hs
                  simp only [] at hs
                  cases hbig : isBig P o { s with T := T1 } with
                  | true => exact hs.1 hbig
                  | false => rw [hb2 hbig]; exact hold p hp.1 hpo a' o' vs' e
              obtain ⟨q1, q2, q3, q4⟩ := hall
              refine ⟨q1, ih _ _ _ (s2.put o.dst v) _ w2 K (hcl.next hmem) (q2.like (put_L _ _ _)) (fun p hp hpo a' o' vs' e => by rw [put_wb]; exact q3 p hp hpo a' o' vs' e) (H2.put (fun d hd' => hdst i o ho d hd') hv) q4 ?_⟩
              intro s' a' w' k1 k2 ⟨ch', k3⟩ k4
              refine hR s' a' w' k1 k2 ⟨_, ((Moves.ofEq hl1.L []).trans hm).trans ((Moves.ofEq (s' := s2.put o.dst v) (put_L _ _ _) []).trans k3)⟩ ((Same.put a (fun t ht => ⟨o, hin i o ho, ht⟩) _).trans k4)
            · exact h.elim
        · exact h.elim

theorem region_sound (hm : P.follows .mixedOrders = true) {id : Nat} {l : Array Oper} {d : Bool} (hd : ∀ o ∈ l.toList, ∀ t, o.dst = some t → t < N) {s : St} {a : Act} {w : World} {K : St → Prop} {R : Act → World → Prop} (H : Ok w0 F N s a w) (h : regionAt P w0 F l d s K)
    (hR : ∀ s' a' w', K s' → Ok w0 F N s' a' w' → (∃ ch, Moves s s' ch) → Same (Dst l.toList) a a' → R a' w') : (Code.region id l d).wp P (NQ R) a w := by
  unfold regionAt at h
  cases d with
  | false => exact wp_region_list (ops_sound l.toList s a w K hd H h hR)
  | true =>
    simp only [] at h
    split at h
    · rename_i hsel
      refine wp_region_any hm (wpAny_of_P _ [] _ _ _ (draw_sound hsel hd l.size _ [] [] s a _ K ?_ (fun f hf => by cases hf) (fun p hp => by cases hp) (H.drawn rfl rfl rfl rfl) h hR))
      intro j o _ hl
      have : (Array.replicate l.size false).getD j false = false := by
        simp [Array.getD_eq_getD_getElem?, Array.getElem?_replicate]
        split <;> rfl
      rw [this] at hl
      cases hl
    · exact h.elim

end Go.Sy

namespace Go.Sy
open Go.RowKit (Below)
variable {P : Program} {w0 : World} {F : Nat → Prop} {N : Nat}

/-- The exits of a piece of code. -/
def ExQ (R : Ex → Act → World → Prop) : Exit → Act → World → Prop
  | .normal, a, w => R .normal a w
  | .exit i, a, w => R (.exit i) a w
  | .ret, a, w => R .ret a w
  | _, _, _ => False
theorem NQ.exq {R : Ex → Act → World → Prop} {e : Exit} {a : Act} {w : World} (h : NQ (R .normal) e a w) : ExQ R e a w := by cases e <;> first | exact h | exact h.elim

theorem kill_ok {n : Nat} {β : List Nat} : ∀ {ds : List (Nat × TypeId)} {T : Env} {tmps : Array Value}, EnvOk n β T tmps → EnvOk n β (kill ds T) tmps
  | [], _, _, h => h
  | (d, _) :: ds, _, _, h => kill_ok (ds := ds) (h.kill d)

/-- Slots that may have changed. -/
def Written (ds : List (Nat × TypeId)) (t : Nat) : Prop := ∃ ty, (t, ty) ∈ ds
theorem kill_at : ∀ (ds : List (Nat × TypeId)) (T : Env) (t : Nat) (v : SV), (kill ds T).at t = some v → T.at t = some v ∧ ¬ Written ds t
  | [], T, t, v, h => ⟨h, fun ⟨_, hm⟩ => by cases hm⟩
  | (d, ty) :: ds, T, t, v, h => by
    obtain ⟨h1, h2⟩ := kill_at ds _ t v h
    rw [at_set] at h1
    split at h1
    · cases h1
    · rename_i hne
      exact ⟨h1, fun ⟨ty', hm⟩ => by
        rcases List.mem_cons.1 hm with e | hm
        · cases e; exact hne rfl
        · exact h2 ⟨ty', hm⟩⟩

theorem dsts_mem : ∀ {os : List Oper} {acc : List (Nat × TypeId)} {x : Nat × TypeId}, x ∈ dsts os acc ↔ (∃ o ∈ os, o.dst = some x.1 ∧ o.type = x.2) ∨ x ∈ acc
  | [], acc, x => by simp [dsts]
  | o :: os, acc, x => by
    unfold dsts
    split
    · rename_i d hd
      rw [List.mem_cons, dsts_mem (os := os)]
      constructor
      · rintro (rfl | ⟨o', h1, h2⟩ | h)
        · exact .inl ⟨o, by simp, hd, rfl⟩
        · exact .inl ⟨o', by simp [h1], h2⟩
        · exact .inr h
      · rintro (⟨o', h1, h2, h3⟩ | h)
        · rcases List.mem_cons.1 h1 with rfl | h1
          · left
            rw [hd] at h2
            cases x
            simp only [Option.some.injEq] at h2 h3
            rw [h2, h3]
          · exact .inr (.inl ⟨o', h1, h2, h3⟩)
        · exact .inr (.inr h)
    · rename_i hd
      rw [dsts_mem (os := os)]
      constructor
      · rintro (⟨o', h1, h2⟩ | h)
        · exact .inl ⟨o', by simp [h1], h2⟩
        · exact .inr h
      · rintro (⟨o', h1, h2, h3⟩ | h)
        · rcases List.mem_cons.1 h1 with rfl | h1
          · rw [hd] at h2; cases h2
          · exact .inl ⟨o', h1, h2, h3⟩
        · exact .inr h


theorem written_acc : ∀ (c : Code) (acc : List (Nat × TypeId)) (x : Nat × TypeId), x ∈ written c acc ↔ x ∈ written c [] ∨ x ∈ acc := by
  intro c
  induction c with
  | region id l d =>
    intro acc x
    simp only [written]
    rw [dsts_mem, dsts_mem]
    simp
  | seq a b iha ihb =>
    intro acc x
    simp only [written]
    rw [iha (written b acc), iha (written b []), ihb acc]
    simp [or_assoc]
  | cond c a b iha ihb =>
    intro acc x
    simp only [written]
    rw [iha (written b acc), iha (written b []), ihb acc]
    simp [or_assoc]
  | block id b ih => intro acc x; simp only [written]; exact ih acc x
  | loop b ih => intro acc x; simp only [written]; exact ih acc x
  | _ => intro acc x; simp [written]
theorem written_left {a b : Code} {t : Nat} (h : Written (written a []) t) : Written (written a (written b [])) t := by
  obtain ⟨ty, h⟩ := h
  exact ⟨ty, (written_acc a _ _).2 (.inl h)⟩
theorem written_right {a b : Code} {t : Nat} (h : Written (written b []) t) : Written (written a (written b [])) t := by
  obtain ⟨ty, h⟩ := h
  exact ⟨ty, (written_acc a _ _).2 (.inr h)⟩
theorem written_region {id : Nat} {l : Array Oper} {d : Bool} {t : Nat} (h : Dst l.toList t) : Written (written (.region id l d) []) t := by
  obtain ⟨o, h1, h2⟩ := h
  exact ⟨o.type, dsts_mem.2 (.inl ⟨o, h1, h2, rfl⟩)⟩

/-- The cells at hand, and cells of the same forms. -/
theorem app_all {β : List Nat} : ∀ {sh : List Sh} {I : PredT sh} {μ : MeasT sh} {zs : List SV} {K1 : (World → Prop) → Nat → Prop} {K2 : List SV → (World → Prop) → Nat → Prop}, (∀ v ∈ zs, ∀ n, v = .val n → n.oneCell' = true) → app sh I μ zs K1 → allV sh I μ K2 →
    ∃ ys J m, K1 J m ∧ K2 ys J m ∧ reals β ys = reals β zs ∧ okvs 0 ys ∧ ys.all SV.scalar = true := by
  intro sh
  induction sh with
  | nil =>
    intro I μ zs K1 K2 hv h1 h2
    cases zs with
    | nil => exact ⟨[], I, μ, h1, h2, rfl, trivial, rfl⟩
    | cons z zs => exact h1.elim
  | cons x sh ih =>
    intro I μ zs K1 K2 hv h1 h2
    cases zs with
    | nil => cases x <;> exact h1.elim
    | cons z zs =>
      have hv' : ∀ v ∈ zs, ∀ n, v = .val n → n.oneCell' = true := fun v hm => hv v (List.mem_cons_of_mem _ hm)
      cases x with
      | int k =>
        cases z with
        | int k' n =>
          simp only [app] at h1
          split at h1
          · rename_i hk
            obtain ⟨ys, J, m, q1, q2, q3, q4, q5⟩ := ih hv' h1 (h2 n)
            exact ⟨.int k n :: ys, J, m, q1, q2, by simp only [reals, q3, real, kindEq_sound hk], ⟨trivial, q4⟩, by simp [SV.scalar, q5]⟩
          · exact h1.elim
        | _ => exact h1.elim
      | bool =>
        cases z with
        | lit b =>
          obtain ⟨ys, J, m, q1, q2, q3, q4, q5⟩ := ih hv' h1 (h2 b)
          exact ⟨.bool (.ok b) :: ys, J, m, q1, q2, by simp only [reals, q3, real, BE.toB], ⟨trivial, q4⟩, by simp [SV.scalar, q5]⟩
        | bool e =>
          have other : (e.is true → app sh (I true) (μ true) zs K1) ∧ (e.is false → app sh (I false) (μ false) zs K1) → ∃ ys J m, K1 J m ∧ K2 ys J m ∧ reals β ys = reals β (.bool e :: zs) ∧ okvs 0 ys ∧ ys.all SV.scalar = true := fun h => by
            refine BE.split h (fun ht hk => ?_) (fun ht hk => ?_)
            · obtain ⟨ys, J, m, q1, q2, q3, q4, q5⟩ := ih hv' hk (h2 true)
              exact ⟨.bool (.ok true) :: ys, J, m, q1, q2, by simp only [reals, q3, real, ht]; rfl, ⟨trivial, q4⟩, by simp [SV.scalar, q5]⟩
            · obtain ⟨ys, J, m, q1, q2, q3, q4, q5⟩ := ih hv' hk (h2 false)
              exact ⟨.bool (.ok false) :: ys, J, m, q1, q2, by simp only [reals, q3, real, ht]; rfl, ⟨trivial, q4⟩, by simp [SV.scalar, q5]⟩
          cases e with
          | ok b =>
            obtain ⟨ys, J, m, q1, q2, q3, q4, q5⟩ := ih hv' h1 (h2 b)
            exact ⟨.bool (.ok b) :: ys, J, m, q1, q2, by simp only [reals, q3], ⟨trivial, q4⟩, by simp [SV.scalar, q5]⟩
          | _ => exact other h1
        | _ => exact h1.elim
      | str =>
        cases z with
        | str l =>
          obtain ⟨ys, J, m, q1, q2, q3, q4, q5⟩ := ih hv' h1 (h2 l)
          exact ⟨.str l :: ys, J, m, q1, q2, by simp only [reals, q3], ⟨trivial, q4⟩, by simp [SV.scalar, q5]⟩
        | _ => exact h1.elim
      | ptr =>
        cases z with
        | ptr p =>
          obtain ⟨ys, J, m, q1, q2, q3, q4, q5⟩ := ih hv' h1 (h2 p)
          exact ⟨.ptr p :: ys, J, m, q1, q2, by simp only [reals, q3], ⟨trivial, q4⟩, by simp [SV.scalar, q5]⟩
        | adr a o =>
          obtain ⟨ys, J, m, q1, q2, q3, q4, q5⟩ := ih hv' h1 (h2 (some (a.add o)))
          exact ⟨.ptr (some (a.add o)) :: ys, J, m, q1, q2, by simp only [reals, q3, real, adrVal_eq], ⟨trivial, q4⟩, by simp [SV.scalar, q5]⟩
        | _ => exact h1.elim
      | sl =>
        cases z with
        | sl p n c =>
          obtain ⟨ys, J, m, q1, q2, q3, q4, q5⟩ := ih hv' h1 (h2 p n c)
          exact ⟨.sl p n c :: ys, J, m, q1, q2, by simp only [reals, q3], ⟨trivial, q4⟩, by simp [SV.scalar, q5]⟩
        | _ => exact h1.elim
      | val =>
        cases z with
        | val v =>
          have hone := hv _ (List.mem_cons_self ..) v rfl
          obtain ⟨ys, J, m, q1, q2, q3, q4, q5⟩ := ih hv' h1 (h2 v hone)
          exact ⟨.val v :: ys, J, m, q1, q2, by simp only [reals, q3], ⟨hone, q4⟩, by simp [SV.scalar, q5]⟩
        | _ => exact h1.elim

end Go.Sy

set_option linter.unusedVariables false
namespace Go.Sy
open Go.RowKit (Below)
variable {P : Program} {w0 : World} {F : Nat → Prop} {N : Nat}

theorem real_any {β β' : List Nat} {v : SV} (h : okv 0 v) : real β v = real β' v := real_alike (n := 0) (fun k hk => absurd hk (Nat.not_lt_zero _)) v h
theorem reals_any {β β' : List Nat} {l : List SV} (h : okvs 0 l) : reals β l = reals β' l := reals_alike (n := 0) (fun k hk => absurd hk (Nat.not_lt_zero _)) l h
theorem reals_cons_inj {β : List Nat} {x y : SV} {xs ys : List SV} (h : reals β (x :: xs) = reals β (y :: ys)) : real β x = real β y ∧ reals β xs = reals β ys := by
  simp only [reals, List.cons.injEq] at h; exact h

theorem setSlots_ok {n n' : Nat} {β β' : List Nat} {T' : Env} {tmps : Array Value} (hT' : EnvOk n' β' T' tmps) : ∀ {ts : List Nat} {T : Env} {xs rest ys : List SV}, EnvOk n β T tmps → slotVals T' ts = some xs →
    reals β' ys = reals β' (xs ++ rest) → okvs 0 ys → EnvOk n β (setSlots ts ys T).1 tmps ∧ ∃ zs, (setSlots ts ys T).2 = zs ∧ reals β' zs = reals β' rest ∧ okvs 0 zs ∧ (ys.all SV.scalar = true → zs.all SV.scalar = true)
  | [], T, xs, rest, ys, hT, hx, hr, h0 => by
    cases hx
    exact ⟨hT, ys, rfl, hr, h0, id⟩
  | t :: ts, T, xs, rest, ys, hT, hx, hr, h0 => by
    simp only [slotVals, Option.bind_eq_some_iff, Option.map_eq_some_iff] at hx
    obtain ⟨v, hv, us, hu, rfl⟩ := hx
    cases ys with
    | nil => simp [reals] at hr
    | cons y ys =>
      obtain ⟨h1, h2⟩ := reals_cons_inj hr
      have hy : tmps.getD t undef = real β y := by rw [(hT' t v hv).2, ← h1]; exact real_any h0.1
      have hset : EnvOk n β (T.set t (some y)) tmps := by
        intro u x hux
        rw [at_set] at hux
        split at hux
        · rename_i e
          cases hux
          exact ⟨okv_mono (Nat.zero_le _) _ h0.1, by rw [e]; exact hy⟩
        · exact hT u x hux
      obtain ⟨q1, zs, q2, q3, q4, q5⟩ := setSlots_ok hT' (ts := ts) hset hu h2 h0.2
      exact ⟨q1, zs, q2, q3, q4, fun hs => q5 (by simp only [List.all_cons, Bool.and_eq_true] at hs; exact hs.2)⟩

theorem setLocs_ok {L1 : List Loc} {β' : List Nat} : ∀ {ks : List Nat} {L : List Loc} {vs cs : List SV}, (∀ (k : Nat) (l : Loc), L[k]? = some l → ∃ l', L1[k]? = some l' ∧ l'.cells.length = l.cells.length) → (∀ k ∈ ks, k < L.length) →
    locVals L1 ks = some cs → reals β' vs = reals β' cs → okvs 0 vs → vs.all SV.scalar = true →
    (setLocs ks vs L).length = L.length ∧ ∀ (k : Nat) (x : Loc), (setLocs ks vs L)[k]? = some x → ∃ l, L[k]? = some l ∧ x.blk = l.blk ∧ x.ty = l.ty ∧ (k ∉ ks → x = l) ∧ l.ver ≤ x.ver ∧ (x.ver = l.ver → x = l) ∧ x.cells.length = l.cells.length ∧
      (k ∈ ks → okvs 0 x.cells ∧ x.cells.all SV.scalar = true ∧ ∃ l', L1[k]? = some l' ∧ reals β' x.cells = reals β' l'.cells)
  | [], L, vs, cs, _, _, _, _, _, _ => ⟨rfl, fun k x hx => ⟨x, hx, rfl, rfl, fun _ => rfl, Nat.le_refl _, fun _ => rfl, rfl, fun h => by cases h⟩⟩
  | k0 :: ks, L, vs, cs, hL, hlt, hc, hr, h0, hs => by
    have hk0 := hlt k0 (by simp)
    have hl0 : L[k0]? = some L[k0] := List.getElem?_eq_getElem hk0
    generalize L[k0] = l0 at hl0
    obtain ⟨m, hm, hlen⟩ := hL k0 l0 hl0
    simp only [locVals, hm, Option.bind_some, Option.map_eq_some_iff] at hc
    obtain ⟨rest, hrest, rfl⟩ := hc
    have hvl : vs.length = m.cells.length + rest.length := by
      have := congrArg List.length hr
      simpa [reals_length] using this
    have htake : reals β' (vs.take l0.cells.length) = reals β' m.cells := by
      have := congrArg (List.take l0.cells.length) hr
      simp only [reals_eq, List.map_append, ← List.map_take] at this ⊢
      rw [this, ← hlen]
      simp
    have hdrop : reals β' (vs.drop l0.cells.length) = reals β' rest := by
      have := congrArg (List.drop l0.cells.length) hr
      simp only [reals_eq, List.map_append, ← List.map_drop] at this ⊢
      rw [this, ← hlen]
      simp
    have htl : (vs.take l0.cells.length).length = l0.cells.length := by simp; omega
    have hok1 : okvs 0 (vs.take l0.cells.length) := okvs_iff.2 fun u hu => okvs_iff.1 h0 u (List.mem_of_mem_take hu)
    have hok2 : okvs 0 (vs.drop l0.cells.length) := okvs_iff.2 fun u hu => okvs_iff.1 h0 u (List.mem_of_mem_drop hu)
    have hs1 : (vs.take l0.cells.length).all SV.scalar = true := List.all_eq_true.2 fun u hu => List.all_eq_true.1 hs u (List.mem_of_mem_take hu)
    have hs2 : (vs.drop l0.cells.length).all SV.scalar = true := List.all_eq_true.2 fun u hu => List.all_eq_true.1 hs u (List.mem_of_mem_drop hu)
    have hget := splice_get (x := { l0 with cells := vs.take l0.cells.length, ver := l0.ver + 1 }) hl0
    have hL' : ∀ (k : Nat) (l : Loc), (L.take k0 ++ { l0 with cells := vs.take l0.cells.length, ver := l0.ver + 1 } :: L.drop (k0 + 1))[k]? = some l → ∃ l', L1[k]? = some l' ∧ l'.cells.length = l.cells.length := fun k l hl => by
      rw [hget] at hl
      split at hl
      · rename_i e
        cases hl
        exact ⟨m, by rw [e]; exact hm, by simp only [htl]; exact hlen⟩
      · exact hL k l hl
    have hlen2 : (L.take k0 ++ { l0 with cells := vs.take l0.cells.length, ver := l0.ver + 1 } :: L.drop (k0 + 1)).length = L.length := by simp; omega
    obtain ⟨q1, q2⟩ := setLocs_ok (ks := ks) hL' (fun k hk => by rw [hlen2]; exact hlt k (by simp [hk])) hrest hdrop hok2 hs2
    have e : setLocs (k0 :: ks) vs L = setLocs ks (vs.drop l0.cells.length) (L.take k0 ++ { l0 with cells := vs.take l0.cells.length, ver := l0.ver + 1 } :: L.drop (k0 + 1)) := by
      simp only [setLocs, hl0]
    rw [e]
    refine ⟨by rw [q1, hlen2], fun k x hx => ?_⟩
    obtain ⟨l, p1, p2, p3, p4, p5, p6, p7, p8⟩ := q2 k x hx
    rw [hget] at p1
    split at p1
    · rename_i ek
      cases p1
      simp only at p2 p3 p5 p6 p7
      refine ⟨l0, by rw [ek]; exact hl0, p2, p3, fun hn => absurd (by rw [ek]; simp) hn, by omega, fun ev => by omega, by rw [p7, htl], fun _ => ?_⟩
      by_cases hk : k ∈ ks
      · exact p8 hk
      · rw [p4 hk]
        exact ⟨hok1, hs1, m, by rw [ek]; exact hm, htake⟩
    · rename_i ek
      refine ⟨l, p1, p2, p3, fun hn => p4 fun hk => hn (by simp [hk]), p5, p6, p7, fun hk => p8 ?_⟩
      rcases List.mem_cons.1 hk with e | hk
      · exact absurd e ek
      · exact hk

theorem Ok.keeps {s : St} {a : Act} {w : World} (H : Ok w0 F N s a w) : Keeps F w0 w := by
  refine ⟨H.grow.os.trans H.frame.os, H.grow.tape.trans H.frame.tape, H.grow.output.trans H.frame.output, Nat.le_trans H.frame.size H.grow.size, fun i h1 h2 => ?_⟩
  rw [H.grow.heap i (Nat.lt_of_lt_of_le h1 H.frame.size) ?_, H.frame.heap i h1 h2]
  intro hm
  obtain ⟨k, l, hl, rfl⟩ := blks_mem (H.dirty i hm)
  exact absurd (H.lies k l hl).2 (by omega)

/-- The head of a loop, and what stands behind a cut. -/
theorem head_ok {c : Cut} {wr : List (Nat × TypeId)} {s s' : St} {a a' : Act} {w w' : World} (H : Ok w0 F N s a w) (H' : Ok w0 F N s' a' w') (hm : ∃ ch, Moves s s' ch) (hs : Same (Written wr) a a') (hlc : locsOk c s = true)
    (hver : ∀ (k : Nat) (l l' : Loc), k ∉ c.locs → s.L[k]? = some l → s'.L[k]? = some l' → l'.cells = l.cells) {zs ys : List SV} (hz : valsOf c s' = some zs) (hy : reals (blks s'.L) ys = reals (blks s'.L) zs) (h0 : okvs 0 ys) (hsc : ys.all SV.scalar = true) :
    Ok w0 F N (headOf c wr s ys w') a' w' ∧ Moves s (headOf c wr s ys w') c.locs := by
  obtain ⟨ch, hm⟩ := hm
  simp only [valsOf, Option.bind_eq_some_iff, Option.map_eq_some_iff] at hz
  obtain ⟨xs, hx, cs, hc, rfl⟩ := hz
  have hkill : EnvOk s.L.length (blks s.L) (kill wr s.T) a'.tmps := by
    intro t v hv
    obtain ⟨h1, h2⟩ := kill_at wr s.T t v hv
    obtain ⟨h3, h4⟩ := H.env t v h1
    exact ⟨h3, by rw [hs t h2]; exact h4⟩
  obtain ⟨henv, rest, hrest, hr, h0', hsc'⟩ := setSlots_ok (n := s.L.length) (β := blks s.L) H'.env hkill hx hy h0
  have hlt : ∀ k ∈ c.locs, k < s.L.length := fun k hk => by
    have := List.all_eq_true.1 hlc k hk
    rwa [Nat.blt_eq] at this
  obtain ⟨hlen, hL⟩ := setLocs_ok (L1 := s'.L) (β' := blks s'.L) (ks := c.locs) (L := s.L) (fun k l hl => by
    obtain ⟨l', q1, _, _, _, _, _, q7⟩ := hm.old k l hl
    exact ⟨l', q1, q7⟩) hlt hc hr h0' (hsc' hsc)
  have hLd : (headOf c wr s ys w').L = setLocs c.locs rest s.L := by show setLocs c.locs (setSlots c.slots ys (kill wr s.T)).2 s.L = _; rw [hrest]
  have hal : Alike s.L.length (blks s.L) (blks s'.L) := alike_of fun k l hl => by
    obtain ⟨l', h1, h2, _⟩ := hm.old k l hl
    exact ⟨l', h1, h2⟩
  have hblk : blks (headOf c wr s ys w').L = blks s.L := by
    rw [hLd, blks_map, blks_map]
    apply List.ext_getElem?
    intro k
    rw [List.getElem?_map, List.getElem?_map]
    rcases Nat.lt_or_ge k s.L.length with h | h
    · have hk : k < (setLocs c.locs rest s.L).length := by rw [hlen]; exact h
      obtain ⟨l, p1, p2, _⟩ := hL k _ (List.getElem?_eq_getElem hk)
      rw [List.getElem?_eq_getElem hk, p1]
      simp only [Option.map_some, p2]
    · rw [List.getElem?_eq_none (by rw [hlen]; exact h), List.getElem?_eq_none h]
  have hcell : ∀ (k : Nat) (x : Loc), (headOf c wr s ys w').L[k]? = some x → ∃ l l', s.L[k]? = some l ∧ s'.L[k]? = some l' ∧ x.blk = l.blk ∧ l'.blk = l.blk ∧ x.ty = l'.ty ∧ okvs s.L.length x.cells ∧ x.cells.all SV.scalar = true ∧ reals (blks s.L) x.cells = reals (blks s'.L) l'.cells := by
    intro k x hx
    rw [hLd] at hx
    obtain ⟨l, p1, p2, p3, p4, _, _, _, p8⟩ := hL k x hx
    obtain ⟨l', q1, q2, q3, q4, q5, q6, q7⟩ := hm.old k l p1
    by_cases hk : k ∈ c.locs
    · obtain ⟨r1, r2, l2, r3, r4⟩ := p8 hk
      obtain rfl : l2 = l' := by rw [q1] at r3; exact (Option.some.inj r3).symm
      exact ⟨l, l2, p1, q1, p2, q2, by rw [p3, q6], okvs_mono (Nat.zero_le _) _ r1, r2, by rw [← r4]; exact reals_any r1⟩
    · obtain rfl := p4 hk
      obtain ⟨o1, o2⟩ := H.cells k x p1
      refine ⟨x, l', p1, q1, rfl, q2, q6.symm, o1, o2, ?_⟩
      rw [hver k x l' hk p1 q1]
      exact (reals_alike hal _ o1).symm
  refine ⟨⟨?_, H'.size, H'.defers, fun k x hx => ?_, fun k x hx => ?_, fun j k x y hx hy e => ?_, ?_, fun k x hk hx => ?_, Ext.refl _ _, H'.keeps, fun b hb => by cases hb⟩, ⟨fun k l hl => ?_⟩⟩
  · show EnvOk (headOf c wr s ys w').L.length (blks (headOf c wr s ys w').L) _ a'.tmps
    rw [hblk, hLd, hlen]
    exact henv
  · obtain ⟨l, l', _, _, _, _, _, h1, h2, _⟩ := hcell k x hx
    exact ⟨by show okvs (headOf c wr s ys w').L.length _; rw [hLd, hlen]; exact h1, h2⟩
  · obtain ⟨l, l', h1, h2, h3, h4, h5, _, _, h6⟩ := hcell k x hx
    obtain ⟨k1, k2⟩ := H'.lies k l' h2
    refine ⟨?_, by rw [h3, ← h4]; exact k2⟩
    rw [hblk, h6, h3, ← h4, h5]
    exact k1
  · obtain ⟨l, _, h1, _, h3, _⟩ := hcell j x hx
    obtain ⟨m, _, k1, _, k3, _⟩ := hcell k y hy
    exact H.apart j k l m h1 k1 (by rw [← h3, ← k3, e])
  · show s.L.length ≤ (headOf c wr s ys w').L.length
    rw [hLd, hlen]
    exact Nat.le_refl _
  · have h1 : s.L.length ≤ k := hk
    have h2 : k < (headOf c wr s ys w').L.length := (List.getElem?_eq_some_iff.1 hx).1
    rw [hLd, hlen] at h2
    omega
  · have hk : k < (setLocs c.locs rest s.L).length := by rw [hlen]; exact (List.getElem?_eq_some_iff.1 hl).1
    obtain ⟨l0, p1, p2, p3, p4, p5, p6, p7, _⟩ := hL k _ (List.getElem?_eq_getElem hk)
    obtain rfl : l = l0 := by rw [hl] at p1; exact Option.some.inj p1
    exact ⟨_, by rw [hLd]; exact List.getElem?_eq_getElem hk, p2, p5, fun e => by rw [p6 e], p4, p3, p7⟩

theorem sameVers_get {ls : List Nat} : ∀ {L L' : List Loc} {b k : Nat} {l l' : Loc}, sameVers ls b L L' = true → L[k]? = some l → L'[k]? = some l' → b + k ∉ ls → l.ver = l'.ver
  | [], _, _, k, _, _, _, h, _, _ => by simp at h
  | _ :: _, [], _, _, _, _, h, _, _, _ => by simp [sameVers] at h
  | x :: L, y :: L', b, k, l, l', h, h1, h2, hk => by
    simp only [sameVers, Bool.and_eq_true, Bool.or_eq_true] at h
    cases k with
    | zero =>
      cases h1; cases h2
      rcases h.1 with h | h
      · exact absurd (by simpa using h) hk
      · exact Nat.eq_of_beq_eq_true h
    | succ k => exact sameVers_get h.2 (by simpa using h1) (by simpa using h2) (by rw [show b + 1 + k = b + (k + 1) by omega]; exact hk)

end Go.Sy

namespace Go.Sy
open Go.RowKit (Below)
variable {P : Program} {w0 : World} {F : Nat → Prop} {N : Nat}

theorem least_one {p : Nat → Prop} : ∀ n, p n → ∃ m, p m ∧ ∀ k, p k → m ≤ k := by
  intro n
  induction n using Nat.strongRecOn with
  | _ n ih =>
    intro hn
    by_cases hs : ∃ k, k < n ∧ p k
    · obtain ⟨k, h1, h2⟩ := hs
      exact ih k h1 h2
    · exact ⟨n, hn, fun k hk => Nat.le_of_not_lt fun hlt => hs ⟨k, hlt, hk⟩⟩

/-- A loop that is shown to end by a count of its rounds. -/
theorem wp_loop_count {c : Code} {Q : Exit → Act → World → Prop} (I : Nat → Act → World → Prop)
    (round : ∀ n a w, I n a w → c.wp P (Exit.then (fun a' w' => ∃ m, m < n ∧ I m a' w') Q) a w) (n : Nat) (a : Act) (w : World) (h0 : I n a w) : (Code.loop c).wp P Q a w := by
  classical
  have hex : ∀ a w, ∃ m, (∃ n, I n a w) → I m a w ∧ ∀ k, I k a w → m ≤ k := by
    intro a w
    by_cases hn : ∃ n, I n a w
    · obtain ⟨n, hn⟩ := hn
      obtain ⟨m, h1, h2⟩ := least_one (p := fun n => I n a w) n hn
      exact ⟨m, fun _ => ⟨h1, h2⟩⟩
    · exact ⟨0, fun h => absurd h hn⟩
  let μ : Act → World → Nat := fun a w => Classical.choose (hex a w)
  have hμ : ∀ a w n, I n a w → μ a w ≤ n ∧ I (μ a w) a w := by
    intro a w n hn
    obtain ⟨h1, h2⟩ := Classical.choose_spec (hex a w) ⟨n, hn⟩
    exact ⟨h2 n hn, h1⟩
  refine wp_loop (fun a w => ∃ n, I n a w) μ ⟨n, h0⟩ ?_
  rintro a w ⟨n, hn⟩
  obtain ⟨_, h2⟩ := hμ a w n hn
  refine wp_mono (round _ a w h2) fun e a' w' hq => ?_
  cases e with
  | normal =>
    obtain ⟨m, hm, hI⟩ := hq
    exact ⟨⟨m, hI⟩, Nat.lt_of_le_of_lt (hμ a' w' m hI).1 hm⟩
  | _ => exact hq

theorem slotVals_ok {n : Nat} {β : List Nat} {T : Env} {tmps : Array Value} (h : EnvOk n β T tmps) : ∀ {ts : List Nat} {xs : List SV}, slotVals T ts = some xs → okvs n xs
  | [], xs, hx => by cases hx; exact trivial
  | t :: ts, xs, hx => by
    simp only [slotVals, Option.bind_eq_some_iff, Option.map_eq_some_iff] at hx
    obtain ⟨v, hv, us, hu, rfl⟩ := hx
    exact ⟨(h t v hv).1, slotVals_ok h hu⟩
theorem locVals_ok {n : Nat} {L : List Loc} (h : ∀ (k : Nat) (l : Loc), L[k]? = some l → okvs n l.cells ∧ l.cells.all SV.scalar = true) : ∀ {ks : List Nat} {xs : List SV}, locVals L ks = some xs → okvs n xs
  | [], xs, hx => by cases hx; exact trivial
  | k :: ks, xs, hx => by
    simp only [locVals, Option.bind_eq_some_iff, Option.map_eq_some_iff] at hx
    obtain ⟨l, hl, us, hu, rfl⟩ := hx
    have h2 := locVals_ok h hu
    rw [okvs_iff] at *
    intro v hv
    rcases List.mem_append.1 hv with hv | hv
    · exact okvs_iff.1 (h k l hl).1 v hv
    · exact h2 v hv
theorem valsOf_ok {c : Cut} {s : St} {a : Act} {w : World} (H : Ok w0 F N s a w) {zs : List SV} (h : valsOf c s = some zs) : ∀ v ∈ zs, ∀ n, v = .val n → n.oneCell' = true := by
  simp only [valsOf, Option.bind_eq_some_iff, Option.map_eq_some_iff] at h
  obtain ⟨xs, hx, cs, hc, rfl⟩ := h
  have h1 := slotVals_ok H.env hx
  have h2 := locVals_ok H.cells hc
  rintro v hv n rfl
  rcases List.mem_append.1 hv with hv | hv
  · exact okvs_iff.1 h1 _ hv
  · exact okvs_iff.1 h2 _ hv

theorem ExQ.seq {R : Ex → Act → World → Prop} {y : Act → World → Prop} {e : Exit} {a : Act} {w : World} (h : ExQ (fun e a w => match e with | .normal => y a w | e => R e a w) e a w) : Exit.then y (ExQ R) e a w := by
  cases e <;> exact h

theorem code_sound (hm : P.follows .mixedOrders = true) (loops cuts : List Cut) : ∀ (c : Code) {s : St} {a : Act} {w : World} {K : Ex → St → Prop} {R : Ex → Act → World → Prop}, allDst N c = true → Ok w0 F N s a w → code P w0 F loops cuts c s K →
    (∀ e s' a' w', K e s' → Ok w0 F N s' a' w' → (∃ ch, Moves s s' ch) → Same (Written (written c [])) a a' → R e a' w') → c.wp P (ExQ R) a w := by
  intro c
  induction c with
  | skip =>
    intro s a w K R _ H h hR
    exact wp_skip (hR .normal s a w h H ⟨[], Moves.refl _ _⟩ (Same.refl _ _))
  | region id l d =>
    intro s a w K R hd H h hR
    refine wp_mono (region_sound hm (fun o ho t ht => ?_) H h (R := R .normal) (fun s' a' w' k1 k2 k3 k4 => hR .normal s' a' w' k1 k2 k3 (k4.mono fun t ht => written_region ht))) fun e a w hq => hq.exq
    have := List.all_eq_true.1 hd o ho
    rw [ht] at this
    simpa using this
  | seq x y ihx ihy =>
    intro s a w K R hd H h hR
    simp only [allDst, Bool.and_eq_true] at hd
    unfold code at h
    split at h
    · rename_i c hc
      unfold cutThere at h
      split at h
      · exact h.elim
      · rename_i hlc
        split at h
        · rename_i sh hsh
          obtain ⟨I, hx, hy⟩ := h
          refine wp_seq (wp_mono (ihx (R := fun e a w => match e with | .normal => y.wp P (ExQ R) a w | e => R e a w) hd.1 H hx ?_) fun e a w hq => hq.seq)
          intro e s' a' w' k1 k2 k3 k4
          cases e with
          | normal =>
            simp only [] at k1 ⊢
            split at k1
            · rename_i zs hv hz
              obtain ⟨ys, J, m, q1, q2, q3, q4, q5⟩ := app_all (β := blks s'.L) (valsOf_ok k2 hz) (k1 w' k2.grow.grow) hy
              have hver : ∀ (k : Nat) (l l' : Loc), k ∉ c.locs → s.L[k]? = some l → s'.L[k]? = some l' → l'.cells = l.cells := by
                intro k l l' hk hl hl'
                obtain ⟨ch, k3⟩ := k3
                obtain ⟨l2, r1, _, _, r4, _⟩ := k3.old k l hl
                obtain rfl : l' = l2 := by rw [hl'] at r1; exact Option.some.inj r1
                exact r4 (sameVers_get hv hl hl' (by simpa using hk)).symm
              obtain ⟨p1, p2⟩ := head_ok H k2 k3 k4 hlc hver hz q3 q4 q5
              refine ihy hd.2 p1 (q2 w' k2.keeps q1) fun e2 s2 a2 w2 l1 l2 ⟨ch, l3⟩ l4 => hR e2 s2 a2 w2 l1 l2 ⟨_, p2.trans l3⟩ ((k4.mono fun t => written_left).trans (l4.mono fun t => written_right))
            · exact k1.elim
          | exit i => exact hR _ s' a' w' k1 k2 k3 (k4.mono fun t => written_left)
          | ret => exact hR _ s' a' w' k1 k2 k3 (k4.mono fun t => written_left)
        · exact h.elim
    · refine wp_seq (wp_mono (ihx (R := fun e a w => match e with | .normal => y.wp P (ExQ R) a w | e => R e a w) hd.1 H h ?_) fun e a w hq => hq.seq)
      intro e s' a' w' k1 k2 ⟨ch, k3⟩ k4
      cases e with
      | normal => exact ihy hd.2 k2 k1 fun e2 s2 a2 w2 l1 l2 ⟨ch', l3⟩ l4 => hR e2 s2 a2 w2 l1 l2 ⟨_, k3.trans l3⟩ ((k4.mono fun t => written_left).trans (l4.mono fun t => written_right))
      | exit i => exact hR _ s' a' w' k1 k2 ⟨_, k3⟩ (k4.mono fun t => written_left)
      | ret => exact hR _ s' a' w' k1 k2 ⟨_, k3⟩ (k4.mono fun t => written_left)
  | cond c x y ihx ihy =>
    intro s a w K R hd H h hR
    simp only [allDst, Bool.and_eq_true] at hd
    have h' : condAt (eval P s.T c) (code P w0 F loops cuts x s K) (code P w0 F loops cuts y s K) := h
    unfold condAt at h'
    split at h'
    · rename_i hc
      exact wp_cond_true ((eval_sound H.env hc).2) (ihx hd.1 H h' fun e s' a' w' k1 k2 k3 k4 => hR e s' a' w' k1 k2 k3 (k4.mono fun t => written_left))
    · rename_i hc
      exact wp_cond_false ((eval_sound H.env hc).2) (ihy hd.2 H h' fun e s' a' w' k1 k2 k3 k4 => hR e s' a' w' k1 k2 k3 (k4.mono fun t => written_right))
    · rename_i e hc
      have hv := (eval_sound H.env hc).2
      refine BE.split h' (fun ht hk => ?_) (fun ht hk => ?_)
      · exact wp_cond_true (by rw [hv, real, ht]) (ihx hd.1 H hk fun e s' a' w' k1 k2 k3 k4 => hR e s' a' w' k1 k2 k3 (k4.mono fun t => written_left))
      · exact wp_cond_false (by rw [hv, real, ht]) (ihy hd.2 H hk fun e s' a' w' k1 k2 k3 k4 => hR e s' a' w' k1 k2 k3 (k4.mono fun t => written_right))
    · exact h'.elim
  | block id b ih =>
    intro s a w K R hd H h hR
    refine wp_block (wp_mono (ih (R := fun e a w => match e with | .exit j => if j = id then R .normal a w else R (.exit j) a w | e => R e a w) hd H h ?_) ?_)
    · intro e s' a' w' k1 k2 k3 k4
      cases e with
      | normal => exact hR _ s' a' w' k1 k2 k3 k4
      | ret => exact hR _ s' a' w' k1 k2 k3 k4
      | exit j =>
        simp only [] at k1 ⊢
        cases hj : Nat.beq j id with
        | true =>
          rw [hj] at k1
          rw [if_pos (Nat.eq_of_beq_eq_true hj)]
          exact hR _ s' a' w' k1 k2 k3 k4
        | false =>
          rw [hj] at k1
          rw [if_neg (fun e => by rw [e, Nat.beq_refl] at hj; cases hj)]
          exact hR _ s' a' w' k1 k2 k3 k4
    · intro e a w hq
      cases e with
      | exit j =>
        simp only [Exit.inBlock]
        have hq' : (if j = id then R .normal a w else R (.exit j) a w) := hq
        by_cases hj : j = id
        · rw [if_pos hj] at hq' ⊢; exact hq'
        · rw [if_neg hj] at hq' ⊢; exact hq'
      | normal => exact hq
      | ret => exact hq
      | _ => exact hq.elim
  | loop b ih =>
    intro s a w K R hd H h hR
    unfold code at h
    split at h
    · rename_i c hc
      unfold loopAt at h
      split at h
      · exact h.elim
      · rename_i hlc
        split at h
        · rename_i xs hxs
          split at h
          · rename_i sh hsh
            obtain ⟨I, μ, h0, hall⟩ := h
            let wr := written b []
            let K' : Nat → Ex → St → List Loc → Prop := fun n e s' L => match e with
              | .normal => match sameVers c.locs 0 L s'.L, valsOf c s' with
                | true, some zs => ∀ w2, grow s'.wb s'.D w2 → app sh I μ zs fun J' m' => J' w2 ∧ m' < n
                | _, _ => False
              | e => K e s'
            let Inv : Nat → Act → World → Prop := fun n a' w' => Same (Written wr) a a' ∧ ∃ (ys : List SV) (J : World → Prop), (∀ w1, Keeps F w0 w1 → J w1 → code P w0 F loops cuts b (headOf c wr s ys w1) fun e s' => K' n e s' (headOf c wr s ys w1).L) ∧ J w' ∧
              Ok w0 F N (headOf c wr s ys w') a' w' ∧ Moves s (headOf c wr s ys w') c.locs
            obtain ⟨ys0, J0, m0, q1, q2, q3, q4, q5⟩ := app_all (β := blks s.L) (valsOf_ok H hxs) (h0 w H.grow.grow) hall
            obtain ⟨p1, p2⟩ := head_ok H H ⟨[], Moves.refl _ _⟩ (Same.refl (Written wr) a) hlc (fun k l l' _ h1 h2 => by rw [h1] at h2; rw [Option.some.inj h2]) hxs q3 q4 q5
            refine wp_loop_count Inv ?_ m0 a w ⟨Same.refl _ _, ys0, J0, fun w1 h1 h2 => ?_, q1, p1, p2⟩
            · rintro n a1 w1 ⟨i1, ys, J, i2, i3, i4, i5⟩
              refine wp_mono (ih (R := fun e a2 w2 => match e with | .normal => ∃ m, m < n ∧ Inv m a2 w2 | e => R e a2 w2) hd i4 (i2 w1 i4.keeps i3) ?_) fun e a w hq => hq.seq
              intro e s' a2 w2 k1 k2 ⟨ch, k3⟩ k4
              have hmv := i5.trans k3
              have hsame : Same (Written wr) a a2 := i1.trans k4
              cases e with
              | normal =>
                simp only [K'] at k1 ⊢
                split at k1
                · rename_i zs hv hz
                  obtain ⟨ys', J', m', r1, r2, r3, r4, r5⟩ := app_all (β := blks s'.L) (valsOf_ok k2 hz) (k1 w2 k2.grow.grow) hall
                  have hver : ∀ (k : Nat) (l l' : Loc), k ∉ c.locs → s.L[k]? = some l → s'.L[k]? = some l' → l'.cells = l.cells := by
                    intro k l l' hk hl hl'
                    obtain ⟨lh, t1, _, _, _, t5, _⟩ := i5.old k l hl
                    obtain rfl := t5 hk
                    obtain ⟨l2, u1, _, _, u4, _⟩ := k3.old k lh t1
                    obtain rfl : l' = l2 := by rw [hl'] at u1; exact Option.some.inj u1
                    exact u4 (sameVers_get hv t1 hl' (by simpa using hk)).symm
                  obtain ⟨p1, p2⟩ := head_ok H k2 ⟨_, hmv⟩ hsame hlc hver hz r3 r4 r5
                  exact ⟨m', r1.2, hsame, ys', J', fun w3 h1 h2 => r2 w3 h1 h2, r1.1, p1, p2⟩
                · exact k1.elim
              | exit i => exact hR _ s' a2 w2 k1 k2 ⟨_, hmv⟩ hsame
              | ret => exact hR _ s' a2 w2 k1 k2 ⟨_, hmv⟩ hsame
            · exact q2 w1 h1 h2
          · exact h.elim
        · exact h.elim
    · exact h.elim
  | exit id =>
    intro s a w K R _ H h hR
    exact wp_exit (hR (.exit id) s a w h H ⟨[], Moves.refl _ _⟩ (Same.refl _ _))
  | ret =>
    intro s a w K R _ H h hR
    exact wp_ret (hR .ret s a w h H ⟨[], Moves.refl _ _⟩ (Same.refl _ _))
  | _ =>
    intro s a w K R _ H h hR
    exact h.elim

end Go.Sy

namespace Go.Sy
open Go.RowKit (Below)
variable {P : Program} {w0 : World} {F : Nat → Prop} {N : Nat}

theorem outs_sound {s : St} {a : Act} {w : World} (H : Ok w0 F N s a w) {g : ResultVar → Sem Value} (hg1 : ∀ (t : Tmp) (v : Value), a.tmps.getD t undef = v → (g (.tmp t)).run P w = .ok v w)
    (hg2 : ∀ (c : Tmp) (t : TypeId) (ad : Addr) (v : Value), a.tmps.getD c undef = .pointer (some ad) → (loadVar t ad).run P w = .ok v w → (g (.cell c t)).run P w = .ok v w) :
    ∀ {rs : List ResultVar} {vs : List SV}, outs P s rs = some vs → (rs.mapM g).run P w = .ok (reals (blks s.L) vs) w ∧ okvs s.L.length vs
  | [], vs, h => by cases h; exact ⟨rfl, trivial⟩
  | .tmp t :: rs, vs, h => by
    simp only [outs, Option.bind_eq_some_iff, Option.map_eq_some_iff] at h
    obtain ⟨v, hv, us, hu, rfl⟩ := h
    obtain ⟨h1, h2⟩ := H.env t v hv
    obtain ⟨k1, k2⟩ := outs_sound H hg1 hg2 hu
    exact ⟨by simp only [List.mapM_cons, Sem.run_bind, hg1 t _ h2, Result.andThen_ok, k1, Sem.run_pure, reals], h1, k2⟩
  | .cell c t :: rs, vs, h => by
    unfold outs at h
    split at h
    · rename_i k o hc
      simp only [Option.bind_eq_some_iff] at h
      obtain ⟨n, hn, g', hg, cs, hcs, h⟩ := h
      obtain ⟨h1, h2⟩ := H.env c _ hc
      obtain ⟨l, hl, hle, hcc⟩ := readLoc_sound hcs
      obtain ⟨o1, o2⟩ := H.cells k l hl
      have hat := At.own (m := n) (cs := cs) hl (H.lies k l hl).1 hcc
      have hlen : cs.length = n := by rw [hcc]; simp; omega
      have hok : okvs s.L.length cs := by rw [hcc]; exact okvs_iff.2 fun u hu => okvs_iff.1 o1 u (List.mem_of_mem_drop (List.mem_of_mem_take hu))
      have hsc : cs.all SV.scalar = true := by rw [hcc]; exact List.all_eq_true.2 fun u hu => List.all_eq_true.1 o2 u (List.mem_of_mem_drop (List.mem_of_mem_take hu))
      have hptr : a.tmps.getD c undef = .pointer (some ⟨(blks s.L).getD k 0, o, none⟩) := h2
      have hrun : ∀ (h1' : g' = false → n = 1), (loadVar t ⟨(blks s.L).getD k 0, o, none⟩).run P w = .ok (loadVal g' (reals (blks s.L) cs)) w := fun h1' => by
        have := run_loadAt (P := P) hn hg (a := ⟨(blks s.L).getD k 0, o, none⟩) (o := 0) (vs := reals (blks s.L) cs) (by rw [reals_length, hlen]) h1' hat
        simpa [Addr.add] using this
      cases g' with
      | true =>
        simp only [Option.map_eq_some_iff] at h
        obtain ⟨us, hu, rfl⟩ := h
        obtain ⟨k1, k2⟩ := outs_sound H hg1 hg2 hu
        refine ⟨?_, ⟨hok, hsc⟩, k2⟩
        have := hg2 c t _ _ hptr (hrun fun e => by cases e)
        simp only [List.mapM_cons, Sem.run_bind, this, Result.andThen_ok, k1, Sem.run_pure, reals, real, loadVal]
      | false =>
        cases cs with
        | nil => cases h
        | cons v rest =>
          cases rest with
          | cons _ _ => cases h
          | nil =>
            simp only [Option.map_eq_some_iff] at h
            obtain ⟨us, hu, rfl⟩ := h
            obtain ⟨k1, k2⟩ := outs_sound H hg1 hg2 hu
            refine ⟨?_, hok.1, k2⟩
            have := hg2 c t _ _ hptr (hrun fun _ => hlen.symm)
            simp only [List.mapM_cons, Sem.run_bind, this, Result.andThen_ok, k1, Sem.run_pure, reals, loadVal]
            rfl
    · cases h

theorem results_sound {s : St} {a : Act} {w : World} (H : Ok w0 F N s a w) {fn : Func} {vs : List SV} (h : outs P s fn.results.toList = some vs) : (results fn a.tmps).run P w = .ok (real (blks s.L) (resVal vs)) w := by
  have hm : ∀ g : ResultVar → Sem Value, (∀ (t : Tmp) (v : Value), a.tmps.getD t undef = v → (g (.tmp t)).run P w = .ok v w) →
      (∀ (c : Tmp) (t : TypeId) (ad : Addr) (v : Value), a.tmps.getD c undef = .pointer (some ad) → (loadVar t ad).run P w = .ok v w → (g (.cell c t)).run P w = .ok v w) → (fn.results.mapM g).run P w = .ok (reals (blks s.L) vs).toArray w := by
    intro g h1 h2
    rw [Array.mapM_eq_mapM_toList, map_eq_pure_bind, Sem.run_bind, (outs_sound H h1 h2 h).1]
    rfl
  unfold results
  rw [Sem.run_bind, hm _ (fun t v hv => by simp only [Sem.run_pure, hv]) (fun c t ad v hc hl => by simp only [hc, asAddr, Sem.run_bind, Sem.run_pure, Result.andThen_ok, hl])]
  simp only [Result.andThen_ok]
  match vs with
  | [u] => rfl
  | [] => rfl
  | u :: u2 :: us => rfl

theorem enter_ok {args : List SV} (n : Nat) (hargs : okvs 0 args) : EnvOk 0 [] (enterAt 0 args .leaf) ((reals [] args).toArray ++ Array.replicate n undef) := by
  have key : ∀ (l : List SV) (i : Nat) (T : Env) (t : Nat) (v : SV), (enterAt i l T).at t = some v → T.at t = some v ∨ ∃ j, t = i + j ∧ l[j]? = some v := by
    intro l
    induction l with
    | nil => intro i T t v h; exact .inl h
    | cons x l ih =>
      intro i T t v h
      rcases ih (i + 1) _ t v h with h1 | ⟨j, h1, h2⟩
      · rw [at_set] at h1
        split at h1
        · rename_i e
          exact .inr ⟨0, by omega, h1⟩
        · exact .inl h1
      · exact .inr ⟨j + 1, by omega, h2⟩
  intro t v hv
  rcases key args 0 .leaf t v hv with h1 | ⟨j, h1, h2⟩
  · unfold Env.at at h1
    rw [Abs.Tr.get_leaf] at h1
    cases h1
  · obtain rfl : t = j := by omega
    have hlt := (List.getElem?_eq_some_iff.1 h2).1
    refine ⟨okvs_iff.1 hargs v (List.mem_iff_getElem?.2 ⟨_, h2⟩), ?_⟩
    have : ((reals [] args).toArray ++ Array.replicate n undef)[t]? = some (real [] v) := by
      rw [Array.getElem?_append_left (by simpa [reals_length] using hlt)]
      simp [reals_eq, h2]
    rw [Array.getD_eq_getD_getElem?, this]
    rfl

theorem allDst_mono {m n : Nat} (h : m ≤ n) : ∀ c, allDst m c = true → allDst n c = true := by
  intro c
  induction c with
  | region id l d =>
    intro hg
    simp only [allDst, List.all_eq_true] at hg ⊢
    intro o ho
    have := hg o ho
    split
    · rename_i d hd
      rw [hd] at this
      simp only [Nat.blt_eq] at this ⊢
      omega
    · rfl
  | seq x y ihx ihy => intro hg; simp only [allDst, Bool.and_eq_true] at hg ⊢; exact ⟨ihx hg.1, ihy hg.2⟩
  | cond c x y ihx ihy => intro hg; simp only [allDst, Bool.and_eq_true] at hg ⊢; exact ⟨ihx hg.1, ihy hg.2⟩
  | block id c ih => exact ih
  | loop c ih => exact ih
  | _ => intro _; rfl

/-- A call of which all that is asked has been shown. -/
theorem func_sound (hm : P.follows .mixedOrders = true) {loops cuts : List Cut} {f : FuncId} {args : List SV} {Q : Value → World → Prop} (hargs : okvs 0 args) (h : func P w0 F loops cuts f args Q) :
    Calls P f (reals [] args).toArray w0 fun e w' => ∃ v, e = .returned v ∧ Keeps F w0 w' ∧ Q v w' := by
  unfold func at h
  split at h
  · rename_i fn hfn
    split at h
    · rename_i c hb
      split at h
      · exact h.elim
      · rename_i hdst
        refine calls_of_wp hfn hb ?_
        have hH : Ok w0 F ((reals [] args).toArray ++ Array.replicate (fn.ntmps - (reals [] args).toArray.size) undef).size { T := enterAt 0 args .leaf, L := [], nb := 0, D := [], wb := w0 } { tmps := (reals [] args).toArray ++ Array.replicate (fn.ntmps - (reals [] args).toArray.size) undef, defers := [] } w0 :=
          ⟨enter_ok _ hargs, rfl, rfl, fun k l hl => by simp at hl, fun k l hl => by simp at hl, fun j k l m hl => by simp at hl, Nat.le_refl _, fun k l _ hl => by simp at hl, Ext.refl _ _, ⟨rfl, rfl, rfl, Nat.le_refl _, fun _ _ _ => rfl⟩, fun b hb => by cases hb⟩
        refine wp_mono (code_sound hm loops cuts c (R := fun e a w => match e with
          | .exit _ => False
          | _ => bodyPost P fn (fun e w' => ∃ v, e = .returned v ∧ Keeps F w0 w' ∧ Q v w') .normal a w) (allDst_mono (by simp; omega) c hdst) hH h ?_) ?_
        · intro e s' a' w' k1 k2 _ _
          have fin : finish P w0 F fn Q s' → bodyPost P fn (fun e w' => ∃ v, e = .returned v ∧ Keeps F w0 w' ∧ Q v w') .normal a' w' := fun hf => by
            unfold finish at hf
            split at hf
            · rename_i vs hvs
              exact ⟨k2.defers, _, results_sound k2 hvs, _, rfl, k2.keeps, liesIf_elim k2 (hf w' k2.grow.grow k2.keeps)⟩
            · exact hf.elim
          cases e with
          | normal => exact fin k1
          | ret => exact fin k1
          | exit i => exact k1
        · intro e a w hq
          cases e with
          | normal => exact hq
          | ret => exact hq
          | exit i => exact hq.elim
          | _ => exact hq.elim
    · exact h.elim
  · exact h.elim

end Go.Sy

set_option linter.unusedVariables false
namespace Go.Sy
open Go.RowKit (Below)

/-- A call returns, changes old memory in F alone, and Q. -/
def Gets (P : Program) (f : FuncId) (args : Array Value) (w : World) (F : Nat → Prop) (Q : Value → World → Prop) : Prop :=
  Calls P f args w fun e w' => ∃ v, e = .returned v ∧ Keeps F w w' ∧ Q v w'

theorem func_run {P : Program} (hm : P.follows .mixedOrders = true) {w0 : World} {F : Nat → Prop} {Q : Value → World → Prop} (loops cuts : List Cut) (f : FuncId) (args : List SV) {A : Array Value} {M : Prop} (ha : okvs 0 args) (hA : A = (reals [] args).toArray)
    (hN : M = func P w0 F loops cuts f args Q) (h : M) : Gets P f A w0 F Q := by
  subst hA
  exact func_sound hm ha (hN ▸ h)

theorem Gets.runs {P : Program} {f : FuncId} {args : Array Value} {w : World} {F : Nat → Prop} {Q : Value → World → Prop} {R : Ending → World → Prop} (h : Gets P f args w F Q) (hR : ∀ v w', Keeps F w w' → Q v w' → R (.returned v) w') : Runs P f args w R :=
  ⟨h.mono fun e w' ⟨v, he, hk, hq⟩ => by subst he; exact hR v w' hk hq⟩
theorem Gets.mono {P : Program} {f : FuncId} {args : Array Value} {w : World} {F F' : Nat → Prop} {Q Q' : Value → World → Prop} (h : Gets P f args w F Q) (hF : ∀ i, F i → F' i) (hq : ∀ v w', Keeps F w w' → Q v w' → Q' v w') : Gets P f args w F' Q' :=
  Calls.mono h fun e w' ⟨v, he, hk, hqq⟩ => ⟨v, he, ⟨hk.os, hk.tape, hk.output, hk.size, fun i h1 h2 => hk.heap i h1 fun h3 => h2 (hF i h3)⟩, hq v w' hk hqq⟩

/-- Nothing old is changed. -/
def Nix (_ : Nat) : Prop := False

theorem Keeps.kept {lo : Nat} {F F' : Nat → Prop} {bs : List Nat} {w w' : World} (h : Keeps F' w w') (h1 : ∀ i, F' i → i < lo → F i) (h2 : ∀ i, F' i → lo ≤ i → i ∉ bs) : Kept lo F bs w w' :=
  ⟨h.os, h.tape, h.output, h.size, fun i a b c => h.heap i b fun d => c (h1 i d a), fun i a b c => h.heap i c fun d => h2 i d b a⟩
theorem Keeps.nix {lo : Nat} {F : Nat → Prop} {bs : List Nat} {w w' : World} (h : Keeps Nix w w') : Kept lo F bs w w' := h.kept (fun _ h => h.elim) (fun _ h => h.elim)
theorem Keeps.kept0 {lo : Nat} {F F' : Nat → Prop} {w w' : World} (h : Keeps F' w w') (h1 : ∀ i, F' i → i < lo → F i) : Kept lo F [] w w' := h.kept h1 (fun _ _ _ => by simp)
theorem Keeps.refl (F : Nat → Prop) (w : World) : Keeps F w w := ⟨rfl, rfl, rfl, Nat.le_refl _, fun _ _ _ => rfl⟩
theorem Keeps.trans {F : Nat → Prop} {a b c : World} (h : Keeps F a b) (k : Keeps F b c) : Keeps F a c :=
  ⟨k.os.trans h.os, k.tape.trans h.tape, k.output.trans h.output, Nat.le_trans h.size k.size, fun i h1 h2 => (k.heap i (Nat.lt_of_lt_of_le h1 h.size) h2).trans (h.heap i h1 h2)⟩
theorem Keeps.mono {F F' : Nat → Prop} {w w' : World} (h : Keeps F w w') (hF : ∀ i, F i → F' i) : Keeps F' w w' := ⟨h.os, h.tape, h.output, h.size, fun i h1 h2 => h.heap i h1 fun h3 => h2 (hF i h3)⟩
theorem Keeps.below {w w' : World} (h : Keeps Nix w w') : Below w.heap.size w w' := ⟨h.os, h.tape, h.output, h.size, fun i hi => h.heap i hi id⟩
theorem Below.keeps {w w' : World} (h : Below w.heap.size w w') (F : Nat → Prop) : Keeps F w w' := ⟨h.os, h.tape, h.output, h.size, fun i hi _ => h.block i hi⟩
theorem gets_of {P : Program} {f : FuncId} {args : Array Value} {w : World} {v : Value} (h : Calls P f args w fun e w' => e = .returned v ∧ Below w.heap.size w w') : Gets P f args w Nix fun u _ => u = v :=
  h.mono fun _ _ ⟨he, hb⟩ => ⟨v, he, Below.keeps hb Nix, rfl⟩
theorem Gets.below {P : Program} {f : FuncId} {args : Array Value} {w : World} {v : Value} (h : Gets P f args w Nix fun u _ => u = v) : Calls P f args w fun e w' => e = .returned v ∧ Below w.heap.size w w' :=
  Calls.mono h fun _ _ ⟨_, he, hk, hv⟩ => ⟨by rw [he, hv], hk.below⟩

/-! ### Reading -/

theorem At.below {w w' : World} {a : Addr} {o : Nat} {vs : List Value} (h : At w a o vs) (hb : Below w.heap.size w w') : At w' a o vs := by
  intro i v hv
  have h1 := h i v hv
  rw [← h1]
  exact World.cell?_of_block (hb.block _ (World.block_lt_of_cell? w _ h1))
theorem At.keeps {w w' : World} {a : Addr} {o : Nat} {vs : List Value} {F : Nat → Prop} (h : At w a o vs) (hk : Keeps F w w') (hF : ¬ F a.block) : At w' a o vs := by
  intro i v hv
  have h1 := h i v hv
  have hb : (a.add (o + i)).block = a.block := by unfold Addr.add; split <;> rfl
  rw [← h1]
  exact World.cell?_of_block (hk.heap _ (World.block_lt_of_cell? w _ h1) (by rw [hb]; exact hF))
theorem At.sub {w : World} {a : Addr} {o : Nat} {vs us : List Value} (h : At w a o vs) (j : Nat) (hu : us = (vs.drop j).take us.length) : At w a (o + j) us := by
  intro i v hv
  have : vs[j + i]? = some v := by
    rw [hu, List.getElem?_take] at hv
    split at hv
    · rwa [List.getElem?_drop] at hv
    · cases hv
  have := h (j + i) v this
  rwa [← Nat.add_assoc] at this
theorem At.one {w : World} {a : Addr} {o : Nat} {vs : List Value} {v : Value} (h : At w a o vs) (j : Nat) (hv : vs[j]? = some v) : At w a (o + j) [v] := by
  intro i u hu
  cases i with
  | zero => cases hu; exact h j _ hv
  | succ i => simp at hu

end Go.Sy
