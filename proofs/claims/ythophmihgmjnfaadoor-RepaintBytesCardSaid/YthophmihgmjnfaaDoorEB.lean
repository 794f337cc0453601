/- The symbolic evaluator is sound: operations that leave memory alone. -/
import Derived.Test.YthophmihgmjnfaaDoorEA
set_option linter.unusedVariables false
set_option linter.unusedSimpArgs false
-- --
namespace Go.Sy
variable {P : Program}

/-- What an operation that leaves memory alone gives, in worlds of some kind. -/
def Gives (P : Program) (n : Nat) (β : List Nat) (S : World → Prop) (m : Sem Value) (K : SV → Prop) : Prop :=
  ∃ v, okv n v ∧ K v ∧ ∀ w, S w → m.run P w = .ok (real β v) w
theorem Gives.of {n : Nat} {β : List Nat} {S : World → Prop} {m : Sem Value} {K : SV → Prop} {v : SV} (hv : okv n v) (hk : K v) (h : ∀ w, m.run P w = .ok (real β v) w) : Gives P n β S m K := ⟨v, hv, hk, fun w _ => h w⟩

theorem Gives.bool {n : Nat} {β : List Nat} {S : World → Prop} {m : Sem Value} {K : SV → Prop} (e : BE) {b : Bool} (he : e.is true ↔ b = true) (hk : K (.bool e)) (h : ∀ w, S w → m.run P w = .ok (.bool b) w) : Gives P n β S m K := by
  refine ⟨.bool e, trivial, hk, fun w hw => ?_⟩
  have : e.toB = b := by
    have h1 := BE.toB_iff e true
    rw [he] at h1
    cases b <;> cases h2 : e.toB <;> simp_all
  rw [h w hw]
  simp only [real, this]

theorem wrap_i64 {x : Int} (h : I64 x) : IntKind.i64.wrap x = x := by
  unfold I64 at h
  simp [IntKind.wrap, IntKind.bits, IntKind.signed]
  omega

theorem arith_sound {k : IntKind} {x : Int} {K : SV → Prop} (h : arith k x K) : ∃ y, k.wrap x = y ∧ K (.int k y) := by
  unfold arith at h
  split at h
  · obtain ⟨h1, h2⟩ := h
    exact ⟨x, wrap_i64 h1, h2⟩
  · exact ⟨_, rfl, h⟩

theorem intBin_sound {n : Nat} {β : List Nat} {S : World → Prop} {op : BinOp} {t : TypeId} {k : IntKind} {a b : Int} {K : SV → Prop} (h : intBin op k a b K) : Gives P n β S (Go.binOp op t (.int k a) (.int k b)) K := by
  cases op <;> simp only [intBin] at h
  case add =>
    obtain ⟨y, hy, hk⟩ := arith_sound h
    exact Gives.of (v := .int k y) trivial hk fun w => by simp [Go.binOp, Op.intArith, hy, real]
  case sub =>
    obtain ⟨y, hy, hk⟩ := arith_sound h
    exact Gives.of (v := .int k y) trivial hk fun w => by simp [Go.binOp, Op.intArith, hy, real]
  case mul =>
    obtain ⟨y, hy, hk⟩ := arith_sound h
    exact Gives.of (v := .int k y) trivial hk fun w => by simp [Go.binOp, Op.intArith, hy, real]
  case quo =>
    split at h
    · obtain ⟨⟨h1, h2, h3⟩, hk⟩ := h
      refine Gives.of (v := .int .i64 (a / b)) trivial hk fun w => ?_
      have hb : b ≠ 0 := by omega
      have hd : a.tdiv b = a / b := Int.tdiv_eq_ediv_of_nonneg h1
      have h4 : 0 ≤ a / b := Int.ediv_nonneg h1 (by omega)
      have h5 : a / b ≤ a := Int.ediv_le_self _ h1
      have hw : IntKind.i64.wrap (a / b) = a / b := wrap_i64 (by unfold I64 at *; omega)
      simp [Go.binOp, Op.intDiv, real, hb, hd, hw]
    · exact h.elim
  case rem =>
    split at h
    · obtain ⟨⟨h1, h2, h3⟩, hk⟩ := h
      refine Gives.of (v := .int .i64 (a % b)) trivial hk fun w => ?_
      have hb : b ≠ 0 := by omega
      have hd : a.tmod b = a % b := Int.tmod_eq_emod_of_nonneg h1
      simp [Go.binOp, Op.intDiv, real, hb, hd]
    · exact h.elim
  case and => exact Gives.of (v := .int k (bits .and k a b)) trivial h fun w => by simp [Go.binOp, intBits_and, real]
  case or => exact Gives.of (v := .int k (bits .or k a b)) trivial h fun w => by simp [Go.binOp, intBits_or, real]
  case xor => exact Gives.of (v := .int k (bits .xor k a b)) trivial h fun w => by simp [Go.binOp, intBits_xor, real]
  case andNot => exact Gives.of (v := .int k (bits .andNot k a b)) trivial h fun w => by simp [Go.binOp, intBits_andNot, real]
  case eql => exact Gives.bool (.eq a b) (b := a == b) (by simp [BE.is]) h fun w _ => by simp [Go.binOp, Op.intCmp]
  case neq => exact Gives.bool (.no (.eq a b)) (b := a != b) (by simp [BE.is]) h fun w _ => by simp [Go.binOp, Op.intCmp]
  case lss => exact Gives.bool (.lt a b) (b := decide (a < b)) (by simp [BE.is]) h fun w _ => by simp [Go.binOp, Op.intCmp]
  case leq => exact Gives.bool (.le a b) (b := decide (a ≤ b)) (by simp [BE.is]) h fun w _ => by simp [Go.binOp, Op.intCmp]
  case gtr => exact Gives.bool (.lt b a) (b := decide (a > b)) (by simp [BE.is]) h fun w _ => by simp [Go.binOp, Op.intCmp]
  case geq => exact Gives.bool (.le b a) (b := decide (a ≥ b)) (by simp [BE.is]) h fun w _ => by simp [Go.binOp, Op.intCmp]


theorem str_size (s : List UInt8) : (ByteArray.mk s.toArray).size = s.length := by simp [ByteArray.size]
theorem str_append (a b : List UInt8) : (ByteArray.mk a.toArray ++ ByteArray.mk b.toArray) = ByteArray.mk (a ++ b).toArray := by
  apply ByteArray.ext
  simp
theorem flag_sound {n : Nat} {β : List Nat} {S : World → Prop} {op : BinOp} {e : BE} {K : SV → Prop} {m : Sem Value} (h : flag op e K)
    (h1 : op = .eql → ∀ w, S w → m.run P w = .ok (.bool e.toB) w) (h2 : op = .neq → ∀ w, S w → m.run P w = .ok (.bool !e.toB) w) : Gives P n β S m K := by
  cases op <;> simp only [flag] at h
  case eql => exact ⟨.bool e, trivial, h, fun w hw => h1 rfl w hw⟩
  case neq => exact Gives.bool (.no e) (b := !e.toB) (by rw [show (BE.no e).is true = e.is false from rfl, BE.toB_iff]; simp) h fun w hw => h2 rfl w hw
theorem known_sound {n : Nat} {β : List Nat} {S : World → Prop} {op : BinOp} {b : Bool} {K : SV → Prop} {m : Sem Value} (h : known op b K)
    (h1 : op = .eql → ∀ w, S w → m.run P w = .ok (.bool b) w) (h2 : op = .neq → ∀ w, S w → m.run P w = .ok (.bool !b) w) : Gives P n β S m K := by
  cases op <;> simp only [known] at h
  case eql => exact ⟨.lit b, trivial, h, fun w hw => h1 rfl w hw⟩
  case neq =>
    cases b with
    | true => exact ⟨.lit false, trivial, h, fun w hw => h2 rfl w hw⟩
    | false => exact ⟨.lit true, trivial, h, fun w hw => h2 rfl w hw⟩

theorem strBin_sound {n : Nat} {β : List Nat} {S : World → Prop} {op : BinOp} {t : TypeId} {a b : List UInt8} {K : SV → Prop} (h : strBin op a b K) : Gives P n β S (Go.binOp op t (.string ⟨a.toArray⟩) (.string ⟨b.toArray⟩)) K := by
  cases op <;> simp only [strBin] at h
  case add =>
    obtain ⟨h1, hk⟩ := h
    refine Gives.of (v := .str (a ++ b)) trivial hk fun w => ?_
    simp only [Go.binOp, Op.stringOp, str_size, str_append, real]
    rw [if_neg (by simp only [IntKind.max_i64]; omega)]
    rfl
  case eql => exact Gives.bool (.pr (a = b)) (b := a == b) (by simp [BE.is]) h fun w _ => by simp [Go.binOp, Op.stringOp]
  case neq => exact Gives.bool (.no (.pr (a = b))) (b := !(a == b)) (by simp [BE.is]) h fun w _ => by simp [Go.binOp, Op.stringOp]

/-- The guard of an equality. -/
theorem eqGuard_none (op : BinOp) (t : TypeId) (x y : Operand) (a b : Value) (h : (a = .nilIface → b ≠ .nilIface)) (h2 : ∀ cs ds, a = .agg cs → b = .agg ds → P.eqGuardType P.depth t = false) (w : World) : (eqGuard op t x y a b).run P w = .ok () w := by
  unfold eqGuard
  cases op <;> try (simp; done)
  all_goals
    cases a with
    | nilIface => cases b <;> first | exact absurd rfl (h rfl) | simp
    | agg cs => cases b with
      | agg ds => simp [h2 cs ds rfl rfl]
      | _ => simp
    | _ => simp

theorem isSome_of {α : Type} {x : Option α} {y : α} (h : x = some y) : x.isSome = true := by rw [h]; rfl

theorem equal_ptr {t e : TypeId} (hu : P.underlying t = some (.pointer e)) (p : Option Addr) (w : World) : (Op.equal t (.pointer p) (.pointer none)).run P w = .ok (decide (p = none)) w := by
  have key : ∀ D, (Op.equalIn (D + 1) t (.pointer p) (.pointer none)).run P w = .ok (decide (p = none)) w := fun D => by cases p <;> simp [Op.equalIn, run_underlying hu]
  exact key 9999
theorem equal_slice {t e : TypeId} (hu : P.underlying t = some (.slice e)) (p : Option Addr) (n c m d : Nat) (w : World) : (Op.equal t (.slice p n c) (.slice none m d)).run P w = .ok (decide (p = none)) w := by
  have key : ∀ D, (Op.equalIn (D + 1) t (.slice p n c) (.slice none m d)).run P w = .ok (decide (p = none)) w := fun D => by cases p <;> simp [Op.equalIn, run_underlying hu]
  exact key 9999
theorem equal_bool {t : TypeId} (hu : P.underlying t = some .bool) (a b : Bool) (w : World) : (Op.equal t (.bool a) (.bool b)).run P w = .ok (a == b) w := by
  have key : ∀ D, (Op.equalIn (D + 1) t (.bool a) (.bool b)).run P w = .ok (a == b) w := fun D => by simp [Op.equalIn, run_underlying hu]
  exact key 9999

theorem isPtr_of {t : TypeId} (h : isPtr? P t = true) : ∃ e, P.underlying t = some (.pointer e) := by
  unfold isPtr? at h
  split at h
  · exact ⟨_, by assumption⟩
  · cases h
theorem isSlice_of {t : TypeId} (h : isSlice? P t = true) : ∃ e, P.underlying t = some (.slice e) := by
  unfold isSlice? at h
  split at h
  · exact ⟨_, by assumption⟩
  · cases h
theorem isBool_of {t : TypeId} (h : isBool? P t = true) : P.underlying t = some .bool := by
  unfold isBool? at h
  split at h
  · assumption
  · cases h

theorem eql_run {t : TypeId} {x y : Value} {b : Bool} {w : World} (hx : ∀ k n, x ≠ .int k n) (h1 : ∀ k n, x ≠ .float k n) (h2 : ∀ k n m, x ≠ .complex k n m) (h3 : ∀ s, x ≠ .string s) (h : (Op.equal t x y).run P w = .ok b w) :
    (Go.binOp .eql t x y).run P w = .ok (.bool b) w ∧ (Go.binOp .neq t x y).run P w = .ok (.bool !b) w := by
  cases x <;> first | exact absurd rfl (hx _ _) | exact absurd rfl (h1 _ _) | exact absurd rfl (h2 _ _ _) | exact absurd rfl (h3 _) | (constructor <;> (unfold Go.binOp; simp [h]))

end Go.Sy

set_option linter.unusedSimpArgs false
namespace Go.Sy
variable {P : Program} {n : Nat} {β : List Nat} {S : World → Prop} {K : SV → Prop}

theorem Gives.guard {g : Sem Unit} {m : Sem Value} (hg : ∀ w, g.run P w = .ok () w) (h : Gives P n β S m K) : Gives P n β S (do g; m) K := by
  obtain ⟨v, h1, h2, h3⟩ := h
  exact ⟨v, h1, h2, fun w hw => by rw [Sem.run_bind, hg]; exact h3 w hw⟩

theorem toB_pr (q : Prop) [Decidable q] : (BE.pr q).toB = decide q := by
  have := BE.toB_iff (.pr q) true
  simp only [BE.is] at this
  cases h : (BE.pr q).toB <;> simp_all
theorem toB_no (e : BE) : (BE.no e).toB = !e.toB := by rw [BE.toB_val, BE.toB_val, BE.not_val]

theorem bin_sound {op : BinOp} {t : TypeId} {x y : SV} (xo yo : Operand) (h : bin P β op t x y K) (hx : okv n x) (hy : okv n y) :
    Gives P n β S (do eqGuard op t xo yo (real β x) (real β y); Go.binOp op t (real β x) (real β y)) K := by
  unfold bin at h
  split at h
  · split at h
    · rename_i hk
      have he := kindEq_sound hk
      subst he
      exact Gives.guard (eqGuard_none _ _ _ _ _ _ (by intro e; cases e) (by intro _ _ e; cases e)) (intBin_sound h)
    · exact h.elim
  · exact Gives.guard (eqGuard_none _ _ _ _ _ _ (by intro e; cases e) (by intro _ _ e; cases e)) (strBin_sound h)
  · rename_i a b
    unfold aggBin at h
    split at h
    · rename_i hg
      obtain ⟨r, hr, h⟩ := h
      refine Gives.guard (eqGuard_none _ _ _ _ _ _ (by intro e; cases e) (fun _ _ _ _ => hg)) ?_
      refine flag_sound h (fun e w _ => ?_) (fun e w _ => ?_)
      · subst e; exact (eql_run (by intros; simp [real]) (by intros; simp [real]) (by intros; simp [real]) (by intros; simp [real]) (hr w)).1
      · subst e; exact (eql_run (by intros; simp [real]) (by intros; simp [real]) (by intros; simp [real]) (by intros; simp [real]) (hr w)).2
    · exact h.elim
  · rename_i p
    split at h
    · rename_i ht
      obtain ⟨e, hu⟩ := isPtr_of ht
      have key := fun w => eql_run (by intros; simp) (by intros; simp) (by intros; simp) (by intros; simp) (equal_ptr hu p w)
      refine Gives.guard (eqGuard_none _ _ _ _ _ _ (by intro e; cases e) (by intro _ _ e; cases e)) (flag_sound h (fun e w _ => ?_) (fun e w _ => ?_))
      · subst e; rw [toB_pr]; exact (key w).1
      · subst e; rw [toB_pr]; exact (key w).2
    · exact h.elim
  · rename_i a o
    split at h
    · rename_i ht
      obtain ⟨e, hu⟩ := isPtr_of ht
      have key := fun w => eql_run (by intros; simp) (by intros; simp) (by intros; simp) (by intros; simp) (equal_ptr hu (some (a.add o)) w)
      refine Gives.guard (eqGuard_none _ _ _ _ _ _ (by simp [real, adrVal_eq]) (by simp [real, adrVal_eq])) (known_sound h (fun e w _ => ?_) (fun e w _ => ?_))
      · subst e; simpa [real, adrVal_eq] using (key w).1
      · subst e; simpa [real, adrVal_eq] using (key w).2
    · exact h.elim
  · rename_i k o
    split at h
    · rename_i ht
      obtain ⟨e, hu⟩ := isPtr_of ht
      have key := fun w => eql_run (by intros; simp) (by intros; simp) (by intros; simp) (by intros; simp) (equal_ptr hu (some ⟨β.getD k 0, o, none⟩) w)
      refine Gives.guard (eqGuard_none _ _ _ _ _ _ (by intro e; cases e) (by intro _ _ e; cases e)) (known_sound h (fun e w _ => ?_) (fun e w _ => ?_))
      · subst e; simpa [real] using (key w).1
      · subst e; simpa [real] using (key w).2
    · exact h.elim
  · rename_i p m c m' c'
    split at h
    · rename_i ht
      obtain ⟨e, hu⟩ := isSlice_of ht
      have key := fun w => eql_run (by intros; simp) (by intros; simp) (by intros; simp) (by intros; simp) (equal_slice hu p m c m' c' w)
      refine Gives.guard (eqGuard_none _ _ _ _ _ _ (by intro e; cases e) (by intro _ _ e; cases e)) (flag_sound h (fun e w _ => ?_) (fun e w _ => ?_))
      · subst e; rw [toB_pr]; exact (key w).1
      · subst e; rw [toB_pr]; exact (key w).2
    · exact h.elim
  · rename_i a b
    split at h
    · rename_i ht
      have key := fun w => eql_run (by intros; simp) (by intros; simp) (by intros; simp) (by intros; simp) (equal_bool (isBool_of ht) a b w)
      refine Gives.guard (eqGuard_none _ _ _ _ _ _ (by intro e; cases e) (by intro _ _ e; cases e)) ?_
      have h' : known op (a == b) K := by cases a <;> cases b <;> exact h
      refine known_sound h' (fun e w _ => ?_) (fun e w _ => ?_)
      · subst e; exact (key w).1
      · subst e; exact (key w).2
    · exact h.elim
  · rename_i e b
    split at h
    · rename_i ht
      have key := fun w => eql_run (by intros; simp) (by intros; simp) (by intros; simp) (by intros; simp) (equal_bool (isBool_of ht) e.toB b w)
      refine Gives.guard (eqGuard_none _ _ _ _ _ _ (by intro e; cases e) (by intro _ _ e; cases e)) ?_
      cases b
      · refine flag_sound h (fun e' w _ => ?_) (fun e' w _ => ?_)
        · subst e'; have := (key w).1; rw [real, real, this, toB_no]; simp
        · subst e'; have := (key w).2; rw [real, real, this, toB_no]; simp
      · refine flag_sound h (fun e' w _ => ?_) (fun e' w _ => ?_)
        · subst e'; have := (key w).1; rw [real, real, this]; simp
        · subst e'; have := (key w).2; rw [real, real, this]; simp
    · exact h.elim
  · rename_i b e
    split at h
    · rename_i ht
      have key := fun w => eql_run (by intros; simp) (by intros; simp) (by intros; simp) (by intros; simp) (equal_bool (isBool_of ht) b e.toB w)
      refine Gives.guard (eqGuard_none _ _ _ _ _ _ (by intro e; cases e) (by intro _ _ e; cases e)) ?_
      cases b
      · refine flag_sound h (fun e' w _ => ?_) (fun e' w _ => ?_)
        · subst e'; have := (key w).1; rw [real, real, this, toB_no]; simp
        · subst e'; have := (key w).2; rw [real, real, this, toB_no]; simp
      · refine flag_sound h (fun e' w _ => ?_) (fun e' w _ => ?_)
        · subst e'; have := (key w).1; rw [real, real, this]; simp
        · subst e'; have := (key w).2; rw [real, real, this]; simp
    · exact h.elim
  · rename_i e f
    split at h
    · rename_i ht
      have key := fun w => eql_run (by intros; simp) (by intros; simp) (by intros; simp) (by intros; simp) (equal_bool (isBool_of ht) e.toB f.toB w)
      refine Gives.guard (eqGuard_none _ _ _ _ _ _ (by intro e; cases e) (by intro _ _ e; cases e)) ?_
      have hv : (BE.pr (e.val = f.val)).toB = (e.toB == f.toB) := by
        rw [BE.toB_val, BE.toB_val, BE.toB_val]
        have := BE.val_iff (.pr (e.val = f.val)) true
        simp only [BE.is] at this
        cases h1 : (BE.pr (e.val = f.val)).val <;> cases h2 : e.val <;> cases h3 : f.val <;> simp_all
      refine flag_sound h (fun e' w _ => ?_) (fun e' w _ => ?_)
      · subst e'; rw [hv]; exact (key w).1
      · subst e'; rw [hv]; exact (key w).2
    · exact h.elim
  · exact h.elim

theorem un_sound {op : UnOp} {x : SV} (h : un op x K) : Gives P n β S (Op.unary op (real β x)) K := by
  unfold un at h
  split at h
  · rename_i b
    cases b
    · exact ⟨.lit true, trivial, h, fun w _ => rfl⟩
    · exact ⟨.lit false, trivial, h, fun w _ => rfl⟩
  · rename_i e
    exact ⟨.bool (.no e), trivial, h, fun w _ => by simp [Op.unary, real, toB_no]⟩
  · rename_i m
    obtain ⟨h1, h2⟩ := h
    exact ⟨.int .i64 (0 - m), trivial, h2, fun w _ => by simp only [Op.unary, Op.intArith, real, wrap_i64 h1, Sem.run_pure]⟩
  · exact h.elim

theorem fieldAt_sound {s : TypeId} {x : SV} {i : Nat} (h : fieldAt P s x i K) (hx : okv n x) : Gives P n β S (Instr.fieldAt s (real β x) i) K := by
  unfold fieldAt at h
  split at h
  · rename_i fields hu
    split at h
    · rename_i f hf
      split at h
      · rename_i m hm
        split at h
        · rename_i hlt
          rw [Nat.blt_eq] at hlt
          have key : ∀ (a : Addr) (w : World), (Instr.fieldAt s (.pointer (some a)) i).run P w = .ok (.pointer (some (a.add f.offset))) w := by
            intro a w
            simp [Instr.fieldAt, run_underlying hu, hf, Instr.sureAddr, fieldPlace, run_sizeOf hm, show m ≠ 0 by omega]
          split at h
          · rename_i k o
            refine ⟨_, (show okv n (.loc k (o + f.offset)) from hx), h, fun w _ => ?_⟩
            simp only [real]
            rw [key]
            congr 3
            unfold Addr.add
            split
            · rename_i h0; rw [h0]; rfl
            · rfl
          · rename_i a o
            refine ⟨_, (show okv n (.adr a (o + f.offset)) from trivial), h, fun w _ => ?_⟩
            rw [real, real, adrVal_eq, adrVal_eq, key, add_add]
          · rename_i p
            obtain ⟨a, rfl, h⟩ := h
            refine ⟨_, (show okv n (.adr a f.offset) from trivial), h, fun w _ => ?_⟩
            rw [real, real, adrVal_eq, key]
          · exact h.elim
        · exact h.elim
      · exact h.elim
    · exact h.elim
  · exact h.elim

theorem part_sound {t : TypeId} {cs : List SV} {off : Nat} (h : part P t cs off K) (hc : okvs n cs) (hs : cs.all SV.scalar = true) : Gives P n β S (Go.part t (reals β cs).toArray off) K := by
  unfold part at h
  split at h
  · rename_i ha
    split at h
    · rename_i m hm
      split at h
      · rename_i hle
        refine ⟨.agg ((cs.drop off).take m), ⟨okvs_iff.2 fun u hu => okvs_iff.1 hc u (List.mem_of_mem_drop (List.mem_of_mem_take hu)), List.all_eq_true.2 fun u hu => List.all_eq_true.1 hs u (List.mem_of_mem_drop (List.mem_of_mem_take hu))⟩, h, fun w _ => ?_⟩
        simp only [Go.part, Sem.run_bind, run_isAgg ha, Result.andThen_ok, if_true, run_sizeOf hm, Sem.run_pure, real]
        congr 2
        apply Array.ext'
        simp [reals_eq, List.map_drop, List.map_take]
      · exact h.elim
    · exact h.elim
  · rename_i ha
    split at h
    · rename_i v hv
      refine ⟨v, okvs_iff.1 hc v (List.mem_iff_getElem?.2 ⟨_, hv⟩), h, fun w _ => ?_⟩
      have : (reals β cs).toArray[off]? = some (real β v) := by simp [reals_eq, hv]
      simp only [Go.part, Sem.run_bind, run_isAgg ha, Result.andThen_ok, Bool.false_eq_true, if_false, this]
      rfl
    · exact h.elim
  · exact h.elim

theorem field_sound {s : TypeId} {x : SV} {i : Nat} (h : field P s x i K) (hx : okv n x) : Gives P n β S (Instr.field s (real β x) i) K := by
  unfold field at h
  split at h
  · rename_i fields cs hu
    split at h
    · rename_i f hf
      obtain ⟨v, h1, h2, h3⟩ := part_sound (S := S) (β := β) h hx.1 hx.2
      refine ⟨v, h1, h2, fun w hw => ?_⟩
      simp only [real]
      simp [Instr.field, run_underlying hu, hf, asAgg, h3 w hw]
    · exact h.elim
  · exact h.elim

theorem eachIx_get {i : Int} {Kn : Nat → Prop} : ∀ {m j : Nat}, eachIx i m j Kn → ∀ k : Nat, i = ((j + k : Nat) : Int) → k < m → Kn (j + k)
  | 0, _, _, k, _, hk => by omega
  | m + 1, j, h, k, hi, hk => by
    cases k with
    | zero => exact h.1 (by simpa using hi)
    | succ k =>
      have := eachIx_get h.2 k (by rw [hi]; congr 1; omega) (by omega)
      rwa [show j + 1 + k = j + (k + 1) by omega] at this
theorem withIx_sound {lit : Bool} {i : Int} {m : Nat} {Kn : Nat → Prop} (h : withIx lit i m Kn) : ∃ k : Nat, i = k ∧ k < m ∧ Kn k := by
  unfold withIx at h
  split at h
  · cases i with
    | ofNat k =>
      cases hb : Nat.blt k m with
      | true =>
        simp only [ixLit, hb] at h
        exact ⟨k, rfl, by rwa [Nat.blt_eq] at hb, h⟩
      | false => simp only [ixLit, hb] at h
    | negSucc k => exact h.elim
  · obtain ⟨⟨h1, h2⟩, h3⟩ := h
    have := eachIx_get h3 i.toNat (by omega) (by omega)
    exact ⟨i.toNat, by omega, by omega, by simpa using this⟩

theorem indexAt_sound {t : TypeId} {x : SV} {lit : Bool} {k : IntKind} {i : Int} (h : indexAt P t x lit i K) (hx : okv n x) : Gives P n β S (Instr.indexAt t (real β x) (.int k i)) K := by
  unfold indexAt at h
  split at h
  · rename_i len e l o hu
    split at h
    · rename_i s hs
      obtain ⟨j, rfl, hj, h⟩ := withIx_sound h
      refine ⟨.loc l (o + j * s), hx, h, fun w _ => ?_⟩
      simp only [real]
      simp [Instr.indexAt, asIntOf, run_underlying hu, Instr.sureAddr, hj, run_sizeOf hs]
      unfold Addr.add
      split
      · rename_i h0; simp [h0]
      · rfl
    · exact h.elim
  · rename_i len e a o hu
    split at h
    · rename_i s hs
      have key : ∀ (j : Nat) (w : World), j < len → (Instr.indexAt t (adrVal a o) (.int k (j : Int))).run P w = .ok (adrVal a (o + j * s)) w := by
        intro j w hj
        rw [adrVal_eq, adrVal_eq, ← add_add]
        simp [Instr.indexAt, asIntOf, run_underlying hu, Instr.sureAddr, hj, run_sizeOf hs]
      split at h
      · obtain ⟨j, rfl, hj, h⟩ := withIx_sound (lit := true) h
        exact ⟨.adr a (o + j * s), trivial, h, fun w _ => key j w hj⟩
      · obtain ⟨⟨h1, h2⟩, h⟩ := h
        refine ⟨.adr a (o + i.toNat * s), trivial, h, fun w _ => ?_⟩
        have := key i.toNat w (by omega)
        rwa [Int.toNat_of_nonneg h1] at this
    · exact h.elim
  · rename_i e p m c hu
    split at h
    · rename_i s hs
      obtain ⟨a, rfl, ⟨h1, h2⟩, h⟩ := h
      refine ⟨.adr a (i.toNat * s), trivial, h, fun w _ => ?_⟩
      simp only [real, adrVal_eq]
      simp [Instr.indexAt, asIntOf, run_underlying hu, h1, h2, run_sizeOf hs]
    · exact h.elim
  · rename_i e l o m c hu
    split at h
    · rename_i s hs
      obtain ⟨j, rfl, hj, h⟩ := withIx_sound h
      refine ⟨.loc l (o + j * s), hx, h, fun w _ => ?_⟩
      simp only [real]
      simp [Instr.indexAt, asIntOf, run_underlying hu, hj, run_sizeOf hs]
      unfold Addr.add
      split
      · rename_i h0; simp [h0]
      · rfl
    · exact h.elim
  · exact h.elim

theorem index_sound {t : TypeId} {x : SV} {lit : Bool} {k : IntKind} {i : Int} (h : index P t x lit i K) (hx : okv n x) : Gives P n β S (Instr.index t (real β x) (.int k i)) K := by
  unfold index at h
  split at h
  · rename_i len e cs hu
    split at h
    · rename_i s hs
      obtain ⟨j, rfl, hj, h⟩ := withIx_sound h
      obtain ⟨v, h1, h2, h3⟩ := part_sound (S := S) (β := β) h hx.1 hx.2
      refine ⟨v, h1, h2, fun w hw => ?_⟩
      simp only [real]
      simp [Instr.index, asIntOf, run_underlying hu, hj, run_sizeOf hs, h3 w hw]
    · exact h.elim
  · rename_i s hu
    obtain ⟨⟨h1, h2⟩, h⟩ := h
    refine ⟨.int .u8 (byteAt s i), trivial, h, fun w _ => ?_⟩
    have hlt : i.toNat < s.length := by omega
    have : (ByteArray.mk s.toArray)[i.toNat]? = some (s.getD i.toNat 0) := by
      have hlt2 : i.toNat < (ByteArray.mk s.toArray).size := by rw [str_size]; exact hlt
      rw [getElem?_pos (ByteArray.mk s.toArray) i.toNat hlt2]
      simp [List.getD_eq_getElem?_getD, List.getElem?_eq_getElem hlt]
      rfl
    simp only [real, byteAt]
    simp [Instr.index, asIntOf, run_underlying hu, this, h1]
  · exact h.elim

theorem extract_sound {x : SV} {i : Nat} (h : extract x i K) (hx : okv n x) : Gives P n β S (Instr.extract (real β x) i) K := by
  unfold extract at h
  split at h
  · rename_i vs
    split at h
    · rename_i v hv
      refine ⟨v, okvs_iff.1 hx v (List.mem_iff_getElem?.2 ⟨_, hv⟩), h, fun w _ => ?_⟩
      have : (reals β vs).toArray[i]? = some (real β v) := by simp [reals_eq, hv]
      simp [Instr.extract, real, this]
    · exact h.elim
  · exact h.elim

theorem convert_sound {s d : TypeId} {x : SV} (h : convert P s d x K) : Gives P n β S (Go.convert s d (real β x)) K := by
  unfold convert at h
  split at h
  · rename_i k0 k k' m hs hd
    have key : ∀ w : World, (Go.convert s d (.int k' m)).run P w = .ok (.int k (k.wrap m)) w := by
      intro w
      simp [Go.convert, run_underlying hs, run_underlying hd, Conv.intToInt]
    have fin : arith k m K → Gives P n β S (Go.convert s d (.int k' m)) K := fun h => by
      obtain ⟨y, hy, hk⟩ := arith_sound h
      exact ⟨.int k y, trivial, hk, fun w _ => by rw [key, hy]; rfl⟩
    apply fin
    unfold arith
    split at h <;> exact h
  · rename_i l hs hd
    exact ⟨.str l, trivial, h, fun w _ => by simp [Go.convert, run_underlying hs, run_underlying hd, real]⟩
  · exact h.elim

end Go.Sy

namespace Go.Sy
variable {P : Program} {n : Nat} {β : List Nat} {S : World → Prop} {K : SV → Prop}

theorem optI_sound {T : Env} {a : Act} (hT : EnvOk n β T a.tmps) {d l : Int} {x : Option Operand} (h : optI (eval P T) d x = some l) : (x = none ∧ l = d) ∨ ∃ y k, x = some y ∧ a.eval y = .int k l := by
  unfold optI at h
  split at h
  · cases h; exact .inl ⟨rfl, rfl⟩
  · rename_i y
    split at h
    · rename_i hy
      cases h
      exact .inr ⟨y, _, rfl, (eval_sound hT hy).2⟩
    · cases h
theorem run_bound (k : IntKind) (i : Int) (y : Nat) (h1 : 0 ≤ i) (h2 : i ≤ y) (code : BoundsCode) (w : World) : (Instr.sliceBound (.int k i) y code).run P w = .ok i.toNat w := by
  simp [Instr.sliceBound, asIntOf, h1, h2]

theorem sliceBounds_run {T : Env} {a : Act} (hT : EnvOk n β T a.tmps) (isSlice : Bool) (len cap : Nat) {lo hi : Option Operand} {l h : Int}
    (hl : optI (eval P T) 0 lo = some l) (hh : optI (eval P T) len hi = some h) (h1 : 0 ≤ l) (h2 : l ≤ h) (h3 : h ≤ cap) (w : World) :
    (Instr.sliceBounds isSlice len cap (lo.map a.eval) (hi.map a.eval) none).run P w = .ok (l.toNat, h.toNat, cap) w := by
  unfold Instr.sliceBounds
  rcases optI_sound hT hh with ⟨rfl, rfl⟩ | ⟨y, k, rfl, hy⟩
  · rcases optI_sound hT hl with ⟨rfl, rfl⟩ | ⟨x, k2, rfl, hx⟩
    · simp
    · simp [hx, run_bound k2 l len h1 h2]
  · have hc : h ≤ (h.toNat : Int) := by omega
    rcases optI_sound hT hl with ⟨rfl, rfl⟩ | ⟨x, k2, rfl, hx⟩
    · simp [hy, run_bound k h cap (by omega) h3]
    · simp [hy, hx, run_bound k h cap (by omega) h3, run_bound k2 l h.toNat h1 (by omega)]
theorem sliceBounds3_run {T : Env} {a : Act} (hT : EnvOk n β T a.tmps) (len cap : Nat) {lo mx : Option Operand} {hi : Operand} {l h m : Int}
    (hl : optI (eval P T) 0 lo = some l) (hh : optI (eval P T) 0 (some hi) = some h) (hm : optI (eval P T) 0 mx = some m) (hmx : mx.isSome = true) (h1 : 0 ≤ l) (h2 : l ≤ h) (h3 : h ≤ m) (h4 : m ≤ cap) (w : World) :
    (Instr.sliceBounds true len cap (lo.map a.eval) (some (a.eval hi)) (mx.map a.eval)).run P w = .ok (l.toNat, h.toNat, m.toNat) w := by
  unfold Instr.sliceBounds
  rcases optI_sound hT hm with ⟨rfl, _⟩ | ⟨z, k3, rfl, hz⟩
  · cases hmx
  rcases optI_sound hT hh with ⟨e, _⟩ | ⟨y, k, e, hy⟩
  · cases e
  cases e
  rcases optI_sound hT hl with ⟨rfl, rfl⟩ | ⟨x, k2, rfl, hx⟩
  · simp [hz, hy, run_bound k3 m cap (by omega) h4, run_bound k h m.toNat (by omega) (by omega)]
  · simp [hz, hy, hx, run_bound k3 m cap (by omega) h4, run_bound k h m.toNat (by omega) (by omega), run_bound k2 l h.toNat h1 (by omega)]

theorem slice_sound {T : Env} {a : Act} (hT : EnvOk n β T a.tmps) {t : TypeId} {x : SV} {lo hi mx : Option Operand} (h : slice P t x lo hi mx (eval P T) K) :
    Gives P n β S (Instr.sliceAt t (real β x) (lo.map a.eval) (hi.map a.eval) (mx.map a.eval)) K := by
  unfold slice at h
  split at h
  · rename_i mo
    split at h
    · rename_i e p m c hi' hu
      split at h
      · rename_i s l h' mm hs hl hh hm
        obtain ⟨⟨h1, h2, h3, h4⟩, h⟩ := h
        refine ⟨_, (show okv n (.sl (cutP p mm.toNat l.toNat s) (h' - l).toNat (mm - l).toNat) from trivial), h, fun w _ => ?_⟩
        have hb := sliceBounds3_run (P := P) hT m c hl hh hm rfl h1 h2 h3 h4 w
        simp only [Option.map_some] at hb
        simp only [real, Instr.sliceAt, Instr.slice, Sem.run_bind, run_underlying hu, Result.andThen_ok, Option.map_some, hb, run_sizeOf hs, Sem.run_pure, cutP]
        congr 2 <;> omega
      · exact h.elim
    · exact h.elim
  · split at h
    · rename_i s hu
      split at h
      · rename_i l h' hl hh
        obtain ⟨⟨h1, h2, h3⟩, h⟩ := h
        refine ⟨_, (show okv n (.str ((s.drop l.toNat).take (h' - l).toNat)) from trivial), h, fun w _ => ?_⟩
        have hb := sliceBounds_run (P := P) hT false s.length s.length hl hh h1 h2 h3 w
        have hsz : (ByteArray.mk s.toArray).size = s.length := str_size s
        have hex : (ByteArray.mk s.toArray).extract l.toNat h'.toNat = ByteArray.mk ((s.drop l.toNat).take (h' - l).toNat).toArray := by
          apply ByteArray.ext
          simp [ByteArray.data_extract]
          congr 1
          omega
        simp only [real]
        simp [Instr.sliceAt, Instr.slice, run_underlying hu, hsz, hb, hex]
      · exact h.elim
    · rename_i e p m c hu
      split at h
      · rename_i s l h' hs hl hh
        obtain ⟨⟨h1, h2, h3⟩, h⟩ := h
        refine ⟨_, (show okv n (.sl (cutP p c l.toNat s) (h' - l).toNat (c - l.toNat)) from trivial), h, fun w _ => ?_⟩
        have hb := sliceBounds_run (P := P) hT true m c hl hh h1 h2 h3 w
        simp only [real, Instr.sliceAt, Instr.slice, Sem.run_bind, run_underlying hu, Result.andThen_ok, Option.map_none, hb, run_sizeOf hs, Sem.run_pure, cutP]
        congr 2; omega
      · exact h.elim
    · exact h.elim

theorem lenOf_sound {t ty : TypeId} {x : SV} (h : lenOf P t x K) : Gives P n β S (Builtin.len_ #[t] ty #[real β x]) K := by
  unfold lenOf at h
  split at h
  · rename_i s hu
    exact ⟨.int .i64 s.length, trivial, h, fun w _ => by simp [Builtin.len_, run_underlying hu, real, goInt, str_size]⟩
  · rename_i e p m c hu
    exact ⟨.int .i64 m, trivial, h, fun w _ => by simp [Builtin.len_, run_underlying hu, real, goInt]⟩
  · rename_i e k o m c hu
    exact ⟨.int .i64 m, trivial, h, fun w _ => by simp [Builtin.len_, run_underlying hu, real, goInt]⟩
  · rename_i m e hu
    exact ⟨.int .i64 m, trivial, h, fun w _ => by simp [Builtin.len_, run_underlying hu, goInt, real]⟩
  · exact h.elim

theorem min_run : ∀ {vs : List SV} {a : Int}, minmax true a vs K → ∃ b, K (.int .i64 b) ∧ ∀ w, ((reals β vs).foldlM Builtin.min2 (.int .i64 a)).run P w = .ok (.int .i64 b) w
  | [], a, h => ⟨a, h, fun w => rfl⟩
  | v :: vs, a, h => by
    cases v with
    | int k m =>
      cases k <;> first | exact h.elim | skip
      obtain ⟨b, hb, hr⟩ := min_run (show minmax true (min a m) vs K from h)
      refine ⟨b, hb, fun w => ?_⟩
      have : (if m < a then m else a) = min a m := by omega
      simp only [reals, real, List.foldlM_cons, Sem.run_bind, Builtin.min2, Sem.run_pure, Result.andThen_ok, this]
      exact hr w
    | _ => exact h.elim
theorem max_run : ∀ {vs : List SV} {a : Int}, minmax false a vs K → ∃ b, K (.int .i64 b) ∧ ∀ w, ((reals β vs).foldlM Builtin.max2 (.int .i64 a)).run P w = .ok (.int .i64 b) w
  | [], a, h => ⟨a, h, fun w => rfl⟩
  | v :: vs, a, h => by
    cases v with
    | int k m =>
      cases k <;> first | exact h.elim | skip
      obtain ⟨b, hb, hr⟩ := max_run (show minmax false (max a m) vs K from h)
      refine ⟨b, hb, fun w => ?_⟩
      have : (if m > a then m else a) = max a m := by omega
      simp only [reals, real, List.foldlM_cons, Sem.run_bind, Builtin.max2, Sem.run_pure, Result.andThen_ok, this]
      exact hr w
    | _ => exact h.elim

theorem calmBuiltin_sound {b : Builtin} {ats : Array TypeId} {ty : TypeId} {consts : Array Bool} {args : List SV} (h : calmBuiltin P b ats.toList args K) :
    ∃ v, okv n v ∧ K v ∧ ∀ w, (Go.builtin b ats ty consts (reals β args).toArray).run P w = .ok (.value (real β v)) w := by
  obtain ⟨ats⟩ := ats
  simp only at h
  unfold calmBuiltin at h
  split at h
  · rename_i t x
    obtain ⟨v, h1, h2, h3⟩ := lenOf_sound (n := n) (β := β) (S := fun _ => True) (ty := ty) h
    exact ⟨v, h1, h2, fun w => by simp [Go.builtin, reals, h3 w trivial]⟩
  · rename_i t x
    split at h
    · rename_i e p m c hu
      exact ⟨.int .i64 c, trivial, h, fun w => by simp [Go.builtin, Builtin.cap_, reals, run_underlying hu, real, goInt]⟩
    · exact h.elim
  · rename_i a vs
    obtain ⟨b, h1, h2⟩ := min_run (P := P) (β := β) h
    exact ⟨.int .i64 b, trivial, h1, fun w => by simp [Go.builtin, Builtin.min_, reals, real, h2]⟩
  · rename_i a vs
    obtain ⟨b, h1, h2⟩ := max_run (P := P) (β := β) h
    exact ⟨.int .i64 b, trivial, h1, fun w => by simp [Go.builtin, Builtin.max_, reals, real, h2]⟩
  · exact h.elim

/-! ### Building -/

theorem foldl_get (off : Nat) : ∀ (vs : List Value) (cells : Array Value) (j : Nat), off + j + vs.length ≤ cells.size → ∀ k,
    ((vs.zipIdx j).foldl (fun cs (x : Value × Nat) => cs.setIfInBounds (off + x.2) x.1) cells)[k]? = if off + j ≤ k ∧ k < off + j + vs.length then vs[k - (off + j)]? else cells[k]?
  | [], cells, j, _, k => by rw [if_neg (by simp)]; rfl
  | v :: vs, cells, j, hle, k => by
    simp only [List.length_cons] at hle
    rw [List.zipIdx_cons, List.foldl_cons, foldl_get off vs _ (j + 1) (by simp; omega)]
    by_cases h1 : off + (j + 1) ≤ k ∧ k < off + (j + 1) + vs.length
    · rw [if_pos h1, if_pos (by simp; omega)]
      have : k - (off + j) = (k - (off + (j + 1))) + 1 := by omega
      rw [this, List.getElem?_cons_succ]
    · rw [if_neg h1]
      by_cases h2 : k = off + j
      · subst h2
        rw [if_pos (by simp)]
        simp [show off + j < cells.size by omega]
      · rw [if_neg (by simp; omega), Array.getElem?_setIfInBounds_ne (by simp; omega)]
theorem foldl_set (off : Nat) (vs : List Value) (cells : Array Value) (hle : off + vs.length ≤ cells.size) :
    ((vs.zipIdx 0).foldl (fun cs (x : Value × Nat) => cs.setIfInBounds (off + x.2) x.1) cells).toList = cells.toList.take off ++ (vs ++ cells.toList.drop (off + vs.length)) := by
  apply List.ext_getElem?
  intro k
  rw [Array.getElem?_toList, foldl_get off vs cells 0 (by omega)]
  have htl : (cells.toList.take off).length = off := by simp; omega
  by_cases h1 : k < off
  · rw [if_neg (by omega), List.getElem?_append_left (by omega), List.getElem?_take, if_pos h1, Array.getElem?_toList]
  · rw [List.getElem?_append_right (by omega), htl]
    by_cases h2 : k - off < vs.length
    · rw [if_pos (by omega), List.getElem?_append_left h2]; rfl
    · rw [if_neg (by omega), List.getElem?_append_right (by omega), List.getElem?_drop, Array.getElem?_toList]
      congr 1; omega
theorem foldl_zipIdx_array (cells : Array Value) (vs : Array Value) (off : Nat) :
    vs.zipIdx.foldl (fun cs (c, j) => cs.setIfInBounds (off + j) c) cells = (vs.toList.zipIdx.foldl (fun cs (x : Value × Nat) => cs.setIfInBounds (off + x.2) x.1) cells) := by
  rw [← Array.foldl_toList, Array.toList_zipIdx]

theorem tup_flat {v : SV} (h : v.flat.all SV.scalar = true) : ∀ cs, v ≠ .tup cs := by
  rintro cs rfl; cases h
theorem fill_sound {place : Nat → Option (Nat × Nat)} : ∀ {ps : List (Nat × SV)} {cells out : List SV}, fill place cells ps = some out →
    okvs n cells → cells.all SV.scalar = true → (∀ p ∈ ps, okv n p.2) →
    Instr.fill place (reals β cells).toArray (ps.map fun p => (p.1, real β p.2)) = some (reals β out).toArray ∧ okvs n out ∧ out.all SV.scalar = true ∧ out.length = cells.length
  | [], cells, out, h, h1, h2, _ => by cases h; exact ⟨rfl, h1, h2, rfl⟩
  | (i, v) :: ps, cells, out, h, h1, h2, h3 => by
    simp only [fill] at h
    split at h
    · cases h
    · rename_i off size hp
      split at h
      · rename_i hc
        simp only [Bool.and_eq_true, Nat.beq_eq, Nat.ble_eq] at hc
        obtain ⟨⟨hc1, hc2⟩, o2⟩ := hc
        have o1 := h3 (i, v) (by simp)
        obtain ⟨f1, f2, _⟩ := flat_sound (β := β) o1
        have hok : okvs n (cells.take off ++ (v.flat ++ cells.drop (off + size))) := by
          rw [okvs_iff] at *
          intro u hu
          simp only [List.mem_append] at hu
          rcases hu with hu | hu | hu
          · exact h1 u (List.mem_of_mem_take hu)
          · exact f2 u hu
          · exact h1 u (List.mem_of_mem_drop hu)
        have hsc : (cells.take off ++ (v.flat ++ cells.drop (off + size))).all SV.scalar = true := by
          rw [List.all_eq_true] at *
          intro u hu
          simp only [List.mem_append] at hu
          rcases hu with hu | hu | hu
          · exact h2 u (List.mem_of_mem_take hu)
          · exact o2 u hu
          · exact h2 u (List.mem_of_mem_drop hu)
        obtain ⟨r1, r2, r3, r4⟩ := fill_sound h hok hsc (fun p hp => h3 p (by simp [hp]))
        refine ⟨?_, r2, r3, by rw [r4]; simp; omega⟩
        rw [← r1]
        simp only [List.map_cons, Instr.fill, hp, f1]
        have e1 : (reals β v.flat).toArray.size = size := by simp [reals_length, hc1]
        rw [if_neg (by rw [e1]; simp [reals_length]; omega)]
        congr 1
        apply Array.ext'
        rw [foldl_zipIdx_array, foldl_set off _ _ (by simp [reals_length]; omega)]
        simp [reals_eq, hc1]
      · cases h

theorem parts_sound {T : Env} {a : Act} (hT : EnvOk n β T a.tmps) : ∀ {xs : List (Nat × Operand)} {ps : List (Nat × SV)}, parts? P T xs = some ps →
    (∀ p ∈ ps, okv n p.2) ∧ xs.map (fun x => (x.1, a.eval x.2)) = ps.map fun p => (p.1, real β p.2)
  | [], ps, h => by cases h; exact ⟨by simp, rfl⟩
  | (i, x) :: xs, ps, h => by
    simp only [parts?, Option.bind_eq_some_iff, Option.map_eq_some_iff] at h
    obtain ⟨v, hv, us, hu, rfl⟩ := h
    obtain ⟨h1, h2⟩ := eval_sound hT hv
    obtain ⟨k1, k2⟩ := parts_sound hT hu
    refine ⟨fun p hp => ?_, by simp only [List.map_cons, h2, k2]⟩
    rcases List.mem_cons.1 hp with rfl | hp
    · exact h1
    · exact k1 p hp
theorem places_sound : ∀ {fs : List Field} {pl : List (Nat × Nat)}, places? P fs = some pl → fs.mapM (fun f => (P.info? f.type).map fun i => (f.offset, i.size)) = some pl
  | [], pl, h => by cases h; rfl
  | f :: fs, pl, h => by
    simp only [places?, Option.bind_eq_some_iff, Option.map_eq_some_iff] at h
    obtain ⟨s, hs, qs, hq, rfl⟩ := h
    unfold size? at hs
    cases hi : P.info? f.type with
    | none => rw [hi] at hs; cases hs
    | some i =>
      rw [hi] at hs
      cases hs
      simp [List.mapM_cons, hi, places_sound hq]

end Go.Sy

set_option linter.unusedVariables false
namespace Go.Sy
variable {P : Program} {n : Nat} {β : List Nat} {S : World → Prop} {K : SV → Prop}

theorem build_sound {t : TypeId} {ps : List (Nat × SV)} {v : SV} (hb : build P t ps = some v) (hps : ∀ p ∈ ps, okv n p.2) (parts : Array (Nat × Value))
    (hparts : parts.toList = ps.map fun p => (p.1, real β p.2)) (w : World) : (Instr.build t parts).run P w = .ok (real β v) w ∧ okv n v := by
  unfold build at hb
  simp only [Option.bind_eq_some_iff] at hb
  obtain ⟨z, hz, hb⟩ := hb
  obtain ⟨zv, _, hzc, hzt, it, hit, hiz⟩ := run_zero hz w
  obtain ⟨o1, o2⟩ := hzc n β
  obtain ⟨f1, f2, f3⟩ := flat_sound (β := β) o1
  rw [o2] at f1
  split at hb
  · rename_i fields hu
    simp only [Option.bind_eq_some_iff, Option.map_eq_some_iff] at hb
    obtain ⟨pl, hpl, out, hfill, rfl⟩ := hb
    obtain ⟨r1, r2, r3, _⟩ := fill_sound (β := β) hfill f2 hzt hps
    refine ⟨run_build w t parts _ ?_, r2, r3⟩
    simp only [Program.built, hit, hu, hiz, places_sound hpl, f1, hparts]
    rw [← r1]
    congr 1
    funext i
    simp
  · rename_i e hu
    simp only [Option.bind_eq_some_iff, Option.map_eq_some_iff] at hb
    obtain ⟨s, hs, out, hfill, rfl⟩ := hb
    obtain ⟨r1, r2, r3, _⟩ := fill_sound (β := β) hfill f2 hzt hps
    unfold size? at hs
    cases hi : P.info? e with
    | none => rw [hi] at hs; cases hs
    | some i =>
      rw [hi] at hs
      cases hs
      exact ⟨run_build w t parts _ (by simp only [Program.built, hit, hu, hiz, hi, f1, hparts]; exact r1), r2, r3⟩
  · cases hb

theorem repeated_length (z : List SV) : ∀ n, (repeated z n).length = n * z.length
  | 0 => by simp [repeated]
  | n + 1 => by simp [repeated, repeated_length z n, Nat.succ_mul, Nat.add_comm]
theorem repeated_get (z : List SV) (hz : 0 < z.length) : ∀ n i, i < n * z.length → (repeated z n)[i]? = z[i % z.length]?
  | 0, i, h => by simp at h
  | n + 1, i, h => by
    simp only [repeated]
    by_cases hi : i < z.length
    · rw [List.getElem?_append_left hi, Nat.mod_eq_of_lt hi]
    · rw [List.getElem?_append_right (by omega), repeated_get z hz n _ (by rw [Nat.succ_mul] at h; omega), Nat.mod_eq_sub_mod (a := i) (b := z.length) (by omega)]
theorem repeated_mem {z : List SV} {n : Nat} {v : SV} (h : v ∈ repeated z n) : v ∈ z := by
  induction n with
  | zero => simp [repeated] at h
  | succ n ih =>
    simp only [repeated, List.mem_append] at h
    exact h.elim id ih
theorem zeros_eq (zs : List SV) (hz : 0 < zs.length) (n : Nat) (m : Nat) (hm : m = n * zs.length) :
    (Array.range m).map (fun i => (reals β zs).toArray[i % (reals β zs).toArray.size]!) = (reals β (repeated zs n)).toArray := by
  subst hm
  apply Array.ext'
  apply List.ext_getElem?
  intro i
  simp only [Array.toList_map, Array.toList_range, List.getElem?_map, List.size_toArray, reals_eq, List.length_map]
  by_cases hi : i < n * zs.length
  · rw [List.getElem?_range hi, repeated_get zs hz n i hi]
    have hlt : i % zs.length < zs.length := Nat.mod_lt _ hz
    simp [List.getElem?_eq_getElem hlt, List.getElem!_eq_getElem?_getD]
  · rw [List.getElem?_eq_none (by simp; omega), List.getElem?_eq_none (by rw [repeated_length]; omega)]; rfl
set_option maxRecDepth 100000 in
theorem buildRow_sound {t e : TypeId} {len : Nat} {ps : List (Nat × SV)} {cs : List SV} (hb : buildRow P t len ps = some (e, cs)) (hps : ∀ p ∈ ps, okv n p.2) (parts : Array (Nat × Value))
    (hparts : parts.toList = ps.map fun p => (p.1, real β p.2)) (w : World) :
    (Instr.buildSlice t len parts).run P w = .ok (.slice (some ⟨w.heap.size, 0, none⟩) len len) (w.alloc (.cells (reals β cs).toArray e)) ∧ okvs n cs ∧ cs.all SV.scalar = true := by
  unfold buildRow at hb
  split at hb
  · rename_i e' hu
    simp only [Option.bind_eq_some_iff] at hb
    obtain ⟨s, hs, z, hz, hb⟩ := hb
    split at hb
    · rename_i hc
      simp only [Bool.and_eq_true, Nat.blt_eq, Nat.beq_eq] at hc
      obtain ⟨⟨⟨c1, c2⟩, c3⟩, c4⟩ := hc
      simp only [Option.map_eq_some_iff] at hb
      obtain ⟨vs, hfill, hb⟩ := hb
      cases hb
      obtain ⟨zv, hzr, hzc, hzt, _⟩ := run_zero hz w
      obtain ⟨o1, o2⟩ := hzc n β
      obtain ⟨f1, f2, f3⟩ := flat_sound (β := β) o1
      rw [o2] at f1
      have hrok : okvs n (repeated z.flat len) := okvs_iff.2 fun v hv => okvs_iff.1 f2 v (repeated_mem hv)
      have hrsc : (repeated z.flat len).all SV.scalar = true := List.all_eq_true.2 fun v hv => List.all_eq_true.1 hzt v (repeated_mem hv)
      obtain ⟨r1, r2, r3, r4⟩ := fill_sound (β := β) hfill hrok hrsc hps
      refine ⟨?_, r2, r3⟩
      have hz2 := zeros_eq (β := β) z.flat (by omega) len (len * s) (by rw [c4])
      have h0 : ¬ len * s = 0 := by
        have := Nat.mul_pos c2 c1
        omega
      have hcells : ((if len * s = 0 then pure #[] else do let __do_lift ← zeroValue e; pure __do_lift.cells : Sem (Array Value)).run P w) = .ok (reals β z.flat).toArray w := by
        rw [if_neg h0]
        simp [hzr, f1]
      simp only [Instr.buildSlice, Sem.run_bind, run_underlying hu, Result.andThen_ok, run_sizeOf hs, Sem.run_ite]
      rw [if_neg (by omega), if_neg h0]
      rw [hzr, Result.andThen_ok, Sem.run_pure, Result.andThen_ok, f1, hz2, hparts, r1]
      rfl
    · cases hb
  · cases hb

/-! ### Loads -/

theorem readLoc_sound {L : List Loc} {k off m : Nat} {cs : List SV} (h : readLoc L k off m = some cs) : ∃ l, L[k]? = some l ∧ off + m ≤ l.cells.length ∧ cs = (l.cells.drop off).take m := by
  unfold readLoc at h
  split at h
  · rename_i l hl
    split at h
    · rename_i hle
      cases h
      exact ⟨l, hl, Nat.le_of_ble_eq_true hle, rfl⟩
    · cases h
  · cases h

/-- What a load of known cells gives. -/
def loadVal (g : Bool) (vs : List Value) : Value := match g with
  | true => .agg vs.toArray
  | false => vs.getD 0 undef

theorem run_loadAt {t : TypeId} {m : Nat} {g : Bool} (hm : size? P t = some m) (hg : isAgg? P t = some g) {a : Addr} {o : Nat} {vs : List Value} (hl : vs.length = m) (h1 : g = false → m = 1) {w : World} (h : At w a o vs) :
    (loadVar t (a.add o)).run P w = .ok (loadVal g vs) w := by
  have hc : ∀ j v, vs[j]? = some v → w.cell? ((a.add o).add j) = some v := fun j v hv => by rw [add_add]; exact h j v hv
  cases g with
  | true =>
    have hr := run_loadCells_list (P := P) w (a.add o) vs hc
    rw [hl] at hr
    simp only [loadVar, Sem.run_bind, run_isAgg hg, Result.andThen_ok, if_true, run_sizeOf hm, hr, Sem.run_pure, loadVal]
  | false =>
    have hl1 : vs.length = 1 := by rw [hl, h1 rfl]
    obtain ⟨v, rfl⟩ := List.length_eq_one_iff.1 hl1
    have h0 := hc 0 v rfl
    rw [show (a.add o).add 0 = a.add o from by rw [add_add, Nat.add_zero]] at h0
    simp [loadVar, run_isAgg hg, h0, loadVal]

theorem asLoad_sound {g : Bool} {cs : List SV} (h : asLoad g cs K) (hc : okvs n cs) (hs : cs.all SV.scalar = true) :
    ∃ v, okv n v ∧ K v ∧ v.flat = cs ∧ (g = false → cs.length = 1) ∧ real β v = loadVal g (reals β cs) := by
  cases g with
  | true => exact ⟨.agg cs, ⟨hc, hs⟩, h, rfl, fun e => (by cases e), rfl⟩
  | false =>
    cases cs with
    | nil => exact h.elim
    | cons v rest =>
      cases rest with
      | cons _ _ => exact h.elim
      | nil =>
        refine ⟨v, hc.1, h, ?_, fun _ => rfl, rfl⟩
        have : v.scalar = true := by simpa using hs
        cases v <;> first | rfl | cases this

/-- What a load reads. -/
def readsAt (L : List Loc) (x : SV) (v : SV) (w : World) : Prop := match x with
  | .loc k o => At w ⟨(blks L).getD k 0, o, none⟩ 0 (reals (blks L) v.flat)
  | .adr a o => At w a o (reals (blks L) v.flat)
  | .ptr (some a) => At w a 0 (reals (blks L) v.flat)
  | _ => True

theorem notIn_sound {D : List Nat} {b : Nat} {Q : Prop} (h : notIn D b Q) : b ∉ D ∧ Q := by
  cases D with
  | nil => exact ⟨by simp, h⟩
  | cons d ds => exact h

theorem load_sound {L : List Loc} {wb : World} {t : TypeId} {x : SV} {D : List Nat} (h : load P L D wb t x K) (hn : n = L.length) (hL : ∀ (k : Nat) (l : Loc), L[k]? = some l → okvs n l.cells ∧ l.cells.all SV.scalar = true) :
    ∃ v, okv n v ∧ K v ∧ (∀ w, readsAt L x v w → (Instr.loadAt t (real (blks L) x)).run P w = .ok (real (blks L) v) w) ∧
      (match x with
        | .loc k o => ∃ l, L[k]? = some l ∧ o + v.flat.length ≤ l.cells.length ∧ v.flat = (l.cells.drop o).take v.flat.length
        | .adr a o => a.block ∉ D ∧ At wb a o (reals (blks L) v.flat)
        | .ptr p => ∃ a, p = some a ∧ a.block ∉ D ∧ At wb a 0 (reals (blks L) v.flat)
        | _ => False) := by
  unfold load at h
  split at h
  · rename_i m g z hm hg hz
    cases hzb : Nat.beq z.flat.length m with
    | false => rw [hzb] at h; exact h.elim
    | true =>
    rw [hzb] at h
    simp only [] at h
    have hzl : z.flat.length = m := Nat.eq_of_beq_eq_true hzb
    have main : ∀ (a : Addr) (o : Nat) (cs : List SV), okvs n cs → cs.all SV.scalar = true → cs.length = m → asLoad g cs K →
        ∃ v, okv n v ∧ K v ∧ v.flat = cs ∧ ∀ w, At w a o (reals (blks L) cs) → (loadVar t (a.add o)).run P w = .ok (real (blks L) v) w := by
      intro a o cs h1 h2 h3 h4
      obtain ⟨v, k1, k2, k3, k4, k5⟩ := asLoad_sound (β := blks L) h4 h1 h2
      refine ⟨v, k1, k2, k3, fun w hw => ?_⟩
      rw [k5]
      exact run_loadAt hm hg (by rw [reals_length, h3]) (fun e => by rw [← h3]; exact k4 e) hw
    cases x with
    | loc k o =>
      simp only [] at h
      split at h
      · rename_i cs hcs
        obtain ⟨l, hl, hle, rfl⟩ := readLoc_sound hcs
        obtain ⟨o1, o2⟩ := hL k l hl
        have hlen : ((l.cells.drop o).take m).length = m := by simp; omega
        obtain ⟨v, k1, k2, k3, k4⟩ := main ⟨(blks L).getD k 0, o, none⟩ 0 _ (okvs_iff.2 fun u hu => okvs_iff.1 o1 u (List.mem_of_mem_drop (List.mem_of_mem_take hu))) (List.all_eq_true.2 fun u hu => List.all_eq_true.1 o2 u (List.mem_of_mem_drop (List.mem_of_mem_take hu))) hlen h
        refine ⟨v, k1, k2, fun w hw => ?_, l, hl, by rw [k3, hlen]; exact hle, by rw [k3, hlen]⟩
        have := k4 w (by rw [← k3]; exact hw)
        simpa [Instr.loadAt, Instr.sureAddr, real, Addr.add] using this
      · exact h.elim
    | adr a o =>
      simp only [] at h
      split at h
      · rename_i s hs
        obtain ⟨hd, h⟩ := notIn_sound h
        obtain ⟨cs, h1, h2, h3, h4, h5⟩ := exV_elim h
        obtain ⟨v, k1, k2, k3, k4⟩ := main a o cs (okvs_mono (Nat.zero_le _) _ h1) h2 (by rw [h3, shsOf_length hs, hzl]) h5
        refine ⟨v, k1, k2, fun w hw => ?_, hd, by rw [k3]; exact h4⟩
        rw [real, adrVal_eq]
        exact k4 w (by rw [← k3]; exact hw)
      · exact h.elim
    | ptr p =>
      simp only [] at h
      split at h
      · rename_i s hs
        obtain ⟨a, rfl, h'⟩ := h
        obtain ⟨hd, h'⟩ := notIn_sound h'
        obtain ⟨cs, h1, h2, h3, h4, h5⟩ := exV_elim h'
        obtain ⟨v, k1, k2, k3, k4⟩ := main a 0 cs (okvs_mono (Nat.zero_le _) _ h1) h2 (by rw [h3, shsOf_length hs, hzl]) h5
        refine ⟨v, k1, k2, fun w hw => ?_, a, rfl, hd, by rw [k3]; exact h4⟩
        have := k4 w (by rw [← k3]; exact hw)
        simpa [Instr.loadAt, Instr.sureAddr, real, Addr.add] using this
      · exact h.elim
    | _ => exact h.elim
  · exact h.elim

end Go.Sy

namespace Go.Sy
open Go.RowKit (Below)
variable {P : Program}

theorem blks_get : ∀ {L : List Loc} {k : Nat} {l : Loc}, L[k]? = some l → (blks L).getD k 0 = l.blk
  | [], k, l, h => by simp at h
  | x :: L, 0, l, h => by cases h; rfl
  | x :: L, k + 1, l, h => by
    have := blks_get (L := L) (k := k) (by simpa using h)
    simpa [blks] using this
theorem blks_append (L : List Loc) (l : Loc) : blks (L ++ [l]) = blks L ++ [l.blk] := by
  induction L with
  | nil => rfl
  | cons x L ih => simp [blks, ih]
theorem blks_length (L : List Loc) : (blks L).length = L.length := by
  induction L with
  | nil => rfl
  | cons x L ih => simp [blks, ih]
theorem blks_mem {L : List Loc} {b : Nat} (h : b ∈ blks L) : ∃ (k : Nat) (l : Loc), L[k]? = some l ∧ l.blk = b := by
  induction L with
  | nil => simp [blks] at h
  | cons x L ih =>
    simp only [blks, List.mem_cons] at h
    rcases h with rfl | h
    · exact ⟨0, x, rfl, rfl⟩
    · obtain ⟨k, l, h1, h2⟩ := ih h
      exact ⟨k + 1, l, by simpa using h1, h2⟩
theorem mem_blks {L : List Loc} {k : Nat} {l : Loc} (h : L[k]? = some l) : l.blk ∈ blks L := by
  induction L generalizing k with
  | nil => simp at h
  | cons x L ih =>
    cases k with
    | zero => cases h; simp [blks]
    | succ k => exact List.mem_cons_of_mem _ (ih (by simpa using h))
/-- A list of own variables with the same blocks at the front. -/
theorem alike_of {L L' : List Loc} (h : ∀ (k : Nat) (l : Loc), L[k]? = some l → ∃ l', L'[k]? = some l' ∧ l'.blk = l.blk) : Alike L.length (blks L) (blks L') := by
  intro k hk
  obtain ⟨l', h1, h2⟩ := h k L[k] (List.getElem?_eq_getElem hk)
  rw [blks_get h1, blks_get (List.getElem?_eq_getElem hk), h2]

theorem Ext.refl (w : World) (ds : List Nat) : Ext w ds w := ⟨rfl, rfl, rfl, Nat.le_refl _, fun _ _ _ => rfl⟩
theorem Ext.grow {w w' : World} {ds : List Nat} (h : Ext w ds w') : Go.Sy.grow w ds w' := by
  cases ds with
  | nil => exact ⟨h.os, h.tape, h.output, h.size, fun k hk => h.heap k hk (by simp)⟩
  | cons d ds => exact h

/-- What is known at a point of a run. -/
structure Ok (w0 : World) (F : Nat → Prop) (N : Nat) (s : St) (a : Act) (w : World) : Prop where
  env : EnvOk s.L.length (blks s.L) s.T a.tmps
  size : a.tmps.size = N
  defers : a.defers = []
  cells : ∀ (k : Nat) (l : Loc), s.L[k]? = some l → okvs s.L.length l.cells ∧ l.cells.all SV.scalar = true
  lies : ∀ (k : Nat) (l : Loc), s.L[k]? = some l → Whole w l.blk l.ty (reals (blks s.L) l.cells) ∧ w0.heap.size ≤ l.blk
  apart : ∀ (j k : Nat) (l m : Loc), s.L[j]? = some l → s.L[k]? = some m → l.blk = m.blk → j = k
  nb : s.nb ≤ s.L.length
  newer : ∀ (k : Nat) (l : Loc), s.nb ≤ k → s.L[k]? = some l → s.wb.heap.size ≤ l.blk
  grow : Ext s.wb s.D w
  frame : Keeps F w0 s.wb
  dirty : ∀ b ∈ s.D, b ∈ blks s.L

variable {w0 : World} {F : Nat → Prop} {N : Nat} {s : St} {a : Act} {w : World}

theorem Ok.withT (h : Ok w0 F N s a w) {T : Env} (hT : EnvOk s.L.length (blks s.L) T a.tmps) : Ok w0 F N { s with T := T } a w :=
  ⟨hT, h.size, h.defers, h.cells, h.lies, h.apart, h.nb, h.newer, h.grow, h.frame, h.dirty⟩
theorem Ok.put (h : Ok w0 F N s a w) {d : Option Tmp} (hd : ∀ t, d = some t → t < N) {v : SV} (hv : okv s.L.length v) : Ok w0 F N (s.put d v) (a.put d (real (blks s.L) v)) w := by
  cases d with
  | none => exact h
  | some d => exact ⟨h.env.put (by rw [h.size]; exact hd d rfl) hv, by simp [Act.put, h.size], h.defers, h.cells, h.lies, h.apart, h.nb, h.newer, h.grow, h.frame, h.dirty⟩
theorem Ok.drawn (h : Ok w0 F N s a w) {w' : World} (e : w'.heap = w.heap) (eo : w'.os = w.os) (et : w'.tape = w.tape) (eu : w'.output = w.output) : Ok w0 F N s a w' := by
  refine ⟨h.env, h.size, h.defers, h.cells, fun k l hl => ?_, h.apart, h.nb, h.newer, ⟨eo.trans h.grow.os, et.trans h.grow.tape, eu.trans h.grow.output, by rw [e]; exact h.grow.size, fun i h1 h2 => by rw [e]; exact h.grow.heap i h1 h2⟩, h.frame, h.dirty⟩
  obtain ⟨h1, h2⟩ := h.lies k l hl
  exact ⟨by unfold Whole at *; rw [e]; exact h1, h2⟩

/-! ### Operations that leave memory alone -/

/-- What such an operation reads. -/
def needs (P : Program) (s : St) (o : Op) (v : SV) (w : World) : Prop := match o with
  | .load _ x => match eval P s.T x with
    | some y => readsAt s.L y v w
    | none => True
  | _ => True
/-- Whence it is known. -/
def fact (P : Program) (s : St) (o : Op) (v : SV) : Prop := match o with
  | .load _ x => match eval P s.T x with
    | some (.loc k o) => ∃ l, s.L[k]? = some l ∧ o + v.flat.length ≤ l.cells.length ∧ v.flat = (l.cells.drop o).take v.flat.length
    | some (.adr a o) => a.block ∉ s.D ∧ At s.wb a o (reals (blks s.L) v.flat)
    | some (.ptr p) => ∃ a, p = some a ∧ a.block ∉ s.D ∧ At s.wb a 0 (reals (blks s.L) v.flat)
    | _ => False
  | _ => True

theorem on_sound {x : Option SV} {K : SV → Prop} (h : on x K) : ∃ v, x = some v ∧ K v := by
  cases x with
  | none => exact h.elim
  | some v => exact ⟨v, rfl, h⟩

theorem calm_sound (hT : EnvOk s.L.length (blks s.L) s.T a.tmps) (hL : ∀ (k : Nat) (l : Loc), s.L[k]? = some l → okvs s.L.length l.cells ∧ l.cells.all SV.scalar = true) {o : Oper} {K : SV → Prop}
    (h : calm P s.L s.D s.wb s.T o.op K) : ∃ v, okv s.L.length v ∧ K v ∧ fact P s o.op v ∧ ∀ w, needs P s o.op v w → (execOp a.eval o).run P w = .ok (.value (real (blks s.L) v)) w := by
  have fin : ∀ {m : Sem Value} {K' : SV → Prop} (e : execOp a.eval o = (do pure (.value (← m)))), (∀ v, fact P s o.op v) → Gives P s.L.length (blks s.L) (fun _ => True) m K' → (∀ v, K' v → K v) →
      ∃ v, okv s.L.length v ∧ K v ∧ fact P s o.op v ∧ ∀ w, needs P s o.op v w → (execOp a.eval o).run P w = .ok (.value (real (blks s.L) v)) w := by
    intro m K' e hf ⟨v, h1, h2, h3⟩ hk
    exact ⟨v, h1, hk v h2, hf v, fun w _ => by rw [e, Sem.run_bind, h3 w trivial]; rfl⟩
  obtain ⟨dst, op, ty, pos, after, guard⟩ := o
  have one : ∀ {v : SV} {x : Operand}, eval P s.T x = some v → okv s.L.length v ∧ a.eval x = real (blks s.L) v := fun hx => eval_sound hT hx
  cases op with
  | move x =>
    obtain ⟨v, hv, h⟩ := on_sound h
    exact ⟨v, (one hv).1, h, trivial, fun w _ => by rw [← (one hv).2]; rfl⟩
  | assign x =>
    obtain ⟨v, hv, h⟩ := on_sound h
    exact ⟨v, (one hv).1, h, trivial, fun w _ => by rw [← (one hv).2]; rfl⟩
  | pick c x y =>
    unfold calm at h
    simp only [] at h
    split at h
    · rename_i hc
      obtain ⟨v, hv, h⟩ := on_sound h
      exact ⟨v, (one hv).1, h, trivial, fun w _ => by simp [execOp, (one hc).2, (one hv).2, real, asBool]⟩
    · rename_i hc
      obtain ⟨v, hv, h⟩ := on_sound h
      exact ⟨v, (one hv).1, h, trivial, fun w _ => by simp [execOp, (one hc).2, (one hv).2, real, asBool]⟩
    · exact h.elim
  | build t ps =>
    obtain ⟨v, hv, h⟩ := on_sound h
    simp only [Option.bind_eq_some_iff] at hv
    obtain ⟨qs, hq, hb⟩ := hv
    obtain ⟨p1, p2⟩ := parts_sound hT hq
    have key := fun w => build_sound (β := blks s.L) hb p1 (ps.map fun (i, x) => (i, a.eval x)) (by rw [Array.toList_map]; exact p2) w
    exact ⟨v, (key default).2, h, trivial, fun w _ => by simp only [execOp, Sem.run_bind, (key w).1]; rfl⟩
  | nilCheck x =>
    unfold calm at h
    simp only [] at h
    split at h
    · rename_i ad o' hx
      exact ⟨.adr ad o', trivial, h, trivial, fun w _ => by simp [execOp, (one hx).2, real, adrVal_eq]⟩
    · rename_i k o' hx
      exact ⟨.loc k o', (one hx).1, h, trivial, fun w _ => by simp [execOp, (one hx).2, real]⟩
    · rename_i p hx
      obtain ⟨ad, rfl, h⟩ := h
      exact ⟨.adr ad 0, trivial, h, trivial, fun w _ => by simp [execOp, (one hx).2, real, adrVal]⟩
    · rename_i p m c hx
      exact ⟨.sl p m c, trivial, h, trivial, fun w _ => by simp [execOp, (one hx).2, real]⟩
    · rename_i f x1 y1 hx
      exact ⟨.fn f x1 y1, (one hx).1, h, trivial, fun w _ => by simp [execOp, (one hx).2, real]⟩
    · exact h.elim
  | binOp bop t x y yt =>
    obtain ⟨u, hu, h⟩ := on_sound h
    obtain ⟨v, hv, h⟩ := on_sound h
    refine fin (m := do eqGuard bop t x y (a.eval x) (a.eval y); Go.binOp bop t (a.eval x) (a.eval y)) rfl (fun _ => trivial) ?_ (fun _ => id)
    rw [(one hu).2, (one hv).2]
    exact bin_sound x y h (one hu).1 (one hv).1
  | unOp uop t x =>
    obtain ⟨u, hu, h⟩ := on_sound h
    refine fin (m := Op.unary uop (a.eval x)) rfl (fun _ => trivial) ?_ (fun _ => id)
    rw [(one hu).2]
    exact un_sound h
  | convert src dst' x =>
    obtain ⟨u, hu, h⟩ := on_sound h
    refine fin (m := Go.convert src dst' (a.eval x)) rfl (fun _ => trivial) ?_ (fun _ => id)
    rw [(one hu).2]
    exact convert_sound h
  | slice t x lo hi mx =>
    obtain ⟨u, hu, h⟩ := on_sound h
    refine fin (m := Instr.sliceAt t (a.eval x) (lo.map a.eval) (hi.map a.eval) (mx.map a.eval)) rfl (fun _ => trivial) ?_ (fun _ => id)
    rw [(one hu).2]
    exact slice_sound hT h
  | fieldAddr t x i =>
    obtain ⟨u, hu, h⟩ := on_sound h
    refine fin (m := Instr.fieldAt t (a.eval x) i) rfl (fun _ => trivial) ?_ (fun _ => id)
    rw [(one hu).2]
    exact fieldAt_sound h (one hu).1
  | field t x i =>
    obtain ⟨u, hu, h⟩ := on_sound h
    refine fin (m := Instr.field t (a.eval x) i) rfl (fun _ => trivial) ?_ (fun _ => id)
    rw [(one hu).2]
    exact field_sound h (one hu).1
  | indexAddr t x i =>
    obtain ⟨u, hu, h⟩ := on_sound h
    split at h
    · rename_i k m hi
      refine fin (m := Instr.indexAt t (a.eval x) (a.eval i)) rfl (fun _ => trivial) ?_ (fun _ => id)
      rw [(one hu).2, (one hi).2]
      exact indexAt_sound h (one hu).1
    · exact h.elim
  | index t x i =>
    obtain ⟨u, hu, h⟩ := on_sound h
    split at h
    · rename_i k m hi
      refine fin (m := Instr.index t (a.eval x) (a.eval i)) rfl (fun _ => trivial) ?_ (fun _ => id)
      rw [(one hu).2, (one hi).2]
      exact index_sound h (one hu).1
    · exact h.elim
  | extract x i =>
    obtain ⟨u, hu, h⟩ := on_sound h
    refine fin (m := Instr.extract (a.eval x) i) rfl (fun _ => trivial) ?_ (fun _ => id)
    rw [(one hu).2]
    exact extract_sound h (one hu).1
  | makeFunc fn first cap =>
    cases fn with
    | func f =>
      unfold calm at h
      simp only [] at h
      split at h
      · rename_i xs ys hx hy
        obtain ⟨x1, x2⟩ := evals_sound hT hx
        obtain ⟨y1, y2⟩ := evals_sound hT hy
        have ex : first.map a.eval = (reals (blks s.L) xs).toArray := by apply Array.ext'; simpa using x2
        have ey : cap.map a.eval = (reals (blks s.L) ys).toArray := by apply Array.ext'; simpa using y2
        exact ⟨.fn f xs ys, ⟨x1, y1⟩, h, trivial, fun w _ => by simp [execOp, Instr.makeFunc, ex, ey, real]⟩
      · exact h.elim
    | _ => exact h.elim
  | load t x =>
    obtain ⟨u, hu, h⟩ := on_sound h
    obtain ⟨v, h1, h2, h3, h4⟩ := load_sound h rfl hL
    refine ⟨v, h1, h2, ?_, fun w hw => ?_⟩
    · simp only [fact, hu]
      cases u <;> first | exact h4 | exact h4.elim
    · simp only [needs, hu] at hw
      simp only [execOp, (one hu).2, Sem.run_bind, h3 w hw]
      rfl
  | call c =>
    obtain ⟨callee, args, ats⟩ := c
    cases callee with
    | builtin b =>
      unfold calm at h
      simp only [] at h
      split at h
      · rename_i vs hvs
        obtain ⟨x1, x2⟩ := evals_sound hT hvs
        have ex : args.map a.eval = (reals (blks s.L) vs).toArray := by apply Array.ext'; simpa using x2
        obtain ⟨v, h1, h2, h3⟩ := calmBuiltin_sound (n := s.L.length) (β := blks s.L) (ty := ty) (consts := args.map fun | .const _ => true | _ => false) h
        exact ⟨v, h1, h2, trivial, fun w _ => by simp only [execOp, resolve, ex, Sem.run_bind, Sem.run_pure, Result.andThen_ok, invoke]; exact h3 w⟩
      · exact h.elim
    | _ => exact h.elim
  | _ => exact h.elim

theorem At.grown {wb w : World} {D : List Nat} (hg : Ext wb D w) {ad : Addr} {o : Nat} {vs : List Value} (hd : ad.block ∉ D) (h : At wb ad o vs) : At w ad o vs := by
  intro i v hv
  have h1 := h i v hv
  have hb : (ad.add (o + i)).block = ad.block := by unfold Addr.add; split <;> rfl
  have hlt := World.block_lt_of_cell? wb _ h1
  rw [← h1]
  exact World.cell?_of_block (hg.heap _ hlt (by rw [hb]; exact hd))

/-- A part of a variable of the function's own. -/
theorem At.own {L : List Loc} {w : World} {k : Nat} {l : Loc} (hl : L[k]? = some l) (hw : Whole w l.blk l.ty (reals (blks L) l.cells)) {o m : Nat} {cs : List SV} (hc : cs = (l.cells.drop o).take m) :
    At w ⟨(blks L).getD k 0, o, none⟩ 0 (reals (blks L) cs) := by
  intro i v hv
  subst hc
  rw [blks_get hl]
  have e : ((⟨l.blk, o, none⟩ : Addr).add (0 + i)) = ⟨l.blk, o + i, none⟩ := by unfold Addr.add; split <;> simp_all
  rw [e]
  unfold Whole at hw
  simp only [World.cell?, hw]
  rw [reals_eq, List.getElem?_map, List.getElem?_take] at hv
  split at hv
  · rw [List.getElem?_drop] at hv
    simpa [reals_eq] using hv
  · cases hv

theorem Ok.needs (h : Ok w0 F N s a w) {o : Op} {v : SV} (hf : fact P s o v) : needs P s o v w := by
  cases o with
  | load t x =>
    simp only [fact] at hf
    simp only [Go.Sy.needs]
    split
    · rename_i y hy
      rw [hy] at hf
      cases y with
      | loc k o =>
        obtain ⟨l, hl, _, hc⟩ := hf
        exact At.own hl (h.lies k l hl).1 hc
      | adr ad o => exact hf.2.grown h.grow hf.1
      | ptr p =>
        obtain ⟨ad, rfl, hd, hat⟩ := hf
        exact hat.grown h.grow hd
      | _ => exact hf.elim
    · trivial
  | _ => trivial

end Go.Sy
