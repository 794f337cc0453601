/- An evaluator of Go code over an abstract memory, and the proof that each of its runs is a run of the model, whatever the tape. It holds for each program, without conditions. -/
import Derived.Test.YtiglllddgikeiabGreatDoorAbsP
import Derived.Lib.Hide
import Derived.Lib.ItoaLen
import Derived.Lib.ItoaMem
namespace Go.Rep
open Go.RowKit
/-- A list of bytes as a string. -/
def S (l : List UInt8) : ByteArray := ⟨l.toArray⟩
theorem S_app (a b : List UInt8) : S a ++ S b = S (a ++ b) := by
  apply ByteArray.ext
  simp [S]
theorem S_size (a : List UInt8) : (S a).size = a.length := by simp [S, ByteArray.size]
theorem S_list (a : List UInt8) : (S a).data.toList = a := by simp [S]
theorem S_of (s : ByteArray) : S s.data.toList = s := by
  apply ByteArray.ext
  simp [S]
theorem S_inj {a b : List UInt8} (h : S a = S b) : a = b := by
  have := congrArg (fun s : ByteArray => s.data.toList) h
  simpa [S] using this
/-- Two strings one behind the other, and that there is room. -/
theorem cat (a b : List UInt8) (x y : ByteArray) (m n ka kb k : Nat) (hx : x = S a) (hy : y = S b) (hm : x.size = m) (hn : y.size = n) (ha : a.length ≤ ka) (hb : b.length ≤ kb) (hk : ka + kb = k) (h : k ≤ 1000000000) :
    ∃ s z, Hid (s = a ++ b) ∧ s.length ≤ k ∧ x ++ y = S s ∧ ¬ 9223372036854775807 < m + n ∧ (S s).size = z := by
  subst hx hy hm hn hk
  exact ⟨_, _, Lib.hid rfl, by simp; omega, S_app a b, by rw [S_size, S_size]; omega, rfl⟩
theorem sized (l : List UInt8) : ∃ z, (S l).size = z := ⟨_, rfl⟩
/-- A hexadecimal digit. -/
def hexd (n : Nat) : UInt8 := UInt8.ofNat (if n < 10 then 48 + n else 87 + n)
def hex2 (c : UInt8) : List UInt8 := [hexd (c.toNat / 16), hexd (c.toNat % 16)]
def hexl (l : List UInt8) : List UInt8 := l.flatMap hex2
theorem hexl_length (l : List UInt8) : (hexl l).length = 2 * l.length := by
  induction l with
  | nil => rfl
  | cons a t ih => unfold hexl at ih ⊢; rw [List.flatMap_cons, List.length_append, ih]; simp [hex2]; omega
theorem hexl_take {l : List UInt8} {k : Nat} {c : UInt8} (h : l[k]? = some c) : hexl (l.take (k + 1)) = hexl (l.take k) ++ hex2 c := by
  have hk : k < l.length := (List.getElem?_eq_some_iff.1 h).1
  rw [List.take_succ_eq_append_getElem hk, (List.getElem?_eq_some_iff.1 h).2]
  simp [hexl]
/-- A number behind a space. -/
def numL (n : Int) : List UInt8 := 32 :: Lib.itoa n
def numsL (l : List Int) : List UInt8 := l.flatMap numL
def bodyL (o : TOp) : List UInt8 :=
  if o.k = 1 then [32, 119, 114, 105, 116, 101, 32] ++ hexl o.s.data.toList
  else if o.k = 2 then [32, 114, 101, 115, 105, 122, 101] ++ numL o.r ++ numL o.c
  else [32, 115, 99, 114, 111, 108, 108] ++ numL o.n
def evL (last : Int) (e : Ev) : List UInt8 := Lib.itoa (e.at' - last) ++ bodyL e.o ++ [10]
def evsL (last : Int) : List Ev → List UInt8
  | [] => []
  | e :: t => evL last e ++ evsL e.at' t
def headL (r c h : Int) : List UInt8 := [116, 101, 114, 109, 105, 110, 97, 108] ++ numL r ++ numL c ++ numL h ++ [10]
def textL (r c h : Int) (l : List Ev) : List UInt8 := headL r c h ++ evsL 0 l
def lastOf (last : Int) : List Ev → Int
  | [] => last
  | e :: t => lastOf e.at' t
theorem evsL_append (last : Int) (a b : List Ev) : evsL last (a ++ b) = evsL last a ++ evsL (lastOf last a) b := by
  induction a generalizing last with
  | nil => rfl
  | cons e t ih => simp [evsL, lastOf, ih]
theorem lastOf_append (last : Int) (a b : List Ev) : lastOf last (a ++ b) = lastOf (lastOf last a) b := by
  induction a generalizing last with
  | nil => rfl
  | cons e t ih => simp [lastOf, ih]
theorem itoa_len (n : Int) (h0 : -9223372036854775808 ≤ n) (h1 : n ≤ 9223372036854775807) : (Lib.itoa n).length ≤ 21 := Lib.itoa_length_le n h0 h1
theorem numL_len (n : Int) (h0 : -9223372036854775808 ≤ n) (h1 : n ≤ 9223372036854775807) : (numL n).length ≤ 22 := by have := itoa_len n h0 h1; simp [numL]; omega
theorem okOp_cases {o : TOp} (h : okOp o = true) :
    (o.k = 1 ∧ 1 ≤ o.s.size ∧ o.s.size ≤ 4096 ∧ o.r = 0 ∧ o.c = 0 ∧ o.n = 0) ∨ (o.k = 2 ∧ o.s = S [] ∧ 1 ≤ o.r ∧ o.r ≤ 1000 ∧ 1 ≤ o.c ∧ o.c ≤ 1000 ∧ o.n = 0) ∨
    (o.k = 3 ∧ o.s = S [] ∧ o.r = 0 ∧ o.c = 0 ∧ o.n ≠ 0 ∧ -1048576 ≤ o.n ∧ o.n ≤ 1048576) := by
  have he : o.s.toList.isEmpty = true → o.s = S [] := by
    intro h
    have h2 : o.s.toList = [] := by simpa using h
    have h3 : o.s.data.toList = [] := by rw [← Lib.toList_data]; exact h2
    rw [← S_of o.s, h3]
  simp only [okOp, sizeB, Bool.or_eq_true, Bool.and_eq_true, beq_iff_eq, decide_eq_true_eq, bne_iff_ne] at h
  rcases h with (⟨⟨⟨⟨⟨a, b⟩, c⟩, d⟩, e⟩, f⟩ | ⟨⟨⟨a, b⟩, ⟨⟨⟨c, d⟩, e⟩, f⟩⟩, g⟩) | ⟨⟨⟨⟨⟨⟨a, b⟩, c⟩, d⟩, e⟩, f⟩, g⟩
  · exact .inl ⟨a, by omega, by omega, d, e, f⟩
  · exact .inr (.inl ⟨a, he b, c, d, e, f, g⟩)
  · exact .inr (.inr ⟨a, he b, c, d, e, f, g⟩)
theorem bodyL_len {o : TOp} (h : okOp o = true) : (bodyL o).length ≤ 8210 := by
  rcases okOp_cases h with ⟨a, b, c, _⟩ | ⟨a, b, c, d, e, f, _⟩ | ⟨a, b, c, d, e, f, g⟩
  · have hs : o.s.data.toList.length = o.s.size := Array.length_toList
    unfold bodyL
    rw [if_pos a]
    simp only [List.length_append, hexl_length, List.length_cons, List.length_nil]
    omega
  · have h1 := numL_len o.r (by omega) (by omega)
    have h2 := numL_len o.c (by omega) (by omega)
    unfold bodyL
    rw [if_neg (by omega), if_pos a]
    simp only [List.length_append, List.length_cons, List.length_nil]
    omega
  · have h1 := numL_len o.n (by omega) (by omega)
    unfold bodyL
    rw [if_neg (by omega), if_neg (by omega)]
    simp only [List.length_append, List.length_cons, List.length_nil]
    omega
theorem evL_len {last : Int} {e : Ev} (h : okOp e.o = true) (h0 : -4611686018427387904 ≤ e.at' - last) (h1 : e.at' - last ≤ 4611686018427387904) : (evL last e).length ≤ 8240 := by
  have h2 := itoa_len (e.at' - last) (by omega) (by omega)
  have h3 := bodyL_len h
  simp only [evL, List.length_append, List.length_cons, List.length_nil]
  omega
theorem headL_len {r c h : Int} (h0 : -4611686018427387904 ≤ r) (h1 : r ≤ 4611686018427387904) (h2 : -4611686018427387904 ≤ c) (h3 : c ≤ 4611686018427387904) (h4 : -4611686018427387904 ≤ h) (h5 : h ≤ 4611686018427387904) : (headL r c h).length ≤ 80 := by
  have a1 := numL_len r (by omega) (by omega)
  have a2 := numL_len c (by omega) (by omega)
  have a3 := numL_len h (by omega) (by omega)
  simp only [headL, List.length_append, List.length_cons, List.length_nil]
  omega
theorem evsL_len {last : Int} {l : List Ev} (hl : evsB last l = true) (h0 : 0 ≤ last) (h1 : last ≤ 1099511627776) : (evsL last l).length ≤ 8240 * l.length := by
  induction l generalizing last with
  | nil => simp [evsL]
  | cons e t ih =>
    simp only [evsB, Bool.and_eq_true, decide_eq_true_eq] at hl
    obtain ⟨⟨⟨a, b⟩, c⟩, d⟩ := hl
    have := evL_len (last := last) c (by omega) (by omega)
    have h2 := ih d (by omega) (by omega)
    simp only [evsL, List.length_append, List.length_cons]
    omega
end Go.Rep

namespace Go.Rep
open Go.RowKit
/-- The text so far, behind k events. -/
def textTo (r c h : Int) (l : List Ev) (k : Nat) : List UInt8 := headL r c h ++ evsL 0 (l.take k)
theorem textTo_zero (r c h : Int) (l : List Ev) : textTo r c h l 0 = headL r c h := by simp [textTo, evsL]
theorem textTo_all {r c h : Int} {l : List Ev} {k : Nat} (hk : l.length ≤ k) : textTo r c h l k = textL r c h l := by simp [textTo, textL, List.take_of_length_le hk]
theorem textTo_succ {r c h : Int} {l : List Ev} {k : Nat} {e : Ev} (he : l[k]? = some e) : textTo r c h l (k + 1) = textTo r c h l k ++ evL (lastOf 0 (l.take k)) e := by
  have hk : k < l.length := (List.getElem?_eq_some_iff.1 he).1
  unfold textTo
  rw [List.take_succ_eq_append_getElem hk, (List.getElem?_eq_some_iff.1 he).2, evsL_append]
  simp [evsL]
theorem lastOf_succ {l : List Ev} {k : Nat} {e : Ev} (he : l[k]? = some e) : lastOf 0 (l.take (k + 1)) = e.at' := by
  have hk : k < l.length := (List.getElem?_eq_some_iff.1 he).1
  rw [List.take_succ_eq_append_getElem hk, (List.getElem?_eq_some_iff.1 he).2, lastOf_append]
  rfl
theorem valid_parts {r c h : Int} {l : List Ev} (hv : validB r c h l = true) : 1 ≤ r ∧ r ≤ 1000 ∧ 1 ≤ c ∧ c ≤ 1000 ∧ 0 ≤ h ∧ h ≤ 1048576 ∧ l.length ≤ 2000 ∧ evsB 0 l = true := by
  simp only [validB, sizeB, Bool.and_eq_true, decide_eq_true_eq] at hv
  obtain ⟨⟨⟨⟨⟨⟨⟨a, b⟩, c⟩, d⟩, e⟩, f⟩, g⟩, i⟩ := hv
  exact ⟨a, b, c, d, e, f, g, i⟩
theorem evsB_take {last : Int} {l : List Ev} (h : evsB last l = true) (k : Nat) : evsB last (l.take k) = true := by
  induction l generalizing last k with
  | nil => simp [evsB]
  | cons e t ih =>
    cases k with
    | zero => simp [evsB]
    | succ k =>
      simp only [evsB, List.take_succ_cons, Bool.and_eq_true] at h ⊢
      exact ⟨h.1, ih h.2 k⟩
theorem lastOf_bounds {last : Int} {l : List Ev} (h : evsB last l = true) (h0 : 0 ≤ last) (h1 : last ≤ 1099511627776) : last ≤ lastOf last l ∧ lastOf last l ≤ 1099511627776 := by
  induction l generalizing last with
  | nil => exact ⟨Int.le_refl _, h1⟩
  | cons e t ih =>
    simp only [evsB, Bool.and_eq_true, decide_eq_true_eq] at h
    obtain ⟨⟨⟨a, b⟩, c⟩, d⟩ := h
    have := ih d (by omega) b
    simp only [lastOf]
    exact ⟨by omega, this.2⟩
/-- What is known of event k of a valid record. -/
theorem valid_at {r c h : Int} {l : List Ev} (hv : validB r c h l = true) {k : Nat} {e : Ev} (he : l[k]? = some e) :
    okOp e.o = true ∧ 0 ≤ lastOf 0 (l.take k) ∧ lastOf 0 (l.take k) ≤ e.at' ∧ e.at' ≤ 1099511627776 := by
  obtain ⟨_, _, _, _, _, _, _, hev⟩ := valid_parts hv
  have hk : k < l.length := (List.getElem?_eq_some_iff.1 he).1
  have h1 := evsB_take hev (k + 1)
  rw [List.take_succ_eq_append_getElem hk, (List.getElem?_eq_some_iff.1 he).2] at h1
  have h2 := lastOf_bounds (evsB_take hev k) (Int.le_refl _) (by omega)
  have aux : ∀ (x : List Ev) (last : Int), evsB last (x ++ [e]) = true → okOp e.o = true ∧ lastOf last x ≤ e.at' ∧ e.at' ≤ 1099511627776 := by
    intro x
    induction x with
    | nil =>
      intro last hx
      simp only [List.nil_append, evsB, Bool.and_eq_true, decide_eq_true_eq] at hx
      exact ⟨hx.1.2, hx.1.1.1, hx.1.1.2⟩
    | cons y t ih =>
      intro last hx
      simp only [List.cons_append, evsB, Bool.and_eq_true] at hx
      exact ih _ hx.2
  obtain ⟨a, b, c⟩ := aux _ _ h1
  exact ⟨a, h2.1, b, c⟩
theorem textTo_len {r c h : Int} {l : List Ev} (hv : validB r c h l = true) (k : Nat) : (textTo r c h l k).length ≤ 20000000 := by
  obtain ⟨a1, a2, a3, a4, a5, a6, a7, hev⟩ := valid_parts hv
  have h1 := evsL_len (evsB_take hev k) (Int.le_refl _) (by omega)
  have h2 := headL_len (r := r) (c := c) (h := h) (by omega) (by omega) (by omega) (by omega) (by omega) (by omega)
  have h3 : (l.take k).length ≤ 2000 := by rw [List.length_take]; omega
  unfold textTo
  rw [List.length_append]
  omega
end Go.Rep

namespace Go.Rep
open Go.RowKit
/-- The cells of an event that is read. -/
theorem Reads.evAt {w : World} {B m k : Nat} {ad : Addr} {xs : List Ev} {e : Ev} (h : Reads w B 6 (some ad) m (evCells xs)) (he : xs[k]? = some e) :
    w.cell? (ad.add (k * 6)) = some (.int .i64 e.at') ∧ w.cell? ⟨(ad.add (k * 6)).block, (ad.add (k * 6)).off + 1, none⟩ = some (.int .i64 e.o.k) ∧
      w.cell? ⟨(ad.add (k * 6)).block, (ad.add (k * 6)).off + 2, none⟩ = some (.string e.o.s) ∧ w.cell? ⟨(ad.add (k * 6)).block, (ad.add (k * 6)).off + 3, none⟩ = some (.int .i64 e.o.r) ∧
      w.cell? ⟨(ad.add (k * 6)).block, (ad.add (k * 6)).off + 4, none⟩ = some (.int .i64 e.o.c) ∧ w.cell? ⟨(ad.add (k * 6)).block, (ad.add (k * 6)).off + 5, none⟩ = some (.int .i64 e.o.n) := by
  have hk : k < m := by rw [← h.evs]; exact (List.getElem?_eq_some_iff.1 he).1
  obtain ⟨ad', e', h1, h2, h3⟩ := h.ev hk
  cases h1
  rw [he] at h2
  cases h2
  exact h3
/-- One step behind the other. -/
theorem _root_.Go.RowKit.Below.then {w w1 : World} (h : Below w.heap.size w w1) (w2 : World) (h2 : Below w1.heap.size w1 w2) : Below w.heap.size w w2 := h.trans (h2.mono h.size)
end Go.Rep
