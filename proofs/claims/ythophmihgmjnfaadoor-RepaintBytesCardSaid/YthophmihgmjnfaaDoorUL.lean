/- A part of the proof of RepaintBytes. -/
import Derived.Test.YthophmihgmjnfaaDoorUQ
import Derived.Test.YthophmihgmjnfaaDoorUD
set_option linter.unusedVariables false
set_option linter.unusedSimpArgs false
-- --
namespace Go.Proofs.YthophmihgmjnfaaDoor
open Go Go.RowKit Go.Rep Go.Sy
set_option maxRecDepth 100000
set_option linter.unusedSimpArgs false
/-- The blank cell, and lines of them. -/
def bC : Cl := ⟨0, 0, 0, 0, 1, zPn⟩
def Ln.say (l : Ln) : List Cl × Bool := (l.cs, l.soft)
def blankSay (l : Ln) : List Cl × Bool := (List.replicate l.cs.length bC, false)
def NewL (lo : Nat) (w : World) (ls : List Ln) : Prop := ∀ l ∈ ls, w.ownsRow lo 46 16 (.slice l.ad l.cs.length l.cap) l.cs.length (cvals l.cs)
/-- Lines of one's own, as many as the first ones of a. -/
structure Emp (lo : Nat) (w0 : World) (a : List Ln) (p : Option Addr) (n c : Nat) (k : Nat) (w : World) : Prop where
  be : Below lo w0 w
  hk : k ≤ a.length
  ls : ∃ ls : List Ln, ls.map Ln.say = (a.take k).map blankSay ∧ ls.length = n ∧ n = k ∧ NewL lo w ls ∧ w.ownsRow lo 29 2 (.slice p n c) n (hdrs ls)
/-- The line that is under way. -/
structure CurR (lo s1 : Nat) (bs : List Nat) (w1 : World) (m k : Nat) (p : Option Addr) (n c : Nat) (w : World) : Prop where
  be : Below s1 w1 w
  hk : k ≤ m
  hn : n = k
  row : w.ownsRow lo 46 16 (.slice p n c) n (cvals (List.replicate k bC))
  new : ∀ a, p = some a → s1 ≤ a.block ∧ a.block ∉ bs
theorem CurR.start {lo : Nat} {bs : List Nat} {w1 w : World} {m : Nat} (h : Below w1.heap.size w1 w) : CurR lo w1.heap.size bs w1 m 0 none 0 0 w := ⟨h, Nat.zero_le _, rfl, own_nil _ _ _ _, fun _ e => by cases e⟩
theorem blank_snoc (k : Nat) : cvals (List.replicate (k + 1) bC) = cvals (List.replicate k bC) ++ [.int .i32 0, .int .i32 0, .int .i32 0, .int .i32 0, .int .i64 1, .int .i64 0, .int .u8 0, .int .u8 0, .int .u8 0, .int .u8 0, .int .i64 0, .int .u8 0, .int .u8 0, .int .u8 0, .int .u8 0, .int .u8 0] := by
  rw [List.replicate_succ', cvals_append]
  rfl
theorem CurR.step {lo : Nat} {bs bs' ds : List Nat} {w1 w3 w6 w7 : World} {m k : Nat} {p p' : Option Addr} {n c c' : Nat} (hlo : lo ≤ w1.heap.size) (h : CurR lo w1.heap.size bs w1 m k p n c w3) (hkm : k < m)
    (hg : Grown w3 [] p 46 16 (n + 1) (cvals (List.replicate k bC) ++ [.int .i32 0, .int .i32 0, .int .i32 0, .int .i32 0, .int .i64 1, .int .i64 0, .int .u8 0, .int .u8 0, .int .u8 0, .int .u8 0, .int .i64 0, .int .u8 0, .int .u8 0, .int .u8 0, .int .u8 0, .int .u8 0]) w6 p' c')
    (ho : ∀ a, p' = some a → a.block ∉ bs') (hx : Ext w6 ds w7) (hbs : ∀ b ∈ bs, b ∈ bs') (hds : ∀ b ∈ ds, b ∈ bs ∧ w1.heap.size ≤ b) : CurR lo w1.heap.size bs w1 m (k + 1) p' (n + 1) c' w7 := by
  have hs3 := h.be.size
  have hnew : ∀ a, p' = some a → w1.heap.size ≤ a.block := fun a ha => by
    rcases hg.place a ha with ⟨b, hb, he⟩ | he
    · rw [he]; exact (h.new b hb).1
    · omega
  refine ⟨⟨hx.os.trans (hg.os.trans h.be.os), hx.tape.trans (hg.tape.trans h.be.tape), hx.output.trans (hg.output.trans h.be.output), Nat.le_trans hs3 (Nat.le_trans hg.size hx.size), fun i hi => ?_⟩, hkm, by rw [h.hn], ?_, fun a ha => ⟨hnew a ha, fun hm => ho a ha (hbs _ hm)⟩⟩
  · have hs6 := hg.size
    rw [hx.heap i (by omega) (fun hm => by have := (hds i hm).2; omega), hg.heap i (by omega) (by simp) (fun a ha he => by have := (h.new a ha).1; omega)]
    exact h.be.block i hi
  · rw [blank_snoc]
    refine own_keep (own_base hg.row fun a ha => Nat.le_trans hlo (hnew a ha)) fun a ha => hx.heap _ (own_lt hg.row a ha).1 fun hm => ?_
    exact ho a ha (hbs _ (hds _ hm).1)
theorem Emp.start {lo : Nat} {w0 w : World} {a : List Ln} (h : Below lo w0 w) : Emp lo w0 a none 0 0 0 w := ⟨h, Nat.zero_le _, [], rfl, rfl, rfl, (fun _ h => by cases h), own_nil _ _ _ _⟩
theorem Emp.step {w0 w1 w3 w4 w5 : World} {a : List Ln} {p p2 p' : Option Addr} {n c k n2 c2 c' : Nat} {bs : List Nat} (h : Emp w0.heap.size w0 a p n c k w1) (hs1 : w0.heap.size ≤ w1.heap.size) (hk : k < a.length) (hc : CurR w0.heap.size w1.heap.size bs w1 (lAt a k).cs.length (lAt a k).cs.length p2 n2 c2 w3)
    {hd : List Value} (hrow : w3.ownsRow 0 29 2 (.slice p n c) n hd) (hhd : ∀ ls : List Ln, w3.ownsRow w0.heap.size 29 2 (.slice p n c) n (hdrs ls) → hd = hdrs ls)
    (hg : Grown w3 [] p 29 2 (n + 1) (hd ++ [.slice p2 n2 c2, .bool false]) w4 p' c') (hb : Below w4.heap.size w4 w5) : Emp w0.heap.size w0 a p' (n + 1) c' (k + 1) w5 := by
  obtain ⟨hbe, hkk, ls, hsay, hll, hnk, hN, ho⟩ := h
  have hs3 := hc.be.size
  have hs4 := hg.size
  have hs5 := hb.size
  have ho3 : w3.ownsRow w0.heap.size 29 2 (.slice p n c) n (hdrs ls) := own_keep ho fun a ha => hc.be.block _ (own_lt ho a ha).1
  have hd' := hhd ls ho3
  subst hd'
  have keep : ∀ {q : Option Addr} {m d : Nat} {xs : List Value}, w3.ownsRow w0.heap.size 46 16 (.slice q m d) m xs → w5.ownsRow w0.heap.size 46 16 (.slice q m d) m xs := fun {q m d xs} hq => by
    refine own_keep hq fun a ha => ?_
    obtain ⟨h1, h2, cs, h3⟩ := own_lt hq a ha
    have h4 : w4.heap[a.block]? = w3.heap[a.block]? := hg.heap _ h1 (by simp) fun b hb' he => by
      obtain ⟨_, _, cs', h5⟩ := own_lt ho3 b hb'
      rw [← he, h3] at h5
      injection h5 with h5
      injection h5 with _ h5
      exact absurd h5 (by decide)
    rw [hb.block _ (by omega), h4]
  refine ⟨⟨hb.os.trans (hg.os.trans (hc.be.os.trans hbe.os)), hb.tape.trans (hg.tape.trans (hc.be.tape.trans hbe.tape)), hb.output.trans (hg.output.trans (hc.be.output.trans hbe.output)), by omega, fun i hi => ?_⟩, hk, ls ++ [⟨p2, c2, List.replicate (lAt a k).cs.length bC, false⟩], ?_, ?_, by omega, ?_, ?_⟩
  · rw [hb.block i (by omega), hg.heap i (by omega) (by simp) (fun b hb' he => by have := (own_lt ho3 b hb').2.1; omega), hc.be.block i (by omega), hbe.block i hi]
  · have hak : a.take (k + 1) = a.take k ++ [lAt a k] := by
      rw [List.take_add_one, List.getElem?_eq_getElem hk]
      unfold lAt
      rw [List.getD_eq_getElem?_getD, List.getElem?_eq_getElem hk]
      rfl
    rw [hak, List.map_append, List.map_append, hsay]
    rfl
  · rw [List.length_append, hll]; rfl
  · intro l hl
    rw [List.mem_append] at hl
    rcases hl with hl | hl
    · have := hN l hl
      exact keep (own_keep this fun a ha => hc.be.block _ (own_lt this a ha).1)
    · simp only [List.mem_singleton] at hl
      subst hl
      have := keep hc.row
      rw [hc.hn] at this
      simpa using this
  · have hlen : (List.replicate (lAt a k).cs.length bC).length = n2 := by rw [List.length_replicate, hc.hn]
    have e : hdrs (ls ++ [⟨p2, c2, List.replicate (lAt a k).cs.length bC, false⟩]) = hdrs ls ++ [.slice p2 n2 c2, .bool false] := by
      rw [hdrs_append]
      congr 1
      show [Value.slice p2 (List.replicate (lAt a k).cs.length bC).length c2, .bool false] = _
      rw [hlen]
    rw [e]
    refine own_keep (own_base hg.row fun b hb' => ?_) fun b hb' => hb.block _ (own_lt hg.row b hb').1
    rcases hg.place b hb' with ⟨b0, h1, h2⟩ | h2
    · rw [h2]; exact (own_lt ho3 b0 h1).2.1
    · omega
theorem Emp.lines {lo : Nat} {w0 w : World} {a : List Ln} {p : Option Addr} {n c : Nat} (h : Emp lo w0 a p n c a.length w) : ∃ ls, ls.map Ln.say = a.map blankSay ∧ ls.length = n ∧ LinesR w w.heap.size p ls := by
  obtain ⟨_, _, ls, h1, h2, h3, h4, h5⟩ := h
  refine ⟨ls, by rw [h1, List.take_of_length_le (Nat.le_refl _)], h2, ⟨?_, fun l hl => ⟨Reads.of_own (h4 l hl), own_cap (h4 l hl)⟩⟩⟩
  rw [h2]
  exact Reads.of_own h5
theorem empty_any {a : List Ln} {B ca na : Nat} {A : Option Addr} {w : World} (ha : LinesR w B A a) (hB : B ≤ w.heap.size) (hla : a.length = na) (hna : na ≤ 6) (h16 : ∀ i, i < na → (lAt a i).cs.length ≤ 1000) :
    Gets Tryd.prog 10 #[.slice A na ca] w Nix fun v w' => ∃ p n c ls, v = .slice p n c ∧ ls.map Ln.say = a.map blankSay ∧ ls.length = n ∧ LinesR w' w'.heap.size p ls := by
  subst hla
  refine vc10 A a.length ca ?_
  refine ⟨fun p n c i w' => ∃ k : Nat, i = k ∧ Emp w.heap.size w a p n c k w', fun _ _ _ i => a.length - i.toNat, fun w1 hb1 => ⟨0, rfl, .start hb1⟩, ?_⟩
  rintro p n c i w1 hK1 ⟨k, rfl, hE⟩
  have hs1 := hE.be.size
  refine ⟨fun hlt => ?_, fun hge => ?_⟩
  · have hk : k < a.length := by omega
    intro x hx
    refine ⟨fun j p n c b w' => ∃ m : Nat, j = m ∧ b = false ∧ CurR w.heap.size w1.heap.size [x] w1 (lAt a k).cs.length m p n c w', fun j _ _ _ _ => (lAt a k).cs.length - j.toNat, fun w2 hb2 => ⟨0, rfl, rfl, .start hb2⟩, ?_⟩
    rintro j p2 n2 c2 b w3 hK3 ⟨m, rfl, rfl, hC⟩
    have hs3 := hC.be.size
    have ha3 : LinesR w3 B A a := (ha.below (hE.be.mono hB)).below (hC.be.mono (by omega))
    obtain ⟨ad, rfl, _⟩ := ha3.at_ hk
    have hA : At w3 ad (Int.toNat (k : Int) * 2) [.slice (lAt a k).ad (lAt a k).cs.length (lAt a k).cap] := by
      have := (hdr_at ha3 hk _ rfl).one 0 rfl
      rwa [Nat.add_zero] at this
    refine ⟨ad, rfl, ⟨by omega, by omega⟩, _, _, _, hA, fun hlt2 => ?_, fun hge2 => ?_⟩
    · intro y hy
      refine ⟨_, ⟨grow_own hC.row, fun b hb' => ⟨?_, fun h9 => by have := (hC.new b hb').1; omega⟩⟩, by have := hC.hn; have := h16 k hk; omega, ?_⟩
      · have h1 := (hC.new b hb').2
        have h2 := (own_lt hC.row b hb').1
        simp only [List.mem_cons, List.not_mem_nil, or_false] at h1 ⊢
        omega
      · intro w6 p' c' hg ho
        refine ⟨by unfold I64; have := h16 k hk; omega, fun w7 hx7 => ⟨⟨m + 1, by omega, rfl, hC.step (bs' := [x, y]) hs1 (by omega) hg ho hx7 (fun b hb' => by simp only [List.mem_singleton] at hb'; simp [hb']) (fun b hb' => ⟨hb', by simp only [List.mem_singleton] at hb'; omega⟩)⟩, by dsimp only; omega⟩⟩
    · intro y hy
      have hmk : m = (lAt a k).cs.length := by have := hC.hk; omega
      subst hmk
      obtain ⟨hbe, hkk, ls, hsay, hll, hnk, hN, ho⟩ := id hE
      have ho3 : w3.ownsRow w.heap.size 29 2 (.slice p n c) n (hdrs ls) := own_keep ho fun b hb' => hC.be.block _ (own_lt ho b hb').1
      refine ⟨_, ⟨grow_own ho3, fun b hb' => ⟨?_, fun h9 => by have := (own_lt ho3 b hb').2.1; omega⟩⟩, by omega, ?_⟩
      · have h2 := (own_lt ho b hb').1
        simp only [List.mem_cons, List.not_mem_nil, or_false]
        omega
      · intro w4 p' c' hg _
        exact ⟨by unfold I64; omega, fun w5 hb5 => ⟨⟨k + 1, by omega, hE.step hs1 hk hC (grow_own ho3) (fun ls' h' => hdrs_same ho3 h') hg hb5⟩, by dsimp only; omega⟩⟩
  · intro w2 hb2 hK2
    have hk : k = a.length := by have := hE.hk; omega
    subst hk
    obtain ⟨ls, h1, h2, h3⟩ := hE.lines
    exact ⟨p, n, c, ls, rfl, h1, h2, (h3.below hb2).more hb2.size⟩
end Go.Proofs.YthophmihgmjnfaaDoor

namespace Go.Proofs.YthophmihgmjnfaaDoor
open Go Go.RowKit Go.Rep Go.Sy
set_option maxRecDepth 100000
set_option linter.unusedSimpArgs false
/-- The empty lines of lines. -/
def emp (a : List Ln) : List Ln := a.map fun l => ⟨none, 0, List.replicate l.cs.length bC, false⟩
theorem emp_say (a : List Ln) : (emp a).map Ln.say = a.map blankSay := by
  unfold emp
  rw [List.map_map]
  rfl
section
variable {a a' : List Ln} (h : a.map Ln.say = a'.map Ln.say)
include h
theorem say_len : a.length = a'.length := by simpa using congrArg List.length h
theorem say_at (i : Nat) : (lAt a i).cs = (lAt a' i).cs ∧ (lAt a i).soft = (lAt a' i).soft := by
  have key : ∀ l : List Ln, Ln.say (lAt l i) = (l.map Ln.say).getD i ([], false) := fun l => by
    unfold lAt
    rw [List.getD_eq_getElem?_getD, List.getD_eq_getElem?_getD, List.getElem?_map]
    cases l[i]? <;> rfl
  have h1 := key a
  rw [h, ← key a'] at h1
  exact ⟨congrArg Prod.fst h1, congrArg Prod.snd h1⟩
theorem say_scr (n : Nat) : screenUp a n = screenUp a' n := by
  induction n with
  | zero => rfl
  | succ n ih =>
    have e : scrAt a n = scrAt a' n := by
      unfold scrAt validLn
      rw [(say_at h n).1, (say_at h 0).1]
    unfold screenUp
    rw [ih, e]
theorem say_cols : colsOf a = colsOf a' := by unfold colsOf; rw [(say_at h 0).1]
theorem say_check (b : List Ln) : checkE a b = checkE a' b := by
  unfold checkE screenB
  rw [say_len h, say_scr h, say_cols h]
theorem say_delta (b : List Ln) : deltaL a b = deltaL a' b := by
  unfold deltaL
  rw [say_len h, say_cols h]
  generalize colsOf a' = n
  induction a'.length with
  | zero => rfl
  | succ m ih =>
    unfold deltaUp rowP rowRuns
    rw [ih, (say_at h m).1, (say_at h m).2]
theorem say_no (b : List Ln) (r c : Int) : noC a b r c = noC a' b r c := by
  unfold noC
  rw [say_check h, say_len h]
theorem say_out (b : List Ln) (r c : Int) : outC a b r c = outC a' b r c := by
  unfold outC
  rw [say_no h, say_delta h]
end
theorem emp_at (a : List Ln) {i : Nat} (hi : i < a.length) : (lAt (emp a) i).cs = List.replicate (lAt a i).cs.length bC := by
  unfold emp lAt
  rw [List.getD_eq_getElem?_getD, List.getD_eq_getElem?_getD, List.getElem?_map, List.getElem?_eq_getElem hi]
  rfl
theorem emp_len (a : List Ln) : (emp a).length = a.length := by unfold emp; simp
set_option maxHeartbeats 1000000 in
theorem paint_any {a : List Ln} {B ca na : Nat} {A : Option Addr} {row col : Int} {w : World} (hL : Laid2 w) (ha : LinesR w B A a) (hB : B ≤ w.heap.size) (hla : a.length = na) (hna : na ≤ 6) (h16 : ∀ i, i < na → (lAt a i).cs.length ≤ 16)
    (hp : checkE (emp a) a = 0 → ∀ i, i < na → ∀ c ∈ (lAt a i).cs, okPn c.p) :
    Gets Tryd.prog 15 #[.slice A na ca, .int .i64 row, .int .i64 col] w Nix fun v w' => ∃ u, v = .tuple #[u, .int .i64 (noC (emp a) a row col)] ∧ Bts w' u (outC (emp a) a row col) := by
  subst hla
  refine vc14 A a.length ca row col ?_
  refine ⟨fun p n c i w' => ∃ k : Nat, i = k ∧ Emp w.heap.size w a p n c k w', fun _ _ _ i => a.length - i.toNat, fun w1 hb1 => ⟨0, rfl, .start hb1⟩, ?_⟩
  rintro p n c i w1 hK1 ⟨k, rfl, hE⟩
  have hs1 := hE.be.size
  refine ⟨fun hlt => ?_, fun hge => ?_⟩
  · have hk : k < a.length := by omega
    have ha1 : LinesR w1 B A a := ha.below (hE.be.mono hB)
    obtain ⟨ad, rfl, _⟩ := ha1.at_ hk
    refine ⟨ad, rfl, ⟨by omega, by omega⟩, _, _, _, _, hdr_at ha1 hk _ rfl, ?_⟩
    intro x0 hx0 x hx
    refine ⟨fun j p n c b w' => ∃ m : Nat, j = m ∧ b = false ∧ CurR w.heap.size w1.heap.size [x0, x] w1 (lAt a k).cs.length m p n c w', fun j _ _ _ _ => (lAt a k).cs.length - j.toNat, fun w2 hb2 => ⟨0, rfl, rfl, .start hb2⟩, ?_⟩
    rintro j p2 n2 c2 b w3 hK3 ⟨m, rfl, rfl, hC⟩
    have hs3 := hC.be.size
    refine ⟨fun hlt2 => ?_, fun hge2 => ?_⟩
    · intro y hy
      refine ⟨_, ⟨grow_own hC.row, fun b hb' => ⟨?_, fun h9 => by have := (hC.new b hb').1; omega⟩⟩, by have := hC.hn; have := h16 k hk; omega, ?_⟩
      · have h1 := (hC.new b hb').2
        have h2 := (own_lt hC.row b hb').1
        simp only [List.mem_cons, List.not_mem_nil, or_false] at h1 ⊢
        omega
      · intro w6 p' c' hg ho
        refine ⟨by unfold I64; have := h16 k hk; omega, fun w7 hx7 => ⟨⟨m + 1, by omega, rfl, hC.step (bs' := [x0, x, y]) hs1 (by omega) hg ho hx7 (fun b hb' => by simp only [List.mem_cons, List.not_mem_nil, or_false] at hb' ⊢; omega) (fun b hb' => by simp only [List.mem_cons, List.not_mem_nil, or_false] at hb' ⊢; omega)⟩, by dsimp only; omega⟩⟩
    · intro y hy
      have hmk : m = (lAt a k).cs.length := by have := hC.hk; omega
      subst hmk
      obtain ⟨hbe, hkk, ls, hsay, hll, hnk, hN, ho⟩ := id hE
      have ho3 : w3.ownsRow w.heap.size 29 2 (.slice p n c) n (hdrs ls) := own_keep ho fun b hb' => hC.be.block _ (own_lt ho b hb').1
      refine ⟨_, ⟨grow_own ho3, fun b hb' => ⟨?_, fun h9 => by have := (own_lt ho3 b hb').2.1; omega⟩⟩, by omega, ?_⟩
      · have h2 := (own_lt ho b hb').1
        simp only [List.mem_cons, List.not_mem_nil, or_false]
        omega
      · intro w4 p' c' hg _
        exact ⟨by unfold I64; omega, fun w5 hb5 => ⟨⟨k + 1, by omega, hE.step hs1 hk hC (grow_own ho3) (fun ls' h' => hdrs_same ho3 h') hg hb5⟩, by dsimp only; omega⟩⟩
  · intro w2 hb2
    have hk : k = a.length := by have := hE.hk; omega
    subst hk
    obtain ⟨ls, h1, h2, h3⟩ := hE.lines
    rw [← emp_say] at h1
    have hbe2 : Below w.heap.size w w2 := hE.be.trans (hb2.mono hs1)
    have hs2 := hb2.size
    have hll : ls.length = a.length := by rw [say_len h1, emp_len]
    have hch := say_check h1 a
    have hcol : checkE ls a = 0 → colsOf ls ≤ 16 := fun h0 => by
      rw [say_cols h1]
      unfold colsOf
      rcases Nat.eq_zero_or_pos a.length with h9 | h9
      · have : a = [] := List.eq_nil_of_length_eq_zero h9
        subst this
        decide
      · rw [emp_at a h9, List.length_replicate]
        exact h16 0 h9
    have hc := chg_any (ca := c) (cb := ca) (row := row) (col := col) (hL.low hbe2) ((h3.below hb2).more hs2) ((((ha.below (hbe2.mono hB)).more hB).more hs1).more hs2) (Nat.le_refl _) h2 rfl (by omega) hna hcol (fun h0 i hi => ⟨h16 i hi, hp (by rw [← hch]; exact h0) i hi⟩)
    refine hc.runs fun v w3 hK3 hv => ?_
    obtain ⟨u, rfl, hu⟩ := hv
    obtain ⟨q, m, d, rfl, hbt⟩ := hu
    refine ⟨q, m, d, _, rfl, hK3.nix, fun w4 hb4 hK4 => ⟨_, by rw [say_no h1], q, m, d, rfl, ⟨by rw [hbt.1.1.symm, say_out h1], fun ad had => ?_⟩, hbt.2⟩⟩
    rw [← say_out h1]
    exact (hbt.1.2 ad had).below hb4
end Go.Proofs.YthophmihgmjnfaaDoor
