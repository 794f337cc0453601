/- A part of the proof of RepaintBytes. -/
import Derived.Test.YthophmihgmjnfaaDoorUY
import Derived.Test.YthophmihgmjnfaaDoorP
set_option linter.unusedVariables false
set_option linter.unusedSimpArgs false
-- --
namespace Go.Rep
open Go.RowKit
theorem list_of {α : Type} {n : Nat} {R : Nat → α → Prop} (h : ∀ i, i < n → ∃ a, R i a) : ∃ l : List α, l.length = n ∧ ∀ i a, l[i]? = some a → R i a := by
  induction n with
  | zero => exact ⟨[], rfl, fun i a h => by simp at h⟩
  | succ n ih =>
    obtain ⟨l, h1, h2⟩ := ih (fun i hi => h i (by omega))
    obtain ⟨a, ha⟩ := h n (by omega)
    refine ⟨l ++ [a], by simp [h1], fun i b hb => ?_⟩
    rcases Nat.lt_or_ge i n with hi | hi
    · rw [List.getElem?_append_left (by omega)] at hb
      exact h2 i b hb
    · have hin : i = n := by
        have := (List.getElem?_eq_some_iff.1 hb).1
        simp at this
        omega
      subst hin
      rw [List.getElem?_append_right (by omega), h1, Nat.sub_self] at hb
      cases hb
      exact ha
end Go.Rep
namespace Go.Proofs.YthophmihgmjnfaaDoor
open Go Go.RowKit Go.Rep Go.ChangeShapes Go.WideShapes Go.Deep
set_option maxRecDepth 100000
section
variable {H : Type} {enc : TypeId × Value → H} {W : World} {spare : Nat → Bool} {held : Bool}
theorem wf_u8 {n : Int} (h : (Lit.int .u8 n).wf = true) : 0 ≤ n ∧ n ≤ 255 := by
  have := bounds_u8 h
  omega
theorem five_of {α : Type} {l : List α} (h : l.length = 5) : ∃ a b c d e, l = [a, b, c, d, e] := by
  match l, h with
  | [a, b, c, d, e], _ => exact ⟨a, b, c, d, e, rfl⟩
theorem cells_col : Tryd.prog.cellsOf 41 = 5 := by kernel_rfl
theorem cells_pen : Tryd.prog.cellsOf 44 = 11 := by kernel_rfl
theorem cells_cell : Tryd.prog.cellsOf 46 = 16 := by kernel_rfl
theorem cells_marks : Tryd.prog.cellsOf 38 = 3 := by kernel_rfl
theorem cells_line : Tryd.prog.cellsOf 29 = 2 := by kernel_rfl
theorem one_int : Tryd.prog.cellsOf 3 = 1 := by kernel_rfl
theorem one_rune : Tryd.prog.cellsOf 21 = 1 := by kernel_rfl
theorem one_kind : Tryd.prog.cellsOf 39 = 1 := by kernel_rfl
theorem one_byte : Tryd.prog.cellsOf 5 = 1 := by kernel_rfl
theorem one_flag : Tryd.prog.cellsOf 42 = 1 := by kernel_rfl
theorem one_bool : Tryd.prog.cellsOf 4 = 1 := by kernel_rfl
theorem one_row : Tryd.prog.cellsOf 27 = 1 := by kernel_rfl
theorem trod_col {fuel : Nat} {cs : List Value} {x : DataW H × List MemPlace} (h : DataW.trod enc Tryd.prog W 0 spare held fuel 41 cs = some x) : ∃ c : Col, cs = c.arr.toList ∧ okC c := by
  obtain ⟨ys, n, _, _, hlen, hyl, hf⟩ := DataW.trod_struct Tryd.underlying41 h
  rw [cells_col] at hlen
  obtain ⟨a, b, c, d, e, rfl⟩ := five_of hlen
  have h0 : DataW.trod enc Tryd.prog W 0 spare held n 39 (([a, b, c, d, e].drop 0).take (Tryd.prog.cellsOf 39)) = ys[0]? := hf 0 _ rfl
  have h1 : DataW.trod enc Tryd.prog W 0 spare held n 5 (([a, b, c, d, e].drop 1).take (Tryd.prog.cellsOf 5)) = ys[1]? := hf 1 _ rfl
  have h2 : DataW.trod enc Tryd.prog W 0 spare held n 5 (([a, b, c, d, e].drop 2).take (Tryd.prog.cellsOf 5)) = ys[2]? := hf 2 _ rfl
  have h3 : DataW.trod enc Tryd.prog W 0 spare held n 5 (([a, b, c, d, e].drop 3).take (Tryd.prog.cellsOf 5)) = ys[3]? := hf 3 _ rfl
  have h4 : DataW.trod enc Tryd.prog W 0 spare held n 5 (([a, b, c, d, e].drop 4).take (Tryd.prog.cellsOf 5)) = ys[4]? := hf 4 _ rfl
  rw [one_kind] at h0
  rw [one_byte] at h1 h2 h3 h4
  have hy : ys.length = 5 := hyl
  rw [List.getElem?_eq_getElem (by omega)] at h0 h1 h2 h3 h4
  obtain ⟨k, e0, _, _⟩ := DataW.trod_int Tryd.underlying39 h0
  obtain ⟨i, e1, _, w1⟩ := DataW.trod_int Tryd.underlying5 h1
  obtain ⟨r, e2, _, w2⟩ := DataW.trod_int Tryd.underlying5 h2
  obtain ⟨g, e3, _, w3⟩ := DataW.trod_int Tryd.underlying5 h3
  obtain ⟨b', e4, _, w4⟩ := DataW.trod_int Tryd.underlying5 h4
  have e0' : a = .int .i64 k := by simpa using e0
  have e1' : b = .int .u8 i := by simpa using e1
  have e2' : c = .int .u8 r := by simpa using e2
  have e3' : d = .int .u8 g := by simpa using e3
  have e4' : e = .int .u8 b' := by simpa using e4
  have b1 := wf_u8 w1
  have b2 := wf_u8 w2
  have b3 := wf_u8 w3
  have b4 := wf_u8 w4
  exact ⟨⟨k, i, r, g, b'⟩, by rw [e0', e1', e2', e3', e4'], ⟨b1.1, b1.2, b2.1, b2.2, b3.1, b3.2, b4.1, b4.2⟩⟩
theorem trod_pen {fuel : Nat} {cs : List Value} {x : DataW H × List MemPlace} (h : DataW.trod enc Tryd.prog W 0 spare held fuel 44 cs = some x) : ∃ p : Pn, cs = p.arr.toList ∧ okC p.f ∧ okC p.b := by
  obtain ⟨ys, n, _, _, hlen, hyl, hf⟩ := DataW.trod_struct Tryd.underlying44 h
  rw [cells_pen] at hlen
  have h0 : DataW.trod enc Tryd.prog W 0 spare held n 41 ((cs.drop 0).take (Tryd.prog.cellsOf 41)) = ys[0]? := hf 0 _ rfl
  have h1 : DataW.trod enc Tryd.prog W 0 spare held n 41 ((cs.drop 5).take (Tryd.prog.cellsOf 41)) = ys[1]? := hf 1 _ rfl
  have h2 : DataW.trod enc Tryd.prog W 0 spare held n 42 ((cs.drop 10).take (Tryd.prog.cellsOf 42)) = ys[2]? := hf 2 _ rfl
  rw [cells_col] at h0 h1
  rw [one_flag] at h2
  have hy : ys.length = 3 := hyl
  rw [List.getElem?_eq_getElem (by omega)] at h0 h1 h2
  obtain ⟨f, e0, o0⟩ := trod_col h0
  obtain ⟨b, e1, o1⟩ := trod_col h1
  obtain ⟨fl, e2, _, _⟩ := DataW.trod_int Tryd.underlying42 h2
  refine ⟨⟨f, b, fl⟩, ?_, o0, o1⟩
  have : cs = (cs.drop 0).take 5 ++ ((cs.drop 5).take 5 ++ (cs.drop 10).take 1) := by
    match cs, hlen with
    | [_, _, _, _, _, _, _, _, _, _, _], _ => rfl
  rw [this, e0, e1, e2]
  rfl
theorem trod_cell {fuel : Nat} {cs : List Value} {x : DataW H × List MemPlace} (h : DataW.trod enc Tryd.prog W 0 spare held fuel 46 cs = some x) : ∃ c : Cl, cs = c.arr.toList ∧ okC c.p.f ∧ okC c.p.b := by
  obtain ⟨ys, n, _, _, hlen, hyl, hf⟩ := DataW.trod_struct Tryd.underlying46 h
  rw [cells_cell] at hlen
  have h0 : DataW.trod enc Tryd.prog W 0 spare held n 21 ((cs.drop 0).take (Tryd.prog.cellsOf 21)) = ys[0]? := hf 0 _ rfl
  have h1 : DataW.trod enc Tryd.prog W 0 spare held n 38 ((cs.drop 1).take (Tryd.prog.cellsOf 38)) = ys[1]? := hf 1 _ rfl
  have h2 : DataW.trod enc Tryd.prog W 0 spare held n 3 ((cs.drop 4).take (Tryd.prog.cellsOf 3)) = ys[2]? := hf 2 _ rfl
  have h3 : DataW.trod enc Tryd.prog W 0 spare held n 44 ((cs.drop 5).take (Tryd.prog.cellsOf 44)) = ys[3]? := hf 3 _ rfl
  rw [one_rune] at h0
  rw [cells_marks] at h1
  rw [one_int] at h2
  rw [cells_pen] at h3
  have hy : ys.length = 4 := hyl
  rw [List.getElem?_eq_getElem (by omega)] at h0 h1 h2 h3
  obtain ⟨r, e0, _, _⟩ := DataW.trod_int Tryd.underlying21 h0
  obtain ⟨w, e2, _, _⟩ := DataW.trod_int Tryd.underlying3 h2
  obtain ⟨p, e3, o3⟩ := trod_pen h3
  obtain ⟨zs, n', _, _, _, hzl, hz⟩ := DataW.trod_array Tryd.underlying38 h1
  have hm : ∀ i, i < 3 → ∃ m, ((((cs.drop 1).take 3).drop i).take 1) = [.int .i32 m] := fun i hi => by
    have hq := hz i hi
    rw [one_rune, Nat.mul_one] at hq
    rw [List.getElem?_eq_getElem (by omega)] at hq
    obtain ⟨m, e, _, _⟩ := DataW.trod_int Tryd.underlying21 hq
    exact ⟨m, e⟩
  obtain ⟨m0, g0⟩ := hm 0 (by decide)
  obtain ⟨m1, g1⟩ := hm 1 (by decide)
  obtain ⟨m2, g2⟩ := hm 2 (by decide)
  refine ⟨⟨r, m0, m1, m2, w, p⟩, ?_, o3⟩
  have : cs = (cs.drop 0).take 1 ++ ((((cs.drop 1).take 3).drop 0).take 1 ++ ((((cs.drop 1).take 3).drop 1).take 1 ++ ((((cs.drop 1).take 3).drop 2).take 1 ++ ((cs.drop 4).take 1 ++ (cs.drop 5).take 11)))) := by
    match cs, hlen with
    | [_, _, _, _, _, _, _, _, _, _, _, _, _, _, _, _], _ => rfl
  rw [this, e0, g0, g1, g2, e2, e3]
  rfl
/-- A row of cells that lies there. -/
theorem trod_row {fuel : Nat} {v : Value} {x : DataW H × List MemPlace} (h : DataW.trod enc Tryd.prog W 0 spare held fuel 27 [v] = some x) :
    ∃ A n c l, v = .slice A n c ∧ l.length = n ∧ Reads W W.heap.size 16 A n (cvals l) ∧ n ≤ c ∧ ∀ q ∈ l, okC q.p.f ∧ okC q.p.b := by
  rcases open_slice Tryd.underlying27 h with ⟨hs, _⟩ | ⟨ad, len, cap, mm, nn, D, Pl, hs, hb, hlc, hm, hmm, _, hi⟩
  · obtain rfl : v = .slice none 0 0 := by simpa using hs
    exact ⟨none, 0, 0, [], rfl, rfl, Reads.none_, Nat.le_refl _, fun q hq => by cases hq⟩
  · obtain rfl : v = .slice (some ad) len cap := by simpa using hs
    have hml : len ≤ mm := by rw [hmm]; split <;> omega
    rw [cells_cell] at hi
    obtain ⟨cls, h2, h3⟩ := list_of (n := len) (R := fun i (c : Cl) => (∀ j u, c.arr.toList[j]? = some u → W.cell? (ad.add (i * 16 + j)) = some u) ∧ okC c.p.f ∧ okC c.p.b) (fun i hi' => by
      obtain ⟨cs', hc, ht⟩ := hi i (by omega)
      obtain ⟨c, hcc, ho⟩ := trod_cell ht
      obtain ⟨_, _, hat⟩ := World.cells?_some hc
      refine ⟨c, fun j u hu => ?_, ho⟩
      have hj : j < 16 := (List.getElem?_eq_some_iff.1 hu).1
      have := hat j hj
      rw [Go.Deep.add_add] at this
      rw [this, hcc, hu])
    refine ⟨some ad, len, cap, cls, rfl, h2, ⟨by rw [cvals_length, h2], fun hn => ⟨ad, rfl, ?_, fun j u hu => ?_⟩⟩, hlc, fun q hq => ?_⟩
    · have h4 := (h3 0 _ (List.getElem?_eq_getElem (by omega))).1 0 _ rfl
      have := block_lt h4
      rwa [block_of_add] at this
    · have hj : j < len * 16 := by
        have := (List.getElem?_eq_some_iff.1 hu).1
        rw [cvals_length, h2] at this
        exact this
      have hq : j / 16 < cls.length := by rw [h2]; omega
      have hjj : j / 16 * 16 + j % 16 = j := by omega
      have hlt16 : j % 16 < (cls[j / 16]).arr.toList.length := by show j % 16 < 16; omega
      have h4 := cvals_at (l := cls) (j := j / 16) (i := j % 16) hq (List.getElem?_eq_getElem hlt16)
      rw [hjj, hu] at h4
      have h5 := (h3 (j / 16) _ (List.getElem?_eq_getElem hq)).1 (j % 16) u (by rw [h4]; exact List.getElem?_eq_getElem hlt16)
      rwa [hjj] at h5
    · obtain ⟨i, hi', rfl⟩ := List.mem_iff_getElem.1 hq
      exact (h3 i _ (List.getElem?_eq_getElem hi')).2
theorem trod_line {fuel : Nat} {cs : List Value} {x : DataW H × List MemPlace} (h : DataW.trod enc Tryd.prog W 0 spare held fuel 29 cs = some x) :
    ∃ l : Ln, cs = l.arr.toList ∧ Reads W W.heap.size 16 l.ad l.cs.length (cvals l.cs) ∧ l.cs.length ≤ l.cap ∧ ∀ q ∈ l.cs, okC q.p.f ∧ okC q.p.b := by
  obtain ⟨ys, n, _, _, hlen, hyl, hf⟩ := DataW.trod_struct Tryd.underlying29 h
  rw [cells_line] at hlen
  match cs, hlen with
  | [a, b], _ =>
    have h0 : DataW.trod enc Tryd.prog W 0 spare held n 27 (([a, b].drop 0).take (Tryd.prog.cellsOf 27)) = ys[0]? := hf 0 _ rfl
    have h1 : DataW.trod enc Tryd.prog W 0 spare held n 4 (([a, b].drop 1).take (Tryd.prog.cellsOf 4)) = ys[1]? := hf 1 _ rfl
    rw [one_row] at h0
    rw [one_bool] at h1
    have hy : ys.length = 2 := hyl
    rw [List.getElem?_eq_getElem (by omega)] at h0 h1
    obtain ⟨A, m, c, l, e0, hl, hr, hc, ho⟩ := trod_row (v := a) h0
    obtain ⟨s, e1, _⟩ := DataW.trod_bool Tryd.underlying4 h1
    have e1' : b = .bool s := by simpa using e1
    subst hl
    exact ⟨⟨A, c, l, s⟩, by rw [e0, e1'], hr, hc, ho⟩
/-- Lines that are an argument. -/
theorem open_lines {v : Value} {d : DataW H} {p : List MemPlace} {base : Nat} (hval : Value.okWide Tryd.prog W .any base 22 v) (h : DataW.Trod enc Tryd.prog W 0 spare held 22 v d p) :
    ∃ A n c ls, v = .slice A n c ∧ ls.length = n ∧ LinesR W W.heap.size A ls ∧ ∀ l ∈ ls, ∀ q ∈ l.cs, okC q.p.f ∧ okC q.p.b := by
  obtain ⟨a1, len, cap, rfl⟩ := okWide_slice Tryd.underlying22 hval
  obtain ⟨fuel, hf⟩ := h
  rcases open_slice Tryd.underlying22 hf with ⟨hs, _⟩ | ⟨ad, len', cap', mm, nn, D, Pl, hs, hb, hlc, hm, hmm, _, hi⟩
  · simp [Value.cells] at hs
    obtain ⟨rfl, rfl, rfl⟩ := hs
    exact ⟨none, 0, 0, [], rfl, rfl, ⟨Reads.none_, fun l hl => by cases hl⟩, fun l hl => by cases hl⟩
  · simp [Value.cells] at hs
    obtain ⟨rfl, rfl, rfl⟩ := hs
    have hml : len ≤ mm := by rw [hmm]; split <;> omega
    rw [cells_line] at hi
    obtain ⟨ls, h2, h3⟩ := list_of (n := len) (R := fun i (l : Ln) => (∀ j u, l.arr.toList[j]? = some u → W.cell? (ad.add (i * 2 + j)) = some u) ∧ Reads W W.heap.size 16 l.ad l.cs.length (cvals l.cs) ∧ l.cs.length ≤ l.cap ∧ ∀ q ∈ l.cs, okC q.p.f ∧ okC q.p.b) (fun i hi' => by
      obtain ⟨cs', hc, ht⟩ := hi i (by omega)
      obtain ⟨l, hcc, ho⟩ := trod_line ht
      obtain ⟨_, _, hat⟩ := World.cells?_some hc
      refine ⟨l, fun j u hu => ?_, ho⟩
      have hj : j < 2 := (List.getElem?_eq_some_iff.1 hu).1
      have := hat j hj
      rw [Go.Deep.add_add] at this
      rw [this, hcc, hu])
    refine ⟨some ad, len, cap, ls, rfl, h2, ⟨⟨by rw [hdrs_length], fun hn => ⟨ad, rfl, ?_, fun j u hu => ?_⟩⟩, fun l hl => ?_⟩, fun l hl => ?_⟩
    · have h4 := (h3 0 _ (List.getElem?_eq_getElem (by omega))).1 0 _ rfl
      have := block_lt h4
      rwa [block_of_add] at this
    · have hj : j < ls.length * 2 := by
        have := (List.getElem?_eq_some_iff.1 hu).1
        rw [hdrs_length] at this
        exact this
      have hq : j / 2 < ls.length := by omega
      have hjj : j / 2 * 2 + j % 2 = j := by omega
      have hlt2 : j % 2 < (ls[j / 2]).arr.toList.length := by show j % 2 < 2; omega
      have h4 := hdrs_at (ls := ls) (j := j / 2) (i := j % 2) hq (List.getElem?_eq_getElem hlt2)
      rw [hjj, hu] at h4
      have h5 := (h3 (j / 2) _ (List.getElem?_eq_getElem hq)).1 (j % 2) u (by rw [h4]; exact List.getElem?_eq_getElem hlt2)
      rwa [hjj] at h5
    · obtain ⟨i, hi', rfl⟩ := List.mem_iff_getElem.1 hl
      exact ⟨(h3 i _ (List.getElem?_eq_getElem hi')).2.1, (h3 i _ (List.getElem?_eq_getElem hi')).2.2.1⟩
    · obtain ⟨i, hi', rfl⟩ := List.mem_iff_getElem.1 hl
      exact (h3 i _ (List.getElem?_eq_getElem hi')).2.2.2
end
end Go.Proofs.YthophmihgmjnfaaDoor
