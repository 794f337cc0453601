/- A part of the proof of RecordEdits. -/
import Derived.Test.YtjohgmnabemakaaGreatDoorSH
import Derived.Test.YtjohgmnabemakaaGreatDoorAbsP
namespace Go.Rep
open Go.RowKit
theorem list_of {α : Type} {n : Nat} {R : Nat → α → Prop} (h : ∀ i, i < n → ∃ a, R i a) : ∃ l : List α, l.length = n ∧ ∀ i a, l[i]? = some a → R i a := by
  induction n with
  | zero => exact ⟨[], rfl, fun i a h => by simp at h⟩
  | succ n ih =>
    obtain ⟨l, h1, h2⟩ := ih (fun i hi => h i (by omega))
    obtain ⟨a, ha⟩ := h n (by omega)
    refine ⟨l ++ [a], by simp [h1], fun i b hb => ?_⟩
    rcases Nat.lt_or_ge i n with hi | hi
    · rw [List.getElem?_append_left (by omega)] at hb
      exact h2 i b hb
    · have hin : i = n := by
        have := (List.getElem?_eq_some_iff.1 hb).1
        simp at this
        omega
      subst hin
      rw [List.getElem?_append_right (by omega), h1, Nat.sub_self] at hb
      cases hb
      exact ha
theorem take_one {α : Type} {l : List α} {j : Nat} (h : j < l.length) : (l.drop j).take 1 = [l[j]] := by
  rw [List.drop_eq_getElem_cons h]
  rfl
theorem five_of {α : Type} {l : List α} (h : l.length = 5) : ∃ a b c d e, l = [a, b, c, d, e] := by
  match l, h with
  | [a, b, c, d, e], _ => exact ⟨a, b, c, d, e, rfl⟩
end Go.Rep
namespace Go.Proofs.YtjohgmnabemakaaGreatDoor
open Go.RowKit Go.Rep Go.ChangeShapes Go.WideShapes Go.Deep
set_option maxRecDepth 100000
section
variable {H : Type} {enc : TypeId × Value → H} {W : World} {spare : Nat → Bool} {held : Bool}
/-- An operation, as it lies in memory. -/
theorem trod_op {fuel : Nat} {cs : List Value} {x : DataW H × List MemPlace} (h : DataW.trod enc Tryz.prog W 0 spare held fuel 33 cs = some x) : ∃ o : TOp, cs = o.cells := by
  obtain ⟨ys, n, _, _, hlen, hyl, hf⟩ := DataW.trod_struct Tryz.underlying33 h
  have hl : cs.length = 5 := hlen.trans (by kernel_rfl)
  obtain ⟨a, b, c, d, e, rfl⟩ := five_of hl
  have h0 : DataW.trod enc Tryz.prog W 0 spare held n 31 (([a, b, c, d, e].drop 0).take (Tryz.prog.cellsOf 31)) = ys[0]? := hf 0 _ rfl
  have h1 : DataW.trod enc Tryz.prog W 0 spare held n 9 (([a, b, c, d, e].drop 1).take (Tryz.prog.cellsOf 9)) = ys[1]? := hf 1 _ rfl
  have h2 : DataW.trod enc Tryz.prog W 0 spare held n 3 (([a, b, c, d, e].drop 2).take (Tryz.prog.cellsOf 3)) = ys[2]? := hf 2 _ rfl
  have h3 : DataW.trod enc Tryz.prog W 0 spare held n 3 (([a, b, c, d, e].drop 3).take (Tryz.prog.cellsOf 3)) = ys[3]? := hf 3 _ rfl
  have h4 : DataW.trod enc Tryz.prog W 0 spare held n 3 (([a, b, c, d, e].drop 4).take (Tryz.prog.cellsOf 3)) = ys[4]? := hf 4 _ rfl
  rw [show Tryz.prog.cellsOf 31 = 1 by kernel_rfl] at h0
  rw [show Tryz.prog.cellsOf 9 = 1 by kernel_rfl] at h1
  rw [show Tryz.prog.cellsOf 3 = 1 by kernel_rfl] at h2 h3 h4
  have hy : ys.length = 5 := hyl
  rw [List.getElem?_eq_getElem (by omega)] at h0 h1 h2 h3 h4
  obtain ⟨k, e0, _, _⟩ := DataW.trod_int Tryz.underlying31 h0
  obtain ⟨s, e1, _, _⟩ := DataW.trod_string Tryz.underlying9 h1
  obtain ⟨r, e2, _, _⟩ := DataW.trod_int Tryz.underlying3 h2
  obtain ⟨c', e3, _, _⟩ := DataW.trod_int Tryz.underlying3 h3
  obtain ⟨n', e4, _, _⟩ := DataW.trod_int Tryz.underlying3 h4
  have e0' : a = .int .i64 k := by simpa using e0
  have e1' : b = .string s := by simpa using e1
  have e2' : c = .int .i64 r := by simpa using e2
  have e3' : d = .int .i64 c' := by simpa using e3
  have e4' : e = .int .i64 n' := by simpa using e4
  exact ⟨⟨k, s, r, c', n'⟩, by rw [e0', e1', e2', e3', e4']; rfl⟩
theorem trod_ev {fuel : Nat} {cs : List Value} {x : DataW H × List MemPlace} (h : DataW.trod enc Tryz.prog W 0 spare held fuel 35 cs = some x) : ∃ e : Ev, cs = e.cells := by
  obtain ⟨ys, n, _, _, hlen, hyl, hf⟩ := DataW.trod_struct Tryz.underlying35 h
  have hl : cs.length = 6 := hlen.trans (by kernel_rfl)
  have h0 : DataW.trod enc Tryz.prog W 0 spare held n 3 ((cs.drop 0).take (Tryz.prog.cellsOf 3)) = ys[0]? := hf 0 _ rfl
  have h1 : DataW.trod enc Tryz.prog W 0 spare held n 33 ((cs.drop 1).take (Tryz.prog.cellsOf 33)) = ys[1]? := hf 1 _ rfl
  rw [show Tryz.prog.cellsOf 3 = 1 by kernel_rfl] at h0
  rw [show Tryz.prog.cellsOf 33 = 5 by kernel_rfl] at h1
  have hy : ys.length = 2 := hyl
  rw [List.getElem?_eq_getElem (by omega)] at h0 h1
  match cs, hl with
  | [a, b, c, d, e, g], _ =>
    obtain ⟨t, e0, _, _⟩ := DataW.trod_int Tryz.underlying3 h0
    obtain ⟨o, e1⟩ := trod_op h1
    have e0' : a = .int .i64 t := by simpa using e0
    have e1' : [b, c, d, e, g] = o.cells := e1
    exact ⟨⟨t, o⟩, by rw [e0', e1']; rfl⟩
/-- A record that is an argument. -/
theorem open_record {v : Value} {d : DataW H} {p : List MemPlace} {base : Nat} (hval : Value.okWide Tryz.prog W .any base 26 v) (h : DataW.Trod enc Tryz.prog W 0 spare held 26 v d p) :
    ∃ r c hh A m cp l, v = .agg #[.int .i64 r, .int .i64 c, .int .i64 hh, .slice A m cp] ∧ Reads W W.heap.size 6 A m (evCells l) ∧ m ≤ cp ∧ cp ≤ maxLen := by
  obtain ⟨cs, rfl, hcs⟩ := okWide_struct Tryz.underlying26 hval
  obtain ⟨fuel, hf⟩ := h
  obtain ⟨ys, n, _, _, hlen, hyl, hfs⟩ := DataW.trod_struct Tryz.underlying26 hf
  have hl : cs.toList.length = 4 := by
    have : (Value.agg cs).cells.toList.length = 4 := hlen.trans (by kernel_rfl)
    simpa [Value.cells] using this
  have h0 : DataW.trod enc Tryz.prog W 0 spare held n 23 (((Value.agg cs).cells.toList.drop 0).take (Tryz.prog.cellsOf 23)) = ys[0]? := hfs 0 _ rfl
  have h1 : DataW.trod enc Tryz.prog W 0 spare held n 24 (((Value.agg cs).cells.toList.drop 3).take (Tryz.prog.cellsOf 24)) = ys[1]? := hfs 1 _ rfl
  rw [show Tryz.prog.cellsOf 23 = 3 by kernel_rfl] at h0
  rw [show Tryz.prog.cellsOf 24 = 1 by kernel_rfl] at h1
  have hy : ys.length = 2 := hyl
  rw [List.getElem?_eq_getElem (by omega)] at h0 h1
  obtain ⟨l⟩ := cs
  match l, hl with
  | [a, b, c, e], _ =>
    have h0' : DataW.trod enc Tryz.prog W 0 spare held n 23 [a, b, c] = some ys[0] := h0
    have h1' : DataW.trod enc Tryz.prog W 0 spare held n 24 [e] = some ys[1] := h1
    obtain ⟨zs, n', _, _, _, hzl, hz⟩ := DataW.trod_struct Tryz.underlying23 h0'
    have hz3 : zs.length = 3 := hzl
    have g0 : DataW.trod enc Tryz.prog W 0 spare held n' 3 (([a, b, c].drop 0).take (Tryz.prog.cellsOf 3)) = zs[0]? := hz 0 _ rfl
    have g1 : DataW.trod enc Tryz.prog W 0 spare held n' 3 (([a, b, c].drop 1).take (Tryz.prog.cellsOf 3)) = zs[1]? := hz 1 _ rfl
    have g2 : DataW.trod enc Tryz.prog W 0 spare held n' 3 (([a, b, c].drop 2).take (Tryz.prog.cellsOf 3)) = zs[2]? := hz 2 _ rfl
    rw [show Tryz.prog.cellsOf 3 = 1 by kernel_rfl] at g0 g1 g2
    rw [List.getElem?_eq_getElem (by omega)] at g0 g1 g2
    obtain ⟨r, e0, _, _⟩ := DataW.trod_int Tryz.underlying3 g0
    obtain ⟨c', e1, _, _⟩ := DataW.trod_int Tryz.underlying3 g1
    obtain ⟨hh, e2, _, _⟩ := DataW.trod_int Tryz.underlying3 g2
    have e0' : a = .int .i64 r := by simpa using e0
    have e1' : b = .int .i64 c' := by simpa using e1
    have e2' : c = .int .i64 hh := by simpa using e2
    subst e0' e1' e2'
    rcases open_slice Tryz.underlying24 h1' with ⟨hs, _⟩ | ⟨ad, len, cap, mm, nn, D, Pl, hs, hb, hlc, hm, hmm, _, hi⟩
    · obtain rfl : e = .slice none 0 0 := by simpa using hs
      exact ⟨r, c', hh, none, 0, 0, [], rfl, Reads.none_, Nat.le_refl _, Nat.zero_le _⟩
    · obtain rfl : e = .slice (some ad) len cap := by simpa using hs
      have hml : len ≤ mm := by rw [hmm]; split <;> omega
      rw [show Tryz.prog.cellsOf 35 = 6 by kernel_rfl] at hi
      obtain ⟨evs, h2, h3⟩ := list_of (n := len) (R := fun i (ev : Ev) => ∀ j u, j < 6 → ev.cells[j]? = some u → W.cell? (ad.add (i * 6 + j)) = some u) (fun i hi' => by
        obtain ⟨cs', hc, ht⟩ := hi i (by omega)
        obtain ⟨ev, hev⟩ := trod_ev ht
        obtain ⟨_, _, hat⟩ := World.cells?_some hc
        refine ⟨ev, fun j u hj hu => ?_⟩
        have := hat j hj
        rw [Go.Deep.add_add] at this
        rw [this, hev, hu])
      refine ⟨r, c', hh, some ad, len, cap, evs, rfl, ⟨by rw [evCells_length, h2], fun hn => ⟨ad, rfl, ?_, fun j u hu => ?_⟩⟩, hlc, hm⟩
      · have h4 := h3 0 _ (List.getElem?_eq_getElem (by omega)) 0 _ (by omega) rfl
        have := block_lt h4
        rwa [block_of_add] at this
      · have hj : j < len * 6 := by
          have := (List.getElem?_eq_some_iff.1 hu).1
          rw [evCells_length, h2] at this
          exact this
        have hq : j / 6 < evs.length := by rw [h2]; omega
        have hjj : j / 6 * 6 + j % 6 = j := by omega
        have h4 := evCells_at evs (j / 6) (j % 6) hq (by omega)
        rw [hjj, hu] at h4
        have h5 := h3 (j / 6) _ (List.getElem?_eq_getElem hq) (j % 6) u (by omega) h4.symm
        rwa [hjj] at h5
end
/-- The law, at every record. -/
theorem edits_any {r c h f t ti p : Int} {A : Option Addr} {m cp B : Nat} {l : List Ev} {w : World} (hw : Laid w) (hr : Reads w B 6 A m (evCells l)) (hB : B ≤ w.heap.size) (hc : cp ≤ maxLen) (hmc : m ≤ cp) :
    Calls Tryz.prog 3 #[.agg #[.int .i64 r, .int .i64 c, .int .i64 h, .slice A m cp], .int .i64 f, .int .i64 t, .int .i64 ti, .int .i64 p] w (YesP w) := by
  by_cases hs : smallB l = true
  · by_cases hv : validB r c h l = true
    · refine edits_valid hw hr hB hc hmc ?_ hs hv
      have h1 : l.length ≤ 20 := by
        unfold smallB at hs
        simp only [Bool.and_eq_true, decide_eq_true_eq] at hs
        exact hs.1
      rw [hr.evs] at h1
      exact h1
    · exact edits_invalid hw hr hB hc hmc hs (by simpa using hv)
  · exact edits_large hw hr hB (by simpa using hs)
end Go.Proofs.YtjohgmnabemakaaGreatDoor
