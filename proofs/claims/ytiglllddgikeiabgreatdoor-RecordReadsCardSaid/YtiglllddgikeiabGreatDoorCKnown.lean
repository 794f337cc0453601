/- A part of the proof of RecordReads. -/
import Derived.Test.YtiglllddgikeiabGreatDoorRKnown
import Derived.Test.YtiglllddgikeiabGreatDoorRSame
import Derived.Test.YtiglllddgikeiabGreatDoorTabs
import Derived.Test.YtiglllddgikeiabGreatDoorAbsI
import Derived.Below
import Derived.Test.YtiglllddgikeiabGreatDoorSH
namespace Go.Proofs.YtiglllddgikeiabGreatDoor
open Go.Abs
set_option maxRecDepth 100000
open Go.RowKit
/-- The listed tables and ErrSyntax's variable lie in memory. -/
def Laid (w : World) : Prop := (Tabbed w ∧ ∃ k o, k < w.heap.size ∧ w.heap[0]? = some (.cells #[.iface 263 (.pointer (some ⟨k, o, none⟩))] 79 (0, 0))) ∧
  (∃ k o, k < w.heap.size ∧ w.heap[1]? = some (.cells #[.iface 263 (.pointer (some ⟨k, o, none⟩))] 79 (0, 0))) ∧ ∃ m, w.cell? ⟨2, 0, none⟩ = some (.int .i64 m)
theorem Laid.size {w : World} (h : Laid w) : Tryz.prog.globals.size ≤ w.heap.size := h.1.1.1
theorem star_name : "*" ++ "errors.errorString" = "*errors.errorString" := by decide
theorem star_row (u : TypeId) (h : Tryz.prog.typeName? 3 u = some "*errors.errorString") : u = 263 :=
  typeName_ptr_named (nm := "errors.errorString") (by rw [star_name]; kernel_rfl) (by kernel_rfl) (by decide) u (by rw [star_name]; exact h)
theorem max_met {W : World} (hS : W.ShapedOpen Tryz.prog) : ∃ m, W.cell? ⟨2, 0, none⟩ = some (.int .i64 m) := Tryz.laysM146.s1_3 W hS
theorem laid_met {W : World} (hS : W.ShapedOpen Tryz.prog) (hL : laidMet Tryz.prog Rows.recordReadsRow.laid W) : Laid W :=
  ⟨⟨tabs_met hS hL, sent_met (ti := 79) (tp := 263) (te := 265) (ts := 9) hS hL (show ("strconv.ErrSyntax", (Rows.laid_strconv_ErrSyntax : DataW Unit)) ∈ _ by simp [Rows.recordReadsRow]) (by kernel_rfl) (by rw [gsize]; decide) (by kernel_rfl) (rows2 _ (by kernel_rfl)) Tryz.underlying79 star_row Tryz.underlying263 Tryz.underlying265 rfl rfl Tryz.underlying9 (by kernel_rfl) (by kernel_rfl)⟩,
   sent_met (ti := 79) (tp := 263) (te := 265) (ts := 9) hS hL (show ("strconv.ErrRange", (Rows.laid_strconv_ErrRange : DataW Unit)) ∈ _ by simp [Rows.recordReadsRow]) (by kernel_rfl) (by rw [gsize]; decide) (by kernel_rfl) (rows2 _ (by kernel_rfl)) Tryz.underlying79 star_row Tryz.underlying263 Tryz.underlying265 rfl rfl Tryz.underlying9 (by kernel_rfl) (by kernel_rfl),
   max_met hS⟩
theorem tab_up {B : Nat} {w w' : World} (hB : Tryz.prog.globals.size ≤ B) (h : Below B w w') (ht : Laid w) : Laid w' := by
  obtain ⟨⟨⟨h1, h2⟩, k, o, h3, h4⟩, ⟨k2, o2, h5, h6⟩, m, h7⟩ := ht
  have hg := gsize
  refine ⟨⟨⟨Nat.le_trans h1 h.size, fun t ht => ?_⟩, k, o, Nat.lt_of_lt_of_le h3 h.size, (h.block 0 (by omega)).trans h4⟩, ⟨k2, o2, Nat.lt_of_lt_of_le h5 h.size, (h.block 1 (by omega)).trans h6⟩, m, ?_⟩
  · obtain ⟨a1, a2, a3, a4, a5, a6⟩ := h2 t ht
    exact ⟨a1, a2, a3, a4, a5, (h.block t.at' (by omega)).trans a6⟩
  · rw [h.cell (show 2 < B by omega)]; exact h7
theorem Laid.up {w w' : World} (h : Laid w) (hb : Below w.heap.size w w') : Laid w' := tab_up h.size hb h
theorem g0 : Tryz.prog.globalNamed "strconv.ErrSyntax" = some 0 := by kernel_rfl
theorem g1 : Tryz.prog.globalNamed "strconv.ErrRange" = some 1 := by kernel_rfl
theorem g3 : Tryz.prog.globalNamed "internal/strconv.uint64pow10" = some 5 := by kernel_rfl
/-- The condition in the words of the walks. -/
theorem Laid.parts {w : World} (h : Laid w) : 8 ≤ w.heap.size ∧ (∃ tp p, w.var? Tryz.prog "strconv.ErrSyntax" = some #[.iface tp p]) ∧ (∃ tp p, w.var? Tryz.prog "strconv.ErrRange" = some #[.iface tp p]) ∧ (∃ m, w.cell? ⟨2, 0, none⟩ = some (.int .i64 m)) ∧ Lib.TabIs Tryz.prog w "internal/strconv.uint64pow10" .u64 Lib.pow10Tab := by
  have hsz := h.size
  have hg := gsize
  obtain ⟨⟨⟨h1, h2⟩, k, o, h3, h4⟩, ⟨k2, o2, h5, h6⟩, h7⟩ := h
  refine ⟨by omega, ⟨263, .pointer (some ⟨k, o, none⟩), ?_⟩, ⟨263, .pointer (some ⟨k2, o2, none⟩), ?_⟩, h7, ?_⟩
  · unfold World.var?
    rw [g0]
    simp only [Option.bind_some, h4]
  · unfold World.var?
    rw [g1]
    simp only [Option.bind_some, h6]
  · obtain ⟨_, _, _, _, _, hp⟩ := h2 tab2 (by simp [tabs])
    unfold Lib.TabIs World.var?
    rw [g3]
    simp only [Option.bind_some]
    rw [show w.heap[5]? = _ from hp]
    rfl
noncomputable def gsAt (k o : Nat) : Real := fun f g => if f = 15 ∧ g = 0 then some ⟨k, o, 0, 0, 1⟩ else none
theorem any_Known (w : World) (hw : Laid w) : Calls Tryz.prog 6 #[] w fun e w' => e = .returned (.bool true) ∧ Below w.heap.size w w' := by
  obtain ⟨⟨⟨h1, h2⟩, k, o, h3, h4⟩, _⟩ := hw
  have hg := gsize
  have hle : Real.le (fun _ _ => none) (gsAt k o) := fun f g b h => by cases h
  refine (calls_recs2 (P := Tryz.prog) (args := []) (gs := gsAt k o) (n' := 16) (ts := err0 :: tabs) Tryz.checked.mixed (good_of good) look_Known Tryz.func6 rfl h1 (by omega) (fun f g b hb => ?_) (fun t ht => ?_) trivial run_Known).mono fun e w' he => ?_
  · unfold gsAt at hb
    split at hb
    · rename_i hc
      cases hb
      exact ⟨by omega, by omega, hc.2, h3⟩
    · cases hb
  · rcases List.mem_cons.1 ht with rfl | ht
    · refine ⟨by rw [gsize]; decide, by decide, rfl, ⟨⟨⟨k, o, 0, 0, 1⟩, by simp [gsAt], Nat.le_refl _⟩, trivial⟩, rfl, ?_⟩
      rw [show err0.at' = 0 from rfl, h4]
      simp [err0, concs, conc, gsAt, RB.at]
    · obtain ⟨a1, a2, a3, a4, a5, a6⟩ := h2 t ht
      obtain ⟨x1, x2⟩ := ext_vs hle t.vs a4
      exact ⟨a1, a2, a3, x1, a5, by rw [x2]; exact a6⟩
  · obtain ⟨σ', h5, _, h6⟩ := he
    exact ⟨h5, h6⟩
theorem same_zero (w : World) (hw : Laid w) : Calls Tryz.prog 9 #[.agg #[.int .i64 0, .int .i64 0, .int .i64 0, .slice none 0 0], .agg #[.int .i64 0, .int .i64 0, .int .i64 0, .slice none 0 0]] w fun e w' => e = .returned (.bool true) ∧ Below w.heap.size w w' := by
  have hk := same_run
  rw [← gsize] at hk
  refine (calls_fast (P := Tryz.prog) (args := [.agg [.int .i64 0, .int .i64 0, .int .i64 0, .slice none 0 (.exact 0)], .agg [.int .i64 0, .int .i64 0, .int .i64 0, .slice none 0 (.exact 0)]]) Tryz.checked.mixed (good_of good) Tryz.func9 rfl hw.1.1.1 hw.1.1.2 ⟨⟨⟨trivial, trivial, trivial, ⟨_, rfl⟩, trivial⟩, rfl⟩, ⟨⟨trivial, trivial, trivial, ⟨_, rfl⟩, trivial⟩, rfl⟩, trivial⟩ hk).mono fun e w' he => ?_
  obtain ⟨σ', h5, _, h6⟩ := he
  exact ⟨h5, h6⟩
def Yes (B : Nat) (W : World) (e : Ending) (w' : World) : Prop := e = .returned (.bool true) ∧ Below B W w'
end Go.Proofs.YtiglllddgikeiabGreatDoor
