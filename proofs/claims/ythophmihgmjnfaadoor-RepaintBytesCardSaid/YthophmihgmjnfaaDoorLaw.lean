/- RepaintBytes returns true for all screens, rows and columns, and changes no memory that was there. The listed package variables are as the text of the program lays them (the tied card). -/
import Derived.Test.YthophmihgmjnfaaDoorEOpen
import Derived.Test.YthophmihgmjnfaaDoorKnown
import Derived.WalkKit
import Derived.ProofKit
import Derived.Test.YthophmihgmjnfaaDoorTie
import Derived.Test.YthophmihgmjnfaaDoorCards
import Derived.SevenTiedAt
set_option linter.unusedVariables false
set_option linter.unusedSimpArgs false
-- --
namespace Go.Proofs.YthophmihgmjnfaaDoor
open Go.RowKit Go.Rep Go.Abs Go.ChangeShapes Go.WideShapes
set_option maxRecDepth 100000
/-- The six tables lie in memory. -/
def Tabbed (w : World) : Prop := Tryd.prog.globals.size ≤ w.heap.size ∧
  ∀ t ∈ tabs, t.at' < Tryd.prog.globals.size ∧ 0 < t.es ∧ t.vs.length % t.es = 0 ∧ okvs (fun _ _ => none) t.vs ∧ t.vs.all AVal.scalar = true ∧ w.heap[t.at']? = some (.cells (concs (fun _ _ => none) t.vs).toArray t.ety (0, 0))
theorem below_up {B : Nat} {w w' : World} (h : Below B w w') {n : Nat} (hn : n ≤ w.heap.size) : n ≤ w'.heap.size := Nat.le_trans hn h.size
theorem below_then {w w1 w2 : World} (h : Below w.heap.size w w1) (h2 : Below w1.heap.size w1 w2) : Below w.heap.size w w2 :=
  ⟨h2.os.trans h.os, h2.tape.trans h.tape, h2.output.trans h.output, Nat.le_trans h.size h2.size, fun k hk => (h2.block k (Nat.lt_of_lt_of_le hk h.size)).trans (h.block k hk)⟩
theorem tab_up {w w' : World} (h : Below w.heap.size w w') (ht : Tabbed w) : Tabbed w' := by
  refine ⟨Nat.le_trans ht.1 h.size, fun t hm => ?_⟩
  obtain ⟨h1, h2, h3, h4, h5, h6⟩ := ht.2 t hm
  exact ⟨h1, h2, h3, h4, h5, (h.block _ (Nat.lt_of_lt_of_le h1 ht.1)).trans h6⟩
theorem tab_pow {w : World} (ht : Tabbed w) : Lib.TabIs Tryd.prog w "internal/strconv.uint64pow10" .u64 Lib.pow10Tab := by
  obtain ⟨_, _, _, _, _, h⟩ := ht.2 _ (show (tabs[2]?.getD ⟨0, 0, 0, []⟩) ∈ tabs by unfold tabs; simp)
  unfold Lib.TabIs World.var?
  rw [show Tryd.prog.globalNamed "internal/strconv.uint64pow10" = some 3 by kernel_rfl]
  simp only [Option.bind_some]
  rw [show w.heap[3]? = _ from h]
  rfl
theorem known_walk (w : World) (hw : Tabbed w) : Calls Tryd.prog 5 #[] w fun e w' => e = .returned (.bool true) ∧ Below w.heap.size w w' := by
  have hk := known
  rw [← gsize] at hk
  refine (calls_start (args := []) Tryd.checked.mixed (good_of good) Tryd.func5 rfl hw.1 hw.2 trivial hk).mono fun e w' he => ?_
  obtain ⟨σ', h1, _, h3⟩ := he
  exact ⟨h1, h3⟩

theorem laid_of {w : World} (ht : Tabbed w) : Laid2 w := by
  refine ⟨⟨ht.1, ⟨110, ?_⟩, ⟨111, ?_⟩, ⟨92, ?_⟩⟩, tab_pow ht⟩
  · obtain ⟨_, _, _, _, _, h⟩ := ht.2 _ (show (tabs[3]?.getD ⟨0, 0, 0, []⟩) ∈ tabs by unfold tabs; simp)
    exact h
  · obtain ⟨_, _, _, _, _, h⟩ := ht.2 _ (show (tabs[4]?.getD ⟨0, 0, 0, []⟩) ∈ tabs by unfold tabs; simp)
    exact h
  · obtain ⟨_, _, _, _, _, h⟩ := ht.2 _ (show (tabs[5]?.getD ⟨0, 0, 0, []⟩) ∈ tabs by unfold tabs; simp)
    exact h
def kinds : List LaidKind := [.data, .data, .data, .widerDeep, .widerDeep, .data]
theorem rows2 (o : Option Obj) {t : TypeId} (h : (o.bind Obj.row?).map (·.2) = some t) : ∃ zero, o.bind Obj.row? = some (zero, t) := by
  obtain ⟨⟨z, t'⟩, h1, rfl⟩ := Option.map_eq_some_iff.1 h
  exact ⟨z, h1⟩
theorem tabs_met {W : World} (hS : W.ShapedOpen Tryd.prog) (hL : laidMet Tryd.prog Rows.repaintBytesRow.laid W) : Tabbed W := by
  refine ⟨globals_in hS fun g hg => ?_, fun t ht => ?_⟩
  · have : g = 6 := by have := gsize; omega
    subst this
    obtain ⟨z, hz⟩ := rows2 (t := 126) (((begin Tryd.prog (fun _ _ => 0) default).world.heap[6]?)) (by kernel_rfl)
    exact ⟨z, 126, hz⟩
  · simp only [tabs, List.mem_cons, List.not_mem_nil, or_false] at ht
    rcases ht with rfl | rfl | rfl | rfl | rfl | rfl
    · exact tab_met (x := ("math/bits.deBruijn32tab", Rows.laid_math_bits_deBruijn32tab)) (ty := 125) (k := 4) hS hL ⟨by simp [Rows.repaintBytesRow], by kernel_rfl, by rw [gsize]; decide, by kernel_rfl, by kernel_rfl, by kernel_rfl, by decide, by decide, rows2 _ (by kernel_rfl)⟩
    · exact tab_met (x := ("math/bits.deBruijn64tab", Rows.laid_math_bits_deBruijn64tab)) (ty := 126) (k := 4) hS hL ⟨by simp [Rows.repaintBytesRow], by kernel_rfl, by rw [gsize]; decide, by kernel_rfl, by kernel_rfl, by kernel_rfl, by decide, by decide, rows2 _ (by kernel_rfl)⟩
    · exact tab_met (x := ("internal/strconv.uint64pow10", Rows.laid_internal_strconv_uint64pow10)) (ty := 114) (k := 4) hS hL ⟨by simp [Rows.repaintBytesRow], by kernel_rfl, by rw [gsize]; decide, by kernel_rfl, by kernel_rfl, by kernel_rfl, by decide, by decide, rows2 _ (by kernel_rfl)⟩
    · exact tab_met (x := ("scrollback/width.marks", Rows.laid_scrollback_width_marks)) (ty := 110) (k := 4) hS hL ⟨by simp [Rows.repaintBytesRow], by kernel_rfl, by rw [gsize]; decide, by kernel_rfl, by kernel_rfl, by kernel_rfl, by decide, by decide, rows2 _ (by kernel_rfl)⟩
    · exact tab_met (x := ("scrollback/width.wide", Rows.laid_scrollback_width_wide)) (ty := 111) (k := 4) hS hL ⟨by simp [Rows.repaintBytesRow], by kernel_rfl, by rw [gsize]; decide, by kernel_rfl, by kernel_rfl, by kernel_rfl, by decide, by decide, rows2 _ (by kernel_rfl)⟩
    · exact tab_met (x := ("scrollback/style.marks", Rows.laid_scrollback_style_marks)) (ty := 92) (k := 4) hS hL ⟨by simp [Rows.repaintBytesRow], by kernel_rfl, by rw [gsize]; decide, by kernel_rfl, by kernel_rfl, by kernel_rfl, by decide, by decide, rows2 _ (by kernel_rfl)⟩
theorem own : ownKnob Tryd.prog.godebug = none := by kernel_rfl
theorem door_met (os : Os) (args : Array Value) : laidMetH Tryd.prog Rows.repaintBytesRow.laid ((World.doorLaid Tryd.prog 84 os).forCall (fun _ _ => 0) ⟨#[], args, []⟩).memory :=
  laidMetH_of_parts3 (fuel := 8) (laidMet_of_run' 8 (by kernel_rfl) (by kernel_rfl)) (by kernel_rfl) (by kernel_rfl)
theorem bytes_lifted (os : Os) (started : os.Started) (H : Type) (enc : TypeId × Value → H) :
    ReturnsInHanded {} Tryd.checked os 3 .any (fun w args => (Rows.repaintBytesSpec.pre enc Tryd.prog Tryd.f3 [] false w args ∧ laidMetH Tryd.prog Rows.repaintBytesRow.laid w) ∧ sizedMet enc Tryd.prog Tryd.f3 (OpenSpec.ofChange Rows.repaintBytesSpec) false w args)
      (Rows.repaintBytesSpec.post enc Tryd.prog Tryd.f3 false true false false) := by
  refine law_row (C := Tryd.checked) (laid := Rows.repaintBytesRow.laid) (bt := 4) own started (by kernel_rfl) Tryd.func3 (by kernel_rfl) (by kernel_rfl) rfl (by kernel_rfl) (by kernel_rfl) ?_
    (ChangeSpec.witness_shaped (enc := enc) (C := Tryd.checked) (os := os) (X := fun w _ => laidMetH Tryd.prog Rows.repaintBytesRow.laid w) false (World.doorLaid Tryd.prog 84 os) #[.slice none 0 0, .slice none 0 0, .int .i64 0, .int .i64 0] 8 rfl (World.shaped_of_RefB (by kernel_rfl) (by kernel_rfl)) (by kernel_rfl) (by kernel_rfl) (by kernel_rfl) (door_met os _)) ?_
  · intro ds hd
    rw [Tryd.params3] at hd
    match ds, hd with
    | [d1, d2, d3, d4], _ => rfl
  · intro W base args ds before hval hA _ hS hL
    rw [Tryd.params3] at hA hval
    obtain ⟨vs⟩ := args
    obtain ⟨v1, vs1, d1, ds1, p1, q1, rfl, rfl, rfl, h0, hA⟩ := trodAll_cons hA
    obtain ⟨v2, vs2, d2, ds2, p2, q2, rfl, rfl, rfl, h1, hA⟩ := trodAll_cons hA
    obtain ⟨v3, vs3, d3, ds3, p3, q3, rfl, rfl, rfl, h2, hA⟩ := trodAll_cons hA
    obtain ⟨v4, vs4, d4, ds4, p4, q4, rfl, rfl, rfl, h3, hA⟩ := trodAll_cons hA
    obtain ⟨rfl, rfl, rfl⟩ := trodAll_nil hA
    obtain ⟨A, n, c, la, rfl, hla, hra, _⟩ := open_lines (hval 0 22 v1 rfl rfl) h0
    obtain ⟨A2, n2, c2, lb, rfl, hlb, hrb, hob⟩ := open_lines (hval 1 22 v2 rfl rfl) h1
    obtain ⟨r, rfl, rfl, rfl, _⟩ := open_int Tryd.underlying3 (hval 2 3 v3 rfl rfl) h2
    obtain ⟨k, rfl, rfl, rfl, _⟩ := open_int Tryd.underlying3 (hval 3 3 v4 rfl rfl) h3
    rw [MakeChecks.laidMetH_plain _ _ _ (by kernel_rfl)] at hL
    have hT := tabs_met hS hL
    exact law46 (laid_of hT) hra hrb (Nat.le_refl _) hla hlb hob fun w' hb => known_walk w' (tab_up hb hT)
theorem repaintBytes_holds : Rows.RepaintBytesSaid :=
  OpenClaim.holds_of_wide 3 Tryd.f3 rfl rfl rfl rfl rfl rfl rfl ⟨rfl, rfl, rfl, rfl, rfl⟩ rfl rfl rfl rfl rfl (by kernel_rfl) Tryd.func3 (by kernel_rfl)
    (of_decide_eq_true (by kernel_rfl)) (by unfold Func.isWrapper; first | (rw [if_pos (by decide +kernel)]; kernel_rfl) | (rw [if_neg (by decide +kernel)]; exact ⟨rfl, rfl⟩))
    (fun os started H enc _ => bytes_lifted os started H enc)
theorem repaintBytes_card_holds : Rows.RepaintBytesCardSaid :=
  Claim7.holds_tied_plain_at .later [] [.data, .data, .data, .widerDeep, .widerDeep, .data] true (true, "dc8e20827b5c62f79d56b73048cc16c19d73dee0487746109f186a4985dd3f2c") false
    repaintBytes_holds (fun _ h => by cases h) (by kernel_rfl) (fun _ h => by cases h) repaintBytes_row_tie rfl ⟨rfl, rfl⟩ (by kernel_rfl) rfl
    (fun f fn hf hfn => by
      obtain rfl : f = 3 := Option.some.inj ((show Tryd.prog.funcNamed "scrollback/scrollbacklaw46.RepaintBytes" = some 3 by kernel_rfl).symm.trans hf) |>.symm
      obtain rfl : fn = Tryd.f3 := (Option.some.inj (Tryd.func3.symm.trans hfn)).symm
      exact ⟨by kernel_rfl, fun j t ht => by
        rw [Tryd.params3] at ht
        have hm : t ∈ [22, 22, 3, 3] := by simpa using Array.mem_of_getElem? ht
        have hall : ([22, 22, 3, 3].all fun u => !Tryd.prog.wantsStandIn u) = true := by kernel_rfl
        exact (show Tryd.prog.wantsStandIn t = false by simpa using List.all_eq_true.1 hall t hm)⟩)
    (by kernel_rfl)
#print axioms repaintBytes_card_holds
end Go.Proofs.YthophmihgmjnfaaDoor
