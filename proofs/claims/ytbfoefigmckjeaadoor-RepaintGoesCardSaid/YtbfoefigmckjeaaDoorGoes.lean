/- RepaintGoes returns true for each row and column, and changes no memory that was there. The listed package variables are as the text of the program lays them (the tied card). -/
import Derived.Test.YtbfoefigmckjeaaDoorDec
import Derived.Test.YtbfoefigmckjeaaDoorItoa
import Derived.Test.YtbfoefigmckjeaaDoorAbsC
import Derived.WalkKit
import Derived.Lib.AppendIntMem
import Derived.ProofKit
import Derived.Test.YtbfoefigmckjeaaDoorTie
import Derived.Test.YtbfoefigmckjeaaDoorCards
import Derived.SevenTiedAt
namespace Go.Proofs.YtbfoefigmckjeaaDoor
open Go.RowKit Go.Abs Go.ChangeShapes
/-- The six tables lie in memory. -/
def Tabbed (w : World) : Prop := Tryd.prog.globals.size ≤ w.heap.size ∧
  ∀ t ∈ tabs, t.at' < Tryd.prog.globals.size ∧ 0 < t.es ∧ t.vs.length % t.es = 0 ∧ okvs (fun _ _ => none) t.vs ∧ t.vs.all AVal.scalar = true ∧ w.heap[t.at']? = some (.cells (concs (fun _ _ => none) t.vs).toArray t.ety (0, 0))
theorem below_up {B : Nat} {w w' : World} (h : Below B w w') {n : Nat} (hn : n ≤ w.heap.size) : n ≤ w'.heap.size := Nat.le_trans hn h.size
theorem below_then {w w1 w2 : World} (h : Below w.heap.size w w1) (h2 : Below w1.heap.size w1 w2) : Below w.heap.size w w2 :=
  ⟨h2.os.trans h.os, h2.tape.trans h.tape, h2.output.trans h.output, Nat.le_trans h.size h2.size, fun k hk => (h2.block k (Nat.lt_of_lt_of_le hk h.size)).trans (h.block k hk)⟩
theorem tab_up {w w' : World} (h : Below w.heap.size w w') (ht : Tabbed w) : Tabbed w' := by
  refine ⟨Nat.le_trans ht.1 h.size, fun t hm => ?_⟩
  obtain ⟨h1, h2, h3, h4, h5, h6⟩ := ht.2 t hm
  exact ⟨h1, h2, h3, h4, h5, (h.block _ (Nat.lt_of_lt_of_le h1 ht.1)).trans h6⟩
theorem tab_pow {w : World} (ht : Tabbed w) : Lib.TabIs Tryd.prog w "internal/strconv.uint64pow10" .u64 Lib.pow10Tab := by
  obtain ⟨_, _, _, _, _, h⟩ := ht.2 _ (show (tabs[2]?.getD ⟨0, 0, 0, []⟩) ∈ tabs by unfold tabs; simp)
  unfold Lib.TabIs World.var?
  rw [show Tryd.prog.globalNamed "internal/strconv.uint64pow10" = some 3 by kernel_rfl]
  simp only [Option.bind_some]
  rw [show w.heap[3]? = _ from h]
  rfl
def Dec : Prop := ∀ (n : Int) (w : World), 0 ≤ n → n < 10000 → Tryd.prog.globals.size ≤ w.heap.size → Calls Tryd.prog 21 #[.int .i64 n] w fun e w' => e = .returned (.string ⟨(Lib.itoa n).toArray⟩) ∧ Below w.heap.size w w'
theorem itoa_nat (n : Nat) : Lib.itoa (n : Int) = Lib.decDigits n := by unfold Lib.itoa; simp
theorem dec_all : Dec := by
  intro n w h0 h1 hw
  obtain ⟨m, rfl⟩ := Int.eq_ofNat_of_zero_le h0
  have hm : m < 10000 := by omega
  refine (dec_at m hm w hw).mono fun e w' ⟨he, hb⟩ => ⟨?_, hb⟩
  rw [he, itoa_nat, dec_eq 6 m (by omega) (by omega)]
theorem dec_len : ∀ (k n : Nat), (dec k n).length ≤ k
  | 0, _ => by simp [dec]
  | k + 1, n => by
    unfold dec
    split
    · simp
    · have := dec_len k (n / 10)
      simp only [List.length_append, List.length_cons, List.length_nil]
      omega
theorem len5 (n : Int) (h0 : 0 ≤ n) (h1 : n < 10000) : (Lib.itoa n).length ≤ 5 := by
  obtain ⟨m, rfl⟩ := Int.eq_ofNat_of_zero_le h0
  rw [itoa_nat, ← dec_eq 5 m (by omega) (by omega)]
  exact dec_len 5 m
def goText (r c : Int) : ByteArray := (⟨#[27, 91]⟩ ++ ⟨(Lib.itoa (r + 1)).toArray⟩ ++ ⟨#[59]⟩ ++ ⟨(Lib.itoa (c + 1)).toArray⟩ ++ ⟨#[72]⟩)
set_option maxRecDepth 100000 in
theorem at_walk (r c : Int) (hr0 : 0 ≤ r) (hr : r < 9999) (hc0 : 0 ≤ c) (hc : c < 9999) (w : World) (hw : Tryd.prog.globals.size ≤ w.heap.size) :
    Calls Tryd.prog 13 #[.int .i64 r, .int .i64 c] w fun e w' => e = .returned (.string (goText r c)) ∧ Below w.heap.size w w' := by
  have l1 := len5 (r + 1) (by omega) (by omega)
  have l2 := len5 (c + 1) (by omega) (by omega)
  go_enter Tryd.func13, Tryd.ntmps13
  go_wp2_with (go_at_call 21; refine (dec_all _ _ (by omega) (by omega) (by first | exact hw | exact below_up (by assumption) hw)).mono ?_; rintro e w1 ⟨rfl, hb⟩)
  go_ret
  exact ⟨rfl, below_then (by assumption) (by assumption)⟩
set_option maxRecDepth 100000 in
theorem itoa_walk (n : Int) (w : World) (h0 : 0 ≤ n) (h1 : n < 10000) (ht : Tabbed w) : Calls Tryd.prog 25 #[.int .i64 n] w fun e w' => e = .returned (.string ⟨(Lib.itoa n).toArray⟩) ∧ Below w.heap.size w w' := by
  refine (Tryd.strconv_Itoa n (by omega) (by omega) w (tab_pow ht)).mono ?_
  rintro e w' ⟨rfl, k, os, rfl⟩
  exact ⟨rfl, Lib.below_grow _ w (Nat.le_refl _) k os⟩
def clamp (n : Int) : Int := min (max n 0) 9998
set_option maxRecDepth 100000 in
theorem go_walk (r c : Int) (w : World) (hw : Tabbed w) :
    Calls Tryd.prog 14 #[.int .i64 r, .int .i64 c] w fun e w' => e = .returned (.string (goText (clamp r) (clamp c))) ∧ Below w.heap.size w w' := by
  have l1 := len5 (min (max r 0) 9998 + 1) (by omega) (by omega)
  have l2 := len5 (min (max c 0) 9998 + 1) (by omega) (by omega)
  go_enter Tryd.func14, Tryd.ntmps14
  go_wp2_with (go_at_call 25; refine (itoa_walk _ _ (by omega) (by omega) (by first | exact hw | exact tab_up (by assumption) hw)).mono ?_; rintro e w1 ⟨rfl, hb⟩)
  go_ret
  exact ⟨rfl, below_then (by assumption) (by assumption)⟩
theorem known_walk (w : World) (hw : Tabbed w) : Calls Tryd.prog 6 #[] w fun e w' => e = .returned (.bool true) ∧ Below w.heap.size w w' := by
  have hk := known
  rw [← gsize] at hk
  refine (calls_start (args := []) Tryd.checked.mixed (good_of good) Tryd.func6 rfl hw.1 hw.2 trivial hk).mono fun e w' he => ?_
  obtain ⟨σ', h1, _, h3⟩ := he
  exact ⟨h1, h3⟩
set_option maxRecDepth 100000 in
theorem law_walk (r c : Int) (w : World) (hw : Tabbed w) :
    Calls Tryd.prog 4 #[.int .i64 r, .int .i64 c] w fun e w' => e = .returned (.bool true) ∧ Below w.heap.size w w' := by
  have e1 : min 9998 (max 0 r) = clamp r := by unfold clamp; omega
  have e2 : min 9998 (max 0 c) = clamp c := by unfold clamp; omega
  have r0 : 0 ≤ clamp r ∧ clamp r < 9999 := by unfold clamp; omega
  have c0 : 0 ≤ clamp c ∧ clamp c < 9999 := by unfold clamp; omega
  go_enter Tryd.func4, Tryd.ntmps4
  go_wp2_with (first
    | (go_at_call 14; refine (go_walk _ _ _ hw).mono ?_; rintro e w1 ⟨rfl, hb1⟩)
    | (go_at_call 13; refine (at_walk _ _ r0.1 r0.2 c0.1 c0.2 _ (below_up (by assumption) hw.1)).mono ?_; rintro e w1 ⟨rfl, hb2⟩)
    | (go_at_call 6; refine (known_walk _ (tab_up (below_then (by assumption) (by assumption)) hw)).mono ?_; rintro e w1 ⟨rfl, hb3⟩))
  all_goals go_ret
  all_goals exact ⟨rfl, below_then (below_then (by assumption) (by assumption)) (by assumption)⟩
def kinds : List LaidKind := [.data, .data, .data, .widerDeep, .widerDeep, .data]
theorem rows2 (o : Option Obj) {t : TypeId} (h : (o.bind Obj.row?).map (·.2) = some t) : ∃ zero, o.bind Obj.row? = some (zero, t) := by
  obtain ⟨⟨z, t'⟩, h1, rfl⟩ := Option.map_eq_some_iff.1 h
  exact ⟨z, h1⟩
theorem tabs_met {W : World} (hS : W.ShapedOpen Tryd.prog) (hL : laidMet Tryd.prog Rows.repaintGoesRow.laid W) : Tabbed W := by
  refine ⟨globals_in hS fun g hg => ?_, fun t ht => ?_⟩
  · have : g = 6 := by have := gsize; omega
    subst this
    obtain ⟨z, hz⟩ := rows2 (t := 127) (((begin Tryd.prog (fun _ _ => 0) default).world.heap[6]?)) (by kernel_rfl)
    exact ⟨z, 127, hz⟩
  · simp only [tabs, List.mem_cons, List.not_mem_nil, or_false] at ht
    rcases ht with rfl | rfl | rfl | rfl | rfl | rfl
    · exact tab_met (x := ("math/bits.deBruijn32tab", Rows.laid_math_bits_deBruijn32tab)) (ty := 126) (k := 4) hS hL ⟨by simp [Rows.repaintGoesRow], by kernel_rfl, by rw [gsize]; decide, by kernel_rfl, by kernel_rfl, by kernel_rfl, by decide, by decide, rows2 _ (by kernel_rfl)⟩
    · exact tab_met (x := ("math/bits.deBruijn64tab", Rows.laid_math_bits_deBruijn64tab)) (ty := 127) (k := 4) hS hL ⟨by simp [Rows.repaintGoesRow], by kernel_rfl, by rw [gsize]; decide, by kernel_rfl, by kernel_rfl, by kernel_rfl, by decide, by decide, rows2 _ (by kernel_rfl)⟩
    · exact tab_met (x := ("internal/strconv.uint64pow10", Rows.laid_internal_strconv_uint64pow10)) (ty := 115) (k := 4) hS hL ⟨by simp [Rows.repaintGoesRow], by kernel_rfl, by rw [gsize]; decide, by kernel_rfl, by kernel_rfl, by kernel_rfl, by decide, by decide, rows2 _ (by kernel_rfl)⟩
    · exact tab_met (x := ("scrollback/width.marks", Rows.laid_scrollback_width_marks)) (ty := 111) (k := 4) hS hL ⟨by simp [Rows.repaintGoesRow], by kernel_rfl, by rw [gsize]; decide, by kernel_rfl, by kernel_rfl, by kernel_rfl, by decide, by decide, rows2 _ (by kernel_rfl)⟩
    · exact tab_met (x := ("scrollback/width.wide", Rows.laid_scrollback_width_wide)) (ty := 112) (k := 4) hS hL ⟨by simp [Rows.repaintGoesRow], by kernel_rfl, by rw [gsize]; decide, by kernel_rfl, by kernel_rfl, by kernel_rfl, by decide, by decide, rows2 _ (by kernel_rfl)⟩
    · exact tab_met (x := ("scrollback/style.marks", Rows.laid_scrollback_style_marks)) (ty := 93) (k := 4) hS hL ⟨by simp [Rows.repaintGoesRow], by kernel_rfl, by rw [gsize]; decide, by kernel_rfl, by kernel_rfl, by kernel_rfl, by decide, by decide, rows2 _ (by kernel_rfl)⟩
end Go.Proofs.YtbfoefigmckjeaaDoor

namespace Go.Proofs.YtbfoefigmckjeaaDoor
open Go.RowKit Go.Abs Go.ChangeShapes Go.WideShapes
set_option maxRecDepth 100000
theorem own : ownKnob Tryd.prog.godebug = none := by kernel_rfl
theorem door_met (os : Os) (args : Array Value) : laidMetH Tryd.prog Rows.repaintGoesRow.laid ((World.doorLaid Tryd.prog 84 os).forCall (fun _ _ => 0) ⟨#[], args, []⟩).memory :=
  laidMetH_of_parts3 (fuel := 8) (laidMet_of_run' 8 (by kernel_rfl) (by kernel_rfl)) (by kernel_rfl) (by kernel_rfl)
theorem goes_lifted (os : Os) (started : os.Started) (H : Type) (enc : TypeId × Value → H) :
    ReturnsInHanded {} Tryd.checked os 4 .any (fun w args => (Rows.repaintGoesSpec.pre enc Tryd.prog Tryd.f4 [] false w args ∧ laidMetH Tryd.prog Rows.repaintGoesRow.laid w) ∧ sizedMet enc Tryd.prog Tryd.f4 (OpenSpec.ofChange Rows.repaintGoesSpec) false w args)
      (Rows.repaintGoesSpec.post enc Tryd.prog Tryd.f4 false true false false) := by
  refine law_row (C := Tryd.checked) (laid := Rows.repaintGoesRow.laid) (bt := 4) own started (by kernel_rfl) Tryd.func4 (by kernel_rfl) (by kernel_rfl) rfl (by kernel_rfl) (by kernel_rfl) ?_
    (ChangeSpec.witness_shaped (enc := enc) (C := Tryd.checked) (os := os) (X := fun w _ => laidMetH Tryd.prog Rows.repaintGoesRow.laid w) false (World.doorLaid Tryd.prog 84 os) #[.int .i64 0, .int .i64 0] 8 rfl (World.shaped_of_RefB (by kernel_rfl) (by kernel_rfl)) (by kernel_rfl) (by kernel_rfl) (by kernel_rfl) (door_met os _)) ?_
  · intro ds hd
    rw [Tryd.params4] at hd
    match ds, hd with
    | [d1, d2], _ => rfl
  · intro W base args ds before hval hA _ hS hL
    rw [Tryd.params4] at hA hval
    obtain ⟨v, v', d, d', p, p', rfl, rfl, rfl, h0, h1⟩ := trodAll_two hA
    obtain ⟨r, rfl, rfl, rfl, _⟩ := open_int Tryd.underlying3 (hval 0 3 v rfl rfl) h0
    obtain ⟨c, rfl, rfl, rfl, _⟩ := open_int Tryd.underlying3 (hval 1 3 v' rfl rfl) h1
    rw [MakeChecks.laidMetH_plain _ _ _ (by kernel_rfl)] at hL
    exact law_walk r c W (tabs_met hS hL)
theorem repaintGoes_holds : Rows.RepaintGoesSaid :=
  OpenClaim.holds_of_wide 4 Tryd.f4 rfl rfl rfl rfl rfl rfl rfl ⟨rfl, rfl, rfl, rfl, rfl⟩ rfl rfl rfl rfl rfl (by kernel_rfl) Tryd.func4 (by kernel_rfl)
    (of_decide_eq_true (by kernel_rfl)) (by unfold Func.isWrapper; first | (rw [if_pos (by decide +kernel)]; kernel_rfl) | (rw [if_neg (by decide +kernel)]; exact ⟨rfl, rfl⟩))
    (fun os started H enc _ => goes_lifted os started H enc)
theorem repaintGoes_card_holds : Rows.RepaintGoesCardSaid :=
  Claim7.holds_tied_plain_at .later [] [.data, .data, .data, .widerDeep, .widerDeep, .data] true (true, "8b9ec0d588e0fb8478cb913cecc90c5022701ae039fab7fa814837cd399f752b") false
    repaintGoes_holds (fun _ h => by cases h) (by kernel_rfl) (fun _ h => by cases h) repaintGoes_row_tie rfl ⟨rfl, rfl⟩ (by kernel_rfl) rfl
    (fun f fn hf hfn => by
      obtain rfl : f = 4 := Option.some.inj ((show Tryd.prog.funcNamed "scrollback/scrollbacklaw46.RepaintGoes" = some 4 by kernel_rfl).symm.trans hf) |>.symm
      obtain rfl : fn = Tryd.f4 := (Option.some.inj (Tryd.func4.symm.trans hfn)).symm
      exact ⟨by kernel_rfl, fun j t ht => by
        rw [Tryd.params4] at ht
        have hm : t ∈ [3, 3] := by simpa using Array.mem_of_getElem? ht
        have hall : ([3, 3].all fun u => !Tryd.prog.wantsStandIn u) = true := by kernel_rfl
        exact (show Tryd.prog.wantsStandIn t = false by simpa using List.all_eq_true.1 hall t hm)⟩)
    (by kernel_rfl)
#print axioms repaintGoes_card_holds
end Go.Proofs.YtbfoefigmckjeaaDoor
