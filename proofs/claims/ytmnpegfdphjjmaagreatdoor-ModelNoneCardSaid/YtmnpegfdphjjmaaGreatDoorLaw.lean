/- ModelNone returns true for any numbers, and changes no memory that was there. The listed package variables are as the text of the program lays them; one table of the library is pinned by the form (the tied card). -/
import Derived.Test.YtmnpegfdphjjmaaGreatDoorTabs
import Derived.Test.YtmnpegfdphjjmaaGreatDoorTie
import Derived.Test.YtmnpegfdphjjmaaGreatDoorCards
import Derived.SevenTiedAt
namespace Go.Proofs.YtmnpegfdphjjmaaGreatDoor
open Go.RowKit Go.Abs Go.ChangeShapes Go.WideShapes
set_option maxRecDepth 100000
/-- The run, whatever the numbers. -/
theorem run_ModelNone (n0 n1 : Int) : (fcall Tryz.prog okMask 60 3 [.int .i64 n0, .int .i64 n1] (Abs.start 15 tabs)).val = some (.bool true) := by kernel_rfl
theorem walk_ModelNone (n0 n1 : Int) (w : World) (hw : Tabbed w) : Calls Tryz.prog 3 #[.int .i64 n0, .int .i64 n1] w fun e w' => e = .returned (.bool true) ∧ Below w.heap.size w w' := by
  have hk := run_ModelNone n0 n1
  rw [← gsize] at hk
  refine (calls_fast (args := [.int .i64 n0, .int .i64 n1]) Tryz.checked.mixed (good_of good) Tryz.func3 rfl hw.1 hw.2 ⟨trivial, trivial, trivial⟩ hk).mono fun e w' he => ?_
  obtain ⟨σ', h1, _, h3⟩ := he
  exact ⟨h1, h3⟩
theorem modelNone_lifted (os : Os) (started : os.Started) (H : Type) (enc : TypeId × Value → H) :
    ReturnsInHanded {} Tryz.checked os 3 .any (fun w args => (Rows.modelNoneSpec.pre enc Tryz.prog Tryz.f3 [] false w args ∧ laidMetH Tryz.prog Rows.modelNoneRow.laid w) ∧ sizedMet enc Tryz.prog Tryz.f3 (OpenSpec.ofChange Rows.modelNoneSpec) false w args)
      (Rows.modelNoneSpec.post enc Tryz.prog Tryz.f3 false true false false) := by
  refine law_row (C := Tryz.checked) (laid := Rows.modelNoneRow.laid) (bt := 4) own started (by kernel_rfl) Tryz.func3 (by kernel_rfl) (by kernel_rfl) rfl (by kernel_rfl) (by kernel_rfl) ?_
    (ChangeSpec.witness_shaped (enc := enc) (C := Tryz.checked) (os := os) (X := fun w _ => laidMetH Tryz.prog Rows.modelNoneRow.laid w) false (startWorld os) #[.int .i64 0, .int .i64 0] 8 rfl (World.shaped_of_RefB (by kernel_rfl) (by kernel_rfl)) (by kernel_rfl) (by kernel_rfl) (by kernel_rfl) (door_met os _)) ?_
  · intro ds hd
    rw [Tryz.params3] at hd
    match ds, hd with
    | [d0, d1], _ => rfl
  · intro W base args ds before hval hA _ hS hL
    rw [Tryz.params3] at hA hval
    rw [MakeChecks.laidMetH_plain _ _ _ (by kernel_rfl)] at hL
    obtain ⟨v, v', d, d', p, p', rfl, rfl, rfl, h0, h1⟩ := trodAll_two hA
    obtain ⟨r, rfl, rfl, rfl, _⟩ := open_int Tryz.underlying3 (hval 0 3 v rfl rfl) h0
    obtain ⟨c, rfl, rfl, rfl, _⟩ := open_int Tryz.underlying3 (hval 1 3 v' rfl rfl) h1
    exact walk_ModelNone r c W (tabs_met hS hL)
theorem modelNone_holds : Rows.ModelNoneSaid :=
  OpenClaim.holds_of_wide 3 Tryz.f3 rfl rfl rfl rfl rfl rfl rfl ⟨rfl, rfl, rfl, rfl, rfl⟩ rfl rfl rfl rfl rfl (by kernel_rfl) Tryz.func3 (by kernel_rfl)
    (of_decide_eq_true (by kernel_rfl)) (by unfold Func.isWrapper; first | (rw [if_pos (by decide +kernel)]; kernel_rfl) | (rw [if_neg (by decide +kernel)]; exact ⟨rfl, rfl⟩))
    (fun os started H enc _ => modelNone_lifted os started H enc)
theorem modelNone_card_holds : Rows.ModelNoneCardSaid :=
  Claim7.holds_tied_plain_at .later [] [.data, .data, .data, .data, .widerDeep, .widerDeep, .widerDeep, .widerDeep, .sentinel, .sentinel, .widerDeep, .widerDeep, .data, .pinned] true (true, "41ebb805efba014f271b9db4a7690c17d3d9ea8ff8e789893930d8ee26f828e7") true
    modelNone_holds (fun _ h => by cases h) (by kernel_rfl) (fun _ h => by cases h) modelNone_row_tie rfl ⟨rfl, rfl⟩ (by kernel_rfl) rfl
    (fun f fn hf hfn => by
      obtain rfl : f = 3 := Option.some.inj ((show Tryz.prog.funcNamed "scrollback/scrollbacklaw35.ModelNone" = some 3 by kernel_rfl).symm.trans hf) |>.symm
      obtain rfl : fn = Tryz.f3 := (Option.some.inj (Tryz.func3.symm.trans hfn)).symm
      exact ⟨by kernel_rfl, fun j t ht => by
        rw [Tryz.params3] at ht
        have hm : t ∈ [3, 3] := by simpa using Array.mem_of_getElem? ht
        have hall : ([3, 3].all fun u => !Tryz.prog.wantsStandIn u) = true := by kernel_rfl
        exact (show Tryz.prog.wantsStandIn t = false by simpa using List.all_eq_true.1 hall t hm)⟩)
    (by kernel_rfl)
#print axioms modelNone_card_holds
end Go.Proofs.YtmnpegfdphjjmaaGreatDoor
