/- scrollback/scrollbacklaw38.ReplayNone returns true for all arguments, as the statement ReplayNoneCardSaid says; there are no conditions beyond those that the statement itself bears. -/
import Derived.Test.YtekbfckpnooloaaGreatDoorHReplayNone
import Derived.Test.YtekbfckpnooloaaGreatDoorKeReplayNone
import Derived.Test.YtekbfckpnooloaaGreatDoorTie
import Derived.Test.YtekbfckpnooloaaGreatDoorCards
import Derived.SevenTiedAt
namespace Go.Proofs.YtekbfckpnooloaaGreatDoor
open Go.RowKit Go.Abs Go.ChangeShapes Go.WideShapes
set_option maxRecDepth 100000
theorem replayNone_goesBy : false = Rows.replayNoneRow.goesBy Tryz.prog := by
  have h : Tryz.prog.goesAt .entering "scrollback/scrollbacklaw38.ReplayNone" = false := by
    simp only [Program.goesAt, Program.goesFrom, j_named_ReplayNone, Option.any_some, j_goes_ReplayNone, Bool.or_false]
  exact h.symm
theorem replayNone_card_holds : Rows.ReplayNoneCardSaid :=
  Claim7.holds_tied_plain_at .later [] [.data, .data, .data, .data, .widerDeep, .widerDeep, .widerDeep, .widerDeep, .sentinel, .sentinel, .widerDeep, .widerDeep, .data, .pinned] true (true, "6ab6ce06c4cc154c7c702bf09573a01123b5eebb8e82b52bc6ed797388bc3b34") true
    replayNone_holds (fun _ h => by cases h) (by kernel_rfl) (fun _ h => by cases h) replayNone_row_tie rfl ⟨rfl, rfl⟩ (by kernel_rfl) rfl
    (fun f fn hf hfn => by
      obtain rfl : f = 5 := Option.some.inj (j_named_ReplayNone.symm.trans hf) |>.symm
      obtain rfl : fn = Tryz.f5 := (Option.some.inj (Tryz.func5.symm.trans hfn)).symm
      exact ⟨Eq.trans j_looks_ReplayNone (by kernel_rfl), fun j t ht => by
        rw [Tryz.params5] at ht
        have hm : t ∈ ([26] : List TypeId) := by simpa using Array.mem_of_getElem? ht
        have hall : (([26] : List TypeId).all fun u => !Tryz.prog.wantsStandIn u) = true := by kernel_rfl
        exact (show Tryz.prog.wantsStandIn t = false by simpa using List.all_eq_true.1 hall t hm)⟩)
    (Eq.trans replayNone_goesBy (by kernel_rfl))
#print axioms replayNone_card_holds
end Go.Proofs.YtekbfckpnooloaaGreatDoor
