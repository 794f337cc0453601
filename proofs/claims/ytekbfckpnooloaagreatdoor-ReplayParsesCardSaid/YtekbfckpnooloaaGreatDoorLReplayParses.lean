/- scrollback/scrollbacklaw38.ReplayParses returns true for all arguments, as the statement ReplayParsesCardSaid says; there are no conditions beyond those that the statement itself bears. -/
import Derived.Test.YtekbfckpnooloaaGreatDoorHReplayParses
import Derived.Test.YtekbfckpnooloaaGreatDoorKeReplayParses
import Derived.Test.YtekbfckpnooloaaGreatDoorTie
import Derived.Test.YtekbfckpnooloaaGreatDoorCards
import Derived.SevenTiedAt
namespace Go.Proofs.YtekbfckpnooloaaGreatDoor
open Go.RowKit Go.Abs Go.ChangeShapes Go.WideShapes
set_option maxRecDepth 100000
theorem replayParses_goesBy : false = Rows.replayParsesRow.goesBy Tryz.prog := by
  have h : Tryz.prog.goesAt .entering "scrollback/scrollbacklaw38.ReplayParses" = false := by
    simp only [Program.goesAt, Program.goesFrom, j_named_ReplayParses, Option.any_some, j_goes_ReplayParses, Bool.or_false]
  exact h.symm
theorem replayParses_card_holds : Rows.ReplayParsesCardSaid :=
  Claim7.holds_tied_plain_at .later [] [.data, .data, .data, .data, .widerDeep, .widerDeep, .widerDeep, .widerDeep, .sentinel, .sentinel, .widerDeep, .widerDeep, .data, .pinned] true (true, "6ab6ce06c4cc154c7c702bf09573a01123b5eebb8e82b52bc6ed797388bc3b34") true
    replayParses_holds (fun _ h => by cases h) (by kernel_rfl) (fun _ h => by cases h) replayParses_row_tie rfl ⟨rfl, rfl⟩ (by kernel_rfl) rfl
    (fun f fn hf hfn => by
      obtain rfl : f = 3 := Option.some.inj (j_named_ReplayParses.symm.trans hf) |>.symm
      obtain rfl : fn = Tryz.f3 := (Option.some.inj (Tryz.func3.symm.trans hfn)).symm
      exact ⟨Eq.trans j_looks_ReplayParses (by kernel_rfl), fun j t ht => by
        rw [Tryz.params3] at ht
        have hm : t ∈ ([22] : List TypeId) := by simpa using Array.mem_of_getElem? ht
        have hall : (([22] : List TypeId).all fun u => !Tryz.prog.wantsStandIn u) = true := by kernel_rfl
        exact (show Tryz.prog.wantsStandIn t = false by simpa using List.all_eq_true.1 hall t hm)⟩)
    (Eq.trans replayParses_goesBy (by kernel_rfl))
#print axioms replayParses_card_holds
end Go.Proofs.YtekbfckpnooloaaGreatDoor
