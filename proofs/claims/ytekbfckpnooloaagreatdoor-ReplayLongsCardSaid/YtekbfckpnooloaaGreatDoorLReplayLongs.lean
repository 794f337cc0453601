/- scrollback/scrollbacklaw38.ReplayLongs returns true for all arguments, as the statement ReplayLongsCardSaid says; there are no conditions beyond those that the statement itself bears. -/
import Derived.Test.YtekbfckpnooloaaGreatDoorHReplayLongs
import Derived.Test.YtekbfckpnooloaaGreatDoorKeReplayLongs
import Derived.Test.YtekbfckpnooloaaGreatDoorTie
import Derived.Test.YtekbfckpnooloaaGreatDoorCards
import Derived.SevenTiedAt
namespace Go.Proofs.YtekbfckpnooloaaGreatDoor
open Go.RowKit Go.Abs Go.ChangeShapes Go.WideShapes
set_option maxRecDepth 100000
theorem replayLongs_goesBy : false = Rows.replayLongsRow.goesBy Tryz.prog := by
  have h : Tryz.prog.goesAt .entering "scrollback/scrollbacklaw38.ReplayLongs" = false := by
    simp only [Program.goesAt, Program.goesFrom, j_named_ReplayLongs, Option.any_some, j_goes_ReplayLongs, Bool.or_false]
  exact h.symm
theorem replayLongs_card_holds : Rows.ReplayLongsCardSaid :=
  Claim7.holds_tied_plain_at .later [] [.data, .data, .data, .data, .widerDeep, .widerDeep, .widerDeep, .widerDeep, .sentinel, .sentinel, .widerDeep, .widerDeep, .data, .pinned] true (true, "6ab6ce06c4cc154c7c702bf09573a01123b5eebb8e82b52bc6ed797388bc3b34") true
    replayLongs_holds (fun _ h => by cases h) (by kernel_rfl) (fun _ h => by cases h) replayLongs_row_tie rfl ⟨rfl, rfl⟩ (by kernel_rfl) rfl
    (fun f fn hf hfn => by
      obtain rfl : f = 4 := Option.some.inj (j_named_ReplayLongs.symm.trans hf) |>.symm
      obtain rfl : fn = Tryz.f4 := (Option.some.inj (Tryz.func4.symm.trans hfn)).symm
      exact ⟨Eq.trans j_looks_ReplayLongs (by kernel_rfl), fun j t ht => by
        rw [Tryz.params4] at ht
        have hm : t ∈ ([3, 3] : List TypeId) := by simpa using Array.mem_of_getElem? ht
        have hall : (([3, 3] : List TypeId).all fun u => !Tryz.prog.wantsStandIn u) = true := by kernel_rfl
        exact (show Tryz.prog.wantsStandIn t = false by simpa using List.all_eq_true.1 hall t hm)⟩)
    (Eq.trans replayLongs_goesBy (by kernel_rfl))
#print axioms replayLongs_card_holds
end Go.Proofs.YtekbfckpnooloaaGreatDoor
