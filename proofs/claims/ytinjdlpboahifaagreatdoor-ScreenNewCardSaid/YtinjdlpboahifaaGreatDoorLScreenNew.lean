/- scrollbacklaw33.ScreenNew returns true for all arguments, as the statement ScreenNewCardSaid says; there are no conditions beyond those that the statement itself bears. -/
import Derived.Test.YtinjdlpboahifaaGreatDoorHScreenNew
import Derived.Test.YtinjdlpboahifaaGreatDoorKeScreenNew
import Derived.Test.YtinjdlpboahifaaGreatDoorTie
import Derived.Test.YtinjdlpboahifaaGreatDoorCards
import Derived.SevenTiedAt
namespace Go.Proofs.YtinjdlpboahifaaGreatDoor
open Go.RowKit Go.Abs Go.ChangeShapes Go.WideShapes
set_option maxRecDepth 100000
theorem screenNew_goesBy : false = Rows.screenNewRow.goesBy Tryz.prog := by
  have h : Tryz.prog.goesAt .entering "scrollback/scrollbacklaw33.ScreenNew" = false := by
    simp only [Program.goesAt, Program.goesFrom, j_named_ScreenNew, Option.any_some, j_goes_ScreenNew, Bool.or_false]
  exact h.symm
theorem screenNew_card_holds : Rows.ScreenNewCardSaid :=
  Claim7.holds_tied_plain_at .later [] [.data, .data, .data, .data, .widerDeep, .widerDeep, .widerDeep, .widerDeep, .sentinel, .sentinel, .widerDeep, .widerDeep, .data, .pinned] true (true, "262f50ad9244d4df6156236277051f3281f0f82d1feb2a2964f088e746dc3ef2") true
    screenNew_holds (fun _ h => by cases h) (by kernel_rfl) (fun _ h => by cases h) screenNew_row_tie rfl ⟨rfl, rfl⟩ (by kernel_rfl) rfl
    (fun f fn hf hfn => by
      obtain rfl : f = 3 := Option.some.inj (j_named_ScreenNew.symm.trans hf) |>.symm
      obtain rfl : fn = Tryz.f3 := (Option.some.inj (Tryz.func3.symm.trans hfn)).symm
      exact ⟨Eq.trans j_looks_ScreenNew (by kernel_rfl), fun j t ht => by
        rw [Tryz.params3] at ht
        have hm : t ∈ ([23] : List TypeId) := by simpa using Array.mem_of_getElem? ht
        have hall : (([23] : List TypeId).all fun u => !Tryz.prog.wantsStandIn u) = true := by kernel_rfl
        exact (show Tryz.prog.wantsStandIn t = false by simpa using List.all_eq_true.1 hall t hm)⟩)
    (Eq.trans screenNew_goesBy (by kernel_rfl))
#print axioms screenNew_card_holds
end Go.Proofs.YtinjdlpboahifaaGreatDoor
