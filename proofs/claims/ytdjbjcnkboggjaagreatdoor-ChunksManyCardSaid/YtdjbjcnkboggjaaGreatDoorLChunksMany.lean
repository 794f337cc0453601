/- scrollback/scrollbacklaw36.ChunksMany returns true for all arguments, as the statement ChunksManyCardSaid says; there are no conditions beyond those that the statement itself bears. -/
import Derived.Test.YtdjbjcnkboggjaaGreatDoorHChunksMany
import Derived.Test.YtdjbjcnkboggjaaGreatDoorKeChunksMany
import Derived.Test.YtdjbjcnkboggjaaGreatDoorTie
import Derived.Test.YtdjbjcnkboggjaaGreatDoorCards
import Derived.SevenTiedAt
namespace Go.Proofs.YtdjbjcnkboggjaaGreatDoor
open Go.RowKit Go.Abs Go.ChangeShapes Go.WideShapes
set_option maxRecDepth 100000
theorem chunksMany_goesBy : false = Rows.chunksManyRow.goesBy Tryz.prog := by
  have h : Tryz.prog.goesAt .entering "scrollback/scrollbacklaw36.ChunksMany" = false := by
    simp only [Program.goesAt, Program.goesFrom, j_named_ChunksMany, Option.any_some, j_goes_ChunksMany, Bool.or_false]
  exact h.symm
theorem chunksMany_card_holds : Rows.ChunksManyCardSaid :=
  Claim7.holds_tied_plain_at .later [] [.data, .data, .data, .data, .widerDeep, .widerDeep, .widerDeep, .widerDeep, .sentinel, .sentinel, .widerDeep, .widerDeep, .data, .pinned] true (true, "a62998efd378c4e2c3158056634b6580d8ab7ac94dc3f8e83a9caf520adce92c") true
    chunksMany_holds (fun _ h => by cases h) (by kernel_rfl) (fun _ h => by cases h) chunksMany_row_tie rfl ⟨rfl, rfl⟩ (by kernel_rfl) rfl
    (fun f fn hf hfn => by
      obtain rfl : f = 4 := Option.some.inj (j_named_ChunksMany.symm.trans hf) |>.symm
      obtain rfl : fn = Tryz.f4 := (Option.some.inj (Tryz.func4.symm.trans hfn)).symm
      exact ⟨Eq.trans j_looks_ChunksMany (by kernel_rfl), fun j t ht => by
        rw [Tryz.params4] at ht
        have hm : t ∈ ([3] : List TypeId) := by simpa using Array.mem_of_getElem? ht
        have hall : (([3] : List TypeId).all fun u => !Tryz.prog.wantsStandIn u) = true := by kernel_rfl
        exact (show Tryz.prog.wantsStandIn t = false by simpa using List.all_eq_true.1 hall t hm)⟩)
    (Eq.trans chunksMany_goesBy (by kernel_rfl))
#print axioms chunksMany_card_holds
end Go.Proofs.YtdjbjcnkboggjaaGreatDoor
