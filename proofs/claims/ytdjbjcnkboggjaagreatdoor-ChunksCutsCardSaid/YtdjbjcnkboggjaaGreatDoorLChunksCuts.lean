/- scrollback/scrollbacklaw36.ChunksCuts returns true for all arguments, as the statement ChunksCutsCardSaid says; there are no conditions beyond those that the statement itself bears. -/
import Derived.Test.YtdjbjcnkboggjaaGreatDoorHChunksCuts
import Derived.Test.YtdjbjcnkboggjaaGreatDoorKeChunksCuts
import Derived.Test.YtdjbjcnkboggjaaGreatDoorTie
import Derived.Test.YtdjbjcnkboggjaaGreatDoorCards
import Derived.SevenTiedAt
namespace Go.Proofs.YtdjbjcnkboggjaaGreatDoor
open Go.RowKit Go.Abs Go.ChangeShapes Go.WideShapes
set_option maxRecDepth 100000
theorem chunksCuts_goesBy : false = Rows.chunksCutsRow.goesBy Tryz.prog := by
  have h : Tryz.prog.goesAt .entering "scrollback/scrollbacklaw36.ChunksCuts" = false := by
    simp only [Program.goesAt, Program.goesFrom, j_named_ChunksCuts, Option.any_some, j_goes_ChunksCuts, Bool.or_false]
  exact h.symm
theorem chunksCuts_card_holds : Rows.ChunksCutsCardSaid :=
  Claim7.holds_tied_plain_at .later [] [.data, .data, .data, .data, .widerDeep, .widerDeep, .widerDeep, .widerDeep, .sentinel, .sentinel, .widerDeep, .widerDeep, .data, .pinned] true (true, "a62998efd378c4e2c3158056634b6580d8ab7ac94dc3f8e83a9caf520adce92c") true
    chunksCuts_holds (fun _ h => by cases h) (by kernel_rfl) (fun _ h => by cases h) chunksCuts_row_tie rfl ⟨rfl, rfl⟩ (by kernel_rfl) rfl
    (fun f fn hf hfn => by
      obtain rfl : f = 3 := Option.some.inj (j_named_ChunksCuts.symm.trans hf) |>.symm
      obtain rfl : fn = Tryz.f3 := (Option.some.inj (Tryz.func3.symm.trans hfn)).symm
      exact ⟨Eq.trans j_looks_ChunksCuts (by kernel_rfl), fun j t ht => by
        rw [Tryz.params3] at ht
        have hm : t ∈ ([22, 22] : List TypeId) := by simpa using Array.mem_of_getElem? ht
        have hall : (([22, 22] : List TypeId).all fun u => !Tryz.prog.wantsStandIn u) = true := by kernel_rfl
        exact (show Tryz.prog.wantsStandIn t = false by simpa using List.all_eq_true.1 hall t hm)⟩)
    (Eq.trans chunksCuts_goesBy (by kernel_rfl))
#print axioms chunksCuts_card_holds
end Go.Proofs.YtdjbjcnkboggjaaGreatDoor
