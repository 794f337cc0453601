/- scrollbacklaw47.RecordEdits returns true for all arguments, as the statement RecordEditsCardSaid says; there are no conditions beyond those that the statement itself bears. -/
import Derived.Test.YtjohgmnabemakaaGreatDoorHRecordEdits
import Derived.Test.YtjohgmnabemakaaGreatDoorKeRecordEdits
import Derived.Test.YtjohgmnabemakaaGreatDoorTie
import Derived.Test.YtjohgmnabemakaaGreatDoorCards
import Derived.SevenTiedAt
namespace Go.Proofs.YtjohgmnabemakaaGreatDoor
open Go.RowKit Go.Abs Go.ChangeShapes Go.WideShapes
set_option maxRecDepth 100000
theorem recordEdits_goesBy : false = Rows.recordEditsRow.goesBy Tryz.prog := by
  have h : Tryz.prog.goesAt .entering "scrollback/scrollbacklaw47.RecordEdits" = false := by
    simp only [Program.goesAt, Program.goesFrom, j_named_RecordEdits, Option.any_some, j_goes_RecordEdits, Bool.or_false]
  exact h.symm
theorem recordEdits_card_holds : Rows.RecordEditsCardSaid :=
  Claim7.holds_tied_plain_at .later [] [.data, .data, .data, .data, .widerDeep, .widerDeep, .widerDeep, .widerDeep, .sentinel, .sentinel, .widerDeep, .widerDeep, .data, .pinned] true (true, "ab1601b7f7511d0a3d76c910964d6509b7c452e68ea3f464702d1fa1af42ac11") true
    recordEdits_holds (fun _ h => by cases h) (by kernel_rfl) (fun _ h => by cases h) recordEdits_row_tie rfl ⟨rfl, rfl⟩ (by kernel_rfl) rfl
    (fun f fn hf hfn => by
      obtain rfl : f = 3 := Option.some.inj (j_named_RecordEdits.symm.trans hf) |>.symm
      obtain rfl : fn = Tryz.f3 := (Option.some.inj (Tryz.func3.symm.trans hfn)).symm
      exact ⟨Eq.trans j_looks_RecordEdits (by kernel_rfl), fun j t ht => by
        rw [Tryz.params3] at ht
        have hm : t ∈ ([26, 3, 3, 3, 3] : List TypeId) := by simpa using Array.mem_of_getElem? ht
        have hall : (([26, 3, 3, 3, 3] : List TypeId).all fun u => !Tryz.prog.wantsStandIn u) = true := by kernel_rfl
        exact (show Tryz.prog.wantsStandIn t = false by simpa using List.all_eq_true.1 hall t hm)⟩)
    (Eq.trans recordEdits_goesBy (by kernel_rfl))
#print axioms recordEdits_card_holds
end Go.Proofs.YtjohgmnabemakaaGreatDoor
