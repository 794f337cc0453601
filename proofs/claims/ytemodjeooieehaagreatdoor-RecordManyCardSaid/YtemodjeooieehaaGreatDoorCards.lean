/-
  DERIVED. GIVEN WITH THE SEED: THE CARDS: each row of YtemodjeooieehaaGreatDoorRows.lean that lists a variable, with what it lists TIED to the program's text (the seventh form; the later family's looks); each row that meets fmt, with fmt's text TOLD by the authors' own Lean function (tested against real Go, not proved from fmt's source: count such statements apart). THE CARD IS WHAT COUNTS. Prove the row's statement (the work); the ties are given (YtemodjeooieehaaGreatDoorTie.lean); close each card by the builder's one call (the guide's Derived/Test/ToyasCard.lean, 'card_holds'). Laid BY PROGRAM, IN A SANDBOX (cutbox-door.mjs). By AI agents, Wed Nov 11 2026. No macro, syntax, notation, axiom, sorry.
-/
import Derived.Test.YtemodjeooieehaaGreatDoorRows
import GoSem.ClaimSeven
namespace Go.Proofs.YtemodjeooieehaaGreatDoor
namespace Rows

/-- THE TIED CARD OF 'scrollbacklaw47.RecordMany'. -/
def recordManyCard : Claim7 := { stood := { row := recordManyRow, standIns := [], harness := (true, "035a0789158de95dedb66008ba3982eb60691df373a1d615606ef58db4a794c5"), looks := true }, kinds := [], alts := [], laidByText := true, laidKinds := [.data, .data, .data, .data, .widerDeep, .widerDeep, .widerDeep, .widerDeep, .sentinel, .sentinel, .widerDeep, .widerDeep, .data, .pinned], laidTests := true, laidLooks := .later }
def RecordManyCardSaid : Prop := Claim7.holds Tryz.pinned (.plain (OpenSpec.ofChange recordManySpec)) recordManyCard

/-- THE SECOND FORM's CARD OF 'scrollbacklaw47.RecordMany'. -/
def recordManyUptoCard : Claim7 := { stood := { row := recordManyUptoRow, standIns := [], harness := (true, "035a0789158de95dedb66008ba3982eb60691df373a1d615606ef58db4a794c5"), looks := true }, kinds := [], alts := [], laidByText := true, laidKinds := [.data, .data, .data, .data, .widerDeep, .widerDeep, .widerDeep, .widerDeep, .sentinel, .sentinel, .widerDeep, .widerDeep, .data, .pinned], laidTests := true, laidLooks := .later }
def RecordManyUptoCardSaid : Prop := Claim7.holds Tryz.pinned (.plain (OpenSpec.upto recordManySpec)) recordManyUptoCard
end Rows
end Go.Proofs.YtemodjeooieehaaGreatDoor
