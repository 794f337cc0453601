/-
  DERIVED. GIVEN WITH THE SEED: THE CARDS: each row of YtjohgmnabemakaaGreatDoorRows.lean that lists a variable, with what it lists TIED to the program's text (the seventh form; the later family's looks); each row that meets fmt, with fmt's text TOLD by the authors' own Lean function (tested against real Go, not proved from fmt's source: count such statements apart). THE CARD IS WHAT COUNTS. Prove the row's statement (the work); the ties are given (YtjohgmnabemakaaGreatDoorTie.lean); close each card by the builder's one call (the guide's Derived/Test/ToyasCard.lean, 'card_holds'). Laid BY PROGRAM, IN A SANDBOX (cutbox-door.mjs). By AI agents, Wed Nov 11 2026. No macro, syntax, notation, axiom, sorry.
-/
import Derived.Test.YtjohgmnabemakaaGreatDoorRows
import GoSem.ClaimSeven
namespace Go.Proofs.YtjohgmnabemakaaGreatDoor
namespace Rows

/-- THE TIED CARD OF 'scrollbacklaw47.RecordEdits'. -/
def recordEditsCard : Claim7 := { stood := { row := recordEditsRow, standIns := [], harness := (true, "ab1601b7f7511d0a3d76c910964d6509b7c452e68ea3f464702d1fa1af42ac11"), looks := true }, kinds := [], alts := [], laidByText := true, laidKinds := [.data, .data, .data, .data, .widerDeep, .widerDeep, .widerDeep, .widerDeep, .sentinel, .sentinel, .widerDeep, .widerDeep, .data, .pinned], laidTests := true, laidLooks := .later }
def RecordEditsCardSaid : Prop := Claim7.holds Tryz.pinned (.plain (OpenSpec.ofChange recordEditsSpec)) recordEditsCard

/-- THE SECOND FORM's CARD OF 'scrollbacklaw47.RecordEdits'. -/
def recordEditsUptoCard : Claim7 := { stood := { row := recordEditsUptoRow, standIns := [], harness := (true, "ab1601b7f7511d0a3d76c910964d6509b7c452e68ea3f464702d1fa1af42ac11"), looks := true }, kinds := [], alts := [], laidByText := true, laidKinds := [.data, .data, .data, .data, .widerDeep, .widerDeep, .widerDeep, .widerDeep, .sentinel, .sentinel, .widerDeep, .widerDeep, .data, .pinned], laidTests := true, laidLooks := .later }
def RecordEditsUptoCardSaid : Prop := Claim7.holds Tryz.pinned (.plain (OpenSpec.upto recordEditsSpec)) recordEditsUptoCard
end Rows
end Go.Proofs.YtjohgmnabemakaaGreatDoor
