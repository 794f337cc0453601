/-
  DERIVED. GIVEN WITH THE SEED: THE CARDS: each row of YtbnnnmohggladabGreatDoorRows.lean that lists a variable, with what it lists TIED to the program's text (the seventh form; the later family's looks); each row that meets fmt, with fmt's text TOLD by the authors' own Lean function (tested against real Go, not proved from fmt's source: count such statements apart). THE CARD IS WHAT COUNTS. Prove the row's statement (the work); the ties are given (YtbnnnmohggladabGreatDoorTie.lean); close each card by the builder's one call (the guide's Derived/Test/ToyasCard.lean, 'card_holds'). Laid BY PROGRAM, IN A SANDBOX (cutbox-door.mjs). By AI agents, Wed Nov 11 2026. No macro, syntax, notation, axiom, sorry.
-/
import Derived.Test.YtbnnnmohggladabGreatDoorRows
import GoSem.ClaimSeven
namespace Go.Proofs.YtbnnnmohggladabGreatDoor
namespace Rows

/-- THE TIED CARD OF 'scrollbacklaw34.TermNew'. -/
def termNewCard : Claim7 := { stood := { row := termNewRow, standIns := [], harness := (true, "f338e4c9a88f3054f9457d75bccd6bfda206168c663cd3b7c31c880b249218d4"), looks := true }, kinds := [], alts := [], laidByText := true, laidKinds := [.data, .data, .data, .data, .widerDeep, .widerDeep, .widerDeep, .widerDeep, .sentinel, .sentinel, .widerDeep, .widerDeep, .data, .pinned], laidTests := true, laidLooks := .later }
def TermNewCardSaid : Prop := Claim7.holds Tryz.pinned (.plain (OpenSpec.ofChange termNewSpec)) termNewCard

/-- THE SECOND FORM's CARD OF 'scrollbacklaw34.TermNew'. -/
def termNewUptoCard : Claim7 := { stood := { row := termNewUptoRow, standIns := [], harness := (true, "f338e4c9a88f3054f9457d75bccd6bfda206168c663cd3b7c31c880b249218d4"), looks := true }, kinds := [], alts := [], laidByText := true, laidKinds := [.data, .data, .data, .data, .widerDeep, .widerDeep, .widerDeep, .widerDeep, .sentinel, .sentinel, .widerDeep, .widerDeep, .data, .pinned], laidTests := true, laidLooks := .later }
def TermNewUptoCardSaid : Prop := Claim7.holds Tryz.pinned (.plain (OpenSpec.upto termNewSpec)) termNewUptoCard
end Rows
end Go.Proofs.YtbnnnmohggladabGreatDoor
