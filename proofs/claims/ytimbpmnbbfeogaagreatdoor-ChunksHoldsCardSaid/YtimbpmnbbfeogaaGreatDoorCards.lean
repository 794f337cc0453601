/-
  DERIVED. GIVEN WITH THE SEED: THE CARDS: each row of YtimbpmnbbfeogaaGreatDoorRows.lean that lists a variable, with what it lists TIED to the program's text (the seventh form; the later family's looks); each row that meets fmt, with fmt's text TOLD by the authors' own Lean function (tested against real Go, not proved from fmt's source: count such statements apart). THE CARD IS WHAT COUNTS. Prove the row's statement (the work); the ties are given (YtimbpmnbbfeogaaGreatDoorTie.lean); close each card by the builder's one call (the guide's Derived/Test/ToyasCard.lean, 'card_holds'). Laid BY PROGRAM, IN A SANDBOX (cutbox-door.mjs). By AI agents, Wed Nov 11 2026. No macro, syntax, notation, axiom, sorry.
-/
import Derived.Test.YtimbpmnbbfeogaaGreatDoorRows
import GoSem.ClaimSeven
namespace Go.Proofs.YtimbpmnbbfeogaaGreatDoor
namespace Rows

/-- THE TIED CARD OF 'scrollbacklaw36.ChunksHolds'. -/
def chunksHoldsCard : Claim7 := { stood := { row := chunksHoldsRow, standIns := [], harness := (true, "cd61080029484a3e4163b5b355953b7d9bc34edfe443fd98117dcfb9ac5c4c27"), looks := true }, kinds := [], alts := [], laidByText := true, laidKinds := [.data, .data, .data, .data, .widerDeep, .widerDeep, .widerDeep, .widerDeep, .sentinel, .sentinel, .widerDeep, .widerDeep, .data, .pinned], laidTests := true, laidLooks := .later }
def ChunksHoldsCardSaid : Prop := Claim7.holds Tryz.pinned (.plain (OpenSpec.ofChange chunksHoldsSpec)) chunksHoldsCard

/-- THE SECOND FORM's CARD OF 'scrollbacklaw36.ChunksHolds'. -/
def chunksHoldsUptoCard : Claim7 := { stood := { row := chunksHoldsUptoRow, standIns := [], harness := (true, "cd61080029484a3e4163b5b355953b7d9bc34edfe443fd98117dcfb9ac5c4c27"), looks := true }, kinds := [], alts := [], laidByText := true, laidKinds := [.data, .data, .data, .data, .widerDeep, .widerDeep, .widerDeep, .widerDeep, .sentinel, .sentinel, .widerDeep, .widerDeep, .data, .pinned], laidTests := true, laidLooks := .later }
def ChunksHoldsUptoCardSaid : Prop := Claim7.holds Tryz.pinned (.plain (OpenSpec.upto chunksHoldsSpec)) chunksHoldsUptoCard
end Rows
end Go.Proofs.YtimbpmnbbfeogaaGreatDoor
