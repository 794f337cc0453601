/-
  DERIVED. GIVEN WITH THE SEED: THE CARDS: each row of YtpjbefccblghoaaGreatDoorRows.lean that lists a variable, with what it lists TIED to the program's text (the seventh form; the later family's looks); each row that meets fmt, with fmt's text TOLD by the authors' own Lean function (tested against real Go, not proved from fmt's source: count such statements apart). THE CARD IS WHAT COUNTS. Prove the row's statement (the work); the ties are given (YtpjbefccblghoaaGreatDoorTie.lean); close each card by the builder's one call (the guide's Derived/Test/ToyasCard.lean, 'card_holds'). Laid BY PROGRAM, IN A SANDBOX (cutbox-door.mjs). By AI agents, Wed Nov 11 2026. No macro, syntax, notation, axiom, sorry.
-/
import Derived.Test.YtpjbefccblghoaaGreatDoorRows
import GoSem.ClaimSeven
namespace Go.Proofs.YtpjbefccblghoaaGreatDoor
namespace Rows

/-- THE TIED CARD OF 'scrollbacklaw34.TermNone'. -/
def termNoneCard : Claim7 := { stood := { row := termNoneRow, standIns := [], harness := (true, "e0f71a922cb11e5ed7380d0064981a197fa3c329e3abaf56a0938b84a1903213"), looks := true }, kinds := [], alts := [], laidByText := true, laidKinds := [.data, .data, .data, .data, .widerDeep, .widerDeep, .widerDeep, .widerDeep, .sentinel, .sentinel, .widerDeep, .widerDeep, .data, .pinned], laidTests := true, laidLooks := .later }
def TermNoneCardSaid : Prop := Claim7.holds Tryz.pinned (.plain (OpenSpec.ofChange termNoneSpec)) termNoneCard

/-- THE SECOND FORM's CARD OF 'scrollbacklaw34.TermNone'. -/
def termNoneUptoCard : Claim7 := { stood := { row := termNoneUptoRow, standIns := [], harness := (true, "e0f71a922cb11e5ed7380d0064981a197fa3c329e3abaf56a0938b84a1903213"), looks := true }, kinds := [], alts := [], laidByText := true, laidKinds := [.data, .data, .data, .data, .widerDeep, .widerDeep, .widerDeep, .widerDeep, .sentinel, .sentinel, .widerDeep, .widerDeep, .data, .pinned], laidTests := true, laidLooks := .later }
def TermNoneUptoCardSaid : Prop := Claim7.holds Tryz.pinned (.plain (OpenSpec.upto termNoneSpec)) termNoneUptoCard
end Rows
end Go.Proofs.YtpjbefccblghoaaGreatDoor
