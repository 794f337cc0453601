/-
  DERIVED. GIVEN WITH THE SEED: THE CARDS: each row of YtmnpegfdphjjmaaGreatDoorRows.lean that lists a variable, with what it lists TIED to the program's text (the seventh form; the later family's looks); each row that meets fmt, with fmt's text TOLD by the authors' own Lean function (tested against real Go, not proved from fmt's source: count such statements apart). THE CARD IS WHAT COUNTS. Prove the row's statement (the work); the ties are given (YtmnpegfdphjjmaaGreatDoorTie.lean); close each card by the builder's one call (the guide's Derived/Test/ToyasCard.lean, 'card_holds'). Laid BY PROGRAM, IN A SANDBOX (cutbox-door.mjs). By AI agents, Wed Nov 11 2026. No macro, syntax, notation, axiom, sorry.
-/
import Derived.Test.YtmnpegfdphjjmaaGreatDoorRows
import GoSem.ClaimSeven
namespace Go.Proofs.YtmnpegfdphjjmaaGreatDoor
namespace Rows

/-- THE TIED CARD OF 'scrollbacklaw35.ModelNone'. -/
def modelNoneCard : Claim7 := { stood := { row := modelNoneRow, standIns := [], harness := (true, "41ebb805efba014f271b9db4a7690c17d3d9ea8ff8e789893930d8ee26f828e7"), looks := true }, kinds := [], alts := [], laidByText := true, laidKinds := [.data, .data, .data, .data, .widerDeep, .widerDeep, .widerDeep, .widerDeep, .sentinel, .sentinel, .widerDeep, .widerDeep, .data, .pinned], laidTests := true, laidLooks := .later }
def ModelNoneCardSaid : Prop := Claim7.holds Tryz.pinned (.plain (OpenSpec.ofChange modelNoneSpec)) modelNoneCard

/-- THE SECOND FORM's CARD OF 'scrollbacklaw35.ModelNone'. -/
def modelNoneUptoCard : Claim7 := { stood := { row := modelNoneUptoRow, standIns := [], harness := (true, "41ebb805efba014f271b9db4a7690c17d3d9ea8ff8e789893930d8ee26f828e7"), looks := true }, kinds := [], alts := [], laidByText := true, laidKinds := [.data, .data, .data, .data, .widerDeep, .widerDeep, .widerDeep, .widerDeep, .sentinel, .sentinel, .widerDeep, .widerDeep, .data, .pinned], laidTests := true, laidLooks := .later }
def ModelNoneUptoCardSaid : Prop := Claim7.holds Tryz.pinned (.plain (OpenSpec.upto modelNoneSpec)) modelNoneUptoCard
end Rows
end Go.Proofs.YtmnpegfdphjjmaaGreatDoor
