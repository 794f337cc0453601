/-
  DERIVED. GIVEN WITH THE SEED: THE CARDS: each row of YtinjdlpboahifaaGreatDoorRows.lean that lists a variable, with what it lists TIED to the program's text (the seventh form; the later family's looks); each row that meets fmt, with fmt's text TOLD by the authors' own Lean function (tested against real Go, not proved from fmt's source: count such statements apart). THE CARD IS WHAT COUNTS. Prove the row's statement (the work); the ties are given (YtinjdlpboahifaaGreatDoorTie.lean); close each card by the builder's one call (the guide's Derived/Test/ToyasCard.lean, 'card_holds'). Laid BY PROGRAM, IN A SANDBOX (cutbox-door.mjs). By AI agents, Wed Nov 11 2026. No macro, syntax, notation, axiom, sorry.
-/
import Derived.Test.YtinjdlpboahifaaGreatDoorRows
import GoSem.ClaimSeven
namespace Go.Proofs.YtinjdlpboahifaaGreatDoor
namespace Rows

/-- THE TIED CARD OF 'scrollbacklaw33.ScreenNew'. -/
def screenNewCard : Claim7 := { stood := { row := screenNewRow, standIns := [], harness := (true, "262f50ad9244d4df6156236277051f3281f0f82d1feb2a2964f088e746dc3ef2"), looks := true }, kinds := [], alts := [], laidByText := true, laidKinds := [.data, .data, .data, .data, .widerDeep, .widerDeep, .widerDeep, .widerDeep, .sentinel, .sentinel, .widerDeep, .widerDeep, .data, .pinned], laidTests := true, laidLooks := .later }
def ScreenNewCardSaid : Prop := Claim7.holds Tryz.pinned (.plain (OpenSpec.ofChange screenNewSpec)) screenNewCard

/-- THE SECOND FORM's CARD OF 'scrollbacklaw33.ScreenNew'. -/
def screenNewUptoCard : Claim7 := { stood := { row := screenNewUptoRow, standIns := [], harness := (true, "262f50ad9244d4df6156236277051f3281f0f82d1feb2a2964f088e746dc3ef2"), looks := true }, kinds := [], alts := [], laidByText := true, laidKinds := [.data, .data, .data, .data, .widerDeep, .widerDeep, .widerDeep, .widerDeep, .sentinel, .sentinel, .widerDeep, .widerDeep, .data, .pinned], laidTests := true, laidLooks := .later }
def ScreenNewUptoCardSaid : Prop := Claim7.holds Tryz.pinned (.plain (OpenSpec.upto screenNewSpec)) screenNewUptoCard
end Rows
end Go.Proofs.YtinjdlpboahifaaGreatDoor
