/-
  DERIVED. GIVEN WITH THE SEED: THE CARDS: each row of YtjhhiindeignaaaGreatDoorRows.lean that lists a variable, with what it lists TIED to the program's text (the seventh form; the later family's looks); each row that meets fmt, with fmt's text TOLD by the authors' own Lean function (tested against real Go, not proved from fmt's source: count such statements apart). THE CARD IS WHAT COUNTS. Prove the row's statement (the work); the ties are given (YtjhhiindeignaaaGreatDoorTie.lean); close each card by the builder's one call (the guide's Derived/Test/ToyasCard.lean, 'card_holds'). Laid BY PROGRAM, IN A SANDBOX (cutbox-door.mjs). By AI agents, Wed Nov 11 2026. No macro, syntax, notation, axiom, sorry.
-/
import Derived.Test.YtjhhiindeignaaaGreatDoorRows
import GoSem.ClaimSeven
namespace Go.Proofs.YtjhhiindeignaaaGreatDoor
namespace Rows

/-- THE TIED CARD OF 'scrollbacklaw37.EvictCounts'. -/
def evictCountsCard : Claim7 := { stood := { row := evictCountsRow, standIns := [], harness := (true, "ba2d2d1d5804bd155db2fd5b565c1f745ae7c4b9d9e4b721025df29915a09156"), looks := true }, kinds := [], alts := [], laidByText := true, laidKinds := [.data, .data, .data, .data, .widerDeep, .widerDeep, .widerDeep, .widerDeep, .sentinel, .sentinel, .widerDeep, .widerDeep, .data, .pinned], laidTests := true, laidLooks := .later }
def EvictCountsCardSaid : Prop := Claim7.holds Tryz.pinned (.plain (OpenSpec.ofChange evictCountsSpec)) evictCountsCard

/-- THE SECOND FORM's CARD OF 'scrollbacklaw37.EvictCounts'. -/
def evictCountsUptoCard : Claim7 := { stood := { row := evictCountsUptoRow, standIns := [], harness := (true, "ba2d2d1d5804bd155db2fd5b565c1f745ae7c4b9d9e4b721025df29915a09156"), looks := true }, kinds := [], alts := [], laidByText := true, laidKinds := [.data, .data, .data, .data, .widerDeep, .widerDeep, .widerDeep, .widerDeep, .sentinel, .sentinel, .widerDeep, .widerDeep, .data, .pinned], laidTests := true, laidLooks := .later }
def EvictCountsUptoCardSaid : Prop := Claim7.holds Tryz.pinned (.plain (OpenSpec.upto evictCountsSpec)) evictCountsUptoCard
end Rows
end Go.Proofs.YtjhhiindeignaaaGreatDoor
