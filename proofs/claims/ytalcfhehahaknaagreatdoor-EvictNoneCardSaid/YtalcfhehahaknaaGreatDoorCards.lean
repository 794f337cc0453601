/-
  DERIVED. GIVEN WITH THE SEED: THE CARDS: each row of YtalcfhehahaknaaGreatDoorRows.lean that lists a variable, with what it lists TIED to the program's text (the seventh form; the later family's looks); each row that meets fmt, with fmt's text TOLD by the authors' own Lean function (tested against real Go, not proved from fmt's source: count such statements apart). THE CARD IS WHAT COUNTS. Prove the row's statement (the work); the ties are given (YtalcfhehahaknaaGreatDoorTie.lean); close each card by the builder's one call (the guide's Derived/Test/ToyasCard.lean, 'card_holds'). Laid BY PROGRAM, IN A SANDBOX (cutbox-door.mjs). By AI agents, Wed Nov 11 2026. No macro, syntax, notation, axiom, sorry.
-/
import Derived.Test.YtalcfhehahaknaaGreatDoorRows
import GoSem.ClaimSeven
namespace Go.Proofs.YtalcfhehahaknaaGreatDoor
namespace Rows

/-- THE TIED CARD OF 'scrollbacklaw37.EvictNone'. -/
def evictNoneCard : Claim7 := { stood := { row := evictNoneRow, standIns := [], harness := (true, "87d2da0211d833dc0a98699cb7bb0f1bf7086a70933968935023901b73dea218"), looks := true }, kinds := [], alts := [], laidByText := true, laidKinds := [.data, .data, .data, .data, .widerDeep, .widerDeep, .widerDeep, .widerDeep, .sentinel, .sentinel, .widerDeep, .widerDeep, .data, .pinned], laidTests := true, laidLooks := .later }
def EvictNoneCardSaid : Prop := Claim7.holds Tryz.pinned (.plain (OpenSpec.ofChange evictNoneSpec)) evictNoneCard

/-- THE SECOND FORM's CARD OF 'scrollbacklaw37.EvictNone'. -/
def evictNoneUptoCard : Claim7 := { stood := { row := evictNoneUptoRow, standIns := [], harness := (true, "87d2da0211d833dc0a98699cb7bb0f1bf7086a70933968935023901b73dea218"), looks := true }, kinds := [], alts := [], laidByText := true, laidKinds := [.data, .data, .data, .data, .widerDeep, .widerDeep, .widerDeep, .widerDeep, .sentinel, .sentinel, .widerDeep, .widerDeep, .data, .pinned], laidTests := true, laidLooks := .later }
def EvictNoneUptoCardSaid : Prop := Claim7.holds Tryz.pinned (.plain (OpenSpec.upto evictNoneSpec)) evictNoneUptoCard
end Rows
end Go.Proofs.YtalcfhehahaknaaGreatDoor
