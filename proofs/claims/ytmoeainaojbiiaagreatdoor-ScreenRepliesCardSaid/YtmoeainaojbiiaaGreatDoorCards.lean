/-
  DERIVED. GIVEN WITH THE SEED: THE CARDS: each row of YtmoeainaojbiiaaGreatDoorRows.lean that lists a variable, with what it lists TIED to the program's text (the seventh form; the later family's looks); each row that meets fmt, with fmt's text TOLD by the authors' own Lean function (tested against real Go, not proved from fmt's source: count such statements apart). THE CARD IS WHAT COUNTS. Prove the row's statement (the work); the ties are given (YtmoeainaojbiiaaGreatDoorTie.lean); close each card by the builder's one call (the guide's Derived/Test/ToyasCard.lean, 'card_holds'). Laid BY PROGRAM, IN A SANDBOX (cutbox-door.mjs). By AI agents, Wed Nov 11 2026. No macro, syntax, notation, axiom, sorry.
-/
import Derived.Test.YtmoeainaojbiiaaGreatDoorRows
import GoSem.ClaimSeven
namespace Go.Proofs.YtmoeainaojbiiaaGreatDoor
namespace Rows

/-- THE TIED CARD OF 'scrollbacklaw33.ScreenReplies'. -/
def screenRepliesCard : Claim7 := { stood := { row := screenRepliesRow, standIns := [], harness := (true, "07a61348050ac19c27bd4fd55839f64e3202878f1e9ce09aeb020d27a3a00670"), looks := true }, kinds := [], alts := [], laidByText := true, laidKinds := [.data, .data, .data, .data, .widerDeep, .widerDeep, .widerDeep, .widerDeep, .sentinel, .sentinel, .widerDeep, .widerDeep, .data, .pinned], laidTests := true, laidLooks := .later }
def ScreenRepliesCardSaid : Prop := Claim7.holds Tryz.pinned (.plain (OpenSpec.ofChange screenRepliesSpec)) screenRepliesCard

/-- THE TIED CARD OF 'scrollbacklaw33.ScreenNone'. -/
def screenNoneCard : Claim7 := { stood := { row := screenNoneRow, standIns := [], harness := (true, "07a61348050ac19c27bd4fd55839f64e3202878f1e9ce09aeb020d27a3a00670"), looks := true }, kinds := [], alts := [], laidByText := true, laidKinds := [.data, .data, .data, .data, .widerDeep, .widerDeep, .widerDeep, .widerDeep, .sentinel, .sentinel, .widerDeep, .widerDeep, .data, .pinned], laidTests := true, laidLooks := .later }
def ScreenNoneCardSaid : Prop := Claim7.holds Tryz.pinned (.plain (OpenSpec.ofChange screenNoneSpec)) screenNoneCard

/-- THE SECOND FORM's CARD OF 'scrollbacklaw33.ScreenReplies'. -/
def screenRepliesUptoCard : Claim7 := { stood := { row := screenRepliesUptoRow, standIns := [], harness := (true, "07a61348050ac19c27bd4fd55839f64e3202878f1e9ce09aeb020d27a3a00670"), looks := true }, kinds := [], alts := [], laidByText := true, laidKinds := [.data, .data, .data, .data, .widerDeep, .widerDeep, .widerDeep, .widerDeep, .sentinel, .sentinel, .widerDeep, .widerDeep, .data, .pinned], laidTests := true, laidLooks := .later }
def ScreenRepliesUptoCardSaid : Prop := Claim7.holds Tryz.pinned (.plain (OpenSpec.upto screenRepliesSpec)) screenRepliesUptoCard

/-- THE SECOND FORM's CARD OF 'scrollbacklaw33.ScreenNone'. -/
def screenNoneUptoCard : Claim7 := { stood := { row := screenNoneUptoRow, standIns := [], harness := (true, "07a61348050ac19c27bd4fd55839f64e3202878f1e9ce09aeb020d27a3a00670"), looks := true }, kinds := [], alts := [], laidByText := true, laidKinds := [.data, .data, .data, .data, .widerDeep, .widerDeep, .widerDeep, .widerDeep, .sentinel, .sentinel, .widerDeep, .widerDeep, .data, .pinned], laidTests := true, laidLooks := .later }
def ScreenNoneUptoCardSaid : Prop := Claim7.holds Tryz.pinned (.plain (OpenSpec.upto screenNoneSpec)) screenNoneUptoCard
end Rows
end Go.Proofs.YtmoeainaojbiiaaGreatDoor
