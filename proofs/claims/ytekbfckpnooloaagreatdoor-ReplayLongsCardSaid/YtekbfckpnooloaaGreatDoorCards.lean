/-
  DERIVED. GIVEN WITH THE SEED: THE CARDS: each row of YtekbfckpnooloaaGreatDoorRows.lean that lists a variable, with what it lists TIED to the program's text (the seventh form; the later family's looks); each row that meets fmt, with fmt's text TOLD by the authors' own Lean function (tested against real Go, not proved from fmt's source: count such statements apart). THE CARD IS WHAT COUNTS. Prove the row's statement (the work); the ties are given (YtekbfckpnooloaaGreatDoorTie.lean); close each card by the builder's one call (the guide's Derived/Test/ToyasCard.lean, 'card_holds'). Laid BY PROGRAM, IN A SANDBOX (cutbox-door.mjs). By AI agents, Wed Nov 11 2026. No macro, syntax, notation, axiom, sorry.
-/
import Derived.Test.YtekbfckpnooloaaGreatDoorRows
import GoSem.ClaimSeven
namespace Go.Proofs.YtekbfckpnooloaaGreatDoor
namespace Rows

/-- THE TIED CARD OF 'scrollbacklaw38.ReplayParses'. -/
def replayParsesCard : Claim7 := { stood := { row := replayParsesRow, standIns := [], harness := (true, "6ab6ce06c4cc154c7c702bf09573a01123b5eebb8e82b52bc6ed797388bc3b34"), looks := true }, kinds := [], alts := [], laidByText := true, laidKinds := [.data, .data, .data, .data, .widerDeep, .widerDeep, .widerDeep, .widerDeep, .sentinel, .sentinel, .widerDeep, .widerDeep, .data, .pinned], laidTests := true, laidLooks := .later }
def ReplayParsesCardSaid : Prop := Claim7.holds Tryz.pinned (.plain (OpenSpec.ofChange replayParsesSpec)) replayParsesCard

/-- THE TIED CARD OF 'scrollbacklaw38.ReplayLongs'. -/
def replayLongsCard : Claim7 := { stood := { row := replayLongsRow, standIns := [], harness := (true, "6ab6ce06c4cc154c7c702bf09573a01123b5eebb8e82b52bc6ed797388bc3b34"), looks := true }, kinds := [], alts := [], laidByText := true, laidKinds := [.data, .data, .data, .data, .widerDeep, .widerDeep, .widerDeep, .widerDeep, .sentinel, .sentinel, .widerDeep, .widerDeep, .data, .pinned], laidTests := true, laidLooks := .later }
def ReplayLongsCardSaid : Prop := Claim7.holds Tryz.pinned (.plain (OpenSpec.ofChange replayLongsSpec)) replayLongsCard

/-- THE TIED CARD OF 'scrollbacklaw38.ReplayNone'. -/
def replayNoneCard : Claim7 := { stood := { row := replayNoneRow, standIns := [], harness := (true, "6ab6ce06c4cc154c7c702bf09573a01123b5eebb8e82b52bc6ed797388bc3b34"), looks := true }, kinds := [], alts := [], laidByText := true, laidKinds := [.data, .data, .data, .data, .widerDeep, .widerDeep, .widerDeep, .widerDeep, .sentinel, .sentinel, .widerDeep, .widerDeep, .data, .pinned], laidTests := true, laidLooks := .later }
def ReplayNoneCardSaid : Prop := Claim7.holds Tryz.pinned (.plain (OpenSpec.ofChange replayNoneSpec)) replayNoneCard

/-- THE SECOND FORM's CARD OF 'scrollbacklaw38.ReplayParses'. -/
def replayParsesUptoCard : Claim7 := { stood := { row := replayParsesUptoRow, standIns := [], harness := (true, "6ab6ce06c4cc154c7c702bf09573a01123b5eebb8e82b52bc6ed797388bc3b34"), looks := true }, kinds := [], alts := [], laidByText := true, laidKinds := [.data, .data, .data, .data, .widerDeep, .widerDeep, .widerDeep, .widerDeep, .sentinel, .sentinel, .widerDeep, .widerDeep, .data, .pinned], laidTests := true, laidLooks := .later }
def ReplayParsesUptoCardSaid : Prop := Claim7.holds Tryz.pinned (.plain (OpenSpec.upto replayParsesSpec)) replayParsesUptoCard

/-- THE SECOND FORM's CARD OF 'scrollbacklaw38.ReplayLongs'. -/
def replayLongsUptoCard : Claim7 := { stood := { row := replayLongsUptoRow, standIns := [], harness := (true, "6ab6ce06c4cc154c7c702bf09573a01123b5eebb8e82b52bc6ed797388bc3b34"), looks := true }, kinds := [], alts := [], laidByText := true, laidKinds := [.data, .data, .data, .data, .widerDeep, .widerDeep, .widerDeep, .widerDeep, .sentinel, .sentinel, .widerDeep, .widerDeep, .data, .pinned], laidTests := true, laidLooks := .later }
def ReplayLongsUptoCardSaid : Prop := Claim7.holds Tryz.pinned (.plain (OpenSpec.upto replayLongsSpec)) replayLongsUptoCard

/-- THE SECOND FORM's CARD OF 'scrollbacklaw38.ReplayNone'. -/
def replayNoneUptoCard : Claim7 := { stood := { row := replayNoneUptoRow, standIns := [], harness := (true, "6ab6ce06c4cc154c7c702bf09573a01123b5eebb8e82b52bc6ed797388bc3b34"), looks := true }, kinds := [], alts := [], laidByText := true, laidKinds := [.data, .data, .data, .data, .widerDeep, .widerDeep, .widerDeep, .widerDeep, .sentinel, .sentinel, .widerDeep, .widerDeep, .data, .pinned], laidTests := true, laidLooks := .later }
def ReplayNoneUptoCardSaid : Prop := Claim7.holds Tryz.pinned (.plain (OpenSpec.upto replayNoneSpec)) replayNoneUptoCard
end Rows
end Go.Proofs.YtekbfckpnooloaaGreatDoor
