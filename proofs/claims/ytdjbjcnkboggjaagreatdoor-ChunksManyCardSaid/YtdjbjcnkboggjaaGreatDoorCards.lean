/-
  DERIVED. GIVEN WITH THE SEED: THE CARDS: each row of YtdjbjcnkboggjaaGreatDoorRows.lean that lists a variable, with what it lists TIED to the program's text (the seventh form; the later family's looks); each row that meets fmt, with fmt's text TOLD by the authors' own Lean function (tested against real Go, not proved from fmt's source: count such statements apart). THE CARD IS WHAT COUNTS. Prove the row's statement (the work); the ties are given (YtdjbjcnkboggjaaGreatDoorTie.lean); close each card by the builder's one call (the guide's Derived/Test/ToyasCard.lean, 'card_holds'). Laid BY PROGRAM, IN A SANDBOX (cutbox-door.mjs). By AI agents, Wed Nov 11 2026. No macro, syntax, notation, axiom, sorry.
-/
import Derived.Test.YtdjbjcnkboggjaaGreatDoorRows
import GoSem.ClaimSeven
namespace Go.Proofs.YtdjbjcnkboggjaaGreatDoor
namespace Rows

/-- THE TIED CARD OF 'scrollbacklaw36.ChunksCuts'. -/
def chunksCutsCard : Claim7 := { stood := { row := chunksCutsRow, standIns := [], harness := (true, "a62998efd378c4e2c3158056634b6580d8ab7ac94dc3f8e83a9caf520adce92c"), looks := true }, kinds := [], alts := [], laidByText := true, laidKinds := [.data, .data, .data, .data, .widerDeep, .widerDeep, .widerDeep, .widerDeep, .sentinel, .sentinel, .widerDeep, .widerDeep, .data, .pinned], laidTests := true, laidLooks := .later }
def ChunksCutsCardSaid : Prop := Claim7.holds Tryz.pinned (.plain (OpenSpec.ofChange chunksCutsSpec)) chunksCutsCard

/-- THE TIED CARD OF 'scrollbacklaw36.ChunksMany'. -/
def chunksManyCard : Claim7 := { stood := { row := chunksManyRow, standIns := [], harness := (true, "a62998efd378c4e2c3158056634b6580d8ab7ac94dc3f8e83a9caf520adce92c"), looks := true }, kinds := [], alts := [], laidByText := true, laidKinds := [.data, .data, .data, .data, .widerDeep, .widerDeep, .widerDeep, .widerDeep, .sentinel, .sentinel, .widerDeep, .widerDeep, .data, .pinned], laidTests := true, laidLooks := .later }
def ChunksManyCardSaid : Prop := Claim7.holds Tryz.pinned (.plain (OpenSpec.ofChange chunksManySpec)) chunksManyCard

/-- THE SECOND FORM's CARD OF 'scrollbacklaw36.ChunksCuts'. -/
def chunksCutsUptoCard : Claim7 := { stood := { row := chunksCutsUptoRow, standIns := [], harness := (true, "a62998efd378c4e2c3158056634b6580d8ab7ac94dc3f8e83a9caf520adce92c"), looks := true }, kinds := [], alts := [], laidByText := true, laidKinds := [.data, .data, .data, .data, .widerDeep, .widerDeep, .widerDeep, .widerDeep, .sentinel, .sentinel, .widerDeep, .widerDeep, .data, .pinned], laidTests := true, laidLooks := .later }
def ChunksCutsUptoCardSaid : Prop := Claim7.holds Tryz.pinned (.plain (OpenSpec.upto chunksCutsSpec)) chunksCutsUptoCard

/-- THE SECOND FORM's CARD OF 'scrollbacklaw36.ChunksMany'. -/
def chunksManyUptoCard : Claim7 := { stood := { row := chunksManyUptoRow, standIns := [], harness := (true, "a62998efd378c4e2c3158056634b6580d8ab7ac94dc3f8e83a9caf520adce92c"), looks := true }, kinds := [], alts := [], laidByText := true, laidKinds := [.data, .data, .data, .data, .widerDeep, .widerDeep, .widerDeep, .widerDeep, .sentinel, .sentinel, .widerDeep, .widerDeep, .data, .pinned], laidTests := true, laidLooks := .later }
def ChunksManyUptoCardSaid : Prop := Claim7.holds Tryz.pinned (.plain (OpenSpec.upto chunksManySpec)) chunksManyUptoCard
end Rows
end Go.Proofs.YtdjbjcnkboggjaaGreatDoor
