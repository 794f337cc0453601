/-
  DERIVED. GIVEN WITH THE SEED: THE CARDS: each row of YthophmihgmjnfaaDoorRows.lean that lists a variable, with what it lists TIED to the program's text (the seventh form; the later family's looks); each row that meets fmt, with fmt's text TOLD by the authors' own Lean function (tested against real Go, not proved from fmt's source: count such statements apart). THE CARD IS WHAT COUNTS. Prove the row's statement (the work); the ties are given (YthophmihgmjnfaaDoorTie.lean); close each card by the builder's one call (the guide's Derived/Test/ToyasCard.lean, 'card_holds'). Laid BY PROGRAM, IN A SANDBOX (cutbox-door.mjs). By AI agents, Wed Nov 11 2026. No macro, syntax, notation, axiom, sorry.
-/
import Derived.Test.YthophmihgmjnfaaDoorRows
import GoSem.ClaimSeven
namespace Go.Proofs.YthophmihgmjnfaaDoor
namespace Rows

/-- THE TIED CARD OF 'scrollbacklaw46.RepaintBytes'. -/
def repaintBytesCard : Claim7 := { stood := { row := repaintBytesRow, standIns := [], harness := (true, "dc8e20827b5c62f79d56b73048cc16c19d73dee0487746109f186a4985dd3f2c"), looks := false }, kinds := [], alts := [], laidByText := true, laidKinds := [.data, .data, .data, .widerDeep, .widerDeep, .data], laidTests := true, laidLooks := .later }
def RepaintBytesCardSaid : Prop := Claim7.holds Tryd.pinned (.plain (OpenSpec.ofChange repaintBytesSpec)) repaintBytesCard

/-- THE SECOND FORM's CARD OF 'scrollbacklaw46.RepaintBytes'. -/
def repaintBytesUptoCard : Claim7 := { stood := { row := repaintBytesUptoRow, standIns := [], harness := (true, "dc8e20827b5c62f79d56b73048cc16c19d73dee0487746109f186a4985dd3f2c"), looks := false }, kinds := [], alts := [], laidByText := true, laidKinds := [.data, .data, .data, .widerDeep, .widerDeep, .data], laidTests := true, laidLooks := .later }
def RepaintBytesUptoCardSaid : Prop := Claim7.holds Tryd.pinned (.plain (OpenSpec.upto repaintBytesSpec)) repaintBytesUptoCard
end Rows
end Go.Proofs.YthophmihgmjnfaaDoor
