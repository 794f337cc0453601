/-
  DERIVED. GIVEN WITH THE SEED: THE CARDS: each row of YtbfoefigmckjeaaDoorRows.lean that lists a variable, with what it lists TIED to the program's text (the seventh form; the later family's looks); each row that meets fmt, with fmt's text TOLD by the authors' own Lean function (tested against real Go, not proved from fmt's source: count such statements apart). THE CARD IS WHAT COUNTS. Prove the row's statement (the work); the ties are given (YtbfoefigmckjeaaDoorTie.lean); close each card by the builder's one call (the guide's Derived/Test/ToyasCard.lean, 'card_holds'). Laid BY PROGRAM, IN A SANDBOX (cutbox-door.mjs). By AI agents, Wed Nov 11 2026. No macro, syntax, notation, axiom, sorry.
-/
import Derived.Test.YtbfoefigmckjeaaDoorRows
import GoSem.ClaimSeven
namespace Go.Proofs.YtbfoefigmckjeaaDoor
namespace Rows

/-- THE TIED CARD OF 'scrollbacklaw46.RepaintBytes'. -/
def repaintBytesCard : Claim7 := { stood := { row := repaintBytesRow, standIns := [], harness := (true, "8b9ec0d588e0fb8478cb913cecc90c5022701ae039fab7fa814837cd399f752b"), looks := false }, kinds := [], alts := [], laidByText := true, laidKinds := [.data, .data, .data, .widerDeep, .widerDeep, .data], laidTests := true, laidLooks := .later }
def RepaintBytesCardSaid : Prop := Claim7.holds Tryd.pinned (.plain (OpenSpec.ofChange repaintBytesSpec)) repaintBytesCard

/-- THE TIED CARD OF 'scrollbacklaw46.RepaintGoes'. -/
def repaintGoesCard : Claim7 := { stood := { row := repaintGoesRow, standIns := [], harness := (true, "8b9ec0d588e0fb8478cb913cecc90c5022701ae039fab7fa814837cd399f752b"), looks := false }, kinds := [], alts := [], laidByText := true, laidKinds := [.data, .data, .data, .widerDeep, .widerDeep, .data], laidTests := true, laidLooks := .later }
def RepaintGoesCardSaid : Prop := Claim7.holds Tryd.pinned (.plain (OpenSpec.ofChange repaintGoesSpec)) repaintGoesCard

/-- THE SECOND FORM's CARD OF 'scrollbacklaw46.RepaintBytes'. -/
def repaintBytesUptoCard : Claim7 := { stood := { row := repaintBytesUptoRow, standIns := [], harness := (true, "8b9ec0d588e0fb8478cb913cecc90c5022701ae039fab7fa814837cd399f752b"), looks := false }, kinds := [], alts := [], laidByText := true, laidKinds := [.data, .data, .data, .widerDeep, .widerDeep, .data], laidTests := true, laidLooks := .later }
def RepaintBytesUptoCardSaid : Prop := Claim7.holds Tryd.pinned (.plain (OpenSpec.upto repaintBytesSpec)) repaintBytesUptoCard

/-- THE SECOND FORM's CARD OF 'scrollbacklaw46.RepaintGoes'. -/
def repaintGoesUptoCard : Claim7 := { stood := { row := repaintGoesUptoRow, standIns := [], harness := (true, "8b9ec0d588e0fb8478cb913cecc90c5022701ae039fab7fa814837cd399f752b"), looks := false }, kinds := [], alts := [], laidByText := true, laidKinds := [.data, .data, .data, .widerDeep, .widerDeep, .data], laidTests := true, laidLooks := .later }
def RepaintGoesUptoCardSaid : Prop := Claim7.holds Tryd.pinned (.plain (OpenSpec.upto repaintGoesSpec)) repaintGoesUptoCard
end Rows
end Go.Proofs.YtbfoefigmckjeaaDoor
