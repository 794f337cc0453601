/- A part of the proof of RepaintBytes. -/
import Derived.Test.YthophmihgmjnfaaDoorProg
import Derived.Test.YthophmihgmjnfaaDoorED
set_option linter.unusedVariables false
set_option linter.unusedSimpArgs false
-- --
namespace Go.Proofs.YthophmihgmjnfaaDoor
open Go Go.RowKit Go.Sy
set_option maxRecDepth 100000
theorem mixed : Tryd.prog.follows .mixedOrders = true := by kernel_rfl
end Go.Proofs.YthophmihgmjnfaaDoor
