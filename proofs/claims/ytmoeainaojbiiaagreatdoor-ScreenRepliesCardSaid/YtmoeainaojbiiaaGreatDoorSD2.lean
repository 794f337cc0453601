/- A part of the proof of ScreenReplies. -/
import Derived.Test.YtmoeainaojbiiaaGreatDoorSDef
namespace Go.Proofs.YtmoeainaojbiiaaGreatDoor
open Go.Abs
set_option maxRecDepth 100000
theorem does2 : (stretch 172 86).all doesAt = true := by kernel_rfl
end Go.Proofs.YtmoeainaojbiiaaGreatDoor
