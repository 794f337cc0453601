/- scrollbacklaw36.ChunksHolds returns true for all arguments, as the statement ChunksHoldsCardSaid says; there are no conditions beyond those that the statement itself bears. -/
import Derived.Test.YtimbpmnbbfeogaaGreatDoorHChunksHolds
import Derived.Test.YtimbpmnbbfeogaaGreatDoorKeChunksHolds
import Derived.Test.YtimbpmnbbfeogaaGreatDoorTie
import Derived.Test.YtimbpmnbbfeogaaGreatDoorCards
import Derived.SevenTiedAt
namespace Go.Proofs.YtimbpmnbbfeogaaGreatDoor
open Go.RowKit Go.Abs Go.ChangeShapes Go.WideShapes
set_option maxRecDepth 100000
theorem chunksHolds_goesBy:false=Rows.chunksHoldsRow.goesBy Tryz.prog:=by
 have h:Tryz.prog.goesAt .entering "scrollback/scrollbacklaw36.ChunksHolds"=false:=by
  simp only[Program.goesAt,Program.goesFrom,j_named_ChunksHolds,Option.any_some,j_goes_ChunksHolds,Bool.or_false]
 exact h.symm
theorem chunksHolds_card_holds:Rows.ChunksHoldsCardSaid:=
 Claim7.holds_tied_plain_at .later [] [.data, .data, .data, .data, .widerDeep, .widerDeep, .widerDeep, .widerDeep, .sentinel, .sentinel, .widerDeep, .widerDeep, .data, .pinned] true (true,"cd61080029484a3e4163b5b355953b7d9bc34edfe443fd98117dcfb9ac5c4c27") true
  chunksHolds_holds (fun _ h=>by cases h) (by kernel_rfl) (fun _ h=>by cases h) chunksHolds_row_tie rfl ⟨rfl,rfl⟩ (by kernel_rfl) rfl
  (fun f fn hf hfn=>by
   obtain rfl:f=3:=Option.some.inj (j_named_ChunksHolds.symm.trans hf)|>.symm
   obtain rfl:fn=Tryz.f3:=(Option.some.inj (Tryz.func3.symm.trans hfn)).symm
   exact⟨Eq.trans j_looks_ChunksHolds (by kernel_rfl),fun j t ht=>by
    rw[Tryz.params3] at ht
    have hm:t∈([23,24,24]:List TypeId):=by simpa using Array.mem_of_getElem? ht
    have hall:(([23,24,24]:List TypeId).all fun u=> !Tryz.prog.wantsStandIn u)=true:=by kernel_rfl
    exact(show Tryz.prog.wantsStandIn t=false by simpa using List.all_eq_true.1 hall t hm)⟩)
  (Eq.trans chunksHolds_goesBy (by kernel_rfl))
end Go.Proofs.YtimbpmnbbfeogaaGreatDoor
