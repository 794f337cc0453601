/- scrollbacklaw37.EvictCounts returns true for all arguments, as the statement EvictCountsCardSaid says; there are no conditions beyond those that the statement itself bears. -/
import Derived.Test.YtjhhiindeignaaaGreatDoorHEvictCounts
import Derived.Test.YtjhhiindeignaaaGreatDoorKeEvictCounts
import Derived.Test.YtjhhiindeignaaaGreatDoorTie
import Derived.Test.YtjhhiindeignaaaGreatDoorCards
import Derived.SevenTiedAt
namespace Go.Proofs.YtjhhiindeignaaaGreatDoor
open Go.RowKit Go.Abs Go.ChangeShapes Go.WideShapes
set_option maxRecDepth 100000
theorem evictCounts_goesBy:false=Rows.evictCountsRow.goesBy Tryz.prog:=by
 have h:Tryz.prog.goesAt .entering "scrollback/scrollbacklaw37.EvictCounts"=false:=by
  simp only[Program.goesAt,Program.goesFrom,j_named_EvictCounts,Option.any_some,j_goes_EvictCounts,Bool.or_false]
 exact h.symm
theorem evictCounts_card_holds:Rows.EvictCountsCardSaid:=
 Claim7.holds_tied_plain_at .later [] [.data, .data, .data, .data, .widerDeep, .widerDeep, .widerDeep, .widerDeep, .sentinel, .sentinel, .widerDeep, .widerDeep, .data, .pinned] true (true,"ba2d2d1d5804bd155db2fd5b565c1f745ae7c4b9d9e4b721025df29915a09156") true
  evictCounts_holds (fun _ h=>by cases h) (by kernel_rfl) (fun _ h=>by cases h) evictCounts_row_tie rfl ⟨rfl,rfl⟩ (by kernel_rfl) rfl
  (fun f fn hf hfn=>by
   obtain rfl:f=3:=Option.some.inj (j_named_EvictCounts.symm.trans hf)|>.symm
   obtain rfl:fn=Tryz.f3:=(Option.some.inj (Tryz.func3.symm.trans hfn)).symm
   exact⟨Eq.trans j_looks_EvictCounts (by kernel_rfl),fun j t ht=>by
    rw[Tryz.params3] at ht
    have hm:t∈([5,22]:List TypeId):=by simpa using Array.mem_of_getElem? ht
    have hall:(([5,22]:List TypeId).all fun u=> !Tryz.prog.wantsStandIn u)=true:=by kernel_rfl
    exact(show Tryz.prog.wantsStandIn t=false by simpa using List.all_eq_true.1 hall t hm)⟩)
  (Eq.trans evictCounts_goesBy (by kernel_rfl))
end Go.Proofs.YtjhhiindeignaaaGreatDoor
