/- A part of the proof of ChunksHolds. -/
import Derived.Test.YtimbpmnbbfeogaaGreatDoorZF
import Derived.Test.YtimbpmnbbfeogaaGreatDoorTabs
import Derived.KernelRfl
import Derived.OpenShut
import Derived.Shelf.Vars
import Derived.LaidLaws
set_option linter.unusedVariables false
namespace Go.Proofs.YtimbpmnbbfeogaaGreatDoor
open Go Go.RowKit Go.Abs Go.ChangeShapes Go.WideShapes
set_option maxRecDepth 100000
theorem star_name: "*"++ "errors.errorString"= "*errors.errorString":=by decide
theorem star_row (u:TypeId) (h:Tryz.prog.typeName? 3 u=some "*errors.errorString"):u=417:=
 typeName_ptr_named (nm:= "errors.errorString") (by rw[star_name];kernel_rfl) (by kernel_rfl) (by decide) u (by rw[star_name];exact h)
theorem laid_of {W:World} (hS:W.ShapedOpen Tryz.prog) (hL:laidMet Tryz.prog Rows.chunksHoldsRow.laid W):Laid W:=by
 obtain⟨h1,h2⟩:=tabs_met hS hL
 have get:∀{t:Go.Abs.Tab} {l:List Value},t∈tabs→Go.Abs.concs (fun _ _=>none) t.vs=l→l.length≤maxLen→Go.Sy.At W ⟨t.at',0,none⟩ 0 l:=fun{t l} ht e hl=>by
  have:=(h2 t ht).2.2.2.2.2
  rw[e] at this
  exact Go.Sy.Whole.at_ this hl
 rw[gsize] at h1
 refine⟨h1,get (t:=tab4) (by simp[tabs]) (by kernel_rfl) (by decide),get (t:=tab5) (by simp[tabs]) (by kernel_rfl) (by decide),get (t:=tab8) (by simp[tabs]) (by kernel_rfl) (by decide),get (t:=tab9) (by simp[tabs]) (by kernel_rfl) (by decide),get (t:=tab10) (by simp[tabs]) (by kernel_rfl) (by decide),get (t:=tab6) (by simp[tabs]) (by kernel_rfl) (by decide),get (t:=tab7) (by simp[tabs]) (by kernel_rfl) (by decide),?_,?_,?_,?_⟩
 ·have:=(h2 tab2 (by simp[tabs])).2.2.2.2.2
  exact⟨tab2.ety,(0,0),this.trans (by kernel_rfl)⟩
 ·exact Go.Proofs.cell_of_shapedOpen_int (zero:=#[.int .i64 0]) (t:=3) hS (of_decide_eq_true (by kernel_rfl)) (by kernel_rfl) rfl (by kernel_rfl) (by kernel_rfl) Tryz.underlying3
 ·obtain⟨k,o,_,e⟩:∃k o,k<W.heap.size∧W.heap[10]? =some (.cells #[.iface 417 (.pointer (some ⟨k,o,none⟩))] 321 (0,0)):=sent_met (WN:=321) (tp:=417) (nV:=419) (ts:=9) hS hL (show("strconv.ErrRange",(Rows.laid_strconv_ErrRange:DataW Unit))∈_ by simp[Rows.chunksHoldsRow]) (by kernel_rfl) (by rw[gsize];decide) (by kernel_rfl) (rows2 _ (by kernel_rfl)) Tryz.underlying321 star_row Tryz.underlying417 Tryz.underlying419 rfl rfl Tryz.underlying9 (by kernel_rfl) (by kernel_rfl)
  exact⟨_,_,by unfold World.cell?;rw[show W.heap[Y.strconv_ErrRange]? =_ from e];rfl⟩
 ·obtain⟨k,o,_,e⟩:∃k o,k<W.heap.size∧W.heap[9]? =some (.cells #[.iface 417 (.pointer (some ⟨k,o,none⟩))] 321 (0,0)):=sent_met (WN:=321) (tp:=417) (nV:=419) (ts:=9) hS hL (show("strconv.ErrSyntax",(Rows.laid_strconv_ErrSyntax:DataW Unit))∈_ by simp[Rows.chunksHoldsRow]) (by kernel_rfl) (by rw[gsize];decide) (by kernel_rfl) (rows2 _ (by kernel_rfl)) Tryz.underlying321 star_row Tryz.underlying417 Tryz.underlying419 rfl rfl Tryz.underlying9 (by kernel_rfl) (by kernel_rfl)
  exact⟨_,_,by unfold World.cell?;rw[show W.heap[Y.strconv_ErrSyntax]? =_ from e];rfl⟩
theorem open_ChunksHolds {H:Type} {enc:TypeId×Value→H} {W:World} {base:Nat} {args:Array Value} {ds:List (DataW H)} {before:List MemPlace}
  (hval:∀(j:Nat) (t:TypeId) (v:Value),(#[23,24,24]:Array TypeId)[j]? =some t→args[j]? =some v→Value.okWide Tryz.prog W .any base t v)
  (hA:DataW.TrodAll enc Tryz.prog W 0 (fun _=>true) true [23,24,24] args.toList ds before)
  (_:(DataW.weightsEach Tryz.prog Tryz.f3.params.toList ds).all (· ≤reachBytes)=true)
  (hS:W.ShapedOpen Tryz.prog) (hL:laidMet Tryz.prog Rows.chunksHoldsRow.laid W):Calls Tryz.prog 3 args W fun e W'=>e= .returned (.bool true)∧Below W.heap.size W W':=
 open36 hval hA (laid_of hS hL)
end Go.Proofs.YtimbpmnbbfeogaaGreatDoor
