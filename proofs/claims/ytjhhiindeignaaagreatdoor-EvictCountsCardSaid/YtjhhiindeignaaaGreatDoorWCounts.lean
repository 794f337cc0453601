/- A part of the proof of EvictCounts. -/
import Derived.Test.YtjhhiindeignaaaGreatDoorGF
import Derived.Test.YtjhhiindeignaaaGreatDoorTabs
import Derived.KernelRfl
import Derived.OpenShut
set_option linter.unusedVariables false
namespace Go.Proofs.YtjhhiindeignaaaGreatDoor
open Go Go.RowKit Go.ChangeShapes Go.WideShapes
set_option maxRecDepth 100000
theorem laid_of {W:World} (h:Tabbed W):Laid W:=by
 obtain⟨h1,h2⟩:=h
 have get:∀{t:Go.Abs.Tab} {l:List Value},t∈tabs→Go.Abs.concs (fun _ _=>none) t.vs=l→l.length≤maxLen→Go.Sy.At W ⟨t.at',0,none⟩ 0 l:=fun{t l} ht e hl=>by
  have:=(h2 t ht).2.2.2.2.2
  rw[e] at this
  exact Go.Sy.Whole.at_ this hl
 rw[gsize] at h1
 exact⟨h1,get (t:=tab4) (by simp[tabs]) (by kernel_rfl) (by decide),get (t:=tab6) (by simp[tabs]) (by kernel_rfl) (by decide),get (t:=tab7) (by simp[tabs]) (by kernel_rfl) (by decide)⟩
theorem open_EvictCounts {H:Type} {enc:TypeId×Value→H} {W:World} {base:Nat} {args:Array Value} {ds:List (DataW H)} {before:List MemPlace}
  (hval:∀(j:Nat) (t:TypeId) (v:Value),(#[5,22]:Array TypeId)[j]? =some t→args[j]? =some v→Value.okWide Tryz.prog W .any base t v)
  (hA:DataW.TrodAll enc Tryz.prog W 0 (fun _=>true) true [5,22] args.toList ds before)
  (_:(DataW.weightsEach Tryz.prog Tryz.f3.params.toList ds).all (· ≤reachBytes)=true)
  (hS:W.ShapedOpen Tryz.prog) (hL:laidMet Tryz.prog Rows.evictCountsRow.laid W):Calls Tryz.prog 3 args W fun e W'=>e= .returned (.bool true)∧Below W.heap.size W W':=by
 obtain⟨v,v',d,d',p,p',rfl,rfl,rfl,h0,h1⟩:=trodAll_two hA
 obtain⟨a,rfl,rfl,rfl,ha⟩:=open_int Tryz.underlying5 (hval 0 5 v rfl rfl) h0
 obtain⟨b,rfl,rfl,rfl,hb⟩:=open_int Tryz.underlying22 (hval 1 22 v' rfl rfl) h1
 have h2:0≤a:=by
  simp[Lit.wf,IntKind.min,IntKind.max,IntKind.signed,IntKind.bits] at ha
  exact ha.1
 have h3:=law37 (most:=a) (many:=b) (laid_of (tabs_met hS hL)) h2
 exact Go.Sy.Gets.below h3
end Go.Proofs.YtjhhiindeignaaaGreatDoor
