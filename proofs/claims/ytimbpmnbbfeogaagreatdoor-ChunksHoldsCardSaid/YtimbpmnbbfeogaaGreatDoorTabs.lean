/- A part of the proof of ChunksHolds. -/
import Derived.Test.YtimbpmnbbfeogaaGreatDoorGood
namespace Go.Proofs.YtimbpmnbbfeogaaGreatDoor
open Go.RowKit Go.Abs Go.ChangeShapes
set_option maxRecDepth 100000
theorem gsize:Tryz.prog.globals.size=15:=by kernel_rfl
def Tabbed (w:World):Prop:=Tryz.prog.globals.size≤w.heap.size∧
 ∀t∈tabs,t.at'<Tryz.prog.globals.size∧0<t.es∧t.vs.length%t.es=0∧okvs (fun _ _=>none) t.vs∧t.vs.all AVal.scalar=true∧w.heap[t.at']? =some (.cells (concs (fun _ _=>none) t.vs).toArray t.ety (0,0))
theorem rows2 (o:Option Obj) {t:TypeId} (h:(o.bind Obj.row?).map (·.2)=some t):∃zero,o.bind Obj.row?=some (zero,t):=by
 obtain⟨⟨z,t'⟩,h1,rfl⟩:=Option.map_eq_some_iff.1 h
 exact⟨z,h1⟩
theorem lastRow:∃zero t,((begin Tryz.prog (fun _ _=>0) default).world.heap[14]?).bind Obj.row?=some (zero,t):=by
 obtain⟨z,hz⟩:=rows2 (t:=421) (((begin Tryz.prog (fun _ _=>0) default).world.heap[14]?)) (by kernel_rfl)
 exact⟨z,421,hz⟩
theorem tabs_met {W:World} (hS:W.ShapedOpen Tryz.prog) (hL:laidMet Tryz.prog Rows.chunksHoldsRow.laid W):Tabbed W:=by
 refine⟨globals_in hS fun g hg=>?_,fun t ht=>?_⟩
 ·have:g=14:=by have:=gsize;omega
  subst this
  exact lastRow
 ·simp only[tabs,List.mem_cons,List.not_mem_nil,or_false] at ht
  rcases ht with rfl|rfl|rfl|rfl|rfl|rfl|rfl|rfl|rfl|rfl|rfl|rfl
  ·exact tab_met (x:=("math/bits.deBruijn32tab",Rows.laid_math_bits_deBruijn32tab)) (ty:=420) (k:=4) hS hL ⟨by simp[Rows.chunksHoldsRow],by kernel_rfl,by rw[gsize];decide,by kernel_rfl,by kernel_rfl,by kernel_rfl,by decide,by kernel_rfl,rows2 _ (by kernel_rfl)⟩
  ·exact tab_met (x:=("math/bits.deBruijn64tab",Rows.laid_math_bits_deBruijn64tab)) (ty:=421) (k:=4) hS hL ⟨by simp[Rows.chunksHoldsRow],by kernel_rfl,by rw[gsize];decide,by kernel_rfl,by kernel_rfl,by kernel_rfl,by decide,by kernel_rfl,rows2 _ (by kernel_rfl)⟩
  ·exact tab_met (x:=("internal/strconv.uint64pow10",Rows.laid_internal_strconv_uint64pow10)) (ty:=395) (k:=4) hS hL ⟨by simp[Rows.chunksHoldsRow],by kernel_rfl,by rw[gsize];decide,by kernel_rfl,by kernel_rfl,by kernel_rfl,by decide,by kernel_rfl,rows2 _ (by kernel_rfl)⟩
  ·exact tab_met (x:=("unicode/utf8.acceptRanges",Rows.laid_unicode_utf8_acceptRanges)) (ty:=414) (k:=4) hS hL ⟨by simp[Rows.chunksHoldsRow],by kernel_rfl,by rw[gsize];decide,by kernel_rfl,by kernel_rfl,by kernel_rfl,by decide,by kernel_rfl,rows2 _ (by kernel_rfl)⟩
  ·exact tab_met (x:=("scrollback/charset.lines",Rows.laid_scrollback_charset_lines)) (ty:=238) (k:=4) hS hL ⟨by simp[Rows.chunksHoldsRow],by kernel_rfl,by rw[gsize];decide,by kernel_rfl,by kernel_rfl,by kernel_rfl,by decide,by kernel_rfl,rows2 _ (by kernel_rfl)⟩
  ·exact tab_met (x:=("scrollback/charset.finals",Rows.laid_scrollback_charset_finals)) (ty:=241) (k:=4) hS hL ⟨by simp[Rows.chunksHoldsRow],by kernel_rfl,by rw[gsize];decide,by kernel_rfl,by kernel_rfl,by kernel_rfl,by decide,by kernel_rfl,rows2 _ (by kernel_rfl)⟩
  ·exact tab_met (x:=("scrollback/width.marks",Rows.laid_scrollback_width_marks)) (ty:=242) (k:=4) hS hL ⟨by simp[Rows.chunksHoldsRow],by kernel_rfl,by rw[gsize];decide,by kernel_rfl,by kernel_rfl,by kernel_rfl,by decide,by kernel_rfl,rows2 _ (by kernel_rfl)⟩
  ·exact tab_met (x:=("scrollback/width.wide",Rows.laid_scrollback_width_wide)) (ty:=243) (k:=4) hS hL ⟨by simp[Rows.chunksHoldsRow],by kernel_rfl,by rw[gsize];decide,by kernel_rfl,by kernel_rfl,by kernel_rfl,by decide,by kernel_rfl,rows2 _ (by kernel_rfl)⟩
  ·exact tab_met (x:=("scrollback/modes.pointers",Rows.laid_scrollback_modes_pointers)) (ty:=334) (k:=4) hS hL ⟨by simp[Rows.chunksHoldsRow],by kernel_rfl,by rw[gsize];decide,by kernel_rfl,by kernel_rfl,by kernel_rfl,by decide,by kernel_rfl,rows2 _ (by kernel_rfl)⟩
  ·exact tab_met (x:=("scrollback/modes.screens",Rows.laid_scrollback_modes_screens)) (ty:=334) (k:=4) hS hL ⟨by simp[Rows.chunksHoldsRow],by kernel_rfl,by rw[gsize];decide,by kernel_rfl,by kernel_rfl,by kernel_rfl,by decide,by kernel_rfl,rows2 _ (by kernel_rfl)⟩
  ·exact tab_met (x:=("scrollback/style.marks",Rows.laid_scrollback_style_marks)) (ty:=343) (k:=4) hS hL ⟨by simp[Rows.chunksHoldsRow],by kernel_rfl,by rw[gsize];decide,by kernel_rfl,by kernel_rfl,by kernel_rfl,by decide,by kernel_rfl,rows2 _ (by kernel_rfl)⟩
  ·exact tab_met (x:=("unicode/utf8.first",Rows.laid_unicode_utf8_first)) (ty:=411) (k:=4) hS hL ⟨by simp[Rows.chunksHoldsRow],by kernel_rfl,by rw[gsize];decide,by kernel_rfl,by kernel_rfl,by kernel_rfl,by decide,by kernel_rfl,rows2 _ (by kernel_rfl)⟩
end Go.Proofs.YtimbpmnbbfeogaaGreatDoor
