/- A part of the proof of EvictCounts. -/
import Derived.Test.YtjhhiindeignaaaGreatDoorGB
import Derived.Laws.BitsLemmas
set_option linter.unusedVariables false
set_option linter.unusedSimpArgs false
set_option linter.unusedSectionVars false
namespace Go.Proofs.YtjhhiindeignaaaGreatDoor
open Go Go.RowKit Go.Sy Go.Rep
set_option maxRecDepth 100000
def cmpI (a b r:Int):Int:=if b<r then-1 else if r<a then 1 else 0
def atT (T:List (Int×Int)) (i:Nat):Int×Int:=T.getD i (0,0)
def bsT (T:List (Int×Int)) (r:Int) (i j:Nat):Nat:=
 if i<j then if cmpI (atT T ((i+j)/2)).1 (atT T ((i+j)/2)).2 r<0 then bsT T r ((i+j)/2+1) j else bsT T r i ((i+j)/2) else i
termination_by j-i
def inT (T:List (Int×Int)) (r:Int):Bool:=decide (bsT T r 0 T.length<T.length)&&decide (cmpI (atT T (bsT T r 0 T.length)).1 (atT T (bsT T r 0 T.length)).2 r=0)
def wOf (r:Int):Int:=if r<32∨(127≤r∧r<160)∨(55296≤r∧r≤57343)∨1114111<r then-1 else if inT marksT r=true then 0 else if inT wideT r=true then 2 else 1
theorem pairsV_length (l:List (Int×Int)):(pairsV l).length=l.length*2:=by
 induction l with
 |nil=>rfl
 |cons c l ih=>
  show([Value.int .i32 c.1, .int .i32 c.2]++pairsV l).length=(l.length+1)*2
  rw[List.length_append,ih]
  show 2+l.length*2=_
  omega
theorem pairsV_drop (l:List (Int×Int)) (k:Nat):(pairsV l).drop (k*2)=pairsV (l.drop k):=by
 induction k generalizing l with
 |zero=>rw[Nat.zero_mul];rfl
 |succ k ih=>
  cases l with
  |nil=>simp[pairsV]
  |cons c l=>
   show([Value.int .i32 c.1, .int .i32 c.2]++pairsV l).drop ((k+1)*2)=_
   rw[show(k+1)*2=2+k*2 by omega,←List.drop_drop]
   exact ih l
theorem pairsV_one (l:List (Int×Int)) (k:Nat) (h:k<l.length):[Value.int .i32 (atT l k).1, .int .i32 (atT l k).2]=((pairsV l).drop (k*2)).take [Value.int .i32 (atT l k).1, .int .i32 (atT l k).2].length:=by
 have:pairsV (l.drop k)=[Value.int .i32 (atT l k).1, .int .i32 (atT l k).2]++pairsV (l.drop (k+1)):=by
  rw[List.drop_eq_getElem_cons h]
  show[Value.int .i32 l[k].1, .int .i32 l[k].2]++pairsV (l.drop (k+1))=_
  simp[atT,h]
 rw[pairsV_drop,this]
 rfl
theorem mid {i j:Int} (h1:0≤i) (h2:i≤j) (h3:j≤1000000):shrI .u64 (IntKind.wrap .u64 (i+j)) 1=(i+j)/2:=by
 have:IntKind.wrap .u64 (i+j)=i+j:=by
  unfold IntKind.wrap
  simp[IntKind.bits,IntKind.signed]
  omega
 rw[this]
 unfold shrI
 show(i+j).fdiv (2^(min 1 64))=_
 rw[Int.fdiv_eq_ediv_of_nonneg _ (by decide)]
 rfl
theorem p_cmp (a b r:Int):Pure X.width_in_1 #[.agg #[.int .i32 a, .int .i32 b], .int .i32 r] (.int .i64 (cmpI a b r)):=by
 intro w hL
 refine v_width_in_1 a b r ?_
 repeat' (first|(refine Fin.of fun _=>?_)|(refine And.intro ?_ ?_)|intro _)
 all_goals first|rfl|grind [cmpI]
theorem r_bs {w:World} {p:Option Addr} {c n:Nat} {T:List (Int×Int)} {r:Int} (hL:Laid w) (h:Row w p n 2 (pairsV T)) (hn:n≤1000):Ret X.slices_BinarySearchFunc_rune #[.slice p n c, .int .i32 r, .func (.func X.width_in_1) #[] #[]] w (.tuple #[.int .i64 (bsT T r 0 T.length), .bool (inT T r)]):=by
 have hl:T.length=n:=by have:=h.len;rw[pairsV_length] at this;omega
 refine v_slices_BinarySearchFunc_rune p n c r ⟨fun i j w'=>Keeps Nix w w'∧0≤i∧i≤j∧j≤n∧bsT T r i.toNat j.toNat=bsT T r 0 T.length,fun i j=>(j-i).toNat,fun w5 hb=>⟨Keeps.of_below hb,by omega,by omega,by omega,by simp[hl]⟩,?_⟩
 intro i j w1 hk ⟨hk1,h0,h1,h2,hx⟩
 have get:∀k:Int,0≤k→k<n→∃a,p=some a∧At w1 a (k.toNat*2) [.int .i32 (atT T k.toNat).1, .int .i32 (atT T k.toNat).2]:=fun k k0 k1=>by
  obtain⟨a,e⟩:=h.some_ (by omega)
  exact⟨a,e,(h.nix hk1).at_ e _ (pairsV_one T k.toNat (by omega))⟩
 refine⟨fun hi=>?_,fun hi=>⟨fun hn'=>?_,fun hn'=>Fin.of fun _=>?_⟩⟩
 ·have hm:=mid (i:=i) (j:=j) h0 h1 (by omega)
  rw[hm]
  obtain⟨a,e,ha⟩:=get ((i+j)/2) (by omega) (by omega)
  have hmn:((i+j)/2).toNat=(i.toNat+j.toNat)/2:=by omega
  refine⟨by unfold I64;omega,by omega,by unfold I64;omega,a,e,by omega,_,_,ha,fun w6 hb=>(p_cmp _ _ _).runs (Laid.below hb (Laid.nix hk1 hL)) fun w7 hk7 hL7=>⟨_,rfl,hk7.nix,fun hc=>⟨by unfold I64;omega,fun w9 hb9=>⟨⟨((hk1.trans (Keeps.of_below hb)).trans hk7).trans (Keeps.of_below hb9),by omega,by omega,by omega,?_⟩,by dsimp only;omega⟩⟩,fun hc w8 hb8=>⟨⟨((hk1.trans (Keeps.of_below hb)).trans hk7).trans (Keeps.of_below hb8),by omega,by omega,by omega,?_⟩,by dsimp only;omega⟩⟩⟩
  ·rw[←hx]
   conv=>rhs;rw[bsT]
   rw[if_pos (by omega),if_pos (by rw[←hmn];exact hc)]
   congr 1;omega
  ·rw[←hx]
   conv=>rhs;rw[bsT]
   rw[if_pos (by omega),if_neg (by rw[←hmn];omega)]
   congr 1
 ·obtain⟨a,e,ha⟩:=get i h0 hn'
  have hb':bsT T r 0 T.length=i.toNat:=by rw[←hx,bsT,if_neg (by omega)]
  refine⟨a,e,⟨h0,hn'⟩,_,_,ha,fun w6 hb=>(p_cmp _ _ _).runs (Laid.below hb (Laid.nix hk1 hL)) fun w7 hk7 hL7=>⟨_,rfl,hk7.nix,Fin.of fun _=>?_⟩⟩
  rw[bv_eq]
  unfold inT
  rw[hb',decide_eq_true (show i.toNat<T.length by omega),Bool.true_and]
  congr 4
  omega
 ·have hb':bsT T r 0 T.length=i.toNat:=by rw[←hx,bsT,if_neg (by omega)]
  unfold inT
  rw[hb',decide_eq_false (show ¬i.toNat<T.length by omega),Bool.false_and]
  congr 4
  omega
theorem r_in {w:World} {p:Option Addr} {c n:Nat} {T:List (Int×Int)} {r:Int} (hL:Laid w) (h:Row w p n 2 (pairsV T)) (hn:n≤1000):Ret X.width_in #[.slice p n c, .int .i32 r] w (.bool (inT T r)):=by
 refine v_width_in p n c r fun w1 hb=>?_
 exact(r_bs (Laid.below hb hL) (h.below hb) hn).runs fun w2 hk=>⟨_,_,rfl,hk.nix,Fin.of fun _=>rfl⟩
theorem p_marks {r:Int}:Pure X.width_in #[.slice (some ⟨Y.width_marks,0,none⟩) 18 18, .int .i32 r] (.bool (inT marksT r)):=fun w hL=>r_in hL (glob_row hL.marks rfl) (by omega)
theorem p_wide {r:Int}:Pure X.width_in #[.slice (some ⟨Y.width_wide,0,none⟩) 19 19, .int .i32 r] (.bool (inT wideT r)):=fun w hL=>r_in hL (glob_row hL.wide rfl) (by omega)
end Go.Proofs.YtjhhiindeignaaaGreatDoor
namespace Go.Proofs.YtjhhiindeignaaaGreatDoor
open Go Go.RowKit Go.Sy Go.Rep
set_option maxRecDepth 100000
set_option maxHeartbeats 2000000
theorem c_width_Of {r:Int}:Pure X.width_Of #[.int .i32 r] (.int .i64 (wOf r)):=by
 intro w hL
 refine v_width_Of r ?_
 repeat' (first|(refine Fin.of fun _=>?_)|(refine FinE.of fun _=>?_)|(refine Pure.runs (p_marks) (by first|assumption|exact Laid.below (by assumption) (by assumption)|exact Laid.nix (by first|assumption|exact Keeps.refl _ _|exact Keeps.back (by assumption) (by first|assumption|exact Keeps.refl _ _|exact Keeps.back (by assumption) (by first|assumption|exact Keeps.refl _ _|exact Keeps.back (by assumption) (by first|assumption|exact Keeps.refl _ _)|exact Keeps.backB (by assumption) (by first|assumption|exact Keeps.refl _ _))|exact Keeps.backB (by assumption) (by first|assumption|exact Keeps.refl _ _|exact Keeps.back (by assumption) (by first|assumption|exact Keeps.refl _ _)|exact Keeps.backB (by assumption) (by first|assumption|exact Keeps.refl _ _)))|exact Keeps.backB (by assumption) (by first|assumption|exact Keeps.refl _ _|exact Keeps.back (by assumption) (by first|assumption|exact Keeps.refl _ _|exact Keeps.back (by assumption) (by first|assumption|exact Keeps.refl _ _)|exact Keeps.backB (by assumption) (by first|assumption|exact Keeps.refl _ _))|exact Keeps.backB (by assumption) (by first|assumption|exact Keeps.refl _ _|exact Keeps.back (by assumption) (by first|assumption|exact Keeps.refl _ _)|exact Keeps.backB (by assumption) (by first|assumption|exact Keeps.refl _ _)))) hL) fun _ hk hl=>?_;first|refine⟨_,rfl,hk.nix,?_⟩|refine⟨_,_,rfl,hk.nix,?_⟩|refine⟨_,_,_,rfl,hk.nix,?_⟩)|(refine Pure.runs (p_wide) (by first|assumption|exact Laid.below (by assumption) (by assumption)|exact Laid.nix (by first|assumption|exact Keeps.refl _ _|exact Keeps.back (by assumption) (by first|assumption|exact Keeps.refl _ _|exact Keeps.back (by assumption) (by first|assumption|exact Keeps.refl _ _|exact Keeps.back (by assumption) (by first|assumption|exact Keeps.refl _ _)|exact Keeps.backB (by assumption) (by first|assumption|exact Keeps.refl _ _))|exact Keeps.backB (by assumption) (by first|assumption|exact Keeps.refl _ _|exact Keeps.back (by assumption) (by first|assumption|exact Keeps.refl _ _)|exact Keeps.backB (by assumption) (by first|assumption|exact Keeps.refl _ _)))|exact Keeps.backB (by assumption) (by first|assumption|exact Keeps.refl _ _|exact Keeps.back (by assumption) (by first|assumption|exact Keeps.refl _ _|exact Keeps.back (by assumption) (by first|assumption|exact Keeps.refl _ _)|exact Keeps.backB (by assumption) (by first|assumption|exact Keeps.refl _ _))|exact Keeps.backB (by assumption) (by first|assumption|exact Keeps.refl _ _|exact Keeps.back (by assumption) (by first|assumption|exact Keeps.refl _ _)|exact Keeps.backB (by assumption) (by first|assumption|exact Keeps.refl _ _)))) hL) fun _ hk hl=>?_;first|refine⟨_,rfl,hk.nix,?_⟩|refine⟨_,_,rfl,hk.nix,?_⟩|refine⟨_,_,_,rfl,hk.nix,?_⟩)|(refine And.intro ?_ ?_)|intro _)
 all_goals first|rfl|(unfold I64;omega)|(exfalso;first|omega|contradiction|(simp_all;done))|(simp[bv_lt,bv_le,bv_eq,bv_ok,bv_no, *,wOf];done)|grind [bv_lt,bv_le,bv_eq,bv_ok,bv_no,wOf]
end Go.Proofs.YtjhhiindeignaaaGreatDoor
namespace Go.Proofs.YtjhhiindeignaaaGreatDoor
open Go Go.RowKit Go.Sy Go.Rep
set_option maxRecDepth 100000
set_option maxHeartbeats 2000000
def okM (i m p:Int):Bool:=decide (m=0)||(decide (wOf m=0)&&(decide (i=0)||decide (p≠0)))
def okMs (c:Cl):Bool:=okM 0 c.m0 0&&okM 1 c.m1 c.m0&&okM 2 c.m2 c.m1
def validCl (c:Cl):Bool:=okPn c.p&&(if c.r=0 then(decide (c.w=0)||decide (c.w=1))&&(decide (c.m0=0)&&(decide (c.m1=0)&&decide (c.m2=0))) else okMs c&&(decide (0<c.w)&&decide (c.w=wOf c.r)))
theorem c_cell_Valid {c:Cl}:Pure X.cell_Valid #[.agg c.arr] (.bool (validCl c)):=by
 intro w hL
 refine v_cell_Valid c ?_
 repeat' (first|(refine Fin.of fun _=>?_)|(refine FinE.of fun _=>?_)|(refine Pure.runs (c_pen_Valid) (by first|assumption|exact Laid.below (by assumption) (by assumption)|exact Laid.nix (by first|assumption|exact Keeps.refl _ _|exact Keeps.back (by assumption) (by first|assumption|exact Keeps.refl _ _|exact Keeps.back (by assumption) (by first|assumption|exact Keeps.refl _ _|exact Keeps.back (by assumption) (by first|assumption|exact Keeps.refl _ _)|exact Keeps.backB (by assumption) (by first|assumption|exact Keeps.refl _ _))|exact Keeps.backB (by assumption) (by first|assumption|exact Keeps.refl _ _|exact Keeps.back (by assumption) (by first|assumption|exact Keeps.refl _ _)|exact Keeps.backB (by assumption) (by first|assumption|exact Keeps.refl _ _)))|exact Keeps.backB (by assumption) (by first|assumption|exact Keeps.refl _ _|exact Keeps.back (by assumption) (by first|assumption|exact Keeps.refl _ _|exact Keeps.back (by assumption) (by first|assumption|exact Keeps.refl _ _)|exact Keeps.backB (by assumption) (by first|assumption|exact Keeps.refl _ _))|exact Keeps.backB (by assumption) (by first|assumption|exact Keeps.refl _ _|exact Keeps.back (by assumption) (by first|assumption|exact Keeps.refl _ _)|exact Keeps.backB (by assumption) (by first|assumption|exact Keeps.refl _ _)))) hL) fun _ hk hl=>?_;first|refine⟨_,rfl,hk.nix,?_⟩|refine⟨_,_,rfl,hk.nix,?_⟩|refine⟨_,_,_,rfl,hk.nix,?_⟩)|(refine Pure.runs (c_width_Of) (by first|assumption|exact Laid.below (by assumption) (by assumption)|exact Laid.nix (by first|assumption|exact Keeps.refl _ _|exact Keeps.back (by assumption) (by first|assumption|exact Keeps.refl _ _|exact Keeps.back (by assumption) (by first|assumption|exact Keeps.refl _ _|exact Keeps.back (by assumption) (by first|assumption|exact Keeps.refl _ _)|exact Keeps.backB (by assumption) (by first|assumption|exact Keeps.refl _ _))|exact Keeps.backB (by assumption) (by first|assumption|exact Keeps.refl _ _|exact Keeps.back (by assumption) (by first|assumption|exact Keeps.refl _ _)|exact Keeps.backB (by assumption) (by first|assumption|exact Keeps.refl _ _)))|exact Keeps.backB (by assumption) (by first|assumption|exact Keeps.refl _ _|exact Keeps.back (by assumption) (by first|assumption|exact Keeps.refl _ _|exact Keeps.back (by assumption) (by first|assumption|exact Keeps.refl _ _)|exact Keeps.backB (by assumption) (by first|assumption|exact Keeps.refl _ _))|exact Keeps.backB (by assumption) (by first|assumption|exact Keeps.refl _ _|exact Keeps.back (by assumption) (by first|assumption|exact Keeps.refl _ _)|exact Keeps.backB (by assumption) (by first|assumption|exact Keeps.refl _ _)))) hL) fun _ hk hl=>?_;first|refine⟨_,rfl,hk.nix,?_⟩|refine⟨_,_,rfl,hk.nix,?_⟩|refine⟨_,_,_,rfl,hk.nix,?_⟩)|(refine⟨fun i _=>(0≤i∧i≤3)∧((0<i→okM 0 c.m0 0=true)∧(1<i→okM 1 c.m1 c.m0=true)∧(2<i→okM 2 c.m2 c.m1=true)),fun i=>(3-i).toNat,?_,?_⟩;dsimp only)|(refine⟨_,eq_marks c.m0 c.m1 c.m2 0 0 0,?_⟩)|(refine And.intro ?_ ?_)|intro _|dsimp only)
 all_goals first|rfl|(unfold I64;omega)|(exfalso;first|omega|contradiction|(simp_all;done))|(simp[bv_lt,bv_le,bv_eq,bv_ok,bv_no, *,validCl,okMs,okM];done)|grind [bv_lt,bv_le,bv_eq,bv_ok,bv_no,validCl,okMs,okM]
end Go.Proofs.YtjhhiindeignaaaGreatDoor
namespace Go.Sy
open Go.RowKit (Below)
end Go.Sy
namespace Go.Proofs.YtjhhiindeignaaaGreatDoor
open Go Go.RowKit Go.Sy Go.Rep
def zCl:Cl:=⟨0,0,0,0,0,⟨⟨0,0,0,0,0⟩,⟨0,0,0,0,0⟩,0⟩⟩
def cAt (l:List Cl) (i:Nat):Cl:=l.getD i zCl
def CRow (w:World) (p:Option Addr) (n:Nat) (l:List Cl):Prop:=Row w p n 16 (cvals l)
section
variable {w w':World} {p:Option Addr} {n:Nat} {l:List Cl}
theorem CRow.len (h:CRow w p n l):l.length=n:=by have:=Row.len h;rw[cvals_length] at this;omega
theorem CRow.nix (h:CRow w p n l) (hk:Keeps Nix w w'):CRow w' p n l:=Row.nix h hk
theorem CRow.keeps {F:Nat→Prop} (h:CRow w p n l) (hk:Keeps F w w') (hF:∀a,p=some a→¬F a.block):CRow w' p n l:=Row.keeps h hk hF
theorem cvals_one' (l:List Cl) (k:Nat) (h:k<l.length):(cAt l k).arr.toList=((cvals l).drop (k*16)).take (cAt l k).arr.toList.length:=by
 have e:cvals (l.drop k)=(cAt l k).arr.toList++cvals (l.drop (k+1)):=by
  rw[List.drop_eq_getElem_cons h,cvals_cons]
  simp[cAt,h]
 rw[cvals_drop,e]
 rfl
theorem CRow.get (h:CRow w p n l) {i:Int} (h0:0≤i) (hi:i<n):∃a,p=some a∧At w a (i.toNat*16) (cAt l i.toNat).arr.toList:=by
 obtain⟨a,e⟩:=Row.some_ h (by omega)
 have:=h.len
 exact⟨a,e,Row.at_ h e _ (cvals_one' l i.toNat (by omega))⟩
theorem CRow.ex (h:CRow w p n l) {i:Int} {R:Cl→Addr→Prop} (h0:0≤i) (h1:i<n) (hR:∀a,p=some a→At w a (i.toNat*16) (cAt l i.toNat).arr.toList→R (cAt l i.toNat) a):∃a,p=some a∧((0≤i∧i<n)∧∃c:Cl,At w a (i.toNat*16) c.arr.toList∧R c a):=by
 obtain⟨a,e,ha⟩:=h.get h0 h1
 exact⟨a,e,⟨h0,h1⟩,_,ha,hR a e ha⟩
theorem CRow.exW (h:CRow w p n l) {i:Int} {R:Int→Addr→Prop} (h0:0≤i) (h1:i<n) (hR:∀a,p=some a→At w a (i.toNat*16) (cAt l i.toNat).arr.toList→R (cAt l i.toNat).w a):∃a,p=some a∧((0≤i∧i<n)∧∃c:Int,At w a (i.toNat*16+4) [.int .i64 c]∧R c a):=by
 obtain⟨a,e,ha⟩:=h.get h0 h1
 exact⟨a,e,⟨h0,h1⟩,_,ha.one 4 rfl,hR a e ha⟩
theorem CRow.exP (h:CRow w p n l) {i:Int} {R:Pn→Addr→Prop} (h0:0≤i) (h1:i<n) (hR:∀a,p=some a→At w a (i.toNat*16) (cAt l i.toNat).arr.toList→R (cAt l i.toNat).p a):∃a,p=some a∧((0≤i∧i<n)∧∃c:Pn,At w a (i.toNat*16+5) c.arr.toList∧R c a):=by
 obtain⟨a,e,ha⟩:=h.get h0 h1
 exact⟨a,e,⟨h0,h1⟩,_,ha.sub 5 rfl,hR a e ha⟩
end
end Go.Proofs.YtjhhiindeignaaaGreatDoor
namespace Go.Proofs.YtjhhiindeignaaaGreatDoor
open Go Go.RowKit Go.Sy Go.Rep
set_option maxRecDepth 100000
set_option maxHeartbeats 2000000
def behind (l:List Cl) (i:Int):Bool:=decide (0<i)&&decide ((cAt l (i-1).toNat).w=2)
def rowAt (l:List Cl) (i:Int):Bool:=
 validCl (cAt l i.toNat)&&(decide ((cAt l i.toNat).w=0)==behind l i)&&(!behind l i||decide ((cAt l i.toNat).p=(cAt l (i-1).toNat).p))&& !(decide ((cAt l i.toNat).w=2)&&decide (i=l.length-1))
def rowTo (l:List Cl):Nat→Bool
 |0=>true
 |i+1=>rowTo l i&&rowAt l i
def rowB (l:List Cl):Bool:=rowTo l l.length
theorem rowTo_not {l:List Cl} {i:Nat} (h:rowAt l i=false):∀k,i<k→rowTo l k=false:=by
 intro k hk
 induction k with
 |zero=>omega
 |succ k ih=>
  rw[rowTo]
  by_cases e:i=k
  ·subst e;rw[h,Bool.and_false]
  ·rw[ih (by omega),Bool.false_and]
theorem rowB_not {l:List Cl} {i:Int} (h:rowAt l i=false) (h0:0≤i) (h1:i<l.length):rowB l=false:=rowTo_not (i:=i.toNat) (by rw[Int.toNat_of_nonneg h0];exact h) _ (by omega)
theorem rowB_not2 {l:List Cl} {n:Nat} {i:Int} (hI:(0≤i∧i≤n)∧rowTo l i.toNat=true) (hi:i<n) (hl:l.length=n) (h:rowAt l i=false):rowB l=false:=rowB_not h (by omega) (by omega)
theorem rowTo_next2 {l:List Cl} {n:Nat} {i:Int} (hI:(0≤i∧i≤n)∧rowTo l i.toNat=true) (h:rowAt l i=true):rowTo l (i+1).toNat=true:=by
 rw[show(i+1).toNat=i.toNat+1 by omega,rowTo,hI.2,Int.toNat_of_nonneg hI.1.1,h];rfl
theorem r_cell_Row {w:World} {pl:Option Addr} {nl cl:Nat} {l:List Cl} (hL:Laid w) (h:CRow w pl nl l) (hn:nl≤1073741824):Ret X.cell_Row #[.slice pl nl cl] w (.bool (rowB l)):=by
 have hl:=h.len
 refine v_cell_Row pl nl cl ?_
 repeat' (first|(refine Fin.of fun _=>?_)|(refine FinE.of fun _=>?_)|(refine Pure.runs (c_cell_Valid) (by first|assumption|exact Laid.below (by assumption) (by assumption)|exact Laid.nix (by first|assumption|exact Keeps.refl _ _|exact Keeps.back (by assumption) (by first|assumption|exact Keeps.refl _ _|exact Keeps.back (by assumption) (by first|assumption|exact Keeps.refl _ _|exact Keeps.back (by assumption) (by first|assumption|exact Keeps.refl _ _)|exact Keeps.backB (by assumption) (by first|assumption|exact Keeps.refl _ _))|exact Keeps.backB (by assumption) (by first|assumption|exact Keeps.refl _ _|exact Keeps.back (by assumption) (by first|assumption|exact Keeps.refl _ _)|exact Keeps.backB (by assumption) (by first|assumption|exact Keeps.refl _ _)))|exact Keeps.backB (by assumption) (by first|assumption|exact Keeps.refl _ _|exact Keeps.back (by assumption) (by first|assumption|exact Keeps.refl _ _|exact Keeps.back (by assumption) (by first|assumption|exact Keeps.refl _ _)|exact Keeps.backB (by assumption) (by first|assumption|exact Keeps.refl _ _))|exact Keeps.backB (by assumption) (by first|assumption|exact Keeps.refl _ _|exact Keeps.back (by assumption) (by first|assumption|exact Keeps.refl _ _)|exact Keeps.backB (by assumption) (by first|assumption|exact Keeps.refl _ _)))) hL) fun _ hk hl=>?_;first|refine⟨_,rfl,hk.nix,?_⟩|refine⟨_,_,rfl,hk.nix,?_⟩|refine⟨_,_,_,rfl,hk.nix,?_⟩)|(refine⟨fun i _=>(0≤i∧i≤nl)∧rowTo l i.toNat=true,fun i=>(nl-i).toNat,?_,?_⟩;dsimp only)|(refine CRow.ex (h.nix (by first|assumption|exact Keeps.refl _ _|exact Keeps.back (by assumption) (by first|assumption|exact Keeps.refl _ _|exact Keeps.back (by assumption) (by first|assumption|exact Keeps.refl _ _|exact Keeps.back (by assumption) (by first|assumption|exact Keeps.refl _ _)|exact Keeps.backB (by assumption) (by first|assumption|exact Keeps.refl _ _))|exact Keeps.backB (by assumption) (by first|assumption|exact Keeps.refl _ _|exact Keeps.back (by assumption) (by first|assumption|exact Keeps.refl _ _)|exact Keeps.backB (by assumption) (by first|assumption|exact Keeps.refl _ _)))|exact Keeps.backB (by assumption) (by first|assumption|exact Keeps.refl _ _|exact Keeps.back (by assumption) (by first|assumption|exact Keeps.refl _ _|exact Keeps.back (by assumption) (by first|assumption|exact Keeps.refl _ _)|exact Keeps.backB (by assumption) (by first|assumption|exact Keeps.refl _ _))|exact Keeps.backB (by assumption) (by first|assumption|exact Keeps.refl _ _|exact Keeps.back (by assumption) (by first|assumption|exact Keeps.refl _ _)|exact Keeps.backB (by assumption) (by first|assumption|exact Keeps.refl _ _))))) (by omega) (by omega) fun _ _ _=>?_)|(refine CRow.exW (h.nix (by first|assumption|exact Keeps.refl _ _|exact Keeps.back (by assumption) (by first|assumption|exact Keeps.refl _ _|exact Keeps.back (by assumption) (by first|assumption|exact Keeps.refl _ _|exact Keeps.back (by assumption) (by first|assumption|exact Keeps.refl _ _)|exact Keeps.backB (by assumption) (by first|assumption|exact Keeps.refl _ _))|exact Keeps.backB (by assumption) (by first|assumption|exact Keeps.refl _ _|exact Keeps.back (by assumption) (by first|assumption|exact Keeps.refl _ _)|exact Keeps.backB (by assumption) (by first|assumption|exact Keeps.refl _ _)))|exact Keeps.backB (by assumption) (by first|assumption|exact Keeps.refl _ _|exact Keeps.back (by assumption) (by first|assumption|exact Keeps.refl _ _|exact Keeps.back (by assumption) (by first|assumption|exact Keeps.refl _ _)|exact Keeps.backB (by assumption) (by first|assumption|exact Keeps.refl _ _))|exact Keeps.backB (by assumption) (by first|assumption|exact Keeps.refl _ _|exact Keeps.back (by assumption) (by first|assumption|exact Keeps.refl _ _)|exact Keeps.backB (by assumption) (by first|assumption|exact Keeps.refl _ _))))) (by omega) (by omega) fun _ _ _=>?_)|(refine CRow.exP (h.nix (by first|assumption|exact Keeps.refl _ _|exact Keeps.back (by assumption) (by first|assumption|exact Keeps.refl _ _|exact Keeps.back (by assumption) (by first|assumption|exact Keeps.refl _ _|exact Keeps.back (by assumption) (by first|assumption|exact Keeps.refl _ _)|exact Keeps.backB (by assumption) (by first|assumption|exact Keeps.refl _ _))|exact Keeps.backB (by assumption) (by first|assumption|exact Keeps.refl _ _|exact Keeps.back (by assumption) (by first|assumption|exact Keeps.refl _ _)|exact Keeps.backB (by assumption) (by first|assumption|exact Keeps.refl _ _)))|exact Keeps.backB (by assumption) (by first|assumption|exact Keeps.refl _ _|exact Keeps.back (by assumption) (by first|assumption|exact Keeps.refl _ _|exact Keeps.back (by assumption) (by first|assumption|exact Keeps.refl _ _)|exact Keeps.backB (by assumption) (by first|assumption|exact Keeps.refl _ _))|exact Keeps.backB (by assumption) (by first|assumption|exact Keeps.refl _ _|exact Keeps.back (by assumption) (by first|assumption|exact Keeps.refl _ _)|exact Keeps.backB (by assumption) (by first|assumption|exact Keeps.refl _ _))))) (by omega) (by omega) fun _ _ _=>?_)|(refine⟨_,eq_pen _ _,?_⟩)|(refine And.intro ?_ ?_)|intro _|dsimp only)
 all_goals first|(refine congrArg Value.bool (Eq.symm (rowB_not2 (by assumption) (by assumption) (by assumption) ?_));first|(simp_all [rowAt,behind,bv_eq];done)|grind [rowAt,behind,bv_eq])|(refine rowTo_next2 (by assumption) ?_;first|(simp_all [rowAt,behind,bv_eq];done)|grind [rowAt,behind,bv_eq])|rfl|(unfold I64;omega)|(exfalso;first|omega|contradiction|(simp_all;done))|(simp[bv_lt,bv_le,bv_eq,bv_ok,bv_no, *,rowB];done)|grind [bv_lt,bv_le,bv_eq,bv_ok,bv_no,rowB]
end Go.Proofs.YtjhhiindeignaaaGreatDoor
namespace Go.Proofs.YtjhhiindeignaaaGreatDoor
open Go Go.RowKit Go.Sy Go.Rep
set_option maxRecDepth 100000
set_option maxHeartbeats 2000000
def fullCl (c:Cl):Bool:=decide (c.m0≠0)&&(decide (c.m1≠0)&&decide (c.m2≠0))
def markCl (c:Cl) (r:Int):Cl:=if c.m0=0 then⟨c.r,r,c.m1,c.m2,c.w,c.p⟩ else if c.m1=0 then⟨c.r,c.m0,r,c.m2,c.w,c.p⟩ else if c.m2=0 then⟨c.r,c.m0,c.m1,r,c.w,c.p⟩ else zCl
theorem c_cell_Mark {c:Cl} {r:Int} (hv:validCl c=true) (hw:wOf r=0) (hr:c.r≠0):Pure X.cell_Mark #[.agg c.arr, .int .i32 r] (.tuple #[.agg (markCl c r).arr, .int .i64 (if fullCl c=true then 7 else 0)]):=by
 intro w hL
 refine v_cell_Mark c r ?_
 repeat' (first|(refine Fin.of fun _=>?_)|(refine FinE.of fun _=>?_)|(refine Pure.runs (c_cell_Valid) (by first|assumption|exact Laid.below (by assumption) (by assumption)|exact Laid.nix (by first|assumption|exact Keeps.refl _ _|exact Keeps.back (by assumption) (by first|assumption|exact Keeps.refl _ _|exact Keeps.back (by assumption) (by first|assumption|exact Keeps.refl _ _|exact Keeps.back (by assumption) (by first|assumption|exact Keeps.refl _ _)|exact Keeps.backB (by assumption) (by first|assumption|exact Keeps.refl _ _))|exact Keeps.backB (by assumption) (by first|assumption|exact Keeps.refl _ _|exact Keeps.back (by assumption) (by first|assumption|exact Keeps.refl _ _)|exact Keeps.backB (by assumption) (by first|assumption|exact Keeps.refl _ _)))|exact Keeps.backB (by assumption) (by first|assumption|exact Keeps.refl _ _|exact Keeps.back (by assumption) (by first|assumption|exact Keeps.refl _ _|exact Keeps.back (by assumption) (by first|assumption|exact Keeps.refl _ _)|exact Keeps.backB (by assumption) (by first|assumption|exact Keeps.refl _ _))|exact Keeps.backB (by assumption) (by first|assumption|exact Keeps.refl _ _|exact Keeps.back (by assumption) (by first|assumption|exact Keeps.refl _ _)|exact Keeps.backB (by assumption) (by first|assumption|exact Keeps.refl _ _)))) hL) fun _ hk hl=>?_;first|refine⟨_,rfl,hk.nix,?_⟩|refine⟨_,_,rfl,hk.nix,?_⟩|refine⟨_,_,_,rfl,hk.nix,?_⟩)|(refine Pure.runs (c_width_Of) (by first|assumption|exact Laid.below (by assumption) (by assumption)|exact Laid.nix (by first|assumption|exact Keeps.refl _ _|exact Keeps.back (by assumption) (by first|assumption|exact Keeps.refl _ _|exact Keeps.back (by assumption) (by first|assumption|exact Keeps.refl _ _|exact Keeps.back (by assumption) (by first|assumption|exact Keeps.refl _ _)|exact Keeps.backB (by assumption) (by first|assumption|exact Keeps.refl _ _))|exact Keeps.backB (by assumption) (by first|assumption|exact Keeps.refl _ _|exact Keeps.back (by assumption) (by first|assumption|exact Keeps.refl _ _)|exact Keeps.backB (by assumption) (by first|assumption|exact Keeps.refl _ _)))|exact Keeps.backB (by assumption) (by first|assumption|exact Keeps.refl _ _|exact Keeps.back (by assumption) (by first|assumption|exact Keeps.refl _ _|exact Keeps.back (by assumption) (by first|assumption|exact Keeps.refl _ _)|exact Keeps.backB (by assumption) (by first|assumption|exact Keeps.refl _ _))|exact Keeps.backB (by assumption) (by first|assumption|exact Keeps.refl _ _|exact Keeps.back (by assumption) (by first|assumption|exact Keeps.refl _ _)|exact Keeps.backB (by assumption) (by first|assumption|exact Keeps.refl _ _)))) hL) fun _ hk hl=>?_;first|refine⟨_,rfl,hk.nix,?_⟩|refine⟨_,_,rfl,hk.nix,?_⟩|refine⟨_,_,_,rfl,hk.nix,?_⟩)|(refine Pure.runs (c_cell_Written) (by first|assumption|exact Laid.below (by assumption) (by assumption)|exact Laid.nix (by first|assumption|exact Keeps.refl _ _|exact Keeps.back (by assumption) (by first|assumption|exact Keeps.refl _ _|exact Keeps.back (by assumption) (by first|assumption|exact Keeps.refl _ _|exact Keeps.back (by assumption) (by first|assumption|exact Keeps.refl _ _)|exact Keeps.backB (by assumption) (by first|assumption|exact Keeps.refl _ _))|exact Keeps.backB (by assumption) (by first|assumption|exact Keeps.refl _ _|exact Keeps.back (by assumption) (by first|assumption|exact Keeps.refl _ _)|exact Keeps.backB (by assumption) (by first|assumption|exact Keeps.refl _ _)))|exact Keeps.backB (by assumption) (by first|assumption|exact Keeps.refl _ _|exact Keeps.back (by assumption) (by first|assumption|exact Keeps.refl _ _|exact Keeps.back (by assumption) (by first|assumption|exact Keeps.refl _ _)|exact Keeps.backB (by assumption) (by first|assumption|exact Keeps.refl _ _))|exact Keeps.backB (by assumption) (by first|assumption|exact Keeps.refl _ _|exact Keeps.back (by assumption) (by first|assumption|exact Keeps.refl _ _)|exact Keeps.backB (by assumption) (by first|assumption|exact Keeps.refl _ _)))) hL) fun _ hk hl=>?_;first|refine⟨_,rfl,hk.nix,?_⟩|refine⟨_,_,rfl,hk.nix,?_⟩|refine⟨_,_,_,rfl,hk.nix,?_⟩)|(refine⟨fun i a0 a1 a2 a3 a4 k1 k2 k3 k4 k5 k6 k7 k8 k9 k10 k11 _=>(0≤i∧i≤3)∧((0<i→c.m0≠0)∧(1<i→c.m1≠0)∧(2<i→c.m2≠0))∧c=⟨a0,a1,a2,a3,a4,⟨⟨k1,k2,k3,k4,k5⟩,⟨k6,k7,k8,k9,k10⟩,k11⟩⟩,fun i _ _ _ _ _ _ _ _ _ _ _ _ _ _ _ _=>(3-i).toNat,?_,?_⟩;dsimp only)|(refine And.intro ?_ ?_)|intro _|dsimp only)
 all_goals first|rfl|(unfold I64;omega)|(exfalso;first|omega|contradiction|(simp_all;done))|(simp[bv_lt,bv_le,bv_eq,bv_ok,bv_no, *,markCl,fullCl,zCl];done)|grind [bv_lt,bv_le,bv_eq,bv_ok,bv_no,markCl,fullCl,zCl]
theorem wrap32 {n:Int} (h1: -2147483648≤n) (h2:n≤2147483647):IntKind.wrap .i32 n=n:=by
 unfold IntKind.wrap
 simp[IntKind.bits,IntKind.signed]
 omega
def mapCs (c:Cs) (r:Int):Int:=if okCs c=true∧(if c.act=0 then c.g0 else c.g1)=1∧95≤r∧r-95<32 then linesT.getD (r-95).toNat 0 else r
theorem Laid.line {w:World} (hL:Laid w) {i:Int} {R:Int→Prop} (h0:0≤i) (h1:i<32) (hR:R (linesT.getD i.toNat 0)):∃k:Int,At w ⟨Y.charset_lines,0,none⟩ (0+(i.toNat*1)) [.int .i32 k]∧R k:=
 ⟨_,hL.lines.sub (i.toNat*1) (runesV_one linesT i.toNat (by have:linesT.length=32:=rfl;omega)),hR⟩
theorem c_charset_Map {c:Cs} {r:Int} (h0: -1000≤r) (h1:r≤1114111):Pure X.charset_Map #[.agg c.arr, .int .i32 r] (.int .i32 (mapCs c r)):=by
 have e:=wrap32 (n:=r-95) (by omega) (by omega);have hk:okCs c=true→c.act=0∨c.act=1:=fun h=>by simp[okCs] at h;exact h.2
 intro w hL
 refine v_charset_Map c r ?_
 repeat' (first|(refine Fin.of fun _=>?_)|(refine FinE.of fun _=>?_)|(refine Pure.runs (c_charset_Valid) (by first|assumption|exact Laid.below (by assumption) (by assumption)|exact Laid.nix (by first|assumption|exact Keeps.refl _ _|exact Keeps.back (by assumption) (by first|assumption|exact Keeps.refl _ _|exact Keeps.back (by assumption) (by first|assumption|exact Keeps.refl _ _|exact Keeps.back (by assumption) (by first|assumption|exact Keeps.refl _ _)|exact Keeps.backB (by assumption) (by first|assumption|exact Keeps.refl _ _))|exact Keeps.backB (by assumption) (by first|assumption|exact Keeps.refl _ _|exact Keeps.back (by assumption) (by first|assumption|exact Keeps.refl _ _)|exact Keeps.backB (by assumption) (by first|assumption|exact Keeps.refl _ _)))|exact Keeps.backB (by assumption) (by first|assumption|exact Keeps.refl _ _|exact Keeps.back (by assumption) (by first|assumption|exact Keeps.refl _ _|exact Keeps.back (by assumption) (by first|assumption|exact Keeps.refl _ _)|exact Keeps.backB (by assumption) (by first|assumption|exact Keeps.refl _ _))|exact Keeps.backB (by assumption) (by first|assumption|exact Keeps.refl _ _|exact Keeps.back (by assumption) (by first|assumption|exact Keeps.refl _ _)|exact Keeps.backB (by assumption) (by first|assumption|exact Keeps.refl _ _)))) hL) fun _ hk hl=>?_;first|refine⟨_,rfl,hk.nix,?_⟩|refine⟨_,_,rfl,hk.nix,?_⟩|refine⟨_,_,_,rfl,hk.nix,?_⟩)|(rw[e])|(simp only[e])|(refine Laid.line (by first|assumption|exact Laid.nix (by assumption) (by assumption)) (by omega) (by omega) ?_)|(refine And.intro ?_ ?_)|intro _)
 all_goals first|rfl|(unfold I64;omega)|(exfalso;first|omega|contradiction|(simp_all;done))|(simp[bv_lt,bv_le,bv_eq,bv_ok,bv_no, *,mapCs];done)|grind [bv_lt,bv_le,bv_eq,bv_ok,bv_no,mapCs]
end Go.Proofs.YtjhhiindeignaaaGreatDoor
namespace Go.Sy
open Go.RowKit (Below)
variable {w w':World} {p:Option Addr} {n es:Nat} {vs:List Value}
theorem At.shift {a:Addr} {k:Nat} {vs:List Value} (h:At w a k vs):At w (a.add k) 0 vs:=by
 intro i v hv
 rw[Nat.zero_add,add_add]
 exact h i v hv
end Go.Sy
namespace Go.Proofs.YtjhhiindeignaaaGreatDoor
open Go Go.RowKit Go.Sy Go.Rep
end Go.Proofs.YtjhhiindeignaaaGreatDoor
namespace Go.Sy
open Go.RowKit (Below)
def Own (lo:Nat) (w:World) (e:TypeId) (s:Nat) (p:Option Addr) (n c:Nat) (xs:List Value):Prop:=w.ownsRow lo e s (.slice p n c) n xs
section
variable {w w':World} {B B':Nat} {e:TypeId} {s n c:Nat} {p:Option Addr} {xs ys:List Value}
theorem Own.lt (h:Own B w e s p n c xs):∀a,p=some a→a.block<w.heap.size∧B≤a.block∧∃cs,w.heap[a.block]? =some (.cells cs e (0,0)):=by
 intro a ha
 rcases h.2 with⟨hv,_⟩|⟨g,cap,cur,hv,hB,hg,_⟩
 ·injection hv with hv;rw[hv] at ha;cases ha
 ·injection hv with hv
  rw[hv] at ha
  injection ha with ha
  subst ha
  exact⟨(Array.getElem?_eq_some_iff.1 hg).1,hB,_,hg⟩
theorem Own.same (h:Own B w e s p n c xs) (hk:∀a,p=some a→w'.heap[a.block]? =w.heap[a.block]?):Own B w' e s p n c xs:=by
 refine⟨h.1,?_⟩
 rcases h.2 with⟨hv,hn⟩|⟨g,cap,cur,hv,hB,hg,hr⟩
 ·exact .inl ⟨hv,hn⟩
 ·injection hv with hv1 hv2 hv3
  exact .inr ⟨g,cap,cur,by rw[hv1,hv3],hB,(hk _ hv1).trans hg,hr⟩
theorem Own.base (h:Own B w e s p n c xs) (hk:∀a,p=some a→B'≤a.block):Own B' w e s p n c xs:=by
 refine⟨h.1,?_⟩
 rcases h.2 with⟨hv,hn⟩|⟨g,cap,cur,hv,hB,hg,hr⟩
 ·exact .inl ⟨hv,hn⟩
 ·injection hv with hv1 hv2 hv3
  exact .inr ⟨g,cap,cur,by rw[hv1,hv3],hk _ hv1,hg,hr⟩
theorem Own.low (h:Own B w e s p n c xs) (hB:B'≤B):Own B' w e s p n c xs:=h.base fun a ha=>Nat.le_trans hB (h.lt a ha).2.1
theorem Own.nil (B:Nat) (w:World) (e:TypeId) (s:Nat):Own B w e s none 0 0 []:=⟨by simp, .inl ⟨rfl,rfl⟩⟩
theorem Own.cap (h:Own B w e s p n c xs):n≤c:=by
 rcases h.2 with⟨hv,hn⟩|⟨g,cap,cur,hv,_,_,hc,_⟩
 ·injection hv with _ h1 h2;omega
 ·injection hv with _ _ h2;omega
theorem Own.len (h:Own B w e s p n c xs):xs.length=n*s:=h.1
theorem Own.place (h:Own B w e s p n c xs):p=none∧n=0∧c=0∨∃g,p=some ⟨g,0,none⟩∧B≤g:=by
 rcases h.2 with⟨hv,hn⟩|⟨g,cap,cur,hv,hB,_⟩
 ·injection hv with h0 h1 h2;exact .inl ⟨h0,by omega,by omega⟩
 ·injection hv with hv;exact .inr ⟨g,hv,hB⟩
theorem Own.row (h:Own B w e s p n c xs):Row w p n s xs:=by
 refine⟨h.1,fun a ha=>?_,fun hn=>?_⟩
 ·rcases h.place with⟨h0,_⟩|⟨g,hg,_⟩
  ·rw[h0] at ha;cases ha
  ·rw[hg] at ha
   cases ha
   subst hg
   intro j u hu
   rw[Nat.zero_add]
   exact World.ownsRow.cells h rfl j u hu
 ·rcases h.place with⟨_,h1,_⟩|⟨g,hg,_⟩
  ·omega
  ·exact⟨_,hg⟩
theorem Own.keeps {F:Nat→Prop} (h:Own B w e s p n c xs) (hk:Keeps F w w') (hF:∀a,p=some a→¬F a.block):Own B w' e s p n c xs:=h.same fun a ha=>hk.heap _ (h.lt a ha).1 (hF a ha)
theorem Own.nix (h:Own B w e s p n c xs) (hk:Keeps Nix w w'):Own B w' e s p n c xs:=h.keeps hk fun _ _ e=>e
theorem Own.below (h:Own B w e s p n c xs) (hb:Below w.heap.size w w'):Own B w' e s p n c xs:=h.nix (Keeps.of_below hb)
theorem Own.zero (h:Own B w e s p n c xs):w.ownsRow 0 e s (.slice p n c) n xs:=h.low (Nat.zero_le _)
theorem Mine.lt {lo:Nat} {ls:List (Nat×TypeId)} (h:Mine w lo ls) {d:Nat} (hd:d∈ls.map (·.1)):d<w.heap.size:=by
 obtain⟨q,hq,rfl⟩:=List.mem_map.1 hd
 obtain⟨_,cs,hc⟩:=h q hq
 exact(Array.getElem?_eq_some_iff.1 hc).1
theorem Own.ext {ds:List Nat} (h:Own B w e s p n c xs) (hx:Ext w ds w') (hd:∀d∈ds,d<B):Own B w' e s p n c xs:=h.same fun a ha=>by
 have:=h.lt a ha
 exact hx.heap _ this.1 fun hm=>by have:=hd _ hm;omega
theorem Litr.own {ds:List Nat} {cs:List Value} {b:Nat} (h:Litr w ds e cs w' b) (hl:cs.length=n*s) (hn:n≤maxLen):Own w.heap.size w' e s (some ⟨b,0,none⟩) n n cs:=
 ⟨hl, .inr ⟨b,n,cs.toArray,rfl,h.new,h.row,Nat.le_refl _,hn,by simp[hl],by rw[←hl];simp⟩⟩
theorem Litr.keeps {ds:List Nat} {cs:List Value} {b:Nat} (h:Litr w ds e cs w' b) (hd:ds=[]):Keeps Nix w w':=by
 subst hd
 exact⟨h.os,h.tape,h.output,Nat.le_of_lt (Nat.lt_of_le_of_lt h.new h.size),fun i hi _=>h.heap i hi (by simp)⟩
theorem Grown.own {ds:List Nat} {p':Option Addr} {n0 c0 c' m:Nat} (h:Grown w ds p n0 c0 e s m xs w' p' c') (hB:B≤w.heap.size) (hp:∀a,p=some a→B≤a.block):Own B w' e s p' m c' xs:=by
 refine Own.base (B:=0) h.row fun a ha=>?_
 rcases h.place a ha with⟨b,hb,e',_⟩|q
 ·rw[e'];exact hp b hb
 ·omega
theorem Grown.keeps {F:Nat→Prop} {p':Option Addr} {n0 c0 c' m:Nat} (h:Grown w [] p n0 c0 e s m xs w' p' c') (hp:n0<c0→∀a,p=some a→F a.block):Keeps F w w':=
 ⟨h.os,h.tape,h.output,h.size,fun i hi hF=>h.heap i hi (by simp) fun hlt a ha e=>hF (by rw[e];exact hp hlt a ha)⟩
end
theorem cutP_zero {p:Option Addr} {c es:Nat}:cutP p c 0 es=p:=by
 unfold cutP
 split
 ·rfl
 ·cases p with
  |none=>rfl
  |some a=>
   show some (a.add (0*es))=some a
   rw[Nat.zero_mul]
   unfold Addr.add
   rw[if_pos rfl]
end Go.Sy
namespace Go.Proofs.YtjhhiindeignaaaGreatDoor
open Go Go.RowKit Go.Sy Go.Rep
abbrev OwnC (lo:Nat) (w:World) (p:Option Addr) (n c:Nat) (l:List Cl):Prop:=Own lo w T.Cell 16 p n c (cvals l)
theorem OwnC.crow {lo:Nat} {w:World} {p:Option Addr} {n c:Nat} {l:List Cl} (h:OwnC lo w p n c l):CRow w p n l:=Own.row h
def NewC (w0:World) (l:List Cl) (v:Value) (w:World):Prop:=∃p c,v= .slice p l.length c∧OwnC w0.heap.size w p l.length c l
theorem clone_any {w0 w1 w2:World} {e:TypeId} {s n1 ns n2:Nat} {p1:Option Addr} {xs:List Value} (h1:Litr w0 [] e [] w1 n1) (h2:Grown w1 [] (some ⟨n1,0,none⟩) 0 0 e s (0+ns) ([]++xs) w2 p1 n2):Own w0.heap.size w2 e s p1 ns n2 xs∧Keeps Nix w0 w2:=by
 have hk:=Litr.keeps h1 rfl
 have:=Grown.own (B:=w0.heap.size) h2 hk.size fun a ha=>by cases ha;exact h1.new
 rw[Nat.zero_add,List.nil_append] at this
 exact⟨this,hk.trans (Grown.keeps h2 fun h=>by omega)⟩
theorem lit_room {w0 w1:World} {lo:Nat} {F:Nat→Prop} {e:TypeId} {s n1 m:Nat} (h:Litr w0 [] e [] w1 n1):Room lo F [] w1 e s (some ⟨n1,0,none⟩) 0 0 [] m:=
 .inl ⟨(Litr.own (s:=s) (n:=0) h (by simp) (Nat.zero_le _)).zero,fun a ha=>⟨by simp,fun h=>by omega⟩⟩
end Go.Proofs.YtjhhiindeignaaaGreatDoor
namespace Go.Proofs.YtjhhiindeignaaaGreatDoor
open Go Go.RowKit Go.Sy Go.Rep
set_option maxRecDepth 100000
theorem v_line_Copy {w0:World} {F:Nat→Prop} {Q:Value→World→Prop} (l:Lh) (h:∀n1:Nat,(w0.heap.size≤n1)→∀n2:Nat,(w0.heap.size≤n2)→∀w1:World,(Below w0.heap.size w0 w1)→(Mine w1 w0.heap.size [(n1,T.Line),(n2,T.Line)])→Runs Tryz.prog X.slices_Clone_Cell #[(.slice l.cells.p l.cells.n l.cells.c)] w1 (fun e1 w2=>∃p1:Option Addr,∃n3 n4:Nat,(e1=(.returned (.slice p1 n3 n4)))∧((Kept w0.heap.size F [n1,n2] w1 w2)∧FinE w0 F w2 [n2,n1] Q (.agg #[(.slice p1 n3 n4),(.bool l.soft)])))):Gets Tryz.prog X.line_Copy #[(.agg l.arr)] w0 F Q:=
 func_run mixed [] [] X.line_Copy [SV.agg (Lh.cod.enc l)] ⟨okA _ _,trivial⟩ (by kernel_rfl) (by kernel_rfl) h
theorem v_line_Valid {w0:World} {F:Nat→Prop} {Q:Value→World→Prop} (l:Lh) (h:∀n1:Nat,(w0.heap.size≤n1)→(((l.cells.n:Int)≤1000)→∀w2:World,(Below w0.heap.size w0 w2)→(Mine w2 w0.heap.size [(n1,T.Line)])→Runs Tryz.prog X.cell_Row #[(.slice l.cells.p l.cells.n l.cells.c)] w2 (fun e1 w3=>∃b1:Bool,(e1=(.returned (.bool b1)))∧((Kept w0.heap.size F [n1] w2 w3)∧Fin w0 F w3 Q (.bool b1))))∧(((1000:Int)<(l.cells.n:Int))→Fin w0 F w0 Q (.bool false))):Gets Tryz.prog X.line_Valid #[(.agg l.arr)] w0 F Q:=
 func_run mixed [] [] X.line_Valid [SV.agg (Lh.cod.enc l)] ⟨okA _ _,trivial⟩ (by kernel_rfl) (by kernel_rfl) h
theorem v_slices_Clone_Cell {w0:World} {F:Nat→Prop} {Q:Value→World→Prop} (ps:Option Addr) (ns:Nat) (cs:Nat) (h:((ps=none)→Fin w0 F w0 Q (.slice none 0 0))∧((¬(ps=none))→∀w1:World,∀n1:Nat,(Litr w0 [] T.Cell [] w1 n1)→∃s1:List Value,(Room w0.heap.size F [] w1 T.Cell 16 (some ⟨n1,0,none⟩) 0 0 s1 ns)∧∃s2:List Value,(((s2.length)=(ns*16))∧((∀v1:Value,(v1∈s2)→(v1.oneCell')=true)∧(((ps=none)→ns=0)∧∀a1:Addr,(ps=(some a1))→At w1 a1 0 s2)))∧((((0+ns)*64)≤140737488355328)∧∀w2:World,∀p1:Option Addr,∀n2:Nat,(Grown w1 [] (some ⟨n1,0,none⟩) 0 0 T.Cell 16 (0+ns) (s1++s2) w2 p1 n2)→Fin w0 F w2 Q (.slice p1 (0+ns) n2)))):Gets Tryz.prog X.slices_Clone_Cell #[(.slice ps ns cs)] w0 F Q:=
 func_run mixed [] [] X.slices_Clone_Cell [SV.sl ps ns cs] ⟨by trivial,trivial⟩ (by kernel_rfl) (by kernel_rfl) h
theorem v_slices_Clone_Line {w0:World} {F:Nat→Prop} {Q:Value→World→Prop} (ps:Option Addr) (ns:Nat) (cs:Nat) (h:((ps=none)→Fin w0 F w0 Q (.slice none 0 0))∧((¬(ps=none))→∀w1:World,∀n1:Nat,(Litr w0 [] T.Line [] w1 n1)→∃s1:List Value,(Room w0.heap.size F [] w1 T.Line 2 (some ⟨n1,0,none⟩) 0 0 s1 ns)∧∃s2:List Value,(((s2.length)=(ns*2))∧((∀v1:Value,(v1∈s2)→(v1.oneCell')=true)∧(((ps=none)→ns=0)∧∀a1:Addr,(ps=(some a1))→At w1 a1 0 s2)))∧((((0+ns)*32)≤140737488355328)∧∀w2:World,∀p1:Option Addr,∀n2:Nat,(Grown w1 [] (some ⟨n1,0,none⟩) 0 0 T.Line 2 (0+ns) (s1++s2) w2 p1 n2)→Fin w0 F w2 Q (.slice p1 (0+ns) n2)))):Gets Tryz.prog X.slices_Clone_Line #[(.slice ps ns cs)] w0 F Q:=
 func_run mixed [] [] X.slices_Clone_Line [SV.sl ps ns cs] ⟨by trivial,trivial⟩ (by kernel_rfl) (by kernel_rfl) h
theorem v_slices_Repeat_Cell {w0:World} {F:Nat→Prop} {Q:Value→World→Prop} (px:Option Addr) (nx:Nat) (cx:Nat) (count:Int) (h:((count<0)→False)∧(((0:Int)≤count)→∀w1:World,(Below w0.heap.size w0 w1)→Runs Tryz.prog X.bits_Mul #[(.int .u64 (IntKind.wrap .u64 (nx:Int))),(.int .u64 (IntKind.wrap .u64 count))] w1 (fun e1 w2=>∃i1 i2:Int,(e1=(.returned (.tuple #[(.int .u64 i1),(.int .u64 i2)])))∧((Kept w0.heap.size F [] w1 w2)∧((((0:Int)<i1)→False)∧((i1≤0)→(((9223372036854775807:Int)<i2)→False)∧((i2≤9223372036854775807)→(I64 i2)∧((((0:Int)≤i2)∧((i2≤i2)∧((i2*64)≤140737488355328)))∧∀w3:World,∀n1:Nat,(Made w2 [] T.Cell 16 (Int.toNat i2) (Int.toNat i2) [(.int .i32 0),(.int .i32 0),(.int .i32 0),(.int .i32 0),(.int .i64 0),(.int .i64 0),(.int .u8 0),(.int .u8 0),(.int .u8 0),(.int .u8 0),(.int .i64 0),(.int .u8 0),(.int .u8 0),(.int .u8 0),(.int .u8 0),(.int .u8 0)] w3 n1)→∃a1:Addr,((some ⟨n1,0,none⟩)=(some a1))∧∃s1:List Value,(((s1.length)=((min nx (Int.toNat i2))*16))∧((∀v2:Value,(v2∈s1)→(v2.oneCell')=true)∧(((px=none)→(min nx (Int.toNat i2))=0)∧∀a4:Addr,(px=(some a4))→At w3 a4 0 s1)))∧(((CanPut w3 a1 0 ((min nx (Int.toNat i2))*16))∧(Away w0.heap.size F [] a1.block))∧∀w4:World,(Put w3 [] a1 0 s1 w4)→∃I1:Int→World→Prop,∃I2:Int→Nat,(∀w9:World,(Below w4.heap.size w4 w9)→I1 (((min nx (Int.toNat i2)):Nat):Int) w9)∧∀i3:Int,∀w5:World,(Keeps F w0 w5)→(I1 i3 w5)→((i3<(((Int.toNat i2):Nat):Int))→(((0:Int)≤i3)∧((i3≤(((Int.toNat i2):Nat):Int))∧((((Int.toNat i2):Nat):Int)≤(((Int.toNat i2):Nat):Int))))∧((((0:Int)≤0)∧(((0:Int)≤i3)∧(i3≤(((Int.toNat i2):Nat):Int))))∧∃a2:Addr,((cutP (some ⟨n1,0,none⟩) (Int.toNat i2) (Int.toNat i3) 16)=(some a2))∧∃s2:List Value,(((s2.length)=((min (Int.toNat (i3-0)) (Int.toNat ((((Int.toNat i2):Nat):Int)-i3)))*16))∧((∀v1:Value,(v1∈s2)→(v1.oneCell')=true)∧((((cutP (some ⟨n1,0,none⟩) (Int.toNat i2) 0 16)=none)→(min (Int.toNat (i3-0)) (Int.toNat ((((Int.toNat i2):Nat):Int)-i3)))=0)∧∀a3:Addr,((cutP (some ⟨n1,0,none⟩) (Int.toNat i2) 0 16)=(some a3))→At w5 a3 0 s2)))∧(((CanPut w5 a2 0 ((min (Int.toNat (i3-0)) (Int.toNat ((((Int.toNat i2):Nat):Int)-i3)))*16))∧(Away w0.heap.size F [] a2.block))∧∀w7:World,(Put w5 [] a2 0 s2 w7)→(I64 (i3+(((min (Int.toNat (i3-0)) (Int.toNat ((((Int.toNat i2):Nat):Int)-i3))):Nat):Int)))∧∀w8:World,(Below w7.heap.size w7 w8)→(I1 (i3+(((min (Int.toNat (i3-0)) (Int.toNat ((((Int.toNat i2):Nat):Int)-i3))):Nat):Int)) w8)∧(I2 (i3+(((min (Int.toNat (i3-0)) (Int.toNat ((((Int.toNat i2):Nat):Int)-i3))):Nat):Int))<I2 i3))))∧(((((Int.toNat i2):Nat):Int)≤i3)→Fin w0 F w5 Q (.slice (some ⟨n1,0,none⟩) (Int.toNat i2) (Int.toNat i2)))))))))))):Gets Tryz.prog X.slices_Repeat_Cell #[(.slice px nx cx),(.int .i64 count)] w0 F Q:=
 func_run mixed [⟨8,[8],[]⟩] [] X.slices_Repeat_Cell [SV.sl px nx cx,SV.int IntKind.i64 count] ⟨by trivial,by trivial,trivial⟩ (by kernel_rfl) (by kernel_rfl) h
end Go.Proofs.YtjhhiindeignaaaGreatDoor
namespace Go.Proofs.YtjhhiindeignaaaGreatDoor
open Go Go.RowKit Go.Sy Go.Rep
set_option maxRecDepth 100000
set_option maxHeartbeats 2000000
theorem r_slices_Clone_Cell {w:World} {p:Option Addr} {n c:Nat} {l:List Cl} (h:CRow w p n l) (hn:n≤1073741824):Gets Tryz.prog X.slices_Clone_Cell #[.slice p n c] w Nix (NewC w l):=by
 have hl:=h.len
 refine v_slices_Clone_Cell p n c ⟨fun e=>?_,fun e w1 n1 h1=>?_⟩
 ·intro w' hb hk
  have h0:n=0:=by
   rcases Nat.eq_zero_or_pos n with q|q
   ·exact q
   ·obtain⟨a,ha⟩:=Row.some_ h q
    rw[e] at ha;cases ha
  have:l=[]:=List.eq_nil_of_length_eq_zero (by omega)
  subst this
  exact⟨none,0,rfl,Own.nil _ _ _ _⟩
 ·have h1':=Row.nix h (Litr.keeps h1 rfl)
  refine⟨[],lit_room h1,cvals l,⟨by rw[cvals_length,hl],cvals_one l,fun e'=>absurd e' e,fun a ha=>h1'.lies a ha⟩,by omega,fun w2 p1 n2 h2=>?_⟩
  obtain⟨ho,hk⟩:=clone_any h1 h2
  intro w' hb _
  rw[Nat.zero_add,←hl]
  exact⟨p1,n2,rfl,by rw[hl];exact ho.below hb⟩
def LRow (w:World) (h:Lh) (cs:List Cl):Prop:=CRow w h.cells.p h.cells.n cs
theorem LRow.nix {w w':World} {h:Lh} {cs:List Cl} (k:LRow w h cs) (hk:Keeps Nix w w'):LRow w' h cs:=CRow.nix k hk
def NewL (w0:World) (cs:List Cl) (soft:Bool) (v:Value) (w:World):Prop:=∃p c,v= .agg (Lh.arr ⟨⟨p,cs.length,c⟩,soft⟩)∧OwnC w0.heap.size w p cs.length c cs
theorem r_line_Copy {w:World} {l:Lh} {cs:List Cl} (h:LRow w l cs) (hn:l.cells.n≤1073741824):Gets Tryz.prog X.line_Copy #[.agg l.arr] w Nix (NewL w cs l.soft):=by
 refine v_line_Copy l fun n1 h1 n2 h2 w1 hb hm=>?_
 refine(r_slices_Clone_Cell (h.nix (Keeps.of_below hb)) hn).runs fun v w2 hk hq=>?_
 obtain⟨p,c,rfl,ho⟩:=hq
 refine⟨p,_,c,rfl,hk.nix,fun w' he _=>⟨p,c,rfl,?_⟩⟩
 have hs:=hb.size
 have hs2:=hk.size
 exact(ho.ext he fun d hd=>hm.lt (by simp at hd⊢;omega)).low hs
end Go.Proofs.YtjhhiindeignaaaGreatDoor
namespace Go.Sy
open Go.RowKit (Below)
section
variable {w w':World} {B B':Nat} {e:TypeId} {s n c:Nat} {p:Option Addr} {xs ys:List Value}
theorem Own.canPut (h:Own B w e s p n c xs) {a:Addr} (ha:p=some a) {o m:Nat} (hm:o+m≤n*s):CanPut w a o m:=by
 rcases h.2 with⟨hv,_⟩|⟨g,cap,cur,hv,hB,hg,hc,_,hs,_⟩
 ·injection hv with hv;rw[hv] at ha;cases ha
 ·injection hv with hv _ _
  rw[hv] at ha
  injection ha with ha
  subst ha
  refine⟨rfl,cur,e,hg,?_⟩
  have:n*s≤cap*s:=Nat.mul_le_mul_right _ hc
  show 0+o+m≤cur.size
  omega
theorem Own.put (h:Own B w e s p n c xs) {a:Addr} (ha:p=some a) {o:Nat} {vs:List Value} (hm:o+vs.length≤n*s) {ds:List Nat} (hp:Put w ds a o vs w'):Own B w' e s p n c (xs.take o++(vs++xs.drop (o+vs.length))):=by
 have hl:=h.1
 rcases h.2 with⟨hv,_⟩|⟨g,cap,cur,hv,hB,hg,hc,hx,hs,ht⟩
 ·injection hv with hv;rw[hv] at ha;cases ha
 ·injection hv with hv h2 h3
  rw[hv] at ha
  injection ha with ha
  subst ha
  obtain⟨cs',c1,c2,c3⟩:=hp.here cur e hg
  refine⟨by simp<;>omega, .inr ⟨g,cap,cs',by rw[hv,h3],hB,c1,hc,hx,by rw[c2];exact hs,?_⟩⟩
  have hns:n*s≤cap*s:=Nat.mul_le_mul_right _ hc
  apply List.ext_getElem?
  intro j
  rw[list_splice xs vs o (by omega),List.getElem?_take]
  have hj:=c3 j
  simp only[Nat.zero_add] at hj
  have hcur:∀j,j<n*s→cur[j]? =xs[j]? :=fun j hj=>by
   rw[←ht,List.getElem?_take,if_pos hj,Array.getElem?_toList]
  split
  ·rename_i hlt
   rw[Array.getElem?_toList,hj]
   split
   ·rfl
   ·exact hcur j hlt
  ·rename_i hge
   rw[if_neg (by omega)]
   exact(List.getElem?_eq_none (by omega)).symm
theorem Put.keeps {F:Nat→Prop} {a:Addr} {o:Nat} {vs:List Value} (hp:Put w [] a o vs w') (hF:F a.block):Keeps F w w':=
 ⟨hp.os,hp.tape,hp.output,hp.size,fun i hi hn=>hp.heap i hi (by simp) fun e=>hn (by rw[e];exact hF)⟩
theorem Away.new {lo:Nat} {F:Nat→Prop} {bs:List Nat} {b:Nat} (h1:lo≤b) (h2:b∉bs):Away lo F bs b:=⟨h2,fun h=>by omega⟩
end
end Go.Sy
namespace Go.Proofs.YtjhhiindeignaaaGreatDoor
open Go Go.RowKit Go.Sy Go.Rep
theorem cvals_set (l:List Cl) (k:Nat) (x:Cl) (h:k<l.length):(cvals l).take (k*16)++(x.arr.toList++(cvals l).drop (k*16+x.arr.toList.length))=cvals (l.set k x):=by
 rw[cvals_take,show k*16+x.arr.toList.length=(k+1)*16 by show k*16+16=_;omega,cvals_drop,List.set_eq_take_append_cons_drop,if_pos h,cvals_append,cvals_cons]
theorem OwnC.put {B:Nat} {w w':World} {p:Option Addr} {n c:Nat} {l:List Cl} (h:OwnC B w p n c l) {a:Addr} (ha:p=some a) {k:Nat} (hk:k<n) {x:Cl} {ds:List Nat} (hp:Put w ds a (k*16) x.arr.toList w'):OwnC B w' p n c (l.set k x):=by
 have hl:=h.crow.len
 have:=Own.put h ha (o:=k*16) (vs:=x.arr.toList) (by show k*16+16≤n*16;omega) hp
 rwa[cvals_set l k x (by omega)] at this
theorem OwnC.canPut {B:Nat} {w:World} {p:Option Addr} {n c:Nat} {l:List Cl} (h:OwnC B w p n c l) {a:Addr} (ha:p=some a) {k:Nat} (hk:k<n):CanPut w a (k*16) 16:=Own.canPut h ha (by omega)
end Go.Proofs.YtjhhiindeignaaaGreatDoor
namespace Go.Proofs.YtjhhiindeignaaaGreatDoor
open Go Go.RowKit Go.Sy Go.Rep
set_option maxRecDepth 100000
set_option maxHeartbeats 2000000
theorem Room.none {lo:Nat} {F:Nat→Prop} {bs:List Nat} {w:World} {e:TypeId} {es m:Nat}:Room lo F bs w e es none 0 0 [] m:= .inl ⟨(Own.nil 0 _ _ _).zero,fun a ha=>nomatch ha⟩
theorem Row.none0 {w:World} {p:Option Addr} {n es:Nat} {vs:List Value} (h:Row w p n es vs) (e:p=none):n=0:=by
 rcases Nat.eq_zero_or_pos n with q|q
 ·exact q
 ·obtain⟨a,ha⟩:=h.some_ q
  rw[e] at ha;cases ha
end Go.Proofs.YtjhhiindeignaaaGreatDoor
namespace Go.Proofs.YtjhhiindeignaaaGreatDoor
open Go Go.RowKit Go.Sy Go.Rep
set_option maxRecDepth 100000
theorem v_bits_Mul64 {w0:World} {F:Nat→Prop} {Q:Value→World→Prop} (x:Int) (y:Int) (h:((0:Int)≤32)∧(((0:Int)≤32)∧(((0:Int)≤32)∧(((0:Int)≤32)∧(((0:Int)≤32)∧Fin w0 F w0 Q (.tuple #[(.int .u64 (IntKind.wrap .u64 ((IntKind.wrap .u64 ((IntKind.wrap .u64 ((shrI .u64 x 32)*(shrI .u64 y 32)))+(shrI .u64 (IntKind.wrap .u64 ((IntKind.wrap .u64 ((shrI .u64 x 32)*(bits .and .u64 y 4294967295)))+(shrI .u64 (IntKind.wrap .u64 ((bits .and .u64 x 4294967295)*(bits .and .u64 y 4294967295))) 32))) 32)))+(shrI .u64 (IntKind.wrap .u64 ((bits .and .u64 (IntKind.wrap .u64 ((IntKind.wrap .u64 ((shrI .u64 x 32)*(bits .and .u64 y 4294967295)))+(shrI .u64 (IntKind.wrap .u64 ((bits .and .u64 x 4294967295)*(bits .and .u64 y 4294967295))) 32))) 4294967295)+(IntKind.wrap .u64 ((bits .and .u64 x 4294967295)*(shrI .u64 y 32))))) 32)))),(.int .u64 (IntKind.wrap .u64 (x*y)))])))))):Gets Tryz.prog X.bits_Mul64 #[(.int .u64 x),(.int .u64 y)] w0 F Q:=
 func_run mixed [] [] X.bits_Mul64 [SV.int IntKind.u64 x,SV.int IntKind.u64 y] ⟨by trivial,by trivial,trivial⟩ (by kernel_rfl) (by kernel_rfl) h
theorem v_bits_Mul {w0:World} {F:Nat→Prop} {Q:Value→World→Prop} (x:Int) (y:Int) (h:∀w1:World,(Below w0.heap.size w0 w1)→Runs Tryz.prog X.bits_Mul64 #[(.int .u64 x),(.int .u64 y)] w1 (fun e1 w2=>∃i1 i2:Int,(e1=(.returned (.tuple #[(.int .u64 i1),(.int .u64 i2)])))∧((Kept w0.heap.size F [] w1 w2)∧Fin w0 F w2 Q (.tuple #[(.int .u64 i1),(.int .u64 i2)])))):Gets Tryz.prog X.bits_Mul #[(.int .u64 x),(.int .u64 y)] w0 F Q:=
 func_run mixed [] [] X.bits_Mul [SV.int IntKind.u64 x,SV.int IntKind.u64 y] ⟨by trivial,by trivial,trivial⟩ (by kernel_rfl) (by kernel_rfl) h
end Go.Proofs.YtjhhiindeignaaaGreatDoor
namespace Go.Sy
open Go.RowKit (Below)
section
variable {w w':World} {e:TypeId} {s n c b:Nat} {z:List Value}
theorem Made.own {ds:List Nat} (h:Made w ds e s n c z w' b) (hz:z.length=s) (hn:n≤c) (hc:c≤maxLen):Own w.heap.size w' e s (some ⟨b,0,none⟩) n c (List.replicate n z).flatten:=by
 have hl:∀m,(List.replicate m z).flatten.length=m*s:=fun m=>by simp[hz]
 refine⟨hl n, .inr ⟨b,c,_,rfl,h.new,h.row,hn,hc,by simp[hz],?_⟩⟩
 have:c=n+(c-n):=by omega
 rw[this,←List.replicate_append_replicate,List.flatten_append]
 exact List.take_left' (hl n)
theorem Made.keeps (h:Made w [] e s n c z w' b):Keeps Nix w w':=⟨h.os,h.tape,h.output,Nat.le_of_lt (Nat.lt_of_le_of_lt h.new h.size),fun i hi _=>h.heap i hi (by simp)⟩
theorem CanPut.base {g k o m:Nat} (h:CanPut w ⟨g,0,none⟩ (k+o) m):CanPut w ⟨g,k,none⟩ o m:=by
 obtain⟨h1,cs,t,h2,h3⟩:=h
 exact⟨rfl,cs,t,h2,by simpa using h3⟩
theorem Put.base {ds:List Nat} {g k o:Nat} {vs:List Value} (h:Put w ds ⟨g,k,none⟩ o vs w'):Put w ds ⟨g,0,none⟩ (k+o) vs w':=by
 refine⟨h.os,h.tape,h.output,h.size,h.heap,fun cs t hc=>?_⟩
 obtain⟨cs',h1,h2,h3⟩:=h.here cs t hc
 refine⟨cs',h1,h2,fun j=>?_⟩
 have:=h3 j
 simpa using this
end
end Go.Sy
namespace Go.Proofs.YtjhhiindeignaaaGreatDoor
open Go Go.RowKit Go.Sy Go.Rep
set_option maxRecDepth 100000
set_option maxHeartbeats 2000000
theorem cvals_rep (c:Cl) (n:Nat):cvals (List.replicate n c)=(List.replicate n c.arr.toList).flatten:=by simp[cvals]
theorem OwnC.puts {B:Nat} {w w':World} {p:Option Addr} {n c:Nat} {l:List Cl} (h:OwnC B w p n c l) {a:Addr} (ha:p=some a) {k:Nat} {ys:List Cl} (hk:k+ys.length≤n) {ds:List Nat} (hp:Put w ds a (k*16) (cvals ys) w'):OwnC B w' p n c (l.take k++ys++l.drop (k+ys.length)):=by
 have hl:=h.crow.len
 have:=Own.put h ha (o:=k*16) (vs:=cvals ys) (by rw[cvals_length];omega) hp
 have e:k*16+(cvals ys).length=(k+ys.length)*16:=by rw[cvals_length];omega
 rw[e,cvals_take,cvals_drop,←cvals_append,←cvals_append,←List.append_assoc] at this
 exact this
theorem CRow.sub {w:World} {p:Option Addr} {n:Nat} {l:List Cl} (h:CRow w p n l) {a:Addr} (ha:p=some a) {k:Nat} (hk:k≤n):At w a 0 (cvals (l.take k)):=by
 have hl:=h.len
 refine Row.at_ h ha 0 ?_
 rw[List.drop_zero,cvals_length,cvals_take,List.length_take,Nat.min_eq_left (by omega)]
theorem cutP_some {g c k es:Nat} (h:k<c):cutP (some ⟨g,0,none⟩) c k es=some ⟨g,k*es,none⟩:=by
 unfold cutP
 rw[if_neg (by omega)]
 show some (Addr.add ⟨g,0,none⟩ (k*es))=_
 unfold Addr.add
 split
 ·rename_i e
  rw[show k*es=0 from e]
 ·simp
theorem u64_and32 (x:Int) (h0:0≤x) (h1:x<4294967296):bits .and .u64 x 4294967295=x:=by
 have:=bits_mask .u64 64 (by decide) (fun n a b=>by simp[IntKind.wrap,IntKind.bits,IntKind.signed];omega) 32 (by decide) x h0 (by omega)
 rw[show(4294967295:Int)=2^32-1 by decide,this]
 omega
theorem shr64 (x:Int):shrI .u64 x 32=x/4294967296:=by
 unfold shrI
 show x.fdiv (2^(min 32 64))=_
 rw[Int.fdiv_eq_ediv_of_nonneg _ (by decide)]
 rfl
theorem wrap_u64 {n:Int} (h0:0≤n) (h1:n<18446744073709551616):IntKind.wrap .u64 n=n:=by
 simp[IntKind.wrap,IntKind.bits,IntKind.signed];omega
theorem r_bits_Mul64 {w:World} {x y:Int} (hx:0≤x) (hx1:x<4294967296) (hy:0≤y) (hy1:y<4294967296) (h0:0≤x*y) (h:x*y<4294967296):Ret X.bits_Mul64 #[.int .u64 x, .int .u64 y] w (.tuple #[.int .u64 0, .int .u64 (x*y)]):=by
 refine v_bits_Mul64 x y ⟨by decide,by decide,by decide,by decide,by decide,Fin.of fun _=>?_⟩
 have ex:x/4294967296=0:=by omega
 have ey:y/4294967296=0:=by omega
 simp only[shr64,u64_and32 _ hx hx1,u64_and32 _ hy hy1,wrap_u64 h0 (by omega:x*y<18446744073709551616),ex,ey,Int.zero_mul,Int.mul_zero,show x*y/4294967296=0 by omega]
 have z0:IntKind.u64.wrap 0=0:=by decide
 have z1:bits .and .u64 0 4294967295=0:=by decide
 simp only[z0,z1,Int.add_zero,Int.zero_ediv]
theorem r_bits_Mul {w:World} {x y:Int} (hx:0≤x) (hx1:x<4294967296) (hy:0≤y) (hy1:y<4294967296) (h0:0≤x*y) (h:x*y<4294967296):Ret X.bits_Mul #[.int .u64 x, .int .u64 y] w (.tuple #[.int .u64 0, .int .u64 (x*y)]):=by
 refine v_bits_Mul x y fun w1 hb=>(r_bits_Mul64 hx hx1 hy hy1 h0 h).runs fun w2 hk=>⟨_,_,rfl,hk.nix,Fin.of fun _=>rfl⟩
theorem r_slices_Repeat_Cell {w:World} {px:Option Addr} {cx:Nat} {c:Cl} {m:Nat} (h:CRow w px 1 [c]) (hm:m≤1048576):Gets Tryz.prog X.slices_Repeat_Cell #[.slice px 1 cx, .int .i64 m] w Nix (NewC w (List.replicate m c)):=by
 refine v_slices_Repeat_Cell px 1 cx m ⟨fun e=>by omega,fun _ w1 hb1=>?_⟩
 rw[wrap_u64 (n:=((1:Nat):Int)) (by omega) (by omega),wrap_u64 (n:=(m:Int)) (by omega) (by omega)]
 refine(r_bits_Mul (by omega) (by omega) (by omega) (by omega) (by omega) (by omega)).runs fun w2 hk2=>⟨_,_,rfl,hk2.nix,fun e=>absurd e (by decide),fun _=>⟨fun e=>by omega,fun _=>?_⟩⟩
 simp only[show((1:Nat):Int)*(m:Int)=(m:Int) by omega,Int.toNat_natCast]
 refine⟨by unfold I64;omega,⟨by omega,by omega,by omega⟩,fun w3 n1 h3=>⟨_,rfl,?_⟩⟩
 have hk12:=(Keeps.of_below hb1).trans hk2
 have hk3:Keeps Nix w w3:=hk12.trans h3.keeps
 have ho3:OwnC w.heap.size w3 (some ⟨n1,0,none⟩) m m (List.replicate m zCl):=by
  have:=(Made.own h3 rfl (Nat.le_refl _) (by show m≤_;unfold maxLen;omega)).low hk12.size
  unfold OwnC
  rw[cvals_rep]
  exact this
 have hc3:=h.nix hk3
 refine⟨cvals (List.replicate (min 1 m) c),⟨by rw[cvals_length,List.length_replicate],cvals_one _,fun e=>by rw[Row.none0 h e];omega,fun a ha=>?_⟩,⟨Own.canPut ho3 rfl (o:=0) (m:=min 1 m*16) (by omega),Away.new (Nat.le_trans hk12.size h3.new) (by simp)⟩,fun w4 hp4=>?_⟩
 ·have:=CRow.sub hc3 ha (k:=min 1 m) (by omega)
  have e:[c].take (min 1 m)=List.replicate (min 1 m) c:=by cases m with|zero=>rfl|succ m=>simp
  rwa[e] at this
 have ho4:=ho3.puts rfl (k:=0) (ys:=List.replicate (min 1 m) c) (by simp<;>omega) (by rw[Nat.zero_mul];exact hp4)
 rw[List.take_zero,List.nil_append,List.length_replicate,Nat.zero_add,List.drop_replicate] at ho4
 refine⟨fun i w'=>∃k:Nat,i=k∧min 1 m≤k∧k≤m∧OwnC w.heap.size w' (some ⟨n1,0,none⟩) m m (List.replicate k c++List.replicate (m-k) zCl),fun i=>((m:Int)-i).toNat,fun w' hb=>⟨min 1 m,rfl,Nat.le_refl _,by omega,ho4.below hb⟩,?_⟩
 rintro i w5 hk5 ⟨k,rfl,hk1,hkm,ho5⟩
 refine⟨fun hi=>?_,fun hi w' hb hk=>?_⟩
 ·have hkm':k<m:=by omega
  simp only[show((k:Int)-0).toNat=k by omega,show((m:Int)-(k:Int)).toNat=m-k by omega,Int.toNat_natCast,cutP_zero,cutP_some hkm']
  refine⟨⟨by omega,by omega,by omega⟩,⟨by omega,by omega,by omega⟩,_,rfl,cvals (List.replicate (min k (m-k)) c),⟨by rw[cvals_length,List.length_replicate],cvals_one _,fun e=>(by cases e),fun a ha=>?_⟩,⟨CanPut.base (Own.canPut ho5 rfl (by omega)),Away.new (Nat.le_trans hk12.size h3.new) (by simp)⟩,fun w7 hp7=>⟨by unfold I64;omega,fun w8 hb8=>⟨⟨k+min k (m-k),by omega,by omega,by omega,?_⟩,by omega⟩⟩⟩
  ·have:=CRow.sub ho5.crow ha (k:=min k (m-k)) (by omega)
   rw[List.take_append_of_le_length (by simp<;>omega),List.take_replicate,Nat.min_eq_left (by omega)] at this
   exact this
  ·have:=ho5.puts rfl (k:=k) (ys:=List.replicate (min k (m-k)) c) (by simp<;>omega) hp7.base
   have:=this.below hb8
   rw[List.take_left' (by simp),List.replicate_append_replicate,List.drop_append,List.drop_replicate,List.drop_replicate] at this
   simp only[List.length_replicate] at this
   rw[show k-(k+min k (m-k))=0 by omega,show m-k-(k+min k (m-k)-k)=m-(k+min k (m-k)) by omega] at this
   exact this
 ·have:k=m:=by omega
  subst this
  refine⟨_,_,by rw[List.length_replicate],?_⟩
  have:=ho5.below hb
  rw[Nat.sub_self,List.replicate_zero,List.append_nil] at this
  rw[List.length_replicate]
  exact this
end Go.Proofs.YtjhhiindeignaaaGreatDoor
namespace Go.Sy
open Go.RowKit (Below)
theorem Own.room {B lo:Nat} {F:Nat→Prop} {bs:List Nat} {w:World} {e:TypeId} {s n c:Nat} {p:Option Addr} {xs:List Value} (h:Own B w e s p n c xs) (hb:∀a,p=some a→a.block∉bs) (hF:n<c→∀a,p=some a→a.block<lo→F a.block) {m:Nat}:Room lo F bs w e s p n c xs m:=
 .inl ⟨h.zero,fun a ha=>⟨hb a ha,fun hlt=>hF hlt a ha⟩⟩
theorem Room.full {lo:Nat} {F:Nat→Prop} {bs:List Nat} {w:World} {e:TypeId} {es n m:Nat} {a:Addr} {xs:List Value} (hm:0<m) (hl:xs.length=n*es) (hb:a.block∉bs) (ha:At w a 0 xs):Room lo F bs w e es (some a) n n xs m:=
 .inr ⟨hm,rfl,hl,a,rfl,hb,ha⟩
end Go.Sy
namespace Go.Proofs.YtjhhiindeignaaaGreatDoor
open Go Go.RowKit Go.Sy Go.Rep
set_option maxRecDepth 100000
set_option maxHeartbeats 2000000
def blanks (n:Nat):List Cl:=List.replicate n (bCl zPn)
theorem CRow.lit {w w':World} {c:Cl} {b:Nat} {e:TypeId} (h:Litr w [] e c.arr.toList w' b):CRow w' (some ⟨b,0,none⟩) 1 [c]:=by
 have:=(Litr.own (s:=16) (n:=1) h rfl (by decide)).row
 have e:cvals [c]=c.arr.toList:=by simp[cvals]
 unfold CRow
 rw[e]
 exact this
def okL (cs:List Cl):Bool:=decide (cs.length≤1000)&&rowB cs
theorem r_line_Valid {w:World} {l:Lh} {cs:List Cl} (hL:Laid w) (h:LRow w l cs):Ret X.line_Valid #[.agg l.arr] w (.bool (okL cs)):=by
 have hl:=CRow.len h
 refine v_line_Valid l fun n1 h1=>⟨fun e w2 hb hm=>(r_cell_Row (Laid.below hb hL) (h.nix (Keeps.of_below hb)) (by omega)).runs fun w3 hk=>⟨_,rfl,hk.nix,Fin.of fun _=>?_⟩,fun e=>Fin.of fun _=>?_⟩
 ·rw[okL,hl,decide_eq_true (show l.cells.n≤1000 by omega),Bool.true_and]
 ·rw[okL,hl,decide_eq_false (show ¬l.cells.n≤1000 by omega),Bool.false_and]
end Go.Proofs.YtjhhiindeignaaaGreatDoor
namespace Go.Rep
open Go Go.Sy
def Ln.lh (x:Ln):Lh:=⟨⟨x.ad,x.cs.length,x.cap⟩,x.soft⟩
def zLn:Ln:=⟨none,0,[],false⟩
def lnAt (xs:List Ln) (i:Nat):Ln:=xs.getD i zLn
structure Li where
 (cs:List Cl) (soft:Bool)
def Ln.li (x:Ln):Li:=⟨x.cs,x.soft⟩
def lis (xs:List Ln):List Li:=xs.map Ln.li
end Go.Rep
namespace Go.Proofs.YtjhhiindeignaaaGreatDoor
open Go Go.RowKit Go.Sy Go.Rep
set_option maxRecDepth 100000
def LF (xs:List Ln) (i:Nat):Prop:=∃x∈xs,∃a,x.ad=some a∧a.block=i
def LnOwn (w:World) (x:Ln):Prop:=OwnC Y.count w x.ad x.cs.length x.cap x.cs
def Apart (x y:Ln):Prop:=∀a b,x.ad=some a→y.ad=some b→a.block≠b.block
structure Each (w:World) (xs:List Ln):Prop where
 own:∀x∈xs,LnOwn w x
 sep:xs.Pairwise Apart
theorem LF.append {xs ys:List Ln} {i:Nat}:LF (xs++ys) i↔LF xs i∨LF ys i:=by
 constructor
 ·rintro⟨x,hx,a,ha,e⟩
  rcases List.mem_append.1 hx with q|q
  ·exact .inl ⟨x,q,a,ha,e⟩
  ·exact .inr ⟨x,q,a,ha,e⟩
 ·rintro(⟨x,hx,r⟩|⟨x,hx,r⟩)
  ·exact⟨x,List.mem_append_left _ hx,r⟩
  ·exact⟨x,List.mem_append_right _ hx,r⟩
theorem LF.nil {i:Nat}:¬LF [] i:=fun⟨x,hx,_⟩=>by cases hx
theorem LF.one {x:Ln} {i:Nat}:LF [x] i↔∃a,x.ad=some a∧a.block=i:=
 ⟨fun⟨y,hy,r⟩=>by rw[List.mem_singleton] at hy;subst hy;exact r,fun r=>⟨x,List.mem_singleton.2 rfl,r⟩⟩
theorem LF.sub {xs ys:List Ln} (h:∀x∈xs,x∈ys) {i:Nat}:LF xs i→LF ys i:=fun⟨x,hx,r⟩=>⟨x,h x hx,r⟩
section
variable {w w':World} {xs ys:List Ln} {p p':Option Addr} {n c:Nat}
theorem Each.nil:Each w []:=⟨fun _ h=>(by cases h),List.Pairwise.nil⟩
theorem Each.sub (h:Each w xs) (s:List.Sublist ys xs):Each w ys:=⟨fun x hx=>h.own x (s.subset hx),h.sep.sublist s⟩
theorem Each.lt (h:Each w xs) {i:Nat} (hi:LF xs i):i<w.heap.size:=by
 obtain⟨x,hx,a,ha,rfl⟩:=hi
 exact(Own.lt (h.own x hx) a ha).1
theorem LnOwn.keeps {F:Nat→Prop} {x:Ln} (h:LnOwn w x) (hk:Keeps F w w') (hF:∀i,F i→¬LF [x] i):LnOwn w' x:=
 Own.keeps h hk fun a ha hf=>hF _ hf (LF.one.2 ⟨a,ha,rfl⟩)
theorem Each.keeps {F:Nat→Prop} (h:Each w xs) (hk:Keeps F w w') (hF:∀i,F i→¬LF xs i):Each w' xs:=
 ⟨fun x hx=>(h.own x hx).keeps hk fun i hf hl=>hF i hf (hl.sub fun y hy=>by rw[List.mem_singleton] at hy;subst hy;exact hx),h.sep⟩
theorem Each.append (h1:Each w xs) (h2:Each w ys) (hd:∀i,LF xs i→¬LF ys i):Each w (xs++ys):=
 ⟨fun x hx=>(List.mem_append.1 hx).elim (h1.own x) (h2.own x),List.pairwise_append.2 ⟨h1.sep,h2.sep,fun x hx y hy a b ha hb e=>hd a.block ⟨x,hx,a,ha,rfl⟩ ⟨y,hy,b,hb,e.symm⟩⟩⟩
theorem Each.one {x:Ln} (h:LnOwn w x):Each w [x]:=⟨fun y hy=>by rw[List.mem_singleton] at hy;subst hy;exact h,List.pairwise_singleton _ _⟩
structure Lines (w:World) (p:Option Addr) (n c:Nat) (xs:List Ln):Prop where
 row:Own Y.count w T.Line 2 p n c (hdrs xs)
 off:∀a,p=some a→¬LF xs a.block
 each:Each w xs
def LsF (p:Option Addr) (xs:List Ln) (i:Nat):Prop:=(∃a,p=some a∧a.block=i)∨LF xs i
theorem Lines.len (h:Lines w p n c xs):xs.length=n:=by
 have:=h.row.len
 rw[hdrs_length] at this
 omega
theorem Lines.nil:Lines w none 0 0 []:=⟨Own.nil _ _ _ _,fun a ha=>(nomatch ha),Each.nil⟩
theorem Lines.lt (h:Lines w p n c xs) {i:Nat} (hi:LsF p xs i):i<w.heap.size:=by
 rcases hi with⟨a,ha,rfl⟩|hi
 ·exact(h.row.lt a ha).1
 ·exact h.each.lt hi
theorem Lines.low (h:Lines w p n c xs) {i:Nat} (hi:LsF p xs i):Y.count≤i:=by
 rcases hi with⟨a,ha,rfl⟩|⟨x,hx,a,ha,rfl⟩
 ·exact(h.row.lt a ha).2.1
 ·exact(Own.lt (h.each.own x hx) a ha).2.1
theorem Lines.keeps {F:Nat→Prop} (h:Lines w p n c xs) (hk:Keeps F w w') (hF:∀i,F i→¬LsF p xs i):Lines w' p n c xs:=
 ⟨h.row.keeps hk fun a ha hf=>hF _ hf (.inl ⟨a,ha,rfl⟩),h.off,h.each.keeps hk fun i hf hl=>hF i hf (.inr hl)⟩
theorem Lines.nix (h:Lines w p n c xs) (hk:Keeps Nix w w'):Lines w' p n c xs:=h.keeps hk fun _ e=>e.elim
theorem LnOwn.lrow {x:Ln} (h:LnOwn w x):LRow w x.lh x.cs:=OwnC.crow h
theorem hdrs_sub (xs:List Ln) (k:Nat) (h:k<xs.length):(lnAt xs k).lh.arr.toList=((hdrs xs).drop (k*2)).take (lnAt xs k).lh.arr.toList.length:=by
 have hd:∀(xs:List Ln) (k:Nat),(hdrs xs).drop (k*2)=hdrs (xs.drop k):=by
  intro xs k
  induction k generalizing xs with
  |zero=>rfl
  |succ k ih=>
   cases xs with
   |nil=>simp[hdrs]
   |cons c l=>
    rw[hdrs_cons,show(k+1)*2=2+k*2 by omega,←List.drop_drop]
    exact ih l
 have e:hdrs (xs.drop k)=(lnAt xs k).lh.arr.toList++hdrs (xs.drop (k+1)):=by
  rw[List.drop_eq_getElem_cons h,hdrs_cons]
  simp[lnAt,h,Ln.lh]
 rw[hd,e]
 rfl
theorem lnAt_mem {xs:List Ln} {k:Nat} (h:k<xs.length):lnAt xs k∈xs:=by
 have:lnAt xs k=xs[k]:=by simp[lnAt,h]
 rw[this]
 exact List.getElem_mem h
theorem Lines.at_ (h:Lines w p n c xs) {a:Addr} (ha:p=some a) {k:Nat} (hk:k<n):At w a (k*2) (lnAt xs k).lh.arr.toList:=
 Row.at_ h.row.row ha _ (hdrs_sub xs k (by have:=h.len;omega))
theorem Lines.ex (h:Lines w p n c xs) {i:Int} {R:Lh→Addr→Prop} (h0:0≤i) (h1:i<n) (hR:∀a,p=some a→LnOwn w (lnAt xs i.toNat)→lnAt xs i.toNat∈xs→R (lnAt xs i.toNat).lh a):∃a,p=some a∧((0≤i∧i<n)∧∃l:Lh,At w a (i.toNat*2) l.arr.toList∧R l a):=by
 have hl:=h.len
 obtain⟨a,ha⟩:=h.row.row.some_ (by omega:0<n)
 have hm:=lnAt_mem (xs:=xs) (k:=i.toNat) (by omega)
 exact⟨a,ha,⟨h0,h1⟩,_,h.at_ ha (by omega),hR a ha (h.each.own _ hm) hm⟩
theorem Lines.push (hY:Y.count≤w.heap.size) (h:Lines w p n c xs) {x:Ln} (hx:LnOwn w x) (hd:∀i,LF [x] i→¬LsF p xs i) {c':Nat} (g:Grown w [] p n c T.Line 2 (n+1) (hdrs xs++x.lh.arr.toList) w' p' c'):Lines w' p' (n+1) c' (xs++[x])∧(∀i,LsF p' (xs++[x]) i→LsF p xs i∨LF [x] i∨w.heap.size≤i)∧Keeps (LsF p xs) w w':=by
 have hk:Keeps (fun i=>∃a,p=some a∧a.block=i) w w':=g.keeps fun _ a ha=>⟨a,ha,rfl⟩
 have hEach:=h.each.append (Each.one hx) fun i h1 h2=>hd i h2 (.inr h1)
 have hp:∀a,p'=some a→(∃b,p=some b∧a.block=b.block)∨w.heap.size≤a.block:=fun a ha=>by
  rcases g.place a ha with⟨b,h1,h2,_⟩|q
  ·exact .inl ⟨b,h1,h2⟩
  ·exact .inr q
 refine⟨⟨?_,fun a ha hl=>?_,hEach.keeps hk ?_⟩,?_,hk.mono fun i hi=> .inl hi⟩
 ·have:hdrs (xs++[x])=hdrs xs++x.lh.arr.toList:=by rw[hdrs_append];simp[hdrs,Ln.lh]
  rw[this]
  exact g.own hY fun a ha=>(h.row.lt a ha).2.1
 ·rcases hp a ha with⟨b,hb,e⟩|q
  ·rw[e] at hl
   rcases LF.append.1 hl with r|r
   ·exact h.off b hb r
   ·exact hd _ r (.inl ⟨b,hb,rfl⟩)
  ·have:=hEach.lt hl
   omega
 ·rintro i ⟨a,ha,rfl⟩ hl
  rcases LF.append.1 hl with r|r
  ·exact h.off a ha r
  ·exact hd _ r (.inl ⟨a,ha,rfl⟩)
 ·rintro i (⟨a,ha,rfl⟩|hl)
  ·rcases hp a ha with⟨b,hb,e⟩|q
   ·exact .inl (.inl ⟨b,hb,e.symm⟩)
   ·exact .inr (.inr q)
  ·rcases LF.append.1 hl with r|r
   ·exact .inl (.inr r)
   ·exact .inr (.inl r)
end
end Go.Proofs.YtjhhiindeignaaaGreatDoor
namespace Go.Proofs.YtjhhiindeignaaaGreatDoor
open Go Go.RowKit Go.Sy Go.Rep
set_option maxRecDepth 100000
theorem v_grid_Lines {w0:World} {F:Nat→Prop} {Q:Value→World→Prop} (g:Addr) (h:∀w1:World,(Below w0.heap.size w0 w1)→Runs Tryz.prog X.grid_none #[(.pointer (some g))] w1 (fun e1 w2=>∃b1:Bool,(e1=(.returned (.bool b1)))∧((Kept w0.heap.size F [] w1 w2)∧(((b1=true)→Fin w0 F w2 Q (.slice none 0 0))∧((b1=false)→∃p1:Option Addr,∃n1 n2:Nat,(At w2 g 1 [(.slice p1 n1 n2)])∧∃I1:Option Addr→Nat→Nat→Int→World→Prop,∃I2:Option Addr→Nat→Nat→Int→Nat,(∀w9:World,(Below w2.heap.size w2 w9)→I1 none 0 0 0 w9)∧∀p2:Option Addr,∀n3 n4:Nat,∀i1:Int,∀w3:World,(Keeps F w0 w3)→(I1 p2 n3 n4 i1 w3)→((i1<(n1:Int))→∃a1:Addr,(p1=(some a1))∧((((0:Int)≤i1)∧(i1<(n1:Int)))∧∃lh1:Lh,(At w3 a1 ((Int.toNat i1)*2) lh1.arr.toList)∧∀n5:Nat,(w3.heap.size≤n5)→∀w5:World,(Below w3.heap.size w3 w5)→(Mine w5 w0.heap.size [(n5,T.Line)])→Runs Tryz.prog X.line_Copy #[(.agg lh1.arr)] w5 (fun e2 w6=>∃lh2:Lh,(e2=(.returned (.agg lh2.arr)))∧((Kept w0.heap.size F [n5] w5 w6)∧∀n6:Nat,(w6.heap.size≤n6)→∃s1:List Value,(Room w0.heap.size F [n5,n6] w6 T.Line 2 p2 n3 n4 s1 1)∧((((n3+1)*32)≤140737488355328)∧∀w7:World,∀p3:Option Addr,∀n7:Nat,(Grown w6 [] p2 n3 n4 T.Line 2 (n3+1) (s1++lh2.arr.toList) w7 p3 n7)→(∀a2:Addr,(p3=(some a2))→¬(a2.block∈[n5,n6]))→(I64 (i1+1))∧∀w8:World,(Below w7.heap.size w7 w8)→(I1 p3 (n3+1) n7 (i1+1) w8)∧(I2 p3 (n3+1) n7 (i1+1)<I2 p2 n3 n4 i1))))))∧(((n1:Int)≤i1)→Fin w0 F w3 Q (.slice p2 n3 n4))))))):Gets Tryz.prog X.grid_Lines #[(.pointer (some g))] w0 F Q:=
 func_run mixed [⟨5,[3,13],[]⟩] [] X.grid_Lines [SV.adr g 0] ⟨by trivial,trivial⟩ (by kernel_rfl) (by kernel_rfl) h
theorem v_grid_Copy {w0:World} {F:Nat→Prop} {Q:Value→World→Prop} (g:Addr) (h:∀w1:World,(Below w0.heap.size w0 w1)→Runs Tryz.prog X.grid_none #[(.pointer (some g))] w1 (fun e1 w2=>∃b1:Bool,(e1=(.returned (.bool b1)))∧((Kept w0.heap.size F [] w1 w2)∧(((b1=true)→Fin w0 F w2 Q (.pointer none))∧((b1=false)→∃i1:Int,(At w2 g 0 [(.int .i64 i1)])∧∀w3:World,(Below w2.heap.size w2 w3)→Runs Tryz.prog X.grid_Lines #[(.pointer (some g))] w3 (fun e2 w4=>∃p1:Option Addr,∃n1 n2:Nat,(e2=(.returned (.slice p1 n1 n2)))∧((Kept w0.heap.size F [] w3 w4)∧((At w4 g 0 [(.int .i64 i1)])∧∀n3:Nat,(w4.heap.size≤n3)→∀w5:World,(Below w4.heap.size w4 w5)→(Keeps F w0 w5)→((w0.heap.size≤n3)∧(Whole w5 n3 T.grid_Grid [(.int .i64 i1),(.slice p1 n1 n2)]))→Q (.pointer (some ⟨n3,0,none⟩)) w5)))))))):Gets Tryz.prog X.grid_Copy #[(.pointer (some g))] w0 F Q:=
 func_run mixed [] [] X.grid_Copy [SV.adr g 0] ⟨by trivial,trivial⟩ (by kernel_rfl) (by kernel_rfl) h
theorem v_grid_none {w0:World} {F:Nat→Prop} {Q:Value→World→Prop} (g:Addr) (h:∃i1:Int,(At w0 g 0 [(.int .i64 i1)])∧Fin w0 F w0 Q (.bool (BE.val (.eq i1 0)))):Gets Tryz.prog X.grid_none #[(.pointer (some g))] w0 F Q:=
 func_run mixed [] [] X.grid_none [SV.adr g 0] ⟨by trivial,trivial⟩ (by kernel_rfl) (by kernel_rfl) h
theorem v_grid_New {w0:World} {F:Nat→Prop} {Q:Value→World→Prop} (rows:Int) (cols:Int) (h:((rows<1)→Fin w0 F w0 Q (.tuple #[(.pointer none),(.int .i64 2)]))∧(((1:Int)≤rows)→(((1000:Int)<rows)→Fin w0 F w0 Q (.tuple #[(.pointer none),(.int .i64 2)]))∧((rows≤1000)→((cols<1)→Fin w0 F w0 Q (.tuple #[(.pointer none),(.int .i64 2)]))∧(((1:Int)≤cols)→(((1000:Int)<cols)→Fin w0 F w0 Q (.tuple #[(.pointer none),(.int .i64 2)]))∧((cols≤1000)→∀n1:Nat,(w0.heap.size≤n1)→∃I1:Int→Int→Option Addr→Nat→Nat→World→Prop,∃I2:Int→Int→Option Addr→Nat→Nat→Nat,(∀w7:World,(Below w0.heap.size w0 w7)→I1 0 cols none 0 0 w7)∧∀i1 i2:Int,∀p1:Option Addr,∀n2 n3:Nat,∀w1:World,(Keeps F w0 w1)→(I1 i1 i2 p1 n2 n3 w1)→((i1<rows)→∀w3:World,(Below w1.heap.size w1 w3)→(Mine w3 w0.heap.size [(n1,T.grid_Grid)])→Runs Tryz.prog X.grid_blanks #[(.int .i64 cols),(.agg #[(.int .i64 0),(.int .u8 0),(.int .u8 0),(.int .u8 0),(.int .u8 0),(.int .i64 0),(.int .u8 0),(.int .u8 0),(.int .u8 0),(.int .u8 0),(.int .u8 0)])] w3 (fun e1 w4=>∃lh1:Lh,(e1=(.returned (.agg lh1.arr)))∧((Kept w0.heap.size F [n1] w3 w4)∧∀n4:Nat,(w4.heap.size≤n4)→∃s1:List Value,(Room w0.heap.size F [n1,n4] w4 T.Line 2 p1 n2 n3 s1 1)∧((((n2+1)*32)≤140737488355328)∧∀w5:World,∀p2:Option Addr,∀n5:Nat,(Grown w4 [] p1 n2 n3 T.Line 2 (n2+1) (s1++lh1.arr.toList) w5 p2 n5)→(∀a1:Addr,(p2=(some a1))→¬(a1.block∈[n1,n4]))→(I64 (i1+1))∧∀w6:World,(Ext w5 [n1] w6)→(I1 (i1+1) i2 p2 (n2+1) n5 w6)∧(I2 (i1+1) i2 p2 (n2+1) n5<I2 i1 i2 p1 n2 n3)))))∧((rows≤i1)→∀w2:World,(Below w1.heap.size w1 w2)→(Keeps F w0 w2)→((w0.heap.size≤n1)∧(Whole w2 n1 T.grid_Grid [(.int .i64 i2),(.slice p1 n2 n3)]))→Q (.tuple #[(.pointer (some ⟨n1,0,none⟩)),(.int .i64 0)]) w2)))))):Gets Tryz.prog X.grid_New #[(.int .i64 rows),(.int .i64 cols)] w0 F Q:=
 func_run mixed [⟨5,[25],[0]⟩] [] X.grid_New [SV.int IntKind.i64 rows,SV.int IntKind.i64 cols] ⟨by trivial,by trivial,trivial⟩ (by kernel_rfl) (by kernel_rfl) h
theorem v_grid_blanks {w0:World} {F:Nat→Prop} {Q:Value→World→Prop} (cols:Int) (p:Pn) (h:∀n1:Nat,(w0.heap.size≤n1)→∀n2:Nat,(w0.heap.size≤n2)→∀w1:World,(Below w0.heap.size w0 w1)→(Mine w1 w0.heap.size [(n1,T.Pen),(n2,T.Line)])→Runs Tryz.prog X.cell_Blank #[(.agg p.arr)] w1 (fun e1 w2=>∃cl1:Cl,(e1=(.returned (.agg cl1.arr)))∧((Kept w0.heap.size F [n1,n2] w1 w2)∧∀w3:World,∀n3:Nat,(Litr w2 [] T.Cell cl1.arr.toList w3 n3)→(¬(n3∈[n1,n2]))→∀w4:World,(Below w3.heap.size w3 w4)→(Mine w4 w0.heap.size [(n1,T.Pen),(n2,T.Line)])→Runs Tryz.prog X.slices_Repeat_Cell #[(.slice (some ⟨n3,0,none⟩) 1 1),(.int .i64 cols)] w4 (fun e2 w5=>∃p1:Option Addr,∃n4 n5:Nat,(e2=(.returned (.slice p1 n4 n5)))∧((Kept w0.heap.size F [n1,n2] w4 w5)∧FinE w0 F w5 [n2] Q (.agg #[(.slice p1 n4 n5),(.bool false)])))))):Gets Tryz.prog X.grid_blanks #[(.int .i64 cols),(.agg p.arr)] w0 F Q:=
 func_run mixed [] [] X.grid_blanks [SV.int IntKind.i64 cols,SV.agg (Pn.cod.enc p)] ⟨by trivial,okA _ _,trivial⟩ (by kernel_rfl) (by kernel_rfl) h
theorem v_grid_Rows {w0:World} {F:Nat→Prop} {Q:Value→World→Prop} (g:Addr) (h:∃p1:Option Addr,∃n1 n2:Nat,(At w0 g 1 [(.slice p1 n1 n2)])∧Fin w0 F w0 Q (.int .i64 (n1:Int))):Gets Tryz.prog X.grid_Rows #[(.pointer (some g))] w0 F Q:=
 func_run mixed [] [] X.grid_Rows [SV.adr g 0] ⟨by trivial,trivial⟩ (by kernel_rfl) (by kernel_rfl) h
theorem v_grid_Cols {w0:World} {F:Nat→Prop} {Q:Value→World→Prop} (g:Addr) (h:∃i1:Int,(At w0 g 0 [(.int .i64 i1)])∧Fin w0 F w0 Q (.int .i64 i1)):Gets Tryz.prog X.grid_Cols #[(.pointer (some g))] w0 F Q:=
 func_run mixed [] [] X.grid_Cols [SV.adr g 0] ⟨by trivial,trivial⟩ (by kernel_rfl) (by kernel_rfl) h
theorem v_grid_Cell {w0:World} {F:Nat→Prop} {Q:Value→World→Prop} (g:Addr) (row:Int) (col:Int) (h:∀n1:Nat,(w0.heap.size≤n1)→∀w1:World,(Below w0.heap.size w0 w1)→(Mine w1 w0.heap.size [(n1,T.Cell)])→Runs Tryz.prog X.grid_at #[(.pointer (some g)),(.int .i64 row),(.int .i64 col)] w1 (fun e1 w2=>∃i1:Int,(e1=(.returned (.int .i64 i1)))∧((Kept w0.heap.size F [n1] w1 w2)∧(((i1≠0)→FinE w0 F w2 [n1] Q (.tuple #[(.agg #[(.int .i32 0),(.int .i32 0),(.int .i32 0),(.int .i32 0),(.int .i64 0),(.int .i64 0),(.int .u8 0),(.int .u8 0),(.int .u8 0),(.int .u8 0),(.int .i64 0),(.int .u8 0),(.int .u8 0),(.int .u8 0),(.int .u8 0),(.int .u8 0)]),(.int .i64 i1)]))∧((i1=0)→∃p1:Option Addr,∃n2 n3:Nat,(At w2 g 1 [(.slice p1 n2 n3)])∧∃a1:Addr,(p1=(some a1))∧((((0:Int)≤row)∧(row<(n2:Int)))∧∃p2:Option Addr,∃n4 n5:Nat,(At w2 a1 ((Int.toNat row)*2) [(.slice p2 n4 n5)])∧∃a2:Addr,(p2=(some a2))∧((((0:Int)≤col)∧(col<(n4:Int)))∧∃cl1:Cl,(At w2 a2 ((Int.toNat col)*16) cl1.arr.toList)∧FinE w0 F w2 [n1] Q (.tuple #[(.agg cl1.arr),(.int .i64 0)])))))))):Gets Tryz.prog X.grid_Cell #[(.pointer (some g)),(.int .i64 row),(.int .i64 col)] w0 F Q:=
 func_run mixed [] [] X.grid_Cell [SV.adr g 0,SV.int IntKind.i64 row,SV.int IntKind.i64 col] ⟨by trivial,by trivial,by trivial,trivial⟩ (by kernel_rfl) (by kernel_rfl) h
theorem v_grid_Put {w0:World} {F:Nat→Prop} {Q:Value→World→Prop} (g:Addr) (row:Int) (col:Int) (c:Cl) (h:∀n1:Nat,(w0.heap.size≤n1)→∀w1:World,(Below w0.heap.size w0 w1)→(Mine w1 w0.heap.size [(n1,T.Cell)])→Runs Tryz.prog X.grid_at #[(.pointer (some g)),(.int .i64 row),(.int .i64 col)] w1 (fun e1 w2=>∃i1:Int,(e1=(.returned (.int .i64 i1)))∧((Kept w0.heap.size F [n1] w1 w2)∧(((i1≠0)→Fin w0 F w2 Q (.int .i64 i1))∧((i1=0)→∀w3:World,(Below w2.heap.size w2 w3)→(Mine w3 w0.heap.size [(n1,T.Cell)])→Runs Tryz.prog X.cell_Valid #[(.agg c.arr)] w3 (fun e2 w4=>∃b1:Bool,(e2=(.returned (.bool b1)))∧((Kept w0.heap.size F [n1] w3 w4)∧(((b1=false)→Fin w0 F w4 Q (.int .i64 2))∧((b1=true)→((c.w=0)→Fin w0 F w4 Q (.int .i64 2))∧((c.w≠0)→(I64 (col+c.w))∧∃i2:Int,(At w4 g 0 [(.int .i64 i2)])∧(((i2<(col+c.w))→Fin w0 F w4 Q (.int .i64 2))∧(((col+c.w)≤i2)→∃p1:Option Addr,∃n2 n3:Nat,(At w4 g 1 [(.slice p1 n2 n3)])∧∃a1:Addr,(p1=(some a1))∧((((0:Int)≤row)∧(row<(n2:Int)))∧∃p2:Option Addr,∃n4 n5:Nat,(At w4 a1 ((Int.toNat row)*2) [(.slice p2 n4 n5)])∧∀w5:World,(Below w4.heap.size w4 w5)→(Mine w5 w0.heap.size [(n1,T.Cell)])→Runs Tryz.prog X.grid_split #[(.slice p2 n4 n5),(.int .i64 col)] w5 (fun e3 w6=>(e3=(.returned (.tuple #[])))∧((Kept w0.heap.size F [n1] w5 w6)∧((I64 (col+c.w))∧∀w7:World,(Below w6.heap.size w6 w7)→(Mine w7 w0.heap.size [(n1,T.Cell)])→Runs Tryz.prog X.grid_split #[(.slice p2 n4 n5),(.int .i64 (col+c.w))] w7 (fun e4 w8=>(e4=(.returned (.tuple #[])))∧((Kept w0.heap.size F [n1] w7 w8)∧∃a2:Addr,(p2=(some a2))∧((((0:Int)≤col)∧(col<(n4:Int)))∧(((CanPut w8 a2 ((Int.toNat col)*16) 16)∧(Away w0.heap.size F [n1] a2.block))∧∀w9:World,(Put w8 [] a2 ((Int.toNat col)*16) c.arr.toList w9)→((c.w=2)→(I64 (col+1))∧∀w11:World,(Below w9.heap.size w9 w11)→(Mine w11 w0.heap.size [(n1,T.Cell)])→Runs Tryz.prog X.cell_Spacer #[(.agg c.p.arr)] w11 (fun e5 w12=>∃cl1:Cl,(e5=(.returned (.agg cl1.arr)))∧((Kept w0.heap.size F [n1] w11 w12)∧∃a3:Addr,(p2=(some a3))∧((((0:Int)≤(col+1))∧((col+1)<(n4:Int)))∧(((CanPut w12 a3 ((Int.toNat (col+1))*16) 16)∧(Away w0.heap.size F [n1] a3.block))∧∀w13:World,(Put w12 [] a3 ((Int.toNat (col+1))*16) cl1.arr.toList w13)→Fin w0 F w13 Q (.int .i64 0))))))∧((c.w≠2)→Fin w0 F w9 Q (.int .i64 0)))))))))))))))))))))):Gets Tryz.prog X.grid_Put #[(.pointer (some g)),(.int .i64 row),(.int .i64 col),(.agg c.arr)] w0 F Q:=
 func_run mixed [] [] X.grid_Put [SV.adr g 0,SV.int IntKind.i64 row,SV.int IntKind.i64 col,SV.agg (Cl.cod.enc c)] ⟨by trivial,by trivial,by trivial,okA _ _,trivial⟩ (by kernel_rfl) (by kernel_rfl) h
theorem v_grid_Shift {w0:World} {F:Nat→Prop} {Q:Value→World→Prop} (g:Addr) (row:Int) (col:Int) (n:Int) (p:Pn) (h:∀n1:Nat,(w0.heap.size≤n1)→∀w1:World,(Below w0.heap.size w0 w1)→(Mine w1 w0.heap.size [(n1,T.Pen)])→Runs Tryz.prog X.grid_at #[(.pointer (some g)),(.int .i64 row),(.int .i64 col)] w1 (fun e1 w2=>∃i1:Int,(e1=(.returned (.int .i64 i1)))∧((Kept w0.heap.size F [n1] w1 w2)∧(((i1≠0)→Fin w0 F w2 Q (.int .i64 i1))∧((i1=0)→∀w3:World,(Below w2.heap.size w2 w3)→(Mine w3 w0.heap.size [(n1,T.Pen)])→Runs Tryz.prog X.grid_inked #[(.agg p.arr)] w3 (fun e2 w4=>∃b1:Bool,(e2=(.returned (.bool b1)))∧((Kept w0.heap.size F [n1] w3 w4)∧(((b1=false)→Fin w0 F w4 Q (.int .i64 2))∧((b1=true)→((n=0)→Fin w0 F w4 Q (.int .i64 0))∧((n≠0)→∃p1:Option Addr,∃n2 n3:Nat,(At w4 g 1 [(.slice p1 n2 n3)])∧∃a1:Addr,(p1=(some a1))∧((((0:Int)≤row)∧(row<(n2:Int)))∧∃p2:Option Addr,∃n4 n5:Nat,(At w4 a1 ((Int.toNat row)*2) [(.slice p2 n4 n5)])∧∃i2:Int,(At w4 g 0 [(.int .i64 i2)])∧((I64 (i2-col))∧∀w5:World,(Below w4.heap.size w4 w5)→(Mine w5 w0.heap.size [(n1,T.Pen)])→Runs Tryz.prog X.grid_split #[(.slice p2 n4 n5),(.int .i64 col)] w5 (fun e3 w6=>(e3=(.returned (.tuple #[])))∧((Kept w0.heap.size F [n1] w5 w6)∧((((0:Int)<n)→∃i5:Int,(At w6 g 0 [(.int .i64 i5)])∧((I64 (i5-(min n (i2-col))))∧∀w19:World,(Below w6.heap.size w6 w19)→(Mine w19 w0.heap.size [(n1,T.Pen)])→Runs Tryz.prog X.grid_split #[(.slice p2 n4 n5),(.int .i64 (i5-(min n (i2-col))))] w19 (fun e8 w20=>(e8=(.returned (.tuple #[])))∧((Kept w0.heap.size F [n1] w19 w20)∧((I64 (col+(min n (i2-col))))∧((((0:Int)≤(col+(min n (i2-col))))∧(((col+(min n (i2-col)))≤(n4:Int))∧((n4:Int)≤(n5:Int))))∧∃i6:Int,(At w20 g 0 [(.int .i64 i6)])∧((I64 (i6-(min n (i2-col))))∧((((0:Int)≤col)∧((col≤(i6-(min n (i2-col))))∧((i6-(min n (i2-col)))≤(n5:Int))))∧∃a6:Addr,((cutP p2 n5 (Int.toNat (col+(min n (i2-col)))) 16)=(some a6))∧∃s3:List Value,(((s3.length)=((min (Int.toNat ((i6-(min n (i2-col)))-col)) (Int.toNat ((n4:Int)-(col+(min n (i2-col))))))*16))∧((∀v3:Value,(v3∈s3)→(v3.oneCell')=true)∧((((cutP p2 n5 (Int.toNat col) 16)=none)→(min (Int.toNat ((i6-(min n (i2-col)))-col)) (Int.toNat ((n4:Int)-(col+(min n (i2-col))))))=0)∧∀a7:Addr,((cutP p2 n5 (Int.toNat col) 16)=(some a7))→At w20 a7 0 s3)))∧(((CanPut w20 a6 0 ((min (Int.toNat ((i6-(min n (i2-col)))-col)) (Int.toNat ((n4:Int)-(col+(min n (i2-col))))))*16))∧(Away w0.heap.size F [n1] a6.block))∧∀w21:World,(Put w20 [] a6 0 s3 w21)→(I64 (col+(min n (i2-col))))∧((((0:Int)≤col)∧((col≤(col+(min n (i2-col))))∧((col+(min n (i2-col)))≤(n5:Int))))∧∀w22:World,(Below w21.heap.size w21 w22)→(Mine w22 w0.heap.size [(n1,T.Pen)])→Runs Tryz.prog X.grid_wipe #[(.slice (cutP p2 n5 (Int.toNat col) 16) (Int.toNat ((col+(min n (i2-col)))-col)) (n5-(Int.toNat col))),(.agg p.arr)] w22 (fun e9 w23=>(e9=(.returned (.tuple #[])))∧((Kept w0.heap.size F [n1] w22 w23)∧Fin w0 F w23 Q (.int .i64 0)))))))))))))∧((n≤0)→(I64 (0-(i2-col)))∧((((0-(i2-col))<n)→(I64 (0-n))∧((I64 (col+(0-n)))∧∀w13:World,(Below w6.heap.size w6 w13)→(Mine w13 w0.heap.size [(n1,T.Pen)])→Runs Tryz.prog X.grid_split #[(.slice p2 n4 n5),(.int .i64 (col+(0-n)))] w13 (fun e6 w14=>(e6=(.returned (.tuple #[])))∧((Kept w0.heap.size F [n1] w13 w14)∧((((0:Int)≤col)∧((col≤(n4:Int))∧((n4:Int)≤(n5:Int))))∧((I64 (col+(0-n)))∧((((0:Int)≤(col+(0-n)))∧(((col+(0-n))≤(n4:Int))∧((n4:Int)≤(n5:Int))))∧∃a4:Addr,((cutP p2 n5 (Int.toNat col) 16)=(some a4))∧∃s2:List Value,(((s2.length)=((min (Int.toNat ((n4:Int)-(col+(0-n)))) (Int.toNat ((n4:Int)-col)))*16))∧((∀v2:Value,(v2∈s2)→(v2.oneCell')=true)∧((((cutP p2 n5 (Int.toNat (col+(0-n))) 16)=none)→(min (Int.toNat ((n4:Int)-(col+(0-n)))) (Int.toNat ((n4:Int)-col)))=0)∧∀a5:Addr,((cutP p2 n5 (Int.toNat (col+(0-n))) 16)=(some a5))→At w14 a5 0 s2)))∧(((CanPut w14 a4 0 ((min (Int.toNat ((n4:Int)-(col+(0-n)))) (Int.toNat ((n4:Int)-col)))*16))∧(Away w0.heap.size F [n1] a4.block))∧∀w15:World,(Put w14 [] a4 0 s2 w15)→∃i4:Int,(At w15 g 0 [(.int .i64 i4)])∧((I64 (i4-(0-n)))∧((((0:Int)≤(i4-(0-n)))∧(((i4-(0-n))≤(n4:Int))∧((n4:Int)≤(n5:Int))))∧∀w16:World,(Below w15.heap.size w15 w16)→(Mine w16 w0.heap.size [(n1,T.Pen)])→Runs Tryz.prog X.grid_wipe #[(.slice (cutP p2 n5 (Int.toNat (i4-(0-n))) 16) (Int.toNat ((n4:Int)-(i4-(0-n)))) (n5-(Int.toNat (i4-(0-n))))),(.agg p.arr)] w16 (fun e7 w17=>(e7=(.returned (.tuple #[])))∧((Kept w0.heap.size F [n1] w16 w17)∧Fin w0 F w17 Q (.int .i64 0)))))))))))))∧((n≤(0-(i2-col)))→(I64 (col+(i2-col)))∧∀w7:World,(Below w6.heap.size w6 w7)→(Mine w7 w0.heap.size [(n1,T.Pen)])→Runs Tryz.prog X.grid_split #[(.slice p2 n4 n5),(.int .i64 (col+(i2-col)))] w7 (fun e4 w8=>(e4=(.returned (.tuple #[])))∧((Kept w0.heap.size F [n1] w7 w8)∧((((0:Int)≤col)∧((col≤(n4:Int))∧((n4:Int)≤(n5:Int))))∧((I64 (col+(i2-col)))∧((((0:Int)≤(col+(i2-col)))∧(((col+(i2-col))≤(n4:Int))∧((n4:Int)≤(n5:Int))))∧∃a2:Addr,((cutP p2 n5 (Int.toNat col) 16)=(some a2))∧∃s1:List Value,(((s1.length)=((min (Int.toNat ((n4:Int)-(col+(i2-col)))) (Int.toNat ((n4:Int)-col)))*16))∧((∀v1:Value,(v1∈s1)→(v1.oneCell')=true)∧((((cutP p2 n5 (Int.toNat (col+(i2-col))) 16)=none)→(min (Int.toNat ((n4:Int)-(col+(i2-col)))) (Int.toNat ((n4:Int)-col)))=0)∧∀a3:Addr,((cutP p2 n5 (Int.toNat (col+(i2-col))) 16)=(some a3))→At w8 a3 0 s1)))∧(((CanPut w8 a2 0 ((min (Int.toNat ((n4:Int)-(col+(i2-col)))) (Int.toNat ((n4:Int)-col)))*16))∧(Away w0.heap.size F [n1] a2.block))∧∀w9:World,(Put w8 [] a2 0 s1 w9)→∃i3:Int,(At w9 g 0 [(.int .i64 i3)])∧((I64 (i3-(i2-col)))∧((((0:Int)≤(i3-(i2-col)))∧(((i3-(i2-col))≤(n4:Int))∧((n4:Int)≤(n5:Int))))∧∀w10:World,(Below w9.heap.size w9 w10)→(Mine w10 w0.heap.size [(n1,T.Pen)])→Runs Tryz.prog X.grid_wipe #[(.slice (cutP p2 n5 (Int.toNat (i3-(i2-col))) 16) (Int.toNat ((n4:Int)-(i3-(i2-col)))) (n5-(Int.toNat (i3-(i2-col))))),(.agg p.arr)] w10 (fun e5 w11=>(e5=(.returned (.tuple #[])))∧((Kept w0.heap.size F [n1] w10 w11)∧Fin w0 F w11 Q (.int .i64 0))))))))))))))))))))))))))))):Gets Tryz.prog X.grid_Shift #[(.pointer (some g)),(.int .i64 row),(.int .i64 col),(.int .i64 n),(.agg p.arr)] w0 F Q:=
 func_run mixed [] [] X.grid_Shift [SV.adr g 0,SV.int IntKind.i64 row,SV.int IntKind.i64 col,SV.int IntKind.i64 n,SV.agg (Pn.cod.enc p)] ⟨by trivial,by trivial,by trivial,by trivial,okA _ _,trivial⟩ (by kernel_rfl) (by kernel_rfl) h
theorem v_grid_at {w0:World} {F:Nat→Prop} {Q:Value→World→Prop} (g:Addr) (row:Int) (col:Int) (h:∀w1:World,(Below w0.heap.size w0 w1)→Runs Tryz.prog X.grid_there #[(.pointer (some g)),(.int .i64 row)] w1 (fun e1 w2=>∃i1:Int,(e1=(.returned (.int .i64 i1)))∧((Kept w0.heap.size F [] w1 w2)∧(((i1=0)→((col<0)→Fin w0 F w2 Q (.int .i64 3))∧(((0:Int)≤col)→∃i2:Int,(At w2 g 0 [(.int .i64 i2)])∧(((i2≤col)→Fin w0 F w2 Q (.int .i64 3))∧((col<i2)→Fin w0 F w2 Q (.int .i64 i1)))))∧((i1≠0)→Fin w0 F w2 Q (.int .i64 i1)))))):Gets Tryz.prog X.grid_at #[(.pointer (some g)),(.int .i64 row),(.int .i64 col)] w0 F Q:=
 func_run mixed [] [] X.grid_at [SV.adr g 0,SV.int IntKind.i64 row,SV.int IntKind.i64 col] ⟨by trivial,by trivial,by trivial,trivial⟩ (by kernel_rfl) (by kernel_rfl) h
theorem v_grid_split {w0:World} {F:Nat→Prop} {Q:Value→World→Prop} (pl:Option Addr) (nl:Nat) (cl:Nat) (c:Int) (h:((c<1)→Fin w0 F w0 Q (.tuple #[]))∧(((1:Int)≤c)→(((nl:Int)≤c)→Fin w0 F w0 Q (.tuple #[]))∧((c<(nl:Int))→(I64 (c-1))∧∃a1:Addr,(pl=(some a1))∧((((0:Int)≤(c-1))∧((c-1)<(nl:Int)))∧∃i1:Int,(At w0 a1 (((Int.toNat (c-1))*16)+4) [(.int .i64 i1)])∧(((i1≠2)→Fin w0 F w0 Q (.tuple #[]))∧((i1=2)→(I64 (c-1))∧((I64 (c-1))∧∃a2:Addr,(pl=(some a2))∧((((0:Int)≤(c-1))∧((c-1)<(nl:Int)))∧∃pn1:Pn,(At w0 a2 (((Int.toNat (c-1))*16)+5) pn1.arr.toList)∧∃a3:Addr,(pl=(some a3))∧((((0:Int)≤c)∧(c<(nl:Int)))∧∃pn2:Pn,(At w0 a3 (((Int.toNat c)*16)+5) pn2.arr.toList)∧∀w1:World,(Below w0.heap.size w0 w1)→Runs Tryz.prog X.cell_Blank #[(.agg pn1.arr)] w1 (fun e1 w2=>∃cl1:Cl,(e1=(.returned (.agg cl1.arr)))∧((Kept w0.heap.size F [] w1 w2)∧((At w2 a3 (((Int.toNat c)*16)+5) pn2.arr.toList)∧∀w3:World,(Below w2.heap.size w2 w3)→Runs Tryz.prog X.cell_Blank #[(.agg pn2.arr)] w3 (fun e2 w4=>∃cl2:Cl,(e2=(.returned (.agg cl2.arr)))∧((Kept w0.heap.size F [] w3 w4)∧∃a4:Addr,(pl=(some a4))∧((((0:Int)≤(c-1))∧((c-1)<(nl:Int)))∧(((CanPut w4 a4 ((Int.toNat (c-1))*16) 16)∧(Away w0.heap.size F [] a4.block))∧∀w5:World,(Put w4 [] a4 ((Int.toNat (c-1))*16) cl1.arr.toList w5)→∃a5:Addr,(pl=(some a5))∧((((0:Int)≤c)∧(c<(nl:Int)))∧(((CanPut w5 a5 ((Int.toNat c)*16) 16)∧(Away w0.heap.size F [] a5.block))∧∀w6:World,(Put w5 [] a5 ((Int.toNat c)*16) cl2.arr.toList w6)→Fin w0 F w6 Q (.tuple #[]))))))))))))))))))):Gets Tryz.prog X.grid_split #[(.slice pl nl cl),(.int .i64 c)] w0 F Q:=
 func_run mixed [] [] X.grid_split [SV.sl pl nl cl,SV.int IntKind.i64 c] ⟨by trivial,by trivial,trivial⟩ (by kernel_rfl) (by kernel_rfl) h
theorem v_grid_SetSoft {w0:World} {F:Nat→Prop} {Q:Value→World→Prop} (g:Addr) (row:Int) (soft:Bool) (h:∀w1:World,(Below w0.heap.size w0 w1)→Runs Tryz.prog X.grid_there #[(.pointer (some g)),(.int .i64 row)] w1 (fun e1 w2=>∃i1:Int,(e1=(.returned (.int .i64 i1)))∧((Kept w0.heap.size F [] w1 w2)∧(((i1=0)→∃p1:Option Addr,∃n1 n2:Nat,(At w2 g 1 [(.slice p1 n1 n2)])∧∃a1:Addr,(p1=(some a1))∧((((0:Int)≤row)∧(row<(n1:Int)))∧(((CanPut w2 a1 (((Int.toNat row)*2)+1) 1)∧(Away w0.heap.size F [] a1.block))∧∀w4:World,(Put w2 [] a1 (((Int.toNat row)*2)+1) [(.bool soft)] w4)→Fin w0 F w4 Q (.int .i64 i1))))∧((i1≠0)→Fin w0 F w2 Q (.int .i64 i1)))))):Gets Tryz.prog X.grid_SetSoft #[(.pointer (some g)),(.int .i64 row),(.bool soft)] w0 F Q:=
 func_run mixed [] [] X.grid_SetSoft [SV.adr g 0,SV.int IntKind.i64 row,SV.bool (BE.ok soft)] ⟨by trivial,by trivial,by trivial,trivial⟩ (by kernel_rfl) (by kernel_rfl) h
theorem v_grid_wipe {w0:World} {F:Nat→Prop} {Q:Value→World→Prop} (pl:Option Addr) (nl:Nat) (cl:Nat) (p:Pn) (h:∀n1:Nat,(w0.heap.size≤n1)→∃I1:Int→World→Prop,∃I2:Int→Nat,(∀w7:World,(Below w0.heap.size w0 w7)→I1 0 w7)∧∀i1:Int,∀w1:World,(Keeps F w0 w1)→(I1 i1 w1)→((i1<(nl:Int))→∀w3:World,(Below w1.heap.size w1 w3)→(Mine w3 w0.heap.size [(n1,T.Pen)])→Runs Tryz.prog X.cell_Blank #[(.agg p.arr)] w3 (fun e1 w4=>∃cl1:Cl,(e1=(.returned (.agg cl1.arr)))∧((Kept w0.heap.size F [n1] w3 w4)∧∃a1:Addr,(pl=(some a1))∧((((0:Int)≤i1)∧(i1<(nl:Int)))∧(((CanPut w4 a1 ((Int.toNat i1)*16) 16)∧(Away w0.heap.size F [n1] a1.block))∧∀w5:World,(Put w4 [] a1 ((Int.toNat i1)*16) cl1.arr.toList w5)→(I64 (i1+1))∧∀w6:World,(Below w5.heap.size w5 w6)→(I1 (i1+1) w6)∧(I2 (i1+1)<I2 i1))))))∧(((nl:Int)≤i1)→Fin w0 F w1 Q (.tuple #[]))):Gets Tryz.prog X.grid_wipe #[(.slice pl nl cl),(.agg p.arr)] w0 F Q:=
 func_run mixed [⟨2,[7],[]⟩] [] X.grid_wipe [SV.sl pl nl cl,SV.agg (Pn.cod.enc p)] ⟨by trivial,okA _ _,trivial⟩ (by kernel_rfl) (by kernel_rfl) h
theorem v_grid_there {w0:World} {F:Nat→Prop} {Q:Value→World→Prop} (g:Addr) (row:Int) (h:∀w1:World,(Below w0.heap.size w0 w1)→Runs Tryz.prog X.grid_none #[(.pointer (some g))] w1 (fun e1 w2=>∃b1:Bool,(e1=(.returned (.bool b1)))∧((Kept w0.heap.size F [] w1 w2)∧(((b1=true)→Fin w0 F w2 Q (.int .i64 1))∧((b1=false)→((row<0)→Fin w0 F w2 Q (.int .i64 3))∧(((0:Int)≤row)→∃p1:Option Addr,∃n1 n2:Nat,(At w2 g 1 [(.slice p1 n1 n2)])∧((((n1:Int)≤row)→Fin w0 F w2 Q (.int .i64 3))∧((row<(n1:Int))→Fin w0 F w2 Q (.int .i64 0))))))))):Gets Tryz.prog X.grid_there #[(.pointer (some g)),(.int .i64 row)] w0 F Q:=
 func_run mixed [] [] X.grid_there [SV.adr g 0,SV.int IntKind.i64 row] ⟨by trivial,by trivial,trivial⟩ (by kernel_rfl) (by kernel_rfl) h
end Go.Proofs.YtjhhiindeignaaaGreatDoor
namespace Go.Sy
theorem Whole.at_ {w:World} {b:Nat} {t:TypeId} {cs:List Value} (h:Whole w b t cs) (hl:cs.length≤maxLen):At w ⟨b,0,none⟩ 0 cs:=
 (Own.row (B:=0) (e:=t) (s:=1) (n:=cs.length) (c:=cs.length) (xs:=cs) (p:=some ⟨b,0,none⟩) ⟨by simp, .inr ⟨b,cs.length,cs.toArray,rfl,Nat.zero_le _,h,Nat.le_refl _,hl,by simp,by simp⟩⟩).lies _ rfl
theorem Whole.keeps {F:Nat→Prop} {w w':World} {b:Nat} {t:TypeId} {cs:List Value} (h:Whole w b t cs) (hk:Keeps F w w') (hF:¬F b):Whole w' b t cs:=(hk.heap b h.lt hF).trans h
end Go.Sy
namespace Go.Rep
open Go Go.Sy
structure Gd where
 (b:Nat) (cols:Nat) (p:Option Addr) (c:Nat) (xs:List Ln)
structure Gr where
 (cols:Nat) (ls:List Li)
def Gd.gr (g:Gd):Gr:=⟨g.cols,lis g.xs⟩
def Gd.ptr (g:Gd):Value:= .pointer (some ⟨g.b,0,none⟩)
end Go.Rep
namespace Go.Proofs.YtjhhiindeignaaaGreatDoor
open Go Go.RowKit Go.Sy Go.Rep
set_option maxRecDepth 100000
set_option maxHeartbeats 2000000
def GdF (g:Gd) (i:Nat):Prop:=i=g.b∨LsF g.p g.xs i
structure GridAt (w:World) (g:Gd):Prop where
 blk:Whole w g.b T.grid_Grid [.int .i64 g.cols, .slice g.p g.xs.length g.c]
 lines:Lines w g.p g.xs.length g.c g.xs
 off:¬LsF g.p g.xs g.b
 lo:Y.count≤g.b
 c1:1≤g.cols
 c2:g.cols≤1000
 r1:1≤g.xs.length
 r2:g.xs.length≤1000
 wid:∀x∈g.xs,x.cs.length=g.cols
theorem Ext.keeps {w w':World} {ds:List Nat} (h:Ext w ds w'):Keeps (fun i=>i∈ds) w w':=⟨h.os,h.tape,h.output,h.size,fun i hi hf=>h.heap i hi hf⟩
def NewLn (w0:World) (l:Li) (x:Ln) (w:World):Prop:=x.li=l∧LnOwn w x∧∀i,LF [x] i→w0.heap.size≤i
theorem OwnC.newLn {w0 w:World} {p:Option Addr} {c:Nat} {cs:List Cl} {soft:Bool} (hL:Laid w0) (h:OwnC w0.heap.size w p cs.length c cs):NewLn w0 ⟨cs,soft⟩ ⟨p,c,cs,soft⟩ w:=
 ⟨rfl,Own.low h hL.size,fun i hi=>by
  obtain⟨a,ha,rfl⟩:=LF.one.1 hi
  exact(Own.lt h a ha).2.1⟩
theorem lis_snoc {xs:List Ln} {x:Ln}:lis (xs++[x])=lis xs++[x.li]:=by simp[lis]
section
variable {w w':World} {g:Gd}
theorem GridAt.lt (h:GridAt w g) {i:Nat} (hi:GdF g i):i<w.heap.size:=by
 rcases hi with rfl|hi
 ·exact h.blk.lt
 ·exact h.lines.lt hi
theorem GridAt.keeps {F:Nat→Prop} (h:GridAt w g) (hk:Keeps F w w') (hF:∀i,F i→¬GdF g i):GridAt w' g:=
 ⟨h.blk.keeps hk fun hf=>hF _ hf (.inl rfl),h.lines.keeps hk fun i hf hl=>hF i hf (.inr hl),h.off,h.lo,h.c1,h.c2,h.r1,h.r2,h.wid⟩
theorem GridAt.low (h:GridAt w g) {i:Nat} (hi:GdF g i):Y.count≤i:=by
 rcases hi with rfl|hi
 ·exact h.lo
 ·exact h.lines.low hi
theorem GridAt.nix (h:GridAt w g) (hk:Keeps Nix w w'):GridAt w' g:=h.keeps hk fun _ e=>e.elim
theorem GridAt.below (h:GridAt w g) (hb:Below w.heap.size w w'):GridAt w' g:=h.nix (Keeps.of_below hb)
theorem GridAt.at0 (h:GridAt w g):At w ⟨g.b,0,none⟩ 0 [.int .i64 g.cols]:=(h.blk.at_ (show 2≤maxLen by decide)).one 0 rfl
theorem GridAt.at1 (h:GridAt w g):At w ⟨g.b,0,none⟩ 1 [.slice g.p g.xs.length g.c]:=(h.blk.at_ (show 2≤maxLen by decide)).one 1 rfl
theorem r_grid_none (h:GridAt w g):Ret X.grid_none #[g.ptr] w (.bool false):=
 v_grid_none _ ⟨_,h.at0,Fin.of fun _=>by
  have:=h.c1
  rw[bv_eq,decide_eq_false (by omega)]⟩
theorem r_grid_Rows (h:GridAt w g):Ret X.grid_Rows #[g.ptr] w (.int .i64 g.xs.length):=v_grid_Rows _ ⟨_,_,_,h.at1,Fin.of fun _=>rfl⟩
theorem r_grid_Cols (h:GridAt w g):Ret X.grid_Cols #[g.ptr] w (.int .i64 g.cols):=v_grid_Cols _ ⟨_,h.at0,Fin.of fun _=>rfl⟩
def thereE (g:Gr) (row:Int):Int:=if row<0∨(g.ls.length:Int)≤row then 3 else 0
theorem gr_len:g.gr.ls.length=g.xs.length:=by simp[Gd.gr,lis]
theorem r_grid_there (h:GridAt w g) {row:Int}:Ret X.grid_there #[g.ptr, .int .i64 row] w (.int .i64 (thereE g.gr row)):=by
 have hl:=gr_len (g:=g)
 refine v_grid_there _ row fun w1 hb=>(r_grid_none (h.below hb)).runs fun w2 hk=>⟨_,rfl,hk.nix,fun e=>(nomatch e),fun _=>⟨fun e=>Fin.of fun _=>?_,fun e=>⟨_,_,_,((h.below hb).nix hk).at1,fun e2=>Fin.of fun _=>?_,fun e2=>Fin.of fun _=>?_⟩⟩⟩
 all_goals grind [thereE]
def atE (g:Gr) (row col:Int):Int:=if thereE g row=0∧(col<0∨(g.cols:Int)≤col) then 3 else thereE g row
theorem r_grid_at (h:GridAt w g) {row col:Int}:Ret X.grid_at #[g.ptr, .int .i64 row, .int .i64 col] w (.int .i64 (atE g.gr row col)):=by
 have hc:(g.gr.cols:Int)=g.cols:=rfl
 refine v_grid_at _ row col fun w1 hb=>(r_grid_there (h.below hb)).runs fun w2 hk=>⟨_,rfl,hk.nix,fun e=>⟨fun e1=>Fin.of fun _=>?_,fun e1=>⟨_,((h.below hb).nix hk).at0,fun e2=>Fin.of fun _=>?_,fun e2=>Fin.of fun _=>?_⟩⟩,fun e=>Fin.of fun _=>?_⟩
 all_goals grind [atE]
theorem r_grid_inked {p:Pn} (hL:Laid w):Ret X.grid_inked #[.agg p.arr] w (.bool (validCl (bCl p))):=
 v_grid_inked p fun n1 _ w1 hb1 _=>(c_cell_Blank).runs (Laid.below hb1 hL) fun w2 hk2 hL2=>⟨_,rfl,hk2.nix,fun w3 hb3 _=>(c_cell_Valid).runs (Laid.below hb3 hL2) fun w4 hk4 _=>⟨_,rfl,hk4.nix,Fin.of fun _=>rfl⟩⟩
theorem r_grid_blanks {p:Pn} {n:Nat} (hL:Laid w) (hn:n≤1048576):Gets Tryz.prog X.grid_blanks #[.int .i64 n, .agg p.arr] w Nix (fun v w'=>∃x,v= .agg x.lh.arr∧NewLn w ⟨List.replicate n (bCl p),false⟩ x w'):=by
 refine v_grid_blanks n p fun n1 h1 n2 h2 w1 hb1 hm1=>(c_cell_Blank).runs (Laid.below hb1 hL) fun w2 hk2 hL2=>⟨_,rfl,hk2.nix,fun w3 n3 h3 hn3 w4 hb4 hm4=>?_⟩
 have hk4:=(((Keeps.of_below hb1).trans hk2).trans (Litr.keeps h3 rfl)).trans (Keeps.of_below hb4)
 refine(r_slices_Repeat_Cell ((CRow.lit h3).nix (Keeps.of_below hb4)) hn).runs fun v w5 hk5 hq=>?_
 obtain⟨q,c,rfl,ho⟩:=hq
 refine⟨q,_,c,rfl,hk5.nix,fun w' he _=>⟨⟨q,c,List.replicate n (bCl p),false⟩,rfl,OwnC.newLn hL ?_⟩⟩
 refine Own.low (Own.ext ho he fun d hd=>hm4.lt (by simp at hd⊢;exact .inr hd)) hk4.size
def newG (rows cols:Nat):Gr:=⟨cols,List.replicate rows ⟨blanks cols,false⟩⟩
def NewG (w0:World) (r:Gr) (g:Gd) (w:World):Prop:=g.gr=r∧GridAt w g∧∀i,GdF g i→w0.heap.size≤i
theorem r_grid_New {rows cols:Nat} (hL:Laid w) (r1:1≤rows) (r2:rows≤1000) (c1:1≤cols) (c2:cols≤1000):Gets Tryz.prog X.grid_New #[.int .i64 rows, .int .i64 cols] w Nix (fun v w'=>∃g:Gd,v= .tuple #[g.ptr, .int .i64 0]∧NewG w (newG rows cols) g w'):=by
 refine v_grid_New rows cols ⟨fun e=>by omega,fun _=>⟨fun e=>by omega,fun _=>⟨fun e=>by omega,fun _=>⟨fun e=>by omega,fun _ n1 h1=>?_⟩⟩⟩⟩
 refine⟨fun i1 i2 p n c w'=>i2=cols∧i1=n∧n≤rows∧∃xs,Lines w' p n c xs∧lis xs=List.replicate n ⟨blanks cols,false⟩∧∀i,LsF p xs i→w.heap.size≤i∧i≠n1,fun i1 _ _ _ _=>((rows:Int)-i1).toNat,fun w' _=>⟨rfl,rfl,by omega,[],Lines.nil,rfl,?_⟩,?_⟩
 ·rintro i (⟨a,ha,_⟩|hi)
  ·cases ha
  ·exact absurd hi LF.nil
 rintro i1 i2 p n c w1 hk1 ⟨rfl,rfl,hn,xs,hxs,hli,hF⟩
 refine⟨fun hi w3 hb3 hm3=>?_,fun hi w2 hb2 hk2 hw=>?_⟩
 ·have hk3:=hk1.trans (Keeps.of_below hb3)
  refine(r_grid_blanks (p:=zPn) (Laid.nix hk3 hL) (by omega)).runs fun v w4 hk4 hq=>?_
  obtain⟨x,rfl,hx,hxo,hxn⟩:=hq
  have hxs4:=(hxs.nix (Keeps.of_below hb3)).nix hk4
  have hn1:n1<w3.heap.size:=hm3.lt (by simp)
  have hb3s:=hb3.size
  have hs3:=hk3.size
  have hs4:=hk4.size
  refine⟨x.lh,rfl,hk4.nix,fun n4 h4=>⟨hdrs xs,hxs4.row.room (fun a ha hm=>?_) (fun _ a ha hlt=>?_),by omega,fun w5 p2 n5 hg hoff=>⟨by unfold I64;omega,fun w6 he=>⟨⟨rfl,by omega,by omega,xs++[x],?_,?_,?_⟩,by dsimp only;omega⟩⟩⟩⟩
  ·have h1:=(hF _ (.inl ⟨a,ha,rfl⟩)).2
   have h2:=hxs4.lt (.inl ⟨a,ha,rfl⟩)
   simp at hm
   omega
  ·have:=(hF _ (.inl ⟨a,ha,rfl⟩)).1
   omega
  all_goals obtain⟨q1,q2,q3⟩:=hxs4.push (by have:=hL.size;omega) hxo (fun i h1 h2=>by have:=hxn i h1;have:=hxs.lt h2;omega) hg
  ·refine q1.keeps (Ext.keeps he) fun i hi hl=>?_
   simp at hi
   subst hi
   rcases q2 _ hl with r|r|r
   ·exact(hF _ r).2 rfl
   ·have:=hxn _ r;omega
   ·omega
  ·rw[lis_snoc,hli,hx,List.replicate_succ'];rfl
  ·intro i hi
   rcases q2 i hi with r|r|r
   ·exact hF i r
   ·have:=hxn _ r;omega
   ·omega
 ·have:n=rows:=by omega
  subst this
  have hlen:=hxs.len
  refine⟨⟨n1,cols,p,c,xs⟩,rfl,?_,⟨?_,?_,?_,Nat.le_trans hL.size hw.1,c1,c2,?_,?_,?_⟩,?_⟩
  ·show Gr.mk _ _=_
   rw[hli];rfl
  ·show Whole _ _ _ [_, .slice p xs.length c]
   rw[hlen];exact hw.2
  ·show Lines _ _ xs.length _ _
   rw[hlen];exact hxs.nix (Keeps.of_below hb2)
  ·exact fun hl=>(hF _ hl).2 rfl
  ·show 1≤xs.length;omega
  ·show xs.length≤1000;omega
  ·intro x hx
   have:x.li∈lis xs:=List.mem_map.2 ⟨x,hx,rfl⟩
   rw[hli] at this
   have:=List.eq_of_mem_replicate this
   have h2:x.cs=blanks cols:=congrArg Li.cs this
   show x.cs.length=cols
   rw[h2,blanks,List.length_replicate]
  ·rintro i (rfl|hl)
   ·exact hw.1
   ·exact(hF i hl).1
def NewLs (w0:World) (l:List Li) (v:Value) (w:World):Prop:=∃p c xs,v= .slice p l.length c∧lis xs=l∧Lines w p l.length c xs∧∀i,LsF p xs i→w0.heap.size≤i
theorem LsF.nil {i:Nat}:¬LsF none [] i:=by
 rintro(⟨a,ha,_⟩|hi)
 ·cases ha
 ·exact LF.nil hi
theorem lis_take {xs:List Ln} {k:Nat} (h:k<xs.length):(lis xs).take (k+1)=(lis xs).take k++[(lnAt xs k).li]:=by
 have:k<(lis xs).length:=by simpa[lis] using h
 rw[List.take_succ_eq_append_getElem this]
 simp[lis,lnAt,h]
theorem r_grid_Lines (hL:Laid w) (h:GridAt w g):Gets Tryz.prog X.grid_Lines #[g.ptr] w Nix (NewLs w g.gr.ls):=by
 refine v_grid_Lines _ fun w1 hb1=>(r_grid_none (h.below hb1)).runs fun w2 hk2=>⟨_,rfl,hk2.nix,fun e=>(nomatch e),fun _=>⟨_,_,_,((h.below hb1).nix hk2).at1,?_⟩⟩
 have hr2:=h.r2
 have hc2:=h.c2
 refine⟨fun p n c i w'=>i=n∧n≤g.xs.length∧∃xs,Lines w' p n c xs∧lis xs=(lis g.xs).take n∧∀i,LsF p xs i→w.heap.size≤i,fun _ _ _ i=>((g.xs.length:Int)-i).toNat,fun w' _=>⟨rfl,by omega,[],Lines.nil,rfl,fun i hi=>absurd hi LsF.nil⟩,?_⟩
 rintro p n c i w3 hk3 ⟨rfl,hn,xs,hxs,hli,hF⟩
 refine⟨fun hi=>(h.nix hk3).lines.ex (by omega) hi fun a ha hown hmem n5 h5 w5 hb5 hm5=>?_,fun hi w' hb hk=>?_⟩
 ·rw[Int.toNat_natCast] at hown hmem⊢
  have hk5:=hk3.trans (Keeps.of_below hb5)
  have hwid:=h.wid _ hmem
  refine(r_line_Copy (cs:=(lnAt g.xs n).cs) (LRow.nix hown.lrow (Keeps.of_below hb5)) (by show(lnAt g.xs n).cs.length≤_;omega)).runs fun v w6 hk6 hq=>?_
  obtain⟨q,d,rfl,ho⟩:=hq
  obtain⟨hx,hxo,hxn⟩:=OwnC.newLn (soft:=(lnAt g.xs n).lh.soft) (Laid.nix hk5 hL) ho
  have hxs6:=(hxs.nix (Keeps.of_below hb5)).nix hk6
  have hn5:n5<w5.heap.size:=hm5.lt (by simp)
  have hs5:=hk5.size
  have hb5s:=hb5.size
  have hs6:=hk6.size
  refine⟨_,rfl,hk6.nix,fun n6 h6=>⟨hdrs xs,hxs6.row.room (fun a ha hm=>?_) (fun _ a ha hlt=>?_),by omega,fun w7 p3 n7 hg hoff=>⟨by unfold I64;omega,fun w8 hb8=>⟨⟨by omega,by omega,xs++[⟨q,d,(lnAt g.xs n).cs,(lnAt g.xs n).soft⟩],?_,?_,?_⟩,by dsimp only;omega⟩⟩⟩⟩
  ·have h1:=hxs.lt (.inl ⟨a,ha,rfl⟩)
   have h2:=hxs6.lt (.inl ⟨a,ha,rfl⟩)
   simp at hm
   omega
  ·have:=hF _ (.inl ⟨a,ha,rfl⟩)
   omega
  all_goals obtain⟨q1,q2,q3⟩:=hxs6.push (by have:=hL.size;omega) hxo (fun i h1 h2=>by have:=hxn i h1;have:=hxs.lt h2;omega) hg
  ·exact q1.nix (Keeps.of_below hb8)
  ·rw[lis_snoc,hli,lis_take (by omega)];rfl
  ·intro i hi
   rcases q2 i hi with r|r|r
   ·exact hF i r
   ·have:=hxn _ r;omega
   ·omega
 ·have:n=g.xs.length:=by omega
  subst this
  have hl:g.gr.ls.length=g.xs.length:=gr_len
  refine⟨p,c,xs,by rw[hl],?_,by rw[hl];exact hxs.nix (Keeps.of_below hb),hF⟩
  rw[hli,List.take_of_length_le (by simp[lis])];rfl
theorem r_grid_Copy (hL:Laid w) (h:GridAt w g):Gets Tryz.prog X.grid_Copy #[g.ptr] w Nix (fun v w'=>∃g':Gd,v=g'.ptr∧NewG w g.gr g' w'):=by
 refine v_grid_Copy _ fun w1 hb1=>(r_grid_none (h.below hb1)).runs fun w2 hk2=>⟨_,rfl,hk2.nix,fun e=>(nomatch e),fun _=>⟨_,((h.below hb1).nix hk2).at0,fun w3 hb3=>?_⟩⟩
 have h3:=((h.below hb1).nix hk2).below hb3
 have hk3:=((Keeps.of_below hb1).trans hk2).trans (Keeps.of_below hb3)
 refine(r_grid_Lines (Laid.nix hk3 hL) h3).runs fun v w4 hk4 hq=>?_
 obtain⟨p,c,xs,rfl,hli,hxs,hF⟩:=hq
 have hl:g.gr.ls.length=g.xs.length:=gr_len
 rw[hl] at hxs⊢
 have hlen:=hxs.len
 have hs4:=hk4.size
 have hs3:=hk3.size
 refine⟨p,_,c,rfl,hk4.nix,(h3.nix hk4).at0,fun n3 hn3 w5 hb5 hk5 hw=>⟨⟨n3,g.cols,p,c,xs⟩,rfl,?_,⟨?_,?_,?_,Nat.le_trans hL.size hw.1,h.c1,h.c2,?_,?_,?_⟩,?_⟩⟩
 ·show Gr.mk _ _=_
  rw[hli];rfl
 ·show Whole _ _ _ [_, .slice p xs.length c]
  rw[hlen];exact hw.2
 ·show Lines _ _ xs.length _ _
  rw[hlen];exact hxs.nix (Keeps.of_below hb5)
 ·intro hl
  have:n3<w4.heap.size:=hxs.lt hl
  omega
 ·show 1≤xs.length
  rw[hlen];exact h.r1
 ·show xs.length≤1000
  rw[hlen];exact h.r2
 ·intro x hx
  have:x.li∈lis xs:=List.mem_map.2 ⟨x,hx,rfl⟩
  rw[hli] at this
  obtain⟨y,hy,e⟩:=List.mem_map.1 this
  have:y.cs=x.cs:=congrArg Li.cs e
  show x.cs.length=g.cols
  rw[←this];exact h.wid y hy
 ·rintro i (rfl|hl)
  ·exact hw.1
  ·have:=hF i hl;omega
end
end Go.Proofs.YtjhhiindeignaaaGreatDoor
namespace Go.Proofs.YtjhhiindeignaaaGreatDoor
open Go Go.RowKit Go.Sy Go.Rep
set_option maxRecDepth 100000
set_option maxHeartbeats 2000000
def liAt (ls:List Li) (k:Nat):Li:=ls.getD k ⟨[],false⟩
theorem liAt_lis {xs:List Ln} {k:Nat}:liAt (lis xs) k=(lnAt xs k).li:=by
 unfold liAt lis lnAt
 rcases Nat.lt_or_ge k xs.length with h|h
 ·simp[h]
 ·simp[h];rfl
theorem hdrs_set {xs:List Ln} {k:Nat} {x':Ln} (h:k<xs.length):hdrs (xs.set k x')=hdrs (xs.take k)++(x'.lh.arr.toList++hdrs (xs.drop (k+1))):=by
 rw[List.set_eq_take_append_cons_drop,if_pos h,hdrs_append,hdrs_cons];rfl
theorem hdrs_same {xs:List Ln} {k:Nat} {x':Ln} (h:k<xs.length) (he:x'.lh=(lnAt xs k).lh):hdrs (xs.set k x')=hdrs xs:=by
 have:hdrs xs=hdrs (xs.set k (lnAt xs k)):=by
  congr 1
  apply List.ext_getElem?
  intro j
  rw[List.getElem?_set]
  split
  ·rename_i q
   subst q
   simp[lnAt,h]
  ·rfl
 rw[this,hdrs_set h,hdrs_set h,he]
theorem lis_set {xs:List Ln} {k:Nat} {x':Ln}:lis (xs.set k x')=(lis xs).set k x'.li:=by simp[lis,List.map_set]
section
variable {w w':World} {xs:List Ln} {p:Option Addr} {n c:Nat} {g:Gd}
theorem LF.set {k:Nat} {x':Ln} (h:k<xs.length) (he:x'.ad=(lnAt xs k).ad) {i:Nat}:LF (xs.set k x') i→LF xs i:=by
 rintro⟨y,hy,a,ha,e⟩
 rcases List.mem_or_eq_of_mem_set hy with q|q
 ·exact⟨y,q,a,ha,e⟩
 ·subst q
  exact⟨_,lnAt_mem h,a,by rw[←he];exact ha,e⟩
theorem Each.other (h:Each w xs) {j k:Nat} (hj:j<xs.length) (hk:k<xs.length) (hne:j≠k):∀i,LF [lnAt xs k] i→¬LF [xs[j]] i:=by
 intro i h1 h2
 obtain⟨a,ha,rfl⟩:=LF.one.1 h1
 obtain⟨b,hb,e⟩:=LF.one.1 h2
 have hs:=List.pairwise_iff_getElem.1 h.sep
 have hl:lnAt xs k=xs[k]:=by simp[lnAt,hk]
 rw[hl] at ha
 rcases Nat.lt_or_gt_of_ne hne with q|q
 ·exact hs j k hj hk q b a hb ha e
 ·exact hs k j hk hj q a b ha hb e.symm
theorem Each.set (h:Each w xs) {k:Nat} {x':Ln} (hk:k<xs.length) (he:x'.ad=(lnAt xs k).ad) (hkp:Keeps (LF [lnAt xs k]) w w') (ho:LnOwn w' x'):Each w' (xs.set k x'):=by
 refine⟨fun x hx=>?_,?_⟩
 ·obtain⟨j,hj,rfl⟩:=List.mem_iff_getElem.1 hx
  rw[List.length_set] at hj
  rw[List.getElem_set]
  split
  ·exact ho
  ·rename_i hne
   exact(h.own _ (List.getElem_mem hj)).keeps hkp (h.other hj hk fun e=>hne e.symm)
 ·have h1:(xs.map Ln.ad).Pairwise fun p q=>∀a b,p=some a→q=some b→a.block≠b.block:=List.pairwise_map.2 h.sep
  have h2:(xs.set k x').map Ln.ad=xs.map Ln.ad:=by
   rw[List.map_set]
   apply List.ext_getElem?
   intro j
   rw[List.getElem?_set]
   split
   ·rename_i q
    subst q
    rw[he]
    simp[lnAt,hk]
   ·rfl
  rw[←h2] at h1
  have h3:(xs.set k x').Pairwise fun x y=>∀a b,x.ad=some a→y.ad=some b→a.block≠b.block:=List.pairwise_map.1 h1
  exact h3
theorem Lines.edit (h:Lines w p n c xs) {k:Nat} {cs':List Cl} (hk:k<n) (hl:cs'.length=(lnAt xs k).cs.length) (hkp:Keeps (LF [lnAt xs k]) w w') (ho:OwnC Y.count w' (lnAt xs k).ad (lnAt xs k).cs.length (lnAt xs k).cap cs'):Lines w' p n c (xs.set k ⟨(lnAt xs k).ad,(lnAt xs k).cap,cs',(lnAt xs k).soft⟩):=by
 have hlen:=h.len
 refine⟨?_,fun a ha hi=>h.off a ha (LF.set (k:=k) (x':=⟨(lnAt xs k).ad,(lnAt xs k).cap,cs',(lnAt xs k).soft⟩) (by omega) rfl hi),h.each.set (by omega) rfl hkp (by unfold LnOwn;rw[hl];exact ho)⟩
 rw[hdrs_same (by omega) (by unfold Ln.lh;rw[hl])]
 exact h.row.keeps hkp fun a ha hi=>h.off a ha (hi.sub fun y hy=>by rw[List.mem_singleton] at hy;subst hy;exact lnAt_mem (by omega))
theorem LsF.set {k:Nat} {x':Ln} (h:k<xs.length) (he:x'.ad=(lnAt xs k).ad) {i:Nat}:LsF p (xs.set k x') i→LsF p xs i
 | .inl h1=> .inl h1
 | .inr h1=> .inr (h1.set h he)
theorem LF.mem {x:Ln} (h:x∈xs) {i:Nat} (hi:LF [x] i):LF xs i:=hi.sub fun y hy=>by rw[List.mem_singleton] at hy;subst hy;exact h
def setLn (g:Gd) (k:Nat) (x':Ln):Gd:=⟨g.b,g.cols,g.p,g.c,g.xs.set k x'⟩
def ModG (w0:World) (g:Gd) (r:Gr) (w:World):Prop:=∃g':Gd,g'.b=g.b∧g'.gr=r∧GridAt w g'∧∀i,GdF g' i→GdF g i∨w0.heap.size≤i
def editG (r:Gr) (k:Nat) (cs:List Cl):Gr:=⟨r.cols,r.ls.set k ⟨cs,(liAt r.ls k).soft⟩⟩
theorem GridAt.edit (h:GridAt w g) {k:Nat} {cs':List Cl} (hk:k<g.xs.length) (hl:cs'.length=(lnAt g.xs k).cs.length) (hkp:Keeps (LF [lnAt g.xs k]) w w') (ho:OwnC Y.count w' (lnAt g.xs k).ad (lnAt g.xs k).cs.length (lnAt g.xs k).cap cs') {w0:World}:ModG w0 g (editG g.gr k cs') w':=by
 have hm:=lnAt_mem hk
 refine⟨setLn g k ⟨(lnAt g.xs k).ad,(lnAt g.xs k).cap,cs',(lnAt g.xs k).soft⟩,rfl,?_,⟨?_,?_,?_,h.lo,h.c1,h.c2,?_,?_,?_⟩,?_⟩
 ·show Gr.mk _ _=Gr.mk _ _
  rw[setLn,lis_set]
  congr 1
  show(lis g.xs).set k _=(lis g.xs).set k ⟨cs',(liAt (lis g.xs) k).soft⟩
  rw[liAt_lis];rfl
 ·show Whole _ _ _ [_, .slice _ (g.xs.set _ _).length _]
  rw[List.length_set]
  exact h.blk.keeps hkp fun hi=>h.off (.inr (LF.mem hm hi))
 ·show Lines _ _ (g.xs.set _ _).length _ _
  rw[List.length_set]
  exact h.lines.edit hk hl hkp ho
 ·exact fun hi=>h.off (LsF.set (k:=k) (x':=⟨(lnAt g.xs k).ad,(lnAt g.xs k).cap,cs',(lnAt g.xs k).soft⟩) hk rfl hi)
 ·show 1≤(g.xs.set _ _).length
  rw[List.length_set];exact h.r1
 ·show(g.xs.set _ _).length≤1000
  rw[List.length_set];exact h.r2
 ·intro x hx
  rcases List.mem_or_eq_of_mem_set hx with q|q
  ·exact h.wid x q
  ·subst q
   show cs'.length=g.cols
   rw[hl];exact h.wid _ hm
 ·rintro i (rfl|hi)
  ·exact .inl (.inl rfl)
  ·exact .inl (.inr (LsF.set (k:=k) (x':=⟨(lnAt g.xs k).ad,(lnAt g.xs k).cap,cs',(lnAt g.xs k).soft⟩) hk rfl hi))
def PF (p:Option Addr) (i:Nat):Prop:=∃a,p=some a∧a.block=i
theorem PF.LF {x:Ln} {i:Nat}:PF x.ad i↔LF [x] i:=LF.one.symm
def splitL (l:List Cl) (c:Int):List Cl:=if 1≤c∧c<l.length∧(cAt l (c-1).toNat).w=2 then(l.set (c-1).toNat (bCl (cAt l (c-1).toNat).p)).set c.toNat (bCl (cAt l c.toNat).p) else l
theorem splitL_length (l:List Cl) (c:Int):(splitL l c).length=l.length:=by unfold splitL;split<;>simp
theorem OwnC.put' {B:Nat} {l:List Cl} (h:OwnC B w p n c l) {a:Addr} (ha:p=some a) {k:Nat} (hk:k<n) {x:Cl} (hp:Put w [] a (k*16) x.arr.toList w'):OwnC B w' p n c (l.set k x)∧Keeps (PF p) w w':=⟨h.put ha hk hp,hp.keeps ⟨a,ha,rfl⟩⟩
theorem r_grid_split {l:List Cl} {k:Int} (hL:Laid w) (h:OwnC Y.count w p n c l) (hn:n≤1000000):Gets Tryz.prog X.grid_split #[.slice p n c, .int .i64 k] w (PF p) (fun v w'=>v= .tuple #[]∧OwnC Y.count w' p n c (splitL l k)):=by
 have hl:=h.crow.len
 refine v_grid_split p n c k ⟨fun e w' hb _=>⟨rfl,?_⟩,fun e=>⟨fun e1 w' hb _=>⟨rfl,?_⟩,fun e1=>⟨by unfold I64;omega,h.crow.exW (by omega) (by omega) fun a1 ha1 _=>⟨fun e2 w' hb _=>⟨rfl,?_⟩,fun e2=>⟨by unfold I64;omega,by unfold I64;omega,h.crow.exP (by omega) (by omega) fun a2 ha2 _=>h.crow.exP (by omega) (by omega) fun a3 ha3 h3 w1 hb1=>(c_cell_Blank).runs (Laid.below hb1 hL) fun w2 hk2 hL2=>⟨_,rfl,hk2.nix,?_⟩⟩⟩⟩⟩⟩
 ·rw[splitL,if_neg (by omega)];exact h.below hb
 ·rw[splitL,if_neg (by omega)];exact h.below hb
 ·rw[splitL,if_neg (fun q=>e2 q.2.2)];exact h.below hb
 have hk2':=(Keeps.of_below hb1).trans hk2
 refine⟨(h3.nix hk2').sub 5 rfl,fun w3 hb3=>(c_cell_Blank).runs (Laid.below hb3 hL2) fun w4 hk4 hL4=>⟨_,rfl,hk4.nix,?_⟩⟩
 have h4:OwnC Y.count w4 p n c l:=h.nix ((hk2'.trans (Keeps.of_below hb3)).trans hk4)
 refine⟨a3,ha3,⟨by omega,by omega⟩,⟨h4.canPut ha3 (by omega),⟨by simp,fun _=>⟨a3,ha3,rfl⟩⟩⟩,fun w5 hp5=>?_⟩
 obtain⟨h5,_⟩:=h4.put' ha3 (by omega) hp5
 refine⟨a3,ha3,⟨by omega,by omega⟩,⟨h5.canPut ha3 (by omega),⟨by simp,fun _=>⟨a3,ha3,rfl⟩⟩⟩,fun w6 hp6 w' hb _=>⟨rfl,?_⟩⟩
 obtain⟨h6,_⟩:=h5.put' ha3 (by omega) hp6
 rw[splitL,if_pos ⟨e,by omega,e2⟩]
 exact h6.below hb
def wipeL (l:List Cl) (k m:Nat) (q:Pn):List Cl:=l.take k++List.replicate m (bCl q)++l.drop (k+m)
theorem wipeL_next (l:List Cl) {k m:Nat} (q:Pn) (h:k+m<l.length):(wipeL l k m q).set (k+m) (bCl q)=wipeL l k (m+1) q:=by
 apply List.ext_getElem?
 intro j
 unfold wipeL
 rw[List.getElem?_set]
 simp only[List.getElem?_append,List.length_append,List.length_take,List.length_replicate,List.getElem?_drop,List.getElem?_take,List.getElem?_replicate,List.length_drop]
 grind
theorem wipeL_zero (l:List Cl) (k:Nat) (q:Pn):wipeL l k 0 q=l:=by simp[wipeL]
theorem r_grid_wipe {b N C k m cc:Nat} {l:List Cl} {pl:Option Addr} {q:Pn} (hL:Laid w) (h:OwnC Y.count w (some ⟨b,0,none⟩) N C l) (hp:0<m→pl=some ⟨b,k*16,none⟩) (hm:k+m≤N) (hN:N≤1000000):Gets Tryz.prog X.grid_wipe #[.slice pl m cc, .agg q.arr] w (fun i=>i=b) (fun v w'=>v= .tuple #[]∧OwnC Y.count w' (some ⟨b,0,none⟩) N C (wipeL l k m q)):=by
 have hl:=h.crow.len
 refine v_grid_wipe pl m cc q fun n1 h1=>⟨fun i w'=>∃j:Nat,i=j∧j≤m∧Laid w'∧OwnC Y.count w' (some ⟨b,0,none⟩) N C (wipeL l k j q),fun i=>((m:Int)-i).toNat,fun w' hb=>⟨0,rfl,by omega,Laid.below hb hL,by rw[wipeL_zero];exact h.below hb⟩,?_⟩
 rintro i w1 hk1 ⟨j,rfl,hj,hL1,ho⟩
 have hbl:b<w.heap.size:=(Own.lt h _ rfl).1
 refine⟨fun hi w3 hb3 hm3=>(c_cell_Blank).runs (Laid.below hb3 hL1) fun w4 hk4 hL4=>⟨_,rfl,hk4.nix,⟨b,k*16,none⟩,hp (by omega),⟨by omega,by omega⟩,?_⟩,fun hi w' hb _=>⟨rfl,?_⟩⟩
 ·have h4:=(ho.below hb3).nix hk4
  rw[Int.toNat_natCast]
  refine⟨⟨CanPut.base (by rw[←Nat.add_mul];exact Own.canPut h4 rfl (by omega)),⟨?_,fun _=>rfl⟩⟩,fun w5 hp5=>⟨by unfold I64;omega,fun w6 hb6=>⟨⟨j+1,by omega,by omega,?_,?_⟩,by dsimp only;omega⟩⟩⟩
  ·simp
   omega
  ·exact Laid.below hb6 (hL4.keeps (hp5.keeps (F:=fun i=>i=b) rfl) fun i hi=>by rw[hi];exact(Own.lt h _ rfl).2.1)
  ·have h5:=hp5.base
   rw[←Nat.add_mul] at h5
   have:=(OwnC.put h4 rfl (k:=k+j) (by omega) h5).below hb6
   rwa[wipeL_next l q (by omega)] at this
 ·have:j=m:=by omega
  subst this
  exact ho.below hb
end
end Go.Proofs.YtjhhiindeignaaaGreatDoor
namespace Go.Proofs.YtjhhiindeignaaaGreatDoor
open Go Go.RowKit Go.Sy Go.Rep
set_option maxRecDepth 100000
set_option maxHeartbeats 2000000
theorem wOf_le (r:Int):wOf r≤2:=by unfold wOf;repeat' split;all_goals omega
theorem validCl_w {c:Cl} (h:validCl c=true):0≤c.w∧c.w≤2:=by
 unfold validCl at h
 rw[Bool.and_eq_true] at h
 have h2:=h.2
 split at h2
 ·simp at h2;omega
 ·simp at h2
  have:=wOf_le c.r
  omega
section
variable {w w':World} {g:Gd}
theorem GridAt.mod {w0:World} (h:GridAt w g):ModG w0 g g.gr w:=⟨g,rfl,rfl,h,fun i hi=> .inl hi⟩
def putE (r:Gr) (row col:Int) (c:Cl):Int:=if atE r row col≠0 then atE r row col else if validCl c=false∨c.w=0∨(r.cols:Int)<col+c.w then 2 else 0
def putL (cs:List Cl) (col:Int) (c:Cl):List Cl:=
 if c.w=2 then(((splitL (splitL cs col) (col+c.w)).set col.toNat c).set (col+1).toNat (sCl c.p)) else(splitL (splitL cs col) (col+c.w)).set col.toNat c
def putG (r:Gr) (row col:Int) (c:Cl):Gr:=if putE r row col c=0 then editG r row.toNat (putL (liAt r.ls row.toNat).cs col c) else r
theorem atE_row {row col:Int} (h:atE g.gr row col=0):0≤row∧row<g.xs.length∧0≤col∧col<g.cols:=by
 have:=gr_len (g:=g)
 have hc:(g.gr.cols:Int)=g.cols:=rfl
 grind [atE,thereE]
theorem PF.grid {k:Nat} (hk:k<g.xs.length) {i:Nat} (h:PF (lnAt g.xs k).ad i):GdF g i:= .inr (.inr (LF.mem (lnAt_mem hk) (PF.LF.1 h)))
theorem r_grid_Put (hL:Laid w) (h:GridAt w g) {row col:Int} {c:Cl}:Gets Tryz.prog X.grid_Put #[g.ptr, .int .i64 row, .int .i64 col, .agg c.arr] w (GdF g) (fun v w'=>v= .int .i64 (putE g.gr row col c)∧ModG w g (putG g.gr row col c) w'):=by
 refine v_grid_Put _ row col c fun n1 hn1 w1 hb1 hm1=>(r_grid_at (h.below hb1)).runs fun w2 hk2=>⟨_,rfl,hk2.nix,fun e w' hb _=>?_,fun e w3 hb3 hm3=>?_⟩
 ·have he:putE g.gr row col c=atE g.gr row col:=by unfold putE;rw[if_pos e]
  refine⟨by rw[he],?_⟩
  rw[putG,if_neg (by rw[he];exact e)]
  exact(((h.below hb1).nix hk2).below hb).mod
 have hk3:=((Keeps.of_below hb1).trans hk2).trans (Keeps.of_below hb3)
 have h3:=h.nix hk3
 obtain⟨hr0,hr1,hc0,hc1⟩:=atE_row e
 refine(c_cell_Valid).runs (Laid.nix hk3 hL) fun w4 hk4 hL4=>⟨_,rfl,hk4.nix,fun e1 w' hb _=>?_,fun e1=>⟨fun e2 w' hb _=>?_,fun e2=>?_⟩⟩
 ·have he:putE g.gr row col c=2:=by unfold putE;rw[if_neg (by omega),if_pos (.inl e1)]
  refine⟨by rw[he],?_⟩
  rw[putG,if_neg (by rw[he];decide)]
  exact((h3.nix hk4).below hb).mod
 ·have he:putE g.gr row col c=2:=by unfold putE;rw[if_neg (by omega),if_pos (.inr (.inl e2))]
  refine⟨by rw[he],?_⟩
  rw[putG,if_neg (by rw[he];decide)]
  exact((h3.nix hk4).below hb).mod
 have hw:=validCl_w e1
 have h4:=h3.nix hk4
 have hc2:=h.c2
 have hgc:(g.gr.cols:Int)=g.cols:=rfl
 refine⟨by unfold I64;omega,_,h4.at0,fun e3 w' hb _=>?_,fun e3=>?_⟩
 ·have he:putE g.gr row col c=2:=by unfold putE;rw[if_neg (by omega),if_pos (.inr (.inr (by omega)))]
  refine⟨by rw[he],?_⟩
  rw[putG,if_neg (by rw[he];decide)]
  exact(h4.below hb).mod
 have he:putE g.gr row col c=0:=by unfold putE;rw[if_neg (by omega),if_neg (by rw[e1];rintro(q|q|q);cases q;exact e2 q;omega)]
 obtain⟨k,rfl⟩:=Int.eq_ofNat_of_zero_le hr0
 have hk:k<g.xs.length:=by omega
 obtain⟨a,ha⟩:=h4.lines.row.row.some_ (by omega:0<g.xs.length)
 have hm:=lnAt_mem hk
 have hwid:=h.wid _ hm
 rw[Int.toNat_natCast]
 refine⟨_,_,_,h4.at1,a,ha,⟨by omega,by omega⟩,_,_,_,(h4.lines.at_ ha hk).one 0 rfl,fun w5 hb5 hm5=>?_⟩
 have hx:∀{v:World},GridAt v g→OwnC Y.count v (lnAt g.xs k).ad (lnAt g.xs k).cs.length (lnAt g.xs k).cap (lnAt g.xs k).cs:=fun hv=>hv.lines.each.own _ hm
 have hk5:=(hk3.trans hk4).trans (Keeps.of_below hb5)
 have h5:=h.nix hk5
 have hkept:∀{v v':World},Keeps (PF (lnAt g.xs k).ad) v v'→Kept w.heap.size (GdF g) [n1] v v':=fun q=>q.kept (fun i hi _=>PF.grid hk hi) fun i hi hlo=>by
  have:=h.lt (PF.grid hk hi)
  omega
 have hlaid:∀{v v':World},Keeps (PF (lnAt g.xs k).ad) v v'→Laid v→Laid v':=fun q hv=>hv.keeps q fun i hi=>h.low (PF.grid hk hi)
 refine(r_grid_split (Laid.nix hk5 hL) (hx h5) (by omega)).runs fun v w6 hk6 ⟨hv,ho6⟩=>⟨by rw[hv],hkept hk6,by unfold I64;omega,fun w7 hb7 hm7=>?_⟩
 have hL7:=Laid.below hb7 (hlaid hk6 (Laid.nix hk5 hL))
 refine(r_grid_split hL7 (ho6.below hb7) (by omega)).runs fun v w8 hk8 ⟨hv,ho8⟩=>⟨by rw[hv],hkept hk8,?_⟩
 have hL8:=hlaid hk8 hL7
 obtain⟨a2,ha2⟩:=ho8.crow.some_ (by omega:0<(lnAt g.xs k).cs.length)
 have hP:PF (lnAt g.xs k).ad a2.block:=⟨a2,ha2,rfl⟩
 have hA:Away w.heap.size (GdF g) [n1] a2.block:=⟨fun q=>by have:=h.lt (PF.grid hk hP);simp at q;omega,fun _=>PF.grid hk hP⟩
 have hk58:=(hk6.trans ((Keeps.of_below hb7).mono fun _ q=>q.elim)).trans hk8
 refine⟨a2,ha2,⟨by omega,by show col<((lnAt g.xs k).cs.length:Int);omega⟩,⟨ho8.canPut ha2 (by omega),hA⟩,fun w9 hp9=>⟨fun e4=>⟨by unfold I64;omega,fun w11 hb11 hm11=>(c_cell_Spacer).runs (Laid.below hb11 (hlaid (hp9.keeps hP) hL8)) fun w12 hk12 hL12=>⟨_,rfl,hk12.nix,a2,ha2,⟨by omega,by show col+1<((lnAt g.xs k).cs.length:Int);omega⟩,?_⟩⟩,fun e4 w' hb _=>⟨by rw[he],?_⟩⟩⟩
 all_goals obtain⟨ho9,hk9⟩:=OwnC.put' ho8 ha2 (k:=col.toNat) (by omega) hp9
 ·have ho12:=(ho9.below hb11).nix hk12
  refine⟨⟨ho12.canPut ha2 (by omega),hA⟩,fun w13 hp13 w' hb _=>⟨by rw[he],?_⟩⟩
  obtain⟨ho13,hk13⟩:=OwnC.put' ho12 ha2 (k:=(col+1).toNat) (by omega) hp13
  rw[putG,if_pos he,putL,if_pos e4]
  have hgr:(liAt g.gr.ls k).cs=(lnAt g.xs k).cs:=by show(liAt (lis g.xs) k).cs=_;rw[liAt_lis];rfl
  rw[Int.toNat_natCast,hgr]
  have hkk:Keeps (PF (lnAt g.xs k).ad) w5 w':=(((hk58.trans hk9).trans ((Keeps.of_below hb11).trans hk12|>.mono fun _ q=>q.elim)).trans hk13).trans ((Keeps.of_below hb).mono fun _ q=>q.elim)
  exact h5.edit hk (by simp[splitL_length]) (hkk.mono fun i hi=>PF.LF.1 hi) (ho13.below hb)
 ·rw[putG,if_pos he,putL,if_neg e4]
  have hgr:(liAt g.gr.ls k).cs=(lnAt g.xs k).cs:=by show(liAt (lis g.xs) k).cs=_;rw[liAt_lis];rfl
  rw[Int.toNat_natCast,hgr]
  have hkk:Keeps (PF (lnAt g.xs k).ad) w5 w':=(hk58.trans hk9).trans ((Keeps.of_below hb).mono fun _ q=>q.elim)
  exact h5.edit hk (by simp[splitL_length]) (hkk.mono fun i hi=>PF.LF.1 hi) (ho9.below hb)
end
end Go.Proofs.YtjhhiindeignaaaGreatDoor
namespace Go.Proofs.YtjhhiindeignaaaGreatDoor
open Go Go.RowKit Go.Sy Go.Rep
set_option maxRecDepth 100000
set_option maxHeartbeats 2000000
theorem hdrs_drop (xs:List Ln) (k:Nat):(hdrs xs).drop (k*2)=hdrs (xs.drop k):=by
 induction k generalizing xs with
 |zero=>rfl
 |succ k ih=>
  cases xs with
  |nil=>simp[hdrs]
  |cons c l=>
   rw[hdrs_cons,show(k+1)*2=2+k*2 by omega,←List.drop_drop]
   exact ih l
theorem hdrs_take (xs:List Ln) (k:Nat):(hdrs xs).take (k*2)=hdrs (xs.take k):=by
 induction k generalizing xs with
 |zero=>rfl
 |succ k ih=>
  cases xs with
  |nil=>simp[hdrs]
  |cons c l=>
   rw[List.take_succ_cons,hdrs_cons,hdrs_cons,show(k+1)*2=c.arr.toList.length+k*2 by show _=2+_;omega,List.take_length_add_append,ih]
theorem hdrs_put {xs:List Ln} {k:Nat} {x':Ln} (h:k<xs.length):(hdrs xs).take (k*2)++(x'.lh.arr.toList++(hdrs xs).drop (k*2+x'.lh.arr.toList.length))=hdrs (xs.set k x'):=by
 rw[hdrs_take,show k*2+x'.lh.arr.toList.length=(k+1)*2 by show k*2+2=_;omega,hdrs_drop,hdrs_set h]
theorem lnAt_split {xs:List Ln} {k:Nat} (h:k<xs.length):xs=xs.take k++lnAt xs k::xs.drop (k+1):=by
 have:lnAt xs k=xs[k]:=by simp[lnAt,h]
 rw[this,←List.drop_eq_getElem_cons h,List.take_append_drop]
def softLn (x:Ln) (b:Bool):Ln:=⟨x.ad,x.cap,x.cs,b⟩
theorem hdrs_soft {xs:List Ln} {k:Nat} {b:Bool} (h:k<xs.length):(hdrs xs).take (k*2+1)++([Value.bool b]++(hdrs xs).drop (k*2+1+1))=hdrs (xs.set k (softLn (lnAt xs k) b)):=by
 have e:=lnAt_split h
 have e1:hdrs xs=hdrs (xs.take k)++((lnAt xs k).arr.toList++hdrs (xs.drop (k+1))):=by
  conv=>lhs;rw[e]
  rw[hdrs_append,hdrs_cons]
 have hl:(hdrs (xs.take k)).length=k*2:=by rw[hdrs_length,List.length_take];omega
 rw[hdrs_set h,show k*2+1+1=(k+1)*2 by omega,hdrs_drop]
 conv=>lhs;rw[e1]
 rw[←hl,List.take_length_add_append,List.append_assoc]
 rfl
section
variable {w w':World} {xs:List Ln} {p:Option Addr} {n c:Nat} {g:Gd}
theorem LnOwn.soft {x:Ln} {b:Bool} (h:LnOwn w x):LnOwn w (softLn x b):=h
theorem Lines.header (h:Lines w p n c xs) {k o:Nat} {vs:List Value} {x':Ln} {a:Addr} (ha:p=some a) (hk:k<n) (ho:o+vs.length≤n*2) (hv:(hdrs xs).take o++(vs++(hdrs xs).drop (o+vs.length))=hdrs (xs.set k x')) (he:Each w (xs.set k x')) (hoff:¬LF (xs.set k x') a.block) (hp:Put w [] a o vs w'):Lines w' p n c (xs.set k x'):=by
 refine⟨?_,fun a' ha'=>?_,he.keeps (hp.keeps (F:=fun i=>i=a.block) rfl) fun i hi hl=>?_⟩
 ·have:=h.row.put ha ho hp
  rwa[hv] at this
 ·rw[ha] at ha'
  injection ha' with ha'
  subst ha'
  exact hoff
 ·rw[hi] at hl;exact hoff hl
def softG (r:Gr) (k:Nat) (b:Bool):Gr:=⟨r.cols,r.ls.set k ⟨(liAt r.ls k).cs,b⟩⟩
theorem GridAt.soft (h:GridAt w g) {k:Nat} {b:Bool} {a:Addr} (ha:g.p=some a) (hk:k<g.xs.length) (hp:Put w [] a (k*2+1) [.bool b] w') {w0:World}:ModG w0 g (softG g.gr k b) w'∧Keeps (GdF g) w w':=by
 have hm:=lnAt_mem hk
 have hsub:∀i,LF (g.xs.set k (softLn (lnAt g.xs k) b)) i→LF g.xs i:=fun i hi=>LF.set hk (by rfl) hi
 have hkk:Keeps (fun i=>i=a.block) w w':=hp.keeps rfl
 refine⟨⟨setLn g k (softLn (lnAt g.xs k) b),rfl,?_,⟨?_,?_,?_,h.lo,h.c1,h.c2,?_,?_,?_⟩,?_⟩,hkk.mono fun i hi=> .inr (.inl ⟨a,ha,hi.symm⟩)⟩
 ·show Gr.mk _ _=Gr.mk _ _
  rw[setLn,lis_set]
  congr 1
  show(lis g.xs).set k _=(lis g.xs).set k ⟨(liAt (lis g.xs) k).cs,b⟩
  rw[liAt_lis];rfl
 ·show Whole _ _ _ [_, .slice _ (g.xs.set _ _).length _]
  rw[List.length_set]
  exact h.blk.keeps hkk fun hi=>h.off (.inl ⟨a,ha,hi.symm⟩)
 ·show Lines _ _ (g.xs.set _ _).length _ _
  rw[List.length_set]
  refine h.lines.header ha hk (by show k*2+1+1≤_;omega) (hdrs_soft hk) ?_ (fun hi=>h.lines.off a ha (hsub _ hi)) hp
  exact h.lines.each.set hk rfl (Keeps.refl _ _) (LnOwn.soft (h.lines.each.own _ hm))
 ·rintro(⟨b',hb',e⟩|hi)
  ·exact h.off (.inl ⟨b',hb',e⟩)
  ·exact h.off (.inr (hsub _ hi))
 ·show 1≤(g.xs.set _ _).length
  rw[List.length_set];exact h.r1
 ·show(g.xs.set _ _).length≤1000
  rw[List.length_set];exact h.r2
 ·intro x hx
  rcases List.mem_or_eq_of_mem_set hx with q|q
  ·exact h.wid x q
  ·subst q
   show(lnAt g.xs k).cs.length=g.cols
   exact h.wid _ hm
 ·rintro i (rfl|⟨b',hb',e⟩|hi)
  ·exact .inl (.inl rfl)
  ·exact .inl (.inr (.inl ⟨b',hb',e⟩))
  ·exact .inl (.inr (.inr (hsub _ hi)))
theorem ModG.below {w0:World} {r:Gr} (h:ModG w0 g r w) (hb:Below w.heap.size w w'):ModG w0 g r w':=by
 obtain⟨g',h1,h2,h3,h4⟩:=h
 exact⟨g',h1,h2,h3.below hb,h4⟩
def setSoftG (r:Gr) (row:Int) (b:Bool):Gr:=if thereE r row=0 then softG r row.toNat b else r
theorem thereE_row {row:Int} (h:thereE g.gr row=0):0≤row∧row<g.xs.length:=by
 have:=gr_len (g:=g)
 grind [thereE]
theorem r_grid_SetSoft (hL:Laid w) (h:GridAt w g) {row:Int} {b:Bool}:Gets Tryz.prog X.grid_SetSoft #[g.ptr, .int .i64 row, .bool b] w (GdF g) (fun v w'=>v= .int .i64 (thereE g.gr row)∧ModG w g (setSoftG g.gr row b) w'):=by
 refine v_grid_SetSoft _ row b fun w1 hb1=>(r_grid_there (h.below hb1)).runs fun w2 hk2=>⟨_,rfl,hk2.nix,fun e=>?_,fun e w' hb _=>⟨rfl,?_⟩⟩
 ·obtain⟨h0,h1⟩:=thereE_row e
  have h2:=(h.below hb1).nix hk2
  obtain⟨k,rfl⟩:=Int.eq_ofNat_of_zero_le h0
  have hk:k<g.xs.length:=by omega
  obtain⟨a,ha⟩:=h2.lines.row.row.some_ (by omega:0<g.xs.length)
  have hP:GdF g a.block:= .inr (.inl ⟨a,ha,rfl⟩)
  rw[Int.toNat_natCast]
  refine⟨_,_,_,h2.at1,a,ha,⟨by omega,by omega⟩,⟨Own.canPut h2.lines.row ha (by omega),⟨by simp,fun _=>hP⟩⟩,fun w4 hp w' hb _=>⟨rfl,?_⟩⟩
  rw[setSoftG,if_pos e]
  exact((h2.soft ha hk hp).1).below hb
 ·rw[setSoftG,if_neg e]
  exact(((h.below hb1).nix hk2).below hb).mod
def cellOf (r:Gr) (row col:Int):Cl:=if atE r row col=0 then cAt (liAt r.ls row.toNat).cs col.toNat else zCl
theorem r_grid_Cell (h:GridAt w g) {row col:Int}:Ret X.grid_Cell #[g.ptr, .int .i64 row, .int .i64 col] w (.tuple #[.agg (cellOf g.gr row col).arr, .int .i64 (atE g.gr row col)]):=by
 refine v_grid_Cell _ row col fun n1 hn1 w1 hb1 hm1=>(r_grid_at (h.below hb1)).runs fun w2 hk2=>⟨_,rfl,hk2.nix,fun e=>FinE.of fun _=>?_,fun e=>?_⟩
 ·rw[cellOf,if_neg e];rfl
 ·obtain⟨h0,h1,h3,h4⟩:=atE_row e
  have h2:=(h.below hb1).nix hk2
  obtain⟨k,rfl⟩:=Int.eq_ofNat_of_zero_le h0
  have hk:k<g.xs.length:=by omega
  obtain⟨a,ha⟩:=h2.lines.row.row.some_ (by omega:0<g.xs.length)
  have hm:=lnAt_mem hk
  have hwid:=h.wid _ hm
  rw[Int.toNat_natCast]
  refine⟨_,_,_,h2.at1,a,ha,⟨by omega,by omega⟩,_,_,_,(h2.lines.at_ ha hk).one 0 rfl,OwnC.crow (h2.lines.each.own _ hm)|>.ex h3 (by omega) fun b hb hat=>FinE.of fun _=>?_⟩
  have hgr:(liAt g.gr.ls k).cs=(lnAt g.xs k).cs:=by show(liAt (lis g.xs) k).cs=_;rw[liAt_lis];rfl
  rw[cellOf,if_pos e,e,Int.toNat_natCast,hgr]
end
end Go.Proofs.YtjhhiindeignaaaGreatDoor
namespace Go.Proofs.YtjhhiindeignaaaGreatDoor
open Go Go.RowKit Go.Sy Go.Rep
set_option maxRecDepth 100000
set_option maxHeartbeats 2000000
structure Ed (w v:World) (g:Gd) (k:Nat) (cs:List Cl):Prop where
 old:GridAt w g
 lt:k<g.xs.length
 own:OwnC Y.count v (lnAt g.xs k).ad (lnAt g.xs k).cs.length (lnAt g.xs k).cap cs
 kp:Keeps (PF (lnAt g.xs k).ad) w v
 laid:Laid v
def moveL (l:List Cl) (k1 k2 m:Nat):List Cl:=l.take k1++(l.drop k2).take m++l.drop (k1+m)
section
variable {w v v':World} {g:Gd} {k:Nat} {cs:List Cl}
theorem Ed.begin (hL:Laid w) (h:GridAt w g) (hk:k<g.xs.length):Ed w w g k (lnAt g.xs k).cs:=⟨h,hk,h.lines.each.own _ (lnAt_mem hk),Keeps.refl _ _,hL⟩
theorem Ed.len (h:Ed w v g k cs):cs.length=(lnAt g.xs k).cs.length:=h.own.crow.len
theorem Ed.cols (h:Ed w v g k cs):(lnAt g.xs k).cs.length=g.cols:=h.old.wid _ (lnAt_mem h.lt)
theorem Ed.cap (h:Ed w v g k cs):(lnAt g.xs k).cs.length≤(lnAt g.xs k).cap:=Own.cap h.own
theorem Ed.nix (h:Ed w v g k cs) (hk:Keeps Nix v v'):Ed w v' g k cs:=⟨h.old,h.lt,h.own.nix hk,h.kp.trans (hk.mono fun _ q=>q.elim),Laid.nix hk h.laid⟩
theorem Ed.below (h:Ed w v g k cs) (hb:Below v.heap.size v v'):Ed w v' g k cs:=h.nix (Keeps.of_below hb)
theorem Ed.off (h:Ed w v g k cs):¬PF (lnAt g.xs k).ad g.b:=fun hi=>h.old.off (.inr (LF.mem (lnAt_mem h.lt) (PF.LF.1 hi)))
theorem Ed.at0 (h:Ed w v g k cs):At v ⟨g.b,0,none⟩ 0 [.int .i64 g.cols]:=h.old.at0.keeps h.kp h.off
theorem Ed.step {cs':List Cl} (h:Ed w v g k cs) (ho:OwnC Y.count v' (lnAt g.xs k).ad (lnAt g.xs k).cs.length (lnAt g.xs k).cap cs') (hk:Keeps (PF (lnAt g.xs k).ad) v v'):Ed w v' g k cs':=
 ⟨h.old,h.lt,ho,h.kp.trans hk,h.laid.keeps hk fun i hi=>h.old.low (PF.grid h.lt hi)⟩
theorem Ed.place (h:Ed w v g k cs):∃b,(lnAt g.xs k).ad=some ⟨b,0,none⟩:=by
 have:=h.cols
 have:=h.old.c1
 rcases Own.place h.own with⟨_,q,_⟩|⟨b,hb,_⟩
 ·omega
 ·exact⟨b,hb⟩
theorem Ed.kept {u u' w0:World} {bs:List Nat} (h:Ed w v g k cs) (h0:w.heap.size≤w0.heap.size) (hbs:∀b∈bs,w.heap.size≤b) (hk:Keeps (PF (lnAt g.xs k).ad) u u'):Kept w0.heap.size (GdF g) bs u u':=
 hk.kept (fun i hi _=>PF.grid h.lt hi) fun i hi hlo hm=>by
  have:=h.old.lt (PF.grid h.lt hi)
  have:=hbs i hm
  omega
theorem Ed.away {lo:Nat} {bs:List Nat} {a:Addr} (h:Ed w v g k cs) (hbs:∀b∈bs,w.heap.size≤b) (ha:PF (lnAt g.xs k).ad a.block):Away lo (GdF g) bs a.block:=
 ⟨fun hm=>by have:=h.old.lt (PF.grid h.lt ha);have:=hbs _ hm;omega,fun _=>PF.grid h.lt ha⟩
theorem Ed.mod {w0:World} {r:Gr} (h:Ed w v g k cs) (hr:r=editG g.gr k cs):ModG w0 g r v:=by
 subst hr
 exact h.old.edit h.lt h.len (h.kp.mono fun i hi=>PF.LF.1 hi) h.own
theorem Ed.split {j:Int} (h:Ed w v g k cs):Gets Tryz.prog X.grid_split #[.slice (lnAt g.xs k).ad (lnAt g.xs k).cs.length (lnAt g.xs k).cap, .int .i64 j] v (PF (lnAt g.xs k).ad) (fun u v'=>u= .tuple #[]∧OwnC Y.count v' (lnAt g.xs k).ad (lnAt g.xs k).cs.length (lnAt g.xs k).cap (splitL cs j)):=
 r_grid_split h.laid h.own (by have:=h.cols;have:=h.old.c2;omega)
theorem Ed.wipe {j m cc:Nat} {q:Pn} (h:Ed w v g k cs) (hm:j+m≤(lnAt g.xs k).cs.length):Gets Tryz.prog X.grid_wipe #[.slice (cutP (lnAt g.xs k).ad (lnAt g.xs k).cap j 16) m cc, .agg q.arr] v (PF (lnAt g.xs k).ad) (fun u v'=>u= .tuple #[]∧OwnC Y.count v' (lnAt g.xs k).ad (lnAt g.xs k).cs.length (lnAt g.xs k).cap (wipeL cs j m q)):=by
 obtain⟨b,hb⟩:=h.place
 have ho:=h.own
 have hcap:=h.cap
 rw[hb] at ho⊢
 have e:(fun i=>i=b)=PF (some ⟨b,0,none⟩):=funext fun i=>propext ⟨fun e=>⟨_,rfl,e.symm⟩,fun⟨a,ha,e⟩=>by cases ha;exact e.symm⟩
 rw[←e]
 exact r_grid_wipe h.laid ho (fun hm0=>cutP_some (by omega)) hm (by have:=h.cols;have:=h.old.c2;omega)
theorem Ed.from {j m:Nat} (h:Ed w v g k cs) (hm:j+m≤(lnAt g.xs k).cs.length):((cvals ((cs.drop j).take m)).length=m*16)∧((∀u:Value,u∈cvals ((cs.drop j).take m)→u.oneCell'=true)∧((cutP (lnAt g.xs k).ad (lnAt g.xs k).cap j 16=none→m=0)∧∀a:Addr,cutP (lnAt g.xs k).ad (lnAt g.xs k).cap j 16=some a→At v a 0 (cvals ((cs.drop j).take m)))):=by
 have hl:=h.len
 obtain⟨b,hb⟩:=h.place
 have hcap:=h.cap
 refine⟨by rw[cvals_length,List.length_take,List.length_drop];omega,cvals_one _,fun e=>?_,fun a ha=>?_⟩
 ·rw[hb] at e
  unfold cutP at e
  split at e<;>cases e
 ·rcases Nat.eq_zero_or_pos m with q|q
  ·subst q
   intro i u hu
   simp[cvals] at hu
  ·rw[hb,cutP_some (by omega)] at ha
   cases ha
   have ho:=h.own
   rw[hb] at ho
   have:=Row.at_ ho.crow (a:=⟨b,0,none⟩) rfl (j*16) (us:=cvals ((cs.drop j).take m)) (by rw[cvals_length,cvals_drop,List.length_take,cvals_take,List.length_drop,Nat.min_eq_left (by omega)])
   have:=At.shift this
   unfold Addr.add at this
   split at this
   ·rename_i q2;rw[show j*16=0 from q2];exact this
   ·simpa using this
theorem Ed.can {j m:Nat} {a:Addr} (h:Ed w v g k cs) (hm:j+m≤(lnAt g.xs k).cs.length) (ha:cutP (lnAt g.xs k).ad (lnAt g.xs k).cap j 16=some a):CanPut v a 0 (m*16)∧PF (lnAt g.xs k).ad a.block:=by
 obtain⟨b,hb⟩:=h.place
 have ho:=h.own
 have hcap:=h.cap
 rw[hb] at ho ha⊢
 rcases Nat.lt_or_ge j (lnAt g.xs k).cap with q|q
 ·rw[cutP_some q] at ha
  cases ha
  exact⟨CanPut.base (Own.canPut ho rfl (by omega)),⟨_,rfl,rfl⟩⟩
 ·unfold cutP at ha
  rw[if_pos (by omega)] at ha
  cases ha
  exact⟨Own.canPut ho rfl (by omega),⟨_,rfl,rfl⟩⟩
theorem Ed.copy {j1 j2 m:Nat} {a:Addr} (h:Ed w v g k cs) (hm:j1+m≤(lnAt g.xs k).cs.length) (hm2:j2+m≤(lnAt g.xs k).cs.length) (ha:cutP (lnAt g.xs k).ad (lnAt g.xs k).cap j1 16=some a) (hp:Put v [] a 0 (cvals ((cs.drop j2).take m)) v'):Ed w v' g k (moveL cs j1 j2 m):=by
 have hl:=h.len
 have hPF:=(h.can (m:=m) hm ha).2
 refine h.step ?_ (hp.keeps hPF)
 obtain⟨b,hb⟩:=h.place
 have ho:=h.own
 have hcap:=h.cap
 rw[hb] at ho ha⊢
 have hlen:((cs.drop j2).take m).length=m:=by rw[List.length_take,List.length_drop];omega
 rcases Nat.lt_or_ge j1 (lnAt g.xs k).cap with q|q
 ·rw[cutP_some q] at ha
  cases ha
  have:=OwnC.puts ho rfl (k:=j1) (ys:=(cs.drop j2).take m) (by omega) hp.base
  rwa[hlen] at this
 ·have hm0:m=0:=by omega
  subst hm0
  unfold cutP at ha
  rw[if_pos (by omega)] at ha
  cases ha
  have:=OwnC.puts ho rfl (k:=0) (ys:=[]) (by simp) (by simpa using hp)
  simpa[moveL] using this
theorem cutP_ex {b c lo es:Nat}:∃a,cutP (some ⟨b,0,none⟩) c lo es=some a:=by
 unfold cutP
 split
 ·exact⟨_,rfl⟩
 ·exact⟨_,rfl⟩
theorem gr_cs {k:Nat}:(liAt g.gr.ls k).cs=(lnAt g.xs k).cs:=by show(liAt (lis g.xs) k).cs=_;rw[liAt_lis];rfl
def shiftE (r:Gr) (row col n:Int) (q:Pn):Int:=if atE r row col≠0 then atE r row col else if validCl (bCl q)=false then 2 else 0
def shiftL (cs:List Cl) (cols col n:Int) (q:Pn):List Cl:=
 if 0<n then wipeL (moveL (splitL (splitL cs col) (cols-min n (cols-col))) (col+min n (cols-col)).toNat col.toNat (min ((cols-min n (cols-col))-col).toNat ((cs.length:Int)-(col+min n (cols-col))).toNat)) col.toNat (col+min n (cols-col)-col).toNat q
 else if 0-(cols-col)<n then wipeL (moveL (splitL (splitL cs col) (col+(0-n))) col.toNat (col+(0-n)).toNat (min ((cs.length:Int)-(col+(0-n))).toNat ((cs.length:Int)-col).toNat)) (cols-(0-n)).toNat ((cs.length:Int)-(cols-(0-n))).toNat q
 else wipeL (moveL (splitL (splitL cs col) (col+(cols-col))) col.toNat (col+(cols-col)).toNat (min ((cs.length:Int)-(col+(cols-col))).toNat ((cs.length:Int)-col).toNat)) (cols-(cols-col)).toNat ((cs.length:Int)-(cols-(cols-col))).toNat q
def shiftG (r:Gr) (row col n:Int) (q:Pn):Gr:=if shiftE r row col n q=0∧n≠0 then editG r row.toNat (shiftL (liAt r.ls row.toNat).cs r.cols col n q) else r
theorem r_grid_Shift (hL:Laid w) (h:GridAt w g) {row col n:Int} {q:Pn} (hn: -1000000≤n∧n≤1000000):Gets Tryz.prog X.grid_Shift #[g.ptr, .int .i64 row, .int .i64 col, .int .i64 n, .agg q.arr] w (GdF g) (fun v w'=>v= .int .i64 (shiftE g.gr row col n q)∧ModG w g (shiftG g.gr row col n q) w'):=by
 have hgc:(g.gr.cols:Int)=g.cols:=rfl
 have same:∀{e:Int} {u w':World},shiftE g.gr row col n q=e→(e≠0∨n=0)→GridAt u g→Below u.heap.size u w'→Value.int .i64 e= .int .i64 (shiftE g.gr row col n q)∧ModG w g (shiftG g.gr row col n q) w':=fun he h0 hg hb=>⟨by rw[he],by rw[shiftG,if_neg (by rw[he];rintro⟨q1,q2⟩;rcases h0 with r|r;exact r q1;exact q2 r)];exact(hg.below hb).mod⟩
 refine v_grid_Shift _ row col n q fun n1 hn1 w1 hb1 hm1=>(r_grid_at (h.below hb1)).runs fun w2 hk2=>⟨_,rfl,hk2.nix,fun e w' hb _=>same (by rw[shiftE,if_pos e]) (.inl e) ((h.below hb1).nix hk2) hb,fun e w3 hb3 hm3=>?_⟩
 have hk3:=((Keeps.of_below hb1).trans hk2).trans (Keeps.of_below hb3)
 refine(r_grid_inked (Laid.nix hk3 hL)).runs fun w4 hk4=>⟨_,rfl,hk4.nix,fun e4 w' hb _=>same (by rw[shiftE,if_neg (by omega),if_pos e4]) (.inl (by decide)) ((h.nix hk3).nix hk4) hb,fun e4=>?_⟩
 have he:shiftE g.gr row col n q=0:=by rw[shiftE,if_neg (by omega),if_neg (by rw[e4];simp)]
 have hk4':=hk3.trans hk4
 have h4:=h.nix hk4'
 refine⟨fun e5 w' hb _=>same he (.inr e5) h4 hb,fun e5=>?_⟩
 obtain⟨hr0,hr1,hc0,hc1⟩:=atE_row e
 obtain⟨k,rfl⟩:=Int.eq_ofNat_of_zero_le hr0
 have hk:k<g.xs.length:=by omega
 obtain⟨a,ha⟩:=h4.lines.row.row.some_ (by omega:0<g.xs.length)
 have hc2:=h.c2
 rw[Int.toNat_natCast]
 refine⟨_,_,_,h4.at1,a,ha,⟨by omega,by omega⟩,_,_,_,(h4.lines.at_ ha hk).one 0 rfl,_,h4.at0,by unfold I64;omega,fun w5 hb5 hm5=>?_⟩
 have d5:=((Ed.begin hL h hk).nix hk4').below hb5
 have hbs:∀b∈[n1],w.heap.size≤b:=fun b hb=>by simp at hb;omega
 refine d5.split.runs fun v w6 hk6 ⟨hv,ho6⟩=>⟨by rw[hv],d5.kept (Nat.le_refl _) hbs hk6,?_⟩
 have d6:=d5.step ho6 hk6
 have hcap:=d6.cap
 have hcol:=d6.cols
 obtain⟨b,hb0⟩:=d6.place
 have hlh:(lnAt g.xs k).lh.cells.n=(lnAt g.xs k).cs.length:=rfl
 refine⟨fun e6=>⟨_,d6.at0,by unfold I64;omega,fun w7 hb7 hm7=>?_⟩,fun e6=>⟨by unfold I64;omega,fun e7=>⟨by unfold I64;omega,by unfold I64;omega,fun w7 hb7 hm7=>?_⟩,fun e7=>⟨by unfold I64;omega,fun w7 hb7 hm7=>?_⟩⟩⟩
 all_goals have d7:=d6.below hb7
 all_goals refine d7.split.runs fun v w8 hk8 ⟨hv,ho8⟩=>⟨by rw[hv],d7.kept (Nat.le_refl _) hbs hk8,?_⟩
 all_goals have d8:=d7.step ho8 hk8
 ·obtain⟨a6,ha6⟩:=cutP_ex (b:=b) (c:=(lnAt g.xs k).cap) (lo:=(col+min n ((g.cols:Int)-col)).toNat) (es:=16)
  rw[←hb0] at ha6
  refine⟨by unfold I64;omega,⟨by omega,by show _≤((lnAt g.xs k).cs.length:Int);omega,by show((lnAt g.xs k).cs.length:Int)≤((lnAt g.xs k).cap:Int);omega⟩,_,d8.at0,by unfold I64;omega,⟨by omega,by omega,by show _≤((lnAt g.xs k).cap:Int);omega⟩,a6,ha6,_,d8.from (j:=col.toNat) (m:=min (((g.cols:Int)-min n ((g.cols:Int)-col))-col).toNat (((lnAt g.xs k).cs.length:Int)-(col+min n ((g.cols:Int)-col))).toNat) (by omega),⟨(d8.can (by omega) ha6).1,d8.away hbs (d8.can (m:=0) (by omega) ha6).2⟩,fun w9 hp9=>?_⟩
  have d9:=d8.copy (by omega) (by omega) ha6 hp9
  refine⟨by unfold I64;omega,⟨by omega,by omega,by show _≤((lnAt g.xs k).cap:Int);omega⟩,fun w10 hb10 hm10=>?_⟩
  have d10:=d9.below hb10
  refine(d10.wipe (by omega)).runs fun v w11 hk11 ⟨hv,ho11⟩=>⟨by rw[hv],d10.kept (Nat.le_refl _) hbs hk11,fun w' hb _=>⟨by rw[he],?_⟩⟩
  refine((d10.step ho11 hk11).below hb).mod ?_
  rw[shiftG,if_pos ⟨he,e5⟩,Int.toNat_natCast,gr_cs,shiftL,if_pos e6]
  rfl
 ·obtain⟨a6,ha6⟩:=cutP_ex (b:=b) (c:=(lnAt g.xs k).cap) (lo:=col.toNat) (es:=16)
  rw[←hb0] at ha6
  refine⟨⟨by omega,by show col≤((lnAt g.xs k).cs.length:Int);omega,by show((lnAt g.xs k).cs.length:Int)≤((lnAt g.xs k).cap:Int);omega⟩,by unfold I64;omega,⟨by omega,by show _≤((lnAt g.xs k).cs.length:Int);omega,by show((lnAt g.xs k).cs.length:Int)≤((lnAt g.xs k).cap:Int);omega⟩,a6,ha6,_,d8.from (j:=(col+(0-n)).toNat) (m:=min (((lnAt g.xs k).cs.length:Int)-(col+(0-n))).toNat (((lnAt g.xs k).cs.length:Int)-col).toNat) (by omega),⟨(d8.can (by omega) ha6).1,d8.away hbs (d8.can (m:=0) (by omega) ha6).2⟩,fun w9 hp9=>?_⟩
  have d9:=d8.copy (by omega) (by omega) ha6 hp9
  refine⟨_,d9.at0,by unfold I64;omega,⟨by omega,by show _≤((lnAt g.xs k).cs.length:Int);omega,by show((lnAt g.xs k).cs.length:Int)≤((lnAt g.xs k).cap:Int);omega⟩,fun w10 hb10 hm10=>?_⟩
  have d10:=d9.below hb10
  refine(d10.wipe (j:=((g.cols:Int)-(0-n)).toNat) (m:=(((lnAt g.xs k).cs.length:Int)-((g.cols:Int)-(0-n))).toNat) (by omega)).runs fun v w11 hk11 ⟨hv,ho11⟩=>⟨by rw[hv],d10.kept (Nat.le_refl _) hbs hk11,fun w' hb _=>⟨by rw[he],?_⟩⟩
  refine((d10.step ho11 hk11).below hb).mod ?_
  rw[shiftG,if_pos ⟨he,e5⟩,Int.toNat_natCast,gr_cs,shiftL,if_neg (by omega),if_pos (show 0-((g.gr.cols:Int)-col)<n by omega)]
  rfl
 ·obtain⟨a6,ha6⟩:=cutP_ex (b:=b) (c:=(lnAt g.xs k).cap) (lo:=col.toNat) (es:=16)
  rw[←hb0] at ha6
  refine⟨⟨by omega,by show col≤((lnAt g.xs k).cs.length:Int);omega,by show((lnAt g.xs k).cs.length:Int)≤((lnAt g.xs k).cap:Int);omega⟩,by unfold I64;omega,⟨by omega,by show _≤((lnAt g.xs k).cs.length:Int);omega,by show((lnAt g.xs k).cs.length:Int)≤((lnAt g.xs k).cap:Int);omega⟩,a6,ha6,_,d8.from (j:=(col+((g.cols:Int)-col)).toNat) (m:=min (((lnAt g.xs k).cs.length:Int)-(col+((g.cols:Int)-col))).toNat (((lnAt g.xs k).cs.length:Int)-col).toNat) (by omega),⟨(d8.can (by omega) ha6).1,d8.away hbs (d8.can (m:=0) (by omega) ha6).2⟩,fun w9 hp9=>?_⟩
  have d9:=d8.copy (by omega) (by omega) ha6 hp9
  refine⟨_,d9.at0,by unfold I64;omega,⟨by omega,by show _≤((lnAt g.xs k).cs.length:Int);omega,by show((lnAt g.xs k).cs.length:Int)≤((lnAt g.xs k).cap:Int);omega⟩,fun w10 hb10 hm10=>?_⟩
  have d10:=d9.below hb10
  refine(d10.wipe (j:=((g.cols:Int)-((g.cols:Int)-col)).toNat) (m:=(((lnAt g.xs k).cs.length:Int)-((g.cols:Int)-((g.cols:Int)-col))).toNat) (by omega)).runs fun v w11 hk11 ⟨hv,ho11⟩=>⟨by rw[hv],d10.kept (Nat.le_refl _) hbs hk11,fun w' hb _=>⟨by rw[he],?_⟩⟩
  refine((d10.step ho11 hk11).below hb).mod ?_
  rw[shiftG,if_pos ⟨he,e5⟩,Int.toNat_natCast,gr_cs,shiftL,if_neg (by omega),if_neg (by omega)]
  rfl
end
end Go.Proofs.YtjhhiindeignaaaGreatDoor
namespace Go.Proofs.YtjhhiindeignaaaGreatDoor
open Go Go.RowKit Go.Sy Go.Rep
set_option maxRecDepth 100000
theorem v_grid_Roll {w0:World} {F:Nat→Prop} {Q:Value→World→Prop} (g:Addr) (r:Rg) (n:Int) (p:Pn) (h:∀n1:Nat,(w0.heap.size≤n1)→∀n2:Nat,(w0.heap.size≤n2)→∀w1:World,(Below w0.heap.size w0 w1)→(Mine w1 w0.heap.size [(n1,T.Region),(n2,T.Pen)])→Runs Tryz.prog X.grid_none #[(.pointer (some g))] w1 (fun e1 w2=>∃b1:Bool,(e1=(.returned (.bool b1)))∧((Kept w0.heap.size F [n1,n2] w1 w2)∧(((b1=true)→Fin w0 F w2 Q (.tuple #[(.slice none 0 0),(.int .i64 1)]))∧((b1=false)→((r.top<0)→Fin w0 F w2 Q (.tuple #[(.slice none 0 0),(.int .i64 3)]))∧(((0:Int)≤r.top)→((r.bot<r.top)→Fin w0 F w2 Q (.tuple #[(.slice none 0 0),(.int .i64 3)]))∧((r.top≤r.bot)→∃p1:Option Addr,∃n3 n4:Nat,(At w2 g 1 [(.slice p1 n3 n4)])∧((((n3:Int)≤r.bot)→Fin w0 F w2 Q (.tuple #[(.slice none 0 0),(.int .i64 3)]))∧((r.bot<(n3:Int))→∀w3:World,(Below w2.heap.size w2 w3)→(Mine w3 w0.heap.size [(n1,T.Region),(n2,T.Pen)])→Runs Tryz.prog X.grid_inked #[(.agg p.arr)] w3 (fun e2 w4=>∃b2:Bool,(e2=(.returned (.bool b2)))∧((Kept w0.heap.size F [n1,n2] w3 w4)∧(((b2=false)→Fin w0 F w4 Q (.tuple #[(.slice none 0 0),(.int .i64 2)]))∧((b2=true)→((n=0)→Fin w0 F w4 Q (.tuple #[(.slice none 0 0),(.int .i64 0)]))∧((n≠0)→∃p2:Option Addr,∃n5 n6:Nat,(At w4 g 1 [(.slice p2 n5 n6)])∧((I64 (r.bot+1))∧((((0:Int)≤r.top)∧((r.top≤(r.bot+1))∧((r.bot+1)≤(n6:Int))))∧∃I1:Int→World→Prop,((I64 (0-(((Int.toNat ((r.bot+1)-r.top)):Nat):Int)))∧((((0-(((Int.toNat ((r.bot+1)-r.top)):Nat):Int))<n)→((n<(((Int.toNat ((r.bot+1)-r.top)):Nat):Int))→(I64 (0-n))∧∀w30:World,(Below w4.heap.size w4 w30)→I1 (max n (0-n)) w30)∧(((((Int.toNat ((r.bot+1)-r.top)):Nat):Int)≤n)→∀w29:World,(Below w4.heap.size w4 w29)→I1 (((Int.toNat ((r.bot+1)-r.top)):Nat):Int) w29))∧((n≤(0-(((Int.toNat ((r.bot+1)-r.top)):Nat):Int)))→∀w28:World,(Below w4.heap.size w4 w28)→I1 (((Int.toNat ((r.bot+1)-r.top)):Nat):Int) w28)))∧∀i1:Int,∀w5:World,(Keeps F w0 w5)→(I1 i1 w5)→(I64 ((((Int.toNat ((r.bot+1)-r.top)):Nat):Int)-i1))∧((((0:Int)≤((((Int.toNat ((r.bot+1)-r.top)):Nat):Int)-i1))∧((((((Int.toNat ((r.bot+1)-r.top)):Nat):Int)-i1)≤(((Int.toNat ((r.bot+1)-r.top)):Nat):Int))∧((((Int.toNat ((r.bot+1)-r.top)):Nat):Int)≤(((n6-(Int.toNat r.top)):Nat):Int))))∧∃I2:Option Addr→Nat→Nat→Option Addr→Nat→Nat→World→Prop,((((0:Int)<n)→(((0:Int)≤0)∧(((0:Int)≤i1)∧(i1≤(((n6-(Int.toNat r.top)):Nat):Int))))∧∀w22:World,(Below w5.heap.size w5 w22)→(Mine w22 w0.heap.size [(n1,T.Region),(n2,T.Pen)])→Runs Tryz.prog X.slices_Clone_Line #[(.slice (cutP (cutP p2 n6 (Int.toNat r.top) 2) (n6-(Int.toNat r.top)) 0 2) (Int.toNat (i1-0)) ((n6-(Int.toNat r.top))-0))] w22 (fun e5 w23=>∃p7:Option Addr,∃n15 n16:Nat,(e5=(.returned (.slice p7 n15 n16)))∧((Kept w0.heap.size F [n1,n2] w22 w23)∧((((0:Int)≤i1)∧((i1≤(((Int.toNat ((r.bot+1)-r.top)):Nat):Int))∧((((Int.toNat ((r.bot+1)-r.top)):Nat):Int)≤(((n6-(Int.toNat r.top)):Nat):Int))))∧∃a6:Addr,((cutP p2 n6 (Int.toNat r.top) 2)=(some a6))∧∃s2:List Value,(((s2.length)=((min (Int.toNat ((((Int.toNat ((r.bot+1)-r.top)):Nat):Int)-i1)) (Int.toNat ((r.bot+1)-r.top)))*2))∧((∀v2:Value,(v2∈s2)→(v2.oneCell')=true)∧((((cutP (cutP p2 n6 (Int.toNat r.top) 2) (n6-(Int.toNat r.top)) (Int.toNat i1) 2)=none)→(min (Int.toNat ((((Int.toNat ((r.bot+1)-r.top)):Nat):Int)-i1)) (Int.toNat ((r.bot+1)-r.top)))=0)∧∀a8:Addr,((cutP (cutP p2 n6 (Int.toNat r.top) 2) (n6-(Int.toNat r.top)) (Int.toNat i1) 2)=(some a8))→At w23 a8 0 s2)))∧(((CanPut w23 a6 0 ((min (Int.toNat ((((Int.toNat ((r.bot+1)-r.top)):Nat):Int)-i1)) (Int.toNat ((r.bot+1)-r.top)))*2))∧(Away w0.heap.size F [n1,n2] a6.block))∧∀w24:World,(Put w23 [] a6 0 s2 w24)→((i1<(((Int.toNat ((r.bot+1)-r.top)):Nat):Int))→(I64 ((((Int.toNat ((r.bot+1)-r.top)):Nat):Int)-i1))∧((I64 (((((Int.toNat ((r.bot+1)-r.top)):Nat):Int)-i1)-1))∧∃a7:Addr,((cutP p2 n6 (Int.toNat r.top) 2)=(some a7))∧((((0:Int)≤(((((Int.toNat ((r.bot+1)-r.top)):Nat):Int)-i1)-1))∧((((((Int.toNat ((r.bot+1)-r.top)):Nat):Int)-i1)-1)<(((Int.toNat ((r.bot+1)-r.top)):Nat):Int)))∧(((CanPut w24 a7 (((Int.toNat (((((Int.toNat ((r.bot+1)-r.top)):Nat):Int)-i1)-1))*2)+1) 1)∧(Away w0.heap.size F [n1,n2] a7.block))∧∀w26:World,(Put w24 [] a7 (((Int.toNat (((((Int.toNat ((r.bot+1)-r.top)):Nat):Int)-i1)-1))*2)+1) [(.bool false)] w26)→∀w27:World,(Below w26.heap.size w26 w27)→I2 p7 n15 n16 (cutP (cutP p2 n6 (Int.toNat r.top) 2) (n6-(Int.toNat r.top)) (Int.toNat ((((Int.toNat ((r.bot+1)-r.top)):Nat):Int)-i1)) 2) (Int.toNat ((((Int.toNat ((r.bot+1)-r.top)):Nat):Int)-((((Int.toNat ((r.bot+1)-r.top)):Nat):Int)-i1))) ((n6-(Int.toNat r.top))-(Int.toNat ((((Int.toNat ((r.bot+1)-r.top)):Nat):Int)-i1))) w27))))∧(((((Int.toNat ((r.bot+1)-r.top)):Nat):Int)≤i1)→∀w25:World,(Below w24.heap.size w24 w25)→I2 p7 n15 n16 (cutP (cutP p2 n6 (Int.toNat r.top) 2) (n6-(Int.toNat r.top)) (Int.toNat ((((Int.toNat ((r.bot+1)-r.top)):Nat):Int)-i1)) 2) (Int.toNat ((((Int.toNat ((r.bot+1)-r.top)):Nat):Int)-((((Int.toNat ((r.bot+1)-r.top)):Nat):Int)-i1))) ((n6-(Int.toNat r.top))-(Int.toNat ((((Int.toNat ((r.bot+1)-r.top)):Nat):Int)-i1))) w25))))))∧((n≤0)→(I64 ((((Int.toNat ((r.bot+1)-r.top)):Nat):Int)-i1))∧((((0:Int)≤((((Int.toNat ((r.bot+1)-r.top)):Nat):Int)-i1))∧((((((Int.toNat ((r.bot+1)-r.top)):Nat):Int)-i1)≤(((Int.toNat ((r.bot+1)-r.top)):Nat):Int))∧((((Int.toNat ((r.bot+1)-r.top)):Nat):Int)≤(((n6-(Int.toNat r.top)):Nat):Int))))∧∀w16:World,(Below w5.heap.size w5 w16)→(Mine w16 w0.heap.size [(n1,T.Region),(n2,T.Pen)])→Runs Tryz.prog X.slices_Clone_Line #[(.slice (cutP (cutP p2 n6 (Int.toNat r.top) 2) (n6-(Int.toNat r.top)) (Int.toNat ((((Int.toNat ((r.bot+1)-r.top)):Nat):Int)-i1)) 2) (Int.toNat ((((Int.toNat ((r.bot+1)-r.top)):Nat):Int)-((((Int.toNat ((r.bot+1)-r.top)):Nat):Int)-i1))) ((n6-(Int.toNat r.top))-(Int.toNat ((((Int.toNat ((r.bot+1)-r.top)):Nat):Int)-i1))))] w16 (fun e4 w17=>∃p6:Option Addr,∃n13 n14:Nat,(e4=(.returned (.slice p6 n13 n14)))∧((Kept w0.heap.size F [n1,n2] w16 w17)∧((((0:Int)≤i1)∧((i1≤(((Int.toNat ((r.bot+1)-r.top)):Nat):Int))∧((((Int.toNat ((r.bot+1)-r.top)):Nat):Int)≤(((n6-(Int.toNat r.top)):Nat):Int))))∧∃a3:Addr,((cutP (cutP p2 n6 (Int.toNat r.top) 2) (n6-(Int.toNat r.top)) (Int.toNat i1) 2)=(some a3))∧∃s1:List Value,(((s1.length)=((min (Int.toNat ((r.bot+1)-r.top)) (Int.toNat ((((Int.toNat ((r.bot+1)-r.top)):Nat):Int)-i1)))*2))∧((∀v1:Value,(v1∈s1)→(v1.oneCell')=true)∧((((cutP p2 n6 (Int.toNat r.top) 2)=none)→(min (Int.toNat ((r.bot+1)-r.top)) (Int.toNat ((((Int.toNat ((r.bot+1)-r.top)):Nat):Int)-i1)))=0)∧∀a5:Addr,((cutP p2 n6 (Int.toNat r.top) 2)=(some a5))→At w17 a5 0 s1)))∧(((CanPut w17 a3 0 ((min (Int.toNat ((r.bot+1)-r.top)) (Int.toNat ((((Int.toNat ((r.bot+1)-r.top)):Nat):Int)-i1)))*2))∧(Away w0.heap.size F [n1,n2] a3.block))∧∀w18:World,(Put w17 [] a3 0 s1 w18)→(((0:Int)≤0)∧(((0:Int)≤i1)∧(i1≤(((n6-(Int.toNat r.top)):Nat):Int))))∧(((i1<(((Int.toNat ((r.bot+1)-r.top)):Nat):Int))→(I64 ((((Int.toNat ((r.bot+1)-r.top)):Nat):Int)-1))∧∃a4:Addr,((cutP p2 n6 (Int.toNat r.top) 2)=(some a4))∧((((0:Int)≤((((Int.toNat ((r.bot+1)-r.top)):Nat):Int)-1))∧(((((Int.toNat ((r.bot+1)-r.top)):Nat):Int)-1)<(((Int.toNat ((r.bot+1)-r.top)):Nat):Int)))∧(((CanPut w18 a4 (((Int.toNat ((((Int.toNat ((r.bot+1)-r.top)):Nat):Int)-1))*2)+1) 1)∧(Away w0.heap.size F [n1,n2] a4.block))∧∀w20:World,(Put w18 [] a4 (((Int.toNat ((((Int.toNat ((r.bot+1)-r.top)):Nat):Int)-1))*2)+1) [(.bool false)] w20)→∀w21:World,(Below w20.heap.size w20 w21)→I2 p6 n13 n14 (cutP (cutP p2 n6 (Int.toNat r.top) 2) (n6-(Int.toNat r.top)) 0 2) (Int.toNat (i1-0)) ((n6-(Int.toNat r.top))-0) w21)))∧(((((Int.toNat ((r.bot+1)-r.top)):Nat):Int)≤i1)→∀w19:World,(Below w18.heap.size w18 w19)→I2 p6 n13 n14 (cutP (cutP p2 n6 (Int.toNat r.top) 2) (n6-(Int.toNat r.top)) 0 2) (Int.toNat (i1-0)) ((n6-(Int.toNat r.top))-0) w19)))))))))∧∀p3:Option Addr,∀n7 n8:Nat,∀p4:Option Addr,∀n9 n10:Nat,∀w6:World,(Keeps F w0 w6)→(I2 p3 n7 n8 p4 n9 n10 w6)→∃I3:Int→World→Prop,∃I4:Int→Nat,(∀w15:World,(Below w6.heap.size w6 w15)→I3 0 w15)∧∀i2:Int,∀w7:World,(Keeps F w0 w7)→(I3 i2 w7)→((i2<(n9:Int))→∃i3:Int,(At w7 g 0 [(.int .i64 i3)])∧∀w11:World,(Below w7.heap.size w7 w11)→(Mine w11 w0.heap.size [(n1,T.Region),(n2,T.Pen)])→Runs Tryz.prog X.grid_blanks #[(.int .i64 i3),(.agg p.arr)] w11 (fun e3 w12=>∃lh1:Lh,(e3=(.returned (.agg lh1.arr)))∧((Kept w0.heap.size F [n1,n2] w11 w12)∧∃a2:Addr,(p4=(some a2))∧((((0:Int)≤i2)∧(i2<(n9:Int)))∧(((CanPut w12 a2 ((Int.toNat i2)*2) 2)∧(Away w0.heap.size F [n1,n2] a2.block))∧∀w13:World,(Put w12 [] a2 ((Int.toNat i2)*2) lh1.arr.toList w13)→(I64 (i2+1))∧∀w14:World,(Below w13.heap.size w13 w14)→(I3 (i2+1) w14)∧(I4 (i2+1)<I4 i2))))))∧(((n9:Int)≤i2)→(((0:Int)<r.top)→∃p5:Option Addr,∃n11 n12:Nat,(At w7 g 1 [(.slice p5 n11 n12)])∧((I64 (r.top-1))∧∃a1:Addr,(p5=(some a1))∧((((0:Int)≤(r.top-1))∧((r.top-1)<(n11:Int)))∧(((CanPut w7 a1 (((Int.toNat (r.top-1))*2)+1) 1)∧(Away w0.heap.size F [n1,n2] a1.block))∧∀w9:World,(Put w7 [] a1 (((Int.toNat (r.top-1))*2)+1) [(.bool false)] w9)→Fin w0 F w9 Q (.tuple #[(.slice p3 n7 n8),(.int .i64 0)])))))∧((r.top≤0)→Fin w0 F w7 Q (.tuple #[(.slice p3 n7 n8),(.int .i64 0)])))))))))))))))))))):Gets Tryz.prog X.grid_Roll #[(.pointer (some g)),(.agg r.arr),(.int .i64 n),(.agg p.arr)] w0 F Q:=
 func_run mixed [⟨26,[127],[]⟩] [⟨13,[11],[]⟩,⟨25,[12,13],[]⟩] X.grid_Roll [SV.adr g 0,SV.agg (Rg.cod.enc r),SV.int IntKind.i64 n,SV.agg (Pn.cod.enc p)] ⟨by trivial,okA _ _,by trivial,okA _ _,trivial⟩ (by kernel_rfl) (by kernel_rfl) h
end Go.Proofs.YtjhhiindeignaaaGreatDoor
namespace Go.Proofs.YtjhhiindeignaaaGreatDoor
open Go Go.RowKit Go.Sy Go.Rep
set_option maxRecDepth 100000
set_option maxHeartbeats 2000000
theorem r_slices_Clone_Line {w:World} {p:Option Addr} {n c:Nat} {xs:List Ln} (h:Row w p n 2 (hdrs xs)) (hn:n≤1073741824):Gets Tryz.prog X.slices_Clone_Line #[.slice p n c] w Nix (fun v w'=>∃q d,v= .slice q n d∧Own w.heap.size w' T.Line 2 q n d (hdrs xs)):=by
 have hl:=h.len
 rw[hdrs_length] at hl
 refine v_slices_Clone_Line p n c ⟨fun e=>?_,fun e w1 n1 h1=>?_⟩
 ·intro w' hb hk
  have h0:n=0:=Row.none0 h e
  subst h0
  have:xs=[]:=List.eq_nil_of_length_eq_zero (by omega)
  subst this
  exact⟨none,0,rfl,Own.nil _ _ _ _⟩
 ·have h1':=Row.nix h (Litr.keeps h1 rfl)
  refine⟨[],lit_room h1,hdrs xs,⟨by rw[hdrs_length,show xs.length=n by omega],hdrs_one xs,fun e'=>absurd e' e,fun a ha=>h1'.lies a ha⟩,by omega,fun w2 p1 n2 h2=>?_⟩
  obtain⟨ho,hk⟩:=clone_any h1 h2
  intro w' hb _
  rw[Nat.zero_add]
  exact⟨p1,n2,rfl,ho.below hb⟩
def sf (ys:List Ln) (j:Nat):List Ln:=ys.set j (softLn (lnAt ys j) false)
theorem sf_length (ys:List Ln) (j:Nat):(sf ys j).length=ys.length:=by simp[sf]
theorem lnAt_left {xs ys:List Ln} {j:Nat} (h:j<xs.length):lnAt (xs++ys) j=lnAt xs j:=by simp[lnAt,List.getElem?_append_left h]
theorem lnAt_right {xs ys:List Ln} {j:Nat}:lnAt (xs++ys) (xs.length+j)=lnAt ys j:=by simp[lnAt,List.getElem?_append_right]
theorem sf_left {xs ys:List Ln} {j:Nat} (h:j<xs.length):sf (xs++ys) j=sf xs j++ys:=by
 unfold sf
 rw[lnAt_left h,List.set_append_left _ _ h]
theorem sf_right {xs ys:List Ln} {j:Nat}:sf (xs++ys) (xs.length+j)=xs++sf ys j:=by
 unfold sf
 rw[lnAt_right,List.set_append_right _ _ (by omega),Nat.add_sub_cancel_left]
section
variable {w v v':World} {g:Gd} {ys xs:List Ln} {j:Nat}
theorem LF.sf {i:Nat}:LF (sf ys j) i→LF ys i:=by
 rcases Nat.lt_or_ge j ys.length with h|h
 ·exact LF.set (x':=softLn (lnAt ys j) false) h rfl
 ·unfold Go.Proofs.YtjhhiindeignaaaGreatDoor.sf
  rw[List.set_eq_of_length_le h]
  exact id
theorem Each.sf (h:Each v ys):Each v (sf ys j):=by
 rcases Nat.lt_or_ge j ys.length with q|q
 ·exact h.set q rfl (Keeps.refl _ _) (LnOwn.soft (h.own _ (lnAt_mem q)))
 ·unfold Go.Proofs.YtjhhiindeignaaaGreatDoor.sf
  rw[List.set_eq_of_length_le q]
  exact h
theorem Each.perm (h:Each v xs) (hp:xs.Perm ys):Each v ys:=
 ⟨fun x hx=>h.own x (hp.symm.subset hx),(hp.pairwise_iff (fun{a b} hab p q hp hq e=>hab q p hq hp e.symm)).1 h.sep⟩
structure Ha (w v:World) (g:Gd) (b:Nat) (ys:List Ln):Prop where
 old:GridAt w g
 at_:g.p=some ⟨b,0,none⟩
 own:Own Y.count v T.Line 2 g.p g.xs.length g.c (hdrs ys)
 kp:Keeps (PF g.p) w v
 laid:Laid v
theorem PF.gd {i:Nat} (h:PF g.p i):GdF g i:= .inr (.inl h)
variable {b:Nat}
theorem Ha.begin (hL:Laid w) (h:GridAt w g) (hb:g.p=some ⟨b,0,none⟩):Ha w w g b g.xs:=⟨h,hb,h.lines.row,Keeps.refl _ _,hL⟩
theorem Ha.len (h:Ha w v g b ys):ys.length=g.xs.length:=by have:=h.own.len;rw[hdrs_length] at this;omega
theorem Ha.nix (h:Ha w v g b ys) (hk:Keeps Nix v v'):Ha w v' g b ys:=⟨h.old,h.at_,h.own.nix hk,h.kp.trans (hk.mono fun _ q=>q.elim),Laid.nix hk h.laid⟩
theorem Ha.below (h:Ha w v g b ys) (hb:Below v.heap.size v v'):Ha w v' g b ys:=h.nix (Keeps.of_below hb)
theorem Ha.off (h:Ha w v g b ys):¬PF g.p g.b:=fun hi=>h.old.off (.inl hi)
theorem Ha.at0 (h:Ha w v g b ys):At v ⟨g.b,0,none⟩ 0 [.int .i64 g.cols]:=h.old.at0.keeps h.kp h.off
theorem Ha.at1 (h:Ha w v g b ys):At v ⟨g.b,0,none⟩ 1 [.slice g.p g.xs.length g.c]:=h.old.at1.keeps h.kp h.off
theorem Ha.pf (h:Ha w v g b ys):PF g.p b:=⟨_,h.at_,rfl⟩
theorem Ha.each (h:Ha w v g b ys):Each v g.xs:=h.old.lines.each.keeps h.kp fun i ⟨a,ha,e⟩ hl=>h.old.lines.off a ha (by rw[e];exact hl)
theorem Ha.away {lo:Nat} {bs:List Nat} (h:Ha w v g b ys) (hbs:∀i∈bs,w.heap.size≤i):Away lo (GdF g) bs b:=
 ⟨fun hm=>by have:=h.old.lt (PF.gd h.pf);have:=hbs _ hm;omega,fun _=>PF.gd h.pf⟩
theorem Ha.step {ys':List Ln} {a:Addr} {o:Nat} {vs:List Value} (h:Ha w v g b ys) (ha:a.block=b) (hp:Put v [] a o vs v') (ho:Own Y.count v' T.Line 2 g.p g.xs.length g.c (hdrs ys')):Ha w v' g b ys':=
 have hk:Keeps (PF g.p) v v':=hp.keeps ⟨_,h.at_,ha.symm⟩
 ⟨h.old,h.at_,ho,h.kp.trans hk,h.laid.keeps hk fun i hi=>h.old.low (PF.gd hi)⟩
def Pl (g:Gd) (b:Nat) (a:Addr) (j m:Nat):Prop:=∃o,a=⟨b,o,none⟩∧o≤g.xs.length*2∧(0<m→o=j*2)
theorem Ha.can {a:Addr} {m:Nat} (h:Ha w v g b ys) (ha:Pl g b a j m) (hm:j+m≤g.xs.length):CanPut v a 0 (m*2)∧a.block=b:=by
 obtain⟨o,rfl,ho,hj⟩:=ha
 refine⟨CanPut.base (Own.canPut h.own h.at_ ?_),rfl⟩
 rcases Nat.eq_zero_or_pos m with q|q
 ·omega
 ·have:=hj q;omega
theorem Ha.from {m:Nat} (h:Ha w v g b ys) (hm:j+m≤g.xs.length):(hdrs ((ys.drop j).take m)).length=m*2∧((∀u:Value,u∈hdrs ((ys.drop j).take m)→u.oneCell'=true)∧∀a,Pl g b a j m→At v a 0 (hdrs ((ys.drop j).take m))):=by
 have hl:=h.len
 refine⟨by rw[hdrs_length,List.length_take,List.length_drop];omega,hdrs_one _,fun a ha=>?_⟩
 obtain⟨o,rfl,ho,hj⟩:=ha
 rcases Nat.eq_zero_or_pos m with q|q
 ·subst q
  intro i u hu
  simp[hdrs] at hu
 ·have e:=hj q
  subst e
  have:=Row.at_ h.own.row h.at_ (j*2) (us:=hdrs ((ys.drop j).take m)) (by rw[hdrs_length,hdrs_drop,List.length_take,hdrs_take,List.length_drop,Nat.min_eq_left (by omega)])
  have:=At.shift this
  unfold Addr.add at this
  split at this
  ·rename_i q2;rw[show j*2=0 from q2];exact this
  ·simpa using this
def moveX (l:List Ln) (j1 j2 m:Nat):List Ln:=l.take j1++(l.drop j2).take m++l.drop (j1+m)
theorem hdrs_puts {k:Nat} {zs:List Ln}:(hdrs ys).take (k*2)++(hdrs zs++(hdrs ys).drop (k*2+(hdrs zs).length))=hdrs (ys.take k++zs++ys.drop (k+zs.length)):=by
 rw[hdrs_take,hdrs_length,←Nat.add_mul,hdrs_drop,←hdrs_append,←hdrs_append,List.append_assoc]
theorem Ha.copy {j1 j2 m:Nat} {a:Addr} (h:Ha w v g b ys) (hm:j1+m≤g.xs.length) (hm2:j2+m≤g.xs.length) (ha:Pl g b a j1 m) (hp:Put v [] a 0 (hdrs ((ys.drop j2).take m)) v'):Ha w v' g b (moveX ys j1 j2 m):=by
 have hl:=h.len
 refine h.step (h.can ha hm).2 hp ?_
 obtain⟨o,rfl,ho,hj⟩:=ha
 have hlen:((ys.drop j2).take m).length=m:=by rw[List.length_take,List.length_drop];omega
 rcases Nat.eq_zero_or_pos m with q|q
 ·subst q
  have:=Own.put h.own h.at_ (o:=o+0) (vs:=hdrs ((ys.drop j2).take 0)) (by simp[hdrs];omega) (Put.base hp)
  simpa[moveX,hdrs] using this
 ·have e:=hj q
  subst e
  have hp':=Put.base (k:=j1*2) (o:=0) hp
  rw[Nat.add_zero] at hp'
  have:=Own.put h.own h.at_ (o:=j1*2) (by rw[hdrs_length,hlen];omega) hp'
  rw[hdrs_puts,hlen] at this
  exact this
theorem Ha.soft {a:Addr} {k:Nat} (h:Ha w v g b ys) (ha:a=⟨b,j*2,none⟩) (hk:j+k<g.xs.length) (hp:Put v [] a (k*2+1) [.bool false] v'):Ha w v' g b (sf ys (j+k)):=by
 have hl:=h.len
 refine h.step (by rw[ha]) hp ?_
 subst ha
 have:=Own.put h.own h.at_ (o:=j*2+(k*2+1)) (by show j*2+(k*2+1)+1≤_;omega) (Put.base hp)
 rw[show j*2+(k*2+1)=(j+k)*2+1 by omega] at this
 show Own _ _ _ _ _ _ _ (hdrs (ys.set (j+k) _))
 rw[←hdrs_soft (by omega)]
 exact this
theorem Ha.head {a:Addr} {k:Nat} {x:Ln} (h:Ha w v g b ys) (ha:a=⟨b,j*2,none⟩) (hk:j+k<g.xs.length) (hp:Put v [] a (k*2) x.lh.arr.toList v'):Ha w v' g b (ys.set (j+k) x):=by
 have hl:=h.len
 refine h.step (by rw[ha]) hp ?_
 subst ha
 have:=Own.put h.own h.at_ (o:=j*2+k*2) (by show j*2+k*2+2≤_;omega) (Put.base hp)
 rw[←Nat.add_mul] at this
 rw[←hdrs_put (by omega)]
 exact this
theorem Ha.can1 {a:Addr} {o m:Nat} (h:Ha w v g b ys) (ha:a=⟨b,j*2,none⟩) (hk:j*2+o+m≤g.xs.length*2):CanPut v a o m:=by
 subst ha
 exact CanPut.base (Own.canPut h.own h.at_ (by omega))
theorem cutP2_some {c t k:Nat} (h:t+k<c):cutP (cutP (some ⟨b,0,none⟩) c t 2) (c-t) k 2=some ⟨b,(t+k)*2,none⟩:=by
 rw[cutP_some (by omega)]
 unfold cutP
 rw[if_neg (by omega)]
 show some (Addr.add ⟨b,t*2,none⟩ (k*2))=_
 unfold Addr.add
 split
 ·rename_i e
  have:k=0:=by omega
  subst this
  rfl
 ·simp<;>omega
theorem cutP2_pl {c t k m:Nat} {a:Addr} (h:t+k≤c) (ht:t<c) (hm:0<m→t+k<c) (hk:t+k≤g.xs.length) (ha:cutP (cutP (some ⟨b,0,none⟩) c t 2) (c-t) k 2=some a):Pl g b a (t+k) m:=by
 rcases Nat.lt_or_ge (t+k) c with q|q
 ·rw[cutP2_some q] at ha
  cases ha
  exact⟨_,rfl,by omega,fun _=>rfl⟩
 ·rw[cutP_some ht] at ha
  unfold cutP at ha
  rw[if_pos (by omega)] at ha
  cases ha
  exact⟨_,rfl,by omega,fun hm0=>by have:=hm hm0;omega⟩
def RollQ (w:World) (g:Gd) (r:Gr) (gone:List Li) (e:Int) (u:Value) (v:World):Prop:=∃p3 c3 gs,∃g':Gd,u= .tuple #[.slice p3 gs.length c3, .int .i64 e]∧lis gs=gone∧Lines v p3 gs.length c3 gs∧g'.b=g.b∧g'.gr=r∧GridAt v g'∧(∀i,GdF g' i→GdF g i∨w.heap.size≤i)∧∀i,LsF p3 gs i→(GdF g i∨w.heap.size≤i)∧¬GdF g' i
theorem roll_same {e:Int} (h:GridAt v g):RollQ w g g.gr [] e (.tuple #[.slice none 0 0, .int .i64 e]) v:=
 ⟨none,0,[],g,rfl,rfl,Lines.nil,rfl,rfl,h,fun i hi=> .inl hi,fun i hi=>absurd hi LsF.nil⟩
theorem roll_end {Y gs:List Ln} {p3:Option Addr} {c3:Nat} (h:Ha w v g b Y) (hY:Y.length=g.xs.length) (hE:Each v (Y++gs)) (hsub:∀i,LF Y i→LF g.xs i∨w.heap.size≤i) (hgs:∀i,LF gs i→LF g.xs i) (hL:Laid w) (hp3:Own w.heap.size v T.Line 2 p3 gs.length c3 (hdrs gs)) (hd:∀a,p3=some a→¬LF Y a.block) (hwid:∀x∈Y,x.cs.length=g.cols):RollQ w g ⟨g.cols,lis Y⟩ (lis gs) 0 (.tuple #[.slice p3 gs.length c3, .int .i64 0]) v:=by
 have ho:=h.old
 have hlt:∀{i},GdF g i→i<w.heap.size:=fun hi=>ho.lt hi
 have hsep:=List.pairwise_append.1 hE.sep
 refine⟨p3,c3,gs,⟨g.b,g.cols,g.p,g.c,Y⟩,rfl,rfl,⟨hp3.low hL.size,fun a ha hi=>?_,hE.sub (List.sublist_append_right _ _)⟩,rfl,rfl,⟨?_,⟨?_,fun a ha hi=>?_,hE.sub (List.sublist_append_left _ _)⟩,fun hi=>?_,ho.lo,ho.c1,ho.c2,?_,?_,hwid⟩,fun i hi=>?_,fun i hi=>⟨?_,fun hg=>?_⟩⟩
 ·have:=hlt (.inr (.inr (hgs _ hi)))
  have:=(hp3.lt a ha).2.1
  omega
 ·show Whole _ _ _ [_, .slice _ Y.length _]
  rw[hY]
  exact ho.blk.keeps h.kp h.off
 ·show Own _ _ _ _ _ Y.length _ _
  rw[hY]
  exact h.own
 ·rcases hsub _ hi with q|q
  ·exact ho.lines.off a ha q
  ·have:=hlt (PF.gd ⟨a,ha,rfl⟩)
   omega
 ·rcases hi with q|q
  ·exact ho.off (.inl q)
  ·rcases hsub _ q with q|q
   ·exact ho.off (.inr q)
   ·have:=hlt (i:=g.b) (.inl rfl)
    have:g.b<w.heap.size:=this
    change w.heap.size≤g.b at q
    omega
 ·show 1≤Y.length
  rw[hY];exact ho.r1
 ·show Y.length≤1000
  rw[hY];exact ho.r2
 ·rcases hi with q|q|q
  ·exact .inl (.inl q)
  ·exact .inl (PF.gd q)
  ·rcases hsub _ q with q|q
   ·exact .inl (.inr (.inr q))
   ·exact .inr q
 ·rcases hi with⟨a,ha,rfl⟩|q
  ·exact .inr (hp3.lt a ha).2.1
  ·exact .inl (.inr (.inr (hgs _ q)))
 ·rcases hi with⟨a,ha,rfl⟩|q
  ·have hge:=(hp3.lt a ha).2.1
   rcases hg with q|q|q
   ·have:=hlt (i:=g.b) (.inl rfl)
    change a.block=g.b at q
    omega
   ·have:=hlt (PF.gd q)
    omega
   ·exact hd a ha q
  ·have hx:=hgs _ q
   rcases hg with r|⟨a,ha,e⟩|r
   ·change i=g.b at r
    subst r
    exact ho.off (.inr hx)
   ·exact ho.lines.off a ha (by rw[e];exact hx)
   ·obtain⟨x,hxm,a,ha,e1⟩:=r
    obtain⟨y,hym,c,hc,e2⟩:=q
    exact hsep.2.2 x hxm y hym a c ha hc (e1.trans e2.symm)
end
end Go.Proofs.YtjhhiindeignaaaGreatDoor
namespace Go.Proofs.YtjhhiindeignaaaGreatDoor
open Go Go.RowKit Go.Sy Go.Rep
set_option maxRecDepth 100000
set_option maxHeartbeats 2000000
def sfI (ls:List Li) (j:Nat):List Li:=ls.set j ⟨(liAt ls j).cs,false⟩
def kOf (n:Int) (L:Nat):Nat:=if-(L:Int)<n∧n<L then n.natAbs else L
def rollA {α:Type} (s:List α→Nat→List α) (ls:List α) (t L k:Nat) (n:Int):List α:=
 if 0<n then(if k<L then s (ls.take t++(ls.drop (t+k)).take (L-k)) (t+(L-k-1)) else ls.take t++(ls.drop (t+k)).take (L-k)) else ls.take t
def rollR {α:Type} (s:List α→Nat→List α) (ls:List α) (t L k:Nat) (n:Int):List α:=
 if 0<n then ls.drop (t+L) else(if k<L then s ((ls.drop t).take (L-k)++ls.drop (t+L)) (L-k-1) else(ls.drop t).take (L-k)++ls.drop (t+L))
def rollGone {α:Type} (ls:List α) (t L k:Nat) (n:Int):List α:=if 0<n then(ls.drop t).take k else(ls.drop (t+(L-k))).take k
def rollT {α:Type} (ls:List α) (t L k:Nat) (n:Int):List α:=if 0<n then(ls.drop (t+(L-k))).take k else(ls.drop t).take k
theorem lis_sf {ys:List Ln} {j:Nat}:lis (sf ys j)=sfI (lis ys) j:=by
 unfold sf sfI
 rw[lis_set,liAt_lis];rfl
theorem lis_take' {xs:List Ln} {k:Nat}:lis (xs.take k)=(lis xs).take k:=by simp[lis,List.map_take]
theorem lis_drop' {xs:List Ln} {k:Nat}:lis (xs.drop k)=(lis xs).drop k:=by simp[lis,List.map_drop]
theorem lis_append {xs ys:List Ln}:lis (xs++ys)=lis xs++lis ys:=by simp[lis]
theorem lis_rollA {xs:List Ln} {t L k:Nat} {n:Int}:lis (rollA sf xs t L k n)=rollA sfI (lis xs) t L k n:=by
 unfold rollA
 repeat' split
 all_goals simp only[lis_sf,lis_append,lis_take',lis_drop']
theorem lis_rollR {xs:List Ln} {t L k:Nat} {n:Int}:lis (rollR sf xs t L k n)=rollR sfI (lis xs) t L k n:=by
 unfold rollR
 repeat' split
 all_goals simp only[lis_sf,lis_append,lis_take',lis_drop']
theorem lis_rollGone {xs:List Ln} {t L k:Nat} {n:Int}:lis (rollGone xs t L k n)=rollGone (lis xs) t L k n:=by
 unfold rollGone
 split<;>simp only[lis_take',lis_drop']
section
variable {xs:List Ln} {t L k:Nat} {n:Int}
theorem mid_split (h1:k≤L):xs=xs.take t++(xs.drop t).take k++(xs.drop (t+k)).take (L-k)++xs.drop (t+L):=by
 have e1:xs.drop (t+k)=(xs.drop (t+k)).take (L-k)++xs.drop (t+L):=by
  conv=>lhs;rw[←List.take_append_drop (L-k) (xs.drop (t+k))]
  rw[List.drop_drop,show t+k+(L-k)=t+L by omega]
 have e2:xs.drop t=(xs.drop t).take k++xs.drop (t+k):=by
  conv=>lhs;rw[←List.take_append_drop k (xs.drop t)]
  rw[List.drop_drop]
 conv=>lhs;rw[←List.take_append_drop t xs,e2,e1]
 simp only[List.append_assoc]
theorem rollA_length (h:t+L≤xs.length) (h1:k≤L):(rollA sf xs t L k n).length=if 0<n then t+(L-k) else t:=by
 unfold rollA
 repeat' split
 all_goals simp[sf_length]
 all_goals omega
theorem rollT_length (h:t+L≤xs.length) (h1:k≤L):(rollT xs t L k n).length=k:=by
 unfold rollT
 split<;>simp<;>omega
theorem rollGone_length (h:t+L≤xs.length) (h1:k≤L):(rollGone xs t L k n).length=k:=by
 unfold rollGone
 split<;>simp<;>omega
theorem roll_up (h:t+L≤xs.length) (h1:k≤L) (hn:0<n):(if k<L then sf (moveX xs t (t+k) (L-k)) (t+(L-k-1)) else moveX xs t (t+k) (L-k))=rollA sf xs t L k n++rollT xs t L k n++rollR sf xs t L k n:=by
 have e1:xs.drop (t+(L-k))=(xs.drop (t+(L-k))).take k++xs.drop (t+L):=by
  conv=>lhs;rw[←List.take_append_drop k (xs.drop (t+(L-k)))]
  rw[List.drop_drop,show t+(L-k)+k=t+L by omega]
 have e2:moveX xs t (t+k) (L-k)=(xs.take t++(xs.drop (t+k)).take (L-k))++((xs.drop (t+(L-k))).take k++xs.drop (t+L)):=by
  unfold moveX
  rw[←e1]
 unfold rollA rollT rollR
 rw[if_pos hn,if_pos hn,if_pos hn,e2]
 have hl:(xs.take t++(xs.drop (t+k)).take (L-k)).length=t+(L-k):=by simp<;>omega
 generalize xs.take t++(xs.drop (t+k)).take (L-k)=X at*
 split
 ·rw[sf_left (by omega),List.append_assoc]
 ·rw[List.append_assoc]
theorem roll_down (h:t+L≤xs.length) (h1:k≤L) (hn:¬0<n):(if k<L then sf (moveX xs (t+k) t (L-k)) (t+(L-1)) else moveX xs (t+k) t (L-k))=rollA sf xs t L k n++rollT xs t L k n++rollR sf xs t L k n:=by
 have e2:moveX xs (t+k) t (L-k)=(xs.take t++(xs.drop t).take k)++((xs.drop t).take (L-k)++xs.drop (t+L)):=by
  unfold moveX
  rw[List.take_add,show t+k+(L-k)=t+L by omega,List.append_assoc]
 have hl:(xs.take t++(xs.drop t).take k).length=t+k:=by simp<;>omega
 unfold rollA rollT rollR
 rw[if_neg hn,if_neg hn,if_neg hn,e2]
 split
 ·rename_i q
  rw[show t+(L-1)=(xs.take t++(xs.drop t).take k).length+(L-k-1) by rw[hl];omega,sf_right]
 ·rfl
theorem roll_each {v:World} (h:t+L≤xs.length) (h1:k≤L) (hE:Each v xs):Each v (rollA sf xs t L k n++rollR sf xs t L k n++rollGone xs t L k n):=by
 have hu:Each v ((xs.take t++(xs.drop (t+k)).take (L-k))++xs.drop (t+L)++(xs.drop t).take k):=by
  have e:=mid_split (xs:=xs) (t:=t) h1
  rw[e] at hE
  refine hE.perm ?_
  simp only[List.append_assoc]
  refine List.Perm.append_left _ ?_
  rw[←List.append_assoc ((xs.drop (t+k)).take (L-k))]
  exact List.perm_append_comm
 have hd:Each v (xs.take t++((xs.drop t).take (L-k)++xs.drop (t+L))++(xs.drop (t+(L-k))).take k):=by
  have e:=mid_split (xs:=xs) (t:=t) (k:=L-k) (L:=L) (by omega)
  rw[show L-(L-k)=k by omega] at e
  rw[e] at hE
  refine hE.perm ?_
  simp only[List.append_assoc]
  refine List.Perm.append_left _ (List.Perm.append_left _ ?_)
  exact List.perm_append_comm
 unfold rollA rollR rollGone
 by_cases hn:0<n
 ·rw[if_pos hn,if_pos hn,if_pos hn]
  split
  ·have:=Each.sf (j:=t+(L-k-1)) hu
   rwa[List.append_assoc,sf_left (by simp<;>omega),←List.append_assoc] at this
  ·exact hu
 ·rw[if_neg hn,if_neg hn,if_neg hn]
  split
  ·have:=Each.sf (j:=(xs.take t).length+(L-k-1)) hd
   rw[List.append_assoc,sf_right,sf_left (by simp<;>omega),←List.append_assoc] at this
   exact this
  ·exact hd
end
end Go.Proofs.YtjhhiindeignaaaGreatDoor
namespace Go.Proofs.YtjhhiindeignaaaGreatDoor
open Go Go.RowKit Go.Sy Go.Rep
set_option maxRecDepth 100000
set_option maxHeartbeats 2000000
def Like (xs:List Ln) (x:Ln):Prop:=∃y∈xs,y.ad=x.ad∧y.cs=x.cs
theorem sf_like {xs ys:List Ln} {j:Nat} (h:∀x∈ys,Like xs x):∀x∈sf ys j,Like xs x:=by
 intro x hx
 rcases Nat.lt_or_ge j ys.length with q|q
 ·rcases List.mem_or_eq_of_mem_set hx with r|r
  ·exact h x r
  ·subst r
   obtain⟨y,hy,h1,h2⟩:=h _ (lnAt_mem q)
   exact⟨y,hy,h1,h2⟩
 ·unfold sf at hx
  rw[List.set_eq_of_length_le q] at hx
  exact h x hx
theorem roll_like {xs:List Ln} {t L k:Nat} {n:Int}:∀x∈rollA sf xs t L k n++rollR sf xs t L k n++rollGone xs t L k n,Like xs x:=by
 have base:∀x∈xs,Like xs x:=fun x hx=>⟨x,hx,rfl,rfl⟩
 have tk:∀{ys:List Ln} {m:Nat},(∀x∈ys,Like xs x)→∀x∈ys.take m,Like xs x:=fun h x hx=>h x (List.mem_of_mem_take hx)
 have dr:∀{ys:List Ln} {m:Nat},(∀x∈ys,Like xs x)→∀x∈ys.drop m,Like xs x:=fun h x hx=>h x (List.mem_of_mem_drop hx)
 have ap:∀{ys zs:List Ln},(∀x∈ys,Like xs x)→(∀x∈zs,Like xs x)→∀x∈ys++zs,Like xs x:=fun h h' x hx=>(List.mem_append.1 hx).elim (h x) (h' x)
 refine ap (ap ?_ ?_) ?_
 ·unfold rollA
  repeat' split
  ·exact sf_like (ap (tk base) (tk (dr base)))
  ·exact ap (tk base) (tk (dr base))
  ·exact tk base
 ·unfold rollR
  repeat' split
  ·exact dr base
  ·exact sf_like (ap (tk (dr base)) (dr base))
  ·exact ap (tk (dr base)) (dr base)
 ·unfold rollGone
  split
  ·exact tk (dr base)
  ·exact tk (dr base)
theorem Like.LF {xs ys:List Ln} (h:∀x∈ys,Like xs x) {i:Nat} (hi:LF ys i):LF xs i:=by
 obtain⟨x,hx,a,ha,e⟩:=hi
 obtain⟨y,hy,h1,_⟩:=h x hx
 exact⟨y,hy,a,by rw[h1];exact ha,e⟩
def rollE (r:Gr) (rg:Rg) (q:Pn):Int:=if rg.top<0∨rg.bot<rg.top∨(r.ls.length:Int)≤rg.bot then 3 else if validCl (bCl q)=false then 2 else 0
def rollY (ls:List Li) (t L k:Nat) (n:Int) (bl:Li):List Li:=rollA sfI ls t L k n++List.replicate k bl++rollR sfI ls t L k n
def rollLs (ls:List Li) (t L k:Nat) (n:Int) (bl:Li):List Li:=if 0<t then sfI (rollY ls t L k n bl) (t-1) else rollY ls t L k n bl
def rollG (r:Gr) (rg:Rg) (n:Int) (q:Pn):Gr:=if rollE r rg q=0∧n≠0 then⟨r.cols,rollLs r.ls rg.top.toNat (rg.bot+1-rg.top).toNat (kOf n (rg.bot+1-rg.top).toNat) n ⟨List.replicate r.cols (bCl q),false⟩⟩ else r
def rollX (r:Gr) (rg:Rg) (n:Int) (q:Pn):List Li:=if rollE r rg q=0∧n≠0 then rollGone r.ls rg.top.toNat (rg.bot+1-rg.top).toNat (kOf n (rg.bot+1-rg.top).toNat) n else[]
section
variable {w v v':World} {g:Gd} {b:Nat} {ys:List Ln}
theorem cutP2_ex {c t k:Nat}:∃a,cutP (cutP (some ⟨b,0,none⟩) c t 2) (c-t) k 2=some a:=by
 unfold cutP
 repeat' split
 all_goals exact⟨_,rfl⟩
theorem Ha.cap (h:Ha w v g b ys):g.xs.length≤g.c:=Own.cap h.own
theorem Ha.pl {t kk m:Nat} {a:Addr} (h:Ha w v g b ys) (ht:t<g.xs.length) (htk:t+kk+m≤g.xs.length) (ha:cutP (cutP g.p g.c t 2) (g.c-t) kk 2=some a):Pl g b a (t+kk) m:=by
 rw[h.at_] at ha
 have:=h.cap
 exact cutP2_pl (by omega) (by omega) (by omega) (by omega) ha
theorem Ha.row {t kk m:Nat} (h:Ha w v g b ys) (ht:t<g.xs.length) (htk:t+kk+m≤g.xs.length):Row v (cutP (cutP g.p g.c t 2) (g.c-t) kk 2) m 2 (hdrs ((ys.drop (t+kk)).take m)):=by
 have:=h.from (j:=t+kk) (m:=m) htk
 exact⟨this.1,fun a ha=>this.2.2 a (h.pl ht htk ha),fun _=>by rw[h.at_];exact cutP2_ex⟩
theorem kOf_le {n:Int} {L:Nat} (hn:n≠0) (hL:1≤L):1≤kOf n L∧kOf n L≤L:=by
 unfold kOf
 split<;>omega
theorem set_mid {A ns T R:List Ln} {x:Ln} {k:Nat} (hT:T.length=k) (hi:ns.length<k):(A++ns++T.drop ns.length++R).set (A.length+ns.length) x=A++(ns++[x])++T.drop (ns.length+1)++R:=by
 have e:T.drop ns.length=T[ns.length]'(by omega)::T.drop (ns.length+1):=List.drop_eq_getElem_cons (by omega)
 have e2:(T.drop ns.length++R).set 0 x=x::(T.drop (ns.length+1)++R):=by rw[e];rfl
 rw[List.append_assoc (A++ns),List.set_append_right _ _ (by simp),show A.length+ns.length-(A++ns).length=0 by simp,e2]
 simp
theorem r_grid_Roll (hL:Laid w) (h:GridAt w g) {r:Rg} {n:Int} {q:Pn} (hn: -1000000≤n∧n≤1000000):Gets Tryz.prog X.grid_Roll #[g.ptr, .agg r.arr, .int .i64 n, .agg q.arr] w (GdF g) (RollQ w g (rollG g.gr r n q) (rollX g.gr r n q) (rollE g.gr r q)):=by
 have hgl:=gr_len (g:=g)
 have same:∀{e:Int} {u w':World},rollE g.gr r q=e→(e≠0∨n=0)→GridAt u g→Below u.heap.size u w'→RollQ w g (rollG g.gr r n q) (rollX g.gr r n q) (rollE g.gr r q) (.tuple #[.slice none 0 0, .int .i64 e]) w':=fun he h0 hg hb=>by
  have hc:¬(rollE g.gr r q=0∧n≠0):=by rw[he];rintro⟨q1,q2⟩;rcases h0 with r|r;exact r q1;exact q2 r
  rw[rollG,if_neg hc,rollX,if_neg hc,he]
  exact roll_same (hg.below hb)
 refine v_grid_Roll _ r n q fun n1 hn1 n2 hn2 w1 hb1 hm1=>(r_grid_none (h.below hb1)).runs fun w2 hk2=>⟨_,rfl,hk2.nix,fun e=>(nomatch e),fun _=>?_⟩
 have h2:=(h.below hb1).nix hk2
 refine⟨fun e1 w' hb _=>same (by rw[rollE,if_pos (by omega)]) (.inl (by decide)) h2 hb,fun e1=>⟨fun e2 w' hb _=>same (by rw[rollE,if_pos (by omega)]) (.inl (by decide)) h2 hb,fun e2=>⟨_,_,_,h2.at1,fun e3 w' hb _=>same (by rw[rollE,if_pos (by omega)]) (.inl (by decide)) h2 hb,fun e3 w3 hb3 hm3=>?_⟩⟩⟩
 have hk3:=((Keeps.of_below hb1).trans hk2).trans (Keeps.of_below hb3)
 refine(r_grid_inked (Laid.nix hk3 hL)).runs fun w4 hk4=>⟨_,rfl,hk4.nix,fun e4 w' hb _=>same (by rw[rollE,if_neg (by omega),if_pos e4]) (.inl (by decide)) ((h.nix hk3).nix hk4) hb,fun e4=>?_⟩
 have he:rollE g.gr r q=0:=by rw[rollE,if_neg (by omega),if_neg (by rw[e4];simp)]
 have hk4':=hk3.trans hk4
 have h4:=h.nix hk4'
 refine⟨fun e5 w' hb _=>same he (.inr e5) h4 hb,fun e5=>?_⟩
 obtain⟨b,hb0⟩:∃b,g.p=some ⟨b,0,none⟩:=by
  have:=h.r1
  rcases Own.place h.lines.row with⟨_,q,_⟩|⟨b,hb,_⟩
  ·omega
  ·exact⟨b,hb⟩
 have d4:=(Ha.begin hL h hb0).nix hk4'
 have hcap:=d4.cap
 have hr2:=h.r2
 refine⟨_,_,_,h4.at1,by unfold I64;omega,⟨by omega,by omega,by omega⟩,?_⟩
 have hG:rollG g.gr r n q=⟨g.gr.cols,rollLs g.gr.ls r.top.toNat (r.bot+1-r.top).toNat (kOf n (r.bot+1-r.top).toNat) n ⟨List.replicate g.gr.cols (bCl q),false⟩⟩:=by rw[rollG,if_pos ⟨he,e5⟩]
 have hX:rollX g.gr r n q=rollGone g.gr.ls r.top.toNat (r.bot+1-r.top).toNat (kOf n (r.bot+1-r.top).toNat) n:=by rw[rollX,if_pos ⟨he,e5⟩]
 rw[hG,hX,he]
 clear hG hX same he
 obtain⟨tp,bt⟩:=r
 simp only at*
 obtain⟨t,rfl⟩:=Int.eq_ofNat_of_zero_le e1
 simp only[Int.toNat_natCast] at*
 generalize hLd:(bt+1-(t:Int)).toNat=L
 have hL1:1≤L:=by omega
 have htL:t+L≤g.xs.length:=by omega
 refine⟨fun i w'=>i=(kOf n L:Nat)∧Ha w w' g b g.xs,⟨by unfold I64;omega,fun e6=>⟨fun e7=>⟨by unfold I64;omega,fun w' hb=>⟨by rw[kOf,if_pos ⟨by omega,e7⟩];omega,d4.below hb⟩⟩,fun e7 w' hb=>⟨by rw[kOf,if_neg (by omega)],d4.below hb⟩⟩,fun e6 w' hb=>⟨by rw[kOf,if_neg (by omega)],d4.below hb⟩⟩,?_⟩
 rintro _ w5 hk5 ⟨rfl,d5⟩
 obtain⟨hk1,hkL⟩:=kOf_le e5 hL1
 generalize kOf n L=k at*
 refine⟨by unfold I64;omega,⟨by omega,by omega,by omega⟩,?_⟩
 simp only[show((L:Int)-(k:Int)).toNat=L-k by omega,show min (L-k) L=L-k by omega,show min L (L-k)=L-k by omega,show((L:Int)-((L:Int)-(k:Int))).toNat=k by omega,show((k:Int)-0).toNat=k by omega,show((L:Int)-(k:Int)-1).toNat=L-k-1 by omega,show((L:Int)-1).toNat=L-1 by omega,Nat.sub_zero,Int.toNat_natCast]
 refine⟨fun p3 n7 n8 p4 n9 n10 w'=>Ha w w' g b (rollA sf g.xs t L k n++rollT g.xs t L k n++rollR sf g.xs t L k n)∧n9=k∧p4=some ⟨b,(rollA sf g.xs t L k n).length*2,none⟩∧n7=k∧Own w.heap.size w' T.Line 2 p3 k n8 (hdrs (rollGone g.xs t L k n)),⟨fun e6=>?_,fun e6=>?_⟩,?_⟩
 ·have hAl:=rollA_length (n:=n) htL hkL
  rw[if_pos e6] at hAl
  refine⟨⟨by omega,by omega,by omega⟩,fun w22 hb22 hm22=>?_⟩
  have d22:=d5.below hb22
  refine(r_slices_Clone_Line (d22.row (t:=t) (kk:=0) (m:=k) (by omega) (by omega)) (by omega)).runs fun v w23 hk23 ⟨p7,c7,hv,ho7⟩=>⟨p7,k,c7,by rw[hv],hk23.nix,⟨by omega,by omega,by omega⟩,⟨b,t*2,none⟩,by rw[hb0];exact cutP_some (by omega),hdrs ((g.xs.drop (t+k)).take (L-k)),?_⟩
  have d23:=d22.nix hk23
  have hpl:Pl g b ⟨b,t*2,none⟩ t (L-k):=⟨_,rfl,by omega,fun _=>rfl⟩
  have hfr:=d23.from (j:=t+k) (m:=L-k) (by omega)
  refine⟨⟨hfr.1,hfr.2.1,fun e=>?_,fun a ha=>hfr.2.2 a (d23.pl (by omega) (by omega) ha)⟩,⟨(d23.can hpl (by omega)).1,d23.away (bs:=[n1,n2]) (fun i hi=>by simp at hi;omega)⟩,fun w24 hp24=>?_⟩
  ·rw[hb0] at e
   obtain⟨a,ha⟩:=cutP2_ex (b:=b) (c:=g.c) (t:=t) (k:=k)
   rw[ha] at e;cases e
  have d24:=d23.copy (j1:=t) (j2:=t+k) (m:=L-k) (by omega) (by omega) hpl hp24
  have hup:=roll_up (xs:=g.xs) (t:=t) (n:=n) htL hkL e6
  have hgone:rollGone g.xs t L k n=(g.xs.drop (t+0)).take k:=by rw[rollGone,if_pos e6,Nat.add_zero]
  have hs5:=hk5.size
  have hb22s:=hb22.size
  have ho7':=ho7.low (B':=w.heap.size) (by omega)
  have hpp:cutP (cutP g.p g.c t 2) (g.c-t) (L-k) 2=some ⟨b,(rollA sf g.xs t L k n).length*2,none⟩:=by rw[hb0,cutP2_some (by omega),hAl]
  refine⟨fun e7=>⟨by unfold I64;omega,by unfold I64;omega,⟨b,t*2,none⟩,by rw[hb0];exact cutP_some (by omega),⟨by omega,by omega⟩,⟨d24.can1 rfl (by omega),d24.away (bs:=[n1,n2]) (fun i hi=>by simp at hi;omega)⟩,fun w26 hp26 w27 hb27=>⟨?_,rfl,hpp,rfl,?_⟩⟩,fun e7 w25 hb25=>⟨?_,rfl,hpp,rfl,?_⟩⟩
  ·have d26:=d24.soft rfl (by omega) hp26
   rw[←hup,if_pos (by omega)]
   exact d26.below hb27
  ·rw[hgone]
   exact(ho7'.keeps (hp24.keeps (F:=fun i=>i=b) rfl) (fun a ha e=>by have:=(ho7.lt a ha).2.1;have:=d22.old.lt (PF.gd d22.pf);omega)).keeps (hp26.keeps (F:=fun i=>i=b) rfl) (fun a ha e=>by have:=(ho7.lt a ha).2.1;have:=d22.old.lt (PF.gd d22.pf);omega)|>.below hb27
  ·rw[←hup,if_neg (by omega)]
   exact d24.below hb25
  ·rw[hgone]
   exact(ho7'.keeps (hp24.keeps (F:=fun i=>i=b) rfl) (fun a ha e=>by have:=(ho7.lt a ha).2.1;have:=d22.old.lt (PF.gd d22.pf);omega)).below hb25
 ·have hAl:=rollA_length (n:=n) htL hkL
  rw[if_neg (by omega)] at hAl
  refine⟨by unfold I64;omega,⟨by omega,by omega,by omega⟩,fun w16 hb16 hm16=>?_⟩
  have d16:=d5.below hb16
  refine(r_slices_Clone_Line (d16.row (t:=t) (kk:=L-k) (m:=k) (by omega) (by omega)) (by omega)).runs fun v w17 hk17 ⟨p7,c7,hv,ho7⟩=>⟨p7,k,c7,by rw[hv],hk17.nix,⟨by omega,by omega,by omega⟩,?_⟩
  have d17:=d16.nix hk17
  obtain⟨a3,ha3⟩:=cutP2_ex (b:=b) (c:=g.c) (t:=t) (k:=k)
  rw[←hb0] at ha3
  have hpl:=d17.pl (t:=t) (kk:=k) (m:=L-k) (by omega) (by omega) ha3
  have hfr:=d17.from (j:=t) (m:=L-k) (by omega)
  refine⟨a3,ha3,hdrs ((g.xs.drop t).take (L-k)),⟨hfr.1,hfr.2.1,fun e=>?_,fun a ha=>hfr.2.2 a (by rw[hb0,cutP_some (by omega)] at ha;cases ha;exact⟨_,rfl,by omega,fun _=>rfl⟩)⟩,⟨(d17.can hpl (by omega)).1,by rw[(d17.can hpl (by omega)).2];exact d17.away (bs:=[n1,n2]) (fun i hi=>by simp at hi;omega)⟩,fun w18 hp18=>⟨⟨by omega,by omega,by omega⟩,?_⟩⟩
  ·rw[hb0,cutP_some (by omega)] at e;cases e
  have d18:=d17.copy (j1:=t+k) (j2:=t) (m:=L-k) (by omega) (by omega) hpl hp18
  have hdn:=roll_down (xs:=g.xs) (t:=t) (n:=n) htL hkL (by omega)
  have hgone:rollGone g.xs t L k n=(g.xs.drop (t+(L-k))).take k:=by rw[rollGone,if_neg (by omega)]
  have hs5:=hk5.size
  have hb16s:=hb16.size
  have ho7':=ho7.low (B':=w.heap.size) (by omega)
  have hpp:cutP (cutP g.p g.c t 2) (g.c-t) 0 2=some ⟨b,(rollA sf g.xs t L k n).length*2,none⟩:=by rw[hb0,cutP2_some (by omega),hAl,Nat.add_zero]
  have hbk:=(d17.can hpl (by omega)).2
  refine⟨fun e7=>⟨by unfold I64;omega,⟨b,t*2,none⟩,by rw[hb0];exact cutP_some (by omega),⟨by omega,by omega⟩,⟨d18.can1 rfl (by omega),d18.away (bs:=[n1,n2]) (fun i hi=>by simp at hi;omega)⟩,fun w20 hp20 w21 hb21=>⟨?_,rfl,hpp,rfl,?_⟩⟩,fun e7 w19 hb19=>⟨?_,rfl,hpp,rfl,?_⟩⟩
  ·have d20:=d18.soft rfl (by omega) hp20
   rw[←hdn,if_pos (by omega)]
   exact d20.below hb21
  ·rw[hgone]
   exact(ho7'.keeps (hp18.keeps (F:=fun i=>i=b) hbk) (fun a ha e=>by have:=(ho7.lt a ha).2.1;have:=d16.old.lt (PF.gd d16.pf);omega)).keeps (hp20.keeps (F:=fun i=>i=b) rfl) (fun a ha e=>by have:=(ho7.lt a ha).2.1;have:=d16.old.lt (PF.gd d16.pf);omega)|>.below hb21
  ·rw[←hdn,if_neg (by omega)]
   exact d18.below hb19
  ·rw[hgone]
   exact(ho7'.keeps (hp18.keeps (F:=fun i=>i=b) hbk) (fun a ha e=>by have:=(ho7.lt a ha).2.1;have:=d16.old.lt (PF.gd d16.pf);omega)).below hb19
 ·rintro p3 n7 n8 p4 n9 n10 w6 hk6 ⟨d6,rfl,rfl,rfl,hg6⟩
  have hEach:=fun(v:World) (hE:Each v g.xs)=>roll_each (v:=v) (xs:=g.xs) (n:=n) htL hkL hE
  have hLike:=roll_like (xs:=g.xs) (t:=t) (L:=L) (k:=n7) (n:=n)
  have hSl:=rollT_length (xs:=g.xs) (n:=n) htL hkL
  have hGl:=rollGone_length (xs:=g.xs) (n:=n) htL hkL
  have hlA:=lis_rollA (xs:=g.xs) (t:=t) (L:=L) (k:=n7) (n:=n)
  have hlR:=lis_rollR (xs:=g.xs) (t:=t) (L:=L) (k:=n7) (n:=n)
  have hlG:=lis_rollGone (xs:=g.xs) (t:=t) (L:=L) (k:=n7) (n:=n)
  have hlen6:=d6.len
  generalize rollA sf g.xs t L n7 n=A at*
  generalize rollR sf g.xs t L n7 n=R at*
  generalize rollT g.xs t L n7 n=S at*
  generalize rollGone g.xs t L n7 n=gone at*
  have hlen:A.length+n7+R.length=g.xs.length:=by simp at hlen6;omega
  have hs6:=hk6.size
  have hbw:b<w.heap.size:=h.lt (PF.gd d6.pf)
  have hcols:(g.gr.cols)=g.cols:=rfl
  have hc2:=h.c2
  refine⟨fun i w'=>∃ns:List Ln,i=ns.length∧ns.length≤n7∧w6.heap.size≤w'.heap.size∧Ha w w' g b (A++ns++S.drop ns.length++R)∧Each w' ns∧(∀i,LF ns i→w6.heap.size≤i)∧lis ns=List.replicate ns.length ⟨List.replicate g.cols (bCl q),false⟩∧Own w.heap.size w' T.Line 2 p3 n7 n8 (hdrs gone),fun i=>((n7:Int)-i).toNat,fun w' hb=>⟨[],rfl,by simp,hb.size,by simpa using d6.below hb,Each.nil,fun i hi=>absurd hi LF.nil,rfl,hg6.below hb⟩,?_⟩
  rintro i w7 hk7 ⟨ns,rfl,hns,h67,d7,hEn,hFn,hln,hg7⟩
  refine⟨fun hi=>⟨_,d7.at0,fun w11 hb11 hm11=>?_⟩,fun hi=>?_⟩
  ·have d11:=d7.below hb11
   refine(r_grid_blanks (p:=q) (n:=g.cols) d11.laid (by omega)).runs fun v w12 hk12 ⟨x,hv,hx,hxo,hxn⟩=>⟨x.lh,by rw[hv],hk12.nix,⟨b,A.length*2,none⟩,rfl,⟨by omega,hi⟩,?_⟩
   have d12:=d11.nix hk12
   simp only[Int.toNat_natCast]
   refine⟨⟨d12.can1 (j:=A.length) rfl (by omega),d12.away (bs:=[n1,n2]) (fun i hi=>by simp at hi;omega)⟩,fun w13 hp13=>⟨by unfold I64;omega,fun w14 hb14=>⟨⟨ns++[x],by simp,by simp<;>omega,by have:=hb11.size;have:=hk12.size;have:=hp13.size;have:=hb14.size;omega,?_,?_,?_,?_,?_⟩,by omega⟩⟩⟩
   ·have d13:=d12.head (j:=A.length) (k:=ns.length) rfl (by omega) hp13
    rw[set_mid hSl (by omega)] at d13
    have:=d13.below hb14
    rw[show(ns++[x]).length=ns.length+1 by simp]
    exact this
   ·have hs7:=hb11.size
    have k13:Keeps (fun i=>i=b) w12 w13:=hp13.keeps rfl
    have e1:Each w13 ns:=((hEn.keeps (Keeps.of_below hb11) fun _ e=>e.elim).keeps hk12 fun _ e=>e.elim).keeps k13 fun i hi hl=>by have:=hFn i hl;omega
    have e2:Each w13 [x]:=(Each.one hxo).keeps k13 fun i hi hl=>by have:=hxn i hl;have:=d7.kp.size;omega
    exact(e1.append e2 fun i h1 h2=>by have:=hEn.lt h1;have:=hxn i h2;omega).keeps (Keeps.of_below hb14) fun _ e=>e.elim
   ·intro i hi
    rcases LF.append.1 hi with r|r
    ·exact hFn i r
    ·have:=hxn i r
     have:=hb11.size
     omega
   ·rw[lis_snoc,hln,hx,show(ns++[x]).length=ns.length+1 by simp,List.replicate_succ']
   ·exact(((hg7.below hb11).nix hk12).keeps (hp13.keeps (F:=fun i=>i=b) rfl) (fun a ha e=>by have:=(hg7.lt a ha).2.1;omega)).below hb14
  ·have hnl:ns.length=n7:=by omega
   have hdrop:S.drop ns.length=[]:=List.drop_eq_nil_of_le (by omega)
   rw[hdrop,List.append_nil] at d7
   have hls:g.gr.ls=lis g.xs:=rfl
   have hltx:∀{i:Nat},LF g.xs i→i<w.heap.size:=fun hi=>h.lt (.inr (.inr hi))
   have hEY:Each w7 (A++ns++R++gone):=by
    have h1:=hEach w7 d7.each
    have h2:=h1.append hEn fun i h1 h2=>by have:=hltx (Like.LF hLike h1);have:=hFn i h2;omega
    refine h2.perm ?_
    simp only[List.append_assoc]
    refine List.Perm.append_left _ ?_
    rw[←List.append_assoc]
    exact List.perm_append_comm
   have hLA:∀x∈A++R++gone,Like g.xs x:=hLike
   have hmem:∀i,LF (A++ns++R) i→LF g.xs i∨w6.heap.size≤i:=fun i hi=>by
    rcases LF.append.1 hi with r|r
    ·rcases LF.append.1 r with r|r
     ·exact .inl (Like.LF hLA (LF.append.2 (.inl (LF.append.2 (.inl r)))))
     ·exact .inr (hFn i r)
    ·exact .inl (Like.LF hLA (LF.append.2 (.inl (LF.append.2 (.inr r)))))
   have hgs:∀i,LF gone i→LF g.xs i:=fun i hi=>Like.LF hLA (LF.append.2 (.inr hi))
   have hwid:∀x∈A++ns++R,x.cs.length=g.cols:=fun x hx=>by
    have lk:Like g.xs x→x.cs.length=g.cols:=fun⟨y,hy,_,e⟩=>by rw[←e];exact h.wid y hy
    rcases List.mem_append.1 hx with r|r
    ·rcases List.mem_append.1 r with r|r
     ·exact lk (hLA x (List.mem_append_left _ (List.mem_append_left _ r)))
     ·have:x.li∈lis ns:=List.mem_map.2 ⟨x,r,rfl⟩
      rw[hln] at this
      have:=congrArg Li.cs (List.eq_of_mem_replicate this)
      have:x.cs=List.replicate g.cols (bCl q):=this
      rw[this,List.length_replicate]
    ·exact lk (hLA x (List.mem_append_left _ (List.mem_append_right _ r)))
   have hd:∀a,p3=some a→¬LF (A++ns++R) a.block:=fun a ha hi=>by
    have h1:=hg6.lt a ha
    rcases hmem _ hi with r|r
    ·have:=hltx r;omega
    ·omega
   have hlY:lis (A++ns++R)=rollY g.gr.ls t L n7 n ⟨List.replicate g.gr.cols (bCl q),false⟩:=by
    rw[lis_append,lis_append,hlA,hln,hlR,hnl];rfl
   have hYl:(A++ns++R).length=g.xs.length:=by simp<;>omega
   refine⟨fun h0=>⟨_,_,_,d7.at1,by unfold I64;omega,⟨b,0,none⟩,hb0,⟨by omega,by omega⟩,⟨d7.can1 (j:=0) (by simp) (by omega),d7.away (bs:=[n1,n2]) (fun i hi=>by simp at hi;omega)⟩,fun w9 hp9 w' hb _=>?_⟩,fun h0 w' hb _=>?_⟩
   ·rw[show((t:Int)-1).toNat=t-1 by omega] at hp9
    have d9:=(d7.soft (j:=0) (k:=t-1) (by simp) (by omega) hp9).below hb
    rw[Nat.zero_add] at d9
    have k9:Keeps (fun i=>i=b) w7 w':=(hp9.keeps (F:=fun i=>i=b) rfl).trans ((Keeps.of_below hb).mono fun _ e=>e.elim)
    have hbY:¬LF (A++ns++R++gone) b:=fun hi=>by
     have hx:LF g.xs b∨w6.heap.size≤b:=(LF.append.1 hi).elim (hmem b) fun r=> .inl (hgs b r)
     rcases hx with r|r
     ·exact h.lines.off _ hb0 r
     ·omega
    have hE9:Each w' (sf (A++ns++R) (t-1)++gone):=by
     rw[←sf_left (by omega)]
     exact(hEY.keeps k9 fun i hi hl=>hbY (by rw[←hi];exact hl)).sf
    have:=roll_end (c3:=n8) d9 (by rw[sf_length,hYl]) hE9 (fun i hi=>(hmem i (LF.sf hi)).elim .inl fun r=> .inr (by omega)) hgs hL (by rw[hGl];exact hg7.keeps k9 fun a ha e=>by have:=(hg7.lt a ha).2.1;omega) (fun a ha hi=>hd a ha (LF.sf hi)) (fun x hx=>by
     rcases List.mem_or_eq_of_mem_set hx with r|r
     ·exact hwid x r
     ·subst r
      exact hwid (lnAt (A++ns++R) (t-1)) (lnAt_mem (by omega)))
    rw[hGl,hlG,lis_sf,hlY] at this
    rw[rollLs,if_pos (by omega)]
    exact this
   ·have:=roll_end (c3:=n8) (d7.below hb) hYl (hEY.keeps (Keeps.of_below hb) fun _ e=>e.elim) (fun i hi=>(hmem i hi).elim .inl fun r=> .inr (by omega)) hgs hL (by rw[hGl];exact hg7.below hb) hd hwid
    rw[hGl,hlG,hlY] at this
    rw[rollLs,if_neg (by omega)]
    exact this
end
end Go.Proofs.YtjhhiindeignaaaGreatDoor
namespace Go.Proofs.YtjhhiindeignaaaGreatDoor
open Go Go.RowKit Go.Sy Go.Rep
set_option maxRecDepth 100000
theorem v_ring_Len {w0:World} {F:Nat→Prop} {Q:Value→World→Prop} (r:Addr) (h:∀w1:World,(Below w0.heap.size w0 w1)→Runs Tryz.prog X.ring_Next #[(.pointer (some r))] w1 (fun e1 w2=>∃i1:Int,(e1=(.returned (.int .i64 i1)))∧((Kept w0.heap.size F [] w1 w2)∧∀w3:World,(Below w2.heap.size w2 w3)→Runs Tryz.prog X.ring_First #[(.pointer (some r))] w3 (fun e2 w4=>∃i2:Int,(e2=(.returned (.int .i64 i2)))∧((Kept w0.heap.size F [] w3 w4)∧((I64 (i1-i2))∧Fin w0 F w4 Q (.int .i64 (i1-i2)))))))):Gets Tryz.prog X.ring_Len #[(.pointer (some r))] w0 F Q:=
 func_run mixed [] [] X.ring_Len [SV.adr r 0] ⟨by trivial,trivial⟩ (by kernel_rfl) (by kernel_rfl) h
theorem v_ring_New {w0:World} {F:Nat→Prop} {Q:Value→World→Prop} (most:Int) (page:Int) (h:((most<0)→Fin w0 F w0 Q (.tuple #[(.pointer none),(.int .i64 2)]))∧(((0:Int)≤most)→(((1048576:Int)<most)→Fin w0 F w0 Q (.tuple #[(.pointer none),(.int .i64 2)]))∧((most≤1048576)→((page<1)→Fin w0 F w0 Q (.tuple #[(.pointer none),(.int .i64 2)]))∧(((1:Int)≤page)→(((1024:Int)<page)→Fin w0 F w0 Q (.tuple #[(.pointer none),(.int .i64 2)]))∧((page≤1024)→∀n1:Nat,(w0.heap.size≤n1)→∀w1:World,(Below w0.heap.size w0 w1)→(Keeps F w0 w1)→((w0.heap.size≤n1)∧(Whole w1 n1 T.ring_Ring [(.int .i64 most),(.int .i64 page),(.int .i64 0),(.int .i64 0),(.slice none 0 0)]))→Q (.tuple #[(.pointer (some ⟨n1,0,none⟩)),(.int .i64 0)]) w1))))):Gets Tryz.prog X.ring_New #[(.int .i64 most),(.int .i64 page)] w0 F Q:=
 func_run mixed [] [] X.ring_New [SV.int IntKind.i64 most,SV.int IntKind.i64 page] ⟨by trivial,by trivial,trivial⟩ (by kernel_rfl) (by kernel_rfl) h
theorem v_ring_First {w0:World} {F:Nat→Prop} {Q:Value→World→Prop} (r:Addr) (h:∀w1:World,(Below w0.heap.size w0 w1)→Runs Tryz.prog X.ring_zero #[(.pointer (some r))] w1 (fun e1 w2=>∃b1:Bool,(e1=(.returned (.bool b1)))∧((Kept w0.heap.size F [] w1 w2)∧(((b1=true)→Fin w0 F w2 Q (.int .i64 0))∧((b1=false)→∃i1:Int,(At w2 r 2 [(.int .i64 i1)])∧Fin w0 F w2 Q (.int .i64 i1)))))):Gets Tryz.prog X.ring_First #[(.pointer (some r))] w0 F Q:=
 func_run mixed [] [] X.ring_First [SV.adr r 0] ⟨by trivial,trivial⟩ (by kernel_rfl) (by kernel_rfl) h
theorem v_ring_Next {w0:World} {F:Nat→Prop} {Q:Value→World→Prop} (r:Addr) (h:∀w1:World,(Below w0.heap.size w0 w1)→Runs Tryz.prog X.ring_zero #[(.pointer (some r))] w1 (fun e1 w2=>∃b1:Bool,(e1=(.returned (.bool b1)))∧((Kept w0.heap.size F [] w1 w2)∧(((b1=true)→Fin w0 F w2 Q (.int .i64 0))∧((b1=false)→∃i1:Int,(At w2 r 3 [(.int .i64 i1)])∧Fin w0 F w2 Q (.int .i64 i1)))))):Gets Tryz.prog X.ring_Next #[(.pointer (some r))] w0 F Q:=
 func_run mixed [] [] X.ring_Next [SV.adr r 0] ⟨by trivial,trivial⟩ (by kernel_rfl) (by kernel_rfl) h
theorem v_ring_zero {w0:World} {F:Nat→Prop} {Q:Value→World→Prop} (r:Addr) (h:∃i1:Int,(At w0 r 1 [(.int .i64 i1)])∧Fin w0 F w0 Q (.bool (BE.val (.eq i1 0)))):Gets Tryz.prog X.ring_zero #[(.pointer (some r))] w0 F Q:=
 func_run mixed [] [] X.ring_zero [SV.adr r 0] ⟨by trivial,trivial⟩ (by kernel_rfl) (by kernel_rfl) h
theorem v_sheet_Copy {w0:World} {F:Nat→Prop} {Q:Value→World→Prop} (s:Addr) (h:∀w1:World,(Below w0.heap.size w0 w1)→Runs Tryz.prog X.sheet_zero #[(.pointer (some s))] w1 (fun e1 w2=>∃b1:Bool,(e1=(.returned (.bool b1)))∧((Kept w0.heap.size F [] w1 w2)∧(((b1=true)→Fin w0 F w2 Q (.pointer none))∧((b1=false)→∃i1:Int,(At w2 s 0 [(.int .i64 i1)])∧∃i2:Int,(At w2 s 1 [(.int .i64 i2)])∧∀w3:World,(Below w2.heap.size w2 w3)→Runs Tryz.prog X.sheet_Lines #[(.pointer (some s))] w3 (fun e2 w4=>∃p1:Option Addr,∃n1 n2:Nat,(e2=(.returned (.slice p1 n1 n2)))∧((Kept w0.heap.size F [] w3 w4)∧((At w4 s 1 [(.int .i64 i2)])∧((At w4 s 0 [(.int .i64 i1)])∧∀n3:Nat,(w4.heap.size≤n3)→∀w5:World,(Below w4.heap.size w4 w5)→(Keeps F w0 w5)→((w0.heap.size≤n3)∧(Whole w5 n3 T.sheet_Sheet [(.int .i64 i1),(.int .i64 i2),(.slice p1 n1 n2)]))→Q (.pointer (some ⟨n3,0,none⟩)) w5))))))))):Gets Tryz.prog X.sheet_Copy #[(.pointer (some s))] w0 F Q:=
 func_run mixed [] [] X.sheet_Copy [SV.adr s 0] ⟨by trivial,trivial⟩ (by kernel_rfl) (by kernel_rfl) h
theorem v_sheet_Len {w0:World} {F:Nat→Prop} {Q:Value→World→Prop} (s:Addr) (h:∀w1:World,(Below w0.heap.size w0 w1)→Runs Tryz.prog X.sheet_zero #[(.pointer (some s))] w1 (fun e1 w2=>∃b1:Bool,(e1=(.returned (.bool b1)))∧((Kept w0.heap.size F [] w1 w2)∧(((b1=true)→Fin w0 F w2 Q (.int .i64 0))∧((b1=false)→∃p1:Option Addr,∃n1 n2:Nat,(At w2 s 2 [(.slice p1 n1 n2)])∧Fin w0 F w2 Q (.int .i64 (n1:Int))))))):Gets Tryz.prog X.sheet_Len #[(.pointer (some s))] w0 F Q:=
 func_run mixed [] [] X.sheet_Len [SV.adr s 0] ⟨by trivial,trivial⟩ (by kernel_rfl) (by kernel_rfl) h
theorem v_sheet_Get {w0:World} {F:Nat→Prop} {Q:Value→World→Prop} (s:Addr) (i:Int) (h:∀n1:Nat,(w0.heap.size≤n1)→∀w1:World,(Below w0.heap.size w0 w1)→(Mine w1 w0.heap.size [(n1,T.Line)])→Runs Tryz.prog X.sheet_zero #[(.pointer (some s))] w1 (fun e1 w2=>∃b1:Bool,(e1=(.returned (.bool b1)))∧((Kept w0.heap.size F [n1] w1 w2)∧(((b1=true)→FinE w0 F w2 [n1] Q (.tuple #[(.agg #[(.slice none 0 0),(.bool false)]),(.int .i64 1)]))∧((b1=false)→((i<0)→FinE w0 F w2 [n1] Q (.tuple #[(.agg #[(.slice none 0 0),(.bool false)]),(.int .i64 3)]))∧(((0:Int)≤i)→∃p1:Option Addr,∃n2 n3:Nat,(At w2 s 2 [(.slice p1 n2 n3)])∧((((n2:Int)≤i)→FinE w0 F w2 [n1] Q (.tuple #[(.agg #[(.slice none 0 0),(.bool false)]),(.int .i64 3)]))∧((i<(n2:Int))→∃p2:Option Addr,∃n4 n5:Nat,(At w2 s 2 [(.slice p2 n4 n5)])∧∃a1:Addr,(p2=(some a1))∧((((0:Int)≤i)∧(i<(n4:Int)))∧∃lh1:Lh,(At w2 a1 ((Int.toNat i)*2) lh1.arr.toList)∧∀w3:World,(Below w2.heap.size w2 w3)→(Mine w3 w0.heap.size [(n1,T.Line)])→Runs Tryz.prog X.line_Copy #[(.agg lh1.arr)] w3 (fun e2 w4=>∃lh2:Lh,(e2=(.returned (.agg lh2.arr)))∧((Kept w0.heap.size F [n1] w3 w4)∧FinE w0 F w4 [n1] Q (.tuple #[(.agg lh2.arr),(.int .i64 0)])))))))))))):Gets Tryz.prog X.sheet_Get #[(.pointer (some s)),(.int .i64 i)] w0 F Q:=
 func_run mixed [] [] X.sheet_Get [SV.adr s 0,SV.int IntKind.i64 i] ⟨by trivial,by trivial,trivial⟩ (by kernel_rfl) (by kernel_rfl) h
theorem v_sheet_zero {w0:World} {F:Nat→Prop} {Q:Value→World→Prop} (s:Addr) (h:∃i1:Int,(At w0 s 0 [(.int .i64 i1)])∧Fin w0 F w0 Q (.bool (BE.val (.eq i1 0)))):Gets Tryz.prog X.sheet_zero #[(.pointer (some s))] w0 F Q:=
 func_run mixed [] [] X.sheet_zero [SV.adr s 0] ⟨by trivial,trivial⟩ (by kernel_rfl) (by kernel_rfl) h
theorem v_sheet_Lines {w0:World} {F:Nat→Prop} {Q:Value→World→Prop} (s:Addr) (h:∀w1:World,(Below w0.heap.size w0 w1)→Runs Tryz.prog X.sheet_zero #[(.pointer (some s))] w1 (fun e1 w2=>∃b1:Bool,(e1=(.returned (.bool b1)))∧((Kept w0.heap.size F [] w1 w2)∧(((b1=true)→Fin w0 F w2 Q (.slice none 0 0))∧((b1=false)→∃p1:Option Addr,∃n1 n2:Nat,(At w2 s 2 [(.slice p1 n1 n2)])∧∃I1:Option Addr→Nat→Nat→Int→World→Prop,∃I2:Option Addr→Nat→Nat→Int→Nat,(∀w9:World,(Below w2.heap.size w2 w9)→I1 none 0 0 0 w9)∧∀p2:Option Addr,∀n3 n4:Nat,∀i1:Int,∀w3:World,(Keeps F w0 w3)→(I1 p2 n3 n4 i1 w3)→((i1<(n1:Int))→∃a1:Addr,(p1=(some a1))∧((((0:Int)≤i1)∧(i1<(n1:Int)))∧∃lh1:Lh,(At w3 a1 ((Int.toNat i1)*2) lh1.arr.toList)∧∀n5:Nat,(w3.heap.size≤n5)→∀w5:World,(Below w3.heap.size w3 w5)→(Mine w5 w0.heap.size [(n5,T.Line)])→Runs Tryz.prog X.line_Copy #[(.agg lh1.arr)] w5 (fun e2 w6=>∃lh2:Lh,(e2=(.returned (.agg lh2.arr)))∧((Kept w0.heap.size F [n5] w5 w6)∧∀n6:Nat,(w6.heap.size≤n6)→∃s1:List Value,(Room w0.heap.size F [n5,n6] w6 T.Line 2 p2 n3 n4 s1 1)∧((((n3+1)*32)≤140737488355328)∧∀w7:World,∀p3:Option Addr,∀n7:Nat,(Grown w6 [] p2 n3 n4 T.Line 2 (n3+1) (s1++lh2.arr.toList) w7 p3 n7)→(∀a2:Addr,(p3=(some a2))→¬(a2.block∈[n5,n6]))→(I64 (i1+1))∧∀w8:World,(Below w7.heap.size w7 w8)→(I1 p3 (n3+1) n7 (i1+1) w8)∧(I2 p3 (n3+1) n7 (i1+1)<I2 p2 n3 n4 i1))))))∧(((n1:Int)≤i1)→Fin w0 F w3 Q (.slice p2 n3 n4))))))):Gets Tryz.prog X.sheet_Lines #[(.pointer (some s))] w0 F Q:=
 func_run mixed [⟨5,[3,13],[]⟩] [] X.sheet_Lines [SV.adr s 0] ⟨by trivial,trivial⟩ (by kernel_rfl) (by kernel_rfl) h
theorem v_sheet_Room {w0:World} {F:Nat→Prop} {Q:Value→World→Prop} (s:Addr) (h:∀w1:World,(Below w0.heap.size w0 w1)→Runs Tryz.prog X.sheet_Cap #[(.pointer (some s))] w1 (fun e1 w2=>∃i1:Int,(e1=(.returned (.int .i64 i1)))∧((Kept w0.heap.size F [] w1 w2)∧∀w3:World,(Below w2.heap.size w2 w3)→Runs Tryz.prog X.sheet_Gone #[(.pointer (some s))] w3 (fun e2 w4=>∃i2:Int,(e2=(.returned (.int .i64 i2)))∧((Kept w0.heap.size F [] w3 w4)∧((I64 (i1-i2))∧∀w5:World,(Below w4.heap.size w4 w5)→Runs Tryz.prog X.sheet_Len #[(.pointer (some s))] w5 (fun e3 w6=>∃i3:Int,(e3=(.returned (.int .i64 i3)))∧((Kept w0.heap.size F [] w5 w6)∧((I64 ((i1-i2)-i3))∧Fin w0 F w6 Q (.int .i64 ((i1-i2)-i3))))))))))):Gets Tryz.prog X.sheet_Room #[(.pointer (some s))] w0 F Q:=
 func_run mixed [] [] X.sheet_Room [SV.adr s 0] ⟨by trivial,trivial⟩ (by kernel_rfl) (by kernel_rfl) h
theorem v_sheet_New {w0:World} {F:Nat→Prop} {Q:Value→World→Prop} (lines:Int) (h:((lines<1)→Fin w0 F w0 Q (.tuple #[(.pointer none),(.int .i64 2)]))∧(((1:Int)≤lines)→(((1024:Int)<lines)→Fin w0 F w0 Q (.tuple #[(.pointer none),(.int .i64 2)]))∧((lines≤1024)→∀n1:Nat,(w0.heap.size≤n1)→∀w1:World,(Below w0.heap.size w0 w1)→(Keeps F w0 w1)→((w0.heap.size≤n1)∧(Whole w1 n1 T.sheet_Sheet [(.int .i64 lines),(.int .i64 0),(.slice none 0 0)]))→Q (.tuple #[(.pointer (some ⟨n1,0,none⟩)),(.int .i64 0)]) w1))):Gets Tryz.prog X.sheet_New #[(.int .i64 lines)] w0 F Q:=
 func_run mixed [] [] X.sheet_New [SV.int IntKind.i64 lines] ⟨by trivial,trivial⟩ (by kernel_rfl) (by kernel_rfl) h
theorem v_sheet_Push {w0:World} {F:Nat→Prop} {Q:Value→World→Prop} (s:Addr) (l:Lh) (h:∀n1:Nat,(w0.heap.size≤n1)→∀w1:World,(Below w0.heap.size w0 w1)→(Mine w1 w0.heap.size [(n1,T.Line)])→Runs Tryz.prog X.sheet_zero #[(.pointer (some s))] w1 (fun e1 w2=>∃b1:Bool,(e1=(.returned (.bool b1)))∧((Kept w0.heap.size F [n1] w1 w2)∧(((b1=true)→Fin w0 F w2 Q (.int .i64 1))∧((b1=false)→∀w3:World,(Below w2.heap.size w2 w3)→(Mine w3 w0.heap.size [(n1,T.Line)])→Runs Tryz.prog X.line_Valid #[(.agg l.arr)] w3 (fun e2 w4=>∃b2:Bool,(e2=(.returned (.bool b2)))∧((Kept w0.heap.size F [n1] w3 w4)∧(((b2=false)→Fin w0 F w4 Q (.int .i64 2))∧((b2=true)→∀w5:World,(Below w4.heap.size w4 w5)→(Mine w5 w0.heap.size [(n1,T.Line)])→Runs Tryz.prog X.sheet_Room #[(.pointer (some s))] w5 (fun e3 w6=>∃i1:Int,(e3=(.returned (.int .i64 i1)))∧((Kept w0.heap.size F [n1] w5 w6)∧(((i1=0)→Fin w0 F w6 Q (.int .i64 7))∧((i1≠0)→∃p1:Option Addr,∃n2 n3:Nat,(At w6 s 2 [(.slice p1 n2 n3)])∧∀w7:World,(Below w6.heap.size w6 w7)→(Mine w7 w0.heap.size [(n1,T.Line)])→Runs Tryz.prog X.line_Copy #[(.agg l.arr)] w7 (fun e4 w8=>∃lh1:Lh,(e4=(.returned (.agg lh1.arr)))∧((Kept w0.heap.size F [n1] w7 w8)∧((At w8 s 2 [(.slice p1 n2 n3)])∧∀n4:Nat,(w8.heap.size≤n4)→∃s1:List Value,(Room w0.heap.size F [n1,n4] w8 T.Line 2 p1 n2 n3 s1 1)∧((((n2+1)*32)≤140737488355328)∧∀w9:World,∀p2:Option Addr,∀n5:Nat,(Grown w8 [] p1 n2 n3 T.Line 2 (n2+1) (s1++lh1.arr.toList) w9 p2 n5)→(∀a1:Addr,(p2=(some a1))→¬(a1.block∈[n1,n4]))→((CanPut w9 s 2 1)∧(Away w0.heap.size F [n1,n4] s.block))∧∀w10:World,(Put w9 [] s 2 [(.slice p2 (n2+1) n5)] w10)→Fin w0 F w10 Q (.int .i64 0)))))))))))))))))):Gets Tryz.prog X.sheet_Push #[(.pointer (some s)),(.agg l.arr)] w0 F Q:=
 func_run mixed [] [] X.sheet_Push [SV.adr s 0,SV.agg (Lh.cod.enc l)] ⟨by trivial,okA _ _,trivial⟩ (by kernel_rfl) (by kernel_rfl) h
theorem v_sheet_Cap {w0:World} {F:Nat→Prop} {Q:Value→World→Prop} (s:Addr) (h:∀w1:World,(Below w0.heap.size w0 w1)→Runs Tryz.prog X.sheet_zero #[(.pointer (some s))] w1 (fun e1 w2=>∃b1:Bool,(e1=(.returned (.bool b1)))∧((Kept w0.heap.size F [] w1 w2)∧(((b1=true)→Fin w0 F w2 Q (.int .i64 0))∧((b1=false)→∃i1:Int,(At w2 s 0 [(.int .i64 i1)])∧Fin w0 F w2 Q (.int .i64 i1)))))):Gets Tryz.prog X.sheet_Cap #[(.pointer (some s))] w0 F Q:=
 func_run mixed [] [] X.sheet_Cap [SV.adr s 0] ⟨by trivial,trivial⟩ (by kernel_rfl) (by kernel_rfl) h
theorem v_sheet_Gone {w0:World} {F:Nat→Prop} {Q:Value→World→Prop} (s:Addr) (h:∀w1:World,(Below w0.heap.size w0 w1)→Runs Tryz.prog X.sheet_zero #[(.pointer (some s))] w1 (fun e1 w2=>∃b1:Bool,(e1=(.returned (.bool b1)))∧((Kept w0.heap.size F [] w1 w2)∧(((b1=true)→Fin w0 F w2 Q (.int .i64 0))∧((b1=false)→∃i1:Int,(At w2 s 1 [(.int .i64 i1)])∧Fin w0 F w2 Q (.int .i64 i1)))))):Gets Tryz.prog X.sheet_Gone #[(.pointer (some s))] w0 F Q:=
 func_run mixed [] [] X.sheet_Gone [SV.adr s 0] ⟨by trivial,trivial⟩ (by kernel_rfl) (by kernel_rfl) h
theorem v_sheet_Drop {w0:World} {F:Nat→Prop} {Q:Value→World→Prop} (s:Addr) (n:Int) (h:∀w1:World,(Below w0.heap.size w0 w1)→Runs Tryz.prog X.sheet_zero #[(.pointer (some s))] w1 (fun e1 w2=>∃b1:Bool,(e1=(.returned (.bool b1)))∧((Kept w0.heap.size F [] w1 w2)∧(((b1=true)→Fin w0 F w2 Q (.int .i64 1))∧((b1=false)→((n<0)→Fin w0 F w2 Q (.int .i64 3))∧(((0:Int)≤n)→∃p1:Option Addr,∃n1 n2:Nat,(At w2 s 2 [(.slice p1 n1 n2)])∧((((n1:Int)<n)→Fin w0 F w2 Q (.int .i64 3))∧((n≤(n1:Int))→∃p2:Option Addr,∃n3 n4:Nat,(At w2 s 2 [(.slice p2 n3 n4)])∧((((0:Int)≤n)∧((n≤(n3:Int))∧((n3:Int)≤(n4:Int))))∧∃s1:List Value,(Room w0.heap.size F [] w2 T.Line 2 none 0 0 s1 (Int.toNat ((n3:Int)-n)))∧∃s2:List Value,(((s2.length)=((Int.toNat ((n3:Int)-n))*2))∧((∀v1:Value,(v1∈s2)→(v1.oneCell')=true)∧((((cutP p2 n4 (Int.toNat n) 2)=none)→(Int.toNat ((n3:Int)-n))=0)∧∀a1:Addr,((cutP p2 n4 (Int.toNat n) 2)=(some a1))→At w2 a1 0 s2)))∧((((0+(Int.toNat ((n3:Int)-n)))*32)≤140737488355328)∧∀w3:World,∀p3:Option Addr,∀n5:Nat,(Grown w2 [] none 0 0 T.Line 2 (0+(Int.toNat ((n3:Int)-n))) (s1++s2) w3 p3 n5)→((CanPut w3 s 2 1)∧(Away w0.heap.size F [] s.block))∧∀w4:World,(Put w3 [] s 2 [(.slice p3 (0+(Int.toNat ((n3:Int)-n))) n5)] w4)→∃i1:Int,(At w4 s 1 [(.int .i64 i1)])∧((I64 (i1+n))∧(((CanPut w4 s 1 1)∧(Away w0.heap.size F [] s.block))∧∀w5:World,(Put w4 [] s 1 [(.int .i64 (i1+n))] w5)→Fin w0 F w5 Q (.int .i64 0))))))))))))):Gets Tryz.prog X.sheet_Drop #[(.pointer (some s)),(.int .i64 n)] w0 F Q:=
 func_run mixed [] [] X.sheet_Drop [SV.adr s 0,SV.int IntKind.i64 n] ⟨by trivial,by trivial,trivial⟩ (by kernel_rfl) (by kernel_rfl) h
end Go.Proofs.YtjhhiindeignaaaGreatDoor
namespace Go.Sy
theorem Whole.put {w w':World} {b o:Nat} {t:TypeId} {cs vs:List Value} (h:Whole w b t cs) (hp:Put w [] ⟨b,0,none⟩ o vs w') (ho:o+vs.length≤cs.length):Whole w' b t (cs.take o++(vs++cs.drop (o+vs.length))):=by
 obtain⟨cs',h1,h2,h3⟩:=hp.here _ _ h
 unfold Whole
 rw[h1]
 have:cs'=(cs.take o++(vs++cs.drop (o+vs.length))).toArray:=by
  apply Array.ext_getElem?
  intro j
  have e:(cs.take o++(vs++cs.drop (o+vs.length))).toArray[j]? =(cs.take o++(vs++cs.drop (o+vs.length)))[j]? :=by simp
  rw[e,list_splice cs vs o ho,h3 j]
  simp
 rw[this]
theorem Whole.can {w:World} {b o m:Nat} {t:TypeId} {cs:List Value} (h:Whole w b t cs) (ho:o+m≤cs.length):CanPut w ⟨b,0,none⟩ o m:=⟨rfl,_,_,h,by simpa using ho⟩
end Go.Sy
namespace Go.Rep
open Go Go.Sy
structure Sd where
 (b:Nat) (most gone:Nat) (p:Option Addr) (c:Nat) (xs:List Ln)
structure Pg where
 (most gone:Nat) (ls:List Li)
def Sd.sh (s:Sd):Pg:=⟨s.most,s.gone,lis s.xs⟩
def Sd.ptr (s:Sd):Value:= .pointer (some ⟨s.b,0,none⟩)
end Go.Rep
namespace Go.Proofs.YtjhhiindeignaaaGreatDoor
open Go Go.RowKit Go.Sy Go.Rep
set_option maxRecDepth 100000
set_option maxHeartbeats 2000000
def SdF (s:Sd) (i:Nat):Prop:=i=s.b∨LsF s.p s.xs i
structure SheetAt (w:World) (s:Sd):Prop where
 blk:Whole w s.b T.sheet_Sheet [.int .i64 s.most, .int .i64 s.gone, .slice s.p s.xs.length s.c]
 lines:Lines w s.p s.xs.length s.c s.xs
 off:¬LsF s.p s.xs s.b
 lo:Y.count≤s.b
 m1:1≤s.most
 m2:s.most≤1024
 room:s.gone+s.xs.length≤s.most
 wid:∀x∈s.xs,x.cs.length≤1000
section
variable {w w':World} {s:Sd}
theorem SheetAt.lt (h:SheetAt w s) {i:Nat} (hi:SdF s i):i<w.heap.size:=by
 rcases hi with rfl|hi
 ·exact h.blk.lt
 ·exact h.lines.lt hi
theorem SheetAt.low (h:SheetAt w s) {i:Nat} (hi:SdF s i):Y.count≤i:=by
 rcases hi with rfl|hi
 ·exact h.lo
 ·exact h.lines.low hi
theorem SheetAt.keeps {F:Nat→Prop} (h:SheetAt w s) (hk:Keeps F w w') (hF:∀i,F i→¬SdF s i):SheetAt w' s:=
 ⟨h.blk.keeps hk fun hf=>hF _ hf (.inl rfl),h.lines.keeps hk fun i hf hl=>hF i hf (.inr hl),h.off,h.lo,h.m1,h.m2,h.room,h.wid⟩
theorem SheetAt.nix (h:SheetAt w s) (hk:Keeps Nix w w'):SheetAt w' s:=h.keeps hk fun _ e=>e.elim
theorem SheetAt.below (h:SheetAt w s) (hb:Below w.heap.size w w'):SheetAt w' s:=h.nix (Keeps.of_below hb)
theorem SheetAt.at0 (h:SheetAt w s):At w ⟨s.b,0,none⟩ 0 [.int .i64 s.most]:=(h.blk.at_ (show 3≤maxLen by decide)).one 0 rfl
theorem SheetAt.at1 (h:SheetAt w s):At w ⟨s.b,0,none⟩ 1 [.int .i64 s.gone]:=(h.blk.at_ (show 3≤maxLen by decide)).one 1 rfl
theorem SheetAt.at2 (h:SheetAt w s):At w ⟨s.b,0,none⟩ 2 [.slice s.p s.xs.length s.c]:=(h.blk.at_ (show 3≤maxLen by decide)).one 2 rfl
theorem r_sheet_zero (h:SheetAt w s):Ret X.sheet_zero #[s.ptr] w (.bool false):=
 v_sheet_zero _ ⟨_,h.at0,Fin.of fun _=>by
  have:=h.m1
  rw[bv_eq,decide_eq_false (by omega)]⟩
theorem r_sheet_Len (h:SheetAt w s):Ret X.sheet_Len #[s.ptr] w (.int .i64 s.xs.length):=
 v_sheet_Len _ fun w1 hb1=>(r_sheet_zero (h.below hb1)).runs fun w2 hk2=>⟨_,rfl,hk2.nix,fun e=>(nomatch e),fun _=>⟨_,_,_,((h.below hb1).nix hk2).at2,Fin.of fun _=>rfl⟩⟩
theorem r_sheet_Cap (h:SheetAt w s):Ret X.sheet_Cap #[s.ptr] w (.int .i64 s.most):=
 v_sheet_Cap _ fun w1 hb1=>(r_sheet_zero (h.below hb1)).runs fun w2 hk2=>⟨_,rfl,hk2.nix,fun e=>(nomatch e),fun _=>⟨_,((h.below hb1).nix hk2).at0,Fin.of fun _=>rfl⟩⟩
theorem r_sheet_Gone (h:SheetAt w s):Ret X.sheet_Gone #[s.ptr] w (.int .i64 s.gone):=
 v_sheet_Gone _ fun w1 hb1=>(r_sheet_zero (h.below hb1)).runs fun w2 hk2=>⟨_,rfl,hk2.nix,fun e=>(nomatch e),fun _=>⟨_,((h.below hb1).nix hk2).at1,Fin.of fun _=>rfl⟩⟩
theorem r_sheet_Room (h:SheetAt w s):Ret X.sheet_Room #[s.ptr] w (.int .i64 (s.most-s.gone-s.xs.length)):=by
 have:=h.m2
 have:=h.room
 exact v_sheet_Room _ fun w1 hb1=>(r_sheet_Cap (h.below hb1)).runs fun w2 hk2=>⟨_,rfl,hk2.nix,fun w3 hb3=>(r_sheet_Gone (((h.below hb1).nix hk2).below hb3)).runs fun w4 hk4=>⟨_,rfl,hk4.nix,by unfold I64;omega,fun w5 hb5=>(r_sheet_Len (((((h.below hb1).nix hk2).below hb3).nix hk4).below hb5)).runs fun w6 hk6=>⟨_,rfl,hk6.nix,by unfold I64;omega,Fin.of fun _=>rfl⟩⟩⟩
def NewS (w0:World) (r:Pg) (s:Sd) (w:World):Prop:=s.sh=r∧SheetAt w s∧∀i,SdF s i→w0.heap.size≤i
def ModS (w0:World) (s:Sd) (r:Pg) (w:World):Prop:=∃s':Sd,s'.b=s.b∧s'.sh=r∧SheetAt w s'∧∀i,SdF s' i→SdF s i∨w0.heap.size≤i
theorem r_sheet_New {n:Nat} (hL:Laid w) (h1:1≤n) (h2:n≤1024):Gets Tryz.prog X.sheet_New #[.int .i64 n] w Nix (fun v w'=>∃s:Sd,v= .tuple #[s.ptr, .int .i64 0]∧NewS w ⟨n,0,[]⟩ s w'):=
 v_sheet_New n ⟨fun e=>by omega,fun _=>⟨fun e=>by omega,fun _ n1 hn1 w1 hb hk hw=>⟨⟨n1,n,0,none,0,[]⟩,rfl,rfl,⟨hw.2,Lines.nil,LsF.nil,Nat.le_trans hL.size hw.1,h1,h2,by simp,fun x hx=>(by cases hx)⟩,fun i hi=>(by
  rcases hi with rfl|hi
  ·exact hw.1
  ·exact absurd hi LsF.nil)⟩⟩⟩
theorem r_sheet_Push {l:Lh} {cs:List Cl} (hL:Laid w) (h:SheetAt w s) (hl:LRow w l cs) (hv:okL cs=true) (hr:s.gone+s.xs.length<s.most):Gets Tryz.prog X.sheet_Push #[s.ptr, .agg l.arr] w (SdF s) (fun v w'=>v= .int .i64 0∧ModS w s ⟨s.most,s.gone,lis s.xs++[⟨cs,l.soft⟩]⟩ w'):=by
 have hm2:=h.m2
 have hlen:cs.length≤1000:=by unfold okL at hv;simp at hv;exact hv.1
 have hll:cs.length=l.cells.n:=CRow.len hl
 refine v_sheet_Push _ l fun n1 hn1 w1 hb1 hm1=>(r_sheet_zero (h.below hb1)).runs fun w2 hk2=>⟨_,rfl,hk2.nix,fun e=>(nomatch e),fun _ w3 hb3 hm3=>?_⟩
 have hk3:=((Keeps.of_below hb1).trans hk2).trans (Keeps.of_below hb3)
 refine(r_line_Valid (Laid.nix hk3 hL) (hl.nix hk3)).runs fun w4 hk4=>⟨_,rfl,hk4.nix,fun e=>(by rw[hv] at e;cases e),fun _ w5 hb5 hm5=>?_⟩
 have hk5:=(hk3.trans hk4).trans (Keeps.of_below hb5)
 refine(r_sheet_Room (h.nix hk5)).runs fun w6 hk6=>⟨_,rfl,hk6.nix,fun e=>by omega,fun _=>⟨_,_,_,((h.nix hk5).nix hk6).at2,fun w7 hb7 hm7=>?_⟩⟩
 have hk7:=(hk5.trans hk6).trans (Keeps.of_below hb7)
 refine(r_line_Copy (hl.nix hk7) (by omega)).runs fun v w8 hk8 hq=>?_
 obtain⟨q,d,rfl,ho⟩:=hq
 obtain⟨hx,hxo,hxn⟩:=OwnC.newLn (soft:=l.soft) (Laid.nix hk7 hL) ho
 have hk8':=hk7.trans hk8
 have h8:=h.nix hk8'
 have hs7:=hk7.size
 have hs8:=hk8.size
 have hY:=hL.size
 refine⟨_,rfl,hk8.nix,h8.at2,fun n4 hn4=>⟨hdrs s.xs,h8.lines.row.room (fun a ha hm=>?_) (fun _ a ha hlt=>?_),by omega,fun w9 p2 n5 hg hoff=>?_⟩⟩
 ·have:=h.lt (.inr (.inl ⟨a,ha,rfl⟩))
  simp at hm
  omega
 ·exact .inr (.inl ⟨a,ha,rfl⟩)
 obtain⟨q1,q2,q3⟩:=h8.lines.push (by omega) hxo (fun i h1 h2=>by have:=hxn i h1;have:=h.lt (.inr h2);omega) hg
 have hb9:Whole w9 s.b T.sheet_Sheet _:=h8.blk.keeps q3 h.off
 refine⟨⟨hb9.can (show 3≤3 by omega),⟨fun hm=>by have:=h.blk.lt;simp at hm;omega,fun _=> .inl rfl⟩⟩,fun w10 hp10 w' hb _=>⟨rfl,?_⟩⟩
 have hb10:=hb9.put hp10 (show 3≤3 by omega)
 have hnb:¬LsF p2 (s.xs++[⟨q,d,cs,l.soft⟩]) s.b:=fun hi=>by
  have hlt:=h.blk.lt
  rcases q2 _ hi with r|r|r
  ·exact h.off r
  ·have:=hxn _ r;omega
  ·omega
 have hl10:=q1.keeps (hp10.keeps (F:=fun i=>i=s.b) rfl) fun i hi hl=>hnb (by rw[←hi];exact hl)
 refine⟨⟨s.b,s.most,s.gone,p2,n5,s.xs++[⟨q,d,cs,l.soft⟩]⟩,rfl,?_,⟨?_,?_,hnb,h.lo,h.m1,h.m2,?_,?_⟩,?_⟩
 ·show Pg.mk _ _ _=_
  rw[lis_snoc,hx]
 ·show Whole _ _ _ [_,_, .slice _ (s.xs++[_]).length _]
  rw[List.length_append]
  exact hb10.keeps (Keeps.of_below hb) fun e=>e
 ·show Lines _ _ (s.xs++[_]).length _ _
  rw[List.length_append]
  exact hl10.nix (Keeps.of_below hb)
 ·show s.gone+(s.xs++[_]).length≤s.most
  rw[List.length_append]
  simp<;>omega
 ·intro x hx
  rcases List.mem_append.1 hx with r|r
  ·exact h.wid x r
  ·rw[List.mem_singleton] at r
   subst r
   exact hlen
 ·rintro i (rfl|hi)
  ·exact .inl (.inl rfl)
  ·rcases q2 _ hi with r|r|r
   ·exact .inl (.inr r)
   ·have:=hxn _ r;exact .inr (by omega)
   ·exact .inr (by omega)
end
end Go.Proofs.YtjhhiindeignaaaGreatDoor
namespace Go.Proofs.YtjhhiindeignaaaGreatDoor
open Go Go.RowKit Go.Sy Go.Rep
set_option maxRecDepth 100000
set_option maxHeartbeats 2000000
section
variable {w w':World} {s:Sd}
theorem r_sheet_Get (hL:Laid w) (h:SheetAt w s) {i:Nat} (hi:i<s.xs.length):Gets Tryz.prog X.sheet_Get #[s.ptr, .int .i64 i] w Nix (fun v w'=>∃x,v= .tuple #[.agg x.lh.arr, .int .i64 0]∧NewLn w (liAt (lis s.xs) i) x w'):=by
 refine v_sheet_Get _ i fun n1 hn1 w1 hb1 hm1=>(r_sheet_zero (h.below hb1)).runs fun w2 hk2=>⟨_,rfl,hk2.nix,fun e=>(nomatch e),fun _=>?_⟩
 have h2:=(h.below hb1).nix hk2
 refine⟨fun e=>by omega,fun _=>⟨_,_,_,h2.at2,fun e=>by omega,fun _=>⟨_,_,_,h2.at2,h2.lines.ex (by omega) (by omega) fun a ha hown hmem w3 hb3 hm3=>?_⟩⟩⟩
 rw[Int.toNat_natCast] at hown hmem⊢
 have hk3:=((Keeps.of_below hb1).trans hk2).trans (Keeps.of_below hb3)
 have hw:=h.wid _ hmem
 refine(r_line_Copy (cs:=(lnAt s.xs i).cs) (LRow.nix hown.lrow (Keeps.of_below hb3)) (by show(lnAt s.xs i).cs.length≤_;omega)).runs fun v w4 hk4 hq=>?_
 obtain⟨q,d,rfl,ho⟩:=hq
 refine⟨_,rfl,hk4.nix,fun w' he _=>⟨⟨q,d,(lnAt s.xs i).cs,(lnAt s.xs i).soft⟩,rfl,?_⟩⟩
 rw[liAt_lis]
 exact OwnC.newLn hL (Own.low (Own.ext ho he fun d hd=>hm3.lt (by simp at hd⊢;exact hd)) hk3.size)
theorem r_sheet_Lines (hL:Laid w) (h:SheetAt w s):Gets Tryz.prog X.sheet_Lines #[s.ptr] w Nix (NewLs w (lis s.xs)):=by
 refine v_sheet_Lines _ fun w1 hb1=>(r_sheet_zero (h.below hb1)).runs fun w2 hk2=>⟨_,rfl,hk2.nix,fun e=>(nomatch e),fun _=>⟨_,_,_,((h.below hb1).nix hk2).at2,?_⟩⟩
 have hr2:=h.room
 have hm2:=h.m2
 refine⟨fun p n c i w'=>i=n∧n≤s.xs.length∧∃xs,Lines w' p n c xs∧lis xs=(lis s.xs).take n∧∀i,LsF p xs i→w.heap.size≤i,fun _ _ _ i=>((s.xs.length:Int)-i).toNat,fun w' _=>⟨rfl,by omega,[],Lines.nil,rfl,fun i hi=>absurd hi LsF.nil⟩,?_⟩
 rintro p n c i w3 hk3 ⟨rfl,hn,xs,hxs,hli,hF⟩
 refine⟨fun hi=>(h.nix hk3).lines.ex (by omega) hi fun a ha hown hmem n5 h5 w5 hb5 hm5=>?_,fun hi w' hb hk=>?_⟩
 ·rw[Int.toNat_natCast] at hown hmem⊢
  have hk5:=hk3.trans (Keeps.of_below hb5)
  have hwid:=h.wid _ hmem
  refine(r_line_Copy (cs:=(lnAt s.xs n).cs) (LRow.nix hown.lrow (Keeps.of_below hb5)) (by show(lnAt s.xs n).cs.length≤_;omega)).runs fun v w6 hk6 hq=>?_
  obtain⟨q,d,rfl,ho⟩:=hq
  obtain⟨hx,hxo,hxn⟩:=OwnC.newLn (soft:=(lnAt s.xs n).lh.soft) (Laid.nix hk5 hL) ho
  have hxs6:=(hxs.nix (Keeps.of_below hb5)).nix hk6
  have hn5:n5<w5.heap.size:=hm5.lt (by simp)
  have hs5:=hk5.size
  have hb5s:=hb5.size
  have hs6:=hk6.size
  refine⟨_,rfl,hk6.nix,fun n6 h6=>⟨hdrs xs,hxs6.row.room (fun a ha hm=>?_) (fun _ a ha hlt=>?_),by omega,fun w7 p3 n7 hg hoff=>⟨by unfold I64;omega,fun w8 hb8=>⟨⟨by omega,by omega,xs++[⟨q,d,(lnAt s.xs n).cs,(lnAt s.xs n).soft⟩],?_,?_,?_⟩,by dsimp only;omega⟩⟩⟩⟩
  ·have h1:=hxs.lt (.inl ⟨a,ha,rfl⟩)
   have h2:=hxs6.lt (.inl ⟨a,ha,rfl⟩)
   simp at hm
   omega
  ·have:=hF _ (.inl ⟨a,ha,rfl⟩)
   omega
  all_goals obtain⟨q1,q2,q3⟩:=hxs6.push (by have:=hL.size;omega) hxo (fun i h1 h2=>by have:=hxn i h1;have:=hxs.lt h2;omega) hg
  ·exact q1.nix (Keeps.of_below hb8)
  ·rw[lis_snoc,hli,lis_take (by omega)];rfl
  ·intro i hi
   rcases q2 i hi with r|r|r
   ·exact hF i r
   ·have:=hxn _ r;omega
   ·omega
 ·have:n=s.xs.length:=by omega
  subst this
  have hl:(lis s.xs).length=s.xs.length:=by simp[lis]
  refine⟨p,c,xs,by rw[hl],?_,by rw[hl];exact hxs.nix (Keeps.of_below hb),hF⟩
  rw[hli,List.take_of_length_le (by simp[lis])]
theorem r_sheet_Copy (hL:Laid w) (h:SheetAt w s):Gets Tryz.prog X.sheet_Copy #[s.ptr] w Nix (fun v w'=>∃s':Sd,v=s'.ptr∧NewS w s.sh s' w'):=by
 refine v_sheet_Copy _ fun w1 hb1=>(r_sheet_zero (h.below hb1)).runs fun w2 hk2=>⟨_,rfl,hk2.nix,fun e=>(nomatch e),fun _=>⟨_,((h.below hb1).nix hk2).at0,_,((h.below hb1).nix hk2).at1,fun w3 hb3=>?_⟩⟩
 have h3:=((h.below hb1).nix hk2).below hb3
 have hk3:=((Keeps.of_below hb1).trans hk2).trans (Keeps.of_below hb3)
 refine(r_sheet_Lines (Laid.nix hk3 hL) h3).runs fun v w4 hk4 hq=>?_
 obtain⟨p,c,xs,rfl,hli,hxs,hF⟩:=hq
 have hl:(lis s.xs).length=s.xs.length:=by simp[lis]
 rw[hl] at hxs⊢
 have hlen:=hxs.len
 have hs4:=hk4.size
 have hs3:=hk3.size
 refine⟨p,_,c,rfl,hk4.nix,(h3.nix hk4).at1,(h3.nix hk4).at0,fun n3 hn3 w5 hb5 hk5 hw=>⟨⟨n3,s.most,s.gone,p,c,xs⟩,rfl,?_,⟨?_,?_,?_,Nat.le_trans hL.size hw.1,h.m1,h.m2,?_,?_⟩,?_⟩⟩
 ·show Pg.mk _ _ _=_
  rw[hli];rfl
 ·show Whole _ _ _ [_,_, .slice p xs.length c]
  rw[hlen];exact hw.2
 ·show Lines _ _ xs.length _ _
  rw[hlen];exact hxs.nix (Keeps.of_below hb5)
 ·intro hl
  have:n3<w4.heap.size:=hxs.lt hl
  omega
 ·show s.gone+xs.length≤s.most
  rw[hlen];exact h.room
 ·intro x hx
  have:x.li∈lis xs:=List.mem_map.2 ⟨x,hx,rfl⟩
  rw[hli] at this
  obtain⟨y,hy,e⟩:=List.mem_map.1 this
  have:y.cs=x.cs:=congrArg Li.cs e
  rw[←this];exact h.wid y hy
 ·rintro i (rfl|hl)
  ·exact hw.1
  ·have:=hF i hl;omega
end
end Go.Proofs.YtjhhiindeignaaaGreatDoor
namespace Go.Sy
theorem Own.tail {B:Nat} {w:World} {e:TypeId} {s n c j:Nat} {p:Option Addr} {xs:List Value} (h:Own B w e s p n c xs) (hs:0<s) (hj:j≤n):(cutP p c j s=none→n-j=0)∧∀a,cutP p c j s=some a→At w a 0 (xs.drop (j*s)):=by
 have hl:=h.len
 have hc:=h.cap
 rcases h.place with⟨rfl,h1,h2⟩|⟨g,rfl,_⟩
 ·subst h1;subst h2
  refine⟨fun _=>by omega,fun a ha=>?_⟩
  unfold cutP at ha
  split at ha<;>cases ha
 ·rcases Nat.lt_or_ge j c with q|q
  ·rw[Go.Proofs.YtjhhiindeignaaaGreatDoor.cutP_some q]
   refine⟨fun e=>(by cases e),fun a ha=>?_⟩
   cases ha
   have:=Row.at_ h.row (a:=⟨g,0,none⟩) rfl (j*s) (us:=xs.drop (j*s)) (by rw[List.take_of_length_le (Nat.le_refl _)])
   have:=At.shift this
   unfold Addr.add at this
   split at this
   ·rename_i q2;rw[show j*s=0 from q2] at this⊢;exact this
   ·simpa using this
  ·refine⟨fun _=>by omega,fun a ha=>?_⟩
   have:xs.drop (j*s)=[]:=by
    rw[show j=n by omega]
    exact List.drop_eq_nil_of_le (by omega)
   rw[this]
   intro i v hv
   simp at hv
end Go.Sy
namespace Go.Proofs.YtjhhiindeignaaaGreatDoor
open Go Go.RowKit Go.Sy Go.Rep
set_option maxRecDepth 100000
set_option maxHeartbeats 2000000
section
variable {w w':World} {s:Sd}
theorem r_sheet_Drop (hL:Laid w) (h:SheetAt w s) {n:Nat} (hn:n≤s.xs.length):Gets Tryz.prog X.sheet_Drop #[s.ptr, .int .i64 n] w (fun i=>i=s.b) (fun v w'=>v= .int .i64 0∧∃p c,SheetAt w' ⟨s.b,s.most,s.gone+n,p,c,s.xs.drop n⟩∧∀a,p=some a→w.heap.size≤a.block):=by
 have hr:=h.room
 have hm2:=h.m2
 have hlen:=h.lines.len
 refine v_sheet_Drop _ n fun w1 hb1=>(r_sheet_zero (h.below hb1)).runs fun w2 hk2=>⟨_,rfl,hk2.nix,fun e=>(nomatch e),fun _=>?_⟩
 have hk2':=(Keeps.of_below hb1).trans hk2
 have h2:=h.nix hk2'
 have hcap:=Own.cap h.lines.row
 have htail:=Own.tail h2.lines.row (by decide) hn
 rw[hdrs_drop] at htail
 have hdl:(s.xs.drop n).length=s.xs.length-n:=List.length_drop
 refine⟨fun e=>by omega,fun _=>⟨_,_,_,h2.at2,fun e=>by omega,fun _=>⟨_,_,_,h2.at2,⟨by omega,by omega,by omega⟩,[],Room.none,hdrs (s.xs.drop n),⟨by rw[hdrs_length,hdl];omega,hdrs_one _,fun e=>by have:=htail.1 e;omega,fun a ha=>htail.2 a ha⟩,by omega,fun w3 p3 n5 hg=>?_⟩⟩⟩
 rw[Nat.zero_add,List.nil_append,show((s.xs.length:Int)-(n:Int)).toNat=s.xs.length-n by omega] at hg
 rw[Nat.zero_add,show((s.xs.length:Int)-(n:Int)).toNat=s.xs.length-n by omega]
 have hk3:Keeps Nix w2 w3:=hg.keeps fun e=>absurd e (by omega)
 have ho3:Own w2.heap.size w3 T.Line 2 p3 (s.xs.length-n) n5 (hdrs (s.xs.drop n)):=hg.own (Nat.le_refl _) fun a ha=>nomatch ha
 have h3:=h2.nix hk3
 have hA:Away w.heap.size (fun i=>i=s.b) [] s.b:=⟨by simp,fun _=>rfl⟩
 refine⟨⟨h3.blk.can (show 3≤3 by omega),hA⟩,fun w4 hp4=>?_⟩
 have hb4:=h3.blk.put hp4 (show 3≤3 by omega)
 refine⟨_,(hb4.at_ (show 3≤maxLen by decide)).one 1 rfl,by unfold I64;omega,⟨hb4.can (show 2≤3 by omega),hA⟩,fun w5 hp5 w' hb _=>⟨rfl,p3,n5,⟨?_,⟨?_,?_,?_⟩,?_,h.lo,h.m1,h.m2,?_,fun x hx=>h.wid x (List.mem_of_mem_drop hx)⟩,?_⟩⟩
 all_goals have hs2:=hk2'.size
 all_goals have hbl:=h.blk.lt
 all_goals have hkk:Keeps (fun i=>i=s.b) w3 w':=((hp4.keeps (F:=fun i=>i=s.b) rfl).trans (hp5.keeps rfl)).trans ((Keeps.of_below hb).mono fun _ e=>e.elim)
 ·have hb5:=hb4.put hp5 (show 2≤3 by omega)
  show Whole _ _ _ [_, .int .i64 ((s.gone+n:Nat):Int), .slice _ (s.xs.drop n).length _]
  rw[hdl,show((s.gone+n:Nat):Int)=(s.gone:Int)+n by omega]
  exact hb5.keeps (Keeps.of_below hb) fun e=>e
 ·show Own _ _ _ _ _ (s.xs.drop n).length _ _
  rw[hdl]
  exact(ho3.keeps hkk fun a ha e=>by have:=(ho3.lt a ha).2.1;omega).low (by have:=h.low (.inl rfl);have:=hL.size;omega)
 ·intro a ha hi
  have:=(ho3.lt a ha).2.1
  have:=h.lt (.inr (.inr (hi.sub fun x hx=>List.mem_of_mem_drop hx)))
  omega
 ·exact(h3.lines.each.keeps hkk fun i hi hl=>h.off (.inr (by rw[←hi];exact hl))).sub (List.drop_sublist _ _)
 ·rintro(⟨a,ha,e⟩|r)
  ·have:=(ho3.lt a ha).2.1
   change a.block=s.b at e
   omega
  ·exact h.off (.inr (r.sub fun x hx=>List.mem_of_mem_drop hx))
 ·show s.gone+n+(s.xs.drop n).length≤s.most
  omega
 ·intro a ha
  have:=(ho3.lt a ha).2.1
  omega
end
end Go.Proofs.YtjhhiindeignaaaGreatDoor
namespace Go.Rep
open Go Go.Sy
structure Rd where
 (b:Nat) (most page first next:Nat) (p:Option Addr) (c:Nat) (ss:List Sd)
structure Rg' where
 (most page first next:Nat) (ps:List Pg)
def Rd.rg (r:Rd):Rg':=⟨r.most,r.page,r.first,r.next,r.ss.map Sd.sh⟩
def Rd.ptr (r:Rd):Value:= .pointer (some ⟨r.b,0,none⟩)
end Go.Rep
namespace Go.Proofs.YtjhhiindeignaaaGreatDoor
open Go Go.RowKit Go.Sy Go.Rep
set_option maxRecDepth 100000
set_option maxHeartbeats 2000000
def SsF (ss:List Sd) (i:Nat):Prop:=∃s∈ss,SdF s i
def RdF (r:Rd) (i:Nat):Prop:=i=r.b∨PF r.p i∨SsF r.ss i
def linesN (ss:List Sd):Nat:=(ss.map fun s=>s.xs.length).sum
structure RingAt (w:World) (r:Rd):Prop where
 blk:Whole w r.b T.ring_Ring [.int .i64 r.most, .int .i64 r.page, .int .i64 r.first, .int .i64 r.next, .slice r.p r.ss.length r.c]
 row:Own Y.count w T.p_sheet_Sheet 1 r.p r.ss.length r.c (r.ss.map Sd.ptr)
 each:∀s∈r.ss,SheetAt w s∧s.most=r.page∧0<s.xs.length
 sep:r.ss.Pairwise fun s t=>∀i,SdF s i→¬SdF t i
 off1:∀i,PF r.p i→¬SsF r.ss i
 off2:¬PF r.p r.b∧¬SsF r.ss r.b
 lo:Y.count≤r.b
 m:r.most≤1048576
 p1:1≤r.page
 p2:r.page≤1024
 num:r.next=r.first+linesN r.ss
 small:r.next≤4611686018427387904
 few:linesN r.ss≤1048577
section
variable {w w':World} {r:Rd}
theorem SsF.nil {i:Nat}:¬SsF [] i:=fun⟨_,h,_⟩=>by cases h
theorem RingAt.lt (h:RingAt w r) {i:Nat} (hi:RdF r i):i<w.heap.size:=by
 rcases hi with rfl|⟨a,ha,rfl⟩|⟨s,hs,hi⟩
 ·exact h.blk.lt
 ·exact(h.row.lt a ha).1
 ·exact(h.each s hs).1.lt hi
theorem RingAt.low (h:RingAt w r) {i:Nat} (hi:RdF r i):Y.count≤i:=by
 rcases hi with rfl|⟨a,ha,rfl⟩|⟨s,hs,hi⟩
 ·exact h.lo
 ·exact(h.row.lt a ha).2.1
 ·exact(h.each s hs).1.low hi
theorem RingAt.keeps {F:Nat→Prop} (h:RingAt w r) (hk:Keeps F w w') (hF:∀i,F i→¬RdF r i):RingAt w' r:=
 ⟨h.blk.keeps hk fun hf=>hF _ hf (.inl rfl),h.row.keeps hk fun a ha hf=>hF _ hf (.inr (.inl ⟨a,ha,rfl⟩)),fun s hs=>⟨(h.each s hs).1.keeps hk fun i hf hi=>hF i hf (.inr (.inr ⟨s,hs,hi⟩)),(h.each s hs).2⟩,h.sep,h.off1,h.off2,h.lo,h.m,h.p1,h.p2,h.num,h.small,h.few⟩
theorem RingAt.nix (h:RingAt w r) (hk:Keeps Nix w w'):RingAt w' r:=h.keeps hk fun _ e=>e.elim
theorem RingAt.below (h:RingAt w r) (hb:Below w.heap.size w w'):RingAt w' r:=h.nix (Keeps.of_below hb)
theorem RingAt.at_ (h:RingAt w r):At w ⟨r.b,0,none⟩ 0 [.int .i64 r.most, .int .i64 r.page, .int .i64 r.first, .int .i64 r.next, .slice r.p r.ss.length r.c]:=h.blk.at_ (show 5≤maxLen by decide)
theorem r_ring_zero (h:RingAt w r):Ret X.ring_zero #[r.ptr] w (.bool false):=
 v_ring_zero _ ⟨_,h.at_.one 1 rfl,Fin.of fun _=>by
  have:=h.p1
  rw[bv_eq,decide_eq_false (by omega)]⟩
theorem r_ring_First (h:RingAt w r):Ret X.ring_First #[r.ptr] w (.int .i64 r.first):=
 v_ring_First _ fun w1 hb1=>(r_ring_zero (h.below hb1)).runs fun w2 hk2=>⟨_,rfl,hk2.nix,fun e=>(nomatch e),fun _=>⟨_,((h.below hb1).nix hk2).at_.one 2 rfl,Fin.of fun _=>rfl⟩⟩
theorem r_ring_Next (h:RingAt w r):Ret X.ring_Next #[r.ptr] w (.int .i64 r.next):=
 v_ring_Next _ fun w1 hb1=>(r_ring_zero (h.below hb1)).runs fun w2 hk2=>⟨_,rfl,hk2.nix,fun e=>(nomatch e),fun _=>⟨_,((h.below hb1).nix hk2).at_.one 3 rfl,Fin.of fun _=>rfl⟩⟩
theorem r_ring_Len (h:RingAt w r):Ret X.ring_Len #[r.ptr] w (.int .i64 ((r.next:Int)-r.first)):=by
 have:=h.small
 have:=h.num
 exact v_ring_Len _ fun w1 hb1=>(r_ring_Next (h.below hb1)).runs fun w2 hk2=>⟨_,rfl,hk2.nix,fun w3 hb3=>(r_ring_First (((h.below hb1).nix hk2).below hb3)).runs fun w4 hk4=>⟨_,rfl,hk4.nix,by unfold I64;omega,Fin.of fun _=>rfl⟩⟩
def NewR (w0:World) (q:Rg') (r:Rd) (w:World):Prop:=r.rg=q∧RingAt w r∧∀i,RdF r i→w0.heap.size≤i
def ModR (w0:World) (r:Rd) (q:Rg') (w:World):Prop:=∃r':Rd,r'.b=r.b∧r'.rg=q∧RingAt w r'∧∀i,RdF r' i→RdF r i∨w0.heap.size≤i
theorem r_ring_New {n m:Nat} (hL:Laid w) (hn:n≤1048576) (h1:1≤m) (h2:m≤1024):Gets Tryz.prog X.ring_New #[.int .i64 n, .int .i64 m] w Nix (fun v w'=>∃r:Rd,v= .tuple #[r.ptr, .int .i64 0]∧NewR w ⟨n,m,0,0,[]⟩ r w'):=
 v_ring_New n m ⟨fun e=>by omega,fun _=>⟨fun e=>by omega,fun _=>⟨fun e=>by omega,fun _=>⟨fun e=>by omega,fun _ n1 hn1 w1 hb hk hw=>⟨⟨n1,n,m,0,0,none,0,[]⟩,rfl,rfl,⟨hw.2,Own.nil _ _ _ _,fun s hs=>(by cases hs),List.Pairwise.nil,fun i hi hs=>SsF.nil hs,⟨fun⟨a,ha,_⟩=>(by cases ha),SsF.nil⟩,Nat.le_trans hL.size hw.1,hn,h1,h2,rfl,Nat.zero_le _,Nat.zero_le _⟩,fun i hi=>(by
  rcases hi with rfl|⟨a,ha,_⟩|hi
  ·exact hw.1
  ·cases ha
  ·exact absurd hi SsF.nil)⟩⟩⟩⟩⟩
end
end Go.Proofs.YtjhhiindeignaaaGreatDoor
namespace Go.Proofs.YtjhhiindeignaaaGreatDoor
open Go Go.RowKit Go.Sy Go.Rep
set_option maxRecDepth 100000
theorem v_ring_evict {w0:World} {F:Nat→Prop} {Q:Value→World→Prop} (r:Addr) (h:∃I1:Int→World→Prop,∃I2:Int→Nat,(∃i14:Int,∀w15:World,(Below w0.heap.size w0 w15)→I1 i14 w15)∧∀i1:Int,∀w1:World,(Keeps F w0 w1)→(I1 i1 w1)→∃i2:Int,(At w1 r 3 [(.int .i64 i2)])∧∃i3:Int,(At w1 r 2 [(.int .i64 i3)])∧((I64 (i2-i3))∧∃i4:Int,(At w1 r 0 [(.int .i64 i4)])∧(((i4<(i2-i3))→∃p1:Option Addr,∃n1 n2:Nat,(At w1 r 4 [(.slice p1 n1 n2)])∧((((0:Int)<(n1:Int))→∃i5:Int,(At w1 r 3 [(.int .i64 i5)])∧∃i6:Int,(At w1 r 2 [(.int .i64 i6)])∧((I64 (i5-i6))∧∃i7:Int,(At w1 r 0 [(.int .i64 i7)])∧((I64 ((i5-i6)-i7))∧∃p2:Option Addr,∃n3 n4:Nat,(At w1 r 4 [(.slice p2 n3 n4)])∧∃a1:Addr,(p2=(some a1))∧((((0:Int)≤0)∧((0:Int)<(n3:Int)))∧∃p3:Option Addr,(At w1 a1 0 [(.pointer p3)])∧∀w4:World,(Below w1.heap.size w1 w4)→Runs Tryz.prog X.sheet_Len #[(.pointer p3)] w4 (fun e1 w5=>∃i8:Int,(e1=(.returned (.int .i64 i8)))∧((Kept w0.heap.size F [] w4 w5)∧((At w5 r 0 [(.int .i64 i7)])∧((At w5 r 2 [(.int .i64 i6)])∧((At w5 r 3 [(.int .i64 i5)])∧∃p4:Option Addr,∃n5 n6:Nat,(At w5 r 4 [(.slice p4 n5 n6)])∧∃a2:Addr,(p4=(some a2))∧((((0:Int)≤0)∧((0:Int)<(n5:Int)))∧∃p5:Option Addr,(At w5 a2 0 [(.pointer p5)])∧∀w6:World,(Below w5.heap.size w5 w6)→Runs Tryz.prog X.sheet_Drop #[(.pointer p5),(.int .i64 (min ((i5-i6)-i7) i8))] w6 (fun e2 w7=>∃i9:Int,(e2=(.returned (.int .i64 i9)))∧((Kept w0.heap.size F [] w6 w7)∧∃i10:Int,(At w7 r 2 [(.int .i64 i10)])∧((I64 (i10+(min ((i5-i6)-i7) i8)))∧(((CanPut w7 r 2 1)∧(Away w0.heap.size F [] r.block))∧∀w8:World,(Put w7 [] r 2 [(.int .i64 (i10+(min ((i5-i6)-i7) i8)))] w8)→∃p6:Option Addr,∃n7 n8:Nat,(At w8 r 4 [(.slice p6 n7 n8)])∧∃a3:Addr,(p6=(some a3))∧((((0:Int)≤0)∧((0:Int)<(n7:Int)))∧∃p7:Option Addr,(At w8 a3 0 [(.pointer p7)])∧∀w9:World,(Below w8.heap.size w8 w9)→Runs Tryz.prog X.sheet_Len #[(.pointer p7)] w9 (fun e3 w10=>∃i11:Int,(e3=(.returned (.int .i64 i11)))∧((Kept w0.heap.size F [] w9 w10)∧(((i11=0)→∃p8:Option Addr,∃n9 n10:Nat,(At w10 r 4 [(.slice p8 n9 n10)])∧((((0:Int)≤1)∧(((1:Int)≤(n9:Int))∧((n9:Int)≤(n10:Int))))∧∃s1:List Value,(Room w0.heap.size F [] w10 T.p_sheet_Sheet 1 none 0 0 s1 (Int.toNat ((n9:Int)-1)))∧∃s2:List Value,(((s2.length)=((Int.toNat ((n9:Int)-1))*1))∧((∀v1:Value,(v1∈s2)→(v1.oneCell')=true)∧((((cutP p8 n10 1 1)=none)→(Int.toNat ((n9:Int)-1))=0)∧∀a4:Addr,((cutP p8 n10 1 1)=(some a4))→At w10 a4 0 s2)))∧((((0+(Int.toNat ((n9:Int)-1)))*8)≤140737488355328)∧∀w12:World,∀p9:Option Addr,∀n11:Nat,(Grown w10 [] none 0 0 T.p_sheet_Sheet 1 (0+(Int.toNat ((n9:Int)-1))) (s1++s2) w12 p9 n11)→((CanPut w12 r 4 1)∧(Away w0.heap.size F [] r.block))∧∀w13:World,(Put w12 [] r 4 [(.slice p9 (0+(Int.toNat ((n9:Int)-1))) n11)] w13)→∃i13:Int,∀w14:World,(Below w13.heap.size w13 w14)→(I1 i13 w14)∧(I2 i13<I2 i1))))∧((i11≠0)→∃i12:Int,∀w11:World,(Below w10.heap.size w10 w11)→(I1 i12 w11)∧(I2 i12<I2 i1))))))))))))))))))))∧(((n1:Int)≤0)→Fin w0 F w1 Q (.tuple #[]))))∧(((i2-i3)≤i4)→Fin w0 F w1 Q (.tuple #[]))))):Gets Tryz.prog X.ring_evict #[(.pointer (some r))] w0 F Q:=
 func_run mixed [⟨0,[100000],[]⟩] [] X.ring_evict [SV.adr r 0] ⟨by trivial,trivial⟩ (by kernel_rfl) (by kernel_rfl) h
end Go.Proofs.YtjhhiindeignaaaGreatDoor
namespace Go.Proofs.YtjhhiindeignaaaGreatDoor
open Go Go.RowKit Go.Sy Go.Rep
set_option maxRecDepth 100000
set_option maxHeartbeats 2000000
def dropP:List Pg→Nat→List Pg
 |[],_=>[]
 |p::ps,k=>if k=0 then p::ps else if k<p.ls.length then⟨p.most,p.gone+k,p.ls.drop k⟩::ps else dropP ps (k-p.ls.length)
theorem dropP_zero (ps:List Pg):dropP ps 0=ps:=by cases ps<;>simp[dropP]
theorem dropP_part {p:Pg} {ps:List Pg} {k:Nat} (h:k<p.ls.length):dropP (p::ps) k=⟨p.most,p.gone+k,p.ls.drop k⟩::ps:=by
 by_cases e:k=0
 ·subst e
  simp[dropP]
 ·rw[dropP,if_neg e,if_pos h]
theorem dropP_all {p:Pg} {ps:List Pg} {k:Nat} (h0:0<p.ls.length) (h:p.ls.length≤k):dropP (p::ps) k=dropP ps (k-p.ls.length):=by
 rw[dropP,if_neg (by omega),if_neg (by omega)]
theorem linesN_cons (s:Sd) (ss:List Sd):linesN (s::ss)=s.xs.length+linesN ss:=by simp[linesN]
theorem SsF.cons {s:Sd} {ss:List Sd} {i:Nat}:SsF (s::ss) i↔SdF s i∨SsF ss i:=by
 constructor
 ·rintro⟨t,ht,hi⟩
  rcases List.mem_cons.1 ht with rfl|q
  ·exact .inl hi
  ·exact .inr ⟨t,q,hi⟩
 ·rintro(h|⟨t,ht,hi⟩)
  ·exact⟨s,List.mem_cons_self,h⟩
  ·exact⟨t,List.mem_cons_of_mem _ ht,hi⟩
section
variable {w w':World} {r:Rd} {s:Sd} {ss:List Sd}
theorem RingAt.head (h:RingAt w r) (hs:r.ss=s::ss):∃a,r.p=some a∧At w a 0 [s.ptr]:=by
 obtain⟨a,ha⟩:=h.row.row.some_ (by rw[hs];simp:0<r.ss.length)
 exact⟨a,ha,by
  have:=Row.at_ h.row.row ha 0 (us:=[s.ptr]) (by rw[hs];rfl)
  exact this⟩
theorem RingAt.cut (h:RingAt w r) (hs:r.ss=s::ss) {s':Sd} {first':Nat} (hs':SheetAt w' s') (hm:s'.most=r.page) (h0:0<s'.xs.length) (hb:s'.b=s.b)
  (hF:∀i,SdF s' i→SdF s i∨w.heap.size≤i) (hk:Keeps (fun i=>i=r.b∨SdF s i) w w')
  (hblk:Whole w' r.b T.ring_Ring [.int .i64 r.most, .int .i64 r.page, .int .i64 first', .int .i64 r.next, .slice r.p r.ss.length r.c]) (hn:r.next=first'+(s'.xs.length+linesN ss)) (hle:r.first≤first'):RingAt w' ⟨r.b,r.most,r.page,first',r.next,r.p,r.c,s'::ss⟩:=by
 have hmem:s∈r.ss:=by rw[hs];exact List.mem_cons_self
 have hsep:=h.sep
 rw[hs] at hsep
 have hsep':=List.pairwise_cons.1 hsep
 have hsub:∀t∈ss,t∈r.ss:=fun t ht=>by rw[hs];exact List.mem_cons_of_mem _ ht
 have hlt:∀{i},RdF r i→i<w.heap.size:=fun hi=>h.lt hi
 refine⟨?_,?_,fun t ht=>?_,?_,fun i hi hl=>?_,⟨h.off2.1,fun hl=>?_⟩,h.lo,h.m,h.p1,h.p2,by rw[linesN_cons];exact hn,h.small,by have:=h.num;have:=h.few;rw[linesN_cons];show s'.xs.length+linesN ss≤_;omega⟩
 ·show Whole _ _ _ [_,_,_,_, .slice _ (s'::ss).length _]
  have:(s'::ss).length=r.ss.length:=by rw[hs];rfl
  rw[this]
  exact hblk
 ·have:(s'::ss).map Sd.ptr=r.ss.map Sd.ptr:=by rw[hs];simp[Sd.ptr,hb]
  show Own _ _ _ _ _ (s'::ss).length _ ((s'::ss).map Sd.ptr)
  rw[this,show(s'::ss).length=r.ss.length by rw[hs];rfl]
  refine h.row.keeps hk fun a ha hf=>?_
  rcases hf with q|q
  ·exact h.off2.1 ⟨a,ha,q⟩
  ·exact h.off1 _ ⟨a,ha,rfl⟩ ⟨s,hmem,q⟩
 ·rcases List.mem_cons.1 ht with rfl|q
  ·exact⟨hs',hm,h0⟩
  ·have:=h.each t (hsub t q)
   refine⟨this.1.keeps hk fun i hi hl=>?_,this.2⟩
   rcases hi with rfl|hi
   ·exact h.off2.2 ⟨t,hsub t q,hl⟩
   ·exact hsep'.1 t q i hi hl
 ·refine List.pairwise_cons.2 ⟨fun t ht i hi hl=>?_,hsep'.2⟩
  rcases hF i hi with q|q
  ·exact hsep'.1 t ht i q hl
  ·have:=hlt (.inr (.inr ⟨t,hsub t ht,hl⟩))
   omega
 ·rcases SsF.cons.1 hl with q|⟨t,ht,q⟩
  ·rcases hF i q with q|q
   ·exact h.off1 i hi ⟨s,hmem,q⟩
   ·have:=hlt (.inr (.inl hi))
    omega
  ·exact h.off1 i hi ⟨t,hsub t ht,q⟩
 ·change SsF (s'::ss) r.b at hl
  rcases SsF.cons.1 hl with q|⟨t,ht,q⟩
  ·rcases hF _ q with q|q
   ·exact h.off2.2 ⟨s,hmem,q⟩
   ·have:=hlt (.inl rfl)
    omega
  ·exact h.off2.2 ⟨t,hsub t ht,q⟩
theorem RingAt.shift (h:RingAt w r) (hs:r.ss=s::ss) {first' c':Nat} {p':Option Addr} (hk:Keeps (fun i=>i=r.b∨SdF s i) w w')
  (hblk:Whole w' r.b T.ring_Ring [.int .i64 r.most, .int .i64 r.page, .int .i64 first', .int .i64 r.next, .slice p' ss.length c']) (hrow:Own Y.count w' T.p_sheet_Sheet 1 p' ss.length c' (ss.map Sd.ptr))
  (hnew:∀a,p'=some a→w.heap.size≤a.block) (hn:r.next=first'+linesN ss) (hle:r.first≤first'):RingAt w' ⟨r.b,r.most,r.page,first',r.next,p',c',ss⟩:=by
 have hsep:=h.sep
 rw[hs] at hsep
 have hsep':=List.pairwise_cons.1 hsep
 have hsub:∀t∈ss,t∈r.ss:=fun t ht=>by rw[hs];exact List.mem_cons_of_mem _ ht
 have hlt:∀{i},RdF r i→i<w.heap.size:=fun hi=>h.lt hi
 refine⟨hblk,hrow,fun t ht=>?_,hsep'.2,fun i hi hl=>?_,⟨fun hi=>?_,fun hl=>?_⟩,h.lo,h.m,h.p1,h.p2,hn,h.small,by have:=h.num;have:=h.few;show linesN ss≤_;omega⟩
 ·have:=h.each t (hsub t ht)
  refine⟨this.1.keeps hk fun i hi hl=>?_,this.2⟩
  rcases hi with rfl|hi
  ·exact h.off2.2 ⟨t,hsub t ht,hl⟩
  ·exact hsep'.1 t ht i hi hl
 ·obtain⟨a,ha,rfl⟩:=hi
  obtain⟨t,ht,q⟩:=hl
  have:=hlt (.inr (.inr ⟨t,hsub t ht,q⟩))
  have:=hnew a ha
  omega
 ·obtain⟨a,ha,e⟩:=hi
  have:=hlt (i:=r.b) (.inl rfl)
  have:=hnew a ha
  change a.block=r.b at e
  omega
 ·obtain⟨t,ht,q⟩:=hl
  exact h.off2.2 ⟨t,hsub t ht,q⟩
end
end Go.Proofs.YtjhhiindeignaaaGreatDoor
