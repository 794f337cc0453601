/- A part of the proof of ChunksHolds. -/
import Derived.Test.YtimbpmnbbfeogaaGreatDoorZD
import Derived.Shelf.Strconv.Clone
import Derived.Shelf.LaysC
import Derived.Shelf.Strings.Builder1
import Derived.Shelf.Strings.Trim
import Derived.Shelf.Small.Utf8
import Derived.Shelf.Small.Strs
import Derived.Shelf.Small.Wraps
import Derived.Shelf.Strings.BuilderF
import Derived.Shelf.Strings.BuilderK
import Derived.Shelf.Strings.BuilderRune
import Derived.Shelf.Strconv.Atoi
import Derived.Shelf.Strconv.AtoiErrFast
import Derived.Shelf.Strconv.ParseIntEmpty
import Derived.Shelf.Strconv.AtoiFail
import Derived.Shelf.Strconv.SyntaxError
import Derived.Shelf.Strconv.ToError
import Derived.Shelf.Strconv.Lower
import Derived.Shelf.Strconv.ParseUint10
import Derived.Shelf.Strconv.ParseUint10Empty
import Derived.Shelf.Strconv.ParseUint10Any
import Derived.Shelf.Strconv.ParseInt10
import Derived.Shelf.Strconv.AtoiLong
import Derived.Shelf.Strconv.AtoiInnerAll
import Derived.Shelf.Strconv.RangeError
import Derived.Shelf.Strconv.ToErrorRange
import Derived.Shelf.Strconv.AtoiAll
import Derived.Shelf.Strconv.ErrVarAll
import Derived.Shelf.Strings.Search1
import Derived.Shelf.Strings.Search2
import Derived.Shelf.Strings.Search3
import Derived.Shelf.Strings.Cut
import Derived.Shelf.Strings.Count
import Derived.Shelf.Strings.Shaped
import Derived.Shelf.Strings.Prefix
import Derived.Shelf.Strings.Split
import Derived.Shelf.Strings.SplitShaped
import Derived.Shelf.Strings.Runes
import Derived.Shelf.Strings.AsciiSet
import Derived.Shelf.Bits.Mul64
import Derived.Shelf.Unicode.DecodeSlow
import Derived.Shelf.Unicode.DecodeAny
import Derived.Shelf.Strings.SlTrimAscii
import Derived.WalkKit
import Derived.BigCall
import Derived.Laws.OwnMore
import Derived.Deep.AppendLies
import Derived.Deep.Draws
import Derived.Laws.Rows
import Derived.Maps.AppendAt
import Derived.RegionTactic
import Derived.OwnWalk
import Derived.Laws.BytesString
import Derived.Laws.BytesArg
import Derived.ChangeSlices
import Derived.Deep.Slices
import Derived.Deep.Fields
import Derived.ChangeSame
import Derived.OpenShut
import Derived.Deep.DeepCutAuto
import Derived.BigFrame
import Derived.IntWalk
import Derived.LoopTactic
import Derived.Lib.Hide
import Derived.Lib.SliceRun
import Derived.Deep.Onto
import Derived.RangeFuncNested
import Derived.RangeFuncBound
import Derived.RangeFuncCalls
import Derived.Shelf.Abstract
import Derived.OwnWalkIn
import Derived.TacticsInMore
import Derived.LoopNIn
import Derived.Sort.QuietTacIn
import Derived.Sort.CutIn
import Derived.ChangeShapes
import Derived.LaidLaws
import Derived.Lib.LaidTab
import Derived.Handed
set_option linter.unusedVariables false
set_option linter.unusedSimpArgs false
set_option linter.unusedSectionVars false
set_option maxHeartbeats 16000000
set_option maxRecDepth 100000
namespace Go.Proofs.YtimbpmnbbfeogaaGreatDoor
open Go Go.RowKit Go.Sy Go.Rep
def Br(r:Int)(l:List Int)(q:bl):bl:=
 nQ (uR r (e5 l 0) (c6.aL q.bu) q.aq (dj q)) {q with bu:=iO q.bu (la r (e5 l 0) (dp l 0 0) (c6.aL q.bu) q.az q.aq (dj q)),ah:=na r (dp l 0 0) q.ah}
theorem QD(r n:Int)(g:cc)(aq:dz)(q:aT):(uR r n g aq q).length<=g.ab.length/\∀l∈uR r n g aq q,l∈g.ab:=by
 unfold uR;split
 ·exact aht _ _ _ _
 ·exact⟨ef _,λl hl=>by cases hl⟩
theorem aa4(r what:Int)(v:fp):(na r what v).next=v.next:=by
 unfold na;split
 ·rfl
 ·rfl
section
variable{w0 w w' w1:World}{F0:Nat->Prop}{bs:List Nat}{o o':I}{bM bq:List I}{R:Ending->World->Prop}{f:FuncId}{args:Array Value}{s s':cN}{g:cV}
theorem atU{N:Nat}{r:Int}{aP:ao}{aM ba:Nat}{l:List Int}(aj:Laid w)(h:(Z s).P w)(ok:b5 N s.av)(hN:N+1000<=4611686018427387904)(hp:s.dq=0)(hr:eK w aP aM l)(hd:∀a,aP=some a->¬(Z s).F a.block/\a.block<w.heap.size)(hl:∀n∈l,-1<=n/\n<=9999):
  bI Tryz.prog X.VB #[s.ptr, .int .i32 r, .slice aP aM ba] w (Z s).F (λv w'=>v= .int .i64 0/\fK Z w s (λs'=>s'.b=s.b/\s'.av=Br r l s.av) w'):=by
 have hY:=aj.size;have h1:=M' hl 0;have hu:s.aJ.c_<=1:=ok.u;have hlt:∀i,(Z s).F i->i<w.heap.size:=λi hi=>(Z s).lt h hi
 have aN:=af.start (bs:=[]) aj h aS;have hrow:∀{V:World},U (Z s).F w V->eK V aP aM l:=λhk=>Row.ax hr hk λa e=>(hd a e).1
 have uQ:∀{bs:List Nat} {V V':World} {R:Ending->World->Prop},af w (Z s).F bs (Z s) V->Below V.heap.size V V'->(∀ad,af w (Z s).F bs (Z s) ad->U bg V' ad->R (.returned (.agg (dj s.av).T)) ad)->dH Tryz.prog X.qJ #[.pointer (some ⟨s.b,0,none⟩)] V' R:=λa b c=>Z.Kz (a.below b) rfl c
 have tw:∀{bs:List Nat} {i:Int} {V V':World} {R:Ending->World->Prop},af w (Z s).F bs (Z s) V->Below V.heap.size V V'->(∀ad,af w (Z s).F bs (Z s) ad->U bg V' ad->R (.returned (.int .i64 (e5 l i))) ad)->dH Tryz.prog X.qA #[.slice aP aM ba, .int .i64 i] V' R:=λa b c=>(a.below b).ret (λ_ _=>afQ (hrow (a.below b).kept)) c
 have gB:∀{bs:List Nat} {V:World},af w (Z s).F bs (Z s) V->w.heap.size<=V.heap.size:=λa=>a.kept.size
 have qF:∀{bs n_:List Nat} {V:World},af w (Z s).F bs (Z s) V->(∀b∈n_,w.heap.size<=b)->af w (Z s).F n_ (Z s) V:=λa hb=>a.Fa hlt hb
 have sg:∀{n:Nat} {V V':World},af w (Z s).F [] (Z s) V->w.heap.size<=n->dV V [n] V'->af w (Z s).F [] (Z s) V':=λ{n V V'} a hn he=>qF ((qF (n_:=[n]) a FX).ext he aS FX hY) aS
 have sh:∀{n m:Nat} {V V':World},af w (Z s).F [] (Z s) V->w.heap.size<=n->w.heap.size<=m->dV V [n,m] V'->af w (Z s).F [] (Z s) V':=λ{n m V V'} a hn hm he=>qF ((qF (n_:=[n,m]) a ej).ext he aS ej hY) aS
 have jP:∀V,af w (Z s).F [] (Z s) V->e5 l 0=e5 l 0/\(aT.mk ⟨(dj s.av).f.k,(dj s.av).f.i,(dj s.av).f.r,(dj s.av).f.g,(dj s.av).f.b⟩ ⟨(dj s.av).b.k,(dj s.av).b.i,(dj s.av).b.r,(dj s.av).b.g,(dj s.av).b.b⟩ (dj s.av).eo)=dj s.av/\af w (Z s).F [] (Z s) V:=λV cY=>⟨rfl,rfl,cY⟩
 refine azd _ r aP aM ba λar g1 aQ g2 cH g3=>⟨λeA i2 i3 i4 i5 zT zU i8 i9 tQ nP sF V=>eA=e5 l 0/\(aT.mk ⟨i2,i3,i4,i5,zT⟩ ⟨zU,i8,i9,tQ,nP⟩ sF)=dj s.av/\af w (Z s).F [] (Z s) V,⟨λe6 ha hm=>tw aN ha λb4 bZ dv=>⟨_,rfl,dv.O,?_,?_,?_⟩,?_,?_⟩,?_⟩
 ·exact λwc hc hm=>uQ bZ hc λiC dr ee=>⟨dj s.av,rfl,ee.O,λar g1 aQ g2 h4 he=>jP _ (dr.below he),λar g1 aQ g2 h4 he=>jP _ (dr.below he)⟩
 ·exact λar g1=>⟨λwc hc hm=>uQ bZ hc λiC dr ee=>⟨dj s.av,rfl,ee.O,λaQ g2 h4 he=>jP _ (sg dr (ek (gB bZ) g1) he)⟩,λaQ g2 wc hc hm=>uQ bZ hc λiC dr ee=>⟨dj s.av,rfl,ee.O,λh4 he=>jP _ (sh dr (ek (gB bZ) g2) (ek (gB bZ) g1) he)⟩⟩
 ·exact λar g1=>⟨λwc hc hm=>uQ bZ hc λiC dr ee=>⟨dj s.av,rfl,ee.O,λaQ g2 h4 he=>jP _ (sg dr (ek (gB bZ) g1) he)⟩,λaQ g2 wc hc hm=>uQ bZ hc λiC dr ee=>⟨dj s.av,rfl,ee.O,λh4 he=>jP _ (sh dr (ek (gB bZ) g1) (ek (gB bZ) g2) he)⟩⟩
 ·exact λar g1=>⟨λe6 ha hm=>tw aN ha λb4 bZ dv=>⟨_,rfl,dv.O,λwc hc hm=>uQ bZ hc λiC dr ee=>⟨dj s.av,rfl,ee.O,λaQ g2 h4 he=>jP _ (sg dr g1 he)⟩,λaQ g2 wc hc hm=>uQ bZ hc λiC dr ee=>⟨dj s.av,rfl,ee.O,λh4 he=>jP _ (sh dr (ek (gB bZ) g2) g1 he)⟩⟩,λaQ g2 e6 ha hm=>tw aN ha λb4 bZ dv=>⟨_,rfl,dv.O,λwc hc hm=>uQ bZ hc λiC dr ee=>⟨dj s.av,rfl,ee.O,λh4 he=>jP _ (sh dr g2 g1 he)⟩⟩⟩
 ·exact λar g1=>⟨λe6 ha hm=>tw aN ha λb4 bZ dv=>⟨_,rfl,dv.O,λwc hc hm=>uQ bZ hc λiC dr ee=>⟨dj s.av,rfl,ee.O,λaQ g2 h4 he=>jP _ (sg dr g1 he)⟩,λaQ g2 wc hc hm=>uQ bZ hc λiC dr ee=>⟨dj s.av,rfl,ee.O,λh4 he=>jP _ (sh dr g1 (ek (gB bZ) g2) he)⟩⟩,λaQ g2 e6 ha hm=>tw aN ha λb4 bZ dv=>⟨_,rfl,dv.O,λwc hc hm=>uQ bZ hc λiC dr ee=>⟨dj s.av,rfl,ee.O,λh4 he=>jP _ (sh dr g1 g2 he)⟩⟩⟩
 rintro eA i2 i3 i4 i5 zT zU i8 i9 tQ nP sF eO g4 fv abq w1 _ ⟨rfl,Q8,bX⟩ i1 aml;have amk:w.heap.size<=i1:=ek (gB bX) aml;refine⟨_,Z.cell bX 2 rfl,λad kN q1 q2 cz en eB qE oq=>?_⟩;have asg:Whole ad fv G.b_ (dj s.av).T.toList:=by rw[<-Q8];exact eB.2
 have HW:([aQ,ar,eO,fv,i1,cH]++[]).Nodup:=by
  simp only[xi,e7,ns,nt,not_or,not_false_eq_true,F',and_true,nx] at oq⊢;omega
 let cI:xo:=[(aQ,G.ft,[.int .i32 r]),(ar,G.ew,[s.ptr]),(eO,G.int,[.int .i64 (e5 l 0)]),(fv,G.b_,(dj s.av).T.toList),(i1,G.j8,[.slice none 0 0]),(cH,G.mo,[.slice aP aM ba])]
 have iB:af w (Z s).F (cI.map (·.1)++[]) (Z s) ad:=qF (bX.below kN) (by simp[cI];omega);have t2:=af.P6 cI iB (by simp only[cI,e7,ns,nt,X3,forall_eq];exact⟨⟨g2,q2.2⟩,⟨g1,q1.2⟩,⟨g4,en.2⟩,⟨abq,asg⟩,⟨amk,qE.2⟩,⟨g3,cz.2⟩⟩) HW hY;have ar1:([I.cl s.hi,I.stops s.dc,d_ s,bE s.aJ]++cI.map gQ).Perm ([I.stops s.dc]++([d_ s,I.cl s.hi]++bE s.aJ::(jS aQ ar eO fv s r (e5 l 0)++kI i1 cH (.slice none 0 0) aP aM ba))):=(List.Perm.swap _ _ _).trans (List.Perm.cons _ (List.Perm.swap _ _ _));have t3:=af.mid [I.stops s.dc] [d_ s,I.cl s.hi] (bE s.aJ::(jS aQ ar eO fv s r (e5 l 0)++kI i1 cH (.slice none 0 0) aP aM ba)) (t2.pN ar1);refine af.GG (bq:=I.sep [d_ s,I.cl s.hi]::bE s.aJ::(jS aQ ar eO fv s r (e5 l 0)++kI i1 cH (.slice none 0 0) aP aM ba)) (fC:=λv _ lj=>v= .int .i64 0/\∃dP r' dG dU,lj=dP::bE dU::dG/\dU.b=s.aJ.b/\dU.bu=iO s.aJ.bu r'/\Gm s aQ ar eO fv i1 cH r (e5 l 0) aP aM ba (la r (e5 l 0) (dp l 0 0) (c6.aL s.aJ.bu) s.az s.aq (dj s.av)) (uR r (e5 l 0) (c6.aL s.aJ.bu) s.aq (dj s.av)) (na r (dp l 0 0) s.hi.r.aq) dP r' dG) [I.stops s.dc] t3 aS (λa b=>?_) λv bw lj ⟨ah,dP,r',dG,dU,oV,ya,Cm,p,k,gs,dS,e1,e2,e3,e4,eu,gq⟩ t4 bO=>?_
 ·refine(show bI Tryz.prog X.oI _ ad _ (Ke ad (I.sep [d_ s,I.cl s.hi]) s.aJ (jS aQ ar eO fv s r (e5 l 0)++kI i1 cH (.slice none 0 0) aP aM ba) (Gm s aQ ar eO fv i1 cH r (e5 l 0) aP aM ba (la r (e5 l 0) (dp l 0 0) (c6.aL s.aJ.bu) s.az s.aq (dj s.av)) (uR r (e5 l 0) (c6.aL s.aJ.bu) s.aq (dj s.av)) (na r (dp l 0 0) s.hi.r.aq))) from ?_).mono (λ_ e=>e) λv ad _ ⟨q0,dP,r',dG,dU,q1,q2,cz,en,eB⟩=>⟨_,⟨q0,dP,r',dG,dU,rfl,q1,q2,cz⟩,en,eB⟩
  rw[<-cS.pv];refine awM _ _ _ _ _ _ _ (alk (args:=λp=>#[.pointer p, .pointer (some ⟨aQ,0,none⟩), .pointer (some ⟨ar,0,none⟩), .pointer (some ⟨eO,0,none⟩), .pointer (some ⟨fv,0,none⟩), .pointer (some ⟨i1,0,none⟩), .pointer (some ⟨cH,0,none⟩)]) b a hu λV cY an1 hP=>asD cY hP (by rw[cS.pv];exact ok.NO) (by rw[cS.pv];exact ok.Bw) ok.zd h1 (Row.ax (hrow t2.kept) an1 λaB e bk=>?_) hl);have bc:=(t3.own aB.block (I.j9.2 (.inr bk))).1;have:=hd aB e;exact bc.elim this.1 λu=>by omega
 ·subst oV e3 e4 gq ah
  have t5:=af.dI [I.stops s.dc] [d_ s,I.cl dS] (bE dU::I.lines p k gs::(jS aQ ar eO fv s r (e5 l 0)++kI i1 cH (.slice p gs.length k) aP aM ba)) t4
  let r7:xo:=[(aQ,G.ft,[.int .i32 r]),(ar,G.ew,[s.ptr]),(eO,G.int,[.int .i64 (e5 l 0)]),(fv,G.b_,(dj s.av).T.toList),(i1,G.j8,[.slice p gs.length k]),(cH,G.mo,[.slice aP aM ba])]
  have ar2:([I.stops s.dc]++([d_ s,I.cl dS]++bE dU::I.lines p k gs::(jS aQ ar eO fv s r (e5 l 0)++kI i1 cH (.slice p gs.length k) aP aM ba))).Perm ([I.cl dS,I.stops s.dc,d_ s,bE dU,I.lines p k gs]++r7.map gQ):=(List.Perm.cons _ (List.Perm.swap _ _ _)).trans (List.Perm.swap _ _ _);obtain⟨Df,FV⟩:=af.U4 (l:=[I.cl dS,I.stops s.dc,d_ s,bE dU,I.lines p k gs]) r7 (t5.pN ar2);refine⟨_,rfl,bO,_,FV _ (List.Mem.head _),_,FV _ (List.Mem.tail _ (List.Mem.head _)),_,FV _ (List.Mem.tail _ (List.Mem.tail _ (List.Mem.head _))),dj s.av,FV _ (List.Mem.tail _ (List.Mem.tail _ (List.Mem.tail _ (List.Mem.head _)))),_,_,_,FV _ (List.Mem.tail _ (List.Mem.tail _ (List.Mem.tail _ (List.Mem.tail _ (List.Mem.head _))))),_,_,_,FV _ (List.Mem.tail _ (List.Mem.tail _ (List.Mem.tail _ (List.Mem.tail _ (List.Mem.tail _ (List.Mem.head _)))))),λbD eR zH=>?_⟩;have e:({s with hi:=dS,aJ:=dU}:cN).cells=s.cells:=by
   show _::_::dU.ptr::dS.ptr::_=_::_::s.aJ.ptr::s.hi.ptr::_;unfold cS.ptr lx.ptr;rw[ya,e1]
  have Dg:af w (Z s).F [ar,aQ,cH,eO,fv,i1] (I.sep ([I.cl dS,I.stops s.dc,I.aF s.b G.fi ({s with hi:=dS,aJ:=dU}:cN).cells,bE dU]++[I.lines p k gs])) bD:=by
   rw[e];refine⟨(Df.below eR).laid,(Df.below eR).kept,(Df.below eR).at_,λi hi=>⟨((Df.below eR).own i hi).1,λhm=>((Df.below eR).own i hi).2 ?_⟩⟩;simp only[r7,pU,JO,nx,e7,ns,nt] at hm⊢;omega
  obtain⟨nk,gu,s0⟩:=I.mq.1 Dg.at_;have aws:af w (Z s).F [ar,aQ,cH,eO,fv,i1] (I.sep ([I.lines p k gs]++[I.sep [I.cl dS,I.stops s.dc,I.aF s.b G.fi ({s with hi:=dS,aJ:=dU}:cN).cells,bE dU]])) bD:=by
   have:=Dg.pN (xh);exact this.conv (I.yM.1 this.at_) λi hi=>I.wY.2 hi
  have wu:=QD r (e5 l 0) (c6.aL s.aJ.bu) s.aq (dj s.av);have Hz:gs.length=(uR r (e5 l 0) (c6.aL s.aJ.bu) s.aq (dj s.av)).length:=by rw[<-eu];simp[bJ]
  have Mm:((c6.aL s.aJ.bu).ab.length:Int)=s.an:=ok.aL.r;have aoZ:s.an<=1000:=ok.c1;have hnx:s.hi.r.next<=N:=ok.iL;have aCK:dS.r.next=s.hi.r.next:=by
   have:=dx fp.next e2;rw[aa4] at this;exact this
  refine af.call (o:=Z {s with hi:=dS,aJ:=dU}) [I.lines p k gs] [] aws (cB.all zH) (λa b=>af4 (s:={s with hi:=dS,aJ:=dU}) b a ?_ (I.rK.1 gu) (λi hi bk=>s0 i bk (I.j_.2 hi)) (aet eu λl hl=>(ok.aL.ok l (wu.2 l hl)).2) ?_ hp) λv bP ⟨ah,cg,⟨hb5,Mi⟩,ca,amK⟩ hs=>?_
  ·have:=dx c6.c_ Cm
   rw[VY] at this;have h1:dU.c_=s.aJ.c_:=this;show dU.c_<=1;omega
  ·show dS.r.next+gs.length<=_
   omega
  ·obtain⟨ey,eH⟩:=hs (Z cg) ca amK
   refine⟨dx Ending.returned ah,eH,λw' hb _=>⟨rfl,?_⟩⟩;have eJ:af w (Z s).F [ar,aQ,cH,eO,fv,i1] (Z cg) bP:=ey.conv (o':=Z cg) (ey.at_.1 _ aS) (λi hi=>⟨Z cg,by simp,hi⟩);refine af.bQ (eJ.below hb) ⟨hb5,?_⟩;rw[Mi,eu,Br];congr 1;show bl.mk _ _ dU.bu dS.r.aq _ _ _ _ _ _ _ _ _ _ _ _ _=_;rw[Cm,e2];rfl
end
def yw(l:List Int):List Int:=if l=[] then[0] else l
def agW(p:aT)(q:bl):bl:={q with bV:=p}
def V3(aq:dz)(q:bl):bl:={q with aq:=aq}
def oM(r:Int)(l:List Int)(q:bl):bl:=
 if r=109 then agW (uL q.bV (yw l)) q
 else if r=114 then(if rC q.an (dp l 0 0) (dp l 1 0)=true then q else H3 (V3 (rE q.an (dp l 0 0) (dp l 1 0)) q))
 else if r=103 then(if dp l 0 0=0 then Jk (q.stops.erase q.az.ae) q else if dp l 0 0=3 then Jk [] q else q)
 else if r=115 then qK q.bu.c_ (An q) q else if r=117 then Fb (BS q.bu.c_ q) q else Br r l q
theorem arF{l:List Int}(h:∀n∈l,-1<=n/\n<=9999):∀n∈yw l,-1<=n/\n<=9999:=by
 unfold yw;split
 ·intro n hn
  rw[gg] at hn;omega
 ·exact h
theorem abr{l:List Int}(h:∀n∈l,-1<=n/\n<=9999)(i:Nat)(hi:i<l.length): -1<=l.getD i 0/\l.getD i 0<=9999:=by
 rw[kb,el hi];exact h _ (vM _)
theorem Lq{l:List Int}(h:∀n∈l,-1<=n/\n<=9999)(i:Int):0<=dp l i 0/\dp l i 0<=9999:=by
 unfold dp;split
 ·next e=>exact⟨e.2.2,(abr h _ M).2⟩
 ·omega
theorem ae_{an t b:Int}(h1:1<=an)(ht:0<=t)(hb:0<=b)(h:¬rC an t b=true):0<=(rE an t b).bf/\(rE an t b).bf<=(rE an t b).b7/\(rE an t b).b7<an:=by
 rw[rE,ag h];unfold rC at h;simp only[fR,vK,lM] at h;unfold ET IN at*;dsimp only
 repeat' split at h
 all_goals (repeat' split)<;>omega
theorem V4{N:Nat}{q:bl}{aq:dz}(h:b5 N q)(h1:0<=aq.bf)(h2:aq.bf<=aq.b7)(aw:aq.b7<q.an):b5 N (V3 aq q):={h with iB:=h1,t2:=h2,t3:=aw}
section
variable{w0 w w' w1:World}{F0:Nat->Prop}{bs:List Nat}{o o':I}{bM bq:List I}{R:Ending->World->Prop}{f:FuncId}{args:Array Value}{s s':cN}{g:cV}
theorem at3{aP:ao}{aM ba:Nat}{l:List Int}(hr:eK w aP aM l)(hc:aM<=ba):bI Tryz.prog X.VJ #[.slice aP aM ba] w bg (λv w'=>∃p n c,v= .slice p n c/\n<=c/\eK w' p n (yw l)):=by
 have hlen:=hr.len;refine azs aP aM ba ⟨λe ad ar hl w' hb _=>⟨_,1,1,rfl,cL _,?_⟩,λe w' hb _=>⟨_,_,_,rfl,hc,?_⟩⟩
 ·rw[yw,aA (n2 M)]
  exact Row.below (bF.row (cX.own (s:=1) (n:=1) hl rfl du)) hb
 ·rw[yw,ag (λu=>e (by rw[u] at hlen;simp at hlen;omega))]
  exact hr.below hb
theorem atV{N:Nat}{r:Int}{aP:ao}{aM ba:Nat}{l:List Int}(aj:Laid w)(h:(Z s).P w)(ok:b5 N s.av)(hN:N+1000<=4611686018427387904)(hp:s.dq=0)(hr:eK w aP aM l)(hd:∀a,aP=some a->¬(Z s).F a.block/\a.block<w.heap.size)(hl:∀n∈l,-1<=n/\n<=9999)(kh:aM<=ba)(Ca:aM<=1000):
  bI Tryz.prog X.VC #[s.ptr, .int .i32 r, .slice aP aM ba] w (Z s).F (λv w'=>v= .int .i64 0/\fK Z w s (λs'=>s'.b=s.b/\s'.av=oM r l s.av) w'):=by
 have hY:=aj.size;have hlen:=hr.len;have hu:s.aJ.c_<=1:=ok.u;have hlt:∀i,(Z s).F i->i<w.heap.size:=λi hi=>(Z s).lt h hi
 have aN:=af.start (bs:=[]) aj h aS;have aR:=Lq hl 0;have g1:=Lq hl 1;have Ez:s.dc.ai=s.ai:=ok.jx;have sq:1<=s.dc.ai:=by have h1:1<=s.ai:=ok.bY;omega
 have hrow:∀{V:World},U (Z s).F w V->eK V aP aM l:=λhk=>Row.ax hr hk λa e=>(hd a e).1
 have DL:∀{i:Int} {V V':World} {R:Ending->World->Prop},af w (Z s).F [] (Z s) V->Below V.heap.size V V'->(∀ad,af w (Z s).F [] (Z s) ad->U bg V' ad->R (.returned (.int .i64 (dp l i 0))) ad)->dH Tryz.prog X.uf #[.slice aP aM ba, .int .i64 i, .int .i64 0] V' R:=λa b c=>(a.below b).ret (λ_ _=>Ny (hrow (a.below b).kept)) c
 have gB:∀{bs:List Nat} {V:World},af w (Z s).F bs (Z s) V->w.heap.size<=V.heap.size:=λa=>a.kept.size
 have qF:∀{bs n_:List Nat} {V:World},af w (Z s).F bs (Z s) V->(∀b∈n_,w.heap.size<=b)->af w (Z s).F n_ (Z s) V:=λa hb=>a.Fa hlt hb
 have sg:∀{n:Nat} {V V':World},af w (Z s).F [] (Z s) V->w.heap.size<=n->dV V [n] V'->af w (Z s).F [] (Z s) V':=λ{n V V'} a hn he=>qF ((qF (n_:=[n]) a FX).ext he aS FX hY) aS
 have MN:=aj_ (an:=s.an) (bf:=dp l 0 0) (mb:=dp l 1 0) ok.de ok.c1 M;have jP:∀V,af w (Z s).F [] (Z s) V->(if rC s.an (dp l 0 0) (dp l 1 0)=true then(3:Int) else 0)=(if rC s.an (dp l 0 0) (dp l 1 0)=true then 3 else 0)/\dz.mk (rE s.an (dp l 0 0) (dp l 1 0)).bf (rE s.an (dp l 0 0) (dp l 1 0)).b7=rE s.an (dp l 0 0) (dp l 1 0)/\af w (Z s).F [] (Z s) V:=λV cY=>⟨rfl,rfl,cY⟩
 refine azf _ r aP aM ba ⟨λx=>⟨s.bV,Z.cell aN 7 rfl,λe6 ha=>?_⟩,λh5=>⟨λx=>⟨λtQ nP sF V=>tQ=(if rC s.an (dp l 0 0) (dp l 1 0)=true then 3 else 0)/\dz.mk nP sF=rE s.an (dp l 0 0) (dp l 1 0)/\af w (Z s).F [] (Z s) V,⟨_,Z.cell aN 0 rfl,⟨λe6 ha=>DL aN ha λb4 bZ dv=>⟨_,rfl,dv.O,Z.cell bZ 0 rfl,?_,?_⟩,?_⟩⟩,?_⟩,λh6=>⟨λx e6 ha=>DL aN ha λb4 bZ dv=>⟨_,rfl,dv.O,λe0=>⟨_,Z.cell bZ 29 rfl,_,Z.cell bZ 5 rfl,λwc hc=>Z.WB (bZ.below hc) aS (λa=>aus a sq ok.mV (by rw[Ez];exact ok.mW)) λiC s' e1 e2 dr ee=>⟨_,rfl,ee,λw' hb _=>⟨rfl,af.bQ (dr.below hb) ⟨e1,?_⟩⟩⟩⟩,λe0=>⟨λe3=>⟨_,Z.cell bZ 29 rfl,λwc hc=>Z.WB (bZ.below hc) aS (λa=>auv a sq) λiC s' e1 e2 dr ee=>⟨_,rfl,ee,λw' hb _=>⟨rfl,af.bQ (dr.below hb) ⟨e1,?_⟩⟩⟩⟩,λe3 w' hb _=>⟨rfl,af.bQ (bZ.below hb) ⟨rfl,?_⟩⟩⟩⟩,λoB=>⟨λx e6 ha=>Z.FM (aN.below ha) rfl hu λb4 bZ dv=>⟨_,rfl,dv.O,λwc hc=>(bZ.below hc).ret (λa b=>UT b a ok) λiC dr ee=>⟨An s.av,_,rfl,ee.O,⟨by omega,by show(s.aJ.c_:Int)<2;omega⟩,Z.ch dr XM,λh4 hp w' hb _=>⟨rfl,af.bQ ((Z.UG (k:=s.aJ.c_) dr hu hp aS aS hY).below hb) ⟨UH _ _ _,?_⟩⟩⟩⟩,λux=>⟨λx e6 ha=>Z.FM (aN.below ha) rfl hu λb4 bZ dv=>⟨_,rfl,dv.O,⟨by omega,by show(s.aJ.c_:Int)<2;omega⟩,BS s.aJ.c_ s.av,Z.agH bZ hu,λwc hc=>Z.r9 (bZ.below hc) rfl aS (λa b=>NB b a ok (Lr ok)) λiC s' e1 e2 dr ee=>⟨_,rfl,ee,λw' hb _=>⟨rfl,af.bQ (dr.below hb) ⟨e1,?_⟩⟩⟩⟩,λpT e6 ha=>Z.r9 (aN.below ha) rfl aS (λa b=>atU b a ok hN hp (hrow (aN.below ha).kept) (λaB e=>⟨(hd aB e).1,gp (hd aB e).2 (gB (aN.below ha))⟩) hl) λiC s' e1 e2 dr ee=>⟨_,rfl,ee,λw' hb _=>⟨rfl,af.bQ (dr.below hb) ⟨e1,?_⟩⟩⟩⟩⟩⟩⟩⟩
 ·have yL:=aN.below ha
  refine(at3 (hrow yL.kept) kh).aH λv ad aI ⟨p,n,c,ah,sw,Eu⟩=>?_
  subst ah;have aX:=yL.O aI;have HQ:=Eu.len;have fa:n<=1073741824:=by rw[<-HQ];unfold yw;split;exact(by decide:1<=1073741824);omega
  refine⟨_,_,_,rfl,aI.O,Z.cell aX 7 rfl,λwc hc=>(aX.below hc).ret (λa b=>aum b (Eu.below hc) sw fa ok.bV λi hi=>abr (arF hl) i M) λbD cg k4=>⟨uL s.bV (yw l),_,rfl,k4.O,Z.ch cg M,λbP iJ w' hb _=>⟨rfl,?_⟩⟩⟩;have ey:af w (Z s).F [] (Z {s with bV:=uL s.bV (yw l)}) bP:=Z.put cg iJ JE rfl rfl rfl rfl rfl;refine af.bQ (ey.below hb) ⟨rfl,?_⟩;rw[oM,aA x];rfl
 ·exact λwc hc=>DL bZ hc λiC dr ee=>⟨_,rfl,ee.O,Z.cell dr 0 rfl,λh4 he=>af.pure MN (dr.below he) λwf eQ vi=>⟨_,_,rfl,vi.O,λfv ca yU hg=>jP _ (eQ.below hg)⟩,λeO aZ h4 he hm=>af.pure MN (dr.below he) λwf eQ vi=>⟨_,_,rfl,vi.O,λyU hg=>jP _ (sg eQ (ek (gB dr) aZ) hg)⟩⟩
 ·exact λcH aw wc hc hm=>DL bZ hc λiC dr ee=>⟨_,rfl,ee.O,Z.cell dr 0 rfl,λh4 he hm=>af.pure MN (dr.below he) λwf eQ vi=>⟨_,_,rfl,vi.O,λyU hg=>jP _ (sg eQ (ek (gB bZ) aw) hg)⟩⟩
 ·exact λaQ h2 e6 ha hm=>DL aN ha λb4 bZ dv=>⟨_,rfl,dv.O,Z.cell bZ 0 rfl,λwc hc hm=>DL bZ hc λiC dr ee=>⟨_,rfl,ee.O,Z.cell dr 0 rfl,λh4 he hm=>af.pure MN (dr.below he) λwf eQ vi=>⟨_,_,rfl,vi.O,λyU hg=>jP _ (sg eQ h2 hg)⟩⟩⟩
 ·rintro tQ nP sF ar h1 w1 _ ⟨alq,alw,bX⟩
  subst alq;refine⟨λe w' hb _=>⟨rfl,af.bQ (bX.below hb) ⟨rfl,?_⟩⟩,λe=>?_⟩
  ·have B5:rC s.an (dp l 0 0) (dp l 1 0)=true:=XX λu=>e (ag u)
   rw[oM,ag h5,aA x,aA (show rC s.av.an (dp l 0 0) (dp l 1 0)=true from B5)]
  ·have B5:¬rC s.an (dp l 0 0) (dp l 1 0)=true:=λu=>by rw[aA u] at e;cases e
   have iB:=qF (n_:=[ar]) bX (by simpa using h1);refine⟨Z.ch iB M,λad nM bw bp fN=>?_⟩;have t2:af w (Z s).F [ar] (Z {s with aq:=⟨nP,sF⟩}) ad:=Z.put iB nM OV rfl rfl rfl rfl rfl;obtain⟨b1,b2,b3⟩:=ae_ ok.de aR.1 g1.1 B5;have aaV:dz.mk nP sF=rE s.av.an (dp l 0 0) (dp l 1 0):=alw;rw[<-aaV] at b1 b2 b3;have sM:b5 N ({s with aq:=⟨nP,sF⟩}:cN).av:=V4 ok b1 b2 b3;refine Z.r9 (b:=s.b) (t2.below bp) rfl (cB.all fN) (λa b=>af3 b a sM) λbD s' e1 e2 cg k4=>⟨_,rfl,k4,λw' hb _=>⟨rfl,af.bQ (cg.below hb) ⟨e1,?_⟩⟩⟩
   rw[e2,oM,ag h5,aA x,ag (show ¬rC s.av.an (dp l 0 0) (dp l 1 0)=true from B5)];show H3 (V3 ⟨nP,sF⟩ s.av)=_;rw[aaV]
 ·rw[e2,oM,ag h5,ag h6,aA x,aA e0]
  rfl
 ·rw[e2,oM,ag h5,ag h6,aA x,ag e0,aA e3]
 ·rw[oM,ag h5,ag h6,aA x,ag e0,ag e3]
 ·rw[UI,oM,ag h5,ag h6,ag oB,aA x]
  rfl
 ·rw[e2,oM,ag h5,ag h6,ag oB,ag ux,aA x]
  rfl
 ·rw[e2,oM,ag h5,ag h6,ag oB,ag ux,ag pT]
end
def xH(r pre:Int)(l:List Int)(q:bl):bl:=
 if r=104∨r=108 then t_ pre (decide (r=104)) l q else if pre≠0 then q else if(mH r l q).1=true then(mH r l q).2 else oM r l q
def oO(r pre:Int)(bS:List UInt8)(l:List Int)(q:bl):bl:=
 if bS=[33]/\pre=0/\r=112 then FD q else if bS≠[] then q else xH r pre l q
section
variable{w0 w w' w1:World}{F0:Nat->Prop}{bs:List Nat}{o o':I}{bM bq:List I}{R:Ending->World->Prop}{f:FuncId}{args:Array Value}{s s':cN}{g:cV}
theorem aq'{r:Int}{l:List Int}{q:bl}(h:(mH r l q).1=false):(mH r l q).2=q:=by
 unfold mH at h⊢
 repeat' split at h
 all_goals first|(cases h;done)|skip
 simp[*]
theorem atX{N:Nat}{a:ff}{l:List Int}(aj:Laid w)(h:(Z s).P w)(ok:b5 N s.av)(hN:N+1000<=4611686018427387904)(hp:s.dq=0)(hr:eK w a.fw.p a.fw.n l)(hd:∀aB,a.fw.p=some aB->¬(Z s).F aB.block/\aB.block<w.heap.size)(hl:∀n∈l,-1<=n/\n<=9999)(kh:a.fw.n<=a.fw.c)(Ca:a.fw.n<=1000):
  bI Tryz.prog X.VE #[s.ptr, .agg a.T] w (Z s).F (λv w'=>v= .int .i64 0/\fK Z w s (λs'=>s'.b=s.b/\s'.av=oO a.rune a.pre a.bS l s.av) w'):=by
 have hY:=aj.size;refine azh _ a λar g1=>?_
 have aN:=af.start (bs:=[ar]) aj h Dm;have hrow:∀{V:World},U (Z s).F w V->eK V a.fw.p a.fw.n l:=λhk=>Row.ax hr hk λa e=>(hd a e).1
 have gB:∀{bs:List Nat} {V:World} {s':cN},af w (Z s).F bs (Z s') V->w.heap.size<=V.heap.size:=λa=>a.kept.size
 have nothing:oO a.rune a.pre a.bS l s.av=s.av->Sy.aa w (Z s).F w (λv w'=>v= .int .i64 0/\fK Z w s (λs'=>s'.b=s.b/\s'.av=oO a.rune a.pre a.bS l s.av) w') (.int .i64 0):=λe w' hb _=>⟨rfl,af.bQ (aN.below hb) ⟨rfl,e.symm⟩⟩
 have fq:∀{P:Prop},a.bS=[33]->a.bS=[]->P:=λe f=>by rw[e] at f;cases f
 refine⟨λEC=>⟨λyx=>⟨λx e6 ha hm=>Z.r9 (aN.below ha) rfl (cB.all hm) (λc d=>at7 d c ok) λb4 s' e1 e2 bZ dv=>⟨_,rfl,dv,λw' hb _=>⟨rfl,af.bQ (bZ.below hb) ⟨e1,?_⟩⟩⟩,λy=>⟨λsL=>nothing ?_,λe=>fq EC e⟩⟩,λyx=>⟨λsL=>nothing ?_,λe=>fq EC e⟩⟩,λEC=>⟨λsL=>nothing ?_,λapI=>?_⟩⟩
 ·rw[e2,oO,aA ⟨EC,yx,x⟩]
 ·rw[oO,ag (λu=>y u.2.2),aA sL]
 ·rw[oO,ag (λu=>yx u.2.1),aA sL]
 ·rw[oO,ag (λu=>EC u.1),aA sL]
 ·have ib:oO a.rune a.pre a.bS l s.av=xH a.rune a.pre l s.av:=by rw[oO,ag (λu=>EC u.1),ag (λu=>u apI)]
  have bA:∀{V:World},(a.rune=104∨a.rune=108)->Below w.heap.size w V->cB V w.heap.size [(ar,G.fO)]->dH Tryz.prog X.N0 #[(.pointer (some ⟨s.b,0,none⟩)),(.int .i32 a.pre),(.slice a.fw.p a.fw.n a.fw.c),(.bool (bL.val (.eq a.rune 104)))] V (λe4 jy=>∃i4:Int,(e4=(.returned (.int .i64 i4)))/\((eC w.heap.size (Z s).F [ar] V jy)/\Sy.aa w (Z s).F jy (λv w'=>v= .int .i64 0/\fK Z w s (λs'=>s'.b=s.b/\s'.av=oO a.rune a.pre a.bS l s.av) w') (.int .i64 i4))):=by
   intro V hx ha hm;have yL:=aN.below ha;rw[cb];refine Z.r9 yL rfl (cB.all hm) (λc d=>at1 d c ok (hrow yL.kept) (λaB e=>(hd aB e).1) Ca) λb4 s' e1 e2 bZ dv=>⟨_,rfl,dv,λw' hb _=>⟨rfl,af.bQ (bZ.below hb) ⟨e1,?_⟩⟩⟩
   rw[e2,ib,xH,aA hx]
  refine⟨λx e6 ha hm=>bA (.inl x) ha hm,λh5=>⟨λx e6 ha hm=>bA (.inr x) ha hm,λh6=>⟨λx=>nothing ?_,λyx e6 ha hm=>?_⟩⟩⟩
  ·rw[ib,xH,ag M,aA x]
  ·have yL:=aN.below ha
   refine af.Bq (mI:=Z) (fC:=λv=>v= .tuple #[.bool (mH a.rune l s.av).1, .int .i64 0]) yL (cB.all hm) (λc d=>at2 d c ok (hrow yL.kept) (λaB e=>(hd aB e).1) hl) λv b4 s' ah ⟨e1,e2⟩ bZ dv=>?_
   subst ah;refine⟨_,_,rfl,dv,λfb w' hb _=>⟨rfl,af.bQ (bZ.below hb) ⟨e1,?_⟩⟩,λfb=>⟨λe=>absurd rfl e,λ_ wc hc hm=>?_⟩⟩
   ·rw[e2,ib,xH,ag M,ag M,aA fb]
   ·rw[aq' fb] at e2
    have wU:=bZ.below hc;have bc:∀aB,a.fw.p=some aB->¬(Z s').F aB.block/\aB.block<wc.heap.size:=λaB e=>⟨λbk=>(wU.own _ bk).1.elim (hd aB e).1 λu=>by have:=(hd aB e).2;omega,gp (hd aB e).2 (gB wU)⟩
    have sx:s'.dq=0:=(show s'.av.dq=s.av.dq by rw[e2]).trans hp;refine Z.zh (kd:=λb=>#[.pointer (some ⟨b,0,none⟩), .int .i32 a.rune, .slice a.fw.p a.fw.n a.fw.c]) wU e1 (cB.all hm) (λc d=>atV d c (by rw[e2];exact ok) hN sx (hrow wU.kept) bc hl kh Ca) λiC b8 f1 f2 dr ee=>⟨_,rfl,ee,λw' hb _=>⟨rfl,af.bQ (dr.below hb) ⟨f1,?_⟩⟩⟩
    rw[f2,e2,ib,xH,ag M,ag M,ag (by rw[fb];decide)]
end
abbrev gN:=List UInt8->tj×Int
def xv(bK:gN):Prop:=∀t:List UInt8,t.length<=1024->Pure X.WO #[.string ⟨t.toArray⟩] (.tuple #[.agg (bK t).1.T, .int .i64 (bK t).2])
def avR(t:List UInt8)(q:bl):bl:={q with jU:=t}
def agS(t:List UInt8)(q:bl):bl:={q with vm:=t}
def r_(bK:gN)(t:List UInt8)(q:bl):bl:=
 if(bK t).2≠0 then q else if(bK t).1.kind=1 then avR (bK t).1.cE q else if(bK t).1.kind=2 then agS (bK t).1.cE q else if(bK t).1.kind=3 then agS [] q else q
def xz(bK:gN)(x:fH)(q:bl):bl:=
 if x.kind=1 then vu x.rune q else if x.kind=2 then qe x.rune q else if x.kind=3 then nI x.rune x.bS q else if x.kind=4 then oO x.rune x.pre x.bS x.params q else r_ bK x.cE q
def k9(bK:gN)(x:fH)(q:bl):bl:=xz bK x (uK (tl x (gZ q) q.az q.bA) q)
theorem Qa{N:Nat}{q:bl}{t:List UInt8}(h:b5 N q):b5 N (uK t q):=by
 unfold uK;split
 ·next e=>exact{h with sZ:=by show(q.iM++t).length<=4096;rw[gh];exact e}
 ·exact h
theorem Zo{q:bl}{t:List UInt8}:(uK t q).dq=q.dq:=by unfold uK;split<;>rfl
theorem Mx{n:Int}(aW: -9223372036854775808<=n)(h1:n<=9223372036854775807):(Lib.itoa n).length<=21:=Lib.itoa_length_le n aW h1
theorem ajm{x:fH}{a:dy}{c:Cu}{m:Md}(ha:a.ok)(hc:c.ok a)(hx:A4 x):(tl x a c m).length<=100000:=by
 have h1:=ha.de;have h2:=ha.c1;have aw:=ha.bY;have aZ:=ha.c2;have ca:=ha.t;have dM:=ha.ur;have fM:=ha.b;have a8:=hc.de;have aK:=hc.c1;have k3:=hc.bY;have k4:=hc.c2;have hg:=abv hx.fw 0 0 M;have hm:=abu m x.pre (max 0 (dp x.params 0 0));have attr:∀p,(tu p).1.length<=20:=λp=>by unfold tu;(repeat' split)<;>simp
 have cO:(Dd (max 0 (dp x.params 0 0)) a c).length<=100:=by
  unfold Dd;split
  ·decide
  ·have e1:=Mx (n:=max 1 ((if a.fy=true then c.row-a.aq.bf else c.row)+1)) O1 O1
   have e2:=Mx (n:=c.ae+1) M M;simp only[gh,ko,List.length_nil];omega
 have aq5:(CG m x.pre (max 0 (dp x.params 0 0))).length<=100:=by
  have e1:=Mx (n:=max 0 (dp x.params 0 0)) M M;have e2:=Mx (n:=zp m x.pre (max 0 (dp x.params 0 0))) M M;unfold CG;have e3:(if x.pre=63 then[63] else[]:List UInt8).length<=1:=by split<;>decide
  simp only[gh,ko,List.length_nil];omega
 have dd:=attr 0;have a2:=attr x.pre;unfold tl
 repeat' split
 all_goals first|omega|(simp;done)
section
variable{w0 w w' w1:World}{F0:Nat->Prop}{bs:List Nat}{o o':I}{bM bq:List I}{R:Ending->World->Prop}{f:FuncId}{args:Array Value}{s s':cN}{g:cV}
theorem atW{bK:gN}{t:List UInt8}(ez:xv bK)(aj:Laid w)(h:(Z s).P w)(ht:t.length<=1024):bI Tryz.prog X.VD #[s.ptr, .string ⟨t.toArray⟩] w (Z s).F (λv w'=>v= .tuple #[]/\fK Z w s (λs'=>s'.b=s.b/\s'.av=r_ bK t s.av) w'):=by
 have aN:=af.start (bs:=[]) aj h aS;refine azg _ t λw1 hb1=>af.pure (ez t ht) (aN.below hb1) λad aX aK=>⟨(bK t).1,(bK t).2,rfl,aK.O,λar h1=>?_⟩
 have t2:=aX.cZ h1;refine⟨λe w' hb _=>⟨rfl,af.bQ (aX.below hb) ⟨rfl,?_⟩⟩,λe=>⟨λx=>⟨Z.ch t2 M,λcW hp w' hb _=>⟨rfl,af.bQ (af.below (Z.put (s':={s with jU:=(bK t).1.cE}) t2 hp (by show 69+1<=73;omega) rfl rfl rfl rfl rfl) hb) ⟨rfl,?_⟩⟩⟩,λh5=>⟨λx=>⟨Z.ch t2 M,λcW hp w' hb _=>⟨rfl,af.bQ (af.below (Z.put (s':={s with vm:=(bK t).1.cE}) t2 hp OW rfl rfl rfl rfl rfl) hb) ⟨rfl,?_⟩⟩⟩,λh6=>⟨λx=>⟨Z.ch t2 M,λcW hp w' hb _=>⟨rfl,af.bQ (af.below (Z.put (s':={s with vm:=[]}) t2 hp OW rfl rfl rfl rfl rfl) hb) ⟨rfl,?_⟩⟩⟩,λoB w' hb _=>⟨rfl,af.bQ (aX.below hb) ⟨rfl,?_⟩⟩⟩⟩⟩⟩
 ·rw[r_,aA e]
 ·rw[r_,ag M,aA x]
  rfl
 ·rw[r_,ag M,ag h5,aA x]
  rfl
 ·rw[r_,ag M,ag h5,ag h6,aA x]
  rfl
 ·rw[r_,ag M,ag h5,ag h6,ag oB]
theorem atQ{N:Nat}{bK:gN}{x:my}(ez:xv bK)(aj:Laid w)(h:(Z s).P w)(ok:b5 N s.av)(hN:N+1000<=4611686018427387904)(hp:s.dq=0)(hx:A4 x.q)(H7: -1000<=x.q.rune/\x.q.rune<=1114111)(hr:eK w x.aB x.q.params.length x.q.params)(hd:∀aB,x.aB=some aB->¬(Z s).F aB.block/\aB.block<w.heap.size)(kh:x.q.params.length<=x.c):
  bI Tryz.prog X.Vz #[s.ptr, .agg x.ac.T] w (Z s).F (λv w'=>v= .int .i64 0/\fK Z w s (λs'=>s'.b=s.b/\s'.av=k9 bK x.q s.av) w'):=by
 have hY:=aj.size;have hrow:∀{V:World},U (Z s).F w V->eK V x.aB x.q.params.length x.q.params:=λhk=>Row.ax hr hk λa e=>(hd a e).1
 have gB:∀{bs:List Nat} {V:World} {s':cN},af w (Z s).F bs (Z s') V->w.heap.size<=V.heap.size:=λa=>a.kept.size
 have a8:=hx.a8;have aK:=hx.aK;refine ay' _ x.ac λar g1=>⟨λe=>absurd (show x.q.kind<1 from e) M,λ_=>⟨λe=>absurd (show 5<x.q.kind from e) M,λ_=>?_⟩⟩
 have aN:=af.start (bs:=[ar]) aj h Dm;refine⟨s.az,Z.cell aN 4 rfl,s.bA,Z.cell aN 18 rfl,λe6 ha hm=>Z.tq (aN.below ha) rfl λb4 bZ dv=>⟨gZ s.av,rfl,dv.O,Z.cell bZ 18 rfl,Z.cell bZ 4 rfl,λwc hc hm=>(bZ.below hc).ret (λc d=>atA d hx (hrow (bZ.below hc).kept) ok.p7 ok.az ok.bA) λiC dr ee=>⟨_,_,rfl,ee.O,λe=>absurd rfl e,λ_ h4 he hm=>?_⟩⟩⟩;refine Z.r9 (dr.below he) rfl (cB.all hm) (λc d=>atS d c (ajm ok.p7 ok.az hx) ok.sZ) λwf s' e1 e2 eQ vi=>⟨rfl,vi,?_⟩
 have M9:b5 N s'.av:=by rw[e2];exact Qa ok
 have sx:s'.dq=0:=by
  have:s'.av.dq=s.av.dq:=by rw[e2,Zo]
  exact this.trans hp
 have call:∀{f:FuncId} {kd:Nat->Array Value} {V:World} {q:bl},(∀{V:World},(Z s').P V->Laid V->U (Z s).F w V->af w (Z s).F [ar] (Z s') V->bI Tryz.prog f (kd s'.b) V (Z s').F (λv ad=>v= .int .i64 0/\fK Z V s' (λb8=>b8.b=s'.b/\b8.av=q) ad))->q=k9 bK x.q s.av->Below wf.heap.size wf V->cB V w.heap.size [(ar,G.fO)]->dH Tryz.prog f (kd s.b) V (λe1 ad=>∃eA:Int,e1= .returned (.int .i64 eA)/\(eC w.heap.size (Z s).F [ar] V ad/\Sy.aa w (Z s).F ad (λv w'=>v= .int .i64 0/\fK Z w s (λs'=>s'.b=s.b/\s'.av=k9 bK x.q s.av) w') (.int .i64 eA))):=by
  intro f kd V q hc hq hb hm;refine Z.zh (kd:=kd) (q:=q) (eQ.below hb) e1 (cB.all hm) (λc d=>hc c d (eQ.below hb).kept (eQ.below hb)) λad b8 f1 f2 aX aK=>⟨_,rfl,aK,λw' hb _=>⟨rfl,af.bQ (aX.below hb) ⟨f1,f2.trans hq⟩⟩⟩
 refine⟨λy yU hg hm=>call (kd:=λb=>#[.pointer (some ⟨b,0,none⟩), .int .i32 x.q.rune]) (λc d _ _=>at4 d c M9 hN sx H7.1 H7.2) ?_ hg hm,λxc=>⟨λy yU hg hm=>call (kd:=λb=>#[.pointer (some ⟨b,0,none⟩), .int .i32 x.q.rune]) (λc d _ _=>at0 d c M9 hN sx ⟨H7.1,by omega⟩) ?_ hg hm,λz2=>⟨λy yU hg hm=>call (kd:=λb=>#[.pointer (some ⟨b,0,none⟩), .agg x.ac.T]) (λc d _ _=>atZ (a:=x.ac) d c M9 hN sx) ?_ hg hm,λz3=>⟨λy yU hg hm=>call (kd:=λb=>#[.pointer (some ⟨b,0,none⟩), .agg x.ac.T]) (λc d hk ho=>atX (a:=x.ac) d c M9 hN sx (hrow hk) (λaB e=>⟨λbk=>(ho.own _ bk).1.elim (hd aB e).1 λu=>by have:=(hd aB e).2;omega,gp (hd aB e).2 (gB ho)⟩) hx.fw kh (by have:=hx.iX;show x.q.params.length<=1000;omega)) ?_ hg hm,λz4 yU hg hm=>?_⟩⟩⟩⟩
 ·rw[e2,k9,xz,aA (show x.q.kind=1 from y)]
  rfl
 ·rw[e2,k9,xz,ag xc,aA (show x.q.kind=2 from y)]
  rfl
 ·rw[e2,k9,xz,ag xc,ag z2,aA (show x.q.kind=3 from y)]
  rfl
 ·rw[e2,k9,xz,ag xc,ag z2,ag z3,aA (show x.q.kind=4 from y)]
  rfl
 ·refine Z.zh (kd:=λb=>#[.pointer (some ⟨b,0,none⟩), .string ⟨x.q.cE.toArray⟩]) (eQ.below hg) e1 (cB.all hm) (λc d=>atW ez d c hx.f') λad b8 f1 f2 aX aK=>⟨rfl,aK,λw' hb _=>⟨rfl,af.bQ (aX.below hb) ⟨f1,?_⟩⟩⟩
  rw[f2,e2,k9,xz,ag xc,ag z2,ag z3,ag z4];rfl
def BA(bK:gN)(x:fH)(q:bl):bl:={k9 bK x q with dq:=0}
theorem atK{N:Nat}{bK:gN}{x:my}(ez:xv bK)(aj:Laid w)(h:(Z s).P w)(ok:b5 N s.av)(hN:N+1000<=4611686018427387904)(hp:s.dq=0)(hx:A4 x.q)(H7: -1000<=x.q.rune/\x.q.rune<=1114111)(hr:eK w x.aB x.q.params.length x.q.params)(hd:∀aB,x.aB=some aB->¬(Z s).F aB.block/\aB.block<w.heap.size)(kh:x.q.params.length<=x.c):
  bI Tryz.prog X.NW #[s.ptr, .agg x.ac.T] w (Z s).F (λv w'=>v= .tuple #[.int .i64 (k9 bK x.q s.av).dq, .int .i64 0]/\fK Z w s (λs'=>s'.b=s.b/\s'.av=BA bK x.q s.av) w'):=by
 have hrow:∀{V:World},U (Z s).F w V->eK V x.aB x.q.params.length x.q.params:=λhk=>Row.ax hr hk λa e=>(hd a e).1
 refine ay3 _ x.ac λar g1 e6 ha hm=>?_
 have aN:=af.start (bs:=[ar]) aj h Dm;refine(aN.below ha).ret (λc d=>yC d c) λb4 bZ dv=>⟨_,rfl,dv.O,λe=>(nomatch e),λ_ wc hc hm=>?_⟩
 have wU:=bZ.below hc;refine Z.r9 wU rfl (cB.all hm) (λc d=>atQ ez d c ok hN hp hx H7 (hrow wU.kept) (λaB e=>⟨(hd aB e).1,gp (hd aB e).2 wU.kept.size⟩) kh) λiC s' e1 e2 dr ee=>⟨_,rfl,ee,s'.dq,Z.q9 dr e1 72 rfl,Z.tx dr e1 M,λh4 H5 w' hb _=>⟨?_,?_⟩⟩
 ·have:s'.dq=(k9 bK x.q s.av).dq:=by rw[<-e2];rfl
  rw[this]
 ·have VV:af w (Z s).F [ar] (Z {s' with dq:=0}) h4:=Z.put dr (by rw[e1];exact H5) (by show 72+1<=73;omega) rfl rfl rfl rfl rfl
  refine af.bQ (VV.below hb) ⟨e1,?_⟩;show{s'.av with dq:=0}=_;rw[e2];rfl
end
section
variable{w0 w w' w1:World}{F0:Nat->Prop}{bs:List Nat}{o o':I}{bM bq:List I}{R:Ending->World->Prop}{f:FuncId}{args:Array Value}{s s':cN}{g:cV}
theorem atI(aj:Laid w)(h:(Z s).P w):di X.Vs #[s.ptr] w (.int .i64 s.ai):=by
 have aN:=af.start (bs:=[]) aj h aS;exact ay1 _ λw1 hb1=>(aN.below hb1).ret (λc d=>yC d c) λad aX aK=>⟨_,rfl,aK.O,λe=>(nomatch e),λ_=>⟨_,Z.cell aX 1 rfl,aa.of λ_=>rfl⟩⟩
theorem atP(aj:Laid w)(h:(Z s).P w):di X.Vy #[s.ptr] w (.string ⟨s.jU.toArray⟩):=by
 have aN:=af.start (bs:=[]) aj h aS;exact ay_ _ λw1 hb1=>(aN.below hb1).ret (λc d=>yC d c) λad aX aK=>⟨_,rfl,aK.O,λe=>(nomatch e),λ_=>⟨_,Z.cell aX 69 rfl,aa.of λ_=>rfl⟩⟩
theorem atJ(aj:Laid w)(h:(Z s).P w):di X.Vt #[s.ptr] w (.agg s.az.T):=by
 refine ay2 _ λar g1 w1 hb1 fb=>?_
 have aN:=af.start (bs:=[ar]) aj h Dm;exact(aN.below hb1).ret (λc d=>yC d c) λad aX aK=>⟨_,rfl,aK.O,λe=>(nomatch e),λ_=>⟨s.az,Z.cell aX 4 rfl,bn.of λ_=>rfl⟩⟩
theorem af2(aj:Laid w)(h:(Z s).P w):di X.NY #[s.ptr] w (.agg s.bA.T):=by
 refine ay6 _ λar g1 w1 hb1 fb=>?_
 have aN:=af.start (bs:=[ar]) aj h Dm;exact(aN.below hb1).ret (λc d=>yC d c) λad aX aK=>⟨_,rfl,aK.O,λe=>(nomatch e),λ_=>⟨s.bA,Z.cell aX 18 rfl,bn.of λ_=>rfl⟩⟩
theorem atN(aj:Laid w)(h:(Z s).P w):di X.Vw #[s.ptr] w (.agg s.bV.T):=by
 refine ay8 _ λar g1 w1 hb1 fb=>?_
 have aN:=af.start (bs:=[ar]) aj h Dm;exact(aN.below hb1).ret (λc d=>yC d c) λad aX aK=>⟨_,rfl,aK.O,λe=>(nomatch e),λ_=>⟨s.bV,Z.cell aX 7 rfl,bn.of λ_=>rfl⟩⟩
theorem af1(aj:Laid w)(h:(Z s).P w):bI Tryz.prog X.NX #[s.ptr] w bg (λv w'=>∃h':lx,v=h'.ptr/\PM w s.hi.r.aq h' w'):=by
 have aN:=af.start (bs:=[]) aj h aS;refine ay4 _ λw1 hb1=>(aN.below hb1).ret (λc d=>yC d c) λad aX aK=>⟨_,rfl,aK.O,λe=>(nomatch e),λ_=>⟨_,Z.cell aX 3 rfl,λbw bp=>?_⟩⟩
 have eb:=aX.below bp;refine(afM eb.laid (Z.cl eb)).aH λv bD k4 ⟨h',ah,q1,q2,cz⟩=>?_
 subst ah;have hz:w.heap.size<=bw.heap.size:=eb.kept.size;exact⟨_,rfl,k4.O,λw' hb _=>⟨h',rfl,q1,q2.below hb,λi hi=>ek hz (cz i hi)⟩⟩
theorem atL{N:Nat}(aj:Laid w)(h:(Z s).P w)(ok:b5 N s.av):bI Tryz.prog X.Vu #[s.ptr] w bg (PO w (c6.aL s.av.bu).ab):=by
 have aN:=af.start (bs:=[]) aj h aS;refine ay5 _ λw1 hb1=>(aN.below hb1).ret (λc d=>yC d c) λad aX aK=>⟨_,rfl,aK.O,λe=>(nomatch e),λ_=>⟨_,Z.cell aX 2 rfl,λbw bp=>?_⟩⟩
 have eb:=aX.below bp;refine(asw eb.laid (Z.pair eb) ok.u).aH λv bD k4 ⟨aU,ah,q1,q2,cz⟩=>?_
 subst ah;have hz:w.heap.size<=bw.heap.size:=eb.kept.size;refine⟨_,rfl,k4.O,λbP hb5=>(afI (Laid.below hb5 (Laid.O k4 eb.laid)) (q2.below hb5)).aH λv cu fj ⟨p,c,xs,ah,e1,e2,e3⟩=>?_⟩;subst ah;have adB:bw.heap.size<=bP.heap.size:=ek k4.size (U.au hb5).size;refine⟨_,_,_,rfl,fj.O,λw' hb _=>⟨p,c,xs,?_,?_,?_,λi hi=>ek hz (ek adB (e3 i hi))⟩⟩
 ·rw[show aU.aC.ab=(c6.aL s.av.bu).ab by rw[q1];rfl]
 ·rw[e1,q1]
  rfl
 ·rw[show(c6.aL s.av.bu).ab=aU.aC.ab by rw[q1];rfl]
  exact e2.O (U.au hb)
end
theorem Qq{a b:List bC}{j:Nat}(h:j<a.length):cP (a++b) j=cP a j:=by
 simp only[cP,kb];rw[nr h]
theorem ZU{a b:List bC}{j:Nat}(h:a.length<=j):cP (a++b) j=cP b (j-a.length):=by
 simp only[cP,kb];rw[mu h]
theorem y'{a b:List bC}(ha:jB a)(hb:jB b):jB (a++b):=by
 intro j hj;rw[gh] at hj⊢
 by_cases h:j<a.length
 ·rw[Qq h]
  obtain⟨h1,h2,aw,aZ⟩:=ha j h;rw[Qq (show j-1<a.length by omega)];exact⟨h1,h2,aw,λe=>by have:=aZ e;omega⟩
 ·rw[ZU M]
  obtain⟨h1,h2,aw,aZ⟩:=hb (j-a.length) M
  by_cases aW:j=a.length
  ·by_cases hz:a.length=0
   ·have hn:a=[]:=n2 hz
    subst hn;simp only[List.length_nil,F8,pW,iR] at*;exact⟨h1,h2,aw,aZ⟩
   ·rw[Qq (show j-1<a.length by omega)]
    have hq:(cP a (j-1)).w≠2:=λe=>by have:=(ha (j-1) M).2.2.2 e;omega
    refine⟨h1,⟨λe=>?_,λe=>absurd e.2 hq⟩,λ_ e=>absurd e hq,λe=>by have:=aZ e;omega⟩;have:=(h2.1 e).1;omega
  ·rw[ZU (show a.length<=j-1 by omega),show j-1-a.length=j-a.length-1 by omega]
   refine⟨h1,⟨λe=>⟨by omega,(h2.1 e).2⟩,λe=>h2.2 ⟨by omega,e.2⟩⟩,λ_ e=>aw M e,λe=>by have:=aZ e;omega⟩
theorem ZW{l:List bC}{k j:Nat}(h:j<k):cP (l.take k) j=cP l j:=by
 simp only[cP,kb];rw[XQ h]
theorem Qr{l:List bC}{k j:Nat}:cP (l.drop k) j=cP l (k+j):=by
 simp only[cP,kb];rw[s9]
theorem Jo{l:List bC}{k:Nat}(h:jB l)(hn:oG l k):jB (l.take k):=by
 intro j hj;rw[kC] at hj⊢;obtain⟨h1,h2,aw,aZ⟩:=h j M;rw[ZW M,ZW M];refine⟨h1,h2,aw,λe=>?_⟩;have:=aZ e
 by_cases q:j+1=k
 ·exact absurd e (by have:=hn M M;rw[show k-1=j by omega] at this;exact this)
 ·omega
theorem K_{l:List bC}{k:Nat}(h:jB l)(hn:oG l k):jB (l.drop k):=by
 intro j hj;rw[mv] at hj⊢;obtain⟨h1,h2,aw,aZ⟩:=h (k+j) M;rw[Qr,Qr]
 by_cases aW:j=0
 ·subst aW
  refine⟨h1,⟨λe=>?_,λe=>by omega⟩,λe=>by omega,λe=>by have:=aZ e;omega⟩;have:=h2.1 e;exact absurd this.2 (hn M M)
 ·rw[show k+j-1=k+(j-1) by omega] at h2 aw
  exact⟨h1,⟨λe=>⟨by omega,(h2.1 e).2⟩,λe=>h2.2 ⟨by omega,e.2⟩⟩,λ_ e=>aw M e,λe=>by have:=aZ e;omega⟩
theorem arf{l:List bC}{k j:Nat}(h:oG l (k+j))(hj:1<=j):oG (l.drop k) j:=by
 intro h1 h2;rw[mv] at h2;rw[Qr,show k+(j-1)=k+j-1 by omega];exact h M M
theorem arU{l:List bC}{k m:Nat}(h:jB l)(h1:oG l k)(h2:oG l (k+m)):jB ((l.drop k).take m):=by
 by_cases hm:m=0
 ·subst hm
  intro j hj;simp at hj
 ·exact Jo (K_ h h1) (arf h2 M)
theorem avV{l:List bC}{k:Nat}{c:bC}(h:k<l.length):l.set k c=l.take k++([c]++l.drop (k+1)):=by
 rw[O5,aA h];rfl
theorem avW{l:List bC}{k:Nat}{c d:bC}(h:k+1<l.length):(l.set k c).set (k+1) d=l.take k++([c,d]++l.drop (k+2)):=by
 apply s8;intro j;have hl:(l.take k).length=k:=by simp;omega
 rw[F9,F9]
 by_cases h1:j<k
 ·rw[ag M,ag M,nr M,XQ h1]
 ·rw[mu M,hl]
  by_cases h2:j=k
  ·subst h2
   rw[ag M,aA rfl,aA M,AZ];rfl
  ·by_cases aw:j=k+1
   ·subst aw
    rw[aA rfl,aA ej,show k+1-k=1 by omega];rfl
   ·rw[ag M,ag M,mu ej,s9]
    congr 1;simp;omega
theorem aAS{p:aT}(h:h0 p=true):ea (C8 p)=true:=by
 unfold ea C8;simp[h]
theorem arD{c:bC}(h:ea c=true)(hw:c.w=1):jB [c]:=by
 intro j hj;have:j=0:=by simp at hj;exact hj
 subst this;exact⟨h,⟨λe=>absurd (show c.w=0 from e) M,λe=>absurd e.1 M⟩,λe=>absurd e M,λe=>absurd (show c.w=2 from e) M⟩
theorem awE{c:bC}(h:ea c=true)(hw:c.w=2):jB [c,C8 c.p]:=by
 intro j hj;have:j=0∨j=1:=by simp at hj;omega
 rcases this with rfl|rfl
 ·exact⟨h,⟨λe=>absurd (show c.w=0 from e) M,λe=>absurd e.1 M⟩,λe=>absurd e M,λe=>(by show 0+1<2;omega)⟩
 ·exact⟨aAS (Uo h),⟨λ_=>⟨by omega,hw⟩,λ_=>rfl⟩,λ_ _=>rfl,λe=>by cases e⟩
theorem asb{cs:List bC}{ae:Int}{c:bC}(h:jB cs)(hc:ea c=true)(aW:c.w≠0)(h1:0<=ae)(h2:ae+c.w<=cs.length):jB (E2 cs ae c)/\(E2 cs ae c).length=cs.length:=by
 have hw:c.w=1∨c.w=2:=by have:=ahG hc;omega
 have hl:(fo (fo cs ae) (ae+c.w)).length=cs.length:=by rw[pQ,pQ]
 have hk:jB (fo (fo cs ae) (ae+c.w)):=Av (Av h _) _;have ar:oG (fo (fo cs ae) (ae+c.w)) ae.toNat:=Oi (Au M);have aQ:oG (fo (fo cs ae) (ae+c.w)) (ae+c.w).toNat:=Au M;unfold E2;rcases hw with e|e
 ·rw[ag M,uB]
  refine⟨?_,hl⟩;rw[avV M];rw[show(ae+c.w).toNat=ae.toNat+1 by omega] at aQ;exact y' (Jo hk ar) (y' (arD hc e) (K_ hk aQ))
 ·rw[aA e,uB,uB]
  refine⟨?_,hl⟩;rw[show(ae+1).toNat=ae.toNat+1 by omega,avW M];rw[show(ae+c.w).toNat=ae.toNat+2 by omega] at aQ;exact y' (Jo hk ar) (y' (awE hc e) (K_ hk aQ))
theorem afx{r:cc}{row ae:Int}{c:bC}{an ai:Int}(h:fS r an ai)(h2:ai<=1000):fS (nj r row ae c) an ai:=by
 unfold nj;split
 ·next e=>
  unfold o7 at e;split at e
  ·next q=>exact absurd e q
  ·next q=>
   split at e
   ·cases e
   ·next q2=>
    have dB:nE r row ae=0:=by omega
    have ri:0<=ae:=by
     unfold nE at dB;split at dB
     ·cases dB
     ·next u=>exact Int.not_lt.1 λv=>u ⟨dB, .inl v⟩
    refine Q_ h h2 λhk hr hl=>?_
    have ah:ea c=true:=by
     cases apu:ea c
     ·exact absurd (.inl apu) q2
     ·rfl
    obtain⟨a,b⟩:=asb (c:=c) hr ah (λu=>q2 (.inr (.inl u))) ri (by have:=λu=>q2 (.inr (.inr u));omega);exact⟨by rw[b,hl],a⟩
 ·exact h
theorem apO{l:List bC}{k m c:Nat}{q:aT}(h:k+m+c=l.length):lq (vn l (k+m) k c) k m q=l.take k++(List.replicate m (ed q)++(l.drop k).take c):=by
 unfold lq vn;have e1:((l.take (k+m)++(l.drop k).take c)++l.drop (k+m+c)).take k=l.take k:=by
  rw[ju,X5 ej,List.take_take,AY M]
 have e2:((l.take (k+m)++(l.drop k).take c)++l.drop (k+m+c)).drop (k+m)=(l.drop k).take c:=by
  have:(l.take (k+m)).length=k+m:=by simp;omega
  rw[ju,XR M,rU M,pW,rU (show l.length<=k+m+c by omega),nx]
 rw[e1,e2,ju]
theorem alg{l:List bC}{k m c:Nat}{q:aT}(h:k+m+c=l.length):lq (vn l k (k+m) c) (k+c) m q=l.take k++(l.drop (k+m)++List.replicate m (ed q)):=by
 unfold lq vn;have oU:(l.take k).length=k:=by simp;omega
 have e0:(l.drop (k+m)).take c=l.drop (k+m):=jh ej;rw[e0];have oV:(l.take k++l.drop (k+m)).length=k+c:=by simp;omega
 have e1:((l.take k++l.drop (k+m))++l.drop (k+c)).take (k+c)=l.take k++l.drop (k+m):=by
  rw[X5 M,jh M]
 have e2:((l.take k++l.drop (k+m))++l.drop (k+c)).drop (k+c+m)=[]:=rU ej;rw[e1,e2,nx,ju]
theorem av2{cs:List bC}{ai ae n:Int}{q:aT}(h:jB cs)(hq:h0 q=true)(hc:ai=cs.length)(aW:0<=ae)(h1:ae<ai)(hn:n≠0):jB (Da cs ai ae n q)/\(Da cs ai ae n q).length=cs.length:=by
 unfold Da;have aaL:∀m:Int,0<m->m<=ai-ae->jB (lq (vn (fo (fo cs ae) (ae+m)) ae.toNat (ae+m).toNat (min ((cs.length:Int)-(ae+m)).toNat ((cs.length:Int)-ae).toNat)) (ai-m).toNat ((cs.length:Int)-(ai-m)).toNat q)/\(lq (vn (fo (fo cs ae) (ae+m)) ae.toNat (ae+m).toNat (min ((cs.length:Int)-(ae+m)).toNat ((cs.length:Int)-ae).toNat)) (ai-m).toNat ((cs.length:Int)-(ai-m)).toNat q).length=cs.length:=by
  intro m hZ fE;have hl:(fo (fo cs ae) (ae+m)).length=cs.length:=by rw[pQ,pQ]
  have hk:jB (fo (fo cs ae) (ae+m)):=Av (Av h _) _;have ar:oG (fo (fo cs ae) (ae+m)) ae.toNat:=Oi (Au M);have aQ:oG (fo (fo cs ae) (ae+m)) (ae.toNat+m.toNat):=Au M;rw[show min ((cs.length:Int)-(ae+m)).toNat ((cs.length:Int)-ae).toNat=cs.length-(ae.toNat+m.toNat) by omega,show(ae+m).toNat=ae.toNat+m.toNat by omega,show(ai-m).toNat=ae.toNat+(cs.length-(ae.toNat+m.toNat)) by omega,show((cs.length:Int)-(ai-m)).toNat=m.toNat by omega,alg M];refine⟨y' (Jo hk ar) (y' (K_ hk aQ) (KA hq)),?_⟩;simp only[gh,kC,mv,n3];omega
 split
 ·have hl:(fo (fo cs ae) (ai-min n (ai-ae))).length=cs.length:=by rw[pQ,pQ]
  have hk:jB (fo (fo cs ae) (ai-min n (ai-ae))):=Av (Av h _) _;have ar:oG (fo (fo cs ae) (ai-min n (ai-ae))) ae.toNat:=Oi (Au M);have aQ:oG (fo (fo cs ae) (ai-min n (ai-ae))) (ae.toNat+(cs.length-(ae.toNat+(min n (ai-ae)).toNat))):=Au M;rw[show min ((ai-min n (ai-ae))-ae).toNat ((cs.length:Int)-(ae+min n (ai-ae))).toNat=cs.length-(ae.toNat+(min n (ai-ae)).toNat) by omega,show(ae+min n (ai-ae)).toNat=ae.toNat+(min n (ai-ae)).toNat by omega,show(ae+min n (ai-ae)-ae).toNat=(min n (ai-ae)).toNat by omega,apO M];refine⟨y' (Jo hk ar) (y' (KA hq) (arU hk ar aQ)),?_⟩;simp only[gh,kC,mv,n3];omega
 ·split
  ·exact aaL (0-n) M M
  ·exact aaL (ai-ae) M M
theorem Wj{r:cc}{row ae n:Int}{q:aT}{an ai:Int}(h:fS r an ai)(hq:h0 q=true)(h2:ai<=1000):fS (mP r row ae n q) an ai:=by
 unfold mP;split
 ·next e=>
  obtain⟨e,hn⟩:=e;unfold pP at e;split at e
  ·next q=>exact absurd e q
  ·next cz=>
   have dB:nE r row ae=0:=by omega
   have ri:0<=ae/\ae<r.ai:=by
    unfold nE at dB;split at dB
    ·cases dB
    ·next u=>exact⟨Int.not_lt.1 λv=>u ⟨dB, .inl v⟩,Int.not_le.1 λv=>u ⟨dB, .inr v⟩⟩
   refine Q_ h h2 λhk hr hl=>?_
   obtain⟨a,b⟩:=av2 (ai:=r.ai) (ae:=ae) (n:=n) hr hq M ri.1 ri.2 hn;exact⟨by rw[b,hl],a⟩
 ·exact h
theorem KQ{r:cc}{row cQ w6:Int}{q:aT}{an ai:Int}(h:fS r an ai)(hq:h0 q=true)(h2:ai<=1000):fS (p_ r row cQ w6 q) an ai:=by
 unfold p_;split
 ·exact N7 (QR h hq h2)
 ·exact QR h hq h2
theorem Vq{r:cc}{c:Cu}{what:Int}{q:aT}{an ai:Int}(h:fS r an ai)(hq:h0 q=true)(h2:ai<=1000):∀k,fS (nU r c what q k) an ai
 |0=>h
 |k+1=>by
  rw[nU];split
  ·exact KQ (Vq h hq h2 k) hq h2
  ·exact Vq h hq h2 k
theorem alK{r what:Int}{g:cc}{c:Cu}{q:aT}{an ai:Int}(h:fS g an ai)(hq:h0 q=true)(h2:ai<=1000):fS (u0 r what g c q) an ai:=by
 unfold u0
 repeat' split
 ·exact KQ h hq h2
 ·exact Vq (KQ h hq h2) hq h2 _
 ·exact h
 ·exact h
theorem akv{r n what:Int}{g:cc}{c:Cu}{aq:dz}{q:aT}{an ai:Int}(h:fS g an ai)(hq:h0 q=true)(h2:ai<=1000):fS (la r n what g c aq q) an ai:=by
 unfold la
 repeat' split
 ·exact Wj h hq h2
 ·exact h
 ·exact N7 (Wj h hq h2)
 ·exact Fg h hq h2
 ·exact h
 ·exact Fg h hq h2
 ·exact h
 ·exact KQ h hq h2
 ·exact Fg h hq h2
 ·exact Fg h hq h2
 ·exact alK h hq h2
theorem aq1{r:cc}{c:Cu}{aV:Int}{an ai:Int}(h:fS r an ai)(h2:ai<=1000):fS (CF r c aV) an ai:=by
 unfold CF;split
 ·exact afx h h2
 ·exact h
theorem ar6{r:cc}{c:Cu}{aV:Int}{p:aT}{jL:Bool}{an ai:Int}(h:fS r an ai)(hp:h0 p=true)(h2:ai<=1000):fS (Ac r c aV p jL) an ai:=by
 unfold Ac;refine afx ?_ h2;split
 ·exact Wj h hp h2
 ·exact h
theorem b5.cZ{N bj:Nat}{q:bl}(h:b5 N q)(hm:N<=bj):b5 bj q:={h with iL:=ek h.iL hm}
theorem aq2{N:Nat}{q:bl}{aV:Int}(h:b5 N q):b5 N (T5 aV q):=by
 have hg:=aq1 (c:=q.az) (aV:=aV) h.aL h.c2;refine Fx h hg ?_;have:=h.Bw;exact⟨h.mX,by rw[hg.r];exact h.mY,h.mV,by rw[hg.c];exact h.mW,λe=>by rw[hg.c];exact h.d' e⟩
theorem ar5{r:cc}{aV:Int}{p:aT}(h:1<=fx aV)(h1:1<=r.ai):1<=(kV r aV p).w/\(kV r aV p).w<=r.ai:=by
 unfold kV;split
 ·exact⟨n4 1,by show(1:Int)<=r.ai;omega⟩
 ·exact⟨h,by dsimp only;omega⟩
theorem asa{N:Nat}{q:bl}{aV:Int}(h:b5 N q)(hw:1<=fx aV):b5 N (Ns aV q):=by
 have hg:=ar6 (c:=q.az) (aV:=aV) (jL:=q.bA.jL) h.aL h.bV h.c2;have hc:=h.aL.c;have sq:=h.bY;obtain⟨hE,iQ⟩:=ar5 (r:=c6.aL q.bu) (p:=q.bV) hw M;have a8:=h.mV;have aK:=h.mW;refine Fx h hg ?_;unfold vt CY;split
 ·exact⟨h.mX,by rw[hg.r];exact h.mY,by dsimp only;omega,by rw[hg.c];dsimp only;omega,λe=>by cases e⟩
 ·exact⟨h.mX,by rw[hg.r];exact h.mY,by dsimp only;omega,by rw[hg.c];dsimp only;omega,λe=>by rw[hg.c];dsimp only;omega⟩
theorem ar7{N:Nat}{q:bl}{r:Int}(h:b5 N q):b5 (N+1000) (vu r q):=by
 unfold vu;split
 ·exact h.cZ M
 ·split
  ·exact(aq2 h).cZ M
  ·next e1 e2=>
   refine asa ?_ M;split
   ·exact Xn h
   ·exact h.cZ M
theorem WA{N:Nat}{q:bl}{n:Int}(h:b5 N q):b5 N (Dh n q):=by
 have sq:=h.bY;refine yN h ⟨h.mX,h.mY,?_,?_,λe=>by cases e⟩
 ·show 0<=max 0 (min _ (q.ai-1))
  omega
 ·show max 0 (min _ (q.ai-1))<q.ai
  omega
theorem av0{N:Nat}{q:bl}{g:Int}(h:b5 N q)(hg:g=0∨g=1):b5 N (ag6 g q):=by
 have:=h.cs;unfold o3 at this;simp only[fR] at this;refine{h with cs:=?_};show o3 ⟨q.cs.aR,q.cs.g1,g⟩=true;unfold o3;simp only[fR,vK,lM];exact⟨this.1,hg⟩
theorem alU{N:Nat}{q:bl}{r:Int}(h:b5 N q):b5 (N+1000) (qe r q):=by
 have a8:=h.mV;have aK:=h.mW;unfold qe
 repeat' split
 ·exact(yN (c:=⟨q.az.row,q.az.ae-min 1 q.az.ae,false⟩) h ⟨h.mX,h.mY,by dsimp only;omega,by show q.az.ae-min 1 q.az.ae<q.ai;omega,λe=>by cases e⟩).cZ M
 ·exact(WA h).cZ M
 ·exact ye h
 ·exact(yN h (JW h)).cZ M
 ·next e=>exact(av0 h M).cZ M
 ·exact h.cZ M
theorem V7{N:Nat}{q:bl}{k:Nat}{x:eL}(h:b5 N q)(hx:mK x=true):b5 N (qK k x q):=by
 unfold qK;split
 ·exact{h with bX:=hx}
 ·exact{h with aN:=hx}
theorem agZ{k:Nat}{x:eL}{q:bl}:(qK k x q).an=q.an/\(qK k x q).ai=q.ai:=by unfold qK;split<;>exact⟨rfl,rfl⟩
theorem Um:o3 lL=true:=by decide
theorem IT:h0 jg=true:=by decide
theorem av9{m:Md}(h:kT m=true):kT (uo m)=true:=h
theorem av_{N:Nat}{q:bl}(h:b5 N q):b5 N (FD q):=by
 have h1:=h.de;have h2:b5 N {q with bA:=uo q.bA,bV:=jg,cs:=lL}:={h with bA:=av9 h.bA,bV:=IT,cs:=Um};have aw:=V7 (k:=q.bu.c_) h2 CQ;have e:=agZ (k:=q.bu.c_) (x:=h7) (q:={q with bA:=uo q.bA,bV:=jg,cs:=lL});exact V4 (aq:=⟨0,q.an-1⟩) aw (n4 0) (by dsimp only;omega) (by rw[e.1];dsimp only;omega)
theorem agM{N:Nat}{q:bl}{g k:Int}(h:b5 N q)(hk:uc k=true):b5 N (agL g k q):=by
 have:=h.cs;unfold o3 at this;simp only[fR] at this;refine{h with cs:=?_};show o3 (if g=0 then⟨k,q.cs.g1,q.cs.gO⟩ else⟨q.cs.aR,k,q.cs.gO⟩)=true;split
 ·show(uc k&&uc q.cs.g1&&_)=true
  rw[hk,this.1.2];exact this.2
 ·show(uc q.cs.aR&&uc k&&_)=true
  rw[hk,this.1.1];exact this.2
theorem auV{N:Nat}{q:bl}(h:b5 N q):b5 N (agi q):=by
 have hg:fS (Ah (c6.aL q.bu) q.aq q.az (dj q)) q.an q.ai:=by
  unfold Ah;split
  ·exact Fg h.aL (CP h.bV) h.c2
  ·exact h.aL
 have a8:=h.mX;have aK:=h.mY;refine Fx h hg ?_;unfold yE;split
 ·exact⟨h.mX,by rw[hg.r];exact h.mY,h.mV,by rw[hg.c];exact h.mW,λe=>by cases e⟩
 ·exact⟨by dsimp only;omega,by rw[hg.r];dsimp only;omega,h.mV,by rw[hg.c];exact h.mW,λe=>by cases e⟩
theorem akx{N:Nat}{q:bl}{r:Int}{l:List Int}(h:b5 N q):b5 (N+1000) (Br r l q):=by
 have hg:=akv (r:=r) (n:=e5 l 0) (what:=dp l 0 0) (c:=q.az) (aq:=q.aq) (q:=dj q) h.aL (CP h.bV) h.c2;have wu:=QD r (e5 l 0) (c6.aL q.bu) q.aq (dj q);have hr:=h.aL.r;have j4:=h.c1;have h2:b5 N {q with ah:=na r (dp l 0 0) q.ah}:={h with iL:=by show(na _ _ _).next<=N;rw[aa4];exact h.iL};have aw:b5 N {q with bu:=iO q.bu (la r (e5 l 0) (dp l 0 0) (c6.aL q.bu) q.az q.aq (dj q)),ah:=na r (dp l 0 0) q.ah}:=Fx (q:={q with ah:=na r (dp l 0 0) q.ah}) (az:=q.az) h2 hg ⟨h.mX,by rw[hg.r];exact h.mY,h.mV,by rw[hg.c];exact h.mW,λe=>by rw[hg.c];exact h.d' e⟩;exact(aeb aw).cZ M
theorem QT{i:Int}:ub ⟨1,i,0,0,0⟩=true:=by unfold ub;simp
theorem akP{r g b:Int}:ub ⟨2,0,r,g,b⟩=true:=by unfold ub;simp
theorem al1{g:List Int}:ub (rh g).1=true:=by
 unfold rh
 repeat' split
 ·rfl
 ·rfl
 ·exact QT
 ·exact akP
theorem aao{c:jO}{g:List Int}{b:Int}(h:ub c=true):ub (Bu c g b)=true:=by
 unfold Bu
 repeat' split
 ·exact QT
 ·exact QT
 ·rfl
 ·exact al1
 ·exact h
 ·exact h
theorem arC{p:aT}{g:List Int}(h:h0 p=true):h0 (CR p g)=true:=by
 unfold CR;split
 ·exact IT
 ·unfold h0 at h⊢
  rw[fR] at h⊢;exact⟨aao h.1,aao h.2⟩
theorem Zp:∀(k:Nat) {p:aT} {l:List Int},h0 p=true->h0 (vX k p l)=true
 |0,p,l,h=>h
 |k+1,p,l,h=>by
  rw[vX];split
  ·exact h
  ·exact Zp k (arC h)
theorem avQ{N:Nat}{q:bl}{p:aT}(h:b5 N q)(hp:h0 p=true):b5 N (agW p q):={h with bV:=hp}
theorem V6{N:Nat}{q:bl}{l:List Int}(h:b5 N q):b5 N (Jk l q):={h with}
theorem akA{N:Nat}{q:bl}{r:Int}{l:List Int}(h:b5 N q)(hl:∀n∈l,-1<=n/\n<=9999):b5 (N+1000) (oM r l q):=by
 unfold oM
 repeat' split
 ·exact(avQ h (Zp _ h.bV)).cZ M
 ·exact h.cZ M
 ·next e=>
  obtain⟨a,b,c⟩:=ae_ h.de (Lq hl 0).1 (Lq hl 1).1 e;exact(acW (V4 h a b c)).cZ M
 ·exact(V6 h).cZ M
 ·exact(V6 h).cZ M
 ·exact h.cZ M
 ·exact(V7 h h.Ja).cZ M
 ·exact(U_ h (Lr h)).cZ M
 ·exact akx h
theorem ara{N:Nat}{q:bl}{r:Int}{l:List Int}(h:b5 N q)(hl:∀n∈l,-1<=n/\n<=9999):b5 N (mH r l q).2:=by
 unfold mH
 repeat' split
 ·exact yN h (amr h.p7 h.az hl)
 ·exact WA h
 ·exact WA h
 ·exact h
theorem ak3{N:Nat}{q:bl}{r pre:Int}{i:List UInt8}{l:List Int}(h:b5 N q)(hl:∀n∈l,-1<=n/\n<=9999):b5 (N+1000) (oO r pre i l q):=by
 unfold oO xH
 repeat' split
 ·exact(av_ h).cZ M
 ·exact h.cZ M
 ·exact(aeN h).cZ M
 ·exact h.cZ M
 ·exact(ara h hl).cZ M
 ·exact akA h hl
theorem akL{N:Nat}{q:bl}{bK:gN}{t:List UInt8}(h:b5 N q):b5 N (r_ bK t q):=by
 unfold r_
 repeat' split
 ·exact h
 ·exact{h with}
 ·exact{h with}
 ·exact{h with}
 ·exact h
theorem aeX{an ai:Nat}(h:ai<=1000):fS (IG an ai) an ai:=by
 refine⟨rfl,by show((List.replicate an _).length:Int)=an;rw[n3],λl hl=>?_⟩;rw[JV hl];refine⟨n3,?_⟩;rw[CO];exact⟨by show(List.replicate ai _).length<=1000;rw[n3];exact h,KA IT⟩
theorem auS{N:Nat}{q:bl}(h:b5 N q):b5 N (U9 q):=by
 have h1:=h.de;have h2:=h.c1;have aw:=h.bY;have aZ:=h.c2;have hg:=aeX (an:=q.an.toNat) (ai:=q.ai.toNat) M;rw[show((q.an.toNat:Nat):Int)=q.an by omega,show((q.ai.toNat:Nat):Int)=q.ai by omega] at hg;exact{h with aR:=hg,g1:=hg,u:=ef _,k:=λs e=>mR,mX:=n4 0,mY:=by show(0:Int)<q.an;omega,mV:=n4 0,mW:=by show(0:Int)<q.ai;omega,d':=λe=>mR,bV:=IT,bA:=(show kT nR=true by decide),iB:=n4 0,t2:=by show(0:Int)<=q.an-1;omega,t3:=by show q.an-1<q.an;omega,cs:=Um,aN:=CQ,bX:=CQ}
theorem arq{N:Nat}{q:bl}(h:b5 N q):b5 N (M1 (M0 q)):={h with iL:=h.iL}
theorem alP{N:Nat}{q:bl}{r:Int}{i:List UInt8}(h:b5 N q):b5 (N+1000) (nI r i q):=by
 unfold nI sf
 repeat' split
 ·next e _=>exact(agM h (Rq e).1).cZ M
 ·next e _=>exact(agM h (Rq e).1).cZ M
 all_goals first
  |exact h.cZ M
  |exact(V7 h h.Ja).cZ M
  |exact(U_ h (Lr h)).cZ M
  |exact ye h
  |exact yN (ye h) (JW (ye h))
  |exact(V6 h).cZ M
  |exact(auV h).cZ M
  |exact(auS (arq h)).cZ M
theorem aje{N:Nat}{q:bl}{bK:gN}{x:fH}(h:b5 N q)(hx:A4 x):b5 (N+1000) (k9 bK x q):=by
 have ha:=Qa (t:=tl x (gZ q) q.az q.bA) h;unfold k9 xz
 repeat' split
 ·exact ar7 ha
 ·exact alU ha
 ·exact alP ha
 ·exact ak3 ha hx.fw
 ·exact(akL ha).cZ M
theorem aaP{N:Nat}{q:bl}{bK:gN}{x:fH}(h:b5 N q)(hx:A4 x):b5 (N+1000) (BA bK x q):={aje (bK:=bK) h hx with}
def p1(q:bl):Prop:=0<=q.dq/\q.dq<=1000
theorem p1.of{q:bl}(h:q.dq=0):p1 q:=⟨by omega,by omega⟩
theorem TE{N:Nat}{q:bl}(h:b5 N q)(hp:q.dq=0):p1 (kS q):=by
 have wu:=TB (c6.aL q.bu) q.aq q.az (dj q);have h1:=h.aL.r;have h2:=h.c1;have hk:=@aec {q with az:=kR (c6.aL q.bu) q.aq q.az,bu:=iO q.bu (sG (c6.aL q.bu) q.aq q.az (dj q))} (sH (c6.aL q.bu) q.aq q.az (dj q));unfold kS p1;have e:({q with az:=kR (c6.aL q.bu) q.aq q.az,bu:=iO q.bu (sG (c6.aL q.bu) q.aq q.az (dj q))}:bl).dq=q.dq:=rfl;rw[e] at hk;omega
theorem aky{N:Nat}{q:bl}{r:Int}{l:List Int}(h:b5 N q)(hp:q.dq=0):p1 (Br r l q):=by
 have wu:=QD r (e5 l 0) (c6.aL q.bu) q.aq (dj q);have h1:=h.aL.r;have h2:=h.c1;have hk:=@aec {q with bu:=iO q.bu (la r (e5 l 0) (dp l 0 0) (c6.aL q.bu) q.az q.aq (dj q)),ah:=na r (dp l 0 0) q.ah} (uR r (e5 l 0) (c6.aL q.bu) q.aq (dj q));unfold Br p1;have e:({q with bu:=iO q.bu (la r (e5 l 0) (dp l 0 0) (c6.aL q.bu) q.az q.aq (dj q)),ah:=na r (dp l 0 0) q.ah}:bl).dq=q.dq:=rfl;rw[e] at hk;omega
theorem V8{k:Nat}{x:eL}{q:bl}:(qK k x q).dq=q.dq:=by unfold qK;split<;>rfl
theorem aBg{dT:Int}{q:bl}:(k5 dT q).dq=q.dq:=by
 unfold k5
 repeat' (first|rfl|split)
theorem aBi{N:Nat}{q:bl}(h:b5 N q)(hp:q.dq=0):p1 (nY q):=by
 have:=TE (FE (row:=q.az.row) (b:=true) h) hp;unfold p1 at this⊢;rw[show(nY q).dq=(kS (pa q.az.row true q)).dq from aBg];exact this
theorem ar8{N:Nat}{q:bl}{r:Int}(h:b5 N q)(hp:q.dq=0):p1 (vu r q):=by
 unfold vu;split
 ·exact .of hp
 ·split
  ·exact .of hp
  ·show p1 (if _ then nY q else q)
   split
   ·exact aBi h hp
   ·exact .of hp
theorem alV{N:Nat}{q:bl}{r:Int}(h:b5 N q)(hp:q.dq=0):p1 (qe r q):=by
 unfold qe
 repeat' split
 ·exact .of hp
 ·exact .of hp
 ·exact TE h hp
 ·exact .of hp
 ·exact .of hp
 ·exact .of hp
theorem alQ{N:Nat}{q:bl}{r:Int}{i:List UInt8}(h:b5 N q)(hp:q.dq=0):p1 (nI r i q):=by
 unfold nI sf
 repeat' split
 all_goals first|exact TE h hp|exact .of hp|exact .of (V8.trans hp)
theorem awo{n:Int}{on:Bool}{q:bl}:(rM n on q).dq=q.dq:=by
 unfold rM
 repeat' split
 all_goals rfl
theorem aq7{pre:Int}{on:Bool}{l:List Int}:∀{q:bl},(t_ pre on l q).dq=q.dq:=by
 induction l with
 |nil=>exact rfl
 |cons n l ih=>
  intro q;show(t_ pre on l (pJ pre n on q)).dq=_;rw[ih];unfold pJ
  repeat' split
  all_goals first|rfl|exact awo
theorem av'{q:bl}:(FD q).dq=q.dq:=by
 show(qK _ _ _).dq=_;rw[V8]
theorem akB{N:Nat}{q:bl}{r:Int}{l:List Int}(h:b5 N q)(hp:q.dq=0):p1 (oM r l q):=by
 unfold oM
 repeat' split
 all_goals first|exact aky h hp|exact .of hp|exact .of (V8.trans hp)
theorem ak4{N:Nat}{q:bl}{r pre:Int}{i:List UInt8}{l:List Int}(h:b5 N q)(hp:q.dq=0):p1 (oO r pre i l q):=by
 unfold oO xH
 repeat' split
 ·exact .of (av'.trans hp)
 ·exact .of hp
 ·exact .of (aq7.trans hp)
 ·exact .of hp
 ·refine .of (Eq.trans ?_ hp)
  unfold mH
  repeat' split
  all_goals rfl
 ·exact akB h hp
theorem akM{q:bl}{bK:gN}{t:List UInt8}:(r_ bK t q).dq=q.dq:=by
 unfold r_
 repeat' split
 all_goals rfl
theorem ajf{N:Nat}{q:bl}{bK:gN}{x:fH}(h:b5 N q)(hp:q.dq=0):p1 (k9 bK x q):=by
 have ha:=Qa (t:=tl x (gZ q) q.az q.bA) h;have hb:(uK (tl x (gZ q) q.az q.bA) q).dq=0:=Zo.trans hp;unfold k9 xz
 repeat' split
 ·exact ar8 ha hb
 ·exact alV ha hb
 ·exact alQ ha hb
 ·exact ak4 ha hb
 ·exact .of (akM.trans hb)
structure pq(q:da):Prop where
 i:kF q
 b:pg q.q
 t:q.cE.length<=1024
structure Gd(x:fH):Prop where
 ok:A4 x
 de: -1000<=x.rune
 c1:x.rune<=1114111
def td(p:da×List fH):Prop:=pq p.1/\∀x∈p.2,Gd x
theorem td.none{q:da}(h:pq q):td (q,[]):=⟨h,λx hx=>by cases hx⟩
theorem td.cw{q:da}{x:fH}(h:pq q)(hx:Gd x):td (q,[x]):=⟨h,λy hy=>by rw[gg] at hy;rw[hy];exact hx⟩
theorem wi(cO:Int)(q:da):pq (kK cO q):=⟨DV cO q,Pf,ef _⟩
theorem P3{k r:Int}(h1:1<=k)(h2:k<=5)(aw: -1000<=r)(aZ:r<=1114111):Gd (y8 k r):=⟨⟨h1,h2,ef _,λn hn=>(by cases hn),ef _,ef _⟩,aw,aZ⟩
theorem GD(l:List Int):(oL l).length=l.length:=by simp[oL]
theorem aff{q:da}(h:pq q):Gd ⟨5,0,0,[],[],oL q.cE⟩:=⟨⟨by show(1:Int)<=5;decide,by show(5:Int)<=5;decide,ef _,λn hn=>(by cases hn),ef _,by rw[GD];exact h.t⟩,by show(-1000:Int)<=0;decide,by show(0:Int)<=1114111;decide⟩
theorem aaq{r:Int}{q:da}(h:pq q)(h1:32<=r)(h2:r<=47):pq (pt r q):=by
 have hi:=QU h.i h1 h2;unfold pt at hi⊢;split
 ·next e=>rw[aA e] at hi;exact⟨hi,h.b,h.t⟩
 ·exact h
theorem awl{r:Int}{q:da}(h:pq q):td (mQ r q):=by
 have hi:=ahh (r:=r) h.i;unfold mQ at hi⊢;split
 ·exact .cw (wi _ _) (aff h)
 ·split
  ·exact .none h
  ·split
   ·next e1 e2 e=>rw[ag e1,ag e2,aA e] at hi;exact .none ⟨hi,h.b,by show(q.cE++gS r).length<=1024;rw[gh];exact e⟩
   ·exact .none h
theorem alM{r:Int}{q:da}(h:pq q):td (kr r q):=by
 unfold kr;split
 ·next e=>exact .none (aaq (q:=⟨q.d,2,q.pre,q.bS,q.q,q.cE⟩) ⟨⟨h.i.f',h.i.int⟩,h.b,h.t⟩ e.1 e.2)
 ·split
  ·exact .none (wi _ _)
  ·next e=>
   repeat' (first|exact .none (wi _ _)|split)
   exact .cw (wi _ _) ⟨⟨by show(1:Int)<=3;omega,by show(3:Int)<=5;omega,h.i.int,λn hn=>(by cases hn),ef _,ef _⟩,by show-1000<=r;omega,by show r<=1114111;omega⟩
theorem aqH{q:gD}(h:pg q):(∀n∈rv q,-1<=n/\n<=9999)/\(rv q).length<=16:=by
 refine⟨λn hn=>h.val n (kA hn),?_⟩;unfold rv;rw[kC,h.len];omega
theorem ak0{r:Int}{q:da}(h:pq q):td (jn r q):=by
 unfold jn;split
 ·exact .none (wi _ _)
 ·next e=>
  split
  ·split
   ·exact .none (wi _ _)
   ·obtain⟨a,b⟩:=aqH h.b
    exact .cw (wi _ _) ⟨⟨by show(1:Int)<=4;omega,by show(4:Int)<=5;omega,h.i.int,a,b,ef _⟩,by show-1000<=r;omega,by show r<=1114111;omega⟩
  ·split
   ·exact .none h
   ·split
    ·exact .none (aaq (q:=⟨q.d,5,q.pre,q.bS,q.q,q.cE⟩) ⟨⟨h.i.f',h.i.int⟩,h.b,h.t⟩ M cx)
    ·split
     ·exact .none ⟨⟨h.i.f',h.i.int⟩,h.b,h.t⟩
     ·unfold uU
      split
      ·split<;>exact .none ⟨⟨h.i.f',h.i.int⟩,ajh h.b,h.t⟩
      ·exact .none ⟨⟨h.i.f',h.i.int⟩,h.b,h.t⟩
theorem arz{r:Int}(h:¬wN r=false):0<=r/\r<=1114111:=by
 have h':wN r=true:=by cases e:wN r;exact absurd e h;rfl
 unfold wN at h';simp only[fR,lM] at h';exact h'.1
theorem T4{r:Int}{q:da}(h:pq q):td (fh r q):=by
 unfold fh;split
 ·split
  ·exact .cw (wi _ _) (aff h)
  ·exact .none (wi _ _)
 ·split
  ·exact .cw (wi _ _) (P3 du du M M)
  ·split
   ·exact awl h
   ·split
    ·exact .none h
    ·split
     ·exact .none h
     ·split
      ·exact .cw h (P3 du du M M)
      ·unfold uq
       split
       ·exact alM h
       ·split
        ·exact ak0 h
        ·unfold uY
         split
         ·exact .none h
         ·next e=>
          have:=arz λu=>e (.inr u)
          exact .cw h (P3 du du M M)
theorem awf{r:Int}{q:da}(h:pq q):td (l6 r q):=by
 unfold l6;split
 ·have h1:=T4 (r:=27) h
  have h2:=T4 (r:=r-64) h1.1;exact⟨h2.1,λx hx=>(gi.1 hx).elim (h1.2 x) (h2.2 x)⟩
 ·exact T4 h
theorem ah3:∀(rs:List Int) (a:da×List fH),td a->td (rs.foldl nZ a)
 |[],a,h=>h
 |r::rs,a,h=>by
  have h1:=awf (r:=r) h.1;exact ah3 rs _ ⟨h1.1,λx hx=>(gi.1 hx).elim (h.2 x) (h1.2 x)⟩
theorem ah6{q:da}(h:pq q)(bs:List Int):td (gC bs q):=ah3 _ _ (.none ⟨⟨h.i.f',h.i.int⟩,h.b,h.t⟩)
variable{w0:World}{F:Nat->Prop}{Q:Value->World->Prop}
theorem aAp(c:fJ)(h:aG w0 λa=>a7 w0 F [a] w0 [(a,G.im)] X.FJ #[D c.an,D 1,D 1000] D λe f=>a7 w0 F [a] e [(a,G.im)] X.FJ #[D c.ai,D 1,D 1000] D λj k=>a7 w0 F [a] j [(a,G.im)] X.FJ #[D c.cl,D 0,D 1048576] D λn o=>∀p:World,dV n [a] p->cB p w0.heap.size [(a,G.im)]->ia X.Vv #[.agg #[D f,D k,D o]] p λq r=>∃s:ao,∃t,bW q (.tuple #[.pointer s,D t]) w0 F [a] p r (cC w0 r [(a,G.im)] X.W6 #[D f] λu v x=>∃y:ao,∃z,bW v (.tuple #[.pointer y,D z]) w0 F [a] u x ((t≠0->aa w0 F x Q lk)/\(t=0->(z≠0->aa w0 F x Q lk)/\(z=0->aG x λA=>aG x λB=>bm x λC=>U F w0 C->w0.heap.size<=a/\Whole C a G.im [D f,D k,D o]->w0.heap.size<=A/\Whole C A G.CT [.slice none 0 0,D 0, .int .u8 0, .int .u8 0,D 0, .int .i32 0, .string ⟨[].toArray⟩,D 0,D 0,D 0,D 0,D 0,D 0,D 0,D 0,D 0,D 0,D 0,D 0,D 0,D 0,D 0,D 0,D 0, .bool false, .slice none 0 0]->w0.heap.size<=B/\Whole C B G.k1 [ij A, .pointer s, .pointer y]->Q (ij B) C))))):aO X.WL #[.agg c.T] w0 F Q:=bh [.agg (fJ.bN.enc c)] h
theorem aAu(t:Addr)(h:∃a:ao,At w0 t 1 [.pointer a]/\aa w0 F w0 Q (.bool (bL.val (.i_ (a=none))))):aO X.Jp #[al t] w0 F Q:=bh [.aY t 0] h
theorem aAs(t:Addr)(cm:ao)(nb db:Nat)(h:b9 w0 F [] w0 X.Jp #[al t] .bool λc d=>dQ d (aa w0 F c Q (.tuple #[D 0,D 1])) (∃e:ao,At c t 0 [.pointer e]/\dt c X.Uv #[.pointer e, .slice cm nb db] λf g i=>∃j:ao,∃k l:Nat,bW g (.slice j k l) w0 F [] f i (∃m:Int->Int->World->Prop,∃n:Int->Int->Nat,(bm i λo=>m 0 0 o)/\∀o p:Int,∀q:World,U F w0 q->m o p q->bG p k (∃r:Addr,j=(some r)/\hG p k/\∃s:ff,At q r ((Int.toNat p)*6) s.T.toList/\aG q λu=>∃v:ao,At q t 1 [.pointer v]/\cC w0 q [(u,G.fO)] X.NW #[.pointer v, .agg s.T] λx y z=>∃A B:Int,bW y (.tuple #[D A,D B]) w0 F [u] x z ((B≠0->aa w0 F z Q (.tuple #[D o,D B]))/\(B=0->ay (o+A)/\a7 w0 F [u] z [(u,G.fO)] X.WM #[al t,D A] D λE bT=>(bT≠0->aa w0 F E Q (.tuple #[D (o+A),D bT]))/\(bT=0->ay (p+1)/\bm E λak=>m (o+A) (p+1) ak/\n (o+A) (p+1)<n o p)))) (aa w0 F q Q (.tuple #[D o,D 0]))))):aO X.Ox #[al t, .slice cm nb db] w0 F Q:=eV [⟨5,[6,21],[]⟩] [] [.aY t 0, .cJ cm nb db] h
theorem aAt(t:Addr)(k:Int)(h:∃a:ao,At w0 t 2 [.pointer a]/\b9 w0 F [] w0 X.OF #[.pointer a] D λd e=>a' e 0 (aa w0 F d Q (D 0)) (∃f:ao,At d t 1 [.pointer f]/\b9 w0 F [] d X.NY #[.pointer f] OE λj l=>(l.gP≠0->∃m:ao,At j t 2 [.pointer m]/\dt j X.W4 #[.pointer m] λn o p=>fW w0 F Q o [] n p)/\(l.gP=0->∃m:ao,At j t 2 [.pointer m]/\∃n:ao,At j t 1 [.pointer n]/\b9 w0 F [] j X.NX #[.pointer n] .pointer λq r=>At q t 2 [.pointer m]/\dt q X.W7 #[.pointer m,D k, .pointer r] λs u v=>fW w0 F Q u [] s v))):aO X.WM #[al t,D k] w0 F Q:=bh [.aY t 0,cn k] h
theorem aAr(t:Addr)(h:aG w0 λa=>a7 w0 F [a] w0 [(a,G.jX)] X.Jp #[al t] .bool λd e=>dQ e (bn w0 F d [a] Q (.agg #[.slice none 0 0,D 0,D 0,D 0,D 0,D 0,D 0, .bool false, .bool false, .bool false, .bool false, .bool false, .bool false, .bool false, .bool false,D 0,D 0,D 0, .int .u8 0, .int .u8 0, .int .u8 0, .int .u8 0,D 0, .int .u8 0, .int .u8 0, .int .u8 0, .int .u8 0, .int .u8 0, .string ⟨[].toArray⟩])) (∃f:ao,At d t 1 [.pointer f]/\a7 w0 F [a] d [(a,G.jX)] X.NX #[.pointer f] .pointer λj k=>∃l:ao,At j t 2 [.pointer l]/\∃m:ao,At j t 1 [.pointer m]/\cC w0 j [(a,G.jX)] X.Vu #[.pointer m] λn o p=>∃q:ao,∃r s:Nat,bW o (.slice q r s) w0 F [a] n p (At p t 2 [.pointer l]/\cC w0 p [(a,G.jX)] X.W5 #[.pointer l, .pointer k, .slice q r s] λu v x=>∃y:ao,∃z A:Nat,∃B C:Int,bW v (.tuple #[.slice y z A,D B,D C]) w0 F [a] u x (∃aD:ao,At x t 1 [.pointer aD]/\∃E:ao,At x t 2 [.pointer E]/\∃bT:ao,At x t 1 [.pointer bT]/\∃ak:ao,At x t 1 [.pointer ak]/\∃bo:ao,At x t 1 [.pointer bo]/\∃J:ao,At x t 1 [.pointer J]/\a7 w0 F [a] x [(a,G.jX)] X.Vs #[.pointer aD] D λbj N=>At bj t 1 [.pointer J]/\At bj t 1 [.pointer bo]/\At bj t 1 [.pointer ak]/\At bj t 1 [.pointer bT]/\At bj t 2 [.pointer E]/\a7 w0 F [a] bj [(a,G.jX)] X.OF #[.pointer E] D λR S=>At R t 1 [.pointer J]/\At R t 1 [.pointer bo]/\At R t 1 [.pointer ak]/\At R t 1 [.pointer bT]/\a7 w0 F [a] R [(a,G.jX)] X.HC #[.pointer k] D λW Y=>At W t 1 [.pointer J]/\At W t 1 [.pointer bo]/\At W t 1 [.pointer ak]/\At W t 1 [.pointer bT]/\a7 w0 F [a] W [(a,G.jX)] X.Vt #[.pointer bT] awK λfq ac=>At fq t 1 [.pointer J]/\At fq t 1 [.pointer bo]/\At fq t 1 [.pointer ak]/\a7 w0 F [a] fq [(a,G.jX)] X.NY #[.pointer ak] OE λkq jY=>At kq t 1 [.pointer J]/\At kq t 1 [.pointer bo]/\a7 w0 F [a] kq [(a,G.jX)] X.Vw #[.pointer bo] w8 λuJ q3=>At uJ t 1 [.pointer J]/\a7 w0 F [a] uJ [(a,G.jX)] X.Vy #[.pointer J] (λtn:List UInt8=> .string ⟨tn.toArray⟩) λy_ tn=>bn w0 F y_ [a] Q (.agg #[.slice y z A,D N,D B,D S,D Y,D ac.row,D ac.ae, .bool ac.dC, .bool jY.jR, .bool jY.fy, .bool jY.jL, .bool jY.qN, .bool jY.gF, .bool jY.qB, .bool jY.qL,D jY.ptr,D jY.gP,D q3.f.k, .int .u8 q3.f.i, .int .u8 q3.f.r, .int .u8 q3.f.g, .int .u8 q3.f.b,D q3.b.k, .int .u8 q3.b.i, .int .u8 q3.b.r, .int .u8 q3.b.g, .int .u8 q3.b.b, .int .u8 q3.eo, .string ⟨tn.toArray⟩]))))):aO X.Ow #[al t] w0 F Q:=bh [.aY t 0] h
theorem aAq(t:Addr)(h:b9 w0 F [] w0 X.Jp #[al t] .bool λc d=>dQ d (aa w0 F c Q (.string ⟨[].toArray⟩)) (∃e:ao,At c t 1 [.pointer e]/\b9 w0 F [] c X.Vx #[.pointer e] (λj:List UInt8=> .string ⟨j.toArray⟩) λi j=>aa w0 F i Q (.string ⟨j.toArray⟩))):aO X.Ov #[al t] w0 F Q:=bh [.aY t 0] h
theorem aAo(a b:ly)(h:aG w0 λc=>aG w0 λd=>a7 w0 F [c,d] w0 [(c,G.jX),(d,G.jX)] X.Wm #[.slice a.lines.p a.lines.n a.lines.c, .slice b.lines.p b.lines.n b.lines.c, .func (.func X.CB) #[] #[]] .bool λg i=>dQ i (a' a.ai b.ai (a' a.first b.first (a' a.dD b.dD (a' a.cl b.cl (∃j:Bool,YV a b j/\dQ j (∃k:Bool,YW a b k/\dQ k (∃l:Bool,YX a b l/\dQ l (bn w0 F g [d,c] Q (.bool (bL.val (.i_ (a.jU=b.jU))))) (bn w0 F g [d,c] Q (.bool false))) (bn w0 F g [d,c] Q (.bool false))) (bn w0 F g [d,c] Q (.bool false))) (bn w0 F g [d,c] Q (.bool false))) (bn w0 F g [d,c] Q (.bool false))) (bn w0 F g [d,c] Q (.bool false))) (bn w0 F g [d,c] Q (.bool false))) (bn w0 F g [d,c] Q (.bool false))):aO X.WK #[.agg a.T, .agg b.T] w0 F Q:=bh [.agg (ly.bN.enc a), .agg (ly.bN.enc b)] h
end Go.Proofs.YtimbpmnbbfeogaaGreatDoor
namespace Go.Rep
open Go Go.Sy
structure kH where
 (b cm:Nat) (a_:iF) (b8:cN) (cd:rZ)
structure iq where
 (bz:da) (av:bl) (an dD:Nat)
def kH.lJ(t:kH):iq:=⟨t.a_.bz,t.b8.av,t.cd.an,t.cd.dD⟩
def kH.ptr(t:kH):Value:= .pointer (some ⟨t.b,0,none⟩)
abbrev kH.cells(t:kH):List Value:=[.pointer (some ⟨t.cm,0,none⟩),t.b8.ptr,t.cd.ptr]
end Go.Rep
namespace Go.Proofs.YtimbpmnbbfeogaaGreatDoor
open Go Go.RowKit Go.Sy Go.Rep
def I.cd(v:rZ):I:=⟨λi=>i=v.b,λw=>jD w v,λh hi=>by rw[hi];exact h.lt,λh hi=>by rw[hi];exact h.lo,λh hk bc=>h.ax hk λe=>bc _ e rfl⟩
def I.a_(b:Nat)(s:iF):I:=⟨rX b s,λw=>eh w b s,λh hi=>h.lt hi,λh hi=>by
 rcases hi with rfl|⟨a,ha,rfl⟩|⟨a,ha,rfl⟩
 ·exact h.lo
 ·exact(h.row.lt a ha).2.1
 ·exact(h.f'.lt a ha).2.1,λh hk bc=>h.ax hk bc⟩
abbrev dL(t:kH):I:=I.sep [I.a_ t.cm t.a_,I.cd t.cd,I.aF t.b G.k1 t.cells,Z t.b8]
def xR(dD k:Nat)(q:bl):Nat:=if dD=0 then 0 else if q.bA.gP≠0 then 0 else(E1 dD k (sr q.ah)).toNat
structure uH(N:Nat)(q:iq):Prop where
 av:b5 N q.av
 bz:pq q.bz
 aft:q.av.dq=0
 an:(q.an:Int)=q.av.an
section
variable{w0 w w' w1:World}{F0:Nat->Prop}{bs:List Nat}{o o':I}{bM bq:List I}{R:Ending->World->Prop}{f:FuncId}{args:Array Value}{s s':cN}{t hv:kH}
theorem dL.cell(h:af w0 F0 bs (dL t) w)(k:Nat){cj:List Value}(hu:cj=(t.cells.drop k).take cj.length):At w ⟨t.b,0,none⟩ k cj:=af.cells [I.a_ t.cm t.a_,I.cd t.cd] [Z t.b8] h (show 3<=maxLen by decide) hu
theorem dL.a_(h:af w0 F0 bs (dL t) w):eh w t.cm t.a_:=af.get [] [I.cd t.cd,I.aF t.b G.k1 t.cells,Z t.b8] h
theorem dL.cd(h:af w0 F0 bs (dL t) w):jD w t.cd:=af.get [I.a_ t.cm t.a_] [I.aF t.b G.k1 t.cells,Z t.b8] h
theorem dL.b8(h:af w0 F0 bs (dL t) w):(Z t.b8).P w:=af.get [I.a_ t.cm t.a_,I.cd t.cd,I.aF t.b G.k1 t.cells] [] h
theorem UW(aj:Laid w)(h:(dL t).P w):di X.Jp #[t.ptr] w (.bool false):=by
 refine aAu _ ⟨_,dL.cell (af.start (bs:=[]) aj h aS) 1 rfl,aa.of λ_=>?_⟩;show Value.bool _=_
 rw[show bL.val (.i_ ((some (⟨t.b8.b,0,none⟩:Addr))=none))=false from by
  have:=bL.yT (.i_ ((some (⟨t.b8.b,0,none⟩:Addr))=none)) false
  exact this.1 qR]
abbrev mA(t:kH):I:=I.sep [I.cd t.cd,I.aF t.b G.k1 t.cells,Z t.b8]
theorem mA.cell(h:af w0 F0 bs (mA t) w)(k:Nat){cj:List Value}(hu:cj=(t.cells.drop k).take cj.length):At w ⟨t.b,0,none⟩ k cj:=af.cells [I.cd t.cd] [Z t.b8] h (show 3<=maxLen by decide) hu
theorem mA.cd(h:af w0 F0 bs (mA t) w):jD w t.cd:=af.get [] [I.aF t.b G.k1 t.cells,Z t.b8] h
theorem mA.b8(h:af w0 F0 bs (mA t) w):(Z t.b8).P w:=af.get [I.cd t.cd,I.aF t.b G.k1 t.cells] [] h
theorem auE{k:Nat}(aj:Laid w)(h:(mA t).P w):bI Tryz.prog X.WM #[t.ptr, .int .i64 k] w (mA t).F (λv w'=>v= .int .i64 0/\fK mA w t (λhv=>hv={t with cd:=⟨t.cd.b,t.cd.an,xR t.cd.dD k t.b8.av⟩}) w'):=by
 have aN:=af.start (bs:=[]) aj h aS;refine aAt _ k ⟨_,mA.cell aN 2 rfl,λw1 hb1=>(aN.below hb1).ret (λc d=>agb (mA.cd (aN.below hb1))) λad aX aK=>⟨_,rfl,aK.O,λe w' hb _=>⟨rfl,af.bQ (aX.below hb) ?_⟩,λe=>⟨_,mA.cell aX 1 rfl,λbw bp=>(aX.below bp).ret (λc d=>af2 d (mA.b8 (aX.below bp))) λbD cg k4=>⟨t.b8.bA,rfl,k4.O,λkf=>⟨_,mA.cell cg 2 rfl,λbP hb5=>?_⟩,λkf=>⟨_,mA.cell cg 2 rfl,_,mA.cell cg 1 rfl,λbP hb5=>?_⟩⟩⟩⟩⟩
 ·have e':t.cd.dD=0:=by omega
  show t=_;rw[xR,aA e',<-e']
 ·have ey:=cg.below hb5
  refine af.call (o:=I.cd t.cd) [] [I.aF t.b G.k1 t.cells,Z t.b8] ey aS (λa b=>auI a) λv cu ⟨ah,hm⟩ hs=>?_
  obtain⟨eJ,fj⟩:=hs (I.cd ⟨t.cd.b,t.cd.an,0⟩) hm λi hi=> .inl hi
  subst ah;refine⟨_,rfl,fj,λw' hb _=>⟨rfl,af.bQ (af.below (o:=mA {t with cd:=⟨t.cd.b,t.cd.an,0⟩}) eJ hb) ?_⟩⟩;rw[xR,ag M,aA (show t.b8.av.bA.gP≠0 from kf)]
 ·have ey:=cg.below hb5
  refine(af1 ey.laid (mA.b8 ey)).aH λv cu fj ⟨h',ah,q1,q2,cz⟩=>?_
  subst ah;have eJ:=ey.O fj;refine⟨_,rfl,fj.O,mA.cell eJ 2 rfl,λw7 c8=>?_⟩;have jv:=eJ.below c8;have hlt:=(mA.cd ey).lt;refine af.call (o:=I.cd t.cd) [] [I.aF t.b G.k1 t.cells,Z t.b8] jv aS (λa b=>auL (k:=k) b a (q2.below c8) (λhi=>by have:=cz _ hi;omega)) λv cW ⟨ah,n,hn,hm⟩ hs=>?_
  obtain⟨eP,fu⟩:=hs (I.cd ⟨t.cd.b,t.cd.an,n⟩) hm λi hi=> .inl hi
  subst ah;refine⟨_,rfl,fu,λw' hb _=>⟨rfl,af.bQ (af.below (o:=mA {t with cd:=⟨t.cd.b,t.cd.an,n⟩}) eP hb) ?_⟩⟩;rw[xR,ag M,ag (show ¬t.b8.av.bA.gP≠0 from λu=>u kf)];rw[q1] at hn;have e2:n=(E1 t.cd.dD k (sr t.b8.av.ah)).toNat:=by
   have:(n:Int)=E1 t.cd.dD k (sr t.b8.av.ah):=hn;omega
  rw[e2]
end
def aiA(p:ao)(xs:List my)(i:Nat):Prop:=dk p i∨∃x∈xs,dk x.aB i
def I.qD(b:Nat)(s:iF)(p:ao)(c:Nat)(xs:List my):I:=
 ⟨λi=>rX b s i∨aiA p xs i,λw=>eh w b s/\oE w Y.dZ p xs.length c xs,
  λh hi=>by
   rcases hi with hi|⟨a,ha,rfl⟩|⟨x,hx,a,ha,rfl⟩
   ·exact h.1.lt hi
   ·exact(h.2.row.lt a ha).1
   ·exact((h.2.fw x hx).lt a ha).1,
  λh hi=>by
   rcases hi with hi|⟨a,ha,rfl⟩|⟨x,hx,a,ha,rfl⟩
   ·exact(I.a_ b s).low h.1 hi
   ·exact(h.2.row.lt a ha).2.1
   ·exact((h.2.fw x hx).lt a ha).2.1,
  λh hk bc=>⟨h.1.ax hk λi hi e=>bc i hi (.inl e),⟨h.2.row.ax hk λa ha e=>bc _ e (.inr (.inl ⟨a,ha,rfl⟩)),λx hx=>(h.2.fw x hx).ax hk λa ha e=>bc _ e (.inr (.inr ⟨x,hx,a,ha,rfl⟩)),h.2.off⟩⟩⟩
theorem Zu:∀{xs:List my} {k:Nat} {x:my},xs[k]? =some x->x.ac.T.toList=((n9 xs).drop (k*6)).take 6
 |[],k,x,h=>by cases h
 |y::ys,0,x,h=>by
  have:y=x:=by simpa using h
  subst this;rfl
 |y::ys,k+1,x,h=>by
  have h':ys[k]? =some x:=by simpa using h
  rw[Zu h',show(k+1)*6=k*6+6 by omega];show _=((y.ac.T.toList++n9 ys).drop (k*6+6)).take 6;rw[JN (k*6) 6,<-vH];rfl
def Ok(bK:gN)(a:iq×Int)(x:fH):iq×Int:=(⟨a.1.bz,BA bK x a.1.av,a.1.an,xR a.1.dD (k9 bK x a.1.av).dq.toNat (BA bK x a.1.av)⟩,a.2+(k9 bK x a.1.av).dq)
def kX(bK:gN)(l:List fH)(a:iq×Int):iq×Int:=l.foldl (Ok bK) a
def pS(bK:gN)(bs:List Int)(q:iq):iq×Int:=kX bK (gC bs q.bz).2 (⟨(gC bs q.bz).1,q.av,q.an,q.dD⟩,0)
theorem avq{bK:gN}{l:List fH}{a:iq×Int}{i:Nat}{x:fH}(h:l[i]? =some x):kX bK (l.take (i+1)) a=Ok bK (kX bK (l.take i) a) x:=by
 have hi:i<l.length:=by
  rcases h8 i l.length with q|q
  ·exact q
  ·rw[nu q] at h
   cases h
 rw[ny,h];show kX bK (l.take i++[x]) a=_;unfold kX;rw[xf];rfl
section
variable{w0 w w' w1:World}{F0:Nat->Prop}{bs:List Nat}{o o':I}{bM bq:List I}{R:Ending->World->Prop}{f:FuncId}{args:Array Value}{s s':cN}{t hv:kH}
theorem auD{N:Nat}{bK:gN}{p:ao}{n c:Nat}{eM:List Int}(ez:xv bK)(aj:Laid w)(h:(dL t).P w)(ok:b5 N t.b8.av)(hq:pq t.a_.bz)(hp:t.b8.dq=0)(hr:Row w p n 1 (eU eM))(hl:eM.length=n)(hn:n<=1048576)(fV:∀a,p=some a->¬(dL t).F a.block)(hN:N+1000*((gC eM t.a_.bz).2.length+1)<=4611686018427387904):
  bI Tryz.prog X.Ox #[t.ptr, .slice p n c] w (dL t).F (λv w'=>v= .tuple #[.int .i64 (pS bK eM t.lJ).2, .int .i64 0]/\fK dL w t (λhv=>hv.b=t.b/\hv.lJ=(pS bK eM t.lJ).1) w'):=by
 have aN:=af.start (bs:=[]) aj h aS;have hj:=ah6 hq eM;refine aAs _ p n c λw1 hb1=>(aN.below hb1).ret (λa b=>UW b a) λad aX aK=>⟨_,rfl,aK.O,λe=>(nomatch e),λ_=>⟨_,dL.cell aX 0 rfl,λbw bp=>?_⟩⟩
 have eb:=aX.below bp;have aoR:Row bw p n 1 (eU eM):=Row.ax hr eb.kept fV;refine af.call (o:=I.a_ t.cm t.a_) [] [I.cd t.cd,I.aF t.b G.k1 t.cells,Z t.b8] eb aS (λa b=>(atg b a hq.i aoR hl hn (λaB e hb=>fV aB e ⟨I.a_ t.cm t.a_,by simp, .inl hb⟩)).mono (λi hi=> .inl hi) λ_ _ _ e=>e) λv bD ⟨⟨h3,jm,xs,ah,hx,dJ⟩,s',e1,hP,bc⟩ hs=>?_
 subst ah;have vg:xs.length=(gC eM t.a_.bz).2.length:=by rw[<-hx,gw]
 have abZ:Y.dZ<=bw.heap.size:=eb.laid.size;have amE:oE bD Y.dZ h3 xs.length jm xs:=by
  rw[<-vg] at dJ;exact⟨dJ.row.low abZ,λx hx=>(dJ.fw x hx).low abZ,dJ.off⟩
 obtain⟨cg,k4⟩:=hs (I.qD t.cm s' h3 jm xs) ⟨hP,amE⟩ λi hi=>by
  rcases hi with hi|⟨a,ha,rfl⟩|⟨x,hx,a,ha,rfl⟩
  ·exact bc i hi
  ·exact .inr (dJ.row.lt a ha).2.1
  ·exact .inr ((dJ.fw x hx).lt a ha).2.1
 refine⟨h3,_,jm,rfl,k4,λeA i2 V=>0<=i2/\i2<=xs.length/\0<=eA/\eA<=1000*i2/\∃b8 cd,b8.b=t.b8.b/\cd.b=t.cd.b/\b5 (N+1000*i2.toNat) b8.av/\b8.dq=0/\((⟨(gC eM t.a_.bz).1,b8.av,cd.an,cd.dD⟩:iq),eA)=kX bK ((gC eM t.a_.bz).2.take i2.toNat) (⟨(gC eM t.a_.bz).1,t.b8.av,t.cd.an,t.cd.dD⟩,0)/\af w (dL t).F [] (I.sep [I.qD t.cm s' h3 jm xs,I.cd cd,I.aF t.b G.k1 t.cells,Z b8]) V,λeA i2=>((xs.length:Int)-i2).toNat,λV hb=>⟨by omega,by omega,by omega,by omega,t.b8,t.cd,rfl,rfl,ok,hp,rfl,cg.below hb⟩,?_⟩;rintro eA i2 bP _ ⟨a0,dd,b0,b1,b8,cd,Mo,hvb,Uk,iJ,hrun,ey⟩;rw[<-vg];refine⟨λhi=>?_,λhi w' hb _=>?_⟩
 ·obtain⟨x,Tp⟩:∃x,xs[i2.toNat]? =some x:=⟨_,el M⟩
  have Mu:x∈xs:=uE Tp;have Mi:(gC eM t.a_.bz).2[i2.toNat]? =some x.q:=by rw[<-hx,pV,Tp];rfl
  have LF:=hj.2 x.q (uE Mi);have qD:=(af.get [] [I.cd cd,I.aF t.b G.k1 t.cells,Z b8] ey).2;have hrow:=bF.row qD.row;obtain⟨aB,xM⟩:=hrow.iP M;refine⟨aB,xM,⟨a0,hi⟩,x.ac,hrow.at_ xM (i2.toNat*6) (Zu Tp),λcH g3=>?_⟩;have hcell:∀{V:World} {bs:List Nat} {b8:cN} {cd:rZ} {k:Nat} {cj:List Value},af w (dL t).F bs (I.sep [I.qD t.cm s' h3 jm xs,I.cd cd,I.aF t.b G.k1 t.cells,Z b8]) V->cj=(t.cells.drop k).take cj.length->At V ⟨t.b,0,none⟩ k cj:=λ{V bs b8 cd k cj} cY hu=>af.cells [I.qD t.cm s' h3 jm xs,I.cd cd] [Z b8] cY (show 3<=maxLen by decide) hu
  refine⟨_,hcell ey (k:=1) rfl,λw7 c8 mh=>?_⟩;have jv:=(ey.cZ g3).below c8;have R3:=(I.mq (bM:=[I.qD t.cm s' h3 jm xs]) (bq:=[I.cd cd,I.aF t.b G.k1 t.cells,Z b8])).1 jv.at_;have ar_:=(af.get [] [I.cd cd,I.aF t.b G.k1 t.cells,Z b8] jv);have Cj:=ar_.2.fw x Mu;have mi:b8.ptr=t.b8.ptr:=by unfold cN.ptr;rw[Mo]
  have amF:bI Tryz.prog X.NW #[.pointer (some ⟨t.b8.b,0,none⟩), .agg x.ac.T] w7 (Z b8).F (λv w'=>v= .tuple #[.int .i64 (k9 bK x.q b8.av).dq, .int .i64 0]/\fK Z w7 b8 (λs'=>s'.b=b8.b/\s'.av=BA bK x.q b8.av) w'):=by
   have:=atK (s:=b8) (x:=x) ez jv.laid (af.get [I.qD t.cm s' h3 jm xs,I.cd cd,I.aF t.b G.k1 t.cells] [] jv) Uk (by rw[vg] at dd hi;omega) iJ LF.ok ⟨LF.de,LF.c1⟩ (bF.row Cj) (λaB e=>⟨λbk=>R3.2.2 aB.block ⟨I.qD t.cm s' h3 jm xs,by simp, .inr (.inr ⟨x,Mu,aB,e,rfl⟩)⟩ ⟨Z b8,by simp,bk⟩,(Cj.lt aB e).1⟩) Cj.cap;rw[mi] at this;exact this
  refine af.call (o:=Z b8) [I.qD t.cm s' h3 jm xs,I.cd cd,I.aF t.b G.k1 t.cells] [] jv (cB.all mh) (λa b=>amF) λv cW ⟨apt,sY,⟨f1,f2⟩,al6,al5⟩ H8=>?_
  obtain⟨eP,fu⟩:=H8 (Z sY) al6 al5;subst apt;have Cl:=ajf (bK:=bK) (x:=x.q) Uk iJ;have e0:((k9 bK x.q b8.av).dq.toNat:Int)=(k9 bK x.q b8.av).dq:=by have:=Cl.1;omega
  have aCp:xs.length<=4611686018427387904:=by rw[vg];omega
  refine⟨_,_,rfl,fu,λe=>absurd rfl e,λ_=>⟨by have:=Cl.1;have:=Cl.2;unfold ay;omega,λcR cr dO=>?_⟩⟩;have fl:=eP.below cr;have ada:sY.b=t.b8.b:=f1.trans Mo;have kh:({t with b8:=sY,cd:=cd}:kH).cells=t.cells:=by
   show[_,sY.ptr,cd.ptr]=[_,t.b8.ptr,t.cd.ptr];unfold cN.ptr rZ.ptr;rw[ada,hvb]
  have avA:af w (dL t).F ([]++[cH]) (I.sep ([I.qD t.cm s' h3 jm xs]++[I.cd cd,I.aF t.b G.k1 ({t with b8:=sY,cd:=cd}:kH).cells,Z sY])) cR:=by
   rw[kh];exact fl
  rw[<-e0];refine af.GG (fC:=λv _ lj=>v= .int .i64 0/\lj=[I.cd ⟨cd.b,cd.an,xR cd.dD (k9 bK x.q b8.av).dq.toNat sY.av⟩,I.aF t.b G.k1 ({t with b8:=sY,cd:=cd}:kH).cells,Z sY]) [I.qD t.cm s' h3 jm xs] avA (cB.all dO) (λa b=>(auE (t:={t with b8:=sY,cd:=cd}) (k:=(k9 bK x.q b8.av).dq.toNat) b a).mono (λ_ e=>e) λv V _ ⟨ah,hv,Ld,hP,bc⟩=>⟨_,⟨ah,rfl⟩,?_,?_⟩) λv gn lj ⟨ah,oV⟩ lH fZ=>?_
  ·subst Ld
   exact hP
  ·subst Ld
   exact bc
  ·subst oV ah
   rw[kh] at lH;refine⟨_,rfl,fZ,λe=>absurd rfl e,λ_=>⟨by unfold ay;omega,λhC fs=>⟨⟨by omega,by omega,by have:=Cl.1;omega,by have:=Cl.2;omega,sY,⟨cd.b,cd.an,xR cd.dD (k9 bK x.q b8.av).dq.toNat sY.av⟩,ada,hvb,?_,?_,?_,(lH.below fs).free⟩,by show((xs.length:Int)-(i2+1)).toNat<((xs.length:Int)-i2).toNat;omega⟩⟩⟩
   ·rw[f2,show(i2+1).toNat=i2.toNat+1 by omega]
    exact(aaP Uk LF.ok).cZ M
   ·have:sY.av.dq=0:=by rw[f2];rfl
    exact this
   ·rw[show(i2+1).toNat=i2.toNat+1 by omega,avq Mi,<-hrun,f2,e0]
    rfl
 ·refine⟨?_,?_⟩
  ·have e2:(pS bK eM t.lJ).2=eA:=by
    show(kX bK (gC eM t.a_.bz).2 _).2=eA;rw[jh (by rw[vg] at hi;omega)] at hrun;exact(dx Prod.snd hrun).symm
   rw[e2]
  ·have kh:({t with b8:=b8,cd:=cd,a_:=s'}:kH).cells=t.cells:=by
    show[_,b8.ptr,cd.ptr]=[_,t.b8.ptr,t.cd.ptr];unfold cN.ptr rZ.ptr;rw[Mo,hvb]
   have yK:=ey.below hb;have hP:(dL {t with b8:=b8,cd:=cd,a_:=s'}).P w':=by
    unfold dL;rw[kh];obtain⟨cq,cA,fG⟩:=(I.mq (bM:=[I.qD t.cm s' h3 jm xs]) (bq:=[I.cd cd,I.aF t.b G.k1 t.cells,Z b8])).1 yK.at_;exact(I.mq (bM:=[I.a_ t.cm s']) (bq:=[I.cd cd,I.aF t.b G.k1 t.cells,Z b8])).2 ⟨I.rK.2 (I.rK.1 cq).1,cA,λi hi bk=>fG i (I.j_.2 (.inl (I.j_.1 hi))) bk⟩
   have avB:af w (dL t).F [] (dL {t with b8:=b8,cd:=cd,a_:=s'}) w':=yK.conv hP λi hi=>by
    rcases(I.j9 (bM:=[I.a_ t.cm s']) (bq:=[I.cd cd,I.aF t.b G.k1 ({t with b8:=b8,cd:=cd,a_:=s'}:kH).cells,Z b8])).1 hi with q|q
    ·exact(I.j9 (bM:=[I.qD t.cm s' h3 jm xs]) (bq:=[I.cd cd,I.aF t.b G.k1 t.cells,Z b8])).2 (.inl (I.j_.2 (.inl (I.j_.1 q))))
    ·exact(I.j9 (bM:=[I.qD t.cm s' h3 jm xs]) (bq:=[I.cd cd,I.aF t.b G.k1 t.cells,Z b8])).2 (.inr (by rw[kh] at q;exact q))
   refine af.bQ avB ⟨rfl,?_⟩;rw[jh (by rw[vg] at hi;omega)] at hrun;show iq.mk s'.bz b8.av cd.an cd.dD=(kX bK (gC eM t.a_.bz).2 _).1;rw[e1];exact dx Prod.fst hrun
end
structure y7 where
 (lines:List Li) (ai first dD cl:Int) (az:Cu) (bA:Md) (bV:aT) (jU:List UInt8)
def Dc(q:iq):Nat:=(qa q.dD (sr q.av.ah)).toNat
def l5(q:iq):y7:=⟨Iw q.an (Dc q) q.av.ah (c6.aL q.av.bu).ab,q.av.ai,(q.av.ah.next:Int)-Dc q,q.dD,sr q.av.ah,q.av.az,q.av.bA,q.av.bV,q.av.jU⟩
def y7.o_(m:y7)(l:n7):ly:=⟨l,m.ai,m.first,m.dD,m.cl,m.az,m.bA,m.bV,m.jU⟩
def Zc(w0:World)(m:y7)(v:Value)(w:World):Prop:=∃p c ys,v= .agg (m.o_ ⟨p,ys.length,c⟩).T/\dE w p ys.length c ys/\bJ ys=m.lines/\∀i,fA p ys i->w0.heap.size<=i
section
variable{w0 w w' w1:World}{F0:Nat->Prop}{bs:List Nat}{o o':I}{bM bq:List I}{R:Ending->World->Prop}{f:FuncId}{args:Array Value}{s s':cN}{t hv:kH}
theorem auC{N:Nat}(aj:Laid w)(h:(dL t).P w)(ok:uH N t.lJ):bI Tryz.prog X.Ow #[t.ptr] w bg (Zc w (l5 t.lJ)):=by
 refine aAr _ λar g1 w1 hb1 fb=>?_
 have aN:=af.start (bs:=[ar]) aj h Dm;have hrl:((c6.aL t.b8.av.bu).ab.length:Int)=t.b8.av.an:=ok.av.aL.r;have Mm:(c6.aL t.b8.av.bu).ab.length=t.cd.an:=by have h1:(t.cd.an:Int)=t.b8.av.an:=ok.an;omega
 refine(aN.below hb1).ret (λa b=>UW b a) λad aX aK=>⟨_,rfl,aK.O,λe=>(nomatch e),λ_=>⟨_,dL.cell aX 1 rfl,λbw bp fN=>?_⟩⟩
 have eb:=aX.below bp;refine(af1 eb.laid (dL.b8 eb)).aH λv bD k4 ⟨h',ah,q1,q2,cz⟩=>?_
 subst ah;have cg:=eb.O k4;refine⟨_,rfl,k4.O,_,dL.cell cg 2 rfl,_,dL.cell cg 1 rfl,λbP hb5 om=>?_⟩;have ey:=cg.below hb5;have ase:=q2.below hb5;refine(atL ey.laid (dL.b8 ey) ok.av).aH λv cu fj ⟨p,c,xs,ah,e1,e2,e3⟩=>?_
 subst ah;have eJ:=ey.O fj;rw[Mm] at e2⊢;refine⟨_,_,_,rfl,fj.O,dL.cell eJ 2 rfl,λw7 c8 mh=>?_⟩;have jv:=eJ.below c8;have afC:=(ase.O fj).below c8;have hw:∀x∈xs,x.cs.length<=1000:=by
  intro x hx;have hm:x.jT∈(c6.aL t.b8.av.bu).ab:=by rw[<-e1];exact lr.2 ⟨x,hx,rfl⟩
  exact((CO _).1 (ok.av.aL.ok _ hm).2).1
 refine(auJ jv.laid (dL.cd jv) afC (e2.O (U.au c8)) hw).aH λv cW fu ⟨q,d,ys,n,hn,ah,f1,f2,lU⟩=>?_
 subst ah;have eP:=jv.O fu;have asf:=afC.O fu;have hz:w.heap.size<=w7.heap.size:=jv.kept.size;have x_:n=Dc t.lJ:=by
  rw[q1] at hn;have qp:(n:Int)=qa t.cd.dD (sr t.b8.av.ah):=hn;show n=(qa t.cd.dD (sr t.b8.av.ah)).toNat;omega
 refine⟨_,_,_,_,_,rfl,fu.O,_,dL.cell eP 1 rfl,_,dL.cell eP 2 rfl,_,dL.cell eP 1 rfl,_,dL.cell eP 1 rfl,_,dL.cell eP 1 rfl,_,dL.cell eP 1 rfl,λcR cr dO=>(eP.below cr).ret (λa b=>atI b (dL.b8 (eP.below cr))) λgn lH fZ=>⟨_,rfl,fZ.O,dL.cell lH 1 rfl,dL.cell lH 1 rfl,dL.cell lH 1 rfl,dL.cell lH 1 rfl,dL.cell lH 2 rfl,λhC fs rl=>(lH.below fs).ret (λa b=>agb (dL.cd (lH.below fs))) λkl nT yf=>⟨_,rfl,yf.O,dL.cell nT 1 rfl,dL.cell nT 1 rfl,dL.cell nT 1 rfl,dL.cell nT 1 rfl,λjy kM Ej=>?_⟩⟩⟩;have yI:=nT.below kM;have o0:=((((U.au cr).trans fZ).trans (U.au fs)).trans yf).trans (U.au kM);refine yI.ret (λa b=>Nw (asf.O o0)) λk2 kY ou=>⟨_,rfl,ou.O,dL.cell kY 1 rfl,dL.cell kY 1 rfl,dL.cell kY 1 rfl,dL.cell kY 1 rfl,λoz ks B9=>(kY.below ks).ret (λa b=>atJ b (dL.b8 (kY.below ks))) λnX j7 sI=>⟨t.b8.az,rfl,sI.O,dL.cell j7 1 rfl,dL.cell j7 1 rfl,dL.cell j7 1 rfl,λl7 xY Sx=>(j7.below xY).ret (λa b=>af2 b (dL.b8 (j7.below xY))) λlK ui sJ=>⟨t.b8.bA,rfl,sJ.O,dL.cell ui 1 rfl,dL.cell ui 1 rfl,λqO sn aoc=>(ui.below sn).ret (λa b=>atN b (dL.b8 (ui.below sn))) λkm qI EH=>⟨t.b8.bV,rfl,EH.O,dL.cell qI 1 rfl,λln oS acI=>(qI.below oS).ret (λa b=>atP b (dL.b8 (qI.below oS))) λuu Al yg=>⟨_,rfl,yg.O,λw' he an0=>?_⟩⟩⟩⟩⟩
 have apX:U bg cW uu:=((((((((o0.trans ou).trans (U.au ks)).trans sI).trans (U.au xY)).trans sJ).trans (U.au sn)).trans EH).trans (U.au oS)).trans yg;refine⟨q,d,ys,?_,?_,?_,λi hi=>ek hz (lU i hi)⟩
 ·show _=Value.agg #[_,_,_,_,_,_,_,_,_,_,_,_,_,_,_,_,_,_,_,_,_,_,_,_,_,_,_,_,_]
  have dd:(h'.r.next:Int)-n=(l5 t.lJ).first:=by
   have:=dx fp.next q1;show _=(t.b8.hi.r.aq.next:Int)-Dc t.lJ;rw[<-x_];have h2:h'.r.next=t.b8.hi.r.aq.next:=this;rw[h2]
  have a2:(h'.r.next:Int)-h'.r.first=(l5 t.lJ).cl:=by
   show sr h'.r.aq=sr t.b8.hi.r.aq;rw[q1]
  rw[dd,a2];rfl
 ·exact(f1.O apX).ax (Go.Proofs.YtimbpmnbbfeogaaGreatDoor.dV.ax he) λi hi bk=>by
   have:=lU i bk;have ec:ar<w7.heap.size:=cB.all mh ar aS;have:i=ar:=by simpa using hi
   omega
 ·rw[f2,e1,q1,x_]
  rfl
end
end Go.Proofs.YtimbpmnbbfeogaaGreatDoor
namespace Go.Proofs.YtimbpmnbbfeogaaGreatDoor
open Go.Shelf
def Tryz.aqw:Go.Shelf.Ren:=⟨λ|316=>97|n=>n,λ|9=>9|3=>3|4=>4|37=>24|0=>0|127=>228|5=>5|n=>n,λ|n=>n⟩
theorem Tryz.aqv:Go.Proofs.LaysM.n316 Tryz.prog Tryz.aqw:=qP
open Go.RowKit in
theorem Tryz.stringslite_Clone(s:ByteArray)(w:World)(HP:s.size<=281474976710656):
  Calls Tryz.prog 97 #[.string s] w λe w'=>e= .returned (.string s)/\Below w.heap.size w w':=Any.stringslite_Clone Tryz.aqv s w HP
end Go.Proofs.YtimbpmnbbfeogaaGreatDoor
namespace Go.Proofs.YtimbpmnbbfeogaaGreatDoor
open Go Go.RowKit Go.Sy Go.Rep
theorem aa2(a b:Md)(w:World):(Op.equal G.h_ (.agg a.T) (.agg b.T)).run Tryz.prog w= .ok (decide (a=b)) w:=by
 obtain⟨dd,a2,a3,a4,a5,iG,nC,nD,a9⟩:=a;obtain⟨b1,b2,b3,p8,xC,zb,nF,Bg,ZB⟩:=b;simp only[Md.mk.injEq];simp[Op.equal,Op.maxDepth,go_sem]
 repeat' split
 all_goals simp[*]
theorem aa1(a b:Cu)(w:World):(Op.equal G.bR (.agg a.T) (.agg b.T)).run Tryz.prog w= .ok (decide (a=b)) w:=by
 rw[alD];obtain⟨dd,a2,a3⟩:=a;obtain⟨b1,b2,b3⟩:=b;simp only[Cu.mk.injEq,Bool.decide_and]
variable{w0:World}{F:Nat->Prop}{Q:Value->World->Prop}
theorem az_(s:List UInt8)(h:b9 w0 F [] w0 X.stringslite_Clone #[.string ⟨s.toArray⟩] (λd:List UInt8=> .string ⟨d.toArray⟩) λc d=>aa w0 F c Q (.string ⟨d.toArray⟩)):aO X.Wt #[.string ⟨s.toArray⟩] w0 F Q:=bh [.str s] h
theorem awT(CZ:ao)(vp GJ:Nat)(C1:ao)(yr xG:Nat)(h:Ka w0 F Q vp yr/\((vp:Int)=(yr:Int)->∃a:Int->World->Prop,∃b:Int->Nat,(bm w0 λc=>a 0 c)/\∀c:Int,∀d:World,U F w0 d->a c d->(c<(vp:Int)->∃e:Addr,CZ=(some e)/\hG c vp/\∃f:gx,At d e ((Int.toNat c)*2) f.T.toList/\aG d λg=>∃i:Addr,C1=(some i)/\hG c yr/\∃j:gx,At d i ((Int.toNat c)*2) j.T.toList/\aG d λk=>a7 w0 F [g,k] d [(g,G.fg),(k,G.fg)] X.CB #[.agg f.T, .agg j.T] .bool λn o=>jW w0 F Q o n/\(o=true->ji c n a b))/\DD w0 F Q vp c d)):aO X.Wm #[.slice CZ vp GJ, .slice C1 yr xG, .func (.func X.CB) #[] #[]] w0 F Q:=eV [⟨4,[17],[]⟩] [] [.cJ CZ vp GJ, .cJ C1 yr xG, .fn X.CB [] []] h
end Go.Proofs.YtimbpmnbbfeogaaGreatDoor
namespace Go.Proofs.YtimbpmnbbfeogaaGreatDoor
open Go Go.RowKit Go.Sy Go.Rep
theorem Qo(p:Prop)[Decidable p]:bL.val (.i_ p)=decide p:=by
 have h:=bL.yT (.i_ p)
 by_cases hp:p
 ·rw[l8 hp]
  exact(h true).1 hp
 ·rw[kp hp]
  exact(h false).1 hp
theorem akl{s:List UInt8}(h:s.length<=1048576):Pure X.stringslite_Clone #[.string ⟨s.toArray⟩] (.string ⟨s.toArray⟩):=by
 intro w aj;refine BT ((Tryz.stringslite_Clone ⟨s.toArray⟩ w ?_).mono ?_)
 ·show s.toArray.size<=281474976710656
  rw[s_];omega
 ·rintro e w' ⟨rfl,hb⟩
  exact⟨rfl,hb⟩
theorem aki{s:List UInt8}(h:s.length<=1048576):Pure X.Wt #[.string ⟨s.toArray⟩] (.string ⟨s.toArray⟩):=λw aj=>
 az_ s λw1 hb1=>(akl h).aH (Laid.below hb1 aj) λad aK hU=>⟨s,rfl,aK.O,aa.of λ_=>rfl⟩
section
variable{w0 w w' w1:World}{F0:Nat->Prop}{bs:List Nat}{o o':I}{bM bq:List I}{R:Ending->World->Prop}{f:FuncId}{args:Array Value}{s s':cN}{t hv:kH}
def ae6(q:bl):bl:={q with iM:=[]}
theorem atO(aj:Laid w)(h:(Z s).P w)(hs:s.iM.length<=4096):bI Tryz.prog X.Vx #[s.ptr] w (Z s).F (λv w'=>v= .string ⟨s.iM.toArray⟩/\fK Z w s (λs'=>s'.b=s.b/\s'.av=ae6 s.av) w'):=by
 have aN:=af.start (bs:=[]) aj h aS;refine ay9 _ λw1 hb1=>(aN.below hb1).ret (λc d=>yC d c) λad aX aK=>⟨_,rfl,aK.O,λe=>(nomatch e),λ_=>⟨_,Z.cell aX 71 rfl,λbw bp=>af.pure (aki M) (aX.below bp) λbD cg k4=>⟨_,rfl,k4.O,Z.ch cg M,λbP hp w' hb _=>⟨rfl,?_⟩⟩⟩⟩
 have ey:af w (Z s).F [] (Z {s with iM:=[]}) bP:=Z.put cg hp (by show 71+1<=73;omega) rfl rfl rfl rfl rfl;exact af.bQ (ey.below hb) ⟨rfl,rfl⟩
def ae5(q:iq):iq:={q with av:=ae6 q.av}
theorem auB(aj:Laid w)(h:(dL t).P w)(hs:t.b8.iM.length<=4096):bI Tryz.prog X.Ov #[t.ptr] w (dL t).F (λv w'=>v= .string ⟨t.b8.iM.toArray⟩/\fK dL w t (λhv=>hv.b=t.b/\hv.lJ=ae5 t.lJ) w'):=by
 have aN:=af.start (bs:=[]) aj h aS;refine aAq _ λw1 hb1=>(aN.below hb1).ret (λa b=>UW b a) λad aX aK=>⟨_,rfl,aK.O,λe=>(nomatch e),λ_=>⟨_,dL.cell aX 1 rfl,λbw bp=>?_⟩⟩
 have eb:=aX.below bp;refine af.call (o:=Z t.b8) [I.a_ t.cm t.a_,I.cd t.cd,I.aF t.b G.k1 t.cells] [] eb aS (λa b=>atO b a hs) λv bD ⟨ah,b8,⟨e1,e2⟩,hP,bc⟩ pD=>?_
 obtain⟨cg,k4⟩:=pD (Z b8) hP bc;subst ah;refine⟨_,rfl,k4,λw' hb _=>⟨rfl,?_⟩⟩;have kh:({t with b8:=b8}:kH).cells=t.cells:=by
  show[_,b8.ptr,t.cd.ptr]=[_,t.b8.ptr,t.cd.ptr];unfold cN.ptr;rw[e1]
 have ey:af w (dL t).F [] (dL {t with b8:=b8}) w':=by
  unfold dL;rw[kh];exact cg.below hb
 refine af.bQ ey ⟨rfl,?_⟩;show iq.mk t.a_.bz b8.av t.cd.an t.cd.dD=_;rw[e2];rfl
theorem Iy{xs:List ck}{k:Nat}(h:k<xs.length):(bJ xs)[k]? =some (bb xs k).jT:=by
 unfold bJ bb;rw[pV,el h,kb,el h];rfl
theorem MH(x y:ck):(decide (x.cU=y.cU)&&decide (x.cs=y.cs))=decide (x.jT=y.jT):=by
 unfold ck.jT;rw[<-Bool.decide_and];refine O8.2 ⟨λ⟨a,b⟩=>by rw[a,b],λe=>?_⟩;injection e with e1 e2
 exact⟨e2,e1⟩
theorem asr{cq cA:ao}{ar aQ bY c2:Nat}{xs ys:List ck}(hx:dE w cq ar bY xs)(hy:dE w cA aQ c2 ys)(hc:∀x∈xs,x.cs.length<=1000):
  di X.Wm #[.slice cq ar bY, .slice cA aQ c2, .func (.func X.CB) #[] #[]] w (.bool (decide (bJ xs=bJ ys))):=by
 have aqN:=hx.len;have aqO:=hy.len;have cI:=bF.GB hx.row;have j3:∀df:List ck,(bJ df).length=df.length:=λdf=>by simp[bJ]
 refine awT _ _ _ _ _ _ ⟨λe=>aa.of λ_=>?_,λe=>⟨λi V=>0<=i/\i<=ar/\(bJ xs).take i.toNat=(bJ ys).take i.toNat,λi=>((ar:Int)-i).toNat,λV hb=>⟨by omega,by omega,rfl⟩,?_⟩⟩
 ·show Value.bool false=_
  have hne:¬bJ xs=bJ ys:=λu=>e aip
  rw[kp hne]
 ·rintro i V hk ⟨i0,eA,ih⟩
  have To:=hx.O hk;have Tv:=hy.O hk;have Hb:i<ar->(bJ xs)[i.toNat]? =some (bb xs i.toNat).jT:=λh=>Iy M
  have Hc:i<ar->(bJ ys)[i.toNat]? =some (bb ys i.toNat).jT:=λh=>Iy M
  refine⟨λhi=>To.fU i0 hi λa ha SP hmx cH g3=>Tv.fU i0 M λa2 iu SQ aop eO g4 bw bp fN=>?_,λhi=>aa.of λ_=>?_⟩
  ·refine(ata (SP.wJ.O (U.au bp)) (SQ.wJ.O (U.au bp)) ain).aH λbD k4=>⟨_,rfl,k4.O,λm_=>aa.of λ_=>?_,λm_=>⟨by unfold ay;unfold maxLen at cI;omega,λbP hb5=>⟨⟨by omega,by omega,?_⟩,by show((ar:Int)-(i+1)).toNat<((ar:Int)-i).toNat;omega⟩⟩⟩
   ·have BF:decide ((bb xs i.toNat).jT=(bb ys i.toNat).jT)=false:=(MH _ _).symm.trans m_
    show Value.bool false=_
    have hne:¬bJ xs=bJ ys:=λu=>mx BF (by
     have dd:=Hb hi;rw[u,Hc hi] at dd;injection dd with dd
     exact dd.symm)
    rw[kp hne]
   ·have BF:decide ((bb xs i.toNat).jT=(bb ys i.toNat).jT)=true:=(MH _ _).symm.trans m_
    rw[show(i+1).toNat=i.toNat+1 by omega,ny,ny,ih,Hb hi,Hc hi,lu BF]
  ·have e1:(bJ xs).take i.toNat=bJ xs:=jh O0
   have e2:(bJ ys).take i.toNat=bJ ys:=jh O0;rw[e1,e2] at ih;show Value.bool true=_;rw[l8 ih]
def lI(a b:y7):Bool:=decide (a.lines=b.lines)&&(decide (a.ai=b.ai)&&(decide (a.first=b.first)&&(decide (a.dD=b.dD)&&(decide (a.cl=b.cl)&&(decide (a.az=b.az)&&(decide (a.bA=b.bA)&&(decide (a.bV=b.bV)&&decide (a.jU=b.jU))))))))
theorem agF(a:y7):lI a a=true:=by simp[lI]
theorem auz{m m':y7}{cq cA:ao}{bY c2:Nat}{xs ys:List ck}(aj:Laid w)(hx:dE w cq xs.length bY xs)(hy:dE w cA ys.length c2 ys)(hc:∀x∈xs,x.cs.length<=1000)(h1:bJ xs=m.lines)(h2:bJ ys=m'.lines):
  di X.WK #[.agg (m.o_ ⟨cq,xs.length,bY⟩).T, .agg (m'.o_ ⟨cA,ys.length,c2⟩).T] w (.bool (lI m m')):=by
 refine aAo (m.o_ ⟨cq,xs.length,bY⟩) (m'.o_ ⟨cA,ys.length,c2⟩) λar g1 aQ g2 w1 hb1 fb=>(asr (hx.O (U.au hb1)) (hy.O (U.au hb1)) hc).aH λad aK=>⟨_,rfl,aK.O,λe=>⟨λe1=>⟨λe2=>⟨λe3=>⟨λe4=>⟨_,λW=>aa1 _ _ W,λeu=>⟨_,λW=>aa2 _ _ W,λgq=>⟨_,λW=>Ri _ _ W,λiW=>bn.of λ_=>?_,λiW=>bn.of λ_=>?_⟩,λgq=>bn.of λ_=>?_⟩,λeu=>bn.of λ_=>?_⟩,λe4=>bn.of λ_=>?_⟩,λe3=>bn.of λ_=>?_⟩,λe2=>bn.of λ_=>?_⟩,λe1=>bn.of λ_=>?_⟩,λe=>bn.of λ_=>?_⟩
 all_goals (first|rw[h1,h2] at e|skip)
 ·have f0:=lu e
  have f5:=lu eu;have Lh:=lu gq;have f7:=lu iW;have f1:m.ai=m'.ai:=e1;have f2:m.first=m'.first:=e2;have lU:m.dD=m'.dD:=e3;have wj:m.cl=m'.cl:=e4;have BM:m.az=m'.az:=f5;have BN:m.bA=m'.bA:=Lh;have BO:m.bV=m'.bV:=f7;rw[Qo];simp only[lI,f0,f1,f2,lU,wj,BM,BN,BO,decide_true,Ga];rfl
 ·have BO:¬m.bV=m'.bV:=mx iW
  simp[lI,BO]
 ·have BN:¬m.bA=m'.bA:=mx gq
  simp[lI,BN]
 ·have BM:¬m.az=m'.az:=mx eu
  simp[lI,BM]
 ·have f:¬m.cl=m'.cl:=e4
  simp[lI,f]
 ·have f:¬m.dD=m'.dD:=e3
  simp[lI,f]
 ·have f:¬m.first=m'.first:=e2
  simp[lI,f]
 ·have f:¬m.ai=m'.ai:=e1
  simp[lI,f]
 ·have f:=mx e
  simp[lI,f]
end
abbrev rG(bu awB:Value)(s:cN):List Value:=
 [.int .i64 s.an, .int .i64 s.ai,bu,s.hi.ptr]++(s.az.T.toList++(s.bV.T.toList++(s.bA.T.toList++(s.aq.T.toList++([awB]++(s.cs.T.toList++(s.aN.T.toList++(s.bX.T.toList++[.string ⟨s.jU.toArray⟩, .string ⟨s.vm.toArray⟩, .string ⟨s.iM.toArray⟩, .int .i64 s.dq]))))))))
def IH(an ai:Int)(ah:fp)(jU iM:List UInt8)(dq:Int):bl:=⟨an,ai,IJ an.toNat ai.toNat,ah,np,jg,nR,⟨0,an-1⟩,zn ai 0 [],lL,h7,h7,jU,[],iM,dq,ai⟩
section
variable{w0 w w' w1:World}{F0:Nat->Prop}{bs:List Nat}{o o':I}{bM bq:List I}{R:Ending->World->Prop}{f:FuncId}{args:Array Value}{s s':cN}{t hv:kH}
abbrev xt(s:cN):I:=I.sep [I.cl s.hi,I.none,I.aF s.b G.fi (rG (.pointer none) (.pointer none) s),I.none]
theorem at6{an ai:Nat}(aj:Laid w)(h:(xt s).P w)(hr:s.an=an)(hc:s.ai=ai)(de:1<=an)(c1:an<=1000)(bY:1<=ai)(c2:ai<=1000):bI Tryz.prog X.Jd #[s.ptr] w (xt s).F (λv w'=>v= .int .i64 0/\∃s',s'.b=s.b/\s'.av=IH s.an s.ai s.hi.r.aq s.jU s.iM s.dq/\(Z s').P w'/\∀i,(Z s').F i->(xt s).F i∨w.heap.size<=i):=by
 have hY:=aj.size;generalize amP:(xt s).F=qZ;have aN:af w qZ [] (xt s) w:=by rw[<-amP];exact af.start (bs:=[]) aj h aS
 have cell0:∀{V:World} {bu:Value} {k:Nat} {cj:List Value},af w qZ [] (I.sep [I.cl s.hi,I.none,I.aF s.b G.fi (rG bu (.pointer none) s),I.none]) V->cj=((rG bu (.pointer none) s).drop k).take cj.length->At V ⟨s.b,0,none⟩ k cj:=λcY hu=>af.cells [I.cl s.hi,I.none] [I.none] cY (show 73<=maxLen by decide) hu
 refine ahB _ ⟨an,by rw[<-hr];exact cell0 aN rfl,ai,by rw[<-hc];exact cell0 aN rfl,λw1 hb1=>?_⟩;have bX:=aN.below hb1;have IB:∀i,(xt s).F i->i<w1.heap.size:=λi hi=>(xt s).lt bX.at_ hi
 have am':(xt s).F s.b:=⟨I.aF s.b G.fi (rG (.pointer none) (.pointer none) s),List.Mem.tail _ (List.Mem.tail _ (List.Mem.head _)),rfl⟩;refine af.z7 bX (λ_ b=>afF b de c1 bY c2) λv ad ⟨q,ah,S5,S4,H6⟩ aX aI=>⟨_,_,dx Ending.returned ah,aI.O,af.ch (n:=1) [I.cl s.hi,I.none] [I.none] aX (show 2+1<=73 by omega),λbw iw=>⟨λe=>absurd rfl e,λ_=>?_⟩⟩
 have hs1:=bX.kept.size;have fG:af w qZ [] (I.sep [I.cl s.hi,I.none,I.aF s.b G.fi (rG q.ptr (.pointer none) s),I.none]) bw:=af.put (n:=0) [I.cl s.hi,I.none] [I.none] aX (show 2+1<=73 by omega) iw;have Es:(bE q).P bw:=(bE q).ax S4 (iw.ax (F:=λi=>i=s.b) rfl) λi hi bk=>by have:=H6 i bk;have:=IB s.b am';omega
 have eb:af w qZ [] (I.sep [I.cl s.hi,I.none,I.aF s.b G.fi (rG q.ptr (.pointer none) s),bE q]) bw:=af.Oo [I.cl s.hi,I.none,I.aF s.b G.fi (rG q.ptr (.pointer none) s)] [] fG (λi hi=>IB i (Kg (bM:=[I.cl s.hi,I.none]) (bq:=[I.none]) hi)) Es H6 hs1 aS;have aku:∀{V:World} {k:Nat} {cj:List Value},af w qZ [] (I.sep [I.cl s.hi,I.none,I.aF s.b G.fi (rG q.ptr (.pointer none) s),bE q]) V->cj=((rG q.ptr (.pointer none) s).drop k).take cj.length->At V ⟨s.b,0,none⟩ k cj:=λcY hu=>af.cells [I.cl s.hi,I.none] [bE q] cY (show 73<=maxLen by decide) hu
 refine⟨ai,by rw[<-hc];exact aku eb rfl,λbD eR=>?_⟩;have cg:=eb.below eR;have IC:∀i,(I.sep [I.cl s.hi,I.none,I.aF s.b G.fi (rG q.ptr (.pointer none) s),bE q]).F i->i<bD.heap.size:=λi hi=>(I.sep [I.cl s.hi,I.none,I.aF s.b G.fi (rG q.ptr (.pointer none) s),bE q]).lt cg.at_ hi
 refine af.z7 cg (λ_ b=>af_ b M M) λv bP ⟨t,ah,Ez,pE,Td,Ia⟩ ey eH=>⟨_,_,dx Ending.returned ah,eH.O,af.ch (n:=1) [I.cl s.hi,I.none] [bE q] ey (show 29+1<=73 by omega),λcu ot=>⟨λe=>absurd rfl e,λ_=>?_⟩⟩
 have pD:=cg.kept.size;have sP:af w qZ [] (I.sep [I.cl s.hi,I.none,I.aF s.b G.fi ({s with aJ:=q,dc:=t}:cN).cells,bE q]) cu:=af.put (n:=0) [I.cl s.hi,I.none] [bE q] ey (show 29+1<=73 by omega) ot;have Tc:(I.stops t).P cu:=(I.stops t).ax Td (ot.ax (F:=λi=>i=s.b) rfl) λi hi bk=>by have:=Ia i bk;have:=IC s.b ⟨I.aF s.b G.fi (rG q.ptr (.pointer none) s),List.Mem.tail _ (List.Mem.tail _ (List.Mem.head _)),rfl⟩;omega
 have eJ:af w qZ [] (Z {s with aJ:=q,dc:=t}) cu:=af.Oo [I.cl s.hi] [I.aF s.b G.fi ({s with aJ:=q,dc:=t}:cN).cells,bE q] sP (λi hi=>IC i (Kg (bM:=[I.cl s.hi,I.none]) (bq:=[bE q]) hi)) Tc Ia pD aS;refine⟨an,by rw[<-hr];exact Z.cell eJ 0 rfl,λw7 c8=>af.pure (KM M M) (eJ.below c8) λcW eP br=>⟨⟨0,(an:Int)-1⟩,_,rfl,br.O,Z.ch eP M,λcR mF gn iY=>?_⟩⟩;have fl:af w qZ [] (Z {s with aJ:=q,dc:=t,aq:=⟨0,(an:Int)-1⟩}) cR:=Z.put eP mF OV rfl rfl rfl rfl rfl;refine af.pure Qt (fl.below iY) λhC wT lF=>⟨nR,rfl,lF.O,Z.ch wT M,λkl Cf=>?_⟩
 have nT:af w qZ [] (Z {s with aJ:=q,dc:=t,aq:=⟨0,(an:Int)-1⟩,az:=np}) kl:=Z.put wT Cf OX rfl rfl rfl rfl rfl;refine⟨Z.ch nT M,λjy pB=>?_⟩;have yI:af w qZ [] (Z {s with aJ:=q,dc:=t,aq:=⟨0,(an:Int)-1⟩,az:=np,bV:=jg}) jy:=Z.put nT pB JE rfl rfl rfl rfl rfl;refine⟨Z.ch yI M,λk2 SR=>?_⟩;have kY:af w qZ [] (Z {s with aJ:=q,dc:=t,aq:=⟨0,(an:Int)-1⟩,az:=np,bV:=jg,bA:=nR}) k2:=Z.put yI SR OU rfl rfl rfl rfl rfl;refine⟨Z.ch kY M,λoz SS nX oR=>?_⟩;have vy:af w qZ [] (Z {s with aJ:=q,dc:=t,aq:=⟨0,(an:Int)-1⟩,az:=np,bV:=jg,bA:=nR,cs:=lL}) oz:=Z.put kY SS FW rfl rfl rfl rfl rfl;refine af.pure GF (vy.below oR) λl7 rJ oT=>⟨h7,rfl,oT.O,λlK B3=>af.pure GF (rJ.below B3) λqO yJ HE=>⟨h7,rfl,HE.O,Z.ch yJ M,λkm Er=>?_⟩⟩
 have qI:af w qZ [] (Z {s with aJ:=q,dc:=t,aq:=⟨0,(an:Int)-1⟩,az:=np,bV:=jg,bA:=nR,cs:=lL,aN:=h7,bX:=h7}) km:=Z.put yJ Er (by show 33+36<=73;omega) rfl rfl rfl rfl rfl;refine⟨Z.ch qI M,λln SW w' hb _=>⟨rfl,?_⟩⟩;have Fk:af w qZ [] (Z {s with aJ:=q,dc:=t,aq:=⟨0,(an:Int)-1⟩,az:=np,bV:=jg,bA:=nR,cs:=lL,aN:=h7,bX:=h7,vm:=[]}) ln:=Z.put qI SW OW rfl rfl rfl rfl rfl;refine⟨_,?_,?_,(Fk.below hb).at_,λi hi=>((Fk.below hb).own i hi).1⟩
 ·rfl
 ·show bl.mk s.an s.ai q.bu s.hi.r.aq np jg nR ⟨0,(an:Int)-1⟩ t.l lL h7 h7 s.jU [] s.iM s.dq t.ai=bl.mk s.an s.ai (IJ s.an.toNat s.ai.toNat) s.hi.r.aq np jg nR ⟨0,s.an-1⟩ (zn s.ai 0 []) lL h7 h7 s.jU [] s.iM s.dq s.ai
  rw[S5,pE,Ez,hr,hc];rfl
end
structure Kb(c:fJ):Prop where
 (de:1<=c.an) (c1:c.an<=1000) (bY:1<=c.ai) (c2:c.ai<=1000) (h1:0<=c.cl) (h2:c.cl<=1048576)
theorem akg{c:fJ}(h:Kb c):Pure X.N1 #[.agg c.T] (.bool true):=λw aj=>by
 refine ahC c λar g1=>⟨λ_=>⟨λ_=>⟨λ_=>⟨λ_=>⟨λ_=>aa.of λ_=>?_,λe=>absurd h.h1 M⟩,λe=>absurd h.c2 M⟩,λe=>absurd h.bY M⟩,λe=>absurd h.c1 M⟩,λe=>absurd h.de M⟩
 show Value.bool _=Value.bool _;rw[cD,l8 h.h2]
def aBw:Md:=⟨false,false,false,false,false,false,false,0,0⟩
def Lp(b:Nat)(c:fJ)(h:lx)(aJ:cS)(dc:xw):cN:=⟨b,c.an,c.ai,aJ,h,np,jg,aBw,aBz,dc,lL,h7,h7,[],[],[],0⟩
section
variable{w0 w w' w1:World}{F0:Nat->Prop}{bs:List Nat}{o o':I}{bM bq:List I}{R:Ending->World->Prop}{f:FuncId}{args:Array Value}{s s':cN}{t hv:kH}
def aiS(w0:World)(q:bl)(v:Value)(w:World):Prop:=∃s:cN,v= .tuple #[s.ptr, .int .i64 0]/\s.av=q/\(Z s).P w/\∀i,(Z s).F i->w0.heap.size<=i
theorem atM{c:fJ}(aj:Laid w)(h:Kb c):bI Tryz.prog X.Vv #[.agg c.T] w bg (aiS w (IH c.an c.ai ⟨c.cl.toNat,64,0,0,[]⟩ [] [] 0)):=by
 have hY:=aj.size;have Nj:cS:=⟨0,⟨0,0,none,0,[]⟩,⟨0,0,none,0,[]⟩,0,0,none⟩;have OD:xw:=⟨0,0,0,[]⟩;refine ay7 c λar g1 w1 hb1 fb=>(akg h).aH (Laid.below hb1 aj) λad aK hU=>⟨_,rfl,aK.O,λe=>(nomatch e),λ_ bw bp fN=>?_⟩
 have pw:=Laid.below bp hU;have k3:U bg w bw:=((U.au hb1).trans aK).trans (U.au bp);have hN:=as3 (n:=c.cl.toNat) pw (by have:=h.h2;omega);rw[show((c.cl.toNat:Nat):Int)=c.cl by have:=h.h1;omega] at hN;refine hN.aH λv bD k4 ⟨hi,ah,q1,q2,cz⟩=>?_
 subst ah;refine⟨_,_,rfl,k4.O,λe=>absurd rfl e,λ_ aQ g2 bP hb5 fE fQ oq=>?_⟩;have adA:w.heap.size<=bw.heap.size:=k3.size;have ec:ar<bw.heap.size:=cB.all fN ar aS;have dW:U bg w bP:=(k3.trans k4).trans (U.au hb5);have adB:=(U.au (hb5)).size;have anT:jk bP hi:=q2.below hb5;have St:∀i,qU hi i->i<bD.heap.size:=λi dS=>q2.lt dS
 have t0:af w bg [ar] (I.sep [I.cl hi,I.none,I.aF aQ G.fi (rG (.pointer none) (.pointer none) (Lp aQ c hi Nj OD)),I.none]) bP:=by
  refine⟨pw.ax (k4.trans (U.au hb5)) (λi e=>e.elim),dW,?_,?_⟩
  ·refine⟨?_,?_⟩
   ·intro o ho
    simp only[e7,ns,nt] at ho;rcases ho with rfl|rfl|rfl|rfl
    ·exact anT
    ·trivial
    ·exact⟨fQ.2,ek hY fQ.1⟩
    ·trivial
   ·simp only[xd,e7,ns,nt,X3,forall_eq]
    refine⟨⟨λi _ e=>e,λi dS e=>?_,λi _ e=>e⟩,⟨λi e=>e.elim,λi e=>e.elim⟩,λi _ e=>e,by simp,List.Pairwise.nil⟩;have e':i=aQ:=e;have:=St i dS;omega
  ·rintro i ⟨o,ho,e⟩
   simp only[e7,ns,nt] at ho;rcases ho with rfl|rfl|rfl|rfl
   ·have:=cz i e
    exact⟨.inr M,by simp;omega⟩
   ·exact e.elim
   ·have e':i=aQ:=e
    have:=k4.size;exact⟨.inr (by rw[e'];exact fQ.1),by simp;omega⟩
   ·exact e.elim
 have h1:=h.de;have h2:=h.c1;have aw:=h.bY;have aZ:=h.c2;refine af.call (o:=xt (Lp aQ c hi Nj OD)) [] [] (af.mid [] [I.cl hi,I.none,I.aF aQ G.fi (rG (.pointer none) (.pointer none) (Lp aQ c hi Nj OD)),I.none] [] t0) (by simpa using fE.2.lt) (λa b=>at6 (s:=Lp aQ c hi Nj OD) (an:=c.an.toNat) (ai:=c.ai.toNat) b a (by show c.an=_;omega) (by show c.ai=_;omega) M M M M) λv cu ⟨ah,s',e1,e2,e3,e4⟩ hs=>?_
 obtain⟨eJ,fj⟩:=hs (Z s') e3 e4;subst ah;have C7:af w bg [ar] (Z s') cu:=eJ.conv (o':=Z s') (eJ.at_.1 _ aS) (λi hi=>⟨Z s',by simp,hi⟩);have hw:=(af.get [I.cl s'.hi,I.stops s'.dc] [bE s'.aJ] C7).1;rw[e1] at hw;refine⟨_,rfl,fj,_,_,_,_,_,_,_,_,_,_,_,_,_,_,_,_,_,_,_,_,_,_,_,_,_,_,_,_,_,_,_,_,_,_,_,_,_,_,_,_,_,_,_,_,_,_,_,_,_,_,_,_,_,_,_,_,_,_,_,_,_,_,_,_,_,_,_,_,_,_,_,_,_,hw,λw7 c8 e_ hE iQ=>⟨s',?_,?_,(C7.below c8).at_,λi hi=>?_⟩⟩
 ·show Value.tuple #[Value.pointer (some ⟨aQ,0,none⟩),_]=_
  unfold cN.ptr;rw[e1];rfl
 ·rw[e2]
  show IH c.an c.ai hi.r.aq [] [] 0=_;rw[q1]
 ·exact((C7.own i hi).1).resolve_left λe=>e
end
def AS:iF:=⟨⟨none,0,[],0,0,0⟩,0,0,[],Dx,none,0,[]⟩
def tz(c:fJ):fJ:=⟨max 1 (min c.an 1000),max 1 (min c.ai 1000),max 0 (min c.cl 1048576)⟩
theorem QM(c:fJ):Kb (tz c):=by
 unfold tz;exact⟨by dsimp only;omega,by dsimp only;omega,by dsimp only;omega,by dsimp only;omega,by dsimp only;omega,by dsimp only;omega⟩
def II(c:fJ):iq:=⟨AS.bz,IH (tz c).an (tz c).ai ⟨(tz c).cl.toNat,64,0,0,[]⟩ [] [] 0,(tz c).an.toNat,0⟩
theorem aBs:qS AS.bz.d:= .inl rfl
theorem aBy{w:World}{b:Nat}(h:Whole w b G.CT AS.cells)(hb:Y.dZ<=b):eh w b AS:=
 ⟨h,bF.nil _ _ _ _,bF.nil _ _ _ _,λ⟨a,ha,_⟩=>F2,λ⟨a,ha,_⟩=>F2,aBs,Pf,hb,ef _,ef _⟩
theorem aBx:pq AS.bz:=⟨⟨λx hx=>JH,ef _⟩,Pf,ef _⟩
theorem ark{c:fJ}(h:Kb c){n m p:Nat}:b5 0 (IH c.an c.ai ⟨n,m,0,0,[]⟩ [] [] 0):=by
 have h1:=h.de;have h2:=h.c1;have aw:=h.bY;have aZ:=h.c2;have hg:=aeX (an:=c.an.toNat) (ai:=c.ai.toNat) M;rw[show((c.an.toNat:Nat):Int)=c.an by omega,show((c.ai.toNat:Nat):Int)=c.ai by omega] at hg;exact{de:=h1,c1:=h2,bY:=aw,c2:=aZ,aR:=hg,g1:=hg,u:=ef _,k:=λs e=>mR,mX:=n4 0,mY:=by show(0:Int)<c.an;omega,mV:=n4 0,mW:=by show(0:Int)<c.ai;omega,d':=λe=>mR,bV:=IT,bA:=(show kT nR=true by decide),iB:=n4 0,t2:=by show(0:Int)<=c.an-1;omega,t3:=by show c.an-1<c.an;omega,cs:=Um,aN:=CQ,bX:=CQ,iL:=cL 0,sZ:=ef _,jx:=rfl}
theorem aeY(c:fJ):uH 0 (II c):=⟨ark (QM c) (p:=0),aBx,rfl,by have h1:=(QM c).de;show(((tz c).an.toNat:Nat):Int)=(tz c).an;omega⟩
section
variable{w0 w w' w1:World}{F0:Nat->Prop}{bs:List Nat}{o o':I}{bM bq:List I}{R:Ending->World->Prop}{f:FuncId}{args:Array Value}{s s':cN}{t hv:kH}
def aiT(w0:World)(q:iq)(v:Value)(w:World):Prop:=∃t:kH,v=t.ptr/\t.lJ=q/\(dL t).P w/\∀i,(dL t).F i->w0.heap.size<=i
theorem auA{c:fJ}(aj:Laid w):bI Tryz.prog X.WL #[.agg c.T] w bg (aiT w (II c)):=by
 have hY:=aj.size;have fc:=QM c;have h1:=fc.de;have h2:=fc.c1;refine aAp c λar g1 w1 hb1 fb=>Qx.aH (Laid.below hb1 aj) λad aK hU=>⟨_,rfl,aK.O,λbw bp fN=>Qx.aH (Laid.below bp hU) λbD k4 kL=>⟨_,rfl,k4.O,λbP hb5 om=>Qx.aH (Laid.below hb5 kL) λcu fj sl=>⟨_,rfl,fj.O,λw7 anw mh=>?_⟩⟩⟩
 have Il:U bg w cu:=((((((U.au hb1).trans aK).trans (U.au bp)).trans k4).trans (U.au hb5)).trans fj);have aDk:=Il.size;have aea:=Go.Proofs.YtimbpmnbbfeogaaGreatDoor.dV.ax anw;have nJ:Laid w7:=sl.ax aea λi hi=>(by have:i=ar:=JF;omega)
 have TM:U bg w w7:=Il.after aea λi hlt hi=>(by have:i=ar:=JF;exact absurd hlt M)
 have aDl:=TM.size;have aos:ar<w7.heap.size:=cB.all mh ar aS;refine(atM (c:=tz c) nJ fc).aH λv cW fu ⟨s,ah,q1,q2,cz⟩=>?_
 subst ah;refine⟨_,_,rfl,fu.O,λcR cr dO=>?_⟩;have wt:=Laid.below cr (Laid.O fu nJ);have cY:=auK (n:=(tz c).an.toNat) wt M M;rw[show(((tz c).an.toNat:Nat):Int)=(tz c).an by omega] at cY;refine cY.aH λv gn fZ ⟨cd,ah,de,c1,r3,r4⟩=>?_
 subst ah;refine⟨_,_,rfl,fZ.O,λe=>absurd rfl e,λ_=>⟨λe=>absurd rfl e,λ_ aQ g2 cH g3 hC fs lF fE fQ MM=>?_⟩⟩;have MB:U bg w7 cR:=fu.trans (U.au cr);have aDm:=MB.size;have aDn:=fu.size;have aDj:=fZ.size;have ap3:U bg cW hC:=((U.au cr).trans fZ).trans (U.au fs);have adg:(Z s).P hC:=(Z s).O q2 ap3;have Su:∀i,(Z s).F i->i<cW.heap.size:=λi hi=>(Z s).lt q2 hi
 have apw:jD hC cd:=r3.below fs;have hvl:cd.b<gn.heap.size:=r3.lt;have aDo:cW.heap.size<=cR.heap.size:=(U.au cr).size;have hne:aQ≠cH:=λe=>by
  subst e;have a:=fQ.2;have b:=MM.2;unfold Whole at a b;rw[a] at b;injection b with b
  injection b with b1 b2
  exact absurd b2 du
 have fa:=nJ.size;refine⟨⟨cH,aQ,AS,s,cd⟩,rfl,?_,⟨?_,?_⟩,?_⟩
 ·show iq.mk AS.bz s.av cd.an cd.dD=_
  rw[q1,de,c1];rfl
 ·intro o ho
  simp only[e7,ns,nt] at ho;rcases ho with rfl|rfl|rfl|rfl
  ·exact aBy fQ.2 M
  ·exact apw
  ·exact⟨MM.2,by omega⟩
  ·exact adg
 ·have nN:∀i,rX aQ AS i->i=aQ:=by
   rintro i (e|⟨a,ha,_⟩|⟨a,ha,_⟩)
   ·exact e
   ·cases ha
   ·cases ha
  simp only[xd,e7,ns,nt,X3,forall_eq];refine⟨⟨λi hi e=>?_,λi hi e=>?_,λi hi e=>?_⟩,⟨λi hi e=>?_,λi hi e=>?_⟩,λi hi e=>?_,by simp,List.Pairwise.nil⟩
  ·have a:=nN i hi;have b:i=cd.b:=e;omega
  ·have a:=nN i hi;have b:i=cH:=e;omega
  ·have a:=nN i hi;have b:=Su i e;omega
  ·have a:i=cd.b:=hi;have b:i=cH:=e;omega
  ·have a:i=cd.b:=hi;have b:=Su i e;omega
  ·have a:i=cH:=hi;have b:=Su i e;omega
 ·rintro i ⟨o,ho,e⟩
  simp only[e7,ns,nt] at ho;rcases ho with rfl|rfl|rfl|rfl
  ·rcases e with e|⟨a,ha,_⟩|⟨a,ha,_⟩
   ·rw[e];exact fQ.1
   ·cases ha
   ·cases ha
  ·have a:i=cd.b:=e;omega
  ·have a:i=cH:=e;rw[a];exact MM.1
  ·have a:=cz i e;omega
end
theorem aed{ab:List Li}{q:bl}:(nQ ab q).an=q.an:=by unfold nQ;split<;>rfl
theorem TF{q:bl}:(kS q).an=q.an:=aed
theorem aBh{dT:Int}{q:bl}:(k5 dT q).an=q.an:=by
 unfold k5
 repeat' (first|rfl|split)
theorem aBj{q:bl}:(nY q).an=q.an:=by
 show(k5 _ _).an=_;rw[aBh];exact TF
theorem ar9{q:bl}{r:Int}:(vu r q).an=q.an:=by
 unfold vu;split
 ·rfl
 ·split
  ·rfl
  ·show(if _ then nY q else q).an=_
   split
   ·exact aBj
   ·rfl
theorem alW{q:bl}{r:Int}:(qe r q).an=q.an:=by
 unfold qe
 repeat' split
 all_goals first|exact TF|rfl
theorem V9{k:Nat}{x:eL}{q:bl}:(qK k x q).an=q.an:=agZ.1
theorem alR{q:bl}{r:Int}{i:List UInt8}:(nI r i q).an=q.an:=by
 unfold nI sf
 repeat' split
 all_goals first|exact V9|exact TF|rfl
theorem awp{n:Int}{on:Bool}{q:bl}:(rM n on q).an=q.an:=by
 unfold rM
 repeat' split
 all_goals rfl
theorem aq8{pre:Int}{on:Bool}{l:List Int}:∀{q:bl},(t_ pre on l q).an=q.an:=by
 induction l with
 |nil=>exact rfl
 |cons n l ih=>
  intro q;show(t_ pre on l (pJ pre n on q)).an=_;rw[ih];unfold pJ
  repeat' split
  all_goals first|rfl|exact awp
theorem akz{q:bl}{r:Int}{l:List Int}:(Br r l q).an=q.an:=aed
theorem akC{q:bl}{r:Int}{l:List Int}:(oM r l q).an=q.an:=by
 unfold oM
 repeat' split
 all_goals first|exact akz|exact V9|rfl
theorem arb{q:bl}{r:Int}{l:List Int}:(mH r l q).2.an=q.an:=by
 unfold mH
 repeat' split
 all_goals rfl
theorem awa{q:bl}:(FD q).an=q.an:=by
 show(qK _ _ _).an=_;rw[V9]
theorem ak5{q:bl}{r pre:Int}{i:List UInt8}{l:List Int}:(oO r pre i l q).an=q.an:=by
 unfold oO xH
 repeat' split
 ·exact awa
 ·rfl
 ·exact aq8
 ·rfl
 ·exact arb
 ·exact akC
theorem akN{q:bl}{bK:gN}{t:List UInt8}:(r_ bK t q).an=q.an:=by
 unfold r_
 repeat' split
 all_goals rfl
theorem Gu{q:bl}{t:List UInt8}:(uK t q).an=q.an:=by unfold uK;split<;>rfl
theorem ajg{q:bl}{bK:gN}{x:fH}:(k9 bK x q).an=q.an:=by
 unfold k9 xz
 repeat' split
 ·rw[ar9,Gu]
 ·rw[alW,Gu]
 ·rw[alR,Gu]
 ·rw[ak5,Gu]
 ·rw[akN,Gu]
theorem alj{q:bl}{bK:gN}{x:fH}:(BA bK x q).an=q.an:=ajg
theorem agw{bK:gN}:∀(l:List fH) (a:iq×Int) {N:Nat},(∀x∈l,Gd x)->uH N a.1->uH (N+1000*l.length) (kX bK l a).1
 |[],a,N,_,h=>h
 |x::l,a,N,hl,h=>by
  have hx:=hl x (kB ..);have h1:uH (N+1000) (Ok bK a x).1:=⟨aaP h.av hx.ok,h.bz,rfl,by show(a.1.an:Int)=(BA bK x a.1.av).an;rw[alj];exact h.an⟩;have h2:=agw (bK:=bK) l (Ok bK a x) (λy hy=>hl y (jt _ hy)) h1;have e:N+1000*(x::l).length=N+1000+1000*l.length:=by rw[ko];omega
  rw[e];exact h2
theorem ah7{bK:gN}{bs:List Int}{q:iq}{N:Nat}(h:uH N q):uH (N+1000*(gC bs q.bz).2.length) (pS bK bs q).1:=by
 have hj:=ah6 h.bz bs;exact agw _ _ hj.2 ⟨h.av,hj.1,h.aft,h.an⟩
theorem aBo{q:da}(h:kF q)(hd:qS q.d)(bs:List Int):(gC bs q).2.length<=4*bs.length:=by
 have h1:=(Lk hd bs).2;have h2:=(ah5 (q:=q.iN (gz bs q.d).1) ⟨h.f',h.int⟩ (gz bs q.d).2).2;unfold gC;omega
variable{w0:World}{F:Nat->Prop}{Q:Value->World->Prop}
theorem axf(c:fJ)(UA:ao)(IM aat:Nat)(h:aG w0 λa=>aG w0 λb=>bG 4096 IM (aa w0 F w0 Q (.tuple #[.agg #[.slice none 0 0,D 0,D 0,D 0,D 0,D 0,D 0, .bool false, .bool false, .bool false, .bool false, .bool false, .bool false, .bool false, .bool false,D 0,D 0,D 0, .int .u8 0, .int .u8 0, .int .u8 0, .int .u8 0,D 0, .int .u8 0, .int .u8 0, .int .u8 0, .int .u8 0, .int .u8 0, .string ⟨[].toArray⟩], .string ⟨[].toArray⟩,D 5])) (a7 w0 F [a,b] w0 [(a,G.im),(b,G.jX)] X.WL #[.agg c.T] .pointer λf g=>∃i:Int->Option Addr->Nat->Nat->Int->Int->Int->Int->Int->Int->Bool->Bool->Bool->Bool->Bool->Bool->Bool->Bool->Int->Int->Int->Int->Int->Int->Int->Int->Int->Int->Int->Int->Int->List UInt8->World->Prop,∃j:Int->Option Addr->Nat->Nat->Int->Int->Int->Int->Int->Int->Bool->Bool->Bool->Bool->Bool->Bool->Bool->Bool->Int->Int->Int->Int->Int->Int->Int->Int->Int->Int->Int->Int->Int->List UInt8->Nat,(bm f λk=>i 0 none 0 0 0 0 0 0 0 0 false false false false false false false false 0 0 0 0 0 0 0 0 0 0 0 0 0 [] k)/\∀k:Int,∀l:ao,∀m n:Nat,∀o p q r s t:Int,∀u v x y z A B C:Bool,∀aD E bT ak bo J K L bj N eE P R:Int,∀S:List UInt8,∀er:World,U F w0 er->i k l m n o p q r s t u v x y z A B C aD E bT ak bo J K L bj N eE P R S er->bG k IM (∃V:Addr,UA=(some V)/\hG k IM/\∃W:ao,∃Y a1:Nat,At er V ((Int.toNat k)*1) [.slice W Y a1]/\cC w0 er [(a,G.im),(b,G.jX)] X.Ox #[.pointer g, .slice W Y a1] λgd fq ac=>∃aB jE:Int,bW fq (.tuple #[D aB,D jE]) w0 F [a,b] gd ac ((jE≠0->bn w0 F ac [b] Q (.tuple #[.agg #[.slice none 0 0,D 0,D 0,D 0,D 0,D 0,D 0, .bool false, .bool false, .bool false, .bool false, .bool false, .bool false, .bool false, .bool false,D 0,D 0,D 0, .int .u8 0, .int .u8 0, .int .u8 0, .int .u8 0,D 0, .int .u8 0, .int .u8 0, .int .u8 0, .int .u8 0, .int .u8 0, .string ⟨[].toArray⟩], .string ⟨[].toArray⟩,D jE]))/\(jE=0->ay (k+1)/\bm ac λkq=>i (k+1) l m n o p q r s t u v x y z A B C aD E bT ak bo J K L bj N eE P R S kq/\j (k+1) l m n o p q r s t u v x y z A B C aD E bT ak bo J K L bj N eE P R S<j k l m n o p q r s t u v x y z A B C aD E bT ak bo J K L bj N eE P R S))) (a7 w0 F [a,b] er [(a,G.im),(b,G.jX)] X.Ow #[.pointer g] awL λY a1=>a7 w0 F [a,b] Y [(a,G.im),(b,G.jX)] X.Ov #[.pointer g] (λaB:List UInt8=> .string ⟨aB.toArray⟩) λac aB=>bn w0 F ac [b] Q (.tuple #[.agg a1.T, .string ⟨aB.toArray⟩,D 0])))):aO X.Bs #[.agg c.T, .slice UA IM aat] w0 F Q:=eV [⟨5,[20],[1]⟩] [] [.agg (fJ.bN.enc c), .cJ UA IM aat] h
theorem ahv(c:fJ)(cm:ao)(nb db:Nat)(CX:ao)(yq DN:Nat)(h:aG w0 λa=>cC w0 w0 [(a,G.im)] X.q_ #[.slice cm nb db, .slice CX yq DN] λb d e=>∃f:ao,∃g i:Nat,∃j,bW d (.tuple #[.slice f g i,D j]) w0 F [a] b e (DA w0 F Q j e/\(j=0->∀k:World,∀l:Nat,cX e [] G.Fl [.slice cm nb db] k l->¬(l∈[a])->cC w0 k [(a,G.im)] X.Bs #[.agg c.T, .slice (some ⟨l,0,none⟩) 1 1] λm n o=>∃p:ly,∃q:List UInt8,∃r,bW n (.tuple #[.agg p.T, .string ⟨q.toArray⟩,D r]) w0 F [a] m o (aG o λs=>DA w0 F Q r o/\(r=0->cC w0 o [(a,G.im),(s,G.jX)] X.Bs #[.agg c.T, .slice f g i] λt u v=>∃x:ly,∃y:List UInt8,∃z,bW u (.tuple #[.agg x.T, .string ⟨y.toArray⟩,D z]) w0 F [a,s] t v (aG v λA=>(z=0->a7 w0 F [a,s,A] v [(a,G.im),(s,G.jX),(A,G.jX)] X.WK #[.agg p.T, .agg x.T] .bool λaD E=>dQ E (aa w0 F aD Q (.tuple #[.bool (bL.val (.i_ (q=y))),D z])) (aa w0 F aD Q (.tuple #[.bool false,D z])))/\DA w0 F Q z v)))))):aO X.KV #[.agg c.T, .slice cm nb db, .slice CX yq DN] w0 F Q:=bh [.agg (fJ.bN.enc c), .cJ cm nb db, .cJ CX yq DN] h
end Go.Proofs.YtimbpmnbbfeogaaGreatDoor
namespace Go.Proofs.YtimbpmnbbfeogaaGreatDoor
open Go Go.RowKit Go.Sy Go.Rep
def og(hs:List n7):List Value:=hs.map λh=> .slice h.p h.n h.c
structure mB(w:World)(p:ao)(n:Nat)(hs:List n7)(ab:List (List Int)):Prop where
 row:Row w p n 1 (og hs)
 same:ab.length=n
 eG:∀(k:Nat) (h:n7) (l:List Int),hs[k]? =some h->ab[k]? =some l->Row w h.p h.n 1 (eU l)/\l.length=h.n/\h.n<=1048576/\∀a,h.p=some a->a.block<w.heap.size
def yG(bK:gN)(ab:List (List Int))(q:iq):iq:=ab.foldl (λq b=>(pS bK b q).1) q
def pR(ab:List (List Int)):Nat:=(ab.map List.length).sum
theorem avn{bK:gN}{ab:List (List Int)}{q:iq}{i:Nat}{l:List Int}(h:ab[i]? =some l):yG bK (ab.take (i+1)) q=(pS bK l (yG bK (ab.take i) q)).1:=by
 rw[ny,h];unfold yG;rw[xf];rfl
theorem ahl{ab:List (List Int)}{i:Nat}{l:List Int}(h:ab[i]? =some l):pR (ab.take (i+1))=pR (ab.take i)+l.length:=by
 rw[ny,h];unfold pR;rw[l9,List.sum_append];simp
theorem ahk{ab:List (List Int)}(i:Nat):pR (ab.take i)<=pR ab:=by
 have:pR ab=pR (ab.take i)+pR (ab.drop i):=by
  unfold pR;rw[<-List.sum_append,<-l9,AV]
 omega
section
variable{w0 w w' w1:World}{F0:Nat->Prop}{bs:List Nat}{o o':I}{bM bq:List I}{R:Ending->World->Prop}{f:FuncId}{args:Array Value}{s s':cN}{t hv:kH}
def nB(bK:gN)(c:fJ)(ab:List (List Int)):iq:=yG bK ab (II c)
def aiR(w0:World)(q:iq)(v:Value)(w:World):Prop:=∃p k ys,v= .tuple #[.agg ((l5 q).o_ ⟨p,ys.length,k⟩).T, .string ⟨q.av.iM.toArray⟩, .int .i64 0]/\dE w p ys.length k ys/\bJ ys=(l5 q).lines/\(∀i,fA p ys i->w0.heap.size<=i)/\∀y∈ys,y.cs.length<=1000
theorem I1{bK:gN}{c:fJ}{p:ao}{n k:Nat}{hs:List n7}{ab:List (List Int)}(ez:xv bK)(aj:Laid w)(hp:mB w p n hs ab)(ya:∀a,p=some a->a.block<w.heap.size)(hn:n<=4096)(adf:pR ab<=1048576)(apv:∀l∈(l5 (nB bK c ab)).lines,l.cs.length<=1000):
  bI Tryz.prog X.Bs #[.agg c.T, .slice p n k] w bg (aiR w (nB bK c ab)):=by
 have hlen:hs.length=n:=by have:=hp.row.len;unfold og at this;rw[gw] at this;omega
 have HU:=hp.same;refine axf c p n k λar g1 aQ g2=>⟨λe=>by omega,λ_ w1 hb1 fb=>(auA (c:=c) (Laid.below hb1 aj)).aH λv ad aK ⟨t0,ah,e1,e2,e3⟩=>?_⟩
 subst ah;have hz1:w.heap.size<=w1.heap.size:=(U.au hb1).size;have gA:aQ<w1.heap.size:=cB.all fb aQ aS;have ec:ar<w1.heap.size:=cB.all fb ar aS;have aX:af w bg [ar,aQ] (dL t0) ad:=⟨Laid.O aK (Laid.below hb1 aj),(U.au hb1).trans aK,e2,λi hi=>⟨.inr (by have:=e3 i hi;omega),by have:=e3 i hi;simp;omega⟩⟩;refine⟨_,rfl,aK.O,λeA _ _ _ _ _ _ _ _ _ _ _ _ _ _ _ _ _ _ _ _ _ _ _ _ _ _ _ _ _ _ _ V=>0<=eA/\eA<=n/\∃t:kH,t.b=t0.b/\t.lJ=yG bK (ab.take eA.toNat) (II c)/\uH (4000*pR (ab.take eA.toNat)) t.lJ/\af w bg [ar,aQ] (dL t) V,λeA _ _ _ _ _ _ _ _ _ _ _ _ _ _ _ _ _ _ _ _ _ _ _ _ _ _ _ _ _ _ _=>((n:Int)-eA).toNat,λV hb=>⟨by omega,by omega,t0,rfl,e1,by rw[e1];exact aeY c,aX.below hb⟩,?_⟩;rintro eA cA cH eO i2 i3 i4 i5 zT zU b1 b2 b3 p8 xC zb nF Bg i8 i9 tQ nP sF adF aDp aDq i16 aDr aDs aDt i20 b8 bw _ ⟨a0,dd,t,Tf,adl,Cr,eb⟩;have mi:t.ptr=t0.ptr:=by unfold kH.ptr;rw[Tf]
 refine⟨λhi=>?_,λhi bD eR zH=>?_⟩
 ·obtain⟨h,hh⟩:∃h,hs[eA.toNat]? =some h:=⟨_,el M⟩
  obtain⟨l,hl⟩:∃l,ab[eA.toNat]? =some l:=⟨_,el M⟩;obtain⟨de,c1,r3,r4⟩:=hp.eG _ _ _ hh hl;have hrow:Row bw p n 1 (og hs):=Row.ax hp.row eb.kept λ_ _ e=>e
  obtain⟨aB,xM⟩:=hrow.iP M
  have dB:At bw aB (eA.toNat*1) [.slice h.p h.n h.c]:=hrow.at_ xM _ (by
   unfold og;rw[oC];have hlt:eA.toNat<(hs.map λh=>Value.slice h.p h.n h.c).length:=by rw[gw];omega
   rw[mw hlt,JL];have hg:hs[eA.toNat]'M=h:=by
    have:=el (l:=hs) (i:=eA.toNat) M;rw[hh] at this;injection this with this
    exact this.symm
   rw[hg]
   rfl)
  refine⟨aB,xM,⟨a0,hi⟩,h.p,h.n,h.c,dB,λcR cr dO=>?_⟩;have fl:=eb.below cr;have R4:=(dL.a_ fl).BB;have aB':=aBo Cr.bz.i R4 l;have hsl:=ahl hl;have apb:=ahk (ab:=ab) (eA.toNat+1);have RW:(dL t).P cR->Laid cR->bI Tryz.prog X.Ox #[t0.ptr, .slice h.p h.n h.c] cR (dL t).F (λv w'=>v= .tuple #[.int .i64 (pS bK l t.lJ).2, .int .i64 0]/\fK dL cR t (λhv=>hv.b=t.b/\hv.lJ=(pS bK l t.lJ).1) w'):=by
   intro a b;rw[<-mi];refine auD ez b a Cr.av Cr.bz Cr.aft (Row.ax de fl.kept λ_ _ e=>e) c1 r3 (λa e bk=>?_) ?_
   ·have aZ:=r4 a e
    exact((fl.own _ bk).1).elim (λu=>u) λu=>by omega
   ·show 4000*_+1000*((gC l t.lJ.bz).2.length+1)<=_
    omega
  refine af.Bq (mI:=dL) (fC:=λv=>v= .tuple #[.int .i64 (pS bK l t.lJ).2, .int .i64 0]) fl (cB.all dO) RW λv gn hv ah ⟨f1,f2⟩ lH fZ=>?_
  subst ah;refine⟨_,_,rfl,fZ,λe=>absurd rfl e,λ_=>⟨by unfold ay;omega,λhC fs=>⟨⟨by omega,by omega,hv,f1.trans Tf,?_,?_,lH.below fs⟩,by show((n:Int)-(eA+1)).toNat<((n:Int)-eA).toNat;omega⟩⟩⟩
  ·rw[f2,adl,show(eA+1).toNat=eA.toNat+1 by omega,avn hl]
  ·have hw:=ah7 (bK:=bK) (bs:=l) Cr
   rw[f2,show(eA+1).toNat=eA.toNat+1 by omega,hsl];exact{hw with av:=hw.av.cZ M}
 ·have hrun:t.lJ=nB bK c ab:=by rw[adl,jh M];rfl
  have cg:=eb.below eR;have apd:bI Tryz.prog X.Ow #[t0.ptr] bD bg (Zc bD (l5 t.lJ)):=by
   rw[<-mi];exact auC cg.laid cg.at_ Cr
  refine apd.aH λv bP dW ⟨q,d,ys,ah,f1,f2,lU⟩=>?_
  subst ah;have ey:=cg.O dW;have adA:w.heap.size<=bD.heap.size:=cg.kept.size;have aCE:aQ<bD.heap.size:=cB.all zH aQ aS;refine⟨_,rfl,dW.O,λcu ep oX=>?_⟩;have eJ:=ey.below ep;have aoU:(dL t).P cu->Laid cu->bI Tryz.prog X.Ov #[t0.ptr] cu (dL t).F (λv w'=>v= .string ⟨t.b8.iM.toArray⟩/\fK dL cu t (λhv=>hv.b=t.b/\hv.lJ=ae5 t.lJ) w'):=by
   intro a b;rw[<-mi];exact auB b a Cr.av.sZ
  have St:∀i,(dL t).F i->i<bD.heap.size:=λi hi=>(dL t).lt cg.at_ hi
  refine(aoU eJ.at_ eJ.laid).aH λv w7 fe ⟨ah,hv,⟨aBJ,aBL⟩,hP,bc⟩=>?_
  subst ah;have e_:eC w.heap.size bg [ar,aQ] cu w7:=fe.kept (λi hi hlt=>by have:=(eJ.own i hi).1;exact this.elim (λu=>u) λu=>by omega) λi hi _=>(eJ.own i hi).2
  refine⟨_,rfl,e_,λw' he an0=>⟨q,d,ys,?_,?_,?_,λi hi=>ek adA (lU i hi),?_⟩⟩
  ·rw[<-hrun]
   rfl
  ·refine((f1.O (U.au ep)).ax fe λi hi bk=>?_).ax (Go.Proofs.YtimbpmnbbfeogaaGreatDoor.dV.ax he) λi hi bk=>?_
   ·have:=lU i bk
    have:=St i hi;omega
   ·have:=lU i bk
    have:i=aQ:=by simpa using hi
    omega
  ·rw[f2,hrun]
  ·intro y hy
   refine apv y.jT ?_;rw[<-hrun,<-f2];exact lr.2 ⟨y,hy,rfl⟩
end
def both(d:iE)(p:da×List fH):da×List fH:=(p.1.iN d,p.2)
theorem v8{d:iE}{c:Prop}[Decidable c]{a b:da×List fH}:both d (if c then a else b)=if c then both d a else both d b:=by split<;>rfl
theorem awk(d:iE)(r:Int)(q:da):mQ r (q.iN d)=both d (mQ r q):=by
 unfold mQ;rw[v8,v8,v8];rfl
theorem aap(d:iE)(r:Int)(q:da):pt r (q.iN d)=(pt r q).iN d:=by
 unfold pt;show(if q.bS.length<=2 then _ else _)=_;split<;>rfl
theorem alL(d:iE)(r:Int)(q:da):kr r (q.iN d)=both d (kr r q):=by
 unfold kr;simp only[v8];have h:=aap d r ⟨q.d,2,q.pre,q.bS,q.q,q.cE⟩;have h2:pt r ⟨(q.iN d).d,2,(q.iN d).pre,(q.iN d).bS,(q.iN d).q,(q.iN d).cE⟩=(pt r ⟨q.d,2,q.pre,q.bS,q.q,q.cE⟩).iN d:=h;rw[h2];rfl
theorem ali(d:iE)(r:Int)(q:da):uU r (q.iN d)=both d (uU r q):=by
 unfold uU;simp only[v8];rfl
theorem akZ(d:iE)(r:Int)(q:da):jn r (q.iN d)=both d (jn r q):=by
 unfold jn;simp only[v8];have h2:pt r ⟨(q.iN d).d,5,(q.iN d).pre,(q.iN d).bS,(q.iN d).q,(q.iN d).cE⟩=(pt r ⟨q.d,5,q.pre,q.bS,q.q,q.cE⟩).iN d:=aap d r ⟨q.d,5,q.pre,q.bS,q.q,q.cE⟩;rw[h2,ali];rfl
theorem awu(d:iE)(r:Int)(q:da):uq r (q.iN d)=both d (uq r q):=by
 unfold uq;simp only[v8];rw[alL,akZ];have:uY r (q.iN d)=both d (uY r q):=by
  unfold uY;rw[v8];rfl
 rw[this];rfl
theorem T3(d:iE)(r:Int)(q:da):fh r (q.iN d)=both d (fh r q):=by
 unfold fh;simp only[v8];rw[awu,awk];rfl
theorem awe(d:iE)(r:Int)(q:da):l6 r (q.iN d)=both d (l6 r q):=by
 unfold l6;rw[v8,T3,T3];show(if _ then((fh (r-64) ((fh 27 q).1.iN d)).1,_++(fh (r-64) ((fh 27 q).1.iN d)).2) else _)=_;rw[T3];rfl
theorem abk(d:iE):∀(rs:List Int) (q:da) (l:List fH),rs.foldl nZ (q.iN d,l)=both d (rs.foldl nZ (q,l))
 |[],q,l=>rfl
 |r::rs,q,l=>by
  show rs.foldl nZ (nZ (q.iN d,l) r)=_;have e:nZ (q.iN d,l) r=((l6 r q).1.iN d,l++(l6 r q).2):=by
   unfold nZ;rw[awe];rfl
  rw[e,abk d rs];rfl
theorem abj:∀(rs:List Int) (q:da) (l m:List fH),rs.foldl nZ (q,l++m)=((rs.foldl nZ (q,m)).1,l++(rs.foldl nZ (q,m)).2)
 |[],q,l,m=>rfl
 |r::rs,q,l,m=>by
  show rs.foldl nZ ((l6 r q).1,(l++m)++(l6 r q).2)=_;rw[ju,abj rs];rfl
theorem aBm(a b:List Int)(q:da):kz (a++b) q=((kz b (kz a q).1).1,(kz a q).2++(kz b (kz a q).1).2):=by
 unfold kz;rw[xf];have h:=abj b (a.foldl nZ (q,[])).1 (a.foldl nZ (q,[])).2 [];rw[nx] at h;exact h
theorem Xr(d:iE)(rs:List Int)(q:da):kz rs (q.iN d)=both d (kz rs q):=abk d rs q []
theorem aa':∀(bs:List Int) (q:iE) (l m:List Int),bs.foldl si (q,l++m)=((bs.foldl si (q,m)).1,l++(bs.foldl si (q,m)).2)
 |[],q,l,m=>rfl
 |r::rs,q,l,m=>by
  show rs.foldl si ((mr r q).1,(l++m)++(mr r q).2)=_;rw[ju,aa' rs];rfl
theorem al7(a b:List Int)(q:iE):gz (a++b) q=((gz b (gz a q).1).1,(gz a q).2++(gz b (gz a q).1).2):=by
 unfold gz;rw[xf];have h:=aa' b (a.foldl si (q,[])).1 (a.foldl si (q,[])).2 [];rw[nx] at h;exact h
theorem aBn(a b:List Int)(q:da):gC (a++b) q=((gC b (gC a q).1).1,(gC a q).2++(gC b (gC a q).1).2):=by
 have e1:gC a q=both (gz a q.d).1 (kz (gz a q.d).2 q):=Xr _ _ _;have e2:(gC a q).1.d=(gz a q.d).1:=by rw[e1];rfl
 have e3:gC b (gC a q).1=kz (gz b (gz a q.d).1).2 ((kz (gz a q.d).2 q).1.iN (gz b (gz a q.d).1).1):=by
  unfold gC at e2⊢;rw[e2];have e4:(kz (gz a q.d).2 (q.iN (gz a q.d).1))=both (gz a q.d).1 (kz (gz a q.d).2 q):=Xr _ _ _;rw[e4];rfl
 rw[e3,e1];unfold gC;rw[al7,aBm,Xr];rfl
theorem Vg{bK:gN}:∀(l:List fH) (p p':da) (q:bl) (r b:Nat) (n m:Int),(kX bK l (⟨p',q,r,b⟩,n)).1={(kX bK l (⟨p,q,r,b⟩,m)).1 with bz:=p'}
 |[],p,p',q,r,b,n,m=>rfl
 |x::l,p,p',q,r,b,n,m=>Vg l p p' _ _ _ _ _
theorem avo{bK:gN}(l m:List fH)(a:iq×Int):kX bK (l++m) a=kX bK m (kX bK l a):=by unfold kX;rw[xf]
theorem Vh{bK:gN}:∀(l:List fH) (a:iq×Int),(kX bK l a).1.bz=a.1.bz
 |[],a=>rfl
 |x::l,a=>Vh l _
theorem avp{bK:gN}(l:List fH)(q:iq)(n m:Int):(kX bK l (q,n)).1=(kX bK l (q,m)).1:=by
 have h:=Vg (bK:=bK) l q.bz q.bz q.av q.an q.dD n m;have e:{(kX bK l (⟨q.bz,q.av,q.an,q.dD⟩,m)).1 with bz:=q.bz}=(kX bK l (⟨q.bz,q.av,q.an,q.dD⟩,m)).1:=by
  have hs:=Vh (bK:=bK) l (⟨q.bz,q.av,q.an,q.dD⟩,m);have jo:(kX bK l (⟨q.bz,q.av,q.an,q.dD⟩,m)).1.bz=q.bz:=hs;generalize (kX bK l (⟨q.bz,q.av,q.an,q.dD⟩,m)).1=y at jo⊢;rw[<-jo]
 rw[e] at h;exact h
theorem aBp{bK:gN}(a b:List Int)(t:iq):(pS bK (a++b) t).1=(pS bK b (pS bK a t).1).1:=by
 have hp:(pS bK a t).1.bz=(gC a t.bz).1:=Vh _ _;unfold pS at hp⊢;rw[aBn,avo,hp];have h1:=Vg (bK:=bK) (gC a t.bz).2 (gC a t.bz).1 (gC b (gC a t.bz).1).1 t.av t.an t.dD 0 0;show(kX bK (gC b (gC a t.bz).1).2 ((kX bK (gC a t.bz).2 (⟨(gC b (gC a t.bz).1).1,t.av,t.an,t.dD⟩,0)).1,(kX bK (gC a t.bz).2 (⟨(gC b (gC a t.bz).1).1,t.av,t.an,t.dD⟩,0)).2)).1=_;rw[h1];exact avp _ _ _ _
theorem NS{bK:gN}:∀(ab:List (List Int)) (t:iq),yG bK ab t=(pS bK ab.flatten t).1
 |[],t=>rfl
 |l::ab,t=>by
  show yG bK ab (pS bK l t).1=_;rw[NS ab,JM,aBp]
theorem agt{bK:gN}(ab:List (List Int))(c:fJ):nB bK c ab=nB bK c [ab.flatten]:=by
 unfold nB;rw[NS,NS [ab.flatten],JM,List.flatten_nil,nx]
theorem agv{bK:gN}:∀(l:List fH) (a:iq×Int),a.1.dD=0->(kX bK l a).1.dD=0
 |[],a,h=>h
 |x::l,a,h=>agv l _ (by show xR a.1.dD _ _=0;rw[xR,aA h])
theorem avm{bK:gN}(ab:List (List Int))(t:iq)(h:t.dD=0):(yG bK ab t).dD=0:=by
 rw[NS];exact agv _ _ h
theorem avr{bK:gN}{c:fJ}{ab:List (List Int)}:(nB bK c ab).dD=0:=avm _ _ rfl
theorem agu{bK:gN}:∀(ab:List (List Int)) (t:iq) (N:Nat),uH N t->∃bj,uH bj (yG bK ab t)
 |[],t,N,h=>⟨N,h⟩
 |l::ab,t,N,h=>agu ab _ _ (ah7 h)
theorem av7{N:Nat}{q:iq}(h:uH N q)(hb:q.dD=0):∀l∈(l5 q).lines,l.cs.length<=1000:=by
 intro l hl;have hn:Dc q=0:=by
  unfold Dc;rw[hb];unfold qa;split
  ·rfl
  ·split
   ·omega
   ·rfl
 have hz:zY q.av.ah 0=[]:=by
  unfold zY I2;have e:∀(xs:List Li) (a b:Nat),a-b=0->True:=λ_ _ _ _=>trivial
  rw[List.drop_eq_nil_iff];simp only[kC,Nat.zero_min,F8];omega
 have kP:l∈Iw q.an (Dc q) q.av.ah (c6.aL q.av.bu).ab:=hl;rw[hn] at kP;unfold Iw at kP;rw[hz] at kP;have hm:l∈(c6.aL q.av.bu).ab:=by
  simp only[List.take_nil,pW] at kP;exact kA kP
 exact((CO _).1 (h.av.aL.ok l hm).2).1
theorem I8{bK:gN}{c:fJ}{ab:List (List Int)}:∀l∈(l5 (nB bK c ab)).lines,l.cs.length<=1000:=by
 obtain⟨bj,xV⟩:=agu (bK:=bK) ab (II c) 0 (aeY c);exact av7 xV avr
theorem FH(ab:List (List Int)):pR ab=ab.flatten.length:=by unfold pR;rw[List.length_flatten]
section
variable{w0 w w' w1:World}{F0:Nat->Prop}{bs:List Nat}{o o':I}{bM bq:List I}{R:Ending->World->Prop}{f:FuncId}{args:Array Value}{s s':cN}{t hv:kH}
theorem mB.O{p:ao}{n:Nat}{hs:List n7}{ab:List (List Int)}(h:mB w p n hs ab)(hk:U bg w w'):mB w' p n hs ab:=
 ⟨h.row.O hk,h.same,λk x l e1 e2=>by
  obtain⟨a,b,c,d⟩:=h.eG k x l e1 e2
  exact⟨a.O hk,b,c,λaB e=>gp (d aB e) hk.size⟩⟩
def YY(eM:List Int)(w0:World)(v:Value)(w:World):Prop:=∃p n k hs ab,v= .tuple #[.slice p n k, .int .i64 0]/\mB w p n hs ab/\(∀a,p=some a->a.block<w.heap.size)/\n<=4096/\ab.flatten=eM
theorem asE{bK:gN}{c:fJ}{cm CW:ao}{nb db CK jZ:Nat}{eM:List Int}(ez:xv bK)(aj:Laid w)(hb:Row w cm nb 1 (eU eM))(jG:eM.length=nb)(gH:∀a,cm=some a->a.block<w.heap.size)(oo:nb<=1048576)
  (hcut:∀w',Laid w'->U bg w w'->bI Tryz.prog X.q_ #[.slice cm nb db, .slice CW CK jZ] w' bg (YY eM w')):
  di X.KV #[.agg c.T, .slice cm nb db, .slice CW CK jZ] w (.tuple #[.bool true, .int .i64 0]):=by
 refine ahv c cm nb db CW CK jZ λar g1 w1 hb1 fb=>(hcut w1 (Laid.below hb1 aj) (U.au hb1)).aH λv ad aK ⟨p,n,k,hs,ab,ah,hp,ya,hn,u_⟩=>?_
 subst ah;have ap4:U bg w ad:=(U.au hb1).trans aK;refine⟨_,_,_,_,rfl,aK.O,λe=>absurd rfl e,λ_ bw eO iI sv bD eR zH=>?_⟩;have TR:=cX.ax iI rfl;have Cx:=TR.trans (U.au eR);have zX:U bg w bD:=ap4.trans Cx;have kL:Laid bD:=aj.ax zX λi e=>e.elim
 have hown:=cX.own (s:=1) (n:=1) iI rfl du;have aoI:mB bD (some ⟨eO,0,none⟩) 1 [⟨cm,nb,db⟩] [eM]:=by
  refine⟨(bF.row hown).below eR,rfl,λj x l e1 e2=>?_⟩;have hj:j=0:=by
   have:j<1:=by
    rcases h8 j 1 with q|q
    ·exact q
    ·rw[nu (by simpa using q)] at e1
     cases e1
   omega
  subst hj;have BC:(⟨cm,nb,db⟩:n7)=x:=by simpa using e1
  have wg:eM=l:=by simpa using e2
  subst BC wg;exact⟨hb.O zX,jG,oo,λa e=>gp (gH a e) zX.size⟩
 have ane:∀a,(some (⟨eO,0,none⟩:Addr))=some a->a.block<bD.heap.size:=λa e=>by
  injection e with e
  subst e;exact gp ((hown.lt _ rfl).1) (U.au eR).size
 refine(I1 (bK:=bK) (c:=c) ez kL aoI ane M (by rw[FH];simp;omega) I8).aH λv bP dW ⟨q1,d1,Xv,ah,f1,f2,lU,wj⟩=>?_
 subst ah;have nc:Laid bP:=kL.ax dW λi e=>e.elim
 refine⟨(l5 (nB bK c [eM])).o_ ⟨q1,Xv.length,d1⟩,_,_,rfl,dW.O,λfv ca=>⟨λe=>absurd rfl e,λ_ cu ep oX=>?_⟩⟩;have Mz:=dW.trans (U.au ep);have sl:Laid cu:=Laid.below ep nc;have ot:mB cu p n hs ab:=hp.O (Cx.trans Mz);have aoG:∀a,p=some a->a.block<cu.heap.size:=λa e=>gp (ya a e) (Cx.trans Mz).size
 refine(I1 (bK:=bK) (c:=c) (k:=k) ez sl ot aoG hn (by rw[FH,u_];omega) I8).aH λv w7 fe ⟨q2,j2,Xw,ah,h1,h2,aw,aZ⟩=>?_
 subst ah;have mG:nB bK c ab=nB bK c [eM]:=by rw[agt,u_]
 refine⟨(l5 (nB bK c ab)).o_ ⟨q2,Xw.length,j2⟩,_,_,rfl,fe.O,λi1 dM=>⟨λ_ cR cr dO=>?_,λe=>absurd rfl e⟩⟩;have al4:dE cR q1 Xv.length d1 Xv:=f1.O (((U.au ep).trans fe).trans (U.au cr));have zs:dE cR q2 Xw.length j2 Xw:=h1.O (U.au cr);have wt:Laid cR:=Laid.below cr (sl.ax fe λi e=>e.elim);refine(auz (m:=l5 (nB bK c [eM])) (m':=l5 (nB bK c ab)) wt al4 zs wj f2 h2).aH λgn fZ=>⟨_,rfl,fZ.O,λe=>aa.of λ_=>?_,λe=>?_⟩
 ·show Value.tuple #[Value.bool _,_]=_
  rw[Qo,mG];simp
 ·rw[mG,agF] at e
  cases e
theorem asF{c:fJ}{cm CW:ao}{nb db CK jZ:Nat}{e:Int}(he:e≠0)(aj:Laid w)
  (hcut:∀w',Laid w'->U bg w w'->bI Tryz.prog X.q_ #[.slice cm nb db, .slice CW CK jZ] w' bg (λv _=>∃p n k,v= .tuple #[.slice p n k, .int .i64 e])):
  di X.KV #[.agg c.T, .slice cm nb db, .slice CW CK jZ] w (.tuple #[.bool false, .int .i64 e]):=by
 refine ahv c cm nb db CW CK jZ λar g1 w1 hb1 fb=>(hcut w1 (Laid.below hb1 aj) (U.au hb1)).aH λv ad aK ⟨p,n,k,ah⟩=>?_
 subst ah;exact⟨_,_,_,_,rfl,aK.O,λ_=>aa.of λ_=>rfl,λe0=>absurd e0 he⟩
end
end Go.Proofs.YtimbpmnbbfeogaaGreatDoor
namespace Go.Proofs.YtimbpmnbbfeogaaGreatDoor
open Go.Shelf
def Tryz.aqg:Go.Shelf.Ren:=⟨λ|137=>293|217=>319|266=>340|n=>n,λ|9=>9|5=>5|3=>3|n=>n,λ|n=>n⟩
theorem Tryz.aqf:Go.Proofs.Lays.n137 Tryz.prog Tryz.aqg:=qP
open Go.RowKit in
theorem Tryz.strings_IndexByte(s:ByteArray)(c:Int)(w:World):
  Calls Tryz.prog 293 #[.string s, .int .u8 c] w λe w'=>e= .returned (.int .i64 (Lib.indexByte s.data.toList c.toNat.toUInt8))/\w'=w:=Any.strings_IndexByte Tryz.aqf s c w
def Tryz.aqc:Go.Shelf.Ren:=⟨λ|103=>203|210=>256|206=>286|n=>n,λ|9=>9|4=>4|24=>280|3=>3|n=>n,λ|n=>n⟩
theorem Tryz.aqb:Go.Proofs.Lays.n103 Tryz.prog Tryz.aqc:=qP
open Go.RowKit in
theorem Tryz.strings_CutPrefix(s p:ByteArray)(w:World):
  Calls Tryz.prog 203 #[.string s, .string p] w λe w'=>e= .returned (.tuple #[.string ⟨(Lib.trimPrefix s.data.toList p.data.toList).toArray⟩, .bool (Lib.hasPrefix s.data.toList p.data.toList)])/\w'=w:=Any.strings_CutPrefix Tryz.aqb s p w
def Tryz.aqs:Go.Shelf.Ren:=⟨λ|172=>248|244=>284|245=>285|247=>312|279=>313|280=>314|281=>315|282=>316|287=>338|316=>97|171=>152|205=>339|321=>348|322=>349|243=>208|246=>259|283=>296|284=>297|285=>298|286=>299|129=>326|317=>325|318=>327|319=>328|320=>329|337=>342|338=>343|n=>n,λ|9=>9|3=>3|75=>321|76=>322|4=>4|5=>5|167=>384|37=>24|0=>0|85=>385|2=>2|168=>387|53=>364|175=>404|46=>188|210=>407|127=>228|145=>419|143=>417|21=>21|171=>367|173=>370|212=>395|51=>361|20=>20|213=>396|232=>420|233=>421|80=>67|n=>n,λ|15=>9|16=>10|17=>8|18=>13|19=>14|n=>n⟩
theorem Tryz.TS:Go.Proofs.LaysC.n172 Tryz.prog Tryz.aqs:=qP
open Go.RowKit in
theorem Tryz.strconv_Atoi_ok(s:ByteArray)(SA:s.size<=9223372036854775806)(v:Int)(h:Lib.atoiAll s.data.toList= .ok v)(w:World):
  Calls Tryz.prog 248 #[.string s] w λe w'=>e= .returned (.tuple #[.int .i64 v, .nilIface])/\(w'=w∨∃t,w'=Lib.bytesWorld w 5 t):=Any.strconv_Atoi_ok Tryz.TS s SA v h w
open Go.RowKit in
theorem Tryz.strconv_Atoi_syntax(s:ByteArray)(HP:s.size<=281474976710656)(h:Lib.atoiAll s.data.toList=Lib.NumEnd.syntax)(lC:Value)(w:World)(ah:w.cell? ⟨9,0,none⟩=some lC)(x3:lC= .nilIface∨∃nV qC,lC= .iface nV qC):
  Calls Tryz.prog 248 #[.string s] w λe w'=>∃N,e= .returned (.tuple #[.int .i64 (0), .iface 387 (.pointer (some ⟨N,0,none⟩))])/\w.heap.size<=N/\w'.heap[N]? =some (.cells #[.string ⟨#[65,116,111,105]⟩, .string s,lC] 407 (0,0))/\Below w.heap.size w w':=Any.strconv_Atoi_syntax Tryz.TS s HP h lC w ah x3
open Go.RowKit in
theorem Tryz.strconv_Atoi_range(s:ByteArray)(HP:s.size<=281474976710656)(h:Lib.atoiAll s.data.toList= .range)(lC:Value)(w:World)(ah:w.cell? ⟨10,0,none⟩=some lC)(x3:lC= .nilIface∨∃nV qC,lC= .iface nV qC):
  Calls Tryz.prog 248 #[.string s] w λe w'=>∃N,e= .returned (.tuple #[.int .i64 (Lib.atoiSat s.data.toList), .iface 387 (.pointer (some ⟨N,0,none⟩))])/\w.heap.size<=N/\w'.heap[N]? =some (.cells #[.string ⟨#[65,116,111,105]⟩, .string s,lC] 407 (0,0))/\Below w.heap.size w w':=Any.strconv_Atoi_range Tryz.TS s HP h lC w ah x3
def Tryz.aqi:Go.Shelf.Ren:=⟨λ|145=>201|220=>254|219=>289|217=>319|225=>320|224=>321|267=>322|266=>340|314=>341|n=>n,λ|9=>9|4=>4|59=>277|3=>3|5=>5|46=>188|146=>362|51=>361|n=>n,λ|1=>7|n=>n⟩
theorem Tryz.aqh:Go.Proofs.Lays.n145 Tryz.prog Tryz.aqi:=qP
open Go.RowKit Go.Lib in
theorem Tryz.strings_Cut(s sep:ByteArray)(m:Int)(w:World)(hs:s.size<4294967281)(hm:w.cell? ⟨7,0,none⟩=some (.int .i64 m)):
  Calls Tryz.prog 201 #[.string s, .string sep] w λe w'=>e= .returned (.tuple #[.string ⟨(Lib.cut s.data.toList sep.data.toList).1.toArray⟩, .string ⟨(Lib.cut s.data.toList sep.data.toList).2.1.toArray⟩, .bool (Lib.cut s.data.toList sep.data.toList).2.2])/\∃n,w'=w.drewN n:=Any.strings_Cut Tryz.aqh s sep m w hs hm
def Tryz.aqk:Go.Shelf.Ren:=⟨λ|146=>202|221=>255|268=>290|138=>291|143=>292|195=>323|197=>309|218=>324|219=>289|260=>335|217=>319|225=>320|224=>321|267=>322|266=>340|314=>341|n=>n,λ|9=>9|31=>71|3=>3|4=>4|0=>0|105=>381|21=>21|5=>5|46=>188|119=>411|139=>414|138=>413|146=>362|51=>361|n=>n,λ|1=>7|3=>11|4=>12|n=>n⟩
theorem Tryz.aqj:Go.Proofs.Lays.n146 Tryz.prog Tryz.aqk:=qP
open Go.RowKit Go.Lib in
theorem Tryz.strings_Split(s sep:ByteArray)(m:Int)(w:World)(hs:s.size<4294967281)(hm:w.cell? ⟨7,0,none⟩=some (.int .i64 m))(h1:1<=sep.size):
  Calls Tryz.prog 202 #[.string s, .string sep] w λe w'=>
   e= .returned (.slice (some ⟨w.heap.size,0,none⟩) (Lib.countB s sep+1) (Lib.countB s sep+1))/\w'=w.alloc (.cells ((Lib.splitB sep 0 (Lib.countB s sep) s).map Value.string).toArray 9):=Any.strings_Split Tryz.aqj jr s sep m w hs hm h1
end Go.Proofs.YtimbpmnbbfeogaaGreatDoor
namespace Go.Proofs.YtimbpmnbbfeogaaGreatDoor
open Go Go.RowKit Go.Sy Go.Rep
variable{w0:World}{F:Nat->Prop}{Q:Value->World->Prop}
theorem aAx(c:tj)(h:aG w0 λa=>bG 512 c.cE.length (aa w0 F w0 Q (D 5)) (bG 64 c.id.length (aa w0 F w0 Q (D 5)) (a7 w0 F [a] w0 [(a,G.p3)] X.Oy #[.string ⟨c.cE.toArray⟩, .string ⟨[].toArray⟩] .bool λe f=>gL f (aa w0 F e Q (D 6)) (a7 w0 F [a] e [(a,G.p3)] X.Oy #[.string ⟨c.id.toArray⟩, .string ⟨[58,59].toArray⟩] .bool λj k=>(k=false->aa w0 F j Q (D 6))/\y0 w0 F Q k j)))):aO X.Oz #[.agg c.T] w0 F Q:=bh [.agg (tj.bN.enc c)] h
theorem aAw(s others:List UInt8)(h:∀a:World,∀b c:Nat,xq w0 [] G.eY s a b c->∃d:Int->World->Prop,∃e:Int->Nat,(bm a λf=>d 0 f)/\∀f:Int,∀g:World,U F w0 g->d f g->bG f s.length (∃i:Addr,(some ⟨b,0,none⟩)=(some i)/\((0:Int)<=f/\f<(s.length:Int))/\∃j:Int,At g i ((Int.toNat f)*1) [.int .u8 j]/\bG j 33 (aa w0 F g Q (.bool false)) (bG 126 j (aa w0 F g Q (.bool false)) (b9 w0 F [] g X.strings_IndexByte #[.string ⟨others.toArray⟩, .int .u8 j] D λm n=>dX 0 n (aa w0 F m Q (.bool false)) (ji f m d e)))) (aa w0 F g Q (.bool true))):aO X.Oy #[.string ⟨s.toArray⟩, .string ⟨others.toArray⟩] w0 F Q:=eV [⟨2,[10],[]⟩] [] [.str s, .str others] h
end Go.Proofs.YtimbpmnbbfeogaaGreatDoor
namespace Go.Proofs.YtimbpmnbbfeogaaGreatDoor
open Go Go.RowKit Go.Sy Go.Rep
variable{w0:World}{F:Nat->Prop}{Q:Value->World->Prop}
theorem aAy(s:List UInt8)(h:dt w0 X.strings_Cut #[.string ⟨s.toArray⟩, .string ⟨[59].toArray⟩] λa b c=>∃d e:List UInt8,∃f:Bool,bW b (.tuple #[.string ⟨d.toArray⟩, .string ⟨e.toArray⟩, .bool f]) w0 F [] a c (gL f (aa w0 F c Q (.tuple #[D 0, .string ⟨[].toArray⟩, .bool false])) ((d=[]->aa w0 F c Q (.tuple #[D 0, .string ⟨[].toArray⟩, .bool false]))/\(¬(d=[])->b9 w0 F [] c X.ahi #[.string ⟨d.toArray⟩, .string ⟨[48,49,50,51,52,53,54,55,56,57].toArray⟩] (λk:List UInt8=> .string ⟨k.toArray⟩) λj k=>(¬(k=[])->aa w0 F j Q (.tuple #[D 0, .string ⟨[].toArray⟩, .bool false]))/\(k=[]->dt j X.ahf #[.string ⟨d.toArray⟩] λl m n=>∃o,∃p:Value,p.oneCell'=true/\bW m (.tuple #[D o,p]) w0 F [] l n (∃q:Bool,(∀r:World,(Op.equal G.error p .nilIface).run Tryz.prog r= .ok q r)/\gL q (aa w0 F n Q (.tuple #[D (-1), .string ⟨e.toArray⟩, .bool true])) (aa w0 F n Q (.tuple #[D o, .string ⟨e.toArray⟩, .bool true])))))))):aO X.WQ #[.string ⟨s.toArray⟩] w0 F Q:=bh [.str s] h
end Go.Proofs.YtimbpmnbbfeogaaGreatDoor
namespace Go.Proofs.YtimbpmnbbfeogaaGreatDoor
open Go Go.RowKit Go.Sy Go.Rep
variable{w0:World}{F:Nat->Prop}{Q:Value->World->Prop}
theorem aAv(s:List UInt8)(h:aG w0 λa=>cC w0 w0 [(a,G.p3)] X.WQ #[.string ⟨s.toArray⟩] λb c d=>∃e,∃f:List UInt8,∃g:Bool,bW c (.tuple #[D e, .string ⟨f.toArray⟩, .bool g]) w0 F [a] b d (gL g (bn w0 F d [a] Q (.tuple #[.agg #[D 0, .string ⟨[].toArray⟩, .string ⟨[].toArray⟩],D 6])) (a' e 0 (a' e 0 (Pw w0 d [(a,G.p3)] λi=>Yr w0 F Q f i [a]) (Yl w0 F Q e d [(a,G.p3)] f [a] a)) (a' e 2 (Pw w0 d [(a,G.p3)] λi=>Yr w0 F Q f i [a]) (Yl w0 F Q e d [(a,G.p3)] f [a] a))))):aO X.WO #[.string ⟨s.toArray⟩] w0 F Q:=eV [⟨17,[53],[1]⟩] [] [.str s] h
end Go.Proofs.YtimbpmnbbfeogaaGreatDoor
namespace Go.Proofs.YtimbpmnbbfeogaaGreatDoor
open Go Go.RowKit Go.Sy Go.Rep
theorem aaa{s sep:List UInt8}(h:s.length<=1048576):Pure X.strings_Cut #[.string ⟨s.toArray⟩, .string ⟨sep.toArray⟩] (.tuple #[.string ⟨(Lib.cut s sep).1.toArray⟩, .string ⟨(Lib.cut s sep).2.1.toArray⟩, .bool (Lib.cut s sep).2.2]):=by
 intro w aj;obtain⟨m,hm⟩:=aj.o1;refine BT ((Tryz.strings_Cut ⟨s.toArray⟩ ⟨sep.toArray⟩ m w ?_ hm).mono ?_)
 ·show s.toArray.size<4294967281
  rw[s_];omega
 ·rintro e w' ⟨rfl,n,rfl⟩
  exact⟨rfl,(Below.refl _ w).trans ⟨rfl,rfl,rfl,cL _,λ_ _=>rfl⟩⟩
theorem akj{s p:List UInt8}:Pure X.strings_CutPrefix #[.string ⟨s.toArray⟩, .string ⟨p.toArray⟩] (.tuple #[.string ⟨(Lib.trimPrefix s p).toArray⟩, .bool (Lib.hasPrefix s p)]):=by
 intro w aj;refine BT ((Tryz.strings_CutPrefix ⟨s.toArray⟩ ⟨p.toArray⟩ w).mono ?_);rintro e w' ⟨rfl,rfl⟩;exact⟨rfl,Below.refl _ _⟩
theorem akk{s:List UInt8}{c:Int}:Pure X.strings_IndexByte #[.string ⟨s.toArray⟩, .int .u8 c] (.int .i64 (Lib.indexByte s c.toNat.toUInt8)):=by
 intro w aj;refine BT ((Tryz.strings_IndexByte ⟨s.toArray⟩ c w).mono ?_);rintro e w' ⟨rfl,rfl⟩;exact⟨rfl,Below.refl _ _⟩
def r2(s:List UInt8):Int×Bool:=match Lib.atoiAll s with
 | .ok v=>(v,true)
 | Lib.NumEnd.syntax=>(0,false)
 | .range=>(Lib.atoiSat s,false)
theorem asp{w:World}{s:List UInt8}(aj:Laid w)(h:s.length<=1048576):bI Tryz.prog X.ahf #[.string ⟨s.toArray⟩] w bg (λv _=>∃u,v= .tuple #[.int .i64 (r2 s).1,u]/\(((r2 s).2=true/\u= .nilIface)∨((r2 s).2=false/\∃t p,u= .iface t (.pointer p)))):=by
 have hsz:(⟨s.toArray⟩:ByteArray).size<=281474976710656:=by
  show s.toArray.size<=_;rw[s_];omega
 cases hq:Lib.atoiAll s with
 |ok v=>
  have e:r2 s=(v,true):=by unfold r2;rw[hq]
  refine(Tryz.strconv_Atoi_ok ⟨s.toArray⟩ M v hq w).mono ?_;rintro e1 w' ⟨rfl,hw⟩;refine⟨_,rfl,?_,_,by rw[e], .inl ⟨by rw[e],rfl⟩⟩;rcases hw with rfl|⟨t,rfl⟩
  ·exact U.refl _ _
  ·exact Below.ax (Lib.bytesWorld_below w 5 t) bg
 |range=>
  have e:r2 s=(Lib.atoiSat s,false):=by unfold r2;rw[hq]
  obtain⟨nV,qC,he⟩:=aj.se;refine(Tryz.strconv_Atoi_range ⟨s.toArray⟩ hsz hq _ w he (.inr ⟨nV,qC,rfl⟩)).mono ?_;rintro e1 w' ⟨N,rfl,_,_,hb⟩;exact⟨_,rfl,Below.ax hb bg,_,by rw[e], .inr ⟨by rw[e],_,_,rfl⟩⟩
 |_=>
  have e:r2 s=(0,false):=by unfold r2;rw[hq]
  obtain⟨nV,qC,he⟩:=aj.es;refine(Tryz.strconv_Atoi_syntax ⟨s.toArray⟩ hsz hq _ w he (.inr ⟨nV,qC,rfl⟩)).mono ?_;rintro e1 w' ⟨N,rfl,_,_,hb⟩;exact⟨_,rfl,Below.ax hb bg,_,by rw[e], .inr ⟨by rw[e],_,_,rfl⟩⟩
def adN(u:Option TypeDesc):Bool:=match u with
 |some (.interface _)=>true
 |_=>false
theorem aa6:∃ms,Tryz.prog.underlying G.error=some (.interface ms):=by
 have h:adN (Tryz.prog.underlying G.error)=true:=by kernel_rfl
 unfold adN at h;split at h
 ·exact⟨_,by assumption⟩
 ·cases h
theorem alF(w:World):(Op.equal G.error .nilIface .nilIface).run Tryz.prog w= .ok true w:=by
 obtain⟨ms,hu⟩:=aa6;have key:∀aD,(Op.equalIn (aD+1) G.error .nilIface .nilIface).run Tryz.prog w= .ok true w:=λaD=>by simp[Op.equalIn,run_underlying hu]
 exact key 9999
theorem alG(t:TypeId)(p:Value)(w:World):(Op.equal G.error (.iface t p) .nilIface).run Tryz.prog w= .ok false w:=by
 obtain⟨ms,hu⟩:=aa6;have key:∀aD,(Op.equalIn (aD+1) G.error (.iface t p) .nilIface).run Tryz.prog w= .ok false w:=λaD=>by simp[Op.equalIn,run_underlying hu]
 exact key 9999
def PU(tr:List UInt8->List UInt8):Prop:=∀s:List UInt8,s.length<=1024->Pure X.ahi #[.string ⟨s.toArray⟩, .string ⟨[48,49,50,51,52,53,54,55,56,57].toArray⟩] (.string ⟨(tr s).toArray⟩)
def ov(tr:List UInt8->List UInt8)(s:List UInt8):Int×List UInt8×Bool:=
 if(Lib.cut s [59]).2.2=false then(0,[],false) else if(Lib.cut s [59]).1=[] then(0,[],false) else if tr (Lib.cut s [59]).1≠[] then(0,[],false)
 else(if(r2 (Lib.cut s [59]).1).2=true then(r2 (Lib.cut s [59]).1).1 else-1,(Lib.cut s [59]).2.1,true)
theorem Q3(s sep:List UInt8):(Lib.cut s sep).1.length<=s.length/\(Lib.cut s sep).2.1.length<=s.length:=by
 unfold Lib.cut;split
 ·exact⟨by simp;omega,by simp⟩
 ·exact⟨cL _,ef _⟩
theorem ako{tr:List UInt8->List UInt8}{s:List UInt8}(ez:PU tr)(h:s.length<=1024):Pure X.WQ #[.string ⟨s.toArray⟩] (.tuple #[.int .i64 (ov tr s).1, .string ⟨(ov tr s).2.1.toArray⟩, .bool (ov tr s).2.2]):=by
 intro w aj;have kh:=Q3 s [59];refine aAy s λw1 hb1=>(aaa M).aH (Laid.below hb1 aj) λad aK hU=>⟨_,_,_,rfl,aK.O,λe=>aa.of λ_=>?_,λe=>⟨λe1=>aa.of λ_=>?_,λe1 bw bp=>(ez _ M).aH (Laid.below bp hU) λbD k4 kL=>⟨_,rfl,k4.O,λe2=>aa.of λ_=>?_,λe2 bP hb5=>?_⟩⟩⟩
 ·rw[ov,aA e]
 ·rw[ov,ag AQ,aA e1]
 ·rw[ov,ag AQ,ag e1,aA e2]
 ·have ib:ov tr s=(if(r2 (Lib.cut s [59]).1).2=true then(r2 (Lib.cut s [59]).1).1 else-1,(Lib.cut s [59]).2.1,true):=by rw[ov,ag AQ,ag e1,ag (λu=>u e2)]
  refine(asp (s:=(Lib.cut s [59]).1) (Laid.below hb5 kL) M).aH λv cu fj ⟨u,ah,hu⟩=>?_
  subst ah;rcases hu with⟨a,rfl⟩|⟨a,t,p,rfl⟩
  ·refine⟨_,_,rfl,rfl,fj.O,true,λW=>alF W,λb=>(nomatch b),λ_=>aa.of λ_=>?_⟩
   rw[ib,aA a]
  ·refine⟨_,_,rfl,rfl,fj.O,false,λW=>alG _ _ W,λ_=>aa.of λ_=>?_,λb=>(nomatch b)⟩
   rw[ib,ag (by rw[a];decide)]
def xT(others:List UInt8)(s:List UInt8):Bool:=s.all λb=>decide (33<=b.toNat)&&(decide (b.toNat<=126)&&decide (Lib.indexByte others b<0))
def YT(ba:List UInt8->List UInt8):Prop:=∀s:List UInt8,s.length<=1024->Pure X.aho #[.string ⟨s.toArray⟩] (.string ⟨(ba s).toArray⟩)
theorem aab{s o:List UInt8}:∀w:World,Laid w->s.length<=1048576->di X.Oy #[.string ⟨s.toArray⟩, .string ⟨o.toArray⟩] w (.bool (xT o s)):=by
 intro w aj hs;refine aAw s o λw1 ar aQ bk=>?_
 have a8:U bg w w1:=⟨bk.os,bk.tape,bk.output,by have:=bk.new;have:=bk.size;omega,λi hi _=>bk.heap i hi aS⟩;have hL1:Laid w1:=Laid.O a8 aj;refine⟨λi V=>0<=i/\i<=s.length/\Laid V/\U bg w1 V/\xT o (s.take i.toNat)=true,λi=>((s.length:Int)-i).toNat,λV hb=>⟨by omega,by omega,Laid.below hb hL1,U.au hb,rfl⟩,?_⟩;rintro i V _ ⟨i0,eA,RM,CA,hg⟩;refine⟨λhi=>?_,λhi=>aa.of λ_=>?_⟩
 ·have hlt:i.toNat<s.length:=by omega
  obtain⟨b,hb⟩:∃b,s[i.toNat]? =some b:=⟨_,el hlt⟩;have anf:b∈s:=uE hb;have dB:At V ⟨ar,0,none⟩ (i.toNat*1) [.int .u8 (b.toNat:Int)]:=by
   have h1:=bk.row.sub (i.toNat*1) (cj:=[Value.int .u8 (b.toNat:Int)]) (by
    unfold tv;rw[oC,mw (by simpa using hlt)];have:=el hlt;rw[hb] at this;injection this with this
    simp[<-this])
   rw[iR] at h1;exact h1.O CA
  have Bj:(decide (33<=b.toNat)&&(decide (b.toNat<=126)&&decide (Lib.indexByte o b<0)))=false->xT o s=false:=λe=>by
   unfold xT;rw[List.all_eq_false];exact⟨b,anf,by rw[e];decide⟩
  have gH:(b.toNat:Int).toNat.toUInt8=b:=by simp
  refine⟨⟨ar,0,none⟩,rfl,⟨i0,hi⟩,(b.toNat:Int),dB,λe=>aa.of λ_=>?_,λe=>⟨λe2=>aa.of λ_=>?_,λe2 bD eR=>akk.aH (Laid.below eR RM) λbP dW nc=>⟨_,rfl,dW.O,λe3=>aa.of λ_=>?_,λe3=>⟨by unfold ay;omega,λcu ep=>⟨⟨by omega,by omega,Laid.below ep nc,((CA.trans (U.au eR)).trans dW).trans (U.au ep),?_⟩,by show((s.length:Int)-(i+1)).toNat<((s.length:Int)-i).toNat;omega⟩⟩⟩⟩⟩
  ·rw[Bj (by rw[kp M];rfl)]
  ·rw[Bj (by rw[kp (show ¬b.toNat<=126 by omega)];simp)]
  ·rw[gH] at e3
   rw[Bj (by rw[kp (show ¬Lib.indexByte o b<0 by omega)];simp)]
  ·rw[gH] at e3
   rw[show(i+1).toNat=i.toNat+1 by omega,ny,hb];unfold xT at hg⊢;rw[List.all_append,hg];simp;omega
 ·rw[jh M] at hg
  show Value.bool true=_;rw[hg]
def yl(id cE:List UInt8):Int:=if 512<cE.length then 5 else if 64<id.length then 5 else if xT [] cE=false then 6 else if xT [58,59] id=false then 6 else 0
theorem akn{k:Int}{id cE:List UInt8}:Pure X.Oz #[.agg #[.int .i64 k, .string ⟨id.toArray⟩, .string ⟨cE.toArray⟩]] (.int .i64 (yl id cE)):=by
 intro w aj;refine aAx ⟨k,id,cE⟩ λar g1=>⟨λe=>aa.of λ_=>?_,λe=>⟨λe2=>aa.of λ_=>?_,λe2 w1 hb1 fb=>?_⟩⟩
 ·have e':(512:Int)<cE.length:=e
  rw[yl,aA M]
 ·have e':(cE.length:Int)<=512:=e
  have wg:(64:Int)<id.length:=e2;rw[yl,ag M,aA M]
 ·have e':(cE.length:Int)<=512:=e
  have wg:(id.length:Int)<=64:=e2;have ib:yl id cE=if xT [] cE=false then 6 else if xT [58,59] id=false then 6 else 0:=by rw[yl,ag M,ag M]
  have hL1:=Laid.below hb1 aj;refine(aab (s:=cE) (o:=[]) w1 hL1 M).aH λad aK=>⟨_,rfl,aK.O,λb=>aa.of λ_=>?_,λb bw bp fN=>(aab (s:=id) (o:=[58,59]) bw (Laid.below bp (Laid.O aK hL1)) M).aH λbD k4=>⟨_,rfl,k4.O,λb2=>aa.of λ_=>?_,λb2=>aa.of λ_=>?_⟩⟩
  ·rw[ib,aA b]
  ·rw[ib,ag (by rw[b];decide),aA b2]
  ·rw[ib,ag (by rw[b];decide),ag (by rw[b2];decide)]
def o5(s sep:List UInt8):List (List UInt8):=(Lib.splitB ⟨sep.toArray⟩ 0 (Lib.countB ⟨s.toArray⟩ ⟨sep.toArray⟩) ⟨s.toArray⟩).map (·.data.toList)
def pb(l:List (List UInt8)):List Value:=l.map λx=> .string ⟨x.toArray⟩
theorem aul{w:World}{s sep:List UInt8}(aj:Laid w)(h:s.length<=1048576)(h1:1<=sep.length):bI Tryz.prog X.strings_Split #[.string ⟨s.toArray⟩, .string ⟨sep.toArray⟩] w bg (λv w'=>∃b,v= .slice (some ⟨b,0,none⟩) (o5 s sep).length (o5 s sep).length/\(o5 s sep).length<=1048577/\Row w' (some ⟨b,0,none⟩) (o5 s sep).length 1 (pb (o5 s sep))/\w.heap.size<=b):=by
 obtain⟨m,hm⟩:=aj.o1;have hsz:(⟨s.toArray⟩:ByteArray).size=s.length:=by show s.toArray.size=_;rw[s_]
 have nh:1<=(⟨sep.toArray⟩:ByteArray).size:=by show 1<=sep.toArray.size;rw[s_];exact h1
 have hlen:(o5 s sep).length=Lib.countB ⟨s.toArray⟩ ⟨sep.toArray⟩+1:=by
  unfold o5;rw[gw];exact Lib.splitB_all _ nh 0 _ _ rfl
 have kh:=Lib.countB_le ⟨sep.toArray⟩ nh s.length ⟨s.toArray⟩ (by rw[hsz];exact cL _);refine(Tryz.strings_Split ⟨s.toArray⟩ ⟨sep.toArray⟩ m w (by rw[hsz];omega) hm nh).mono ?_;rintro e w' ⟨rfl,rfl⟩;have hb:Below w.heap.size w (w.alloc (.cells ((Lib.splitB ⟨sep.toArray⟩ 0 (Lib.countB ⟨s.toArray⟩ ⟨sep.toArray⟩) ⟨s.toArray⟩).map Value.string).toArray 9)):=(Below.refl _ w).alloc (cL _) _;refine⟨_,rfl,Below.ax hb bg,w.heap.size,by rw[hlen],by rw[hlen];omega,?_,cL _⟩;have cY:(Lib.splitB ⟨sep.toArray⟩ 0 (Lib.countB ⟨s.toArray⟩ ⟨sep.toArray⟩) ⟨s.toArray⟩).map Value.string=pb (o5 s sep):=by
  unfold pb o5;rw[Du];exact List.map_congr_left λx _=>rfl
 rw[cY];have hw:Whole (w.alloc (.cells (pb (o5 s sep)).toArray 9)) w.heap.size 9 (pb (o5 s sep)):=by
  show(w.heap.push _)[w.heap.size]? =some _;simp
 have hvl:(pb (o5 s sep)).length=(o5 s sep).length:=by simp[pb]
 exact⟨by rw[hvl,oC],λa e=>by
  injection e with e
  subst e
  exact hw.at_ (by rw[hvl,hlen];unfold maxLen;omega),λ_=>⟨_,rfl⟩⟩
def tR:List (List UInt8)->List UInt8
 |[]=>[]
 |p::a_=>if Lib.hasPrefix p [105,100,61]=true then Lib.trimPrefix p [105,100,61] else tR a_
def IK:tj:=⟨0,[],[]⟩
def Ix(r:List UInt8):tj×Int:=
 if(Lib.cut r [59]).2.2=false then(IK,6) else if(Lib.cut r [59]).2.1=[] then(⟨3,[],[]⟩,0)
 else if yl (tR (o5 (Lib.cut r [59]).1 [58])) (Lib.cut r [59]).2.1≠0 then(IK,yl (tR (o5 (Lib.cut r [59]).1 [58])) (Lib.cut r [59]).2.1) else(⟨2,tR (o5 (Lib.cut r [59]).1 [58]),(Lib.cut r [59]).2.1⟩,0)
def rN(tr ba:List UInt8->List UInt8)(s:List UInt8):tj×Int:=
 if(ov tr s).2.2=false then(IK,6) else if(ov tr s).1=0∨(ov tr s).1=2 then(⟨1,[],ba (ov tr s).2.1⟩,0)
 else if(ov tr s).1=8 then Ix (ov tr s).2.1 else(IK,9)
theorem art(tr:List UInt8->List UInt8)(s:List UInt8):(ov tr s).2.1.length<=s.length:=by
 have:=Q3 s [59];unfold ov
 repeat' split
 all_goals first|exact ef _|exact this.2
theorem akm{tr ba:List UInt8->List UInt8}(ez:PU tr)(qi:YT ba):xv (rN tr ba):=by
 intro s hs w aj;have Ca:=art tr s;refine aAv s λar g1 w1 hb1 fb=>(ako ez hs).aH (Laid.below hb1 aj) λad aK hU=>⟨_,_,_,rfl,aK.O,λe=>bn.of λ_=>?_,λe=>⟨λx=>⟨λ_ bw bp fN=>(qi _ M).aH (Laid.below bp hU) λbD k4 kL=>⟨_,rfl,k4.O,bn.of λ_=>?_⟩,λy=>absurd x y⟩,λah_=>⟨λx bw bp fN=>(qi _ M).aH (Laid.below bp hU) λbD k4 kL=>⟨_,rfl,k4.O,bn.of λ_=>?_⟩,λh6=>⟨λx bD eR zH=>?_,λJC=>bn.of λ_=>?_⟩⟩⟩⟩
 ·rw[rN,aA e]
  rfl
 ·rw[rN,ag AQ,aA (.inl x)]
 ·rw[rN,ag AQ,aA (.inr x)]
 ·have ib:rN tr ba s=Ix (ov tr s).2.1:=by rw[rN,ag AQ,ag (λu=>u.elim ah_ h6),aA x]
  obtain⟨r,hr⟩:∃r,(ov tr s).2.1=r:=⟨_,rfl⟩;rw[hr] at Ca ib⊢;have kh:=Q3 r [59];refine(aaa M).aH (Laid.below eR hU) λbP dW nc=>⟨_,_,_,rfl,dW.O,λc0=>bn.of λ_=>?_,λc0=>⟨λbY=>bn.of λ_=>?_,λbY aQ g2 cu ep oX=>?_⟩⟩
  ·rw[ib,Ix,aA c0]
   rfl
  ·rw[ib,Ix,ag (by rw[c0];decide),aA bY]
  ·obtain⟨a_,nN⟩:∃a_,o5 (Lib.cut r [59]).1 [58]=a_:=⟨_,rfl⟩
   obtain⟨Ax,adm⟩:∃Ax,(Lib.cut r [59]).2.1=Ax:=⟨_,rfl⟩;have abM:rN tr ba s=if yl (tR a_) Ax≠0 then(IK,yl (tR a_) Ax) else(⟨2,tR a_,Ax⟩,0):=by rw[ib,Ix,ag (by rw[c0];decide),ag bY,nN,adm]
   have sl:=Laid.below ep nc;refine(aul (s:=(Lib.cut r [59]).1) (sep:=[58]) sl M du).aH λv w7 fe ⟨b,ah,qq,hrow,hbn⟩=>?_
   subst ah;rw[nN] at qq hrow⊢;rw[adm];have nJ:=Laid.O fe sl;have qw:∀{V:World} {id:List UInt8},tR a_=id->Laid V->dH Tryz.prog X.Oz #[(.agg #[(.int .i64 2),(.string ⟨id.toArray⟩),(.string ⟨Ax.toArray⟩)])] V (λgq l7=>∃i5:Int,(gq=(.returned (.int .i64 i5)))/\((eC w.heap.size bg [ar,aQ] V l7)/\(((i5≠0)->bn w bg l7 [ar] (λu _=>u= .tuple #[.agg (rN tr ba s).1.T, .int .i64 (rN tr ba s).2]) (.tuple #[(.agg #[(.int .i64 0),(.string ⟨[].toArray⟩),(.string ⟨[].toArray⟩)]),(.int .i64 i5)]))/\((i5=0)->bn w bg l7 [ar] (λu _=>u= .tuple #[.agg (rN tr ba s).1.T, .int .i64 (rN tr ba s).2]) (.tuple #[(.agg #[(.int .i64 2),(.string ⟨id.toArray⟩),(.string ⟨Ax.toArray⟩)]),(.int .i64 0)]))))):=by
    intro V id hid RM;refine akn.aH RM λcR gI wt=>⟨_,rfl,gI.O,λz=>bn.of λ_=>?_,λz=>bn.of λ_=>?_⟩
    ·rw[abM,hid,aA z]
     rfl
    ·rw[abM,hid,ag (λu=>u z)]
   refine⟨_,_,_,rfl,fe.O,λi2 i3 cg ey V=>0<=i2/\i2<=a_.length/\i3=2/\cg=[]/\ey=Ax/\Laid V/\U bg w7 V/\tR a_=tR (a_.drop i2.toNat),λi2 _ _ _=>((a_.length:Int)-i2).toNat,λV hb=>⟨by omega,by omega,rfl,rfl,rfl,Laid.below hb nJ,U.au hb,rfl⟩,?_⟩;rintro i2 i3 cg ey cW _ ⟨a0,dd,rfl,rfl,rfl,D7,fu,hid⟩;refine⟨λhi=>?_,λhi cR cr dO=>qw (by rw[hid,rU M];rfl) (Laid.below cr D7)⟩;have hlt:i2.toNat<a_.length:=by omega
   have hd:a_.drop i2.toNat=a_[i2.toNat]::a_.drop (i2.toNat+1):=mw hlt;obtain⟨jM,adv⟩:∃jM,a_[i2.toNat]=jM:=⟨_,rfl⟩;rw[adv] at hd;rw[hd] at hid
   have dB:At cW ⟨b,0,none⟩ (i2.toNat*1) [.string ⟨jM.toArray⟩]:=(Row.O hrow fu).at_ rfl _ (by
    unfold pb;rw[oC,mw (by rw[gw];exact hlt),JL,adv]
    rfl)
   refine⟨_,rfl,⟨a0,hi⟩,jM,dB,λjy kM Ej=>akj.aH (Laid.below kM D7) λk2 ou LD=>⟨_,_,rfl,ou.O,λb3 nX ans Ek=>qw ?_ ?_,λb3=>⟨by unfold ay;omega,λoz ks=>⟨⟨by omega,by omega,rfl,rfl,rfl,Laid.below ks LD,((fu.trans (U.au kM)).trans ou).trans (U.au ks),?_⟩,by show((a_.length:Int)-(i2+1)).toNat<((a_.length:Int)-i2).toNat;omega⟩⟩⟩⟩
   ·rw[hid,tR,aA b3]
   ·have ca:=hU.size
    have z5:=dW.size;have aEc:=(U.au eR).size;exact LD.ax (Go.Proofs.YtimbpmnbbfeogaaGreatDoor.dV.ax ans) λi hi=>(by have:i=aQ:=JF;omega)
   ·rw[hid,tR,ag (by rw[b3];decide),show(i2+1).toNat=i2.toNat+1 by omega]
 ·rw[rN,ag AQ,ag (λu=>u.elim ah_ h6),ag JC]
  rfl
end Go.Proofs.YtimbpmnbbfeogaaGreatDoor
namespace Go.Proofs.YtimbpmnbbfeogaaGreatDoor
open Go.Shelf
def Tryz.aqm:Go.Shelf.Ren:=⟨λ|160=>247|232=>278|231=>277|227=>279|234=>281|233=>280|236=>283|235=>282|228=>308|271=>311|151=>310|197=>309|120=>337|152=>336|260=>335|137=>293|119=>347|224=>321|225=>320|217=>319|266=>340|n=>n,λ|9=>9|4=>4|3=>3|5=>5|117=>352|116=>351|0=>0|124=>355|21=>21|105=>381|46=>188|119=>411|139=>414|138=>413|n=>n,λ|3=>11|4=>12|n=>n⟩
theorem Tryz.aql:Go.Proofs.Lays.n160 Tryz.prog Tryz.aqm:=qP
end Go.Proofs.YtimbpmnbbfeogaaGreatDoor
namespace Go.Proofs.YtimbpmnbbfeogaaGreatDoor
open Go Go.RowKit Go.Sy Go.Rep
def WS(s:List UInt8):List UInt8:=Lib.trimS s [48,49,50,51,52,53,54,55,56,57]
theorem awA:PU WS:=by
 intro s hs w aj;refine BT ((Any.strings_Trim_laid Tryz.aql jr ⟨s.toArray⟩ ⟨#[48,49,50,51,52,53,54,55,56,57]⟩ w ?_ du (ascii_of_all du)).mono ?_)
 ·show s.toArray.size<=_
  rw[s_];omega
 ·rintro e w' ⟨rfl,hb⟩
  exact⟨rfl,hb⟩
end Go.Proofs.YtimbpmnbbfeogaaGreatDoor
namespace Go.Proofs.YtimbpmnbbfeogaaGreatDoor
open Go Go.RowKit
def Kl:Prop:=∀(B b:Nat) (bs:List Value) (r:Int),-2147483648<=r->r<=2147483647->∀w:World,Lib.IsBuilderF 326 5 B b bs w->bs.length+4<=140737488355328->B<=w.heap.size->
  Calls Tryz.prog 252 #[.pointer (some ⟨b,0,none⟩), .int .i32 r] w λe w'=>e= .returned (.tuple #[.int .i64 (Lib.runeCells r).length, .nilIface])/\(Lib.BuilderAtF 326 5 B b (.pointer (some ⟨b,0,none⟩)) (bs++Lib.runeCells r) w'/\Below B w w'/\Lib.OthersKept 5 (some b) w w')
def ai1:Prop:=∀(B b:Nat) (l:List UInt8) (w:World),Lib.IsBuilderF 326 5 B b (Lib.byteCells l) w->B<=w.heap.size->
  Calls Tryz.prog 253 #[.pointer (some ⟨b,0,none⟩)] w λe w'=>e= .returned (.string ⟨l.toArray⟩)/\(Lib.IsBuilderF 326 5 B b (Lib.byteCells l) w'/\Below B w w'/\Lib.OthersKept 5 (some b) w w')
def aiM:Prop:=∀(B b:Nat) (bs:List Value) (w:World),Lib.IsBuilderF 326 5 B b bs w->Calls Tryz.prog 251 #[.pointer (some ⟨b,0,none⟩)] w λe w'=>e= .returned (.int .i64 bs.length)/\w'=w
def aiW:Prop:=∀(r:Int) (w:World),Calls Tryz.prog 249 #[.int .i32 r] w λe w'=>e= .returned (.int .i64 (Lib.runeLen r))/\w'=w
def aiJ:Prop:=∀(s p:ByteArray) (w:World),Calls Tryz.prog 250 #[.string s, .string p] w λe w'=>e= .returned (.bool (Lib.hasPrefix s.data.toList p.data.toList))/\w'=w
def sW(s:ByteArray)(pos:Nat)(r:Int):Bool:=(decide (r=65533)&& !Lib.hasPrefix (s.extract pos s.size).data.toList [239,191,189])||(decide (r<32)||(decide (127<=r)&&decide (r<=159)))
def qb(s:ByteArray):Nat->Nat->List UInt8->List UInt8
 |0,_,acc=>acc
 |fuel+1,pos,acc=>if pos<s.size then
   (if sW s pos (Utf8.decode s pos).1=true then qb s fuel (pos+(Utf8.decode s pos).2) acc
    else if 256<(acc.length:Int)+Lib.runeLen (Utf8.decode s pos).1 then acc else qb s fuel (pos+(Utf8.decode s pos).2) (acc++Lib.encodeRune (Utf8.decode s pos).1)) else acc
def QP(s:ByteArray):List UInt8:=qb s s.size 0 []
theorem akD(s:ByteArray)(fuel pos:Nat)(acc:List UInt8)(h:¬pos<s.size):qb s fuel pos acc=acc:=by
 cases fuel with
 |zero=>rfl
 |succ f=>simp[qb,h]
theorem Vi(r:Int): -1<=Lib.runeLen r/\Lib.runeLen r<=4:=by
 unfold Lib.runeLen
 repeat' split
 all_goals omega
theorem aA2(s:ByteArray)(pos:Nat)(h:pos<s.size):1<=(Utf8.decode s pos).2:=by
 by_cases ha:(s[pos]'h).toNat<128
 ·rw[decode_ascii s pos h ha]
  exact cL _
 ·exact(decode_high s pos h M).2
theorem akF(hW:Kl)(hS:ai1)(hLn:aiM)(hR:aiW)(hP:aiJ)(s:ByteArray)(w:World)(hs:s.size<=1048576):
  Calls Tryz.prog 200 #[.string s] w λe w'=>e= .returned (.string ⟨(QP s).toArray⟩)/\Below w.heap.size w w':=by
 go_enter Tryz.func200,Tryz.ntmps200
 go_wp2
 go_loopw [] (λwr=>∃(pos fuel:Nat) (acc:List UInt8),Lib.IsBuilderF 326 5 w.heap.size w.heap.size (Lib.byteCells acc) wr/\wr.heap[w.heap.size+1]? =some (.stringIter s pos)/\Below w.heap.size w wr/\qb s fuel pos acc=QP s/\s.size<=pos+fuel/\acc.length<=4*pos) (λwr=>s.size-wr.iterPos (w.heap.size+1))
 case atStart=>
  refine⟨0,s.size,[],(Lib.IsBuilderF.of (Lib.fresh_isBuilder 326 5 w)).alloc _,?_,((Below.refl _ w).alloc (cL _) _).alloc aS _,rfl,by omega,by simp⟩;have:=World.iter_heap (w.alloc (.cells #[.pointer none, .slice none 0 0] 326)) s 0;simpa using this
 case round=>
  obtain⟨pos,fuel,acc,hI,hit,hbw,hacc,hfu,hal⟩:=hrel;have hsz:w.heap.size+1<wr.heap.size:=(oD.1 hit).1
  by_cases hp:pos<s.size
  ·have hnx:∀ty,(Instr.next (.pointer (some ⟨w.heap.size+1,0,none⟩)) true ty).run Tryz.prog wr=_:=λty=>Lib.run_next_any_at wr (w.heap.size+1) s pos ty hit hp
   have hwd:=aA2 s pos hp;have hd1:=decode_le s pos;have hI2:=hI.iterAt hit (pos+(Utf8.decode s pos).2);have hit2:=Lib.iterAt_heap wr (w.heap.size+1) s pos (pos+(Utf8.decode s pos).2) hit;have hbw2:=Lib.below_iterAt hbw (k:=w.heap.size+1) M s (pos+(Utf8.decode s pos).2);have hsz2:w.heap.size<=(wr.iterAt (w.heap.size+1) s (pos+(Utf8.decode s pos).2)).heap.size:=by rw[Lib.iterAt_size];omega
   obtain⟨f,rfl⟩:∃f,fuel=f+1:=⟨fuel-1,by omega⟩
   go_wp2_with (go_at_call 249;refine(hR _ _).mono ?_)
   rintro e W1 ⟨rfl,rfl⟩
   by_cases h65:(Utf8.decode s pos).1=65533
   ·go_wp2_with (go_at_call 250;refine(hP _ _ _).mono ?_;rintro e W1 ⟨rfl,rfl⟩)
    ·have xu:sW s pos (Utf8.decode s pos).1=false:=by
      unfold sW;simp_all
     have hrl: -1<=Lib.runeLen 65533/\Lib.runeLen 65533<=4:=Vi _;have hwr:IntKind.i64.wrap ((acc.length:Int)+Lib.runeLen 65533)=(acc.length:Int)+Lib.runeLen 65533:=by rw[IntWalk.i64_in]<;>omega
     refine(hLn _ _ _ _ hI2).mono ?_;rintro e W1 ⟨rfl,rfl⟩;rw[Lib.byteCells_length]
     by_cases hbig:256<(acc.length:Int)+Lib.runeLen 65533
     ·go_wp2_with (go_at_call 253;refine(hS w.heap.size w.heap.size acc _ hI2 M).mono ?_)
      rintro e W1 ⟨rfl,_,b1,_⟩
      go_wp2
      go_ret
      rw[qb,aA hp,ag FZ,h65,aA (by exact hbig)] at hacc;subst hacc;exact⟨rfl,hbw2.trans b1⟩
     ·go_wp2_with (go_at_call 252;refine(hW w.heap.size w.heap.size _ _ M M _ hI2 XA hsz2).mono ?_)
      rintro e W1 ⟨rfl,h1,b1,a8⟩
      go_wp2
      go_roundw
      case rel=>
       have hl4:=Lib.runeCells_le (65533:Int);rw[Lib.runeCells_length] at hl4;refine⟨pos+(Utf8.decode s pos).2,f,acc++Lib.encodeRune 65533,?_,a8.iter hit2 M,hbw2.trans b1,?_,by omega,by rw[gh];omega⟩
       ·rw[Lib.byteCells_append,Lib.byteCells_encodeRune];exact Or.inr h1
       ·rw[<-hacc,qb,aA hp,ag FZ,h65,ag (by have aW:¬256<(acc.length:Int)+Lib.runeLen 65533:=M;exact aW)]
        rfl
      case measure=>
       simp only[World.iterPos,a8.iter hit2 M,hit];omega
    ·have xu:sW s pos (Utf8.decode s pos).1=true:=by
      unfold sW;simp_all
     go_roundw
     case rel=>
      refine⟨pos+(Utf8.decode s pos).2,f,acc,hI2,hit2,hbw2,?_,by omega,by omega⟩;rw[<-hacc,qb,aA hp,aA xu]
     case measure=>
      simp only[World.iterPos,hit2,hit];omega
   ·by_cases h31:(Utf8.decode s pos).1<32
    ·have xu:sW s pos (Utf8.decode s pos).1=true:=by
      unfold sW;simp;omega
     go_wp2
     go_roundw
     case rel=>
      refine⟨pos+(Utf8.decode s pos).2,f,acc,hI2,hit2,hbw2,?_,by omega,by omega⟩;rw[<-hacc,qb,aA hp,aA xu]
     case measure=>
      simp only[World.iterPos,hit2,hit];omega
    ·by_cases h127:(Utf8.decode s pos).1<127
     ·have xu:sW s pos (Utf8.decode s pos).1=false:=by
       unfold sW;simp;omega
      have hrl: -1<=Lib.runeLen (Utf8.decode s pos).1/\Lib.runeLen (Utf8.decode s pos).1<=4:=Vi _;have hwr:IntKind.i64.wrap ((acc.length:Int)+Lib.runeLen (Utf8.decode s pos).1)=(acc.length:Int)+Lib.runeLen (Utf8.decode s pos).1:=by rw[IntWalk.i64_in]<;>omega
      by_cases hbig:256<(acc.length:Int)+Lib.runeLen (Utf8.decode s pos).1
      ·go_wp2_with (go_at_call 251;refine(hLn _ _ _ _ hI2).mono ?_;rintro e W1 ⟨rfl,rfl⟩;rw[Lib.byteCells_length])
       go_wp2_with (go_at_call 253;refine(hS w.heap.size w.heap.size acc _ hI2 M).mono ?_)
       rintro e W1 ⟨rfl,_,b1,_⟩
       go_wp2
       go_ret
       rw[qb,aA hp,ag FZ,aA hbig] at hacc;subst hacc;exact⟨rfl,hbw2.trans b1⟩
      ·go_wp2_with (go_at_call 251;refine(hLn _ _ _ _ hI2).mono ?_;rintro e W1 ⟨rfl,rfl⟩;rw[Lib.byteCells_length])
       go_wp2_with (go_at_call 252;refine(hW w.heap.size w.heap.size _ _ M M _ hI2 XA hsz2).mono ?_)
       rintro e W1 ⟨rfl,h1,b1,a8⟩
       go_wp2
       go_roundw
       case rel=>
        have hl4:=Lib.runeCells_le ((Utf8.decode s pos).1:Int);rw[Lib.runeCells_length] at hl4;refine⟨pos+(Utf8.decode s pos).2,f,acc++Lib.encodeRune (Utf8.decode s pos).1,?_,a8.iter hit2 M,hbw2.trans b1,?_,by omega,by simp;omega⟩
        ·rw[Lib.byteCells_append,Lib.byteCells_encodeRune];exact Or.inr h1
        ·rw[<-hacc,qb,aA hp,ag FZ,ag M]
       case measure=>
        simp only[World.iterPos,a8.iter hit2 M,hit];omega
     ·by_cases h159:(Utf8.decode s pos).1<=159
      ·have xu:sW s pos (Utf8.decode s pos).1=true:=by
        unfold sW;simp;omega
       go_wp2
       go_roundw
       case rel=>
        refine⟨pos+(Utf8.decode s pos).2,f,acc,hI2,hit2,hbw2,?_,by omega,by omega⟩;rw[<-hacc,qb,aA hp,aA xu]
       case measure=>
        simp only[World.iterPos,hit2,hit];omega
      ·have xu:sW s pos (Utf8.decode s pos).1=false:=by
        unfold sW;simp;omega
       have hrl: -1<=Lib.runeLen (Utf8.decode s pos).1/\Lib.runeLen (Utf8.decode s pos).1<=4:=Vi _;have hwr:IntKind.i64.wrap ((acc.length:Int)+Lib.runeLen (Utf8.decode s pos).1)=(acc.length:Int)+Lib.runeLen (Utf8.decode s pos).1:=by rw[IntWalk.i64_in]<;>omega
       by_cases hbig:256<(acc.length:Int)+Lib.runeLen (Utf8.decode s pos).1
       ·go_wp2_with (go_at_call 251;refine(hLn _ _ _ _ hI2).mono ?_;rintro e W1 ⟨rfl,rfl⟩;rw[Lib.byteCells_length])
        go_wp2_with (go_at_call 253;refine(hS w.heap.size w.heap.size acc _ hI2 M).mono ?_)
        rintro e W1 ⟨rfl,_,b1,_⟩
        go_wp2
        go_ret
        rw[qb,aA hp,ag FZ,aA hbig] at hacc;subst hacc;exact⟨rfl,hbw2.trans b1⟩
       ·go_wp2_with (go_at_call 251;refine(hLn _ _ _ _ hI2).mono ?_;rintro e W1 ⟨rfl,rfl⟩;rw[Lib.byteCells_length])
        go_wp2_with (go_at_call 252;refine(hW w.heap.size w.heap.size _ _ M M _ hI2 XA hsz2).mono ?_)
        rintro e W1 ⟨rfl,h1,b1,a8⟩
        go_wp2
        go_roundw
        case rel=>
         have hl4:=Lib.runeCells_le ((Utf8.decode s pos).1:Int);rw[Lib.runeCells_length] at hl4;refine⟨pos+(Utf8.decode s pos).2,f,acc++Lib.encodeRune (Utf8.decode s pos).1,?_,a8.iter hit2 M,hbw2.trans b1,?_,by omega,by simp;omega⟩
         ·rw[Lib.byteCells_append,Lib.byteCells_encodeRune];exact Or.inr h1
         ·rw[<-hacc,qb,aA hp,ag FZ,ag M]
        case measure=>
         simp only[World.iterPos,a8.iter hit2 M,hit];omega
  ·have hnx:∀ty,(Instr.next (.pointer (some ⟨w.heap.size+1,0,none⟩)) true ty).run Tryz.prog wr=_:=λty=>Lib.run_next_end_at wr (w.heap.size+1) s pos ty hit hp
   go_wp2_with (go_at_call 253;refine(hS w.heap.size w.heap.size acc _ hI M).mono ?_)
   rintro e W1 ⟨rfl,_,b1,_⟩
   go_wp2
   go_ret
   rw[akD s fuel pos acc hp] at hacc;subst hacc;exact⟨rfl,hbw.trans b1⟩
end Go.Proofs.YtimbpmnbbfeogaaGreatDoor
namespace Go.Proofs.YtimbpmnbbfeogaaGreatDoor
open Go.Shelf
def Tryz.aqp:Go.Shelf.Ren:=⟨λ|170=>251|n=>n,λ|70=>324|3=>3|0=>0|72=>326|37=>24|5=>5|n=>n,λ|n=>n⟩
theorem Tryz.aqo:Go.Proofs.Lays.n170 Tryz.prog Tryz.aqp:=qP
def Tryz.aen:Go.Shelf.Ren:=⟨λ|169=>253|n=>n,λ|70=>324|9=>9|0=>0|72=>326|37=>24|127=>228|3=>3|5=>5|n=>n,λ|n=>n⟩
theorem Tryz.aqn:Go.Proofs.Lays.n169 Tryz.prog Tryz.aen:=qP
theorem Tryz.aiD:Builder.Extra Tryz.prog Tryz.aen:=qP
def Tryz.aqe:Go.Shelf.Ren:=⟨λ|118=>249|n=>n,λ|21=>21|3=>3|4=>4|n=>n,λ|n=>n⟩
theorem Tryz.aqd:Go.Proofs.Lays.n118 Tryz.prog Tryz.aqe:=qP
theorem Tryz.utf8_RuneLen(r:Int)(w:World):
  Calls Tryz.prog 249 #[.int .i32 r] w λe w'=>e= .returned (.int .i64 (Lib.runeLen r))/\w'=w:=Any.utf8_RuneLen Tryz.aqd r w
open Go.RowKit in
theorem Tryz.Builder_Len_f(B b:Nat)(bs:List Value)(w:World)(h:Lib.IsBuilderF 326 5 B b bs w):
  Calls Tryz.prog 251 #[.pointer (some ⟨b,0,none⟩)] w λe w'=>e= .returned (.int .i64 bs.length)/\w'=w:=Any.Builder_Len_f Tryz.aqo B b bs w h
open Go.RowKit in
theorem Tryz.Builder_String_any_k(B b:Nat)(l:List UInt8)(w:World)(h:Lib.IsBuilderF 326 5 B b (Lib.byteCells l) w)(RI:B<=w.heap.size):
  Calls Tryz.prog 253 #[.pointer (some ⟨b,0,none⟩)] w λe w'=>e= .returned (.string ⟨l.toArray⟩)/\(Lib.IsBuilderF 326 5 B b (Lib.byteCells l) w'/\Below B w w'/\Lib.OthersKept 5 (some b) w w'):=Any.Builder_String_any_k Tryz.aqn Tryz.aiD B b l w h RI
def Tryz.aqr:Go.Shelf.Ren:=⟨λ|99=>250|206=>286|n=>n,λ|9=>9|4=>4|3=>3|n=>n,λ|n=>n⟩
theorem Tryz.aqq:Go.Proofs.Lays.n99 Tryz.prog Tryz.aqr:=qP
open Go.RowKit Go.Lib in
theorem Tryz.strings_HasPrefix(s p:ByteArray)(w:World):
  Calls Tryz.prog 250 #[.string s, .string p] w λe w'=>e= .returned (.bool (Lib.hasPrefix s.data.toList p.data.toList))/\w'=w:=Any.strings_HasPrefix Tryz.aqq s p w
end Go.Proofs.YtimbpmnbbfeogaaGreatDoor
namespace Go.Proofs.YtimbpmnbbfeogaaGreatDoor
open Go Go.RowKit Go.Sy Go.Rep
def QO(s:List UInt8):List UInt8:=QP ⟨s.toArray⟩
theorem akE(hW:Kl):YT QO:=by
 intro s hs w aj;refine BT (akF hW (λB b l w h hB=>Tryz.Builder_String_any_k B b l w h hB) (λB b bs w h=>Tryz.Builder_Len_f B b bs w h) (λr w=>Tryz.utf8_RuneLen r w) (λs p w=>Tryz.strings_HasPrefix s p w) ⟨s.toArray⟩ w ?_);show s.toArray.size<=_;rw[s_];omega
theorem awy(hW:Kl):xv (rN WS QO):=akm awA (akE hW)
end Go.Proofs.YtimbpmnbbfeogaaGreatDoor
namespace Go.Proofs.YtimbpmnbbfeogaaGreatDoor
open Go.RowKit
def Tryz.ah1:Go.Shelf.Ren:=⟨λ|168=>252|240=>287|242=>288|276=>317|278=>318|n=>n,λ|0=>0|3=>3|4=>4|5=>5|9=>9|20=>20|21=>21|37=>24|46=>188|51=>361|70=>324|72=>326|75=>321|80=>67|164=>390|n=>n,λn=>n⟩
theorem Tryz.aA_:Go.Proofs.Lays.n168 Tryz.prog Tryz.ah1:=qP
theorem Tryz.aA':Builder.Extra Tryz.prog Tryz.ah1:=qP
theorem Tryz.aBb(B b:Nat)(bs:List Value)(r:Int)(rn: -2147483648<=r)(rq:r<=2147483647)(w:World)(h:Lib.IsBuilderF 326 5 B b bs w)(hlen:bs.length+4<=140737488355328)(RI:B<=w.heap.size):
  Calls Tryz.prog 252 #[.pointer (some ⟨b,0,none⟩), .int .i32 r] w λe w'=>e= .returned (.tuple #[.int .i64 (Lib.runeCells r).length, .nilIface])/\(Lib.BuilderAtF 326 5 B b (.pointer (some ⟨b,0,none⟩)) (bs++Lib.runeCells r) w'/\Below B w w'/\Lib.OthersKept 5 (some b) w w'):=Any.Builder_WriteRune_k Tryz.aA_ Tryz.aA' B b bs r rn rq w h hlen RI
end Go.Proofs.YtimbpmnbbfeogaaGreatDoor
namespace Go.Proofs.YtimbpmnbbfeogaaGreatDoor
open Go Go.RowKit Go.Sy Go.Rep
theorem aBa:Kl:=λB b bs r aW h1 w h hl hB=>Tryz.aBb B b bs r aW h1 w h hl hB
def w5:gN:=rN WS QO
theorem OA:xv w5:=awy aBa
variable{w0:World}{F:Nat->Prop}{Q:Value->World->Prop}
theorem azH(c:fJ)(cm:ao)(nb db:Nat)(aP:ao)(aM ba:Nat)(h:aG w0 λa=>a7 w0 F [a] w0 [(a,G.im)] X.VO #[.agg c.T] .bool λe f=>gL f (∀g:World,Gj w0 F Q e g [(a,G.im)] [a]) (bG 200 nb (∀g:World,Gj w0 F Q e g [(a,G.im)] [a]) (bG 20 aM (∀g:World,Gj w0 F Q e g [(a,G.im)] [a]) (a7 w0 F [a] e [(a,G.im)] X.VT #[.slice aP aM ba] .bool λj k=>gL k (∀l:World,Gj w0 F Q j l [(a,G.im)] [a]) (cC w0 j [(a,G.im)] X.q_ #[.slice cm nb db, .slice aP aM ba] λl m n=>∃o:ao,∃p q:Nat,∃r,bW m (.tuple #[.slice o p q,D r]) w0 F [a] l n ((r≠0->aa w0 F n Q (.bool false))/\(r=0->a' (p:Int) 0 (aa w0 F n Q (.bool false)) (∃s:List UInt8->Int->World->Prop,∃t:List UInt8->Int->Nat,(bm n λu=>s [] 0 u)/\∀u:List UInt8,∀v:Int,∀x:World,U F w0 x->s u v x->bG v p (∃y:Addr,o=(some y)/\hG v p/\∃z:ao,∃A B:Nat,At x y ((Int.toNat v)*1) [.slice z A B]/\∃C:List UInt8,bm x λaD=>vP aD z A C/\(z=none->A=0)/\(u.length+C.length)<9223372036854775807/\ay (v+1)/\bm aD λE=>s (u++C) (v+1) E/\t (u++C) (v+1)<t u v) (∀y:World,∀z:Nat,cX x [] G.Fl [.slice cm nb db] y z->¬(z∈[a])->cC w0 y [(a,G.im)] X.Bs #[.agg c.T, .slice (some ⟨z,0,none⟩) 1 1] λA B C=>∃aD:ly,∃E:List UInt8,∃bT,bW B (.tuple #[.agg aD.T, .string ⟨E.toArray⟩,D bT]) w0 F [a] A C (aG C λak=>∃bo:List UInt8,bm C λJ=>vP J cm nb bo/\(cm=none->nb=0)/\(u=bo->a' bT 0 (a7 w0 F [a,ak] J [(a,G.im),(ak,G.jX)] X.VN #[.agg c.T, .slice o p q, .agg aD.T, .string ⟨E.toArray⟩,D 0] .bool λbj N=>(N=true->a7 w0 F [a,ak] bj [(a,G.im),(ak,G.jX)] X.Fw #[.agg c.T, .slice cm nb db, .slice aP aM ba, .bool true,D 0] .bool λR S=>(S=true->∀er:World,Gj w0 F Q R er [(a,G.im),(ak,G.jX)] [a,ak])/\jW w0 F Q S R)/\jW w0 F Q N bj) (aa w0 F J Q (.bool false)))/\(¬(u=bo)->aa w0 F J Q (.bool false)))))))))))):aO X.VM #[.agg c.T, .slice cm nb db, .slice aP aM ba] w0 F Q:=eV [⟨8,[9,10],[]⟩] [] [.agg (fJ.bN.enc c), .cJ cm nb db, .cJ aP aM ba] h
theorem W2(c:fJ)(h:aG w0 λa=>dX c.an 12 (dX c.ai 24 (aa w0 F w0 Q (.bool (bL.val (.le c.cl 30)))) (aa w0 F w0 Q (.bool false))) (aa w0 F w0 Q (.bool false))):aO X.VO #[.agg c.T] w0 F Q:=bh [.agg (fJ.bN.enc c)] h
theorem azP(CX:ao)(yq DN:Nat)(h:∃a:Int->World->Prop,∃b:Int->Nat,(bm w0 λc=>a 0 c)/\∀c:Int,∀d:World,U F w0 d->a c d->bG c yq (∃e:Addr,CX=(some e)/\hG c yq/\∃f:Int,At d e ((Int.toNat c)*1) [.int .u8 f]/\bG 0 f (aa w0 F d Q (.bool true)) (ji c d a b)) (aa w0 F d Q (.bool (bL.val (.eq (yq:Int) 0))))):aO X.VT #[.slice CX yq DN] w0 F Q:=eV [⟨2,[3],[]⟩] [] [.cJ CX yq DN] h
theorem azK(c:fJ)(aP:ao)(aM ba:Nat)(want:ly)(NM:List UInt8)(fF:Int)(h:aG w0 λa=>aG w0 λb=>cC w0 w0 [(a,G.im),(b,G.jX)] X.Bs #[.agg c.T, .slice aP aM ba] λd e f=>∃g:ly,∃i:List UInt8,∃j,bW e (.tuple #[.agg g.T, .string ⟨i.toArray⟩,D j]) w0 F [a,b] d f (aG f λk=>a7 w0 F [a,b,k] f [(a,G.im),(b,G.jX),(k,G.jX)] X.VS #[.agg g.T, .agg want.T] .bool λn o=>(o=true->(i=NM->aa w0 F n Q (.bool (bL.val (.eq j fF))))/\(¬(i=NM)->aa w0 F n Q (.bool false)))/\jW w0 F Q o n)):aO X.VN #[.agg c.T, .slice aP aM ba, .agg want.T, .string ⟨NM.toArray⟩,D fF] w0 F Q:=bh [.agg (fJ.bN.enc c), .cJ aP aM ba, .agg (ly.bN.enc want), .str NM,cn fF] h
theorem ahD(c:fJ)(cm:ao)(nb db:Nat)(aP:ao)(aM ba:Nat)(want:Bool)(fF:Int)(h:aG w0 λa=>cC w0 w0 [(a,G.im)] X.KV #[.agg c.T, .slice cm nb db, .slice aP aM ba] λb d e=>∃f:Bool,∃g,bW d (.tuple #[.bool f,D g]) w0 F [a] b e (((bL.val (.ok f))=(bL.val (.ok want))->aa w0 F e Q (.bool (bL.val (.eq g fF))))/\(¬((bL.val (.ok f))=(bL.val (.ok want)))->aa w0 F e Q (.bool false)))):aO X.Fw #[.agg c.T, .slice cm nb db, .slice aP aM ba, .bool want,D fF] w0 F Q:=bh [.agg (fJ.bN.enc c), .cJ cm nb db, .cJ aP aM ba, .bool (bL.ok want),cn fF] h
theorem azO(a b:ly)(h:aG w0 λc=>aG w0 λd=>a7 w0 F [c,d] w0 [(c,G.jX),(d,G.jX)] X.VQ #[.slice a.lines.p a.lines.n a.lines.c, .slice b.lines.p b.lines.n b.lines.c] .bool λg i=>(i=true->a' a.ai b.ai (a' a.first b.first (a' a.dD b.dD (a' a.cl b.cl (∃j:Bool,YV a b j/\(j=true->∃k:Bool,YW a b k/\(k=true->∃l:Bool,YX a b l/\(l=true->aa w0 F g Q (.bool (bL.val (.i_ (a.jU=b.jU)))))/\jW w0 F Q l g)/\jW w0 F Q k g)/\jW w0 F Q j g) (aa w0 F g Q (.bool false))) (aa w0 F g Q (.bool false))) (aa w0 F g Q (.bool false))) (aa w0 F g Q (.bool false)))/\jW w0 F Q i g):aO X.VS #[.agg a.T, .agg b.T] w0 F Q:=bh [.agg (ly.bN.enc a), .agg (ly.bN.enc b)] h
end Go.Proofs.YtimbpmnbbfeogaaGreatDoor
namespace Go.Proofs.YtimbpmnbbfeogaaGreatDoor
open Go Go.RowKit Go.Sy Go.Rep
section
variable{w:World}
theorem afP{c:fJ}{cm aP:ao}{nb db aM ba:Nat}{eM:List Int}(aj:Laid w)(hb:Row w cm nb 1 (eU eM))(jG:eM.length=nb)(gH:∀a,cm=some a->a.block<w.heap.size)(oo:nb<=1048576)
  (hcut:∀w',Laid w'->U bg w w'->bI Tryz.prog X.q_ #[.slice cm nb db, .slice aP aM ba] w' bg (YY eM w')):
  di X.Fw #[.agg c.T, .slice cm nb db, .slice aP aM ba, .bool true, .int .i64 0] w (.bool true):=by
 refine ahD c cm nb db aP aM ba true 0 λar g1 w1 hb1 fb=>?_
 have a8:=U.au hb1;refine(asE (bK:=w5) (c:=c) OA (Laid.below hb1 aj) (hb.O a8) jG (λa e=>gp (gH a e) a8.size) oo λw' tD k'=>hcut w' tD (a8.trans k')).aH λad aK=>⟨_,_,rfl,aK.O,λe=>aa.of λ_=>?_,λe=>absurd rfl e⟩
 show Value.bool _=_;rw[cb];rfl
def GZ(l:List Int):Bool:=l.any (λx=>decide (0<x))||decide (l.length=0)
theorem atw{p:ao}{n c:Nat}{l:List Int}(h:Row w p n 1 (eU l))(hn:n<=1048576):di X.VT #[.slice p n c] w (.bool (GZ l)):=by
 have hlen:l.length=n:=by have:=h.len;unfold eU at this;rw[gw] at this;omega
 refine azP p n c ⟨λi V=>0<=i/\i<=n/\(l.take i.toNat).any (λx=>decide (0<x))=false,λi=>((n:Int)-i).toNat,λV hb=>⟨by omega,by omega,rfl⟩,?_⟩;rintro i V hk ⟨i0,eA,ih⟩;refine⟨λhi=>?_,λhi=>aa.of λ_=>?_⟩
 ·have hlt:i.toNat<l.length:=by omega
  obtain⟨x,hx⟩:∃x,l[i.toNat]? =some x:=⟨_,el hlt⟩;obtain⟨a,ha⟩:=h.iP M
  have dB:At V a (i.toNat*1) [.int .u8 x]:=(Row.O h hk).at_ ha _ (by
   unfold eU;rw[oC,mw (by rw[gw];exact hlt)];have:=el hlt;rw[hx] at this;injection this with this
   simp[<-this])
  refine⟨a,ha,⟨i0,hi⟩,x,dB,λe=>aa.of λ_=>?_,λe=>⟨by unfold ay;omega,λbw bp=>⟨⟨by omega,by omega,?_⟩,by show((n:Int)-(i+1)).toNat<((n:Int)-i).toNat;omega⟩⟩⟩
  ·have:l.any (λx=>decide (0<x))=true:=Pe.2 ⟨x,uE hx,l8 e⟩
   show Value.bool true=_;rw[GZ,this];rfl
  ·rw[show(i+1).toNat=i.toNat+1 by omega,ny,hx,List.any_append,ih]
   simp;exact e
 ·rw[jh M] at ih
  show Value.bool _=_;rw[cb,GZ,ih,hlen,Bool.false_or];congr 1;exact O8.2 M
end
variable{w0:World}{F:Nat->Prop}{Q:Value->World->Prop}
theorem azM(h3:ao)(i6 jm:Nat)(cm:ao)(nb db:Nat)(h:Ka w0 F Q i6 nb/\((i6:Int)=(nb:Int)->∃a:Int->World->Prop,∃b:Int->Nat,(bm w0 λc=>a 0 c)/\∀c:Int,∀d:World,U F w0 d->a c d->(c<(i6:Int)->∃e:Addr,h3=(some e)/\hG c i6/\∃f:gx,At d e ((Int.toNat c)*2) f.T.toList/\∃g:Addr,cm=(some g)/\hG c nb/\∃i:gx,At d g ((Int.toNat c)*2) i.T.toList/\b9 w0 F [] d X.VR #[.agg f.T, .agg i.T] .bool λl m=>jW w0 F Q m l/\(m=true->ji c l a b))/\DD w0 F Q i6 c d)):aO X.VQ #[.slice h3 i6 jm, .slice cm nb db] w0 F Q:=eV [⟨4,[5],[]⟩] [] [.cJ h3 i6 jm, .cJ cm nb db] h
theorem azN(a b:gx)(h:aG w0 λc=>aG w0 λd=>((bL.val (.ok a.cU))=(bL.val (.ok b.cU))->cC w0 w0 [(c,G.fg),(d,G.fg)] X.VP #[.slice a.cells.p a.cells.n a.cells.c, .slice b.cells.p b.cells.n b.cells.c] λe f g=>xm w0 F Q f [c,d] e g)/\(¬((bL.val (.ok a.cU))=(bL.val (.ok b.cU)))->aa w0 F w0 Q (.bool false))):aO X.VR #[.agg a.T, .agg b.T] w0 F Q:=bh [.agg (gx.bN.enc a), .agg (gx.bN.enc b)] h
theorem azL(h3:ao)(i6 jm:Nat)(cm:ao)(nb db:Nat)(h:Yb w0 F Q i6 nb h3 cm):aO X.VP #[.slice h3 i6 jm, .slice cm nb db] w0 F Q:=eV [⟨4,[5],[]⟩] [] [.cJ h3 i6 jm, .cJ cm nb db] h
end Go.Proofs.YtimbpmnbbfeogaaGreatDoor
namespace Go.Proofs.YtimbpmnbbfeogaaGreatDoor
open Go Go.RowKit Go.Sy Go.Rep
theorem ats{w:World}{h3 cm:ao}{i6 jm nb db:Nat}{a b:List bC}(ha:ga w h3 i6 a)(hb:ga w cm nb b)(hn:i6<=1073741824):di X.VP #[.slice h3 i6 jm, .slice cm nb db] w (.bool (decide (a=b))):=by
 have HK:=ha.len;have x8:=hb.len;refine azL h3 i6 jm cm nb db ⟨λe=>aa.of λ_=>?_,λe=>⟨λi _=>∃k:Nat,i=k/\k<=i6/\Vm a b k,λi=>((i6:Int)-i).toNat,λ_ _=>⟨0,rfl,by omega,λj hj=>by omega⟩,?_⟩⟩
 ·rw[kp]
  intro q;rw[q] at HK;omega
 rintro i w1 hk1 ⟨k,rfl,hk,hs⟩;refine⟨λhi=>?_,λhi=>aa.of λ_=>?_⟩
 ·refine ga.fU (ha.O hk1) M M λx _ _=>ga.fU (hb.O hk1) M M λy _ _=>⟨_,λbP=>Rg _ _ bP,λe=>aa.of λ_=>?_,λe=>⟨by unfold ay;omega,λbw _=>⟨⟨k+1,by omega,by omega,?_⟩,by dsimp only;omega⟩⟩⟩
  ·rw[kp]
   intro q;rw[q] at e;simp at e
  ·intro j hj
   rcases X8.1 hj with q|q
   ·exact hs j q
   ·subst q
    simpa using e
 ·have:k=i6:=by omega
  subst this;rw[l8 (agG M (by rw[HK];exact hs))]
theorem atu{w:World}{x y:gx}{a b:List bC}(ha:nz w x a)(hb:nz w y b)(hn:x.cells.n<=1073741824):di X.VR #[.agg x.T, .agg y.T] w (.bool (decide (x.cU=y.cU)&&decide (a=b))):=by
 refine azN x y λar _ aQ _=>⟨λe ad Hq hm=>(ats (ha.O (U.au Hq)) (hb.O (U.au Hq)) hn).aH λbw hk=>⟨_,rfl,hk.O,aa.of λ_=>?_⟩,λe=>aa.of λ_=>?_⟩
 ·rw[cv,cv] at e
  rw[l8 e,Ga]
 ·rw[cv,cv] at e
  rw[kp e,Gb]
section
variable{w:World}
theorem att{cq cA:ao}{ar aQ bY c2:Nat}{xs ys:List ck}(hx:dE w cq ar bY xs)(hy:dE w cA aQ c2 ys)(hc:∀x∈xs,x.cs.length<=1000):
  di X.VQ #[.slice cq ar bY, .slice cA aQ c2] w (.bool (decide (bJ xs=bJ ys))):=by
 have aqN:=hx.len;have aqO:=hy.len;have cI:=bF.GB hx.row;have j3:∀df:List ck,(bJ df).length=df.length:=λdf=>by simp[bJ]
 refine azM _ _ _ _ _ _ ⟨λe=>aa.of λ_=>?_,λe=>⟨λi V=>0<=i/\i<=ar/\(bJ xs).take i.toNat=(bJ ys).take i.toNat,λi=>((ar:Int)-i).toNat,λV hb=>⟨by omega,by omega,rfl⟩,?_⟩⟩
 ·show Value.bool false=_
  have hne:¬bJ xs=bJ ys:=λu=>e aip
  rw[kp hne]
 ·rintro i V hk ⟨i0,eA,ih⟩
  have To:=hx.O hk;have Tv:=hy.O hk;have Hb:i<ar->(bJ xs)[i.toNat]? =some (bb xs i.toNat).jT:=λh=>Iy M
  have Hc:i<ar->(bJ ys)[i.toNat]? =some (bb ys i.toNat).jT:=λh=>Iy M
  refine⟨λhi=>To.fU i0 hi λa ha SP hmx=>Tv.fU i0 M λa2 iu SQ aop bw bp=>?_,λhi=>aa.of λ_=>?_⟩
  ·refine(atu (SP.wJ.O (U.au bp)) (SQ.wJ.O (U.au bp)) ain).aH λbD k4=>⟨_,rfl,k4.O,λm_=>aa.of λ_=>?_,λm_=>⟨by unfold ay;unfold maxLen at cI;omega,λbP hb5=>⟨⟨by omega,by omega,?_⟩,by show((ar:Int)-(i+1)).toNat<((ar:Int)-i).toNat;omega⟩⟩⟩
   ·have BF:decide ((bb xs i.toNat).jT=(bb ys i.toNat).jT)=false:=(MH _ _).symm.trans m_
    show Value.bool false=_
    have hne:¬bJ xs=bJ ys:=λu=>mx BF (by
     have dd:=Hb hi;rw[u,Hc hi] at dd;injection dd with dd
     exact dd.symm)
    rw[kp hne]
   ·have BF:decide ((bb xs i.toNat).jT=(bb ys i.toNat).jT)=true:=(MH _ _).symm.trans m_
    rw[show(i+1).toNat=i.toNat+1 by omega,ny,ny,ih,Hb hi,Hc hi,lu BF]
  ·have e1:(bJ xs).take i.toNat=bJ xs:=jh O0
   have e2:(bJ ys).take i.toNat=bJ ys:=jh O0;rw[e1,e2] at ih;show Value.bool true=_;rw[l8 ih]
theorem atv{m m':y7}{cq cA:ao}{bY c2:Nat}{xs ys:List ck}(aj:Laid w)(hx:dE w cq xs.length bY xs)(hy:dE w cA ys.length c2 ys)(hc:∀x∈xs,x.cs.length<=1000)(h1:bJ xs=m.lines)(h2:bJ ys=m'.lines):
  di X.VS #[.agg (m.o_ ⟨cq,xs.length,bY⟩).T, .agg (m'.o_ ⟨cA,ys.length,c2⟩).T] w (.bool (lI m m')):=by
 refine azO (m.o_ ⟨cq,xs.length,bY⟩) (m'.o_ ⟨cA,ys.length,c2⟩) λar g1 aQ g2 w1 hb1 fb=>(att (hx.O (U.au hb1)) (hy.O (U.au hb1)) hc).aH λad aK=>⟨_,rfl,aK.O,λe=>⟨λe1=>⟨λe2=>⟨λe3=>⟨λe4=>⟨_,λW=>aa1 _ _ W,λeu=>⟨_,λW=>aa2 _ _ W,λgq=>⟨_,λW=>Ri _ _ W,λiW=>aa.of λ_=>?_,λiW=>aa.of λ_=>?_⟩,λgq=>aa.of λ_=>?_⟩,λeu=>aa.of λ_=>?_⟩,λe4=>aa.of λ_=>?_⟩,λe3=>aa.of λ_=>?_⟩,λe2=>aa.of λ_=>?_⟩,λe1=>aa.of λ_=>?_⟩,λe=>aa.of λ_=>?_⟩
 all_goals (first|rw[h1,h2] at e|skip)
 ·have f0:=lu e
  have f5:=lu eu;have Lh:=lu gq;have f7:=lu iW;have f1:m.ai=m'.ai:=e1;have f2:m.first=m'.first:=e2;have lU:m.dD=m'.dD:=e3;have wj:m.cl=m'.cl:=e4;have BM:m.az=m'.az:=f5;have BN:m.bA=m'.bA:=Lh;have BO:m.bV=m'.bV:=f7;rw[Qo];simp only[lI,f0,f1,f2,lU,wj,BM,BN,BO,decide_true,Ga];rfl
 ·have BO:¬m.bV=m'.bV:=mx iW
  simp[lI,BO]
 ·have BN:¬m.bA=m'.bA:=mx gq
  simp[lI,BN]
 ·have BM:¬m.az=m'.az:=mx eu
  simp[lI,BM]
 ·have f:¬m.cl=m'.cl:=e4
  simp[lI,f]
 ·have f:¬m.dD=m'.dD:=e3
  simp[lI,f]
 ·have f:¬m.first=m'.first:=e2
  simp[lI,f]
 ·have f:¬m.ai=m'.ai:=e1
  simp[lI,f]
 ·have f:=mx e
  simp[lI,f]
end
section
variable{w:World}
theorem as'{c:fJ}{p:ao}{n k:Nat}{hs:List n7}{ab:List (List Int)}{q:iq}{cA:ao}{c2:Nat}{ys:List ck}(aj:Laid w)(hp:mB w p n hs ab)(ya:∀a,p=some a->a.block<w.heap.size)(hn:n<=4096)(adf:pR ab<=1048576)
  (hq:nB w5 c ab=q) (hy:dE w cA ys.length c2 ys) (hl:bJ ys=(l5 q).lines):
  di X.VN #[.agg c.T, .slice p n k, .agg ((l5 q).o_ ⟨cA,ys.length,c2⟩).T, .string ⟨q.av.iM.toArray⟩, .int .i64 0] w (.bool true):=by
 refine azK c p n k ((l5 q).o_ ⟨cA,ys.length,c2⟩) q.av.iM 0 λar g1 aQ g2 w1 hb1 fb=>?_
 have a8:=U.au hb1;refine(I1 (bK:=w5) (c:=c) (k:=k) OA (Laid.below hb1 aj) (hp.O a8) (λa e=>gp (ya a e) a8.size) hn adf I8).aH λv ad aK ⟨q1,d1,xs,ah,f1,f2,lU,wj⟩=>?_
 subst ah;rw[hq] at f2⊢;refine⟨(l5 q).o_ ⟨q1,xs.length,d1⟩,_,_,rfl,aK.O,λcH g3 bw bp fN=>?_⟩;have pw:=Laid.below bp (Laid.O aK (Laid.below hb1 aj));refine(atv (m:=l5 q) (m':=l5 q) pw (f1.O (U.au bp)) (hy.O ((a8.trans aK).trans (U.au bp))) wj f2 hl).aH λbD k4=>⟨_,rfl,k4.O,λe=>⟨λ_=>aa.of λ_=>?_,λe2=>absurd rfl e2⟩,λe=>?_⟩
 ·show Value.bool _=_
  rw[cb];rfl
 ·rw[agF] at e
  cases e
end
section
variable{w:World}
theorem akh(c:fJ):∃b,Pure X.VO #[.agg c.T] (.bool b):=by
 by_cases h1:c.an<=12
 ·by_cases h2:c.ai<=24
  ·exact⟨_,λw aj=>W2 c λar g1=>⟨λ_=>⟨λ_=>aa.of λ_=>rfl,λe=>absurd h2 M⟩,λe=>absurd h1 M⟩⟩
  ·exact⟨_,λw aj=>W2 c λar g1=>⟨λ_=>⟨λe=>absurd e h2,λ_=>aa.of λ_=>rfl⟩,λe=>absurd h1 M⟩⟩
 ·exact⟨_,λw aj=>W2 c λar g1=>⟨λe=>absurd e h1,λ_=>aa.of λ_=>rfl⟩⟩
def YZ(eM:List Int)(w0:World)(v:Value)(w:World):Prop:=∃p n k hs ab,v= .tuple #[.slice p n k, .int .i64 0]/\mB w p n hs ab/\(∀a,p=some a->a.block<w.heap.size)/\n<=4096/\ab.flatten=eM/\1<=n
theorem aqa{c:fJ}{cm aP:ao}{nb db aM ba:Nat}{eM me:List Int}(aj:Laid w)(hb:Row w cm nb 1 (eU eM))(jG:eM.length=nb)(gH:∀a,cm=some a->a.block<w.heap.size)(kO:∀x∈eM,0<=x/\x<256)(hl:Row w aP aM 1 (eU me))
  (ajZ:Pure X.Jg #[] (.bool true)) (hcut:GZ me=true->nb<=200->aM<=20->∀w',Laid w'->U bg w w'->bI Tryz.prog X.q_ #[.slice cm nb db, .slice aP aM ba] w' bg (YZ eM w')):
  di X.VM #[.agg c.T, .slice cm nb db, .slice aP aM ba] w (.bool true):=by
 have Iq:∀{V:World} {R:Ending->World->Prop},Laid V->(∀w',U bg V w'->Laid w'->R (.returned (.bool true)) w')->dH Tryz.prog X.Jg #[] V R:=λcY hR=>ajZ.aH cY hR
 obtain⟨bs,ve⟩:=akh c;refine azH c cm nb db aP aM ba λar g1 w1 hb1 fb=>ve.aH (Laid.below hb1 aj) λad aK hU=>⟨_,rfl,aK.O,λ_ bw bp fN=>Iq (Laid.below bp hU) λbD k4 kL=>⟨_,rfl,k4.O,aa.of λ_=>rfl⟩,λ_=>⟨λ_ bw bp fN=>Iq (Laid.below bp hU) λbD k4 kL=>⟨_,rfl,k4.O,aa.of λ_=>rfl⟩,λaBQ=>⟨λ_ bw bp fN=>Iq (Laid.below bp hU) λbD k4 kL=>⟨_,rfl,k4.O,aa.of λ_=>rfl⟩,λD5 bw bp fN=>?_⟩⟩⟩
 have pw:=Laid.below bp hU;have adT:U bg w bw:=((U.au hb1).trans aK).trans (U.au bp);refine(atw (c:=ba) (hl.O adT) M).aH λbD k4=>⟨_,rfl,k4.O,λ_ bP hb5 om=>Iq (Laid.below hb5 (Laid.O k4 pw)) λcu fj sl=>⟨_,rfl,fj.O,aa.of λ_=>rfl⟩,λbk bP hb5 om=>?_⟩
 have nc:=Laid.below hb5 (Laid.O k4 pw);have adU:=(adT.trans k4).trans (U.au hb5);refine(hcut bk M M bP nc adU).aH λv cu fj ⟨p,n,k,hs,ab,ah,hp,ya,hn,u_,ec⟩=>?_
 subst ah;have sl:=Laid.O fj nc;have Il:=adU.trans fj;have mG:=hp.same;have hlen:hs.length=n:=by have:=hp.row.len;unfold og at this;rw[gw] at this;omega
 have anS:∀(j:Nat) (l:List Int),ab[j]? =some l->∀x∈l,0<=x/\x<256:=λj l e x hx=>kO x (by rw[<-u_];exact List.mem_flatten.2 ⟨l,uE e,hx⟩)
 refine⟨_,_,_,_,rfl,fj.O,λe=>absurd rfl e,λ_=>⟨λe=>by omega,λ_=>⟨λbX i V=>0<=i/\i<=n/\Laid V/\U bg cu V/\bX=oL (ab.take i.toNat).flatten,λ_ i=>((n:Int)-i).toNat,λV hb=>⟨by omega,by omega,Laid.below hb sl,U.au hb,rfl⟩,?_⟩⟩⟩;rintro bX i w7 _ ⟨i0,eA,nJ,fe,rfl⟩;have aDf:ab.flatten.length<=200:=by rw[u_,jG];omega
 refine⟨λhi=>?_,λhi cW eO iI sv cR cr dO=>?_⟩
 ·obtain⟨h,hh⟩:∃h,hs[i.toNat]? =some h:=⟨_,el M⟩
  obtain⟨l,j3⟩:∃l,ab[i.toNat]? =some l:=⟨_,el M⟩;obtain⟨de,c1,r3,r4⟩:=hp.eG _ _ _ hh j3;have hrow:Row w7 p n 1 (og hs):=hp.row.O fe;obtain⟨aB,xM⟩:=hrow.iP M
  have dB:At w7 aB (i.toNat*1) [.slice h.p h.n h.c]:=hrow.at_ xM _ (by
   unfold og;rw[oC];have hlt:i.toNat<(hs.map λh=>Value.slice h.p h.n h.c).length:=by rw[gw];omega
   rw[mw hlt,JL];have hg:hs[i.toNat]'M=h:=by
    have:=el (l:=hs) (i:=i.toNat) M;rw[hh] at this;injection this with this
    exact this.symm
   rw[hg]
   rfl)
  have hsl:=ahl j3;have apb:=ahk (ab:=ab) (i.toNat+1);have ki:=FH ab;have ade:=FH (ab.take i.toNat);refine⟨aB,xM,⟨i0,hi⟩,h.p,h.n,h.c,dB,oL l,λs4 so=>⟨⟨by rw[GD,c1],λa e=>?_⟩,λe=>?_,by rw[GD,GD];omega,by unfold ay;omega,λky zx=>⟨⟨by omega,by omega,Laid.below zx (Laid.below so nJ),(fe.trans (U.au so)).trans (U.au zx),?_⟩,by show((n:Int)-(i+1)).toNat<((n:Int)-i).toNat;omega⟩⟩⟩
  ·rw[KG (anS _ _ j3)]
   exact(de.O (fe.trans (U.au so))).eI a e
  ·rcases nw h.n with z|z
   ·exact z
   ·obtain⟨a,kf⟩:=de.iP z
    rw[e] at kf;cases kf
  ·rw[show(i+1).toNat=i.toNat+1 by omega,ny,j3]
   unfold oL;simp
 ·have e1:(ab.take i.toNat).flatten=eM:=by rw[jh M,u_]
  rw[e1];have TM:=Il.trans fe;have TR:=cX.ax iI rfl;have MB:=TR.trans (U.au cr);have zX:U bg w cR:=TM.trans MB;have wt:Laid cR:=aj.ax zX λi e=>e.elim
  have hown:=cX.own (s:=1) (n:=1) iI rfl du;have aoH:mB cR (some ⟨eO,0,none⟩) 1 [⟨cm,nb,db⟩] [eM]:=by
   refine⟨(bF.row hown).below cr,rfl,λj x l e1 e2=>?_⟩;have hj:j=0:=by
    have:j<1:=by
     rcases h8 j 1 with q|q
     ·exact q
     ·rw[nu (by simpa using q)] at e1
      cases e1
    omega
   subst hj;have BC:(⟨cm,nb,db⟩:n7)=x:=by simpa using e1
   have wg:eM=l:=by simpa using e2
   subst BC wg;exact⟨hb.O zX,jG,(show nb<=1048576 by omega),λa e=>gp (gH a e) zX.size⟩
  have tF:∀a,(some (⟨eO,0,none⟩:Addr))=some a->a.block<cR.heap.size:=λa e=>by
   injection e with e
   subst e;exact gp ((hown.lt _ rfl).1) (U.au cr).size
  have hsl:pR [eM]<=1048576:=by rw[FH];simp;omega
  have apa:pR ab<=1048576:=by rw[FH];omega
  refine(I1 (bK:=w5) (c:=c) OA wt aoH tF M hsl I8).aH λv gn fZ ⟨q1,d1,ys,ah,f1,f2,lU,wj⟩=>?_
  subst ah;have amO:Laid gn:=wt.ax fZ λi e=>e.elim
  have amQ:nB w5 c ab=nB w5 c [eM]:=by rw[agt,u_]
  refine⟨(l5 (nB w5 c [eM])).o_ ⟨q1,ys.length,d1⟩,_,_,rfl,fZ.O,λfv abq=>⟨oL eM,λhC fs=>⟨⟨by rw[GD,jG],λa e=>?_⟩,λe=>?_,λ_=>⟨λ_ k2 py aob=>?_,λe=>absurd rfl e⟩,λe=>absurd rfl e⟩⟩⟩
  ·rw[KG kO]
   exact(hb.O ((zX.trans fZ).trans (U.au fs))).eI a e
  ·rcases nw nb with z|z
   ·exact z
   ·obtain⟨a,kf⟩:=hb.iP z
    rw[e] at kf;cases kf
  ·have abQ:=Laid.below fs amO
   have LD:=Laid.below py abQ;have aek:U bg gn k2:=(U.au fs).trans (U.au py);have Cy:U bg cu k2:=((fe.trans MB).trans fZ).trans aek;refine(as' (c:=c) (k:=k) LD (hp.O Cy) (λa e=>gp (ya a e) Cy.size) hn apa amQ (f1.O aek) f2).aH λoz rr=>⟨_,rfl,rr.O,λ_ l7 xY Sx=>?_,λe=>(nomatch e)⟩
   have MC:U bg w l7:=((Il.trans Cy).trans rr).trans (U.au xY);have abR:Laid l7:=aj.ax MC λi e=>e.elim
   refine(afP (c:=c) abR (hb.O MC) jG (λa e=>gp (gH a e) MC.size) M λw' tD k'=>(hcut bk M M w' tD (MC.trans k')).mono (λ_ e=>e) λv W _ ⟨p,n,k,hs,ab,dd,a2,a3,a4,a5,_⟩=>⟨p,n,k,hs,ab,dd,a2,a3,a4,a5⟩).aH λlK sJ=>⟨_,rfl,sJ.O,λ_ km qk acH=>Iq (Laid.below qk (Laid.O sJ abR)) λln apY aB3=>⟨_,rfl,apY.O,aa.of λ_=>rfl⟩,λe=>(nomatch e)⟩
end
end Go.Proofs.YtimbpmnbbfeogaaGreatDoor
namespace Go.Rep
def ir(l:List UInt8)(i:Nat):Nat:=(l.getD i 0).toNat
theorem ajS(l:List UInt8)(i:Nat):ir l i<256:=UInt8.toNat_lt _
def aa0(l:List UInt8)(i:Nat):Nat:=min (i+1+ir l i/4) l.length
def ae1(l:List UInt8)(i:Nat):Nat:=if ir l i%4<2 then aa0 l i else if ir l i%4=2 then i+3 else i+2
theorem arn{l:List UInt8}{i:Nat}(_:i<l.length):i<ae1 l i:=by
 unfold ae1 aa0;split
 ·omega
 ·split<;>omega
end Go.Rep
namespace Go.Rep
open Go.RowKit
theorem Qn(a:Addr)(n:Nat):(a.add n).block=a.block:=by unfold Addr.add;split<;>rfl
theorem aji(a:Addr)(i j:Nat):(a.add i).add j=a.add (i+j):=by
 unfold Addr.add
 by_cases hi:i=0<;>by_cases hj:j=0<;>simp[hi,hj,Nat.add_assoc]
def e9(w:World)(B size:Nat)(A:Option Addr)(n:Nat)(xs:List Value):Prop:=
 xs.length=n*size/\(0<n->∃aB,A=some aB/\aB.block<B/\∀j u,xs[j]? =some u->w.cell? (aB.add j)=some u)
section
variable{w w':World}{B B' size n:Nat}{A:Option Addr}{xs:List Value}
theorem e9.vo:e9 w B size A 0 []:=⟨by simp,λh=>absurd h M⟩
theorem e9.at_{k:Nat}(h:e9 w B 1 A n xs)(hk:k<n):∃aB u,A=some aB/\aB.block<B/\xs[k]? =some u/\w.cell? (aB.add k)=some u:=by
 obtain⟨aB,e,hb,hc⟩:=h.2 M;have hl:k<xs.length:=by have:=h.1;omega
 exact⟨aB,xs[k],e,hb,el hl,hc k _ (el hl)⟩
theorem e9.Ip(h:e9 w B size A n xs)(hk:∀p:Addr,p.block<B->w'.cell? p=w.cell? p):e9 w' B size A n xs:=
 ⟨h.1,λhn=>by
  obtain⟨aB,e,hb,hc⟩:=h.2 hn
  exact⟨aB,e,hb,λj u hu=>(hk _ (by rw[Qn];exact hb)).trans (hc j u hu)⟩⟩
theorem e9.cZ(h:e9 w B size A n xs)(hB:B<=B'):e9 w B' size A n xs:=
 ⟨h.1,λhn=>by
  obtain⟨aB,e,hb,hc⟩:=h.2 hn
  exact⟨aB,e,by omega,hc⟩⟩
theorem e9.below(h:e9 w B size A n xs)(hb:Below B w w'):e9 w' B size A n xs:=h.Ip λ_ hp=>hb.cell hp
theorem e9.drewN(h:e9 w B size A n xs)(k:Nat):e9 (w.drewN k) B size A n xs:=h
theorem e9.alloc(h:e9 w B size A n xs)(hB:B<=w.heap.size)(o:Obj):e9 (w.alloc o) B size A n xs:=h.Ip λp hp=>World.cell?_alloc_lt w o p M
theorem e9.cut(h:e9 w B size A n xs){k cap:Nat}(hk:k<=n)(hc:n<=cap):
  e9 w B size (if cap=k then A else A.map (·.add (k*size))) (n-k) (xs.drop (k*size)):=by
 refine⟨by rw[mv,h.1,Nat.sub_mul],λhn=>?_⟩;obtain⟨aB,rfl,hb,hcell⟩:=h.2 M;rw[ag M];refine⟨aB.add (k*size),rfl,by rw[Qn];exact hb,λj u hu=>?_⟩;rw[aji];exact hcell _ u (by rw[<-hu,s9])
theorem e9.afa{base:Nat}{e:TypeId}{c:Nat}(h:w.ownsRow base e size (.slice A n c) n xs):e9 w w.heap.size size A n xs:=by
 refine⟨h.1,λhn=>?_⟩;obtain⟨g,cap,ah,_,hlt⟩:=h.form hn;have dJ:A=some ⟨g,0,none⟩:=by injection ah
 subst dJ;exact⟨_,rfl,hlt,h.cells (g:=g) rfl⟩
end
def eZ(w:World)(g:Nat)(t:TypeId)(cs:Array Value):Prop:=w.heap[g]? =some (.cells cs t (0,0))
section
variable{w w':World}{g:Nat}{t:TypeId}{cs:Array Value}
theorem eZ.lt(h:eZ w g t cs):g<w.heap.size:=by
 rcases h8 g w.heap.size with hlt|qn
 ·exact hlt
 ·unfold eZ at h;rw[Dt qn] at h;cases h
theorem eZ.cell(h:eZ w g t cs)(i:Nat):w.cell? ⟨g,i,none⟩=cs[i]? :=cell_of_row w g i cs t (0,0) h
theorem eZ.frozen(h:eZ w g t cs)(i:Nat):w.frozen? ⟨g,i,none⟩=false:=by
 unfold eZ at h;simp[World.frozen?,h]
theorem eZ.new(w:World)(t:TypeId)(cs:Array Value):eZ (w.alloc (.cells cs t)) w.heap.size t cs:=heap_alloc_new w _
theorem eZ.alloc(h:eZ w g t cs)(o:Obj):eZ (w.alloc o) g t cs:=(Below.heap_alloc w o g h.lt).trans h
theorem eZ.Jm(h:eZ w g t cs)(i:Nat)(u:Value):eZ (w.setCell ⟨g,i,none⟩ u) g t (cs.setIfInBounds i u):=by
 unfold eZ at h⊢;simp[World.setCell,XW,h]
theorem eZ.Lj(h:eZ w g t cs){p:Addr}(hp:g≠p.block)(u:Value):eZ (w.setCell p u) g t cs:=(Below.heap_setCell w p u g hp).trans h
theorem eZ.grown{row:Option Nat}(h:eZ w g t cs)(hb:w.grownBy w' row)(hg:some g≠row):eZ w' g t cs:=(hb.block g h.lt hg).trans h
theorem eZ.arj{aU:Nat}{hv:TypeId}{fD:Array Value}(h:eZ w g t cs)(h':eZ w aU hv fD)(hne:t≠hv):g≠aU:=by
 rintro rfl;unfold eZ at h h';rw[h] at h';injection h' with h'
 injection h' with _ ht
 exact hne ht
theorem Ur{base:Nat}{e:TypeId}{size n:Nat}{v:Value}{xs:List Value}(h:w.ownsRow base e size v n xs)(hg:eZ w g t cs)(hne:e≠t):v.ownBlock≠some g:=by
 rcases h.2 with⟨rfl,_⟩|⟨aU,cap,cur,rfl,_,hh,_⟩
 ·simp[Value.ownBlock]
 ·intro he
  have:aU=g:=by simpa[Value.ownBlock] using he
  subst this;exact eZ.arj (t:=e) hh hg hne rfl
end
section
variable{P:Program}(w:World)
theorem avt(base:Nat)(t ty e:TypeId)(i:TypeInfo)(size:Nat)(ht:P.underlying t=some (.slice e))(hi:P.info? e=some i)
  (v:Value) (n:Nat) (xs:List Value) (hown:w.ownsRow base e size v n xs) (c:Nat):(Builtin.append_ #[t,t] ty #[v, .slice none 0 c]).run P w= .ok v w:=by
 rcases hown.2 with⟨rfl,rfl⟩|⟨g,cap,cur,rfl,_,_,sw,_⟩
 ·simp[Builtin.append_,run_underlying ht,sizeOf,typeInfo,hi,Builtin.lenOf,Builtin.firstCells]
 ·simp[Builtin.append_,run_underlying ht,sizeOf,typeInfo,hi,Builtin.lenOf,Builtin.firstCells,sw,storeCells]
theorem avs(base:Nat)(t ty e:TypeId)(i:TypeInfo)(z:Value)(size bytes:Nat)(ht:P.underlying t=some (.slice e))(hi:P.info? e=some i)(hz:i.zero=some z)
  (yb:i.size=size) (x0:i.bytes=bytes) (sE:z.cells.size=size) (hsz:0<size)
  (v:Value) (n:Nat) (xs:List Value) (hown:w.ownsRow base e size v n xs)
  (B:Nat) (A:Option Addr) (m c:Nat) (news:List Value) (hr:e9 w B size A m news) (h1:∀u∈news,u.oneCell'=true)
  (h63:n+m<=maxLen) (Hr:(n+m)*bytes<=140737488355328) (Hp:base<=w.heap.size):
  ∃v' w',(Builtin.append_ #[t,t] ty #[v, .slice A m c]).run P w= .ok v' w'/\w'.ownsRow base e size v' (n+m) (xs++news)/\w.grownBy w' v.ownBlock/\
   (v'.ownBlock=v.ownBlock∨v'.ownBlock=some w.heap.size):=by
 rcases A with _|aB
 ·have hm:m=0:=by
   rcases nw m with aW|aW
   ·exact aW
   ·obtain⟨aB,h,_⟩:=hr.2 aW
    cases h
  subst hm;have hn:news=[]:=n2 (by simpa using hr.1);subst hn;exact⟨v,w,avt w base t ty e i size ht hi v n xs hown c,by simpa using hown,World.grownBy.refl w _, .inl rfl⟩
 ·have D':∀j u,news[j]? =some u->w.cell? (aB.add j)=some u:=by
   intro j u hu;rcases nw m with aW|aW
   ·subst aW
    have hn:news=[]:=n2 (by simpa using hr.1);subst hn;simp at hu
   ·obtain⟨iH,h,_,hc⟩:=hr.2 aW
    injection h with h
    subst h;exact hc j u hu
  obtain⟨v',w',hrun,h2,aw,_,ca⟩:=run_append_own_at (P:=P) w base t ty e i z size bytes ht hi hz yb x0 sE hsz v n xs hown aB m c news hr.1 D' h1 h63 Hr Hp;exact⟨v',w',hrun,h2,aw,ca⟩
theorem aA9{o:Oper}{a:Act}{K:Act->World->Prop}{Q:Exit->Act->World->Prop}(s x:Operand)(t:TypeId)
  (ho:o.op= .call {callee:= .builtin .append,args:=#[s,x],argTypes:=#[t,t]})
  (base:Nat) (e:TypeId) (i:TypeInfo) (z:Value) (size bytes:Nat) (ht:P.underlying t=some (.slice e)) (hi:P.info? e=some i) (hz:i.zero=some z)
  (yb:i.size=size) (x0:i.bytes=bytes) (sE:z.cells.size=size) (hsz:0<size)
  (v:Value) (n:Nat) (xs:List Value) (hs:a.eval s=v) (hown:w.ownsRow base e size v n xs)
  (B:Nat) (A:Option Addr) (m c:Nat) (news:List Value) (hx:a.eval x= .slice A m c) (hr:e9 w B size A m news) (h1:∀u∈news,u.oneCell'=true)
  (h63:n+m<=maxLen) (Hr:(n+m)*bytes<=140737488355328) (Hp:base<=w.heap.size)
  (h:∀v' w',w'.ownsRow base e size v' (n+m) (xs++news)->w.grownBy w' v.ownBlock->(v'.ownBlock=v.ownBlock∨v'.ownBlock=some w.heap.size)->K (a.put o.dst v') w'):o.wp P a w K Q:=by
 obtain⟨v',w',hrun,h2,aw,aZ⟩:=avs (P:=P) w base t o.type e i z size bytes ht hi hz yb x0 sE hsz v n xs hown B A m c news hr h1 h63 Hr Hp;unfold Oper.wp execOp;simp only[ho,resolve,invoke,builtin,Sem.run_bind,Sem.run_pure,Result.andThen_ok,List.map_toArray,pU,JO,hs,hx,hrun];exact h v' w' h2 aw aZ
theorem aA8{kj:Array Oper}{rest:List Oper}{o:Oper}{a:Act}{Q:Exit->Act->World->Prop}(anO:o.guard=none)(s x:Operand)(t:TypeId)
  (ho:o.op= .call {callee:= .builtin .append,args:=#[s,x],argTypes:=#[t,t]})
  (base:Nat) (e:TypeId) (i:TypeInfo) (z:Value) (size bytes:Nat) (ht:P.underlying t=some (.slice e)) (hi:P.info? e=some i) (hz:i.zero=some z)
  (yb:i.size=size) (x0:i.bytes=bytes) (sE:z.cells.size=size) (hsz:0<size)
  (v:Value) (n:Nat) (xs:List Value) (hs:a.eval s=v) (hown:w.ownsRow base e size v n xs)
  (B:Nat) (A:Option Addr) (m c:Nat) (news:List Value) (hx:a.eval x= .slice A m c) (hr:e9 w B size A m news) (h1:∀u∈news,u.oneCell'=true)
  (h63:n+m<=maxLen) (Hr:(n+m)*bytes<=140737488355328) (Hp:base<=w.heap.size)
  (h:∀v' w',w'.ownsRow base e size v' (n+m) (xs++news)->w.grownBy w' v.ownBlock->(v'.ownBlock=v.ownBlock∨v'.ownBlock=some w.heap.size)->wpList P kj Q rest (a.put o.dst v') w'):wpList P kj Q (o::rest) a w:=
 wpList_plain anO λ_ hK=>aA9 w s x t ho base e i z size bytes ht hi hz yb x0 sE hsz v n xs hs hown B A m c news hx hr h1 h63 Hr Hp λv' w' h2 aw aZ=>hK _ _ (h v' w' h2 aw aZ)
end
def et(l:List UInt8):List Value:=l.map λx=> .int .u8 (x.toNat:Int)
theorem ajJ{l:List UInt8}{i:Nat}(h:i<l.length):(et l)[i]? =some (.int .u8 (ir l i:Int)):=by
 unfold et ir;rw[pV,el h,kb,el h];rfl
theorem ZF(l:List UInt8):(et l).length=l.length:=by simp[et]
theorem e9.bytes{w:World}{B n:Nat}{A:Option Addr}{l:List UInt8}(h:e9 w B 1 A n (et l)):l.length=n:=by have:=h.1;simpa[et] using this
theorem e9.byte{w:World}{B n:Nat}{A:Option Addr}{l:List UInt8}(h:e9 w B 1 A n (et l)){k:Nat}(hk:k<n):∃aB,A=some aB/\aB.block<B/\w.cell? (aB.add k)=some (.int .u8 (ir l k:Int)):=by
 obtain⟨aB,u,rfl,h2,aw,aZ⟩:=h.at_ hk;have hl:=h.bytes;rw[ajJ M] at aw;cases aw;exact⟨aB,rfl,h2,aZ⟩
theorem ajI(l:List UInt8)(k:Nat):(et l).drop k=et (l.drop k):=by simp[et,AU]
theorem ajL(l:List UInt8)(k:Nat):(et l).take k=et (l.take k):=by simp[et,xk]
theorem e9.take{w:World}{B size n m:Nat}{A:Option Addr}{xs:List Value}(h:e9 w B size A n xs)(hm:m<=n):e9 w B size A m (xs.take (m*size)):=by
 refine⟨by rw[kC,h.1];exact AY (JJ _ hm),λaW=>?_⟩;obtain⟨aB,e,hb,hc⟩:=h.2 M;refine⟨aB,e,hb,λj u hu=>hc j u ?_⟩;rw[uD] at hu;split at hu
 ·exact hu
 ·cases hu
theorem amx(w:World)(n:Nat)(row:Option Nat):w.grownBy (w.drewN n) row:=⟨rfl,rfl,rfl,cL _,λ_ _ _=>rfl⟩
theorem G_(w:World)(R i:Nat)(u:Value):w.grownBy (w.setCell ⟨R,i,none⟩ u) (some R):=
 ⟨rfl,rfl,rfl,by simp,λk _ hk=>Below.heap_setCell w ⟨R,i,none⟩ u k (λe=>hk (by rw[e]))⟩
theorem Uq{w:World}{base:Nat}{e:TypeId}{size n j:Nat}{v:Value}{xs:List Value}(h:w.ownsRow base e size v n xs)(hj:v.ownBlock=some j):base<=j:=by
 rcases h.2 with⟨rfl,_⟩|⟨g,cap,cur,rfl,hb,_⟩
 ·simp[Value.ownBlock] at hj
 ·have:g=j:=by simpa[Value.ownBlock] using hj
  omega
theorem wQ{w:World}{base:Nat}{e:TypeId}{size n:Nat}{v:Value}{xs:List Value}(h:w.ownsRow base e size v n xs):∃A c,v= .slice A n c/\n<=c/\c<=maxLen/\e9 w w.heap.size size A n xs:=by
 rcases h.2 with⟨rfl,rfl⟩|⟨g,cap,cur,rfl,_,_,h1,h2,_⟩
 ·exact⟨none,0,rfl,cL _,ef _,e9.afa h⟩
 ·exact⟨_,cap,rfl,h1,h2,e9.afa h⟩
end Go.Rep
namespace Go.Rep
open Go.RowKit Go.ChangeShapes Go.WideShapes Go.Deep
section
variable{ak:Type}{enc:TypeId×Value->ak}{P:Program}{w:World}{base:Nat}{spare:Nat->Bool}{held:Bool}
end
section
variable{ak:Type}{enc:TypeId×Value->ak}{P:Program}{W:World}{base:Nat}
theorem ajN{w:World}{a:Addr}{u:Value}(h:w.cell? a=some u):a.block<w.heap.size:=by
 rcases h8 a.block w.heap.size with h1|h1
 ·exact h1
 ·simp[World.cell?,Dt h1] at h
theorem afd{t e:TypeId}{v:Value}{d:DataW ak}{p:List MemPlace}{spare:Nat->Bool}(ht:P.underlying t=some (.slice e))(he:P.underlying e=some (.int .u8))(hc:P.cellsOf e=1)(yc:Value.okWide P W .any base t v)
  (h:DataW.Trod enc P W 0 spare true t v d p):∃A n c l,v= .slice A n c/\e9 W W.heap.size 1 A n (et l)/\n<=c/\c<=maxLen:=by
 obtain⟨dd,len,cap,rfl⟩:=okWide_slice ht yc;obtain⟨fuel,bk⟩:=h;rcases open_ints ht he hc bk with⟨jH,_⟩|⟨a,aDx,cap',df,jH,_,hl,hm,hz,_,hcell,apB⟩
 ·simp[Value.cells] at jH
  obtain⟨rfl,rfl,rfl⟩:=jH;exact⟨none,0,0,[],rfl,e9.vo,cL _,ef _⟩
 ·simp[Value.cells] at jH
  obtain⟨rfl,rfl,rfl⟩:=jH;have vh:len<=df.length:=by rw[hz];split<;>omega
  have hlen:((df.take len).map λn=>UInt8.ofNat n.toNat).length=len:=by simp;omega
  refine⟨some a,len,cap,(df.take len).map λn=>UInt8.ofNat n.toNat,rfl,⟨by rw[ZF,hlen];omega,λhn=>⟨a,rfl,?_,λj u hu=>?_⟩⟩,hl,hm⟩
  ·have:=ajN (hcell 0 M)
   rwa[Qn] at this
  ·have hj:j<len:=by
    have:=(nv.1 hu).1;rw[ZF,hlen] at this;exact this
   have L2:j<df.length:=by omega
   rw[hcell j L2];have hr:=bounds_u8 (apB (df[j]) (vM L2));simp only[et,pV,uD,aA hj,el L2,Option.map_some,xg] at hu;rw[<-hu,kb,el L2,O6];congr 2;obtain⟨h1,h2⟩:=hr;simp only[UInt8.toNat_ofNat'];omega
end
end Go.Rep
namespace Go.Rep
def od(l:List UInt8):Bool:=l.isEmpty||l.any (λx=>decide (0<x.toNat))
end Go.Rep
namespace Go.Proofs.YtimbpmnbbfeogaaGreatDoor
open Go.RowKit Go.Rep
section
variable{A:Option Addr}{m d' B:Nat}{l:List UInt8}{w:World}
theorem al'{l:List UInt8}{k:Nat}(hk:k<l.length)(aW:0<ir l k):od l=true:=by
 unfold od;have:l.any (λx=>decide (0<x.toNat))=true:=by
  rw[Pe];refine⟨l[k],vM hk,?_⟩;unfold ir at aW;rw[kb,el hk] at aW;simpa using aW
 rw[this,Bool.or_true]
theorem abe{l:List UInt8}(h:∀j,j<l.length->ir l j=0):od l=l.isEmpty:=by
 unfold od;have:l.any (λx=>decide (0<x.toNat))=false:=by
  rw[X_];intro x hx;obtain⟨k,hk,rfl⟩:=List.getElem_of_mem hx;have:=h k hk;unfold ir at this;rw[kb,el hk] at this;simp at this;simp[this]
 rw[this,Bool.or_false]
end
end Go.Proofs.YtimbpmnbbfeogaaGreatDoor
namespace Go.Rep
def rA(l:List UInt8):Nat->Nat
 |0=>0
 |k+1=>max (rA l k) (ir l k)
theorem aeH{l:List UInt8}:∀k,rA l k=0↔∀j,j<k->ir l j=0:=by
 intro k
 induction k with
 |zero=>simp[rA]
 |succ k ih=>
  unfold rA;constructor
  ·intro h j hj
   have h1:rA l k=0:=by omega
   rcases h8 j k with h2|h2
   ·exact ih.1 h1 j h2
   ·obtain rfl:j=k:=by omega
    omega
  ·intro h
   have h1:=ih.2 (λj hj=>h j M);have h2:=h k M;omega
end Go.Rep
namespace Go.Proofs.YtimbpmnbbfeogaaGreatDoor
open Go.RowKit Go.Rep
theorem abd{l:List UInt8}(h:0<l.length):od l= !(rA l l.length==0):=by
 by_cases hz:rA l l.length=0
 ·rw[abe ((aeH _).1 hz),hz]
  cases l with
  |nil=>simp at h
  |cons a t=>rfl
 ·have:∃j,j<l.length/\0<ir l j:=by
   rcases Classical.em (∃j,j<l.length/\0<ir l j) with h1|h1
   ·exact h1
   ·exact absurd ((aeH _).2 (λj hj=>Nat.eq_zero_of_not_pos λh2=>h1 ⟨j,hj,h2⟩)) hz
  obtain⟨j,h1,h2⟩:=this;rw[al' h1 h2];simp[hz]
section
variable{A:Option Addr}{m d' B:Nat}{l:List UInt8}{w:World}
theorem aeI(hr:e9 w B 1 A m (et l))(hm:m<=1000000)(aW:0<m):Calls Tryz.prog 12 #[.slice A m d'] w λe w'=>e= .returned (.int .u8 (rA l m:Int))/\w'=w:=by
 have HL:=Lib.hid hr.bytes;obtain⟨aB,rfl,hb,hc⟩:=hr.byte aW;have hc0:w.cell? aB=some (.int .u8 (ir l 0:Int)):=by simpa[Addr.add] using hc
 have h1:¬((m:Int)<1):=by omega
 go_enter Tryz.func12,Tryz.ntmps12
 go_wp2
 go_loopw [3,4] (λv i wr=>∃k:Nat,1<=k/\k<=m/\i= .int .i64 k/\v= .int .u8 (rA l k:Int)/\wr=w) (λ_ i _=>m-(intOf i).toNat)
 case atStart=>
  refine⟨1,by omega,by omega,rfl,?_,rfl⟩;simp[rA]
 case round=>
  obtain⟨k,hk1,hk,rfl,rfl,rfl⟩:=hrel
  by_cases hlt:k<m
  ·clear hc hc0
   obtain⟨iH,had,hb',hc⟩:=hr.byte hlt;cases had;have hlt':(k:Int)<m:=by omega
   go_wp2
   go_roundw
   case rel=>
    refine⟨k+1,by omega,by omega,by go_num,?_,trivial⟩;show _=Value.int .u8 ((max (rA l k) (ir l k):Nat):Int);congr 1;first|omega|(split<;>omega)
   case measure=>simp[intOf];omega
  ·obtain rfl:k=m:=by omega
   go_wp2
   go_ret
   exact⟨rfl,rfl⟩
end
theorem awF:(Tryz.prog.info? 5).map (λi=>(i.zero,i.size,i.bytes))=some (some (.int .u8 0),1,1):=by kernel_rfl
theorem ajH(l:List UInt8):∀u∈et l,u.oneCell'=true:=by
 intro u hu;obtain⟨x,_,rfl⟩:=lr.1 hu;rfl
section
variable{A:Option Addr}{m d' B:Nat}{l:List UInt8}{w:World}
theorem QS(hr:e9 w B 1 A m (et l))(hB:B<=w.heap.size)(hm:m<=1000000):
  Calls Tryz.prog 14 #[.slice A m d'] w λe w'=>∃v,e= .returned v/\w'.ownsRow w.heap.size 5 1 v m (et l)/\Below w.heap.size w w':=by
 obtain⟨i0,hi,hz0,hz1,hz2⟩:=info_parts awF;cases A with
 |none=>
  have aW:m=0:=by
   rcases nw m with h|h
   ·exact h
   ·obtain⟨aB,h2,_⟩:=hr.2 h;cases h2
  subst aW;have hq:=Lib.run_eql_slice_nil (P:=Tryz.prog) w 24 5 none 0 d' 0 0 Tryz.underlying24;have hl:et l=[]:=n2 (by simpa using hr.1);have HL:=Lib.hid hl;clear hl
  go_enter Tryz.func14,Tryz.ntmps14
  go_wp2
  go_ret
  exact⟨_,rfl,by rw[HL.out];exact World.ownsRow_nil _ _ _ _,Below.refl _ _⟩
 |some aB=>
  have hq:=Lib.run_eql_slice_nil (P:=Tryz.prog) w 24 5 (some aB) m d' 0 0 Tryz.underlying24;have h63:0+m<=maxLen:=by unfold maxLen;omega
  go_enter Tryz.func14,Tryz.ntmps14
  go_wp2_with (at_builtin;refine aA8 _ rfl (.tmp 5) (.tmp 6) 24 rfl w.heap.size 5 i0 (.int .u8 0) 1 1 Tryz.underlying24 hi hz0 hz1 hz2 rfl du _ 0 [] rfl (World.ownsRow_lit (base:=w.heap.size) w #[] 0 (cL _) (ef _) rfl) B (some aB) m d' (et l) rfl (hr.alloc hB _) (ajH l) h63 M aS ?_;intro v7 w7 oY kt _)
  go_ret
  have hbel:Below w.heap.size w w7:=by
   refine((Below.refl _ _).alloc (cL _) _).grown kt aS (λj q=>?_);have:w.heap.size=j:=h9 q;omega
  refine⟨_,rfl,?_,hbel⟩;rw[iR] at oY;exact oY
end
end Go.Proofs.YtimbpmnbbfeogaaGreatDoor
namespace Go.Rep
def gr(ab:List UInt8)(N i at':Nat):Nat:=if ab.length=0 then N-at' else min (ir ab (i%ab.length)) (N-at')
def dF(ab:List UInt8)(N:Nat):Nat->Nat
 |0=>0
 |i+1=>dF ab N i+gr ab N i (dF ab N i)
theorem Jn(ab:List UInt8)(N i a:Nat):gr ab N i a<=N-a:=by
 unfold gr;split<;>omega
theorem Gy(ab:List UInt8)(N:Nat):∀i,dF ab N i<=N:=by
 intro i
 induction i with
 |zero=>exact ef _
 |succ i ih=>
  have:=Jn ab N i (dF ab N i);show dF ab N i+gr ab N i (dF ab N i)<=N;omega
theorem DI(ab:List UInt8)(N i:Nat):∀d,dF ab N i<=dF ab N (i+d):=by
 intro d
 induction d with
 |zero=>exact cL _
 |succ d ih=>
  show _<=dF ab N (i+d)+_;omega
theorem ajw{ab:List UInt8}{N i j:Nat}(hj:j<ab.length)(aW:0<ir ab j)(hi:i%ab.length=j)(hlt:dF ab N i<N):dF ab N i+1<=dF ab N (i+1):=by
 show _<=dF ab N i+gr ab N i (dF ab N i);unfold gr;rw[ag M,hi];omega
theorem ajv{ab:List UInt8}{N j:Nat}(hj:j<ab.length)(aW:0<ir ab j):∀q,min N q<=dF ab N (q*ab.length):=by
 intro q
 induction q with
 |zero=>omega
 |succ q ih=>
  by_cases hN:dF ab N (q*ab.length)=N
  ·have:=DI ab N (q*ab.length) ab.length
   rw[Ds];omega
  ·have h1:=Gy ab N (q*ab.length)
   rw[Ds];have h2:=DI ab N (q*ab.length) j;have aw:=DI ab N (q*ab.length+j+1) (ab.length-j-1);rw[show q*ab.length+j+1+(ab.length-j-1)=q*ab.length+ab.length by omega] at aw
   by_cases aZ:dF ab N (q*ab.length+j)<N
   ·have ca:=ajw hj aW (i:=q*ab.length+j) (by rw[Nat.mul_comm,Nat.mul_add_mod];exact XO hj) aZ
    omega
   ·have dM:=Gy ab N (q*ab.length+j)
    have fM:=DI ab N (q*ab.length+j) 1;omega
def r6(ab:List UInt8)(N:Nat):Nat:=N*ab.length+1
def l1(ab:List UInt8)(N i:Nat):Bool:=i==0||decide (dF ab N i<N)
theorem aju{ab:List UInt8}{N j:Nat}(hj:j<ab.length)(aW:0<ir ab j){i:Nat}(hi:N*ab.length<=i):dF ab N i=N:=by
 have h1:=ajv (N:=N) hj aW N;have h2:=DI ab N (N*ab.length) (i-N*ab.length);rw[show N*ab.length+(i-N*ab.length)=i by omega] at h2;have aw:=Gy ab N i;omega
def tk(ab:List UInt8)(N d':Nat)(A:Option Addr):Nat->Option Addr
 |0=>A
 |i+1=>if d'-dF ab N i=gr ab N i (dF ab N i) then tk ab N d' A i else(tk ab N d' A i).map (·.add (gr ab N i (dF ab N i)))
theorem ajj{w:World}{B N d':Nat}{A:Option Addr}{bs ab:List UInt8}(h:e9 w B 1 A N (et bs))(hc:N<=d'):∀i,e9 w B 1 (tk ab N d' A i) (N-dF ab N i) (et (bs.drop (dF ab N i))):=by
 intro i
 induction i with
 |zero=>exact h
 |succ i ih=>
  have h1:=Jn ab N i (dF ab N i);have h2:=ih.cut h1 (cap:=d'-dF ab N i) (by have:=Gy ab N i;omega);rw[oC,ajI,vH] at h2;have e:N-dF ab N (i+1)=N-dF ab N i-gr ab N i (dF ab N i):=by
   show N-(dF ab N i+gr ab N i (dF ab N i))=_;omega
  rw[e];exact h2
def mL(bs ab:List UInt8)(N i:Nat):List UInt8:=(bs.drop (dF ab N i)).take (gr ab N i (dF ab N i))
end Go.Rep
namespace Go.Proofs.YtimbpmnbbfeogaaGreatDoor
open Go.RowKit Go.Rep Go.Shelf
attribute [local go_sem] Oper.semAt_some
def tf(N lv:Nat)(W W':World):Prop:=Below N W W'/\W'.heap[lv]? =W.heap[lv]?
theorem ZI{B:Nat}{a w:World}(h:Below B a w)(k:Nat):Below B a (w.drewN k):=⟨h.os,h.tape,h.output,h.size,h.block⟩
theorem tf.trans{N lv:Nat}{A B C:World}(h:tf N lv A B)(k:tf N lv B C):tf N lv A C:=⟨h.1.trans k.1,k.2.trans h.2⟩
theorem tf.akw{N lv:Nat}{W W':World}(h:tf N lv W W')(i:Nat):W'.cell? ⟨lv,i,none⟩=W.cell? ⟨lv,i,none⟩:=World.cell?_of_block h.2
def No(ab:List UInt8)(N d':Nat)(A:Option Addr)(i:Nat):Array Value:=#[.int .i64 (i:Int), .slice (tk ab N d' A i) (gr ab N i (dF ab N i)) (d'-dF ab N i)]
def oa(ab:List UInt8)(N k:Nat):Prop:=∀j,j<k->l1 ab N j=true
theorem ama{ab:List UInt8}(h:od ab=true)(aW:0<ab.length):∃j,j<ab.length/\0<ir ab j:=by
 rcases Classical.em (∃j,j<ab.length/\0<ir ab j) with h1|h1
 ·exact h1
 ·have h2:=abe (l:=ab) (λj hj=>Nat.eq_zero_of_not_pos λh2=>h1 ⟨j,hj,h2⟩)
  rw[h] at h2;cases ab with
  |nil=>simp at aW
  |cons a t=>simp at h2
theorem aar{ab:List UInt8}{N k:Nat}(h:od ab=true)(hm:l1 ab N k=true):k<r6 ab N:=by
 unfold r6;unfold l1 at hm;simp only[vK,beq_iff_eq,lM] at hm;rcases nw ab.length with aW|aW
 ·rcases hm with hm|hm
  ·omega
  ·rcases nw k with hk|hk
   ·omega
   ·have h1:dF ab N 1=N:=by
     show 0+gr ab N 0 0=N;unfold gr;rw[aA aW];omega
    have h2:=DI ab N 1 (k-1);rw[show 1+(k-1)=k by omega] at h2;omega
 ·obtain⟨j,hj,hj0⟩:=ama h aW
  rcases h8 k (N*ab.length+1) with h1|h1
  ·exact h1
  ·have:=aju hj hj0 (N:=N) (i:=k) M
   omega
theorem arW(F:Fence)(n:Nat)(h12:F.fn 22)(hro:F.round=none)(hn:1<=n)(l y3 lv n₀:Nat){A ff:Option Addr}{m d' mc kJ:Nat}{bs ab:List UInt8}(hcp:m<=d')(hm:m<=1000000)(hmc:mc<=1000000)(mE:od ab=true)
  (J Jx:List Nat->World->Prop) (hJd:∀pre W n,J pre W->J pre (World.drewN W n))
  (hY:∀pre x W,J pre W->pre.length<r6 ab m->YieldAt F (n-1) Tryz.prog l (No ab m d' A x) W λe W'=>
   (e= .returned (.bool true)/\J (pre++[x]) W'/\tf n₀ lv W W')∨(e= .returned (.bool false)/\Jx (pre++[x]) W'))
  (W:World) (hBb:W.cell? ⟨y3,0,none⟩=some (.slice A m d')) (RH:W.cell? ⟨lv,0,none⟩=some (.slice ff mc kJ)) (aBD:e9 W n₀ 1 A m (et bs)) (hrc:e9 W n₀ 1 ff mc (et ab)) (aW:J [] W):
  CallsIn F n Tryz.prog 22 #[.func (.yield l) #[] #[], .pointer (some ⟨y3,0,none⟩), .pointer (some ⟨lv,0,none⟩)] W λe W'=>(∃v,e= .returned v)/\
   ((∃ys,(∃k,ys=List.range k/\oa ab m k/\l1 ab m k=false)/\J ys W')∨(∃pre,(∃k,pre=List.range k/\oa ab m k)/\Jx pre W')):=by
 have Y7:=Lib.hid hrc.bytes;refine callsIn_of_wp Tryz.func22 rfl h12 ?_ hro;simp only[Tryz.ntmps22,s_,ko,List.length_nil,Nat.reduceAdd,Nat.reduceSub,Pb,Array.replicate_zero,Pc,Pd,pW,List.cons_append]
 gi_wp2
 refine wpIn_region_quiet_lit hro jr jr ?_
 repeat (quiet_step_in (fail))
 refine wpQuietIn_nil ?_;intro _ hw';obtain⟨nq,hw''⟩:=hw';subst hw''
 gi_wp2
 gi_loopw [4,5] (λi v wr=>∃k:Nat,i= .int .i64 k/\v= .slice (tk ab m d' A k) (m-dF ab m k) (d'-dF ab m k)/\J (List.range k) wr/\tf n₀ lv W wr/\Hid (oa ab m k)) (λi _ _=>r6 ab m-(intOf i).toNat)
 case atStart=>exact⟨0,rfl,rfl,hJd _ _ _ aW,⟨ZI (Below.refl _ _) _,rfl⟩,Lib.hid (λj h=>by omega)⟩
 case round=>
  obtain⟨k,rfl,rfl,hJs,hkp,hct⟩:=hrel;have aB1:wr.cell? ⟨lv,0,none⟩=some (.slice ff mc kJ):=(hkp.akw 0).trans RH;have hle:=Gy ab m k;have hsl:=Jn ab m k (dF ab m k);have H9:gr ab m k (dF ab m k)=if mc=0 then m-dF ab m k else min (ir ab (k%mc)) (m-dF ab m k):=by unfold gr;rw[Y7.out]
  have hA1:dF ab m (k+1)=dF ab m k+gr ab m k (dF ab m k):=rfl;have B0:tk ab m d' A (k+1)=if d'-dF ab m k=gr ab m k (dF ab m k) then tk ab m d' A k else(tk ab m d' A k).map (·.add (gr ab m k (dF ab m k))):=rfl
  have hyk:=λW1 (hj:J (List.range k) W1) (hkb:k<r6 ab m)=>hY (List.range k) k W1 hj (by rw[List.length_range];exact hkb)
  have El:l1 ab m k=(k==0||decide (0<m-dF ab m k)):=by unfold l1;congr 1;rw[Bool.eq_iff_iff];simp;omega
  obtain⟨a0,ha0⟩:∃a,a=dF ab m k:=⟨_,rfl⟩;obtain⟨R0,hR0⟩:∃a,a=tk ab m d' A k:=⟨_,rfl⟩;simp only[No] at hyk;rw[<-ha0] at hle hsl H9 hA1 B0 El;simp only[<-ha0,<-hR0] at hyk B0⊢;obtain⟨aN,hs0⟩:∃a,a=gr ab m k a0:=⟨_,rfl⟩;rw[<-hs0] at hsl H9 hA1 B0;simp only[<-hs0] at hyk;obtain⟨L0,hL0⟩:∃a,a=m-a0:=⟨_,rfl⟩;obtain⟨C0,hC0⟩:∃a,a=d'-a0:=⟨_,rfl⟩;obtain⟨F0,BZ⟩:∃a,(if C0=aN then R0 else Option.map (λp=>p.add aN) R0)=a:=⟨_,rfl⟩;simp only[<-hC0] at hyk B0⊢;simp only[<-hL0] at hsl H9 El⊢;rw[BZ] at B0;have aB4:L0<=C0:=by omega
  have hnext:m-dF ab m (k+1)=L0-aN/\d'-dF ab m (k+1)=C0-aN:=by rw[hA1];omega
  have HN:=Lib.hid hnext;have HR:=Lib.hid B0;have HA:=Lib.hid (And.intro ha0 (And.intro hR0 (And.intro hs0 hL0)));have hL1:L0<=1000000:=by omega
  have acA:k<r6 ab m->k<1000000000001:=by
   intro gm;have gT:m*ab.length<=1000000*1000000:=X6 hm (by rw[Y7.out];exact hmc);unfold r6 at gm;omega
  have Y8:=Lib.hid H9;clear ha0 hR0 hs0 hC0 hnext B0 hA1 hle hL0 H9
  gi_upto_region 1 with fail
  gi_cut [14] from 8 (λc wx=>c= .bool (l1 ab m k)/\wx=wr)
  case first=>
   rcases nw k with h1|h1
   ·have h2:((k:Int)==0)=true:=by simp;omega
    have H1:=Lib.hid h1;clear h1
    gi_wp2
    gi_meet
    exact⟨dx Value.bool (by rw[El];simp[H1.out]),rfl⟩
   ·have h2:((k:Int)==0)=false:=by simp;omega
    by_cases aw:0<L0
    ·have aZ:(0:Int)<(L0:Int):=by omega
     gi_wp2
     gi_meet
     exact⟨dx Value.bool (by rw[El];simp[aw]),rfl⟩
    ·have aZ:¬(0:Int)<(L0:Int):=by omega
     gi_wp2
     gi_meet
     exact⟨dx Value.bool (by rw[El];simp[aw];omega),rfl⟩
  case rest=>
   obtain⟨rfl,rfl⟩:=hcut
   by_cases hmo:l1 ab m k=true
   ·have hkb:k<r6 ab m:=aar mE hmo
    have hkb':=acA hkb;rw[hmo];clear acA El
    gi_upto_if 21 with fail
    gi_cut [6] from 8 (λv wx=>v= .int .i64 (aN:Int)/\∃q,wx=World.drewN wc q)
    case first=>
     rcases nw mc with L8|L8
     ·have ca:aN=L0:=by rw[Y8.out,aA L8]
      have dM:¬((0:Int)<(mc:Int)):=by omega
      have aiF:=Lib.hid ca;clear ca L8
      gi_wp2
      gi_meet
      exact⟨by rw[aiF.out],0,rfl⟩
     ·have dM:(0:Int)<(mc:Int):=by omega
      obtain⟨j0,hj0⟩:∃j,k%mc=j:=⟨_,rfl⟩;have fM:j0<mc:=by rw[<-hj0];exact Nat.mod_lt _ L8
      obtain⟨ac,hac,hb,hc⟩:=(hrc.below hkp.1).byte fM;have ac':aN=min (ir ab j0) L0:=by rw[Y8.out,ag M,hj0]
      have HS:=Lib.hid ac';have h14:(k:Int)%(mc:Int)=(j0:Int):=by rw[<-hj0];rfl
      have gm:Int.tmod (k:Int) (mc:Int)=(j0:Int):=by rw[aiv M];exact h14
      clear ac' hj0;subst hac;have gT:¬(mc=0):=by omega
      have h8':¬((mc:Int)=0):=by omega
      have h10:(j0:Int)<(mc:Int):=by omega
      gi_wp2
      refine wpIn_region_quiet_lit hro jr jr ?_
      repeat (quiet_step_in (fail))
      refine wpQuietIn_nil ?_;intro _ hw';obtain⟨nq,hw''⟩:=hw';subst hw''
      gi_wp2
      all_goals gi_meet
      all_goals
       go_light
       have cr:=ajS ab j0;have hwb:IntKind.i64.wrap (ir ab j0:Int)=(ir ab j0:Int):=(IntWalk.i64_left _).trans (IntWalk.wrap64_in _ M);refine⟨?_,nq,rfl⟩;rw[HS.out];congr 1;simp only[hwb] at*;omega
    case rest=>
     obtain⟨rfl,q,rfl⟩:=hcut;obtain⟨fn,tmps,assign,body,hy,hR⟩:=hyk _ (hJd _ _ q hJs) hkb;have h11:(aN:Int)<=(C0:Int):=by omega
     have h12:(aN:Int)<=(L0:Int):=by omega
     gi_wp2
     refine hR.mono ?_;rintro e W3 (⟨rfl,hJ3,hk3⟩|⟨rfl,hJx3⟩)
     ·have aiG:=Lib.hid hJ3
      clear hJ3
      gi_wp2
      go_roundw
      case rel=>
       go_light
       refine⟨k+1,by go_num,?_,by rw[X7];exact aiG.out,(hkp.trans (⟨ZI (Below.refl _ _) _,rfl⟩:tf n₀ lv wc (wc.drewN q))).trans hk3,Lib.hid (λj hj=>?_)⟩
       ·rw[HN.out.1,HN.out.2,HR.out]
       ·rcases h8 j k with gm|gm
        ·exact hct.out j gm
        ·obtain rfl:j=k:=by omega
         exact hmo
      case measure=>go_light;simp[intOf];omega
     ·gi_wp2
      refine bodyPost_ret (results_none rfl _ _ _) rfl ?_
      exact⟨⟨_,rfl⟩, .inr ⟨List.range (k+1),⟨k+1,rfl,λj hj=>by
       rcases h8 j k with gm|gm
       ·exact hct.out j gm
       ·obtain rfl:j=k:=by omega
        exact hmo⟩,by rw[X7];exact hJx3⟩⟩
   ·have hmo:l1 ab m k=false:=by simpa using hmo
    rw[hmo]
    gi_wp2
    go_end0
    exact⟨⟨_,rfl⟩, .inl ⟨_,⟨k,rfl,hct.out,hmo⟩,hJs⟩⟩
end Go.Proofs.YtimbpmnbbfeogaaGreatDoor
namespace Go.Proofs.YtimbpmnbbfeogaaGreatDoor
open Go.RowKit Go.Rep Go.Shelf
attribute [local go_sem] Oper.semAt_some
theorem arY(F:Fence)(n:Nat)(h10:F.fn 13)(hro:F.round=none)(A ff:Option Addr)(m d' mc kJ:Nat)(w:World):
  CallsIn F n Tryz.prog 13 #[.slice A m d', .slice ff mc kJ] w λe w'=>e= .returned (.func (.func 22) #[] #[.pointer (some ⟨w.heap.size,0,none⟩), .pointer (some ⟨w.heap.size+1,0,none⟩)])/\
   w'=(w.alloc (.cells #[.slice A m d'] 24)).alloc (.cells #[.slice ff mc kJ] 24):=by
 refine callsIn_of_wp Tryz.func13 rfl h10 ?_ hro;simp only[Tryz.ntmps13,s_,ko,List.length_nil,Nat.reduceAdd,Nat.reduceSub,Pb,Array.replicate_zero,Pc,Pd,pW,List.cons_append]
 gi_wp2
 go_ret
 exact⟨rfl,rfl⟩
theorem arZ(F:Fence)(n:Nat)(h12:F.fn 22)(hro:F.round=none)(hn:1<=n)(y3 lv n₀:Nat){A ff:Option Addr}{m d' mc kJ:Nat}{bs ab:List UInt8}(hcp:m<=d')(hm:m<=1000000)(hmc:mc<=1000000)(mE:od ab=true)
  (w:World) (hb:y3<w.heap.size) (hc:lv<w.heap.size) (hn₀:n₀<=w.heap.size) (hBb:w.cell? ⟨y3,0,none⟩=some (.slice A m d')) (RH:w.cell? ⟨lv,0,none⟩=some (.slice ff mc kJ)) (hrb:e9 w n₀ 1 A m (et bs)) (hrc:e9 w n₀ 1 ff mc (et ab)):
  SeqStopsK F n Tryz.prog 22 #[.pointer (some ⟨y3,0,none⟩), .pointer (some ⟨lv,0,none⟩)] (No ab m d' A) (tf n₀ lv) (λys=>∃k,ys=List.range k/\oa ab m k/\l1 ab m k=false)
   (λpre=>∃k,pre=List.range k/\oa ab m k) (r6 ab m) w:=λl J Jx W hW hJ _ hY aW=>
 arW F n h12 hro hn l y3 lv n₀ hcp hm hmc mE J Jx (λpre W n hj=>hJ pre W _ none hj (amx W n none) (λr e=>by cases e)) hY W ((hW.cell (p:=⟨y3,0,none⟩) hb).trans hBb) ((hW.cell (p:=⟨lv,0,none⟩) hc).trans RH) (hrb.below (hW.mono hn₀)) (hrc.below (hW.mono hn₀)) aW
end Go.Proofs.YtimbpmnbbfeogaaGreatDoor
namespace Go.Proofs.YtimbpmnbbfeogaaGreatDoor
open Go.RowKit Go.Rep Go.Shelf
attribute [local go_sem] Oper.semAt_some
theorem xD{W W':World}{g:Nat}{t:TypeId}{cs:Array Value}{row:Option Nat}(h:eZ W g t cs)(hg:W.grownBy W' row)(hr:∀r,row=some r->∃o:Obj,W.heap[r]? =some o/\o.isCells=false):eZ W' g t cs:=
 h.grown hg λe=>by
  obtain⟨o,h1,h2⟩:=hr g e.symm;unfold eZ at h;rw[h] at h1;cases h1;cases h2
theorem Nc{W W':World}{base size n:Nat}{e:TypeId}{v:Value}{xs:List Value}{row:Option Nat}(h:W.ownsRow base e size v n xs)(hg:W.grownBy W' row)(hr:∀r,row=some r->∃o:Obj,W.heap[r]? =some o/\o.isCells=false):W'.ownsRow base e size v n xs:=by
 refine h.kept hg ?_;rcases h.2 with⟨rfl,_⟩|⟨g,cap,cur,rfl,_,hh,_⟩
 ·exact .inl rfl
 ·refine .inr λhe=>?_
  obtain⟨o,h1,h2⟩:=hr g he.symm;rw[hh] at h1;cases h1;cases h2
def aiV(N m:Nat)(bs ab:List UInt8)(pre:List Nat)(W:World):Prop:=
 ∃(v:Value) (vs:List Value),eZ W (N+2) 28 #[v]/\W.ownsRow (N+5) 24 1 v pre.length vs/\∀(i x:Nat),pre[i]? =some x->∃u:Value,vs[i]? =some u/\W.ownsRow N 5 1 u (gr ab m x (dF ab m x)) (et (mL bs ab m x))
def PE(N m:Nat)(bs ab:List UInt8)(w:World)(pre:List Nat)(W:World):Prop:=
 (aiV N m bs ab pre W/\(∀x∈pre,x≠4096)/\eZ W N 28 #[.slice none 0 0]/\eZ W (N+1) 29 #[.int .i64 0]/\N+5<=W.heap.size)/\Below N w W
def Y0(N:Nat)(w:World)(c:Code)(pre:List Nat)(W:World):Prop:=
 (c= .ret/\4096∈pre/\eZ W N 28 #[.slice none 0 0]/\eZ W (N+1) 29 #[.int .i64 5])/\Below N w W
theorem ak6{N m B:Nat}{bs ab:List UInt8}{w:World}(hB:N<=B)(hN:N<=w.heap.size):OwnFrom B (PE N m bs ab w):=
 OwnFrom.and (λpre W W' row hs hg hr=>by
  obtain⟨⟨v,vs,h1,h2,aw⟩,aZ,ca,dM,gm⟩:=hs;have hr':∀r,row=some r->∃o:Obj,W.heap[r]? =some o/\o.isCells=false:=λr e=>(hr r e).2
  exact⟨⟨v,vs,xD h1 hg hr',Nc h2 hg hr',λi x hx=>by
   obtain⟨u,fM,gT⟩:=aw i x hx
   exact⟨u,fM,Nc gT hg hr'⟩⟩,aZ,xD ca hg hr',xD dM hg hr',ek gm hg.size⟩) (ownFrom_below hN hB)
theorem ak_{N B:Nat}{w:World}(hB:N<=B)(hN:N<=w.heap.size)(c:Code):OwnFrom B (Y0 N w c):=
 OwnFrom.and (λpre W W' row hs hg hr=>by
  obtain⟨aw,aZ,ca,dM⟩:=hs;have hr':∀r,row=some r->∃o:Obj,W.heap[r]? =some o/\o.isCells=false:=λr e=>(hr r e).2
  exact⟨aw,aZ,xD ca hg hr',xD dM hg hr'⟩) (ownFrom_below hN hB)
theorem Gz{w:World}{n:Nat}{t:TypeId}{cs:Array Value}(h:w.heap.size=n):eZ (w.alloc (.cells cs t)) n t cs:=by
 subst h;exact eZ.new w t cs
theorem Oj{F:Fence}{n:Nat}{P:Program}(w:World){kj:Array Oper}{o:Oper}{a:Act}{K:Act->World->Prop}{Q:Exit->Act->World->Prop}{E:Prop}
  (hg:o.guard=none) (s x:Operand) (t:TypeId) (hop:o.op=Op.call {callee:=Callee.builtin Builtin.append,args:=#[s,x],argTypes:=#[t,t]})
  (base:Nat) (e:TypeId) (i:TypeInfo) (z:Value) (size bytes:Nat) (h1:P.underlying t=some (.slice e)) (h2:P.info? e=some i) (aw:i.zero=some z) (aZ:i.size=size) (ca:i.bytes=bytes) (dM:z.cells.size=size) (fM:0<size)
  (v:Value) (k:Nat) (xs:List Value) (hs:a.eval s=v) (hown:w.ownsRow base e size v k xs) (aB:Addr) (m c:Nat) (news:List Value) (hx:a.eval x= .slice (some aB) m c) (hn:news.length=m*size)
  (hc:∀j u,news[j]? =some u->w.cell? (aB.add j)=some u) (h1c:∀u∈news,u.oneCell'=true) (b1:k+m<=maxLen) (b2:(k+m)*bytes<=140737488355328) (b3:base<=w.heap.size)
  (hK:∀v' w',w'.ownsRow base e size v' (k+m) (xs++news)->w.grownBy w' v.ownBlock->(v'= .slice none 0 0↔v= .slice none 0 0/\m=0)->(v'.ownBlock=v.ownBlock∨v'.ownBlock=some w.heap.size)->K (a.put o.dst v') w'):
  if Region.wanted o (yielded kj a.tmps)=true then o.wpIn F n P a w K Q else E:=by
 have hw:Region.wanted o (yielded kj a.tmps)=true:=by simp[Region.wanted,hg]
 rw[aA hw];obtain⟨v',w',hrun,de,c1,r3,r4⟩:=run_append_own_at (P:=P) w base t o.type e i z size bytes h1 h2 aw aZ ca dM fM v k xs hown aB m c news hn hc h1c b1 b2 b3;unfold Oper.wpIn;refine⟨?_,?_⟩
 ·simp[Oper.about,hop,resolve,Target.leads,Sem.run_pure]
 ·rw[Oper.semAt_plain F _ _ (by rw[hop];intro c hc';cases hc')]
  simp[execOp,hop,resolve,invoke,builtin,hs,hx,hrun,Result.andThen];exact hK v' w' de c1 r3 r4
theorem akt:(Tryz.prog.info? 24).map (λi=>(i.zero,i.size,i.bytes))=some (some (.slice none 0 0),1,24):=by kernel_rfl
theorem EV{W W':World}{base size n:Nat}{e:TypeId}{v:Value}{xs:List Value}(h:W.ownsRow base e size v n xs)(hk:∀g,v.ownBlock=some g->W'.heap[g]? =W.heap[g]?):W'.ownsRow base e size v n xs:=by
 rcases h.2 with⟨rfl,hn⟩|⟨g,cap,cur,rfl,hb,hh,hr⟩
 ·exact⟨h.1, .inl ⟨rfl,hn⟩⟩
 ·exact⟨h.1, .inr ⟨g,cap,cur,rfl,hb,(hk g rfl).trans hh,hr⟩⟩
theorem arH{W:World}{b b' size size' n n' g:Nat}{e e':TypeId}{v v':Value}{xs xs':List Value}(h:W.ownsRow b e size v n xs)(h':W.ownsRow b' e' size' v' n' xs')(hne:e≠e')(hg:v.ownBlock=some g):some g≠v'.ownBlock:=by
 intro hg';rcases h.2 with⟨rfl,_⟩|⟨g1,cap,cur,rfl,_,hh,_⟩
 ·cases hg
 ·rcases h'.2 with⟨rfl,_⟩|⟨g2,cap',cur',rfl,_,hh',_⟩
  ·cases hg'
  ·have e1:g1=g:=by simpa[Value.ownBlock] using hg
   have e2:g=g2:=by simpa[Value.ownBlock] using hg'
   subst e1;subst e2;rw[hh] at hh';injection hh' with hh'
   injection hh' with _ ht
   exact hne ht
theorem U8{w1:World}{b b':Nat}{x y:Value}{tmps:Array Value}(q0:w1.cell? ⟨b,0,none⟩=some x)(q1:w1.cell? ⟨b',0,none⟩=some y)(aZ:tmps[4]?.getD undef= .pointer (some ⟨b,0,none⟩))(ca:tmps[5]?.getD undef= .pointer (some ⟨b',0,none⟩)):
  (results Tryz.f7 tmps).run Tryz.prog w1= .ok (.tuple #[x,y]) w1:=by
 simp[results,go_sem,q0,q1,aZ,ca]
theorem ap_{ab:List UInt8}{N k:Nat}(hct:oa ab N k)(h:4096∈List.range k):oa ab N 4097:=λj hj=>hct j (by have:=X0.1 h;omega)
theorem KE{N m B x:Nat}{bs ab:List UInt8}{w W w1 w7:World}{pre:List Nat}{v u v7:Value}{vs:List Value}(nG:eZ W (N+2) 28 #[v])(hrow:W.ownsRow (N+5) 24 1 v pre.length vs)
  (hvs:∀(i x:Nat),pre[i]? =some x->∃u:Value,vs[i]? =some u/\W.ownsRow N 5 1 u (gr ab m x (dF ab m x)) (et (mL bs ab m x))) (hpre:∀x∈pre,x≠4096) (b0:eZ W N 28 #[.slice none 0 0]) (b1:eZ W (N+1) 29 #[.int .i64 0]) (zQ:N+5<=W.heap.size) (sk:Below N w W) (hx:x≠4096)
  (hb1:Below W.heap.size W.drew w1) (hu:w1.ownsRow W.heap.size 5 1 u (gr ab m x (dF ab m x)) (et (mL bs ab m x))) (oY:w7.ownsRow (N+5) 24 1 v7 (pre.length+1) (vs++[u])) (kt:(w1.alloc (.cells #[u] 24)).grownBy w7 v.ownBlock):
  KeepsFrom B W (w7.setCell ⟨N+2,0,none⟩ v7)/\tf N (N+1+1+1+1) W (w7.setCell ⟨N+2,0,none⟩ v7)/\PE N m bs ab w (pre++[x]) (w7.setCell ⟨N+2,0,none⟩ v7):=by
 have hs1:W.heap.size<=w1.heap.size:=hb1.size;have hsa:(w1.alloc (.cells #[u] 24)).heap.size=w1.heap.size+1:=by simp
 have hs7:=kt.size;have hsw:w7.heap.size=(w7.setCell ⟨N+2,0,none⟩ v7).heap.size:=by simp
 have hvb:∀g,v.ownBlock=some g->N+5<=g/\g<W.heap.size:=λg hg=>hrow.lt g hg
 have F1:∀k,k<W.heap.size->some k≠v.ownBlock->k≠N+2->(w7.setCell ⟨N+2,0,none⟩ v7).heap[k]? =W.heap[k]? :=by
  intro k h1 h2 aw;have e1:(w7.setCell ⟨N+2,0,none⟩ v7).heap[k]? =w7.heap[k]? :=Below.heap_setCell w7 ⟨N+2,0,none⟩ v7 k aw;have e2:=kt.block k M h2;have e3:(w1.alloc (.cells #[u] 24)).heap[k]? =w1.heap[k]? :=Below.heap_alloc w1 _ k M;have e4:w1.heap[k]? =W.heap[k]? :=hb1.block k h1;rw[e1,e2,e3,e4]
 have hbel:Below N W (w7.setCell ⟨N+2,0,none⟩ v7):=by
  refine⟨?_,?_,?_,by omega,λk hk=>F1 k M (λe=>by have:=hvb k e.symm;omega) M⟩
  ·exact kt.os.trans hb1.os
  ·exact kt.tape.trans hb1.tape
  ·exact kt.output.trans hb1.output
 have hv2:v.ownBlock≠some (N+2):=λe=>by have:=hvb _ e;omega
 refine⟨⟨by omega,λk o _ hk ho=>?_⟩,⟨hbel,F1 _ M (λe=>by have:=hvb _ e.symm;omega) M⟩,⟨⟨v7,vs++[u],?_,?_,?_⟩,?_,?_,?_,by omega⟩,sk.trans hbel⟩
 ·have hkl:=(oD.1 hk).1
  refine(F1 k hkl ?_ ?_).trans hk
  ·intro e
   rcases hrow.2 with⟨rfl,_⟩|⟨g,cap,cur,rfl,_,hh,_⟩
   ·cases e
   ·have e1:k=g:=by simpa[Value.ownBlock] using e
    subst e1;rw[hh] at hk;cases hk;cases ho
  ·rintro rfl
   unfold eZ at nG;rw[nG] at hk;cases hk;cases ho
 ·have q1:eZ w1 (N+2) 28 #[v]:=(hb1.block (N+2) M).trans nG
  have q2:=(q1.alloc (.cells #[u] 24)).grown kt (λe=>hv2 e.symm);exact q2.Jm 0 v7
 ·rw[gh]
  exact oY.kept (G_ w7 (N+2) 0 v7) (.inr λe=>by have:=Uq oY e;omega)
 ·intro i y hy
  have hvl:vs.length=pre.length:=by have:=hrow.1;omega
  rcases h8 i pre.length with hi|hi
  ·rw[nr hi] at hy
   obtain⟨u',h1,h2⟩:=hvs i y hy;refine⟨u',by rw[nr M];exact h1,EV h2 λg hg=>F1 g (h2.lt g hg).2 (arH h2 hrow du hg) ?_⟩;rintro rfl;exact Ur h2 nG du hg
  ·have hil:i=pre.length:=by
    have:=(nv.1 hy).1;simp at this;omega
   subst hil;rw[mu M,AZ] at hy;cases hy;refine⟨u,by rw[mu M,hvl,AZ];rfl,?_⟩;have hub:∀g,u.ownBlock=some g->W.heap.size<=g/\g<w1.heap.size:=λg hg=>hu.lt g hg
   refine EV (World.ownsRow.mono hu M) λg hg=>?_
   have e0:=hub g hg;have e1:(w7.setCell ⟨N+2,0,none⟩ v7).heap[g]? =w7.heap[g]? :=Below.heap_setCell w7 ⟨N+2,0,none⟩ v7 g (by show g≠N+2;omega);have e2:=kt.block g M (λe=>by have:=hvb g e.symm;omega);have e3:(w1.alloc (.cells #[u] 24)).heap[g]? =w1.heap[g]? :=Below.heap_alloc w1 _ g M;rw[e1,e2,e3]
 ·intro y hy
  rcases gi.1 hy with hy|hy
  ·exact hpre y hy
  ·rw[gg.1 hy]
   exact hx
 ·exact(F1 N M (λe=>by have:=hvb _ e.symm;omega) M).trans b0
 ·exact(F1 (N+1) M (λe=>by have:=hvb _ e.symm;omega) M).trans b1
theorem aaB{A ff:Option Addr}{m d' mc kJ B:Nat}{bs ab:List UInt8}{w:World}(hcp:m<=d')(hm:m<=1000000)(hmc:mc<=1000000)(mE:od ab=true)(hB:B<=w.heap.size)(hrb:e9 w B 1 A m (et bs))(hrc:e9 w B 1 ff mc (et ab)):
  CallsIn Fence.wide 3 Tryz.prog 7 #[.slice A m d', .slice ff mc kJ] w λe W'=>
   (∃(v:Value) (vs:List Value) (k:Nat),e= .returned (.tuple #[v, .int .i64 0])/\oa ab m k/\l1 ab m k=false/\k<=4096/\W'.ownsRow w.heap.size 24 1 v k vs/\(∀i,i<k->∃u:Value,vs[i]? =some u/\W'.ownsRow w.heap.size 5 1 u (gr ab m i (dF ab m i)) (et (mL bs ab m i)))/\Below w.heap.size w W')∨
   (e= .returned (.tuple #[.slice none 0 0, .int .i64 5])/\oa ab m 4097/\Below w.heap.size w W'):=by
 obtain⟨i0,hi,hz0,hz1,hz2⟩:=info_parts akt;have HL:=Lib.hid hrc.bytes;refine callsIn_of_wp_marks Tryz.func7 rfl trivial ?_ rfl;simp only[Tryz.ntmps7,s_,ko,List.length_nil,Nat.reduceAdd,Nat.reduceSub,Pb,Array.replicate_zero,Pc,Pd,pW,List.cons_append]
 gi_upto_region 1 with fail
 gi_cut [16] from 9 (λc wx=>c= .bool false/\wx=(w.alloc (.cells #[.slice none 0 0] 28)).alloc (.cells #[.int .i64 0] 29))
 case first=>
  rcases nw mc with aW|aW
  ·subst aW
   gi_wp2
   refine⟨trivial,?_⟩
   gi_wp2
   gi_meet
   exact⟨rfl,rfl⟩
  ·have hmx:¬(rA ab mc=0):=by
    intro h1;have h2:=abd (l:=ab) (by rw[HL.out];exact aW);rw[HL.out,h1,mE] at h2;simp at h2
   have aw:(0:Int)<(mc:Int):=by omega
   have aZ:¬((rA ab mc:Int)=0):=by omega
   gi_wp2_with (refine⟨trivial,?_⟩;gi_at_call 12;refine(callsIn_wide.2 (aeI ((hrc.alloc hB _).alloc ej _) hmc aW)).mono ?_;rintro e w1 ⟨rfl,rfl⟩)
   gi_meet
   exact⟨dx Value.bool ej,rfl⟩
 case rest=>
  obtain⟨rfl,rfl⟩:=hcut
  gi_wp2_with (refine⟨trivial,?_⟩;gi_at_call 13;refine(arY Fence.wide 2 trivial rfl _ _ _ _ _ _ _).mono ?_;rintro e w' ⟨rfl,rfl⟩)
  have k0:eZ (((((w.alloc (.cells #[.slice none 0 0] 28)).alloc (.cells #[.int .i64 0] 29)).alloc (.cells #[.slice none 0 0] 28)).alloc (.cells #[.slice A m d'] 24)).alloc (.cells #[.slice ff mc kJ] 24)) w.heap.size 28 #[.slice none 0 0]:=((((eZ.new w 28 _).alloc _).alloc _).alloc _).alloc _;have a8:eZ (((((w.alloc (.cells #[.slice none 0 0] 28)).alloc (.cells #[.int .i64 0] 29)).alloc (.cells #[.slice none 0 0] 28)).alloc (.cells #[.slice A m d'] 24)).alloc (.cells #[.slice ff mc kJ] 24)) (w.heap.size+1) 29 #[.int .i64 0]:=(((Gz (w:=w.alloc (.cells #[.slice none 0 0] 28)) aS).alloc _).alloc _).alloc _;have aK:eZ (((((w.alloc (.cells #[.slice none 0 0] 28)).alloc (.cells #[.int .i64 0] 29)).alloc (.cells #[.slice none 0 0] 28)).alloc (.cells #[.slice A m d'] 24)).alloc (.cells #[.slice ff mc kJ] 24)) (w.heap.size+2) 28 #[.slice none 0 0]:=((Gz (w:=(w.alloc (.cells #[.slice none 0 0] 28)).alloc (.cells #[.int .i64 0] 29)) aS).alloc _).alloc _;have k3:eZ (((((w.alloc (.cells #[.slice none 0 0] 28)).alloc (.cells #[.int .i64 0] 29)).alloc (.cells #[.slice none 0 0] 28)).alloc (.cells #[.slice A m d'] 24)).alloc (.cells #[.slice ff mc kJ] 24)) (w.heap.size+1+1+1) 24 #[.slice A m d']:=(Gz (w:=((w.alloc (.cells #[.slice none 0 0] 28)).alloc (.cells #[.int .i64 0] 29)).alloc (.cells #[.slice none 0 0] 28)) aS).alloc _;have k4:eZ (((((w.alloc (.cells #[.slice none 0 0] 28)).alloc (.cells #[.int .i64 0] 29)).alloc (.cells #[.slice none 0 0] 28)).alloc (.cells #[.slice A m d'] 24)).alloc (.cells #[.slice ff mc kJ] 24)) (w.heap.size+1+1+1+1) 24 #[.slice ff mc kJ]:=Gz (w:=(((w.alloc (.cells #[.slice none 0 0] 28)).alloc (.cells #[.int .i64 0] 29)).alloc (.cells #[.slice none 0 0] 28)).alloc (.cells #[.slice A m d'] 24)) aS;have hb5:Below w.heap.size w (((((w.alloc (.cells #[.slice none 0 0] 28)).alloc (.cells #[.int .i64 0] 29)).alloc (.cells #[.slice none 0 0] 28)).alloc (.cells #[.slice A m d'] 24)).alloc (.cells #[.slice ff mc kJ] 24)):=(((((Below.refl _ w).alloc (cL _) _).alloc aS _).alloc ej _).alloc ej _).alloc ej _;have hs5:(((((w.alloc (.cells #[.slice none 0 0] 28)).alloc (.cells #[.int .i64 0] 29)).alloc (.cells #[.slice none 0 0] 28)).alloc (.cells #[.slice A m d'] 24)).alloc (.cells #[.slice ff mc kJ] 24)).heap.size=w.heap.size+5:=by simp
  generalize (((((w.alloc (.cells #[.slice none 0 0] 28)).alloc (.cells #[.int .i64 0] 29)).alloc (.cells #[.slice none 0 0] 28)).alloc (.cells #[.slice A m d'] 24)).alloc (.cells #[.slice ff mc kJ] 24))=W0 at*;refine wpIn_rangeFunc_ownG rfl M (gf:=22) (lb:=#[.pointer (some ⟨w.heap.size+1+1+1,0,none⟩), .pointer (some ⟨w.heap.size+1+1+1+1,0,none⟩)]) rfl trivial (enters_of Tryz.func22 jr rfl)
   (arZ Fence.wide 2 trivial rfl M (w.heap.size+1+1+1) (w.heap.size+1+1+1+1) w.heap.size hcp hm hmc mE W0 M M M (k3.cell 0) (k4.cell 0) ((hrb.cZ hB).below hb5) ((hrc.cZ hB).below hb5))
   tf.trans (λW l o o' hl h1 h2 aw=>⟨belowK_b (w:=W0) M W l o o' hl h1 h2 aw,World.putObj_heap_other M⟩) (Below.refl _ _) (λ_=>rfl)
   (PE w.heap.size m bs ab w) (Y0 w.heap.size w) (ak6 M (cL _)) (λc=>ak_ M (cL _) c)
   ⟨⟨⟨.slice none 0 0,[],aK,World.ownsRow_nil _ _ _ _,λi x h=>by simp at h⟩,(by intro x h;cases h),k0,a8,by omega⟩,hb5⟩
   (λx=>{tmps:=#[.slice A m d', .slice ff mc kJ,undef,undef, .pointer (some ⟨w.heap.size,0,none⟩), .pointer (some ⟨w.heap.size+1,0,none⟩), .pointer (some ⟨w.heap.size+1+1,0,none⟩), .int .i64 (x:Int), .slice (tk ab m d' A x) (gr ab m x (dF ab m x)) (d'-dF ab m x),u9,u10,u11,u12,u13,u14,u15, .bool false, .slice A m d', .slice ff mc kJ, .func (.func 22) #[] #[.pointer (some ⟨w.heap.size+1+1+1,0,none⟩), .pointer (some ⟨w.heap.size+1+1+1+1,0,none⟩)], .int .i64 (x:Int), .slice (tk ab m d' A x) (gr ab m x (dF ab m x)) (d'-dF ab m x),u22,u23,u24,u25,u26,u27,u28,u29],defers:=[]}) ?assign ?body ?done ?stop
  case assign=>
   intro l x W K hK;dsimp only[No]
   gi_wp2
   exact hK
  case body=>
   rintro l pre x W ⟨⟨⟨v,vs,nG,hrow,hvs⟩,hpre,b0,b1,zQ⟩,sk⟩ hlt;have c0:W.cell? ⟨w.heap.size,0,none⟩=some (.slice none 0 0):=b0.cell 0;have bY:W.cell? ⟨w.heap.size+1,0,none⟩=some (.int .i64 0):=b1.cell 0;have c2:W.cell? ⟨w.heap.size+1+1,0,none⟩=some v:=nG.cell 0;have f0:W.frozen? ⟨w.heap.size,0,none⟩=false:=b0.frozen 0;have f1:W.frozen? ⟨w.heap.size+1,0,none⟩=false:=b1.frozen 0;have f2:W.frozen? ⟨w.heap.size+1+1,0,none⟩=false:=nG.frozen 0
   by_cases hx:x=4096
   ·have h1:((x:Int)==4096)=true:=by simp;omega
    have HX:=Lib.hid hx;clear hx
    gi_wp2
    refine⟨(KeepsOthers.setCell _ _ _).trans (KeepsOthers.setCell _ _ _)|>.from _,⟨rfl,by rw[HX.out];simp,?_,?_⟩,?_⟩
    ·exact(b0.Jm 0 _).Lj (p:=⟨w.heap.size+1,0,none⟩) aih _
    ·exact(b1.Lj (p:=⟨w.heap.size,0,none⟩) aii _).Jm 0 _
    ·exact(sk.setCell (p:=⟨w.heap.size,0,none⟩) (cL _) _).setCell (p:=⟨w.heap.size+1,0,none⟩) aij _
   ·have h1:((x:Int)==4096)=false:=by simp;omega
    have HX:=Lib.hid hx;clear hx;have hmx:Tryz.prog.follows .mixedOrders=true:=by kernel_rfl
    gi_wp2
    have S7:e9 W w.heap.size 1 (tk ab m d' A x) (gr ab m x (dF ab m x)) (et (mL bs ab m x)):=by
     have h:=(ajj ((hrb.cZ hB).below sk) hcp x).take (Jn ab m x (dF ab m x));rw[oC,ajL] at h;exact h
    have hrl:w.heap.size<=W.heap.size:=sk.size;have hrm:gr ab m x (dF ab m x)<=1000000:=by have:=Jn ab m x (dF ab m x);omega
    have Mr:v.ownBlock≠some (w.heap.size+2):=λe=>by have:=(hrow.lt _ e).1;omega
    have hbn:r6 ab m<=1000000000001:=by
     have gT:m*ab.length<=1000000*1000000:=X6 hm (by rw[HL.out];exact hmc);unfold r6;omega
    refine wpIn_region_any hmx ?_
    try (change wpAnyIn _ _ _ _ _ _ _ _ _ (World.drew _))
    refine wpAnyIn_ready (rs:=[0,1]) jr aS ?_;refine AllReadyIn.cons rfl (λK hK=>?_) (AllReadyIn.cons rfl (λK hK=>?_) AllReadyIn.nil)
    ·go_simp
     refine hK _ _ ?_;clear hK K;refine wpAnyIn_ready (rs:=[1]) jr aS ?_;refine AllReadyIn.cons rfl (λK hK=>?_) AllReadyIn.nil
     go_simp
     refine hK _ _ ?_;clear hK K;refine wpAnyIn_ready (rs:=[2]) jr aS ?_;refine AllReadyIn.cons rfl (λK hK=>?_) AllReadyIn.nil
     go_simp
     refine⟨trivial,?_⟩;refine(CallsIn.inRound l (callsIn_wide.2 (QS (S7.drewN 1) hrl hrm))).mono ?_;rintro e w1 ⟨u,rfl,hu,hb1⟩;obtain⟨A1,r8,rfl,_,_,_⟩:=wQ hu;have hb1':Below W.heap.size W.drew w1:=hb1;have hs1:W.heap.size<=w1.heap.size:=hb1'.size;have q1:eZ w1 (w.heap.size+2) 28 #[v]:=(hb1'.block (w.heap.size+2) nG.lt).trans nG;have ZS:w1.cell? ⟨w.heap.size+1+1,0,none⟩=some v:=q1.cell 0;have ZR:(w1.alloc (.cells #[.slice A1 (gr ab m x (dF ab m x)) r8] 24)).cell? ⟨w.heap.size+1+1,0,none⟩=some v:=(q1.alloc _).cell 0;refine hK _ _ ?_;clear hK K;refine wpAnyIn_ready (rs:=[3]) jr aS ?_;refine AllReadyIn.cons rfl (λK hK=>?_) AllReadyIn.nil
     go_simp
     refine hK _ _ ?_;clear hK K;refine wpAnyIn_ready (rs:=[4]) jr aS ?_;refine AllReadyIn.cons rfl (λK hK=>?_) AllReadyIn.nil;refine Oj _ rfl (.tmp 24) (.tmp 27) 28 rfl (w.heap.size+5) 24 i0 (.slice none 0 0) 1 24 Tryz.underlying28 hi hz0 hz1 hz2 rfl du v pre.length vs rfl ((EV hrow (λg hg=>hb1'.block g (hrow.lt g hg).2)).alloc _) ⟨w1.heap.size,0,none⟩ 1 1 [.slice A1 (gr ab m x (dF ab m x)) r8] rfl rfl (cell_one_new _ _ _) OR OT M ej ?_;intro v7 w7 oY kt _ B_;obtain⟨Pj,c7,rfl,_,_,_⟩:=wQ oY;have q7:=(q1.alloc (.cells #[.slice A1 (gr ab m x (dF ab m x)) r8] 24)).grown kt (λe=>Mr e.symm);have c27:w7.cell? ⟨w.heap.size+1+1,0,none⟩=some v:=q7.cell 0;have f27:w7.frozen? ⟨w.heap.size+1+1,0,none⟩=false:=q7.frozen 0;refine hK _ _ ?_;clear hK K;refine wpAnyIn_ready (rs:=[5]) jr aS ?_;refine AllReadyIn.cons rfl (λK hK=>?_) AllReadyIn.nil
     go_simp
     refine hK _ _ ?_;clear hK K;refine wpAnyIn_done jr ?_ _;exact KE nG hrow hvs hpre b0 b1 zQ sk HX.out hb1' hu oY kt
    ·go_simp
     refine hK _ _ ?_;clear hK K;refine wpAnyIn_ready (rs:=[0,2]) jr aS ?_;refine AllReadyIn.cons rfl (λK hK=>?_) (AllReadyIn.cons rfl (λK hK=>?_) AllReadyIn.nil)
     ·go_simp
      refine hK _ _ ?_;clear hK K;refine wpAnyIn_ready (rs:=[2]) jr aS ?_;refine AllReadyIn.cons rfl (λK hK=>?_) AllReadyIn.nil
      go_simp
      refine⟨trivial,?_⟩;refine(CallsIn.inRound l (callsIn_wide.2 (QS (S7.drewN 1) hrl hrm))).mono ?_;rintro e w1 ⟨u,rfl,hu,hb1⟩;obtain⟨A1,r8,rfl,_,_,_⟩:=wQ hu;have hb1':Below W.heap.size W.drew w1:=hb1;have hs1:W.heap.size<=w1.heap.size:=hb1'.size;have q1:eZ w1 (w.heap.size+2) 28 #[v]:=(hb1'.block (w.heap.size+2) nG.lt).trans nG;have ZS:w1.cell? ⟨w.heap.size+1+1,0,none⟩=some v:=q1.cell 0;have ZR:(w1.alloc (.cells #[.slice A1 (gr ab m x (dF ab m x)) r8] 24)).cell? ⟨w.heap.size+1+1,0,none⟩=some v:=(q1.alloc _).cell 0;refine hK _ _ ?_;clear hK K;refine wpAnyIn_ready (rs:=[3]) jr aS ?_;refine AllReadyIn.cons rfl (λK hK=>?_) AllReadyIn.nil
      go_simp
      refine hK _ _ ?_;clear hK K;refine wpAnyIn_ready (rs:=[4]) jr aS ?_;refine AllReadyIn.cons rfl (λK hK=>?_) AllReadyIn.nil;refine Oj _ rfl (.tmp 24) (.tmp 27) 28 rfl (w.heap.size+5) 24 i0 (.slice none 0 0) 1 24 Tryz.underlying28 hi hz0 hz1 hz2 rfl du v pre.length vs rfl ((EV hrow (λg hg=>hb1'.block g (hrow.lt g hg).2)).alloc _) ⟨w1.heap.size,0,none⟩ 1 1 [.slice A1 (gr ab m x (dF ab m x)) r8] rfl rfl (cell_one_new _ _ _) OR OT M ej ?_;intro v7 w7 oY kt _ B_;obtain⟨Pj,c7,rfl,_,_,_⟩:=wQ oY;have q7:=(q1.alloc (.cells #[.slice A1 (gr ab m x (dF ab m x)) r8] 24)).grown kt (λe=>Mr e.symm);have c27:w7.cell? ⟨w.heap.size+1+1,0,none⟩=some v:=q7.cell 0;have f27:w7.frozen? ⟨w.heap.size+1+1,0,none⟩=false:=q7.frozen 0;refine hK _ _ ?_;clear hK K;refine wpAnyIn_ready (rs:=[5]) jr aS ?_;refine AllReadyIn.cons rfl (λK hK=>?_) AllReadyIn.nil
      go_simp
      refine hK _ _ ?_;clear hK K;refine wpAnyIn_done jr ?_ _;exact KE nG hrow hvs hpre b0 b1 zQ sk HX.out hb1' hu oY kt
     ·go_simp
      refine⟨trivial,?_⟩;refine(CallsIn.inRound l (callsIn_wide.2 (QS (S7.drewN 1) hrl hrm))).mono ?_;rintro e w1 ⟨u,rfl,hu,hb1⟩;obtain⟨A1,r8,rfl,_,_,_⟩:=wQ hu;have hb1':Below W.heap.size W.drew w1:=hb1;have hs1:W.heap.size<=w1.heap.size:=hb1'.size;have q1:eZ w1 (w.heap.size+2) 28 #[v]:=(hb1'.block (w.heap.size+2) nG.lt).trans nG;have ZS:w1.cell? ⟨w.heap.size+1+1,0,none⟩=some v:=q1.cell 0;have ZR:(w1.alloc (.cells #[.slice A1 (gr ab m x (dF ab m x)) r8] 24)).cell? ⟨w.heap.size+1+1,0,none⟩=some v:=(q1.alloc _).cell 0;refine hK _ _ ?_;clear hK K;refine wpAnyIn_ready (rs:=[0,3]) jr aS ?_;refine AllReadyIn.cons rfl (λK hK=>?_) (AllReadyIn.cons rfl (λK hK=>?_) AllReadyIn.nil)
      ·go_simp
       refine hK _ _ ?_;clear hK K;refine wpAnyIn_ready (rs:=[3]) jr aS ?_;refine AllReadyIn.cons rfl (λK hK=>?_) AllReadyIn.nil
       go_simp
       refine hK _ _ ?_;clear hK K;refine wpAnyIn_ready (rs:=[4]) jr aS ?_;refine AllReadyIn.cons rfl (λK hK=>?_) AllReadyIn.nil;refine Oj _ rfl (.tmp 24) (.tmp 27) 28 rfl (w.heap.size+5) 24 i0 (.slice none 0 0) 1 24 Tryz.underlying28 hi hz0 hz1 hz2 rfl du v pre.length vs rfl ((EV hrow (λg hg=>hb1'.block g (hrow.lt g hg).2)).alloc _) ⟨w1.heap.size,0,none⟩ 1 1 [.slice A1 (gr ab m x (dF ab m x)) r8] rfl rfl (cell_one_new _ _ _) OR OT M ej ?_;intro v7 w7 oY kt _ B_;obtain⟨Pj,c7,rfl,_,_,_⟩:=wQ oY;have q7:=(q1.alloc (.cells #[.slice A1 (gr ab m x (dF ab m x)) r8] 24)).grown kt (λe=>Mr e.symm);have c27:w7.cell? ⟨w.heap.size+1+1,0,none⟩=some v:=q7.cell 0;have f27:w7.frozen? ⟨w.heap.size+1+1,0,none⟩=false:=q7.frozen 0;refine hK _ _ ?_;clear hK K;refine wpAnyIn_ready (rs:=[5]) jr aS ?_;refine AllReadyIn.cons rfl (λK hK=>?_) AllReadyIn.nil
       go_simp
       refine hK _ _ ?_;clear hK K;refine wpAnyIn_done jr ?_ _;exact KE nG hrow hvs hpre b0 b1 zQ sk HX.out hb1' hu oY kt
      ·go_simp
       refine hK _ _ ?_;clear hK K;refine wpAnyIn_ready (rs:=[0]) jr aS ?_;refine AllReadyIn.cons rfl (λK hK=>?_) AllReadyIn.nil
       go_simp
       refine hK _ _ ?_;clear hK K;refine wpAnyIn_ready (rs:=[4]) jr aS ?_;refine AllReadyIn.cons rfl (λK hK=>?_) AllReadyIn.nil;refine Oj _ rfl (.tmp 24) (.tmp 27) 28 rfl (w.heap.size+5) 24 i0 (.slice none 0 0) 1 24 Tryz.underlying28 hi hz0 hz1 hz2 rfl du v pre.length vs rfl ((EV hrow (λg hg=>hb1'.block g (hrow.lt g hg).2)).alloc _) ⟨w1.heap.size,0,none⟩ 1 1 [.slice A1 (gr ab m x (dF ab m x)) r8] rfl rfl (cell_one_new _ _ _) OR OT M ej ?_;intro v7 w7 oY kt _ B_;obtain⟨Pj,c7,rfl,_,_,_⟩:=wQ oY;have q7:=(q1.alloc (.cells #[.slice A1 (gr ab m x (dF ab m x)) r8] 24)).grown kt (λe=>Mr e.symm);have c27:w7.cell? ⟨w.heap.size+1+1,0,none⟩=some v:=q7.cell 0;have f27:w7.frozen? ⟨w.heap.size+1+1,0,none⟩=false:=q7.frozen 0;refine hK _ _ ?_;clear hK K;refine wpAnyIn_ready (rs:=[5]) jr aS ?_;refine AllReadyIn.cons rfl (λK hK=>?_) AllReadyIn.nil
       go_simp
       refine hK _ _ ?_;clear hK K;refine wpAnyIn_done jr ?_ _;exact KE nG hrow hvs hpre b0 b1 zQ sk HX.out hb1' hu oY kt
  case done=>
   rintro aD ys W hD ⟨k,rfl,hct,hmo⟩ ⟨⟨⟨v,vs,nG,hrow,hvs⟩,hpre,b0,b1,zQ⟩,sk⟩ hK;have c2:W.cell? ⟨w.heap.size+1+1,0,none⟩=some v:=nG.cell 0;obtain⟨A1,bY,rfl,_,_,_⟩:=wQ hrow;have f0:W.frozen? ⟨w.heap.size,0,none⟩=false:=b0.frozen 0;have f1:W.frozen? ⟨w.heap.size+1,0,none⟩=false:=b1.frozen 0;have c0:W.cell? ⟨w.heap.size,0,none⟩=some (.slice none 0 0):=b0.cell 0;have c1':W.cell? ⟨w.heap.size+1,0,none⟩=some (.int .i64 0):=b1.cell 0
   gi_wp2
   have amN:KeepsOthers W ((W.setCell ⟨w.heap.size,0,none⟩ (.slice A1 (List.range k).length bY)).setCell ⟨w.heap.size+1,0,none⟩ (.int .i64 0)):=(KeepsOthers.setCell _ _ _).trans (KeepsOthers.setCell _ _ _);have d0:eZ ((W.setCell ⟨w.heap.size,0,none⟩ (.slice A1 (List.range k).length bY)).setCell ⟨w.heap.size+1,0,none⟩ (.int .i64 0)) w.heap.size 28 #[.slice A1 (List.range k).length bY]:=(b0.Jm 0 _).Lj (p:=⟨w.heap.size+1,0,none⟩) aih _;have d1:eZ ((W.setCell ⟨w.heap.size,0,none⟩ (.slice A1 (List.range k).length bY)).setCell ⟨w.heap.size+1,0,none⟩ (.int .i64 0)) (w.heap.size+1) 29 #[.int .i64 0]:=(b1.Lj (p:=⟨w.heap.size,0,none⟩) aii _).Jm 0 _;have hK':=amN.same aD _ hK rfl;have hb':Below w.heap.size w ((W.setCell ⟨w.heap.size,0,none⟩ (.slice A1 (List.range k).length bY)).setCell ⟨w.heap.size+1,0,none⟩ (.int .i64 0)):=(sk.setCell (p:=⟨w.heap.size,0,none⟩) (cL _) _).setCell (p:=⟨w.heap.size+1,0,none⟩) aij _;have hrow':=(hrow.kept (G_ W w.heap.size 0 (.slice A1 (List.range k).length bY)) (.inr λe=>by have:=Uq hrow e;omega)).kept (G_ _ (w.heap.size+1) 0 (.int .i64 0)) (.inr λe=>by have:=Uq hrow e;omega);have Ms:∀i,i<k->∃u:Value,vs[i]? =some u/\((W.setCell ⟨w.heap.size,0,none⟩ (.slice A1 (List.range k).length bY)).setCell ⟨w.heap.size+1,0,none⟩ (.int .i64 0)).ownsRow w.heap.size 5 1 u (gr ab m i (dF ab m i)) (et (mL bs ab m i)):=by
    intro i hik;obtain⟨u,h1,h2⟩:=hvs i i (by rw[F4 hik]);exact⟨u,h1,(h2.kept (G_ W w.heap.size 0 _) (.inr (Ur h2 b0 du))).kept (G_ _ (w.heap.size+1) 0 _) (.inr (Ur h2 b1 du))⟩
   rw[List.length_range] at hK' d0 d1 hb' hrow' Ms;generalize ((W.setCell ⟨w.heap.size,0,none⟩ (.slice A1 k bY)).setCell ⟨w.heap.size+1,0,none⟩ (.int .i64 0))=PX at*;have hgr:=grownBy_putObj' PX aD (.deferred none);have hrr:∀r,some aD=some r->∃o:Obj,PX.heap[r]? =some o/\o.isCells=false:=λr e=>by cases e;exact⟨_,hK',rfl⟩
   refine⟨by simp, .inl ⟨_,_,rfl,run_takeDeferred hK',?_⟩⟩;have aR:=(xD d0 hgr hrr).cell 0;have g1:=(xD d1 hgr hrr).cell 0;refine⟨_,U8 aR g1 rfl rfl, .inl ⟨_,vs,k,rfl,hct,hmo,?_,World.ownsRow.mono (Nc hrow' hgr hrr) M,λi hik=>?_,hb'.trans (belowK_b (w:=W0) M PX aD _ _ hD hK' rfl rfl)⟩⟩
   ·rcases h8 4096 k with gm|gm
    ·exact absurd rfl (hpre 4096 (X0.2 gm))
    ·exact gm
   ·obtain⟨u,h1,h2⟩:=Ms i hik
    exact⟨u,h1,Nc h2 hgr hrr⟩
  case stop=>
   rintro aD c pre W hD ⟨k,rfl,hct⟩ ⟨⟨rfl,hpre,b0,b1⟩,sk⟩ hK
   gi_wp2
   have hgr:=grownBy_putObj' W aD (.deferred none);have hrr:∀r,some aD=some r->∃o:Obj,W.heap[r]? =some o/\o.isCells=false:=λr e=>by cases e;exact⟨_,hK,rfl⟩
   refine⟨by simp, .inl ⟨_,_,rfl,run_takeDeferred hK,?_⟩⟩;exact⟨_,U8 ((xD b0 hgr hrr).cell 0) ((xD b1 hgr hrr).cell 0) rfl rfl, .inr ⟨rfl,ap_ hct hpre,sk.trans (belowK_b (w:=W0) M W aD _ _ hD hK rfl rfl)⟩⟩
end Go.Proofs.YtimbpmnbbfeogaaGreatDoor
namespace Go.Rep
theorem afm(bs ab:List UInt8)(N:Nat):∀k,((List.range k).map (mL bs ab N)).flatten=bs.take (dF ab N k)
 |0=>rfl
 |k+1=>by
  rw[X7,l9,List.flatten_append,afm bs ab N k];show bs.take (dF ab N k)++([mL bs ab N k]).flatten=bs.take (dF ab N k+gr ab N k (dF ab N k));rw[List.take_add];simp[mL]
theorem arX{bs ab:List UInt8}{k:Nat}(hk:1<=k)(h:l1 ab bs.length k=false):((List.range k).map (mL bs ab bs.length)).flatten=bs:=by
 rw[afm];unfold l1 at h;simp only[Bool.or_eq_false_iff,JK] at h;exact jh M
end Go.Rep
namespace Go.Proofs.YtimbpmnbbfeogaaGreatDoor
open Go.RowKit Go.Rep Go.Shelf
theorem akX{ab:List UInt8}{m k k':Nat}(h:oa ab m k)(he:l1 ab m k=false)(h':oa ab m k')(he':l1 ab m k'=false∨k'=4097)(hk:k<=4096):k'=k:=by
 rcases Nat.lt_trichotomy k k' with h1|h1|h1
 ·have:=h' k h1
  rw[he] at this;cases this
 ·exact h1.symm
 ·rcases he' with h2|h2
  ·have:=h k' h1
   rw[h2] at this;cases this
  ·omega
theorem aas{ab:List UInt8}{m:Nat}:∀n,oa ab m n∨∃k,k<n/\oa ab m k/\l1 ab m k=false
 |0=> .inl λj h=>by omega
 |n+1=>by
  rcases aas (ab:=ab) (m:=m) n with h|⟨k,h1,h2,aw⟩
  ·cases hm:l1 ab m n with
   |false=>exact .inr ⟨n,by omega,h,hm⟩
   |true=>
    refine .inl λj hj=>?_
    rcases h8 j n with gm|gm
    ·exact h j gm
    ·obtain rfl:j=n:=by omega
     exact hm
  ·exact .inr ⟨k,by omega,h2,aw⟩
section
variable{A ff:Option Addr}{m d' mc kJ B k:Nat}{bs ab:List UInt8}{w:World}
theorem ala(hcp:m<=d')(hm:m<=1000000)(hmc:mc<=1000000)(mE:od ab=true)(hct:oa ab m k)(hmo:l1 ab m k=false)(hk:k<=4096)(hB:B<=w.heap.size)(hrb:e9 w B 1 A m (et bs))(hrc:e9 w B 1 ff mc (et ab)):
  Calls Tryz.prog 7 #[.slice A m d', .slice ff mc kJ] w λe W'=>∃A' c vs,e= .returned (.tuple #[.slice A' k c, .int .i64 0])/\W'.ownsRow w.heap.size 24 1 (.slice A' k c) k vs/\(∀i,i<k->∃u:Value,vs[i]? =some u/\W'.ownsRow w.heap.size 5 1 u (gr ab m i (dF ab m i)) (et (mL bs ab m i)))/\Below w.heap.size w W':=by
 refine(callsIn_wide.1 (aaB hcp hm hmc mE hB hrb hrc)).mono ?_;rintro e W' (⟨v,vs,k',rfl,h1,h2,aw,aZ,ca,dM⟩|⟨_,h1,_⟩)
 ·obtain rfl:=akX hct hmo h1 (.inl h2) hk
  obtain⟨A',c,rfl,_⟩:=wQ aZ;exact⟨A',c,vs,rfl,aZ,ca,dM⟩
 ·have:=h1 k M
  rw[hmo] at this;cases this
end
end Go.Proofs.YtimbpmnbbfeogaaGreatDoor
namespace Go.Proofs.YtimbpmnbbfeogaaGreatDoor
open Go.RowKit Go.Rep
theorem aaz{A ff:Option Addr}{m d' mc kJ B:Nat}{ab:List UInt8}{w:World}(hmc:mc<=1000000)(mE:od ab=false)(hB:B<=w.heap.size)(hrc:e9 w B 1 ff mc (et ab)):
  Calls Tryz.prog 7 #[.slice A m d', .slice ff mc kJ] w λe W'=>e= .returned (.tuple #[.slice none 0 0, .int .i64 2])/\Below w.heap.size w W':=by
 have aW:0<mc:=by
  rcases nw mc with h|h
  ·have hl:=hrc.bytes
   rw[h] at hl;have:ab=[]:=n2 hl;subst this;cases mE
  ·exact h
 have hmx:rA ab mc=0:=by
  have h2:=abd (l:=ab) (by rw[hrc.bytes];exact aW);rw[hrc.bytes,mE] at h2;simpa using h2
 have aw:(0:Int)<(mc:Int):=by omega
 have HM:=Lib.hid hmx;clear hmx mE
 go_enter Tryz.func7,Tryz.ntmps7
 go_wp2_with (go_at_call 12;refine(aeI ((hrc.alloc hB _).alloc ej _) hmc aW).mono ?_;rintro e w1 ⟨rfl,rfl⟩;rw[HM.out])
 have d0:eZ ((w.alloc (.cells #[.slice none 0 0] 28)).alloc (.cells #[.int .i64 2] 29)) w.heap.size 28 #[.slice none 0 0]:=(eZ.new w 28 _).alloc _;have d1:eZ ((w.alloc (.cells #[.slice none 0 0] 28)).alloc (.cells #[.int .i64 2] 29)) (w.heap.size+1) 29 #[.int .i64 2]:=Gz (w:=w.alloc (.cells #[.slice none 0 0] 28)) aS;refine bodyPost_ret (U8 (d0.cell 0) (d1.cell 0) rfl rfl) rfl ⟨rfl,?_⟩;exact(((Below.refl _ w).alloc (cL _) _).alloc aS _)
theorem ak'{A ff:Option Addr}{m d' mc kJ B:Nat}{bs ab:List UInt8}{w:World}(hcp:m<=d')(hm:m<=1000000)(hmc:mc<=1000000)(mE:od ab=true)(hlong:oa ab m 4097)(hB:B<=w.heap.size)(hrb:e9 w B 1 A m (et bs))(hrc:e9 w B 1 ff mc (et ab)):
  Calls Tryz.prog 7 #[.slice A m d', .slice ff mc kJ] w λe W'=>e= .returned (.tuple #[.slice none 0 0, .int .i64 5])/\Below w.heap.size w W':=by
 refine(callsIn_wide.1 (aaB hcp hm hmc mE hB hrb hrc)).mono ?_;intro e W' hq;rcases hq with⟨v,vs,k,_,_,h1,h2,_⟩|⟨h1,_,h2⟩
 ·have:=hlong k M
  rw[h1] at this;cases this
 ·exact⟨h1,h2⟩
end Go.Proofs.YtimbpmnbbfeogaaGreatDoor
namespace Go.Proofs.YtimbpmnbbfeogaaGreatDoor
open Go Go.RowKit Go.Sy Go.Rep
def jq(l:List UInt8):List Int:=l.map λx=>(x.toNat:Int)
theorem Bm(l:List UInt8):eU (jq l)=et l:=by
 unfold eU jq et;rw[Du];rfl
theorem E'{w:World}{p:ao}{n:Nat}{l:List UInt8}(h:Row w p n 1 (et l))(hb:∀a,p=some a->a.block<w.heap.size):e9 w w.heap.size 1 p n (et l):=by
 refine⟨h.len,λhn=>?_⟩;obtain⟨a,ha⟩:=h.iP hn;refine⟨a,ha,hb a ha,λj u hj=>?_⟩;have:=h.eI a ha j u hj;rwa[iR] at this
def PF(jl:List (List UInt8))(fF:Int)(v:Value)(w:World):Prop:=∃p n k hs,v= .tuple #[.slice p n k, .int .i64 fF]/\mB w p n hs (jl.map jq)/\∀a,p=some a->a.block<w.heap.size
section
variable{w:World}{cm aP:ao}{nb db aM ba k:Nat}{bs ab:List UInt8}
theorem aaC(hb:Row w cm nb 1 (et bs))(gH:∀a,cm=some a->a.block<w.heap.size)(hl:Row w aP aM 1 (et ab))(x8:∀a,aP=some a->a.block<w.heap.size)(kg:nb<=db)(h1:nb<=1000000)(h2:aM<=1000000)
  (mE:od ab=true) (hct:oa ab nb k) (hmo:l1 ab nb k=false) (hk:k<=4096):bI Tryz.prog X.q_ #[.slice cm nb db, .slice aP aM ba] w bg (PF ((List.range k).map (mL bs ab nb)) 0):=by
 have jG:bs.length=nb:=by have:=hb.len;unfold et at this;rw[gw] at this;omega
 refine(ala kg h1 h2 mE hct hmo hk (cL _) (E' hb gH) (E' hl x8)).mono ?_;rintro e W ⟨A,c,vs,rfl,hrow,S0,hbw⟩;have hrow':Go.Sy.bF w.heap.size W 24 1 A k c vs:=hrow;have hvl:vs.length=k:=by have:=hrow'.len;omega
 have hsl:∀i,i<k->∃s:n7,vs[i]? =some (.slice s.p s.n s.c)/\Go.Sy.bF w.heap.size W 5 1 s.p s.n s.c (et (mL bs ab nb i)):=by
  intro i hi;obtain⟨u,hu,ho⟩:=S0 i hi;obtain⟨A1,bY,rfl,_⟩:=wQ ho;exact⟨⟨A1,_,bY⟩,hu,ho⟩
 obtain⟨f,bk⟩:∃f:Nat->n7,∀i,i<k->vs[i]? =some (.slice (f i).p (f i).n (f i).c)/\Go.Sy.bF w.heap.size W 5 1 (f i).p (f i).n (f i).c (et (mL bs ab nb i)):=by
  refine⟨λi=>if h:i<k then Classical.choose (hsl i h) else⟨none,0,0⟩,λi hi=>?_⟩;dsimp only;rw[dif_pos hi];exact Classical.choose_spec (hsl i hi)
 have hvs:vs=og ((List.range k).map f):=by
  apply s8;intro i;unfold og;rw[Du]
  by_cases hi:i<k
  ·rw[(bk i hi).1,pV,F4 hi]
   rfl
  ·rw[nu M,nu ej]
 refine⟨_,rfl,Below.ax hbw bg,A,k,c,(List.range k).map f,rfl,⟨?_,by simp,?_⟩,λa e=>(hrow'.lt a e).1⟩
 ·rw[<-hvs]
  exact bF.row hrow'
 ·intro j h l e1 e2
  have hj:j<k:=by
   rcases h8 j k with q|q
   ·exact q
   ·rw[nu ej] at e1
    cases e1
  rw[Du] at e2;rw[pV,F4 hj] at e1 e2;have BC:f j=h:=by simpa using e1
  have wg:jq (mL bs ab nb j)=l:=by simpa using e2
  subst BC wg;have ho:=(bk j hj).2;have qq:(mL bs ab nb j).length=(f j).n:=by have:=ho.len;unfold et at this;rw[gw] at this;omega
  have aCO:(mL bs ab nb j).length<=bs.length:=by unfold mL;simp;omega
  exact⟨by rw[Bm];exact bF.row ho,by unfold jq;rw[gw];exact qq,by omega,λa e=>(ho.lt a e).1⟩
theorem mB.nil:mB w none 0 [] []:=⟨⟨rfl,λ_ e=>mR,λh=>by omega⟩,rfl,λk h l e=>by cases e⟩
theorem aaA{fF:Int}(h:Calls Tryz.prog X.q_ #[.slice cm nb db, .slice aP aM ba] w λe W'=>e= .returned (.tuple #[.slice none 0 0, .int .i64 fF])/\Below w.heap.size w W'):bI Tryz.prog X.q_ #[.slice cm nb db, .slice aP aM ba] w bg (PF [] fF):=
 h.mono λe W ⟨e1,e2⟩=>⟨_,e1,Below.ax e2 bg,none,0,0,[],rfl,mB.nil,λ_ e=>mR⟩
theorem akW(mE:od ab=true)(hn:nb<=200)(hm:ab.length<=20):∃k,1<=k/\k<=4096/\oa ab nb k/\l1 ab nb k=false:=by
 have hB:r6 ab nb<=4001:=by
  unfold r6;have:nb*ab.length<=200*20:=X6 hn hm;omega
 rcases aas (ab:=ab) (m:=nb) 4097 with h|⟨k,h1,h2,aw⟩
 ·have:=aar mE (h 4096 M)
  omega
 ·refine⟨k,?_,by omega,h2,aw⟩
  rcases nw k with z|z
  ·subst z
   cases aw
  ·exact z
theorem aaD(hb:Row w cm nb 1 (et bs))(gH:∀a,cm=some a->a.block<w.heap.size)(hl:Row w aP aM 1 (et ab))(x8:∀a,aP=some a->a.block<w.heap.size)(kg:nb<=db)(h1:nb<=200)(h2:aM<=20)
  (mE:od ab=true):bI Tryz.prog X.q_ #[.slice cm nb db, .slice aP aM ba] w bg (YZ (jq bs) w):=by
 have jG:bs.length=nb:=by have:=hb.len;unfold et at this;rw[gw] at this;omega
 have j3:ab.length=aM:=by have:=hl.len;unfold et at this;rw[gw] at this;omega
 obtain⟨k,a8,aK,k3,k4⟩:=akW (nb:=nb) mE h1 M;refine(aaC hb gH hl x8 kg M M mE k3 k4 aK).mono (λ_ e=>e) ?_;rintro v W _ ⟨p,n,c,hs,e1,e2,e3⟩;have hn:n=k:=by have:=e2.same;simp at this;exact this.symm
 subst hn;refine⟨p,n,c,hs,_,e1,e2,e3,aK,?_,a8⟩;have:=arX (bs:=bs) (ab:=ab) a8 (by rw[jG];exact k4);rw[jG] at this;have aw:(((List.range n).map (mL bs ab nb)).map jq).flatten=jq (((List.range n).map (mL bs ab nb)).flatten):=by
  unfold jq;rw[List.map_flatten]
 rw[aw,this]
end
variable{w0:World}{F:Nat->Prop}{Q:Value->World->Prop}
theorem azI(cm:ao)(nb db:Nat)(aP:ao)(aM ba:Nat)(fF:Int)(UK:ao)(M6 aaF:Nat)(h:dt w0 X.q_ #[.slice cm nb db, .slice aP aM ba] λa b c=>∃d:ao,∃e f:Nat,∃g,bW b (.tuple #[.slice d e f,D g]) w0 F [] a c (∃i:Option Addr->Nat->Nat->Int->World->Prop,∃j:Option Addr->Nat->Nat->Int->Nat,(bm c λk=>i none 0 0 0 k)/\∀k:ao,∀l m:Nat,∀n:Int,∀o:World,U F w0 o->i k l m n o->bG n M6 (∃p:Addr,UK=(some p)/\hG n M6/\∃q:List UInt8,At o p ((Int.toNat n)*1) [.string ⟨q.toArray⟩]/\∀r:World,∀s t:Nat,xq o [] G.eY q r s t->aG r λu=>∃v:List Value,gy w0.heap.size F [u] r G.Fl 1 k l m v 1/\((l+1)*24)<=140737488355328/\∀x:World,∀y:ao,∀z:Nat,gk r [] k l m G.Fl 1 (l+1) (v++[.slice (some ⟨s,0,none⟩) q.length t]) x y z->Gi y [u] n x i l z j k m) (b9 w0 F [] o X.VU #[.slice d e f, .slice k l m] .bool λr s=>(s=true->aa w0 F r Q (.bool (bL.val (.eq g fF))))/\jW w0 F Q s r))):aO X.wW #[.slice cm nb db, .slice aP aM ba,D fF, .slice UK M6 aaF] w0 F Q:=eV [⟨4,[11,12],[]⟩] [] [.cJ cm nb db, .cJ aP aM ba,cn fF, .cJ UK M6 aaF] h
theorem azQ(h3:ao)(i6 jm:Nat)(cm:ao)(nb db:Nat)(h:Ka w0 F Q i6 nb/\((i6:Int)=(nb:Int)->∃a:Int->World->Prop,∃b:Int->Nat,(bm w0 λc=>a 0 c)/\∀c:Int,∀d:World,U F w0 d->a c d->(c<(i6:Int)->∃e:Addr,h3=(some e)/\hG c i6/\∃f:ao,∃g i:Nat,At d e ((Int.toNat c)*1) [.slice f g i]/\∃j:Addr,cm=(some j)/\hG c nb/\∃k:ao,∃l m:Nat,At d j ((Int.toNat c)*1) [.slice k l m]/\(∃n:List UInt8,bm d λo=>vP o f g n/\(f=none->g=0)/\At o j ((Int.toNat c)*1) [.slice k l m]/\∃p:List UInt8,bm o λq=>vP q k l p/\(k=none->l=0)/\(¬(n=p)->aa w0 F q Q (.bool false))/\(n=p->ji c q a b))/\∃n:List UInt8,bm d λo=>vP o k l n/\(k=none->l=0)/\At o e ((Int.toNat c)*1) [.slice f g i]/\∃p:List UInt8,bm o λq=>vP q f g p/\(f=none->g=0)/\(¬(p=n)->aa w0 F q Q (.bool false))/\(p=n->ji c q a b))/\DD w0 F Q i6 c d)):aO X.VU #[.slice h3 i6 jm, .slice cm nb db] w0 F Q:=eV [⟨4,[5],[]⟩] [] [.cJ h3 i6 jm, .cJ cm nb db] h
theorem azJ(h:∀a:World,∀b:Nat,cX w0 [] G.eY [.int .u8 97, .int .u8 98, .int .u8 99] a b->∃c:Addr,(some ⟨b,0,none⟩)=(some c)/\(ct a c 0 0/\cp w0.heap.size F [] c.block)/\∀d:World,qW a [] c d->∀e:World,∀f:Nat,cX d [] G.eY [.int .u8 97, .int .u8 98, .int .u8 99, .int .u8 100, .int .u8 101, .int .u8 102, .int .u8 103] e f->∃g:Addr,(some ⟨f,0,none⟩)=(some g)/\(ct e g 0 0/\cp w0.heap.size F [] g.block)/\∀i:World,qW e [] g i->∀j:World,∀k:Nat,cX i [] G.eY [.int .u8 2, .int .u8 3] j k->∀l:World,∀m:Nat,cX j [] G.string [.string ⟨[97,98].toArray⟩, .string ⟨[99,100,101].toArray⟩, .string ⟨[102,103].toArray⟩] l m->b9 w0 F [] l X.wW #[.slice (some ⟨f,0,none⟩) 7 7, .slice (some ⟨k,0,none⟩) 2 2,D 0, .slice (some ⟨m,0,none⟩) 3 3] .bool λp q=>jW w0 F Q q p/\(q=true->∀r:World,∀s:Nat,cX p [] G.string [.string ⟨[97,98,99].toArray⟩] r s->b9 w0 F [] r X.wW #[.slice (some ⟨b,0,none⟩) 3 3, .slice none 0 0,D 0, .slice (some ⟨s,0,none⟩) 1 1] .bool λv x=>jW w0 F Q x v/\(x=true->∀y:World,∀z:Nat,cX v [] G.eY [.int .u8 5] y z->∀A:World,∀B:Nat,cX y [] G.string [.string ⟨[].toArray⟩] A B->b9 w0 F [] A X.wW #[.slice none 0 0, .slice (some ⟨z,0,none⟩) 1 1,D 0, .slice (some ⟨B,0,none⟩) 1 1] .bool λE bT=>jW w0 F Q bT E/\(bT=true->∀ak:World,∀bo:Nat,cX E [] G.eY [.int .u8 0, .int .u8 2] ak bo->∀J:World,∀K:Nat,cX ak [] G.string [.string ⟨[].toArray⟩, .string ⟨[97,98].toArray⟩, .string ⟨[].toArray⟩, .string ⟨[99].toArray⟩] J K->b9 w0 F [] J X.wW #[.slice (some ⟨b,0,none⟩) 3 3, .slice (some ⟨bo,0,none⟩) 2 2,D 0, .slice (some ⟨K,0,none⟩) 4 4] .bool λN eE=>jW w0 F Q eE N/\(eE=true->aG N λP=>Y1/\∀R:World,∀S:Nat,cX N [] G.eY [.int .u8 0, .int .u8 0] R S->¬(S∈[P])->a7 w0 F [P] R [(P,G.im)] X.wW #[.slice (some ⟨b,0,none⟩) 1 3, .slice (some ⟨S,0,none⟩) 2 2,D 2, .slice none 0 0] .bool λW Y=>jW w0 F Q Y W/\(Y=true->Y1/\∀a1:World,∀gd:Nat,cX W [] G.eY [.int .u8 0] a1 gd->¬(gd∈[P])->a7 w0 F [P] a1 [(P,G.im)] X.Fw #[.agg #[D 1,D 4,D 0], .slice (some ⟨b,0,none⟩) 1 3, .slice (some ⟨gd,0,none⟩) 1 1, .bool false,D 2] .bool λaB jE=>jW w0 F Q jE aB/\(jE=true->(YQ/\∀kq:World,∀jY:Nat,Made aB [] G.eY 1 5000 5000 [.int .u8 0] kq jY->¬(jY∈[P])->∀mT:World,∀lz:Nat,cX kq [] G.eY [.int .u8 1] mT lz->¬(lz∈[P])->∀uJ:World,Yj w0 F Q mT uJ [(P,G.im)] jY lz [P] P)/\∀kq:World,∀jY:Nat,cX aB [] G.eY [.int .u8 1] kq jY->¬(jY∈[P])->YQ/\∀mT:World,∀lz:Nat,Made kq [] G.eY 1 5000 5000 [.int .u8 0] mT lz->¬(lz∈[P])->∀uJ:World,Yj w0 F Q mT uJ [(P,G.im)] lz jY [P] P))))))):aO X.Jg #[] w0 F Q:=bh [] h
end Go.Proofs.YtimbpmnbbfeogaaGreatDoor
namespace Go.Proofs.YtimbpmnbbfeogaaGreatDoor
open Go Go.RowKit Go.Sy Go.Rep
theorem Qp(l:List UInt8):eU (jq l)=tv l:=by
 unfold eU jq tv;rw[Du];rfl
section
variable{w V:World}
theorem mB.get{p:ao}{n:Nat}{hs:List n7}{ab:List (List Int)}(h:mB w p n hs ab){j:Nat}(hj:j<n):∃(a:Addr) (x:n7) (l:List Int),p=some a/\ab[j]? =some l/\hs[j]? =some x/\At w a (j*1) [.slice x.p x.n x.c]:=by
 have hlen:hs.length=n:=by have:=h.row.len;unfold og at this;rw[gw] at this;omega
 have j3:ab.length=n:=h.same;obtain⟨a,ha⟩:=h.row.iP M
 exact⟨a,hs[j],ab[j],ha,el _,el _,h.row.at_ ha _ (by
  unfold og;rw[oC,mw (by rw[gw];omega),JL]
  rfl)⟩
theorem NR{p:ao}{n:Nat}{s:List UInt8}(h:Row w p n 1 (eU (jq s))):vP w p n s/\(p=none->n=0):=by
 have hl:s.length=n:=by have:=h.len;unfold eU jq at this;rw[gw,gw] at this;omega
 refine⟨⟨hl,λa e=>by rw[<-Qp];exact h.eI a e⟩,λe=>?_⟩;rcases nw n with z|z
 ·exact z
 ·obtain⟨a,kf⟩:=h.iP z
  rw[e] at kf;cases kf
theorem atx{h3 cm:ao}{n jm db:Nat}{hs gs:List n7}{jl:List (List UInt8)}(ha:mB w h3 n hs (jl.map jq))(hb:mB w cm n gs (jl.map jq))(hn:n<=1000000):
  di X.VU #[.slice h3 n jm, .slice cm n db] w (.bool true):=by
 refine azQ h3 n jm cm n db ⟨λe=>absurd rfl e,λ_=>⟨λi V=>0<=i/\i<=n/\U bg w V,λi=>((n:Int)-i).toNat,λV hb=>⟨by omega,by omega,U.au hb⟩,?_⟩⟩;rintro i V _ ⟨i0,eA,k⟩;refine⟨λhi=>?_,λhi=>aa.of λ_=>rfl⟩;obtain⟨j,rfl⟩:∃j:Nat,i=j:=⟨i.toNat,by omega⟩;obtain⟨a,x,l,e1,e2,e3,jb⟩:=(ha.O k).get (j:=j) M;obtain⟨b,y,m,f1,f2,lU,q4⟩:=(hb.O k).get (j:=j) M;obtain⟨s,hs1,rfl⟩:∃s,jl[j]? =some s/\jq s=l:=by
  rw[pV] at e2;simpa using e2
 have de:=((ha.O k).eG _ _ _ e3 e2).1;have q1:=((hb.O k).eG _ _ _ lU e2).1;have iL:∀{gb:World},U bg V gb->ay ((j:Int)+1)/\∀cR:World,Below gb.heap.size gb cR->(0<=(j:Int)+1/\(j:Int)+1<=n/\U bg w cR)/\((n:Int)-((j:Int)+1)).toNat<((n:Int)-(j:Int)).toNat:=λyi=>⟨by unfold ay;omega,λcR cr=>⟨⟨by omega,by omega,(k.trans yi).trans (U.au cr)⟩,by omega⟩⟩
 refine⟨a,e1,⟨i0,hi⟩,x.p,x.n,x.c,jb,b,f1,⟨i0,hi⟩,y.p,y.n,y.c,q4,⟨s,λw7 fM=>?_⟩,s,λw7 fM=>?_⟩
 all_goals
  have fe:=U.au fM;obtain⟨bY,c2⟩:=NR (de.O fe);obtain⟨d1,j2⟩:=NR (q1.O fe)
 ·refine⟨bY,c2,q4.below fM,s,λcW gT=>?_⟩
  have fu:=fe.trans (U.au gT);obtain⟨d1,j2⟩:=NR (q1.O fu);exact⟨d1,j2,λe=>absurd rfl e,λ_=>iL fu⟩
 ·refine⟨d1,j2,jb.below fM,s,λcW gT=>?_⟩
  have fu:=fe.trans (U.au gT);obtain⟨d1,j2⟩:=NR (de.O fu);exact⟨d1,j2,λe=>absurd rfl e,λ_=>iL fu⟩
theorem xq.ax{e:TypeId}{l:List UInt8}{b c:Nat}(h:xq w [] e l V b c):U bg w V:=⟨h.os,h.tape,h.output,Pa (JU h.new h.size),λi hi _=>h.heap i hi aS⟩
theorem afO{cm aP E3:ao}{nb db aM ba gB K6:Nat}{fF:Int}{jl:List (List UInt8)}(aj:Laid w)(hw:Row w E3 gB 1 (pb jl))(hn:gB<=1000)(hs:∀s∈jl,s.length<=1000)
  (hcut:∀w',Laid w'->U bg w w'->bI Tryz.prog X.q_ #[.slice cm nb db, .slice aP aM ba] w' bg (PF jl fF)):
  di X.wW #[.slice cm nb db, .slice aP aM ba, .int .i64 fF, .slice E3 gB K6] w (.bool true):=by
 have L7:jl.length=gB:=by have:=hw.len;unfold pb at this;rw[gw] at this;omega
 refine azI cm nb db aP aM ba fF E3 gB K6 λw1 hb1=>?_
 refine(hcut w1 (Laid.below hb1 aj) (U.au hb1)).aH λv ad aK ⟨p,n,k,hs1,ah,hp,ya⟩=>?_
 subst ah;have x_:n=gB:=by have:=hp.same;rw[gw] at this;omega
 subst x_;have adS:=(U.au hb1).trans aK;have aD':=adS.size;refine⟨p,n,k,fF,rfl,aK.O,λq m c i V=>∃gs:List n7,i=m/\m<=n/\U bg ad V/\Go.Sy.bF ad.heap.size V G.Fl 1 q m c (og gs)/\mB V q m gs ((jl.take m).map jq)/\∀g∈gs,∀a,g.p=some a->∀b,q=some b->a.block≠b.block,λ_ _ _ i=>((n:Int)-i).toNat,λV hb=>⟨[],rfl,ef _,U.au hb,bF.nil _ _ _ _,mB.nil,λ_ h=>nomatch h⟩,?_⟩;rintro q m c i V _ ⟨gs,rfl,hj,CA,ho,hq,hne⟩;have apW:=adS.trans CA;refine⟨λhi=>?_,λhi bD eR=>?_⟩
 ·have zC:m<jl.length:=by omega
  have Hz:gs.length=m:=by have:=ho.len;unfold og at this;rw[gw] at this;omega
  obtain⟨a,ha⟩:=hw.iP M
  have dB:At V a (m*1) [.string ⟨jl[m].toArray⟩]:=(hw.O apW).at_ ha _ (by
   unfold pb;rw[oC,mw (by rw[gw];exact zC),JL]
   rfl)
  refine⟨a,ha,⟨by omega,hi⟩,jl[m],dB,λcW fv i1 Ec ie aBN=>⟨og gs,(ho.below (Below.refl _ _)).O (xq.ax Ec)|>.room (λa ha hm=>?_) (λ_ a ha hl=>?_),by omega,λcR fG qy hg _=>⟨by unfold ay;omega,λgn iY=>?_⟩⟩⟩
  ·have:=(ho.lt a ha).1
   have:=(xq.ax Ec).size;simp only[e7,ns,nt] at hm;omega
  ·have:=(ho.lt a ha).2.1
   omega
  ·have br:=(xq.ax Ec)
   have aEa:=br.size;have aEb:=CA.size;have gI:U (λi=>∃a,q=some a/\i=a.block) cW cR:=hg.ax λ_ a e=>⟨a,e,rfl⟩
   have ap0:U bg ad gn:=((CA.trans br).after gI λi h1 ⟨a,e,h⟩=>by have:=(ho.lt a e).2.1;omega).trans (U.au iY);have own:=(hg.own (B:=ad.heap.size) M λa e=>(ho.lt a e).2.1).below iY;have ib:og gs++[Value.slice (some ⟨fv,0,none⟩) jl[m].length i1]=og (gs++[⟨some ⟨fv,0,none⟩,jl[m].length,i1⟩]):=by unfold og;simp
   rw[ib] at own;have ez:(jl.take (m+1)).map jq=(jl.take m).map jq++[jq jl[m]]:=by rw[ny,el zC,l9];rfl
   have ar0:=hg.j6;have aDI:=Ec.new;have aeU:=Ec.size;have Ip:∀{cq:ao} {ar:Nat} {bM:List Int},Row cW cq ar 1 (eU bM)->(∀a,cq=some a->a.block<cW.heap.size/\∀b,q=some b->a.block≠b.block)->Row gn cq ar 1 (eU bM)/\∀a,cq=some a->a.block<gn.heap.size:=λhr hd=>⟨(Row.ax hr gI λa e=>λ⟨b,e2,e3⟩=>(hd a e).2 b e2 e3).O (U.au iY),λa e=>by have:=(hd a e).1;have:=gI.size;have:=iY.size;omega⟩
   have abH:∀b,q=some b->fv≠b.block:=λb e=>by have:=(ho.lt b e).1;omega
   have ve:jl[m].length<=1000:=hs _ (vM zC);refine⟨⟨_,by omega,by omega,ap0,own,⟨bF.row own,?_,?_⟩,?_⟩,by dsimp only;omega⟩
   ·rw[gw,kC];omega
   ·intro j x l e1 e2
    rw[ez] at e2;rcases h8 j m with Eg|Eg
    ·rw[nr M] at e1
     rw[nr Xz] at e2;obtain⟨de,c1,r3,r4⟩:=hq.eG _ _ _ e1 e2;obtain⟨bX,aX⟩:=Ip (de.O br) λa e=>⟨by have:=r4 a e;omega,hne x (uE e1) a e⟩
     exact⟨bX,c1,r3,aX⟩
    ·have Eg:j=m:=by
      rcases h8 j (m+1) with h|h
      ·omega
      ·rw[nu (by rw[gh,Hz];exact h)] at e1
       cases e1
     subst Eg;rw[mu M,Hz,AZ] at e1;rw[mu Xz] at e2;rw[gw,kC,show j-min j jl.length=0 by omega] at e2;obtain rfl:=h9 e1;obtain rfl:=h9 e2;obtain⟨bX,aX⟩:=Ip (cq:=some ⟨fv,0,none⟩) (ar:=jl[j].length) (bM:=jq jl[j]) ⟨by rw[Qp];unfold tv;rw[gw,oC],λa e=>by cases e;rw[Qp];exact Ec.row,λ_=>⟨_,rfl⟩⟩ λa e=>by cases e;exact⟨aeU,abH⟩
     exact⟨bX,by unfold jq;rw[gw],by show jl[j].length<=_;omega,aX⟩
   ·intro g vb a kf b m_
    have dT:∀{g:Nat},g<cW.heap.size->(∀b,q=some b->g≠b.block)->g≠b.block:=λh1 h2 e=>by
     rcases ar0 b m_ with⟨d,e1,e2,_⟩|h
     ·exact h2 d e1 M
     ·omega
    rcases gi.1 vb with h|h
    ·obtain⟨j,nL⟩:=JT.1 h
     have Eg:j<m:=by
      rcases h8 j m with h|h
      ·exact h
      ·rw[nu M] at nL
       cases nL
     have j3:((jl.take m).map jq)[j]? =some (((jl.take m).map jq)[j]'Xz):=el _;have:=(hq.eG _ _ _ nL j3).2.2.2 a kf;exact dT M (hne g h a kf)
    ·obtain rfl:=gg.1 h
     cases kf;exact dT aeU abH
 ·obtain rfl:m=n:=by omega
  rw[jh M] at hq;refine(atx (hp.O (CA.trans (U.au eR))) (hq.O (U.au eR)) M).aH λbP dW=>⟨_,rfl,dW.O,λ_=>aa.of λ_=>?_,λe=>(nomatch e)⟩
  show Value.bool _=_;rw[cb];simp
end
section
variable{w V W:World}
structure y4(V:World)(n:Nat)(l:List UInt8):Prop where
 row:Row V (some ⟨n,0,none⟩) l.length 1 (et l)
 lt:∀a,some (⟨n,0,none⟩:Addr)=some a->a.block<V.heap.size
theorem y4.O{n:Nat}{l:List UInt8}(h:y4 V n l)(k:U bg V W):y4 W n l:=⟨h.row.O k,λa e=>gp (h.lt a e) k.size⟩
theorem ajK(l:List UInt8):(et l).length=l.length:=by unfold et;rw[gw]
theorem cX.lit{cs:List Value}{n:Nat}(h:cX V [] G.eY cs W n)(l:List UInt8)(e:cs=et l:=by kernel_rfl)(hl:l.length<=maxLen:=by decide):y4 W n l/\U bg V W:=by
 subst e;exact⟨⟨bF.row (cX.own (s:=1) (n:=l.length) h (by rw[ajK,oC]) hl),λa e=>by cases e;exact h.size⟩,cX.ax h rfl⟩
theorem qW.ax{a:Addr}(h:qW V [] a W):U (λi=>i=a.block) V W:=⟨h.os,h.tape,h.output,h.size,λi h1 h2=>h.heap i h1 aS h2⟩
theorem qW.at_{n:Nat}{e:TypeId}{cs cj:List Value}{o:Nat}(h:qW V [] ⟨n,0,none⟩ W)(hw:Whole V n e cs)(ha:At V ⟨n,0,none⟩ o cj):At W ⟨n,0,none⟩ o cj:=by
 obtain⟨lD,h2⟩:=h.u7 _ _ hw;have h1:V.heap[n]? =some (.cells cs.toArray e (0,0)):=hw;intro j v hj;have:=ha j v hj;unfold World.cell? at this⊢;rw[Addr.add_lit] at this⊢;dsimp only at this⊢;rw[h1] at this;rw[show W.heap[n]? =some (.cells cs.toArray e lD) from h2];exact this
theorem cX.mark{w:World}{cs:List Value}{n:Nat}(h:cX w [] G.eY cs V n)(hm:qW V [] ⟨n,0,none⟩ W)(l:List UInt8)(e:cs=et l:=by kernel_rfl)(hl:l.length<=maxLen:=by decide):y4 W n l/\U bg w W:=by
 obtain⟨h1,a8⟩:=cX.lit h l e hl;have aej:=qW.ax hm;have hn:=h.new;exact⟨⟨⟨h1.row.len,λa ha=>by cases ha;exact qW.at_ hm h.row (h1.row.eI _ rfl),h1.row.iP⟩,λa e=>gp (h1.lt a e) aej.size⟩,a8.after aej λi hi e=>by change i=n at e;omega⟩
theorem ae3:Row V none 0 1 (et []):=⟨rfl,λ_ e=>mR,λh=>by omega⟩
theorem aro:Row V none 0 1 (pb []):=⟨rfl,λ_ e=>mR,λh=>by omega⟩
theorem ae2:∀a:Addr,none=some a->a.block<V.heap.size:=λ_ e=>by cases e
def aal(bs ab:List UInt8)(nb db aM gB k:Nat)(jl:List (List UInt8)):Bool:=decide (nb<=db)&&(decide (nb<=1000)&&(decide (aM<=1000)&&(decide (gB<=1000)&&(od ab&&((List.range k).all (l1 ab nb)&&(!(l1 ab nb k)&&(decide (k<=4096)&&(decide ((List.range k).map (mL bs ab nb)=jl)&&jl.all λs=>decide (s.length<=1000)))))))))
theorem KI{cm aP E3:ao}{nb db aM ba gB K6:Nat}(bs ab:List UInt8){jl:List (List UInt8)}(k:Nat)(aj:Laid V)(hb:Row V cm nb 1 (et bs))(gH:∀a,cm=some a->a.block<V.heap.size)(hl:Row V aP aM 1 (et ab))(x8:∀a,aP=some a->a.block<V.heap.size)(hw:Row V E3 gB 1 (pb jl))(tG:aal bs ab nb db aM gB k jl=true:=by kernel_rfl):
  di X.wW #[.slice cm nb db, .slice aP aM ba, .int .i64 0, .slice E3 gB K6] V (.bool true):=by
 unfold aal at tG;simp only[fR,lM,XT,js,X0] at tG;obtain⟨h1,h2,aw,aZ,ca,dM,fM,gT,gm,h10⟩:=tG;refine afO aj hw aZ h10 λw' tD k'=>?_
 have:=aaC (w:=w') (hb.O k') (λa e=>gp (gH a e) k'.size) (hl.O k') (λa e=>gp (x8 a e) k'.size) h1 M M ca dM fM gT (ba:=ba);rwa[gm] at this
theorem Z2{cm aP:ao}{nb db aM ba:Nat}{fF:Int}(aj:Laid V)
  (h:∀W,U bg V W->Calls Tryz.prog X.q_ #[.slice cm nb db, .slice aP aM ba] W λe W'=>e= .returned (.tuple #[.slice none 0 0, .int .i64 fF])/\Below W.heap.size W W'):
  di X.wW #[.slice cm nb db, .slice aP aM ba, .int .i64 fF, .slice none 0 0] V (.bool true):=
 afO (jl:=[]) aj aro M (λ_ h=>nomatch h) λw' tD k'=>aaA (h w' k')
theorem akc{c:fJ}{cm aP:ao}{nb db aM ba:Nat}{fF:Int}(aW:fF≠0)(aj:Laid V)
  (h:∀W,U bg V W->Calls Tryz.prog X.q_ #[.slice cm nb db, .slice aP aM ba] W λe W'=>e= .returned (.tuple #[.slice none 0 0, .int .i64 fF])/\Below W.heap.size W W'):
  di X.Fw #[.agg c.T, .slice cm nb db, .slice aP aM ba, .bool false, .int .i64 fF] V (.bool true):=by
 refine ahD c cm nb db aP aM ba false fF λar g1 w1 hb1 fb=>?_
 have a8:=U.au hb1;refine(asF aW (Laid.below hb1 aj) λw' tD k'=>(aaA (h w' (a8.trans k'))).mono (λ_ h=>h) λv W _ ⟨p,n,k,hs,ah,_⟩=>⟨p,n,k,ah⟩).aH λad aK=>⟨_,_,rfl,aK.O,λ_=>aa.of λ_=>?_,λe=>absurd rfl e⟩
 show Value.bool _=_;rw[cb];simp
theorem ajx{j:Nat}(h:j<=5000):dF [1] 5000 j=j:=by
 induction j with
 |zero=>rfl
 |succ j ih=>
  have:=ih M;show dF [1] 5000 j+gr [1] 5000 j (dF [1] 5000 j)=j+1;rw[this];unfold gr;have:Rep.ir [1] (j%([1]:List UInt8).length)=1:=by
   have:j%([1]:List UInt8).length=0:=by show j%1=0;omega
   rw[this];rfl
  rw[this];simp;omega
theorem arE:oa [1] 5000 4097:=by
 intro j hj;unfold l1;rw[ajx M];simp;omega
theorem aBA(n:Nat):(List.replicate n [Value.int .u8 0]).flatten=et (List.replicate n 0):=by
 induction n with
 |zero=>rfl
 |succ n ih=>rw[XN,JM,ih];rfl
theorem aeD{n b:Nat}(h:Made V [] G.eY 1 n n [.int .u8 0] W b)(hn:n<=maxLen):y4 W b (List.replicate n 0)/\U bg V W:=by
 have ho:=bF.row (Made.own h rfl (cL _) hn);rw[aBA] at ho;exact⟨⟨by rw[n3];exact ho,λa e=>by cases e;exact h.size⟩,Made.ax h⟩
structure PV(V W:World)(a b:Nat):Prop where
 k:U bg V W
 lB:y4 W a (List.replicate 5000 0)
 cw:y4 W b [1]
theorem awC{er X:World}{a b:Nat}(h1:Made V [] G.eY 1 5000 5000 [.int .u8 0] W a)(h2:cX W [] G.eY [.int .u8 1] er b)(aw:Below er.heap.size er X):PV V X a b:=by
 obtain⟨dd,a8⟩:=aeD h1 du;obtain⟨a2,aK⟩:=cX.lit h2 [1];have k3:=U.au aw;exact⟨(a8.trans aK).trans k3,dd.O (aK.trans k3),a2.O k3⟩
theorem awD{er X:World}{a b:Nat}(h2:cX V [] G.eY [.int .u8 1] W b)(h1:Made W [] G.eY 1 5000 5000 [.int .u8 0] er a)(aw:Below er.heap.size er X):PV V X a b:=by
 obtain⟨dd,a8⟩:=aeD h1 du;obtain⟨a2,aK⟩:=cX.lit h2 [1];have k3:=U.au aw;exact⟨(aK.trans a8).trans k3,dd.O k3,a2.O (a8.trans k3)⟩
end
def aeA:List (List UInt8):=[[27],[91,54],[110,120]]
def I0:iq:=nB w5 ⟨1,4,0⟩ (aeA.map jq)
def q'(r:Int):bC:=⟨r,0,0,0,1,⟨⟨0,0,0,0,0⟩,⟨0,0,0,0,0⟩,0⟩⟩
theorem auQ:I0.av.iM=[27,91,49,59,49,82]:=by kernel_rfl
theorem aqC:(l5 I0).lines=[⟨[q' 120,q' 0,q' 0,q' 0],false⟩]:=by kernel_rfl
theorem eq_self(a:bC)(w:World):(Op.equal G.Cell (.agg a.T) (.agg a.T)).run Tryz.prog w= .ok true w:=by rw[Rg,l8 rfl]
section
variable{w:World}
theorem aj0:Pure X.Jg #[] (.bool true):=by
 intro w aj;have L:∀{V:World},U bg w V->Laid V:=λk=>Laid.O k aj
 have lS:∀{V W:World} {cs:List Value} {n:Nat} {bs:List Nat},U bg w V->cX V [] G.eY cs W n->n∉bs->(ct W ⟨n,0,none⟩ 0 0)/\cp w.heap.size bg bs n:=λk h hb=>⟨⟨rfl,_,_,h.row,by simp⟩,hb,λe=>by have:=k.size;have:=h.new;omega⟩
 refine azJ λw1 ar h1=>⟨_,rfl,lS (U.refl _ _) h1 aS,λad fQ bw aQ aw=>?_⟩
 obtain⟨dd,aK⟩:=cX.mark h1 fQ [97,98,99];refine⟨_,rfl,lS aK aw aS,λbD aeB bP cH ca cu eO dM w7 nF=>?_⟩;obtain⟨a2,k4⟩:=cX.mark aw aeB [97,98,99,100,101,102,103];obtain⟨a3,dW⟩:=cX.lit ca [2,3];have C4:Row cu (some ⟨eO,0,none⟩) 3 1 (pb [[97,98],[99,100,101],[102,103]]):=bF.row (cX.own (s:=1) (n:=3) dM rfl du);have EJ:=(cX.ax dM rfl).trans (U.au nF);have EI:=dW.trans EJ;have fe:=(aK.trans k4).trans EI;refine(KI (bs:=[97,98,99,100,101,102,103]) (ab:=[2,3]) (k:=3) (L fe) (a2.O EI).row (a2.O EI).lt (a3.O EJ).row (a3.O EJ).lt (C4.O (U.au nF))).aH λcW fu=>⟨_,rfl,fu.O,λe=>(nomatch e),λ_ cR fv gm gn Kv=>?_⟩
 have ad9:=fe.trans fu;have UL:Row cR (some ⟨fv,0,none⟩) 1 1 (pb [[97,98,99]]):=bF.row (cX.own (s:=1) (n:=1) gm rfl du);have fZ:=(cX.ax gm rfl).trans (U.au Kv);have PY:=dd.O (((k4.trans EI).trans fu).trans fZ);refine(KI (bs:=[97,98,99]) (ab:=[]) (k:=1) (L (ad9.trans fZ)) PY.row PY.lt ae3 ae2 (UL.O (U.au Kv))).aH λhC jd=>⟨_,rfl,jd.O,λe=>(nomatch e),λ_ kl i1 h12 jy ie Hd k2 Kw=>?_⟩
 obtain⟨iG,yf⟩:=cX.lit h12 [5];have asl:Row jy (some ⟨ie,0,none⟩) 1 1 (pb [[]]):=bF.row (cX.own (s:=1) (n:=1) Hd rfl du);have ou:=(cX.ax Hd rfl).trans (U.au Kw);have adV:=((ad9.trans fZ).trans jd).trans (yf.trans ou);refine(KI (bs:=[]) (ab:=[5]) (k:=1) (L adV) ae3 ae2 (iG.O ou).row (iG.O ou).lt (asl.O (U.au Kw))).aH λoz rr=>⟨_,rfl,rr.O,λe=>(nomatch e),λ_ nX qy Ly l7 j5 abF lK Zy=>?_⟩
 obtain⟨nD,sI⟩:=cX.lit Ly [0,2];have asm:Row l7 (some ⟨j5,0,none⟩) 4 1 (pb [[],[97,98],[],[99]]):=bF.row (cX.own (s:=1) (n:=4) abF rfl du);have sJ:=(cX.ax abF rfl).trans (U.au Zy);have adW:=(adV.trans rr).trans (sI.trans sJ);have Km:=PY.O ((jd.trans (yf.trans ou)).trans (rr.trans (sI.trans sJ)));refine(KI (bs:=[97,98,99]) (ab:=[0,2]) (k:=4) (L adW) Km.row Km.lt (nD.O sJ).row (nD.O sJ).lt (asm.O (U.au Zy))).aH λqO Io=>⟨_,rfl,Io.O,λe=>(nomatch e),λ_ o2 aBK=>⟨⟨by omega,by omega,by omega⟩,λkm CH D5 _ ln Zz _=>?_⟩⟩
 obtain⟨xx,EH⟩:=cX.lit D5 [0,0];have adX:=((adW.trans Io).trans EH).trans (U.au Zz);have GN:=(xx.O (U.au Zz));refine(Z2 (L adX) λW k=>aaz (ab:=[0,0]) du du (cL _) (E' (GN.O k).row (GN.O k).lt)).aH λuu yg=>⟨_,rfl,yg.O,λe=>(nomatch e),λ_=>⟨⟨by omega,by omega,by omega⟩,λs4 IF amz _ ky ZA _=>?_⟩⟩
 obtain⟨xy,yh⟩:=cX.lit amz [0];have adY:=((adX.trans yg).trans yh).trans (U.au ZA);have aaS:=(xy.O (U.au ZA));refine(akc (c:=⟨1,4,0⟩) du (L adY) λW k=>aaz (ab:=[0]) du du (cL _) (E' (aaS.O k).row (aaS.O k).lt)).aH λAA adZ=>⟨_,rfl,adZ.O,λe=>(nomatch e),λ_=>?_⟩
 have apZ:=adY.trans adZ;refine⟨⟨⟨by omega,by omega,by omega⟩,λOL aeV dJ _ aAX aeW hB _ ahQ qi _=>?_⟩,λaAX aeW hB _=>⟨⟨by omega,by omega,by omega⟩,λOL aeV dJ _ ahQ qi _=>?_⟩⟩
 all_goals
  have Jt:PV AA ahQ aeV aeW:=by first|exact awC dJ hB qi|exact awD hB dJ qi
  have Cy:=apZ.trans Jt.k;refine(Z2 (L Cy) λW k=>ak' (bs:=List.replicate 5000 0) (ab:=[1]) M M du du arE (cL _) (E' (Jt.lB.O k).row (Jt.lB.O k).lt) (E' (Jt.cw.O k).row (Jt.cw.O k).lt)).aH λaDW TO=>⟨_,rfl,TO.O,λe=>(nomatch e),λ_ aDX aeQ abI _ aDY aeR BY ash=>⟨_,rfl,lS ((Cy.trans TO).trans (cX.ax abI rfl)) BY ash,λaDZ aqP aD0 aeS abJ asi=>?_⟩⟩
  obtain⟨P0,EI⟩:=cX.lit abI [27];obtain⟨a31,ad4⟩:=cX.mark BY aqP [91,54];have ad5:=((Cy.trans TO).trans EI).trans ad4;refine⟨_,rfl,lS ad5 abJ asi,λaD1 aqQ aAU aeT RG _ aAV Qh _=>?_⟩;obtain⟨P1,TP⟩:=cX.mark abJ aqQ [110,120];have asn:Row aAU (some ⟨aeT,0,none⟩) 3 1 (og [⟨some ⟨aeQ,0,none⟩,1,1⟩,⟨some ⟨aeR,0,none⟩,2,2⟩,⟨some ⟨aeS,0,none⟩,2,2⟩]):=bF.row (cX.own (s:=1) (n:=3) RG rfl du);have MA:=(cX.ax RG rfl).trans (U.au Qh);have ad6:=(ad5.trans TP).trans MA;have aaI:=P0.O ((ad4.trans TP).trans MA);have aaJ:=a31.O (TP.trans MA);have aaK:=P1.O MA;have hp:mB aAV (some ⟨aeT,0,none⟩) 3 [⟨some ⟨aeQ,0,none⟩,1,1⟩,⟨some ⟨aeR,0,none⟩,2,2⟩,⟨some ⟨aeS,0,none⟩,2,2⟩] (aeA.map jq):=by
   refine⟨asn.O (U.au Qh),rfl,λk x l e1 e2=>?_⟩;rcases k with _|_|_|k
   ·cases e1;cases e2;exact⟨by rw[Bm];exact aaI.row,rfl,(show 1<=1048576 by decide),aaI.lt⟩
   ·cases e1;cases e2;exact⟨by rw[Bm];exact aaJ.row,rfl,(show 2<=1048576 by decide),aaJ.lt⟩
   ·cases e1;cases e2;exact⟨by rw[Bm];exact aaK.row,rfl,(show 2<=1048576 by decide),aaK.lt⟩
   ·cases e1
  refine(I1 (bK:=w5) (c:=⟨1,4,0⟩) (k:=3) OA (L ad6) hp (λa e=>by cases e;exact gp RG.size Qh.size) du du I8).aH λv Xd ad7 ⟨p,o0,ys,ah,f1,f2,lU,wj⟩=>?_
  subst ah;change dE Xd p ys.length o0 ys at f1;change bJ ys=(l5 I0).lines at f2;rw[aqC] at f2;have hy:ys.length=1:=by have:=dx List.length f2;unfold bJ at this;rw[gw] at this;exact this
  have iI:(bb ys 0).jT=⟨[q' 120,q' 0,q' 0,q' 0],false⟩:=by
   have:=Iy (xs:=ys) (k:=0) M;rw[f2] at this;exact(h9 this).symm
  have jH:(bb ys 0).cs=[q' 120,q' 0,q' 0,q' 0]:=dx Li.cs iI;have ad8:=ad6.trans ad7;obtain⟨a,ha⟩:=f1.row.row.iP M;have dB:At Xd a 0 [.slice (bb ys 0).aB (bb ys 0).cs.length (bb ys 0).cap]:=by
   have:=(f1.at_ ha (k:=0) M).sub 0 (cj:=[.slice (bb ys 0).aB (bb ys 0).cs.length (bb ys 0).cap]) rfl;simpa using this
  have hrow:ga Xd (bb ys 0).aB (bb ys 0).cs.length (bb ys 0).cs:=fB.qc (f1.eG.own _ (pG M));have aZ:(bb ys 0).cs.length=4:=by rw[jH];rfl
  obtain⟨b,hb,iV⟩:=hrow.get (i:=0) M M;obtain⟨b',hb',jb⟩:=hrow.get (i:=1) M M;rw[jH] at iV jb;refine⟨(l5 I0).o_ ⟨p,ys.length,o0⟩,I0.av.iM,_,rfl,ad7.O,λaDF aBM=>⟨λe=>absurd rfl e,λ_=>⟨λe=>absurd auQ e,λ_=>⟨λe=>absurd (dx Nat.cast hy) e,λ_=>⟨a,ha,⟨by omega,by change (0:Int)<(ys.length:Int);omega⟩,_,_,_,dB,λe=>absurd (dx Nat.cast aZ) e,λ_=>⟨a,ha,⟨by omega,by change (0:Int)<(ys.length:Int);omega⟩,_,_,_,dB,b,hb,⟨by omega,by omega⟩,q' 120,iV,_,λw=>eq_self _ w,λe=>(nomatch e),λ_=>⟨a,ha,⟨by omega,by change (0:Int)<(ys.length:Int);omega⟩,_,_,_,dB,b',hb',⟨by omega,by omega⟩,q' 0,jb,_,λw=>eq_self _ w,λe=>(nomatch e),λ_ aD2 aDG h65 asj=>⟨_,rfl,lS ad8 h65 asj,λaD3 aqR aD4 aDH abK _ aD5 ajF _=>?_⟩⟩⟩⟩⟩⟩⟩⟩;obtain⟨ajc,ap1⟩:=cX.mark h65 aqR [27,91,54,110,120];obtain⟨ajd,EJ⟩:=cX.lit abK [1,2];have TQ:=U.au ajF;have K':=ajc.O (EJ.trans TQ);have aaT:=ajd.O TQ;refine(afP (c:=⟨1,4,0⟩) (eM:=jq [27,91,54,110,120]) (L ((ad8.trans ap1).trans (EJ.trans TQ))) (by rw[Bm];exact K'.row) rfl K'.lt du λw' tD k'=>(aaD (bs:=[27,91,54,110,120]) (ab:=[1,2]) (K'.O k').row (K'.O k').lt (aaT.O k').row (aaT.O k').lt du du du du).mono (λ_ e=>e) λv W _ ⟨p,n,k,hs,ab,dd,a2,a3,a4,a5,_⟩=>⟨p,n,k,hs,ab,dd,a2,a3,a4,a5⟩).aH λaD6 ap2=>⟨_,rfl,ap2.O,aa.of λ_=>rfl⟩
theorem ap'{c:fJ}{cm aP:ao}{nb db aM ba:Nat}{bs ab:List UInt8}(aj:Laid w)(hb:Row w cm nb 1 (et bs))(gH:∀a,cm=some a->a.block<w.heap.size)(hl:Row w aP aM 1 (et ab))(x8:∀a,aP=some a->a.block<w.heap.size)(ab_:nb<=db):
  di X.VM #[.agg c.T, .slice cm nb db, .slice aP aM ba] w (.bool true):=by
 have jG:bs.length=nb:=by have:=hb.len;unfold et at this;rw[gw] at this;omega
 refine aqa (eM:=jq bs) (me:=jq ab) aj (by rw[Bm];exact hb) (by unfold jq;rw[gw];exact jG) gH (λx hx=>?_) (by rw[Bm];exact hl) aj0 λbk h1 h2 w' tD k'=>aaD (hb.O k') (λa e=>gp (gH a e) k'.size) (hl.O k') (λa e=>gp (x8 a e) k'.size) ab_ h1 h2 ?_
 ·obtain⟨y,_,rfl⟩:=lr.1 hx
  have:=y.toNat_lt;omega
 ·unfold GZ at bk
  unfold od;cases ab with
  |nil=>rfl
  |cons a t=>
   have:(jq (a::t)).any (λx=>decide (0<x))=(a::t).any λx=>decide (0<x.toNat):=by
    unfold jq;rw[List.any_map];congr 1;funext x;simp
   rw[this] at bk;simpa[jq] using bk
end
end Go.Proofs.YtimbpmnbbfeogaaGreatDoor
namespace Go.Proofs.YtimbpmnbbfeogaaGreatDoor
open Go Go.RowKit Go.Sy Go.Rep Go.ChangeShapes Go.WideShapes
theorem arA{P:Program}{w:World}{r:Reach}{base:Nat}{t u:TypeId}{k:IntKind}{v:Value}{lV:Array Field}(ht:P.underlying t=some (.struct lV))(hc:P.cellsOf t=3)
  (apl:P.cellTypes P.depth t=some [u,u,u]) (hu:P.underlying u=some (.int k)) (h:Value.okWide P w r base t v):∃n m l,v= .agg #[.int k n, .int k m, .int k l]:=by
 simp only[Value.okWide,ht] at h;obtain⟨cs,rfl,hsz,ts,h1,_,aw⟩:=h;rw[apl] at h1;cases h1;rw[hc] at hsz;obtain⟨l⟩:=cs
 match l,hsz with
 |[a,b,c],_=>
  obtain⟨x,e,ha⟩:=aw 0 a rfl;cases e;obtain⟨y,e,hb⟩:=aw 1 b rfl;cases e;obtain⟨z,e,hc⟩:=aw 2 c rfl;cases e;simp only[Cell.okWide,hu] at ha hb hc;cases a<;>simp_all [Cell.ok]
  cases b<;>simp_all
  cases c<;>simp_all
theorem ahT{P:Program}{w:World}{r:Reach}{base n c:Nat}{t e:TypeId}{a:Addr}(ht:P.underlying t=some (.slice e))(h:Value.okWide P w r base t (.slice (some a) n c)):a.block<w.heap.size:=by
 simp only[Value.okWide,ht,Cell.okWide,Cell.ok] at h;obtain⟨_,_,_,_,row,cells,hs,_⟩:=h;rcases h8 a.block w.heap.size with q|q
 ·exact q
 ·unfold World.shape? at hs
  rw[Dt q] at hs;cases hs
theorem agq{w:World}{B:Nat}{p:ao}{n:Nat}{l:List UInt8}(h:e9 w B 1 p n (et l)):Row w p n 1 (et l):=by
 refine⟨h.1,λa e j v hj=>?_,λhn=>?_⟩
 ·have hn:0<n:=by
   have:=(nv.1 hj).1;have:=h.1;omega
  obtain⟨aB,e2,_,aw⟩:=h.2 hn;rw[e] at e2;cases e2;rw[iR];exact aw j v hj
 ·obtain⟨aB,e2,_⟩:=h.2 hn
  exact⟨aB,e2⟩
theorem open36{ak:Type}{enc:TypeId×Value->ak}{W:World}{base:Nat}{args:Array Value}{cf:List (DataW ak)}{before:List MemPlace}
  (yc:∀(j:Nat) (t:TypeId) (v:Value),(#[23,24,24]:Array TypeId)[j]? =some t->args[j]? =some v->Value.okWide Tryz.prog W .any base t v)
  (dJ:DataW.TrodAll enc Tryz.prog W 0 (λ_=>true) true [23,24,24] args.toList cf before) (aj:Laid W):
  Calls Tryz.prog 3 args W λe W'=>e= .returned (.bool true)/\Below W.heap.size W W':=by
 obtain⟨v,s3,v2,d,d1,j2,p,cq,cA,rfl,rfl,rfl,aW,h1,h2⟩:=trodAll_three dJ;obtain⟨r,c,h,rfl⟩:=arA Tryz.underlying23 jr jr Tryz.underlying3 (yc 0 23 v rfl rfl);have q1:=yc 1 24 s3 rfl rfl;have q2:=yc 2 24 v2 rfl rfl;obtain⟨A,n,bY,l,rfl,hr,sw,hc⟩:=afd Tryz.underlying24 Tryz.underlying5 jr q1 h1;obtain⟨A',n',c1',l',rfl,hr',aCI,hc'⟩:=afd Tryz.underlying24 Tryz.underlying5 jr q2 h2;exact Go.Sy.bI.below (ap' (c:=⟨r,c,h⟩) aj (agq hr) (λa e=>by subst e;exact ahT Tryz.underlying24 q1) (agq hr') (λa e=>by subst e;exact ahT Tryz.underlying24 q2) sw)
end Go.Proofs.YtimbpmnbbfeogaaGreatDoor
namespace Go.Abs
structure Tab where
 at':Nat
 ety:TypeId
 es:Nat
 vs:List AVal
variable{eN:p2}
theorem arB{a b:List AVal}:okvs eN (a++b)↔okvs eN a/\okvs eN b:=by
 simp only[iz,gi];exact⟨λh=>⟨λv ah=>h v (.inl ah),λv ah=>h v (.inr ah)⟩,λh v ah=>ah.elim (h.1 v) (h.2 v)⟩
theorem akQ(a b:List AVal):concs eN (a++b)=concs eN a++concs eN b:=by simp[akR]
end Go.Abs
namespace Go.Abs
open Go.ChangeShapes
mutual
def BQ:DataW Unit->Option (List AVal)
 | .lit (.int k n)=>some [.int k n]
 | .agg cf=>G2 cf
 |_=>none
def G2:List (DataW Unit)->Option (List AVal)
 |[]=>some []
 |d::cf=>(BQ d).bind λa=>(G2 cf).map (a++·)
end
def nS(P:Program):List Field->Nat->Option Nat
 |[],a=>some a
 |f::lV,a=>if f.offset=a then nS P lV (a+P.cellsOf f.type) else none
def IX(P:Program):Nat->TypeId->Bool
 |0,_=>false
 |k+1,t=>match P.underlying t with
  |some (.int _)=>true
  |some (.array n e)=>IX P k e&&Nat.beq (P.cellsOf t) (n*P.cellsOf e)
  |some (.struct lV)=>lV.toList.all (λf=>IX P k f.type)&&nS P lV.toList 0==some (P.cellsOf t)
  |_=>false
def A8(eN:p2)(cs:List Value)(vs:List AVal):Prop:=cs=concs eN vs/\okvs eN vs/\vs.all AVal.scalar=true
theorem A8.append{eN:p2}{a b:List Value}{u v:List AVal}(h:A8 eN a u)(k:A8 eN b v):A8 eN (a++b) (u++v):=
 ⟨by rw[h.1,k.1,akQ],arB.2 ⟨h.2.1,k.2.1⟩,by rw[List.all_append,h.2.2,k.2.2];rfl⟩
theorem acV{JY:Type}{eN:p2}{cs:List Value}{off sZ:JY->Nat}{g:JY->Option (DataW Unit×List MemPlace)}(items:List JY)
  (hg:∀i∈items,∀d p vs,g i=some (d,p)->BQ d=some vs->A8 eN ((cs.drop (off i)).take (sZ i)) vs):
  ∀(a b:Nat) (xs:List (DataW Unit×List MemPlace)) (vs:List AVal),(∀(l r:List JY) (i:JY),items=l++i::r->off i=a+(l.map sZ).sum)->b=a+(items.map sZ).sum->
   items.mapM g=some xs->G2 (xs.map (·.1))=some vs->A8 eN ((cs.drop a).take (b-a)) vs:=by
 induction items with
 |nil=>
  intro a b xs vs _ hb hm bk;simp only[List.mapM_nil,Option.pure_def,xg] at hm;subst hm;simp only[JO,G2,xg] at bk;subst bk;simp only[JO,List.sum_nil,AW] at hb;rw[hb,AZ];exact⟨rfl,trivial,rfl⟩
 |cons i items ih=>
  intro a b xs vs fV hb hm bk;rw[JS] at hm;simp only[Option.bind_eq_bind,k6,Option.pure_def,xg] at hm;obtain⟨⟨d,p⟩,h1,ys,h2,rfl⟩:=hm;simp only[pU,G2,k6,il] at bk;obtain⟨u,hu,cj,apo,rfl⟩:=bk;have ho:off i=a:=by have:=fV [] items i rfl;simpa using this
  have a8:=hg i aS d p u h1 hu;rw[ho] at a8
  have aK:=ih (λj hj=>hg j (by simp[hj])) (a+sZ i) b ys cj (λl r j hj=>by
   have:=fV (i::l) r j (by rw[hj];rfl);simp only[pU,List.sum_cons] at this
   omega) (by simp only[pU,List.sum_cons] at hb;omega) h2 apo
  have hb':b-a=sZ i+(b-(a+sZ i)):=by simp only[pU,List.sum_cons] at hb;omega
  rw[hb',List.take_add,vH];exact a8.append aK
theorem ago(P:Program):∀(lV:List Field) (a b:Nat),nS P lV a=some b->
  (∀(l r:List Field) (f:Field),lV=l++f::r->f.offset=a+(l.map λf=>P.cellsOf f.type).sum)/\b=a+(lV.map λf=>P.cellsOf f.type).sum
 |[],a,b,h=>by
  simp only[nS,xg] at h;subst h;exact⟨λl r f bk=>by simp at bk,by simp⟩
 |f::lV,a,b,h=>by
  unfold nS at h;split at h
  ·rename_i ho
   obtain⟨h1,h2⟩:=ago P lV _ _ h;refine⟨λl r g hg=>?_,by simp only[pU,List.sum_cons];omega⟩;cases l with
   |nil=>simp only[pW,O3] at hg;rw[<-hg.1];simpa using ho
   |cons x l=>
    simp only[List.cons_append,O3] at hg;have:=h1 l r g hg.2;simp only[pU,List.sum_cons,<-hg.1];omega
  ·cases h
theorem Wz(c:Nat):∀l:List Nat,(l.map λ_=>c).sum=l.length*c
 |[]=>by simp
 |x::l=>by simp only[pU,List.sum_cons,Wz c l,ko,Ds];omega
theorem aoC{P:Program}{w:World}{base:Nat}{fm:Nat->Bool}{held:Bool}{eN:p2}:∀(k fuel:Nat) (t:TypeId) (cs:List Value) (d:DataW Unit) (p:List MemPlace) (vs:List AVal),
  IX P k t=true->DataW.trod (λ_=>()) P w base fm held fuel t cs=some (d,p)->BQ d=some vs->A8 eN cs vs:=by
 intro k
 induction k with
 |zero=>intro fuel t cs d p vs hp;cases hp
 |succ k ih=>
  intro fuel t cs d p vs hp ht bk;unfold IX at hp;split at hp
  ·rename_i aDu hu
   obtain⟨n,rfl,hx,_⟩:=DataW.trod_int hu ht;cases hx;simp only[BQ,xg] at bk;subst bk;exact⟨rfl,⟨trivial,trivial⟩,rfl⟩
  ·rename_i n e hu
   rw[fR,AT] at hp;cases fuel with
   |zero=>simp[DataW.trod] at ht
   |succ fuel=>
    simp only[DataW.trod,hu] at ht;split at ht
    ·rename_i hl
     obtain⟨xs,hm,hx⟩:=il.1 ht;cases hx;rw[BQ] at bk;have:=acV (eN:=eN) (cs:=cs) (off:=λi=>i*P.cellsOf e) (sZ:=λ_=>P.cellsOf e) (List.range n) (λi _ d p vs h1 h2=>ih fuel e _ d p vs hp.1 h1 h2) 0 (n*P.cellsOf e) xs vs
      (λl r i hi=>by
       have iI:i=l.length:=by
        have aw:(List.range n)[l.length]? =some i:=by rw[hi];simp
        rw[F4] at aw
        ·simpa using aw.symm
        ·have:=dx List.length hi;simp at this;omega
       rw[Wz,iI];omega)
      (by rw[Wz];simp) hm bk
     rw[F8,AX,jh M] at this;exact this
    ·cases ht
  ·rename_i lV hu
   rw[fR] at hp;obtain⟨Ep,nM⟩:=hp;have iw:nS P lV.toList 0=some (P.cellsOf t):=by simpa using nM
   obtain⟨i7,jf⟩:=ago P _ _ _ iw;cases fuel with
   |zero=>simp[DataW.trod] at ht
   |succ fuel=>
    simp only[DataW.trod,hu] at ht;split at ht
    ·rename_i hl
     obtain⟨xs,hm,hx⟩:=il.1 ht;cases hx;rw[BQ] at bk;have:=acV (eN:=eN) (cs:=cs) (off:=λf:Field=>f.offset) (sZ:=λf=>P.cellsOf f.type) lV.toList (λf anC d p vs h1 h2=>ih fuel f.type _ d p vs (js.1 Ep f anC) h1 h2) 0 (P.cellsOf t) xs vs
      i7 jf hm bk
     rw[F8,AX,jh M] at this;exact this
    ·cases ht
  ·cases hp
end Go.Abs
namespace Go.Abs
variable{P:Program}
theorem ael{W:World}:∀{laid:List (String×DataW Unit)} {a_:List MemPlace},DataW.LaidVars P W laid a_->∀x∈laid,∃g t cs fuel p,P.globalNamed x.1=some g/\(P.globals[g]?).map (·.type)=some t/\W.var? P x.1=some cs/\
  DataW.trod (λ_=>()) P W 0 (λ_=>true) false fuel t cs.toList=some (x.2,p)
 |[],_,_,x,hx=>by cases hx
 |(n,d)::r,a_,h,x,hx=>by
  obtain⟨g,t,cs,fuel,p,q,h1,h2,aw,aZ,ca,_⟩:=h;rcases e7.1 hx with rfl|hx
  ·exact⟨g,t,cs,fuel,p,h1,h2,aw,aZ⟩
  ·exact ael ca x hx
structure Tab.aiK(P:Program)(laid:List (String×DataW Unit))(t:Tab)(x:String×DataW Unit)(ty:TypeId)(k:Nat):Prop where
 mem:x∈laid
 named:P.globalNamed x.1=some t.at'
 lt:t.at'<P.globals.size
 type:(P.globals[t.at']?).map (·.type)=some ty
 plain:IX P k ty=true
 dI:BQ x.2=some t.vs
 pos:0<t.es
 amb:t.vs.length%t.es=0
 z7:∃zero,((begin P (λ_ _=>0) default).world.heap[t.at']?).bind Obj.row?=some (zero,t.ety)
theorem tab_met{W:World}{laid:List (String×DataW Unit)}{t:Tab}{x:String×DataW Unit}{ty:TypeId}{k:Nat}(hW:W.ShapedOpen P)(aj:laidMet P laid W)(h:t.aiK P laid x ty k):
  t.at'<P.globals.size/\0<t.es/\t.vs.length%t.es=0/\okvs (λ_ _=>none) t.vs/\t.vs.all AVal.scalar=true/\W.heap[t.at']? =some (.cells (concs (λ_ _=>none) t.vs).toArray t.ety (0,0)):=by
 obtain⟨a_,ah,_⟩:=aj;obtain⟨g,OC,cs,fuel,p,h1,h2,aw,aZ⟩:=ael ah x h.mem;obtain rfl:g=t.at':=h9 (h1.symm.trans h.named);obtain rfl:OC=ty:=h9 (h2.symm.trans h.type);obtain⟨zero,hz⟩:=h.z7;obtain⟨fD,bY,_,_⟩:=hW.1 t.at' zero t.ety h.lt hz;have jH:fD=cs:=by
  unfold World.var? at aw;rw[h.named] at aw;simp only[Option.bind_some,bY] at aw;exact h9 aw
 subst jH;obtain⟨e1,e2,e3⟩:=aoC (eN:=λ_ _=>none) k fuel OC fD.toList x.2 p t.vs h.plain aZ h.dI;refine⟨h.lt,h.pos,h.amb,e2,e3,?_⟩;rw[bY,<-e1]
theorem globals_in{W:World}(hW:W.ShapedOpen P)(h:∀g,P.globals.size=g+1->∃zero t,((begin P (λ_ _=>0) default).world.heap[g]?).bind Obj.row?=some (zero,t)):P.globals.size<=W.heap.size:=by
 cases hs:P.globals.size with
 |zero=>exact ef _
 |succ g=>
  obtain⟨zero,t,hz⟩:=h g hs;obtain⟨cs,bY,_⟩:=hW.1 g zero t M hz;exact(oD.1 bY).1
end Go.Abs
