/- A part of the proof of ChunksHolds. -/
import Derived.Test.YtimbpmnbbfeogaaGreatDoorZA
import Derived.Test.YtimbpmnbbfeogaaGreatDoorProg
import Derived.Lib.ItoaNum
import Derived.Laws.BitsLemmas
set_option linter.unusedVariables false
set_option linter.unusedSimpArgs false
set_option linter.unusedSectionVars false
set_option maxHeartbeats 16000000
set_option maxRecDepth 100000
namespace Go.Sy
open Go.RowKit (Below)
variable[k7]
variable{P:Program}{w0:World}{F:Nat->Prop}{a1:List (Nat×Obj)}{N:Nat}
theorem Nb{s:bU}{a:Act}{w:World}(ak:dn w0 F a1 N s a w){g:ResultVar->Sem Value}(vb:∀(t:Tmp) (v:Value),a.tmps.getD t undef=v->(g (.tmp t)).run P w= .ok v w)
  (B6:∀(c:Tmp) (t:TypeId) (aB:Addr) (v:Value),a.tmps.getD c undef= .pointer (some aB)->(loadVar t aB).run P w= .ok v w->(g (.cell c t)).run P w= .ok v w):
  ∀{rs:List ResultVar} {vs:List aE},sO P s rs=some vs->(rs.mapM g).run P w= .ok (bx (a6 s.L) vs) w/\okvs s.L.length vs
 |[],vs,h=>by cases h;exact⟨rfl,trivial⟩
 | .tmp t::rs,vs,h=>by
  simp only[sO,k6,il] at h;obtain⟨v,ah,cj,hu,rfl⟩:=h;obtain⟨h1,h2⟩:=ak.env t v ah;obtain⟨a8,aK⟩:=Nb ak vb B6 hu;exact⟨by simp only[JS,Sem.run_bind,vb t _ h2,Result.andThen_ok,a8,Sem.run_pure,bx],h1,aK⟩
 | .cell c t::rs,vs,h=>by
  unfold sO at h;split at h
  ·rename_i k o hc
   simp only[k6] at h;obtain⟨n,hn,aU,hg,cs,jH,h⟩:=h;obtain⟨h1,h2⟩:=ak.env c _ hc;obtain⟨l,hl,hle,x1⟩:=NG jH;obtain⟨i7,jf⟩:=ak.cells k l hl;have dB:=At.own (m:=n) (cs:=cs) hl (ak.eI k l hl).1 x1;have hlen:cs.length=n:=by rw[x1];simp;omega
   have fc:okvs s.L.length cs:=by rw[x1];exact iz.2 λu hu=>iz.1 i7 u (ka (kA hu))
   have H_:cs.all aE.scalar=true:=by rw[x1];exact js.2 λu hu=>js.1 jf u (ka (kA hu))
   have mi:a.tmps.getD c undef= .pointer (some ⟨(a6 s.L).getD k 0,o,none⟩):=h2;have hrun:∀(zs:aU=false->n=1),(loadVar t ⟨(a6 s.L).getD k 0,o,none⟩).run P w= .ok (CC aU (bx (a6 s.L) cs)) w:=λzs=>by
    have:=agx (P:=P) hn hg (a:=⟨(a6 s.L).getD k 0,o,none⟩) (o:=0) (vs:=bx (a6 s.L) cs) (by rw[rH,hlen]) zs dB;simpa[Addr.add] using this
   cases aU with
   |true=>
    simp only[il] at h;obtain⟨cj,hu,rfl⟩:=h;obtain⟨a8,aK⟩:=Nb ak vb B6 hu;refine⟨?_,⟨fc,H_⟩,aK⟩;have:=B6 c t _ _ mi (hrun λe=>by cases e);simp only[JS,Sem.run_bind,this,Result.andThen_ok,a8,Sem.run_pure,bx,real,CC]
   |false=>
    cases cs with
    |nil=>cases h
    |cons v rest=>
     cases rest with
     |cons _ _=>cases h
     |nil=>
      simp only[il] at h;obtain⟨cj,hu,rfl⟩:=h;obtain⟨a8,aK⟩:=Nb ak vb B6 hu;refine⟨?_,fc.1,aK⟩;have:=B6 c t _ _ mi (hrun λ_=>hlen.symm);simp only[JS,Sem.run_bind,this,Result.andThen_ok,a8,Sem.run_pure,bx,CC];rfl
  ·cases h
theorem Up{s aX:bU}(ez:aX.G=s.G)(aj:aX.L=s.L):∀rs:List ResultVar,sO P aX rs=sO P s rs
 |[]=>rfl
 | .tmp t::rs=>by simp only[sO,ez,Up ez aj rs]
 | .cell c t::rs=>by simp only[sO,ez,aj,Up ez aj rs]
theorem auU{s:bU}{a:Act}{w:World}(ak:dn w0 F a1 N s a w){fn:Func}{vs:List aE}(h:sO P s fn.results.toList=some vs):(results fn a.tmps).run P w= .ok (real (a6 s.L) (yD vs)) w:=by
 have hm:∀g:ResultVar->Sem Value,(∀(t:Tmp) (v:Value),a.tmps.getD t undef=v->(g (.tmp t)).run P w= .ok v w)->
   (∀(c:Tmp) (t:TypeId) (aB:Addr) (v:Value),a.tmps.getD c undef= .pointer (some aB)->(loadVar t aB).run P w= .ok v w->(g (.cell c t)).run P w= .ok v w)->(fn.results.mapM g).run P w= .ok (bx (a6 s.L) vs).toArray w:=by
  intro g h1 h2;rw[Array.mapM_eq_mapM_toList,map_eq_pure_bind,Sem.run_bind,(Nb ak h1 h2 h).1];rfl
 unfold results;rw[Sem.run_bind,hm _ (λt v ah=>by simp only[Sem.run_pure,ah]) (λc t aB v hc hl=>by simp only[hc,asAddr,Sem.run_bind,Sem.run_pure,Result.andThen_ok,hl])];simp only[Result.andThen_ok]
 match vs with
 |[u]=>rfl
 |[]=>rfl
 |u::gu::cj=>rfl
theorem alB{args:List aE}(n:Nat)(RQ:okvs 0 args):jj 0 [] (GR 0 args .leaf) ((bx [] args).toArray++Array.replicate n undef):=by
 have key:∀(l:List aE) (i:Nat) (G:hM) (t:Nat) (v:aE),(GR i l G).at t=some v->G.at t=some v∨∃j,t=i+j/\l[j]? =some v:=by
  intro l
  induction l with
  |nil=>intro i G t v h;exact .inl h
  |cons x l ih=>
   intro i G t v h;rcases ih (i+1) _ t v h with h1|⟨j,h1,h2⟩
   ·rw[za] at h1
    split at h1
    ·rename_i e
     exact .inr ⟨0,by omega,h1⟩
    ·exact .inl h1
   ·exact .inr ⟨j+1,by omega,h2⟩
 intro t v ah;rcases key args 0 .leaf t v ah with h1|⟨j,h1,h2⟩
 ·unfold hM.at at h1
  rw[Abs.Tr.G3] at h1;cases h1
 ·obtain rfl:t=j:=by omega
  have hlt:=(nv.1 h2).1;refine⟨iz.1 RQ v (JT.2 ⟨_,h2⟩),?_⟩;have:((bx [] args).toArray++Array.replicate n undef)[t]? =some (real [] v):=by
   rw[Array.getElem?_append_left (by simpa[rH] using hlt)];simp[ow,h2]
  rw[O',this];rfl
theorem ajl{m n:Nat}(h:m<=n):∀c,lR m c=true->lR n c=true:=by
 intro c
 induction c with
 |region id l d=>
  intro hg;simp only[lR,js] at hg⊢;intro o ho;have:=hg o ho;split
  ·rename_i d hd
   rw[hd] at this;simp only[yY] at this⊢;omega
  ·rfl
 |seq x y tS tT=>intro hg;simp only[lR,fR] at hg⊢;exact⟨tS hg.1,tT hg.2⟩
 |cond c x y tS tT=>intro hg;simp only[lR,fR] at hg⊢;exact⟨tS hg.1,tT hg.2⟩
 |block id c ih=>exact ih
 |loop c ih=>exact ih
 |scope c ih=>exact ih
 |rangeFunc g a_ x y tS tT=>
  intro hg;simp only[lR,fR,js,yY] at hg⊢;exact⟨⟨λp hp=>by have:=hg.1.1 p hp;omega,tS hg.1.2⟩,tT hg.2⟩
 |_=>intro _;rfl
theorem aep{Fc:Fence}{n:Nat}{fn:Func}{tmps:Array Value}{R:Ending->World->Prop}:∀(bj:List Nat) (w:World),bj.Nodup->(∀aD∈bj,w.heap[aD]? =some (.deferred (some [])))->
  (∀ad:World,ad.os=w.os->ad.tape=w.tape->ad.output=w.output->ad.heap.size=w.heap.size->(∀k,k∉bj->ad.heap[k]? =w.heap[k]?)->∃v,(results fn tmps).run P ad= .ok v ad/\R (.returned v) ad)->LeavesInM Fc n P fn tmps R (bj.map mark) .returning w
 |[],w,_,_,hR=>hR w rfl rfl rfl rfl λ_ _=>rfl
 |aD::bj,w,hn,hm,hR=>by
  refine⟨by simp, .inl ⟨aD,_,rfl,run_takeDeferred (hm aD kB),?_⟩⟩;refine aep bj _ (xi.1 hn).2 (λY4 abL=>?_) λad e1 e2 e3 e4 eu=>hR ad e1 e2 e3 (e4.trans (World.putObj_size ..)) λk hk=>?_
  ·have hne:Y4≠aD:=by
    rintro rfl;exact(xi.1 hn).1 abL
   rw[World.putObj_heap_other hne];exact hm Y4 (jt _ abL)
  ·rw[eu k λh=>hk (jt _ h),World.putObj_heap_other λe=>hk (by rw[e];exact kB)]
theorem amj(hm:P.follows .mixedOrders=true){loops me:List jA}{f:FuncId}{args:List aE}{Q:Value->World->Prop}(RQ:okvs 0 args)(h:func P w0 F loops me f args Q):
  Calls P f (bx [] args).toArray w0 λe w'=>∃v,e= .returned v/\U F w0 w'/\Q v w':=by
 unfold func at h;split at h
 ·rename_i fn hfn
  split at h
  ·rename_i c hb
   split at h
   ·exact h.elim
   ·rename_i LS
    refine CallsIn.calls (F:=kn none) (n:=0) (callsIn_of_wp_marks (F:=kn none) hfn hb trivial ?_) (λk=>aA1 none k);have Hh:dn w0 F [] ((bx [] args).toArray++Array.replicate (fn.ntmps-(bx [] args).toArray.size) undef).size {G:=GR 0 args .leaf,L:=[],nb:=0,aD:=[],b4:=w0,bj:=[],a1:=[]} {tmps:=(bx [] args).toArray++Array.replicate (fn.ntmps-(bx [] args).toArray.size) undef,defers:=[]} w0:=
     ⟨alB _ RQ,rfl,⟨rfl,λaD hD=>(by cases hD),λq hq=>(by cases hq),rfl,F'⟩,λk l hl=>by simp at hl,λk l hl=>by simp at hl,λj k l m hl=>by simp at hl,cL _,λk l _ hl=>by simp at hl,dV.refl _ _,⟨rfl,rfl,rfl,cL _,λ_ _ _=>rfl⟩,λb hb=>by cases hb⟩
    have bQ:∀{s':bU} {b6:Act} {w':World},dn w0 F [] ((bx [] args).toArray++Array.replicate (fn.ntmps-(bx [] args).toArray.size) undef).size s' b6 w'->finish P w0 F fn Q s'->
      LeavesInM (kn none) 0 P fn b6.tmps (λe w'=>∃v,e= .returned v/\U F w0 w'/\Q v w') b6.defers .returning w':=λ{s' b6 w'} aK bk=>by
     unfold finish at bk;split at bk
     ·rename_i vs hvs
      rw[aK.hd.defers];refine aep s'.bj w' aK.hd.Uh (λaD hD=>(aK.hd.marks aD hD).2) λad e1 e2 e3 e4 eu=>?_
      have SG:∀b∈a6 s'.L,b∉s'.bj:=λb hb hm=>by
       obtain⟨j,m,zG,rfl⟩:=q6 hb;have:=(aK.eI j m zG).1;unfold Whole at this;rw[(aK.hd.marks _ hm).2] at this;cases this
      have hk3:U F w0 ad:=⟨e1.trans aK.ax.os,e2.trans aK.ax.tape,e3.trans aK.ax.output,by rw[e4];exact aK.ax.size,λi h1 h2=>by
       rw[eu i λhi=>absurd (aK.hd.marks i hi).1 M]
       exact aK.ax.heap i h1 h2⟩
      have k3:dn w0 F [] ((bx [] args).toArray++Array.replicate (fn.ntmps-(bx [] args).toArray.size) undef).size {G:=s'.G,L:=s'.L,nb:=s'.L.length,aD:=[],b4:=ad,bj:=[],a1:=s'.a1} {b6 with defers:=[]} ad:=by
       refine⟨aK.env,aK.size,⟨rfl,λaD hD=>(by cases hD),λq hq=>(by cases hq),aK.hd.Aa,F'⟩,aK.cells,λj m hm=>⟨?_,(aK.eI j m hm).2⟩,aK.apart,cL _,λj m hj hm=>?_,dV.refl _ _,hk3,λb hb=>by cases hb⟩
       ·unfold Whole
        rw[eu _ (SG _ (T8 hm))];exact(aK.eI j m hm).1
       ·have zG:s'.L[j]? =some m:=hm
        have lX:s'.L.length<=j:=hj;rw[nu lX] at zG;cases zG
      have hgr:dV s'.b4 (s'.bj++s'.aD) ad:=⟨e1.trans aK.grow.os,e2.trans aK.grow.tape,e3.trans aK.grow.output,by rw[e4];exact aK.grow.size,λi h1 h2=>by
       rw[eu i λhi=>h2 (pd _ hi)]
       exact aK.grow.heap i h1 λhi=>h2 (vJ _ hi)⟩
      have Ms:sO P {G:=s'.G,L:=s'.L,nb:=s'.L.length,aD:=[],b4:=ad,bj:=[],a1:=s'.a1} fn.results.toList=some vs:=by
       rw[<-hvs];refine Up (s:=s') (aX:={G:=s'.G,L:=s'.L,nb:=s'.L.length,aD:=[],b4:=ad,bj:=[],a1:=s'.a1}) ?_ ?_ _<;>rfl
      exact⟨_,auU k3 Ms,_,rfl,hk3,TT k3 (bk ad hgr.grow hk3)⟩
     ·exact bk.elim
    refine wpIn_mono (akO hm loops me c (gJ:=none) (ig:=0) (R:=λe a w=>match e with
     | .exit _=>False
     |_=>LeavesInM (kn none) 0 P fn a.tmps (λe w'=>∃v,e= .returned v/\U F w0 w'/\Q v w') a.defers .returning w) (.inl rfl) (ajl ej c LS) Hh h ?_) ?_
    ·intro e s' b6 w' a8 aK _ _
     cases e with
     |normal=>exact bQ aK a8
     |ret=>exact bQ aK a8
     |exit i=>exact a8
    ·intro e a w hq
     cases e with
     |normal=>exact hq
     |ret=>exact hq
     |exit i=>exact hq.elim
     |_=>exact hq.elim
  ·exact h.elim
 ·exact h.elim
end Go.Sy
namespace Go.Sy
open Go.RowKit (Below)
def bI(P:Program)(f:FuncId)(args:Array Value)(w:World)(F:Nat->Prop)(Q:Value->World->Prop):Prop:=
 Calls P f args w λe w'=>∃v,e= .returned v/\U F w w'/\Q v w'
theorem abp[k7]{P:Program}(hm:P.follows .mixedOrders=true){w0:World}{F:Nat->Prop}{Q:Value->World->Prop}(loops me:List jA)(f:FuncId)(args:List aE){A:Array Value}{bj:Prop}(ha:okvs 0 args)(dJ:A=(bx [] args).toArray)
  (hN:bj=func P w0 F loops me f args Q) (h:bj):bI P f A w0 F Q:=by
 subst dJ;exact amj hm ha (hN▸h)
theorem afc(c:ph)(x:c.G):eX 0 (.agg (c.enc x)):=⟨(c.ok x).1,(c.ok x).2.1⟩
theorem bI.aH{P:Program}{f:FuncId}{args:Array Value}{w:World}{F:Nat->Prop}{Q:Value->World->Prop}{R:Ending->World->Prop}(h:bI P f args w F Q)(hR:∀v w',U F w w'->Q v w'->R (.returned v) w'):dH P f args w R:=
 ⟨h.mono λe w' ⟨v,he,hk,hq⟩=>by subst he;exact hR v w' hk hq⟩
theorem bI.mono{P:Program}{f:FuncId}{args:Array Value}{w:World}{F pZ:Nat->Prop}{Q Ze:Value->World->Prop}(h:bI P f args w F Q)(bc:∀i,F i->pZ i)(hq:∀v w',U F w w'->Q v w'->Ze v w'):bI P f args w pZ Ze:=
 Calls.mono h λe w' ⟨v,he,hk,aoP⟩=>⟨v,he,⟨hk.os,hk.tape,hk.output,hk.size,λi h1 h2=>hk.heap i h1 λaw=>h2 (bc i aw)⟩,hq v w' hk aoP⟩
def bg(_:Nat):Prop:=False
theorem U.kept{lo:Nat}{F pZ:Nat->Prop}{bs:List Nat}{w w':World}(h:U pZ w w')(h1:∀i,pZ i->i<lo->F i)(h2:∀i,pZ i->lo<=i->i∉bs):eC lo F bs w w':=
 ⟨h.os,h.tape,h.output,h.size,λi a b c=>h.heap i b λd=>c (h1 i d a),λi a b c=>h.heap i c λd=>h2 i d b a⟩
theorem U.O{lo:Nat}{F:Nat->Prop}{bs:List Nat}{w w':World}(h:U bg w w'):eC lo F bs w w':=h.kept (λ_ h=>h.elim) (λ_ h=>h.elim)
theorem U.ap9{lo:Nat}{F pZ:Nat->Prop}{w w':World}(h:U pZ w w')(h1:∀i,pZ i->i<lo->F i):eC lo F [] w w':=h.kept h1 (λ_ _ _=>by simp)
theorem U.refl(F:Nat->Prop)(w:World):U F w w:=⟨rfl,rfl,rfl,cL _,λ_ _ _=>rfl⟩
theorem U.trans{F:Nat->Prop}{a b c:World}(h:U F a b)(k:U F b c):U F a c:=
 ⟨k.os.trans h.os,k.tape.trans h.tape,k.output.trans h.output,ek h.size k.size,λi h1 h2=>(k.heap i (gp h1 h.size) h2).trans (h.heap i h1 h2)⟩
theorem U.mono{F pZ:Nat->Prop}{w w':World}(h:U F w w')(bc:∀i,F i->pZ i):U pZ w w':=⟨h.os,h.tape,h.output,h.size,λi h1 h2=>h.heap i h1 λaw=>h2 (bc i aw)⟩
theorem U.below{w w':World}(h:U bg w w'):Below w.heap.size w w':=⟨h.os,h.tape,h.output,h.size,λi hi=>h.heap i hi id⟩
theorem Below.ax{w w':World}(h:Below w.heap.size w w')(F:Nat->Prop):U F w w':=⟨h.os,h.tape,h.output,h.size,λi hi _=>h.block i hi⟩
theorem BT{P:Program}{f:FuncId}{args:Array Value}{w:World}{v:Value}(h:Calls P f args w λe w'=>e= .returned v/\Below w.heap.size w w'):bI P f args w bg λu _=>u=v:=
 h.mono λ_ _ ⟨he,hb⟩=>⟨v,he,Below.ax hb bg,rfl⟩
theorem bI.below{P:Program}{f:FuncId}{args:Array Value}{w:World}{v:Value}(h:bI P f args w bg λu _=>u=v):Calls P f args w λe w'=>e= .returned v/\Below w.heap.size w w':=
 Calls.mono h λ_ _ ⟨_,he,hk,ah⟩=>⟨by rw[he,ah],hk.below⟩
theorem At.below{w w':World}{a:Addr}{o:Nat}{vs:List Value}(h:At w a o vs)(hb:Below w.heap.size w w'):At w' a o vs:=by
 intro i v ah;have h1:=h i v ah;rw[<-h1];exact World.cell?_of_block (hb.block _ (World.block_lt_of_cell? w _ h1))
theorem At.ax{w w':World}{a:Addr}{o:Nat}{vs:List Value}{F:Nat->Prop}(h:At w a o vs)(hk:U F w w')(bc:¬F a.block):At w' a o vs:=by
 intro i v ah;have h1:=h i v ah;have hb:(a.add (o+i)).block=a.block:=by unfold Addr.add;split<;>rfl
 rw[<-h1];exact World.cell?_of_block (hk.heap _ (World.block_lt_of_cell? w _ h1) (by rw[hb];exact bc))
theorem At.sub{w:World}{a:Addr}{o:Nat}{vs cj:List Value}(h:At w a o vs)(j:Nat)(hu:cj=(vs.drop j).take cj.length):At w a (o+j) cj:=by
 intro i v ah;have:vs[j+i]? =some v:=by
  rw[hu,uD] at ah;split at ah
  ·rwa[s9] at ah
  ·cases ah
 have:=h (j+i) v this;rwa[<-Nat.add_assoc] at this
theorem At.cw{w:World}{a:Addr}{o:Nat}{vs:List Value}{v:Value}(h:At w a o vs)(j:Nat)(ah:vs[j]? =some v):At w a (o+j) [v]:=by
 intro i u hu;cases i with
 |zero=>cases hu;exact h j _ ah
 |succ i=>simp at hu
end Go.Sy
namespace Go.Rep
open Go.RowKit
structure jO where
 (k i r g b:Int)
 deriving DecidableEq
structure aT where
 (f b:jO) (eo:Int)
 deriving DecidableEq
structure bC where
 (r hZ fE fQ w:Int) (p:aT)
 deriving DecidableEq
abbrev jO.T(c:jO):Array Value:=#[.int .i64 c.k, .int .u8 c.i, .int .u8 c.r, .int .u8 c.g, .int .u8 c.b]
abbrev aT.T(p:aT):Array Value:=#[.int .i64 p.f.k, .int .u8 p.f.i, .int .u8 p.f.r, .int .u8 p.f.g, .int .u8 p.f.b, .int .i64 p.b.k, .int .u8 p.b.i, .int .u8 p.b.r, .int .u8 p.b.g, .int .u8 p.b.b, .int .u8 p.eo]
abbrev bC.T(c:bC):Array Value:=#[.int .i32 c.r, .int .i32 c.hZ, .int .i32 c.fE, .int .i32 c.fQ, .int .i64 c.w, .int .i64 c.p.f.k, .int .u8 c.p.f.i, .int .u8 c.p.f.r, .int .u8 c.p.f.g, .int .u8 c.p.f.b, .int .i64 c.p.b.k, .int .u8 c.p.b.i, .int .u8 c.p.b.r, .int .u8 c.p.b.g, .int .u8 c.p.b.b, .int .u8 c.p.eo]
def gR(l:List bC):List Value:=(l.map λc=>c.T.toList).flatten
theorem aaE:gR []=[]:=rfl
theorem DQ(c:bC)(l:List bC):gR (c::l)=c.T.toList++gR l:=rfl
theorem Q4(l m:List bC):gR (l++m)=gR l++gR m:=by simp[gR]
theorem xI(l:List bC):(gR l).length=l.length*16:=by
 induction l with
 |nil=>rfl
 |cons c l ih=>rw[DQ,gh,ih];show 16+l.length*16=(l.length+1)*16;omega
theorem K3(l:List bC)(k:Nat):(gR l).drop (k*16)=gR (l.drop k):=by
 induction k generalizing l with
 |zero=>rw[Dv];rfl
 |succ k ih=>
  cases l with
  |nil=>simp[aaE]
  |cons c l=>
   rw[DQ,show(k+1)*16=16+k*16 by omega,<-vH];exact ih l
theorem K5(l:List bC)(k:Nat):(gR l).take (k*16)=gR (l.take k):=by
 induction k generalizing l with
 |zero=>rw[Dv];rfl
 |succ k ih=>
  cases l with
  |nil=>simp[aaE]
  |cons c l=>
   rw[DQ,show(k+1)*16=16+k*16 by omega,xj,jh (JR 16 _)];show c.T.toList++(gR l).take (16+k*16-16)=c.T.toList++gR (l.take k);rw[show 16+k*16-16=k*16 by omega,ih]
theorem K4(l:List bC):∀u∈gR l,u.oneCell'=true:=by
 induction l with
 |nil=>intro u hu;cases hu
 |cons c l ih=>
  intro u hu;rw[DQ,gi] at hu;rcases hu with hu|hu
  ·simp only[e7,ns,nt] at hu
   rcases hu with rfl|rfl|rfl|rfl|rfl|rfl|rfl|rfl|rfl|rfl|rfl|rfl|rfl|rfl|rfl|rfl<;>rfl
  ·exact ih u hu
structure ck where
 (aB:ao) (cap:Nat) (cs:List bC) (cU:Bool)
abbrev ck.T(l:ck):Array Value:=#[.slice l.aB l.cs.length l.cap, .bool l.cU]
def dR(ab:List ck):List Value:=(ab.map λl=>l.T.toList).flatten
theorem x2(l:ck)(ab:List ck):dR (l::ab)=l.T.toList++dR ab:=rfl
theorem Hw(l m:List ck):dR (l++m)=dR l++dR m:=by simp[dR]
theorem wv(ab:List ck):(dR ab).length=ab.length*2:=by
 induction ab with
 |nil=>rfl
 |cons c l ih=>rw[x2,gh,ih];show 2+l.length*2=(l.length+1)*2;omega
theorem R6(ab:List ck):∀u∈dR ab,u.oneCell'=true:=by
 induction ab with
 |nil=>intro u hu;cases hu
 |cons c l ih=>
  intro u hu;rw[x2,gi] at hu;rcases hu with hu|hu
  ·simp only[e7,ns,nt] at hu
   rcases hu with rfl|rfl<;>rfl
  ·exact ih u hu
structure n7 where
 (p:ao) (n c:Nat)
def jO.bN:Sy.ph:=⟨jO,5,λx=>[.int .i64 x.k, .int .u8 x.i, .int .u8 x.r, .int .u8 x.g, .int .u8 x.b],λx=>⟨by repeat' (first|trivial|constructor),rfl,rfl⟩⟩
def aT.bN:Sy.ph:=⟨aT,11,λx=>[.int .i64 x.f.k, .int .u8 x.f.i, .int .u8 x.f.r, .int .u8 x.f.g, .int .u8 x.f.b, .int .i64 x.b.k, .int .u8 x.b.i, .int .u8 x.b.r, .int .u8 x.b.g, .int .u8 x.b.b, .int .u8 x.eo],λx=>⟨by repeat' (first|trivial|constructor),rfl,rfl⟩⟩
def bC.bN:Sy.ph:=⟨bC,16,λx=>[.int .i32 x.r, .int .i32 x.hZ, .int .i32 x.fE, .int .i32 x.fQ, .int .i64 x.w, .int .i64 x.p.f.k, .int .u8 x.p.f.i, .int .u8 x.p.f.r, .int .u8 x.p.f.g, .int .u8 x.p.f.b, .int .i64 x.p.b.k, .int .u8 x.p.b.i, .int .u8 x.p.b.r, .int .u8 x.p.b.g, .int .u8 x.p.b.b, .int .u8 x.p.eo],λx=>⟨by repeat' (first|trivial|constructor),rfl,rfl⟩⟩
structure fJ where
 an:Int
 ai:Int
 cl:Int
abbrev fJ.T(x:fJ):Array Value:=#[.int .i64 x.an, .int .i64 x.ai, .int .i64 x.cl]
def fJ.bN:Sy.ph:=⟨fJ,3,λx=>[.int .i64 x.an, .int .i64 x.ai, .int .i64 x.cl],λx=>⟨by repeat' (first|trivial|constructor),rfl,rfl⟩⟩
structure Cu where
 row:Int
 ae:Int
 dC:Bool
 deriving DecidableEq
abbrev Cu.T(x:Cu):Array Value:=#[.int .i64 x.row, .int .i64 x.ae, .bool x.dC]
def Cu.bN:Sy.ph:=⟨Cu,3,λx=>[.int .i64 x.row, .int .i64 x.ae, .bool (.ok x.dC)],λx=>⟨by repeat' (first|trivial|constructor),rfl,rfl⟩⟩
structure dz where
 bf:Int
 b7:Int
abbrev dz.T(x:dz):Array Value:=#[.int .i64 x.bf, .int .i64 x.b7]
def dz.bN:Sy.ph:=⟨dz,2,λx=>[.int .i64 x.bf, .int .i64 x.b7],λx=>⟨by repeat' (first|trivial|constructor),rfl,rfl⟩⟩
structure dy where
 an:Int
 ai:Int
 aq:dz
 fy:Bool
abbrev dy.T(x:dy):Array Value:=#[.int .i64 x.an, .int .i64 x.ai, .int .i64 x.aq.bf, .int .i64 x.aq.b7, .bool x.fy]
def dy.bN:Sy.ph:=⟨dy,5,λx=>[.int .i64 x.an, .int .i64 x.ai, .int .i64 x.aq.bf, .int .i64 x.aq.b7, .bool (.ok x.fy)],λx=>⟨by repeat' (first|trivial|constructor),rfl,rfl⟩⟩
structure Md where
 jR:Bool
 fy:Bool
 jL:Bool
 qN:Bool
 gF:Bool
 qB:Bool
 qL:Bool
 ptr:Int
 gP:Int
 deriving DecidableEq
abbrev Md.T(x:Md):Array Value:=#[.bool x.jR, .bool x.fy, .bool x.jL, .bool x.qN, .bool x.gF, .bool x.qB, .bool x.qL, .int .i64 x.ptr, .int .i64 x.gP]
def Md.bN:Sy.ph:=⟨Md,9,λx=>[.bool (.ok x.jR), .bool (.ok x.fy), .bool (.ok x.jL), .bool (.ok x.qN), .bool (.ok x.gF), .bool (.ok x.qB), .bool (.ok x.qL), .int .i64 x.ptr, .int .i64 x.gP],λx=>⟨by repeat' (first|trivial|constructor),rfl,rfl⟩⟩
structure gX where
 aR:Int
 g1:Int
 gO:Int
abbrev gX.T(x:gX):Array Value:=#[.int .i64 x.aR, .int .i64 x.g1, .int .i64 x.gO]
def gX.bN:Sy.ph:=⟨gX,3,λx=>[.int .i64 x.aR, .int .i64 x.g1, .int .i64 x.gO],λx=>⟨by repeat' (first|trivial|constructor),rfl,rfl⟩⟩
structure eL where
 az:Cu
 p:aT
 fy:Bool
 cs:gX
abbrev eL.T(x:eL):Array Value:=#[.int .i64 x.az.row, .int .i64 x.az.ae, .bool x.az.dC, .int .i64 x.p.f.k, .int .u8 x.p.f.i, .int .u8 x.p.f.r, .int .u8 x.p.f.g, .int .u8 x.p.f.b, .int .i64 x.p.b.k, .int .u8 x.p.b.i, .int .u8 x.p.b.r, .int .u8 x.p.b.g, .int .u8 x.p.b.b, .int .u8 x.p.eo, .bool x.fy, .int .i64 x.cs.aR, .int .i64 x.cs.g1, .int .i64 x.cs.gO]
def eL.bN:Sy.ph:=⟨eL,18,λx=>[.int .i64 x.az.row, .int .i64 x.az.ae, .bool (.ok x.az.dC), .int .i64 x.p.f.k, .int .u8 x.p.f.i, .int .u8 x.p.f.r, .int .u8 x.p.f.g, .int .u8 x.p.f.b, .int .i64 x.p.b.k, .int .u8 x.p.b.i, .int .u8 x.p.b.r, .int .u8 x.p.b.g, .int .u8 x.p.b.b, .int .u8 x.p.eo, .bool (.ok x.fy), .int .i64 x.cs.aR, .int .i64 x.cs.g1, .int .i64 x.cs.gO],λx=>⟨by repeat' (first|trivial|constructor),rfl,rfl⟩⟩
structure gx where
 cells:n7
 cU:Bool
abbrev gx.T(x:gx):Array Value:=#[.slice x.cells.p x.cells.n x.cells.c, .bool x.cU]
def gx.bN:Sy.ph:=⟨gx,2,λx=>[.cJ x.cells.p x.cells.n x.cells.c, .bool (.ok x.cU)],λx=>⟨by repeat' (first|trivial|constructor),rfl,rfl⟩⟩
structure ff where
 kind:Int
 rune:Int
 pre:Int
 bS:List UInt8
 fw:n7
 cE:List UInt8
abbrev ff.T(x:ff):Array Value:=#[.int .i64 x.kind, .int .i32 x.rune, .int .i32 x.pre, .string ⟨x.bS.toArray⟩, .slice x.fw.p x.fw.n x.fw.c, .string ⟨x.cE.toArray⟩]
def ff.bN:Sy.ph:=⟨ff,6,λx=>[.int .i64 x.kind, .int .i32 x.rune, .int .i32 x.pre, .str x.bS, .cJ x.fw.p x.fw.n x.fw.c, .str x.cE],λx=>⟨by repeat' (first|trivial|constructor),rfl,rfl⟩⟩
structure ly where
 lines:n7
 ai:Int
 first:Int
 dD:Int
 cl:Int
 az:Cu
 bA:Md
 bV:aT
 jU:List UInt8
abbrev ly.T(x:ly):Array Value:=#[.slice x.lines.p x.lines.n x.lines.c, .int .i64 x.ai, .int .i64 x.first, .int .i64 x.dD, .int .i64 x.cl, .int .i64 x.az.row, .int .i64 x.az.ae, .bool x.az.dC, .bool x.bA.jR, .bool x.bA.fy, .bool x.bA.jL, .bool x.bA.qN, .bool x.bA.gF, .bool x.bA.qB, .bool x.bA.qL, .int .i64 x.bA.ptr, .int .i64 x.bA.gP, .int .i64 x.bV.f.k, .int .u8 x.bV.f.i, .int .u8 x.bV.f.r, .int .u8 x.bV.f.g, .int .u8 x.bV.f.b, .int .i64 x.bV.b.k, .int .u8 x.bV.b.i, .int .u8 x.bV.b.r, .int .u8 x.bV.b.g, .int .u8 x.bV.b.b, .int .u8 x.bV.eo, .string ⟨x.jU.toArray⟩]
def ly.bN:Sy.ph:=⟨ly,29,λx=>[.cJ x.lines.p x.lines.n x.lines.c, .int .i64 x.ai, .int .i64 x.first, .int .i64 x.dD, .int .i64 x.cl, .int .i64 x.az.row, .int .i64 x.az.ae, .bool (.ok x.az.dC), .bool (.ok x.bA.jR), .bool (.ok x.bA.fy), .bool (.ok x.bA.jL), .bool (.ok x.bA.qN), .bool (.ok x.bA.gF), .bool (.ok x.bA.qB), .bool (.ok x.bA.qL), .int .i64 x.bA.ptr, .int .i64 x.bA.gP, .int .i64 x.bV.f.k, .int .u8 x.bV.f.i, .int .u8 x.bV.f.r, .int .u8 x.bV.f.g, .int .u8 x.bV.f.b, .int .i64 x.bV.b.k, .int .u8 x.bV.b.i, .int .u8 x.bV.b.r, .int .u8 x.bV.b.g, .int .u8 x.bV.b.b, .int .u8 x.bV.eo, .str x.jU],λx=>⟨by repeat' (first|trivial|constructor),rfl,rfl⟩⟩
structure tj where
 kind:Int
 id:List UInt8
 cE:List UInt8
abbrev tj.T(x:tj):Array Value:=#[.int .i64 x.kind, .string ⟨x.id.toArray⟩, .string ⟨x.cE.toArray⟩]
def tj.bN:Sy.ph:=⟨tj,3,λx=>[.int .i64 x.kind, .str x.id, .str x.cE],λx=>⟨by repeat' (first|trivial|constructor),rfl,rfl⟩⟩
end Go.Rep
namespace Go.Proofs.YtimbpmnbbfeogaaGreatDoor
abbrev X.VM:=3
abbrev X.VO:=4
abbrev X.VT:=5
abbrev X.Jg:=6
abbrev X.q_:=7
abbrev X.Bs:=8
abbrev X.VN:=9
abbrev X.Fw:=10
abbrev X.wW:=11
abbrev X.WL:=15
abbrev X.Ox:=16
abbrev X.Ow:=17
abbrev X.Ov:=18
abbrev X.VS:=19
abbrev X.KV:=20
abbrev X.VU:=21
abbrev X.FJ:=23
abbrev X.Vv:=24
abbrev X.W6:=25
abbrev X.Jp:=26
abbrev X.Uv:=27
abbrev X.NW:=28
abbrev X.WM:=29
abbrev X.NX:=30
abbrev X.W5:=31
abbrev X.Vu:=32
abbrev X.Vs:=33
abbrev X.OF:=34
abbrev X.HC:=35
abbrev X.Vt:=36
abbrev X.NY:=37
abbrev X.Vw:=38
abbrev X.Vy:=39
abbrev X.Vx:=40
abbrev X.VQ:=41
abbrev X.WK:=42
abbrev X.N1:=43
abbrev X.Sc:=44
abbrev X.Jd:=45
abbrev X.WU:=46
abbrev X.CU:=47
abbrev X.vA:=48
abbrev X.Vz:=49
abbrev X.W4:=50
abbrev X.W7:=51
abbrev X.LW:=52
abbrev X.FP:=53
abbrev X.OI:=54
abbrev X.OH:=55
abbrev X.Sb:=56
abbrev X.Oc:=57
abbrev X.Sd:=58
abbrev X.P':=59
abbrev X.Lu:=60
abbrev X.zB:=61
abbrev X.NP:=62
abbrev X.Wt:=63
abbrev X.VR:=64
abbrev X.Wm:=65
abbrev X.CB:=66
abbrev X.Vc:=67
abbrev X.P8:=68
abbrev X.WC:=69
abbrev X.I4:=70
abbrev X.MP:=71
abbrev X.Jb:=72
abbrev X.WV:=73
abbrev X.yz:=74
abbrev X.CV:=75
abbrev X.Ab:=76
abbrev X.Uy:=77
abbrev X.Ux:=78
abbrev X.Uw:=79
abbrev X.Jv:=80
abbrev X.U5:=81
abbrev X.mN:=82
abbrev X.VA:=83
abbrev X.VK:=84
abbrev X.VH:=85
abbrev X.VG:=86
abbrev X.VE:=87
abbrev X.VD:=88
abbrev X.Va:=89
abbrev X.Ve:=90
abbrev X.Fe:=91
abbrev X.p6:=92
abbrev X.Ry:=93
abbrev X.D4:=94
abbrev X.Is:=95
abbrev X.Vb:=96
abbrev X.stringslite_Clone:=97
abbrev X.VP:=98
abbrev X.Wn:=99
abbrev X.Rz:=100
abbrev X.WJ:=101
abbrev X.Ju:=102
abbrev X.Nh:=103
abbrev X.WW:=104
abbrev X.Ni:=105
abbrev X.Ut:=106
abbrev X.Nf:=107
abbrev X.NN:=108
abbrev X.uf:=109
abbrev X.U7:=110
abbrev X.U6:=111
abbrev X.KS:=112
abbrev X.uw:=113
abbrev X.oI:=114
abbrev X.Fs:=115
abbrev X.UB:=116
abbrev X.Ft:=117
abbrev X.UD:=118
abbrev X.N3:=119
abbrev X.C':=120
abbrev X.UC:=121
abbrev X.MV:=122
abbrev X.Jf:=123
abbrev X.Ao:=124
abbrev X.yo:=125
abbrev X.QH:=126
abbrev X.KR:=127
abbrev X.KT:=128
abbrev X.Je:=129
abbrev X.wV:=130
abbrev X.Fu:=131
abbrev X.WI:=132
abbrev X.Fp:=133
abbrev X.U2:=134
abbrev X.qJ:=135
abbrev X.Ef:=136
abbrev X.VL:=137
abbrev X.N0:=138
abbrev X.VI:=139
abbrev X.VC:=140
abbrev X.WO:=141
abbrev X.Aj:=142
abbrev X.I6:=143
abbrev X.Wb:=144
abbrev X.FA:=145
abbrev X.Wd:=146
abbrev X.Lv:=147
abbrev X.Uu:=148
abbrev X.rO:=149
abbrev X.Ng:=150
abbrev X.Ue:=151
abbrev X.strconv_Itoa:=152
abbrev X.MO:=153
abbrev X.DP:=154
abbrev X.FQ:=155
abbrev X.E0:=156
abbrev X.G5:=157
abbrev X.KP:=158
abbrev X.QE:=159
abbrev X.G7:=160
abbrev X.IY:=161
abbrev X.Ap:=162
abbrev X.wa:=163
abbrev X.uS:=164
abbrev X.QF:=165
abbrev X.mf:=166
abbrev X.D2:=167
abbrev X.yp:=168
abbrev X.WE:=169
abbrev X.WG:=170
abbrev X.IE:=171
abbrev X.C_:=172
abbrev X.U1:=173
abbrev X.NZ:=174
abbrev X.Oe:=175
abbrev X.GH:=176
abbrev X.Vn:=177
abbrev X.P9:=178
abbrev X.C9:=179
abbrev X.FI:=180
abbrev X.NL:=181
abbrev X.NJ:=182
abbrev X.U':=183
abbrev X.T_:=184
abbrev X.N2:=185
abbrev X.Fq:=186
abbrev X.qA:=187
abbrev X.Uc:=188
abbrev X.T':=189
abbrev X.Ua:=190
abbrev X.Ub:=191
abbrev X.MU:=192
abbrev X.Wu:=193
abbrev X.VJ:=194
abbrev X.I3:=195
abbrev X.WD:=196
abbrev X.WH:=197
abbrev X.VB:=198
abbrev X.WQ:=199
abbrev X.aho:=200
abbrev X.strings_Cut:=201
abbrev X.strings_Split:=202
abbrev X.strings_CutPrefix:=203
abbrev X.Oz:=204
abbrev X.w3:=205
abbrev X.Wf:=206
abbrev X.Wp:=207
abbrev X.MQ:=209
abbrev X.MT:=210
abbrev X.MS:=211
abbrev X.Wl:=212
abbrev X.AB:=213
abbrev X.oQ:=214
abbrev X.G8:=215
abbrev X.u4:=216
abbrev X.KO:=217
abbrev X.Fv:=218
abbrev X.BV:=219
abbrev X.EZ:=220
abbrev X.D3:=221
abbrev X.BW:=222
abbrev X.Ud:=223
abbrev X.Ot:=224
abbrev X.EO:=225
abbrev X.NK:=226
abbrev X.Se:=227
abbrev X.Jc:=228
abbrev X.Vo:=229
abbrev X.I5:=230
abbrev X.zq:=231
abbrev X.MR:=232
abbrev X.P_:=233
abbrev X.Gt:=234
abbrev X.MX:=235
abbrev X.MW:=236
abbrev X.Wv:=237
abbrev X.Wx:=238
abbrev X.Wy:=239
abbrev X.Fo:=240
abbrev X.Rb:=241
abbrev X.Q':=242
abbrev X.Rc:=243
abbrev X.Ra:=244
abbrev X.Rk:=245
abbrev X.VF:=246
abbrev X.ahi:=247
abbrev X.ahf:=248
abbrev X.Oy:=257
abbrev X.Ql:=258
abbrev X.vB:=260
abbrev X.G9:=261
abbrev X.Nl:=262
abbrev X.Sg:=263
abbrev X.Sf:=264
abbrev X.U3:=265
abbrev X.Od:=266
abbrev X.Ks:=267
abbrev X.Kr:=268
abbrev X.Kq:=269
abbrev X.On:=270
abbrev X.BG:=271
abbrev X.GP:=272
abbrev X.GU:=273
abbrev X.BI:=274
abbrev X.GS:=275
abbrev X.Rl:=276
abbrev X.strings_IndexByte:=293
abbrev X.Qm:=295
abbrev X.Wo:=300
abbrev X.EY:=301
abbrev X.Nk:=302
abbrev X.It:=303
abbrev X.Vd:=304
abbrev X.G6:=305
abbrev X.Ww:=306
abbrev X.GV:=307
abbrev X.QG:=330
abbrev X.N_:=331
abbrev X.Wg:=332
abbrev X.Wh:=333
abbrev X.Vf:=334
abbrev X.Wa:=344
abbrev X.We:=345
abbrev X.Wc:=346
abbrev G.int:=3
abbrev G.bool:=4
abbrev G.eY:=5
abbrev G.string:=9
abbrev G.ft:=21
abbrev G.im:=23
abbrev G.Fl:=24
abbrev G.PH:=29
abbrev G.j8:=32
abbrev G.bR:=34
abbrev G.h_:=36
abbrev G.rV:=39
abbrev G.b_:=42
abbrev G.jX:=44
abbrev G.fg:=53
abbrev G.P2:=54
abbrev G.Cell:=56
abbrev G.ew:=75
abbrev G.CT:=89
abbrev G.k1:=91
abbrev G.mo:=95
abbrev G.fO:=97
abbrev G.Region:=114
abbrev G.vQ:=119
abbrev G.hO:=121
abbrev G.fi:=124
abbrev G.OG:=127
abbrev G.LX:=142
abbrev G.fI:=164
abbrev G.ma:=174
abbrev G.Lt:=176
abbrev G.Ai:=181
abbrev G.Oq:=186
abbrev G.p3:=220
abbrev G.qz:=224
abbrev G.N':=285
abbrev G.error:=321
abbrev G.qd:=346
abbrev G.Zl:=402
abbrev Y.QJ:=0
abbrev Y.Xg:=1
abbrev Y.Xh:=2
abbrev Y.QI:=3
abbrev Y.ID:=4
abbrev Y.EN:=5
abbrev Y.ahj:=6
abbrev Y.ajT:=7
abbrev Y.ahg:=8
abbrev Y.strconv_ErrSyntax:=9
abbrev Y.strconv_ErrRange:=10
abbrev Y.dZ:=15
end Go.Proofs.YtimbpmnbbfeogaaGreatDoor
namespace Go.Proofs.YtimbpmnbbfeogaaGreatDoor
open Go.Rep
instance:Sy.k7:=⟨λt=>bif Nat.beq t 39 then some jO.bN else bif Nat.beq t 42 then some aT.bN else bif Nat.beq t 56 then some bC.bN else bif Nat.beq t 23 then some fJ.bN else bif Nat.beq t 34 then some Cu.bN else bif Nat.beq t 114 then some dz.bN else bif Nat.beq t 164 then some dy.bN else bif Nat.beq t 36 then some Md.bN else bif Nat.beq t 119 then some gX.bN else bif Nat.beq t 121 then some eL.bN else bif Nat.beq t 53 then some gx.bN else bif Nat.beq t 97 then some ff.bN else bif Nat.beq t 44 then some ly.bN else bif Nat.beq t 220 then some tj.bN else none⟩
theorem mixed:Tryz.prog.follows .mixedOrders=true:=by kernel_rfl
end Go.Proofs.YtimbpmnbbfeogaaGreatDoor
namespace Go.Sy
open Go.RowKit (Below)
def aa(w0:World)(F:Nat->Prop)(w:World)(Q:Value->World->Prop)(v:Value):Prop:=∀w',Below w.heap.size w w'->U F w0 w'->Q v w'
def bn(w0:World)(F:Nat->Prop)(w:World)(cf:List Nat)(Q:Value->World->Prop)(v:Value):Prop:=∀w',dV w cf w'->U F w0 w'->Q v w'
theorem aa.of{w0:World}{F:Nat->Prop}{w:World}{Q:Value->World->Prop}{v:Value}(h:∀w',Q v w'):aa w0 F w Q v:=λw' _ _=>h w'
theorem bn.of{w0:World}{F:Nat->Prop}{w:World}{cf:List Nat}{Q:Value->World->Prop}{v:Value}(h:∀w',Q v w'):bn w0 F w cf Q v:=λw' _ _=>h w'
theorem U.dD{F:Nat->Prop}{a b c:World}(k:U F b c)(h:U F a b):U F a c:=h.trans k
theorem U.Qj{F:Nat->Prop}{a b c:World}(k:Below b.heap.size b c)(h:U F a b):U F a c:=h.trans (Below.ax k F)
end Go.Sy
namespace Go.Rep
structure dy.ok(a:dy):Prop where
 de:1<=a.an
 c1:a.an<=1000
 bY:1<=a.ai
 c2:a.ai<=1000
 t:0<=a.aq.bf
 ur:a.aq.bf<=a.aq.b7
 b:a.aq.b7<a.an
structure Cu.ok(c:Cu)(a:dy):Prop where
 de:0<=c.row
 c1:c.row<a.an
 bY:0<=c.ae
 c2:c.ae<a.ai
 p:c.dC=true->c.ae=a.ai-1
end Go.Rep
namespace Go.Proofs.YtimbpmnbbfeogaaGreatDoor
open Go Go.RowKit Go.Sy Go.Rep
def Iv:List Int:=[160,9670,9618,9225,9228,9229,9226,176,177,9252,9227,9496,9488,9484,9492,9532,9146,9147,9472,9148,9149,9500,9508,9524,9516,9474,8804,8805,960,8800,163,183]
def u2:List Int:=[66,48]
def afr:List Int:=[1000,1002,1003]
def agK:List Int:=[47,1047,1049]
def Lm:List (Int×Int):=[(1,1),(2,2),(4,3),(8,4),(16,5),(32,7),(64,8),(128,9)]
def T6:List (Int×Int):=[(768,879),(1155,1161),(1425,1469),(1552,1562),(1611,1631),(1750,1756),(3633,3633),(3636,3642),(3655,3662),(6832,6911),(7616,7679),(8203,8207),(8400,8447),(12330,12335),(12441,12442),(65024,65039),(65056,65071),(917760,917999)]
def Xf:List (Int×Int):=[(4352,4447),(9001,9002),(11904,12329),(12336,12350),(12353,12440),(12443,13311),(13312,19903),(19968,42191),(43360,43391),(44032,55203),(63744,64255),(65072,65135),(65280,65376),(65504,65510),(127744,128591),(128640,128767),(129280,129535),(131072,196605),(196608,262141)]
def C5(l:List Int):List Value:=l.map λn=> .int .i32 n
def wG(l:List Int):List Value:=l.map λn=> .int .i64 n
def rF(l:List (Int×Int)):List Value:=(l.map λp=>[.int .i32 p.1, .int .i32 p.2]).flatten
def ame(l:List (Int×Int)):List Value:=(l.map λp=>[.int .u8 p.1, .int .i64 p.2]).flatten
structure Laid(w:World):Prop where
 size:Y.dZ<=w.heap.size
 lines:At w ⟨Y.QJ,0,none⟩ 0 (C5 Iv)
 finals:At w ⟨Y.QI,0,none⟩ 0 (C5 u2)
 pointers:At w ⟨Y.ID,0,none⟩ 0 (wG afr)
 screens:At w ⟨Y.EN,0,none⟩ 0 (wG agK)
 abf:At w ⟨Y.ahj,0,none⟩ 0 (ame Lm)
 marks:At w ⟨Y.Xg,0,none⟩ 0 (rF T6)
 wide:At w ⟨Y.Xh,0,none⟩ 0 (rF Xf)
 pow:∃ty lD,w.heap[Y.ahg]? =some (.cells (Lib.pow10Tab.map λz=>Value.int .u64 z).toArray ty lD)
 o1:∃m:Int,w.cell? ⟨Y.ajT,0,none⟩=some (.int .i64 m)
 se:∃nV qC,w.cell? ⟨Y.strconv_ErrRange,0,none⟩=some (.iface nV qC)
 es:∃nV qC,w.cell? ⟨Y.strconv_ErrSyntax,0,none⟩=some (.iface nV qC)
theorem Laid.ax{w w':World}{F:Nat->Prop}(h:Laid w)(hk:U F w w')(bc:∀i,F i->Y.dZ<=i):Laid w':=
 ⟨ek h.size hk.size,h.lines.ax hk λe=>absurd (bc _ e) du,h.finals.ax hk λe=>absurd (bc _ e) du,h.pointers.ax hk λe=>absurd (bc _ e) du,h.screens.ax hk λe=>absurd (bc _ e) du,
  h.abf.ax hk λe=>absurd (bc _ e) du,h.marks.ax hk λe=>absurd (bc _ e) du,h.wide.ax hk λe=>absurd (bc _ e) du,
  (by obtain⟨ty,lD,e⟩:=h.pow;exact⟨ty,lD,(hk.heap _ (gp du h.size) λe=>absurd (bc _ e) du).trans e⟩),
  (by obtain⟨m,e⟩:=h.o1;exact⟨m,(World.cell?_of_block (hk.heap _ (gp du h.size) λe=>absurd (bc _ e) du)).trans e⟩),
  (by obtain⟨nV,qC,e⟩:=h.se;exact⟨nV,qC,(World.cell?_of_block (hk.heap _ (gp du h.size) λe=>absurd (bc _ e) du)).trans e⟩),
  (by obtain⟨nV,qC,e⟩:=h.es;exact⟨nV,qC,(World.cell?_of_block (hk.heap _ (gp du h.size) λe=>absurd (bc _ e) du)).trans e⟩)⟩
theorem Laid.O{w w':World}(hk:U bg w w')(h:Laid w):Laid w':=h.ax hk λ_ e=>e.elim
theorem Laid.below{w w':World}(hb:Below w.heap.size w w')(h:Laid w):Laid w':=Laid.O (Go.Sy.Below.ax hb bg) h
def di(f:FuncId)(args:Array Value)(w:World)(v:Value):Prop:=bI Tryz.prog f args w bg λu _=>u=v
theorem di.aH{f:FuncId}{args:Array Value}{v:Value}{w:World}(h:di f args w v){R:Ending->World->Prop}(hR:∀w',U bg w w'->R (.returned v) w'):dH Tryz.prog f args w R:=
 bI.aH h λ_ w' hk hq=>by subst hq;exact hR w' hk
def Pure(f:FuncId)(args:Array Value)(v:Value):Prop:=∀w:World,Laid w->di f args w v
theorem Pure.aH{f:FuncId}{args:Array Value}{v:Value}(h:Pure f args v){w:World}(aj:Laid w){R:Ending->World->Prop}(hR:∀w',U bg w w'->Laid w'->R (.returned v) w'):dH Tryz.prog f args w R:=
 (h w aj).aH λw' hk=>hR w' hk (Laid.O hk aj)
theorem Kx(e:bL)(b:Bool):bL.val e=b↔e.g_ b:=(bL.yT e b).symm
theorem GC(e:bL){p:Prop}[Decidable p](h:e.g_ true↔p):bL.val e=decide p:=by
 rw[Kx]
 by_cases hp:p
 ·rw[l8 hp];exact h.2 hp
 ·rw[kp hp,<-Kx]
  cases ah:bL.val e with
  |false=>rfl
  |true=>exact absurd (h.1 ((Kx e true).1 ah)) hp
theorem cF(a b:Int):bL.val (.lt a b)=decide (a<b):=GC _ Iff.rfl
theorem cD(a b:Int):bL.val (.le a b)=decide (a<=b):=GC _ Iff.rfl
theorem cb(a b:Int):bL.val (.eq a b)=decide (a=b):=GC _ Iff.rfl
theorem cv(b:Bool):bL.val (.ok b)=b:=by
 rw[Kx];cases b<;>rfl
theorem cG(e:bL):bL.val (.fF e)= !bL.val e:=bL.ae8 e
end Go.Proofs.YtimbpmnbbfeogaaGreatDoor
namespace Go.Sy
open Go.RowKit (Below)
abbrev dQ(c:Bool)(p q:Prop):Prop:=(c=true->p)/\(c=false->q)
abbrev gL(c:Bool)(p q:Prop):Prop:=(c=false->p)/\(c=true->q)
abbrev a'{eg:Type}(a b:eg)(p q:Prop):Prop:=(a=b->p)/\(a≠b->q)
abbrev bG(a b:Int)(p q:Prop):Prop:=(a<b->p)/\(b<=a->q)
abbrev dX(a b:Int)(p q:Prop):Prop:=(a<=b->p)/\(b<a->q)
abbrev bm(w:World)(k:World->Prop):Prop:=∀x,Below w.heap.size w x->k x
abbrev Pw(w0 w:World)(l:List (Nat×TypeId))(k:World->Prop):Prop:=∀x,Below w.heap.size w x->cB x w0.heap.size l->k x
abbrev aG(w:World)(k:Nat->Prop):Prop:=∀n,w.heap.size<=n->k n
abbrev bW(e:Ending)(v:Value)(w0:World)(F:Nat->Prop)(bs:List Nat)(x y:World)(q:Prop):Prop:=e=.returned v/\eC w0.heap.size F bs x y/\q
end Go.Sy
namespace Go.Proofs.YtimbpmnbbfeogaaGreatDoor
open Go Go.RowKit Go.Sy Go.Rep
abbrev ia(f:FuncId)(a:Array Value)(w:World)(k:Ending->World->Prop):Prop:=dH Tryz.prog f a w k
abbrev dt(w:World)(f:FuncId)(a:Array Value)(k:World->Ending->World->Prop):Prop:=∀x,Below w.heap.size w x->dH Tryz.prog f a x (k x)
abbrev cC(w0 w:World)(l:List (Nat×TypeId))(f:FuncId)(a:Array Value)(k:World->Ending->World->Prop):Prop:=∀x,Below w.heap.size w x->cB x w0.heap.size l->dH Tryz.prog f a x (k x)
abbrev b9(w0:World)(F:Nat->Prop)(bs:List Nat)(w:World)(f:FuncId)(a:Array Value){eg:Type}(V:eg->Value)(p:World->eg->Prop):Prop:=∀x,Below w.heap.size w x->dH Tryz.prog f a x λe y=>∃t,e=.returned (V t)/\eC w0.heap.size F bs x y/\p y t
abbrev a7(w0:World)(F:Nat->Prop)(bs:List Nat)(w:World)(l:List (Nat×TypeId))(f:FuncId)(a:Array Value){eg:Type}(V:eg->Value)(p:World->eg->Prop):Prop:=∀x,Below w.heap.size w x->cB x w0.heap.size l->dH Tryz.prog f a x λe y=>∃t,e=.returned (V t)/\eC w0.heap.size F bs x y/\p y t
abbrev aO(f:FuncId)(a:Array Value)(w0:World)(F:Nat->Prop)(Q:Value->World->Prop):Prop:=bI Tryz.prog f a w0 F Q
abbrev cn(n:Int):aE:=.int .i64 n
abbrev D(n:Int):Value:=.int .i64 n
abbrev lk:Value:=.pointer none
abbrev al(a:Addr):Value:=.pointer (some a)
abbrev ij(b:Nat):Value:=.pointer (some ⟨b,0,none⟩)
theorem eV{w0:World}{F:Nat->Prop}{Q:Value->World->Prop}(l c:List jA){f:FuncId}(a:List aE){A:Array Value}{bj:Prop}(h:bj)(ha:okvs 0 a:=by repeat' first|exact trivial|exact afc _ _|constructor)(dJ:A=(bx [] a).toArray:=by kernel_rfl)(hN:bj=func Tryz.prog w0 F l c f a Q:=by kernel_rfl):aO f A w0 F Q:=abp mixed l c f a ha dJ hN h
theorem bh{w0:World}{F:Nat->Prop}{Q:Value->World->Prop}{f:FuncId}(a:List aE){A:Array Value}{bj:Prop}(h:bj)(ha:okvs 0 a:=by repeat' first|exact trivial|exact afc _ _|constructor)(dJ:A=(bx [] a).toArray:=by kernel_rfl)(hN:bj=func Tryz.prog w0 F [] [] f a Q:=by kernel_rfl):aO f A w0 F Q:=abp mixed [] [] f a ha dJ hN h
abbrev qM(k:dy):Value:=.agg k.T
abbrev Ay(k:bC):Value:=.agg k.T
abbrev Az(k:jO):Value:=.agg k.T
abbrev awK(k:Cu):Value:=.agg k.T
abbrev Jw(k:gx):Value:=.agg k.T
abbrev OE(k:Md):Value:=.agg k.T
abbrev w8(k:aT):Value:=.agg k.T
abbrev awL(k:ly):Value:=.agg k.T
abbrev WY(k:eL):Value:=.agg k.T
variable(w0:World)(F:Nat->Prop)(Q:Value->World->Prop)
abbrev J6(a:Nat):Prop:=(0:Int)<=0/\(0:Int)<(a:Int)
abbrev y1(a:World)(b:Nat)(c:ao)(d:Nat)(e f:Int)(g:List Nat)(h:Int->Int->Int->Int->Int->Int->Int->Int->Int->Int->Int->Int->World->Prop)(i j k l m n o p q r s t:Int)(u:Int->Int->Int->Int->Int->Int->Int->Int->Int->Int->Int->Int->Nat):Prop:=a.heap.size<=b->∃v:Addr,c=(some v)/\J6 d/\∃x,At a v 0 [D x]/\a' x e (ay (f+1)/\∀y:World,dV a g y->h (f+1) i j k l m n o p q r (bits .or .u8 s t) y/\u (f+1) i j k l m n o p q r (bits .or .u8 s t)<u f i j k l m n o p q r s) (∃y:Addr,c=(some y)/\J6 d/\∃z,At a y 0 [D z]/\ay (e+20)/\a' z (e+20) (a' (bits .and .u8 t 3) 0 (ay (f+1)/\∀A:World,dV a g A->h (f+1) i j k l m n o p q r (bits .andNot .u8 s t) A/\u (f+1) i j k l m n o p q r (bits .andNot .u8 s t)<u f i j k l m n o p q r s) (ay (f+1)/\bm a λA=>h (f+1) i j k l m n o p q r s A/\u (f+1) i j k l m n o p q r s<u f i j k l m n o p q r s)) (ay (f+1)/\bm a λA=>h (f+1) i j k l m n o p q r s A/\u (f+1) i j k l m n o p q r s<u f i j k l m n o p q r s))
abbrev Gg(a:Nat)(b:World)(c:Addr):Prop:=w0.heap.size<=a/\Whole b a G.ew [al c]
abbrev Pm(a:ff)(b:List (Nat×TypeId))(c:Addr)(d:List Nat)(e f:Nat)(g:List Nat):Prop:=(¬(a.bS=[])->aa w0 F w0 Q (D 0))/\(a.bS=[]->∃h:Int->Option Addr->World->Prop,a' a.rune 55 (a7 w0 F d w0 b X.wV #[al c] D λk l=>cC w0 k b X.Je #[al c] λm n o=>∃p:eL,∃q,bW n (.tuple #[.agg p.T,D q]) w0 F d m o (((0:Int)<=l/\l<2)/\(ct o c (33+((Int.toNat l)*18)) 18/\cp w0.heap.size F [e,f] c.block)/\∀r:World,bH o [] c (33+((Int.toNat l)*18)) p.T.toList r->bm r λs=>h q (some c) s)) (a' a.rune 56 (a7 w0 F d w0 b X.wV #[al c] D λk l=>((0:Int)<=l/\l<2)/\∃m:eL,At k c (33+((Int.toNat l)*18)) m.T.toList/\a7 w0 F d k b X.Fu #[al c, .agg m.T] D λp q=>bm p λr=>h q (some c) r) (a' a.rune 68 (a7 w0 F d w0 b X.Ao #[al c] D λk l=>bm k λm=>h l (some c) m) (a' a.rune 69 (a7 w0 F d w0 b X.Ao #[al c] D λk l=>a' l 0 (∃m:Cu,At k c 4 m.T.toList/\a7 w0 F d k b X.mN #[al c] qM λp q=>At p c 4 m.T.toList/\cC w0 p b X.yo #[.agg q.T, .agg m.T] λr s t=>∃u:Cu,∃v,bW s (.tuple #[.agg u.T,D v]) w0 F d r t ((ct t c 4 3/\cp w0.heap.size F [e,f] c.block)/\∀x:World,bH t [] c 4 u.T.toList x->bm x λy=>h v (some c) y)) (bm k λm=>h l (some c) m)) (a' a.rune 72 (∃i:ao,At w0 c 29 [.pointer i]/\∃j,At w0 c 5 [D j]/\a7 w0 F d w0 b X.WI #[.pointer i,D j] D λm n=>bm m λo=>h n (some c) o) (a' a.rune 77 (∃i:ao,At w0 c 2 [.pointer i]/\bm w0 λj=>Gg w0 e j c->w0.heap.size<=f/\Whole j f G.fO a.T.toList->List.Nodup [e,f]->ia X.oI #[.pointer i, .func (.func X.Fp) #[] #[ij e]] j λk l=>∃m,bW k (D m) w0 F g j l (∃n:ao,Whole l e G.ew [.pointer n]/\bm l λo=>h m n o)) (a' a.rune 99 (∃i:ao,At w0 c 3 [.pointer i]/\cC w0 w0 b X.Ef #[.pointer i] λj k l=>bW k (.tuple #[]) w0 F d j l ((ct l c 69 1/\cp w0.heap.size F [e,f] c.block)/\∀m:World,bH l [] c 69 [.string ⟨[].toArray⟩] m->a7 w0 F d m b X.Jd #[al c] D λp q=>bm p λr=>h q (some c) r)) (bm w0 λi=>h 0 (some c) i)))))))/\∀i:Int,∀j:ao,∀k:World,U F w0 k->h i j k->aa w0 F k Q (D i))
abbrev Pr(a:Nat):Prop:=(0:Int)<=1/\(1:Int)<(a:Int)
abbrev PC(a:ly):Prop:=(0:Int)<=0/\(0:Int)<(a.lines.n:Int)
abbrev Yj(a b:World)(c:List (Nat×TypeId))(d e:Nat)(f:List Nat)(g:Nat):Prop:=Below a.heap.size a b->cB b w0.heap.size c->ia X.wW #[.slice (some ⟨d,0,none⟩) 5000 5000, .slice (some ⟨e,0,none⟩) 1 1,D 5, .slice none 0 0] b λh i=>∃j:Bool,bW h (.bool j) w0 F f b i (gL j (aa w0 F i Q (.bool false)) (∀k:World,∀l:Nat,cX i [] G.eY [.int .u8 27] k l->¬(l∈f)->∀m:World,∀n:Nat,cX k [] G.eY [.int .u8 91, .int .u8 54] m n->¬(n∈f)->∃o:Addr,(some ⟨n,0,none⟩)=(some o)/\(ct m o 0 0/\cp w0.heap.size F [g] o.block)/\∀p:World,qW m [] o p->∀q:World,∀r:Nat,cX p [] G.eY [.int .u8 110, .int .u8 120] q r->¬(r∈f)->∃s:Addr,(some ⟨r,0,none⟩)=(some s)/\(ct q s 0 0/\cp w0.heap.size F [g] s.block)/\∀t:World,qW q [] s t->∀u:World,∀v:Nat,cX t [] G.Fl [.slice (some ⟨l,0,none⟩) 1 1, .slice (some ⟨n,0,none⟩) 2 2, .slice (some ⟨r,0,none⟩) 2 2] u v->¬(v∈f)->cC w0 u c X.Bs #[.agg #[D 1,D 4,D 0], .slice (some ⟨v,0,none⟩) 3 3] λx y z=>∃A:ly,∃B:List UInt8,∃C,bW y (.tuple #[.agg A.T, .string ⟨B.toArray⟩,D C]) w0 F f x z (aG z λaD=>(C≠0->aa w0 F z Q (.bool false))/\(C=0->(¬(B=[27,91,49,59,49,82])->aa w0 F z Q (.bool false))/\(B=[27,91,49,59,49,82]->((A.lines.n:Int)≠1->aa w0 F z Q (.bool false))/\((A.lines.n:Int)=1->∃E:Addr,A.lines.p=(some E)/\PC A/\∃bT:ao,∃ak bo:Nat,At z E 0 [.slice bT ak bo]/\((ak:Int)≠4->aa w0 F z Q (.bool false))/\((ak:Int)=4->∃J:Addr,A.lines.p=(some J)/\PC A/\∃K:ao,∃L bj:Nat,At z J 0 [.slice K L bj]/\∃N:Addr,K=(some N)/\J6 L/\∃eE:bC,At z N 0 eE.T.toList/\∃P:Bool,(∀R:World,(Op.equal G.Cell (.agg eE.T) (.agg #[.int .i32 120, .int .i32 0, .int .i32 0, .int .i32 0,D 1,D 0, .int .u8 0, .int .u8 0, .int .u8 0, .int .u8 0,D 0, .int .u8 0, .int .u8 0, .int .u8 0, .int .u8 0, .int .u8 0])).run Tryz.prog R= .ok P R)/\gL P (aa w0 F z Q (.bool false)) (∃R:Addr,A.lines.p=(some R)/\PC A/\∃S:ao,∃er V:Nat,At z R 0 [.slice S er V]/\∃W:Addr,S=(some W)/\Pr er/\∃Y:bC,At z W 16 Y.T.toList/\∃a1:Bool,(∀gd:World,(Op.equal G.Cell (.agg Y.T) (.agg #[.int .i32 0, .int .i32 0, .int .i32 0, .int .i32 0,D 1,D 0, .int .u8 0, .int .u8 0, .int .u8 0, .int .u8 0,D 0, .int .u8 0, .int .u8 0, .int .u8 0, .int .u8 0, .int .u8 0])).run Tryz.prog gd= .ok a1 gd)/\gL a1 (aa w0 F z Q (.bool false)) (∀gd:World,∀fq:Nat,cX z [] G.eY [.int .u8 27, .int .u8 91, .int .u8 54, .int .u8 110, .int .u8 120] gd fq->¬(fq∈[g,aD])->∃ac:Addr,(some ⟨fq,0,none⟩)=(some ac)/\(ct gd ac 0 0/\cp w0.heap.size F [g,aD] ac.block)/\∀aB:World,qW gd [] ac aB->∀jE:World,∀kq:Nat,cX aB [] G.eY [.int .u8 1, .int .u8 2] jE kq->¬(kq∈[g,aD])->a7 w0 F [g,aD] jE [(g,G.im),(aD,G.jX)] X.Fw #[.agg #[D 1,D 4,D 0], .slice (some ⟨fq,0,none⟩) 5 5, .slice (some ⟨kq,0,none⟩) 2 2, .bool true,D 0] .bool λlz uJ=>aa w0 F lz Q (.bool uJ))))))))))
abbrev ji(a:Int)(b:World)(c:Int->World->Prop)(d:Int->Nat):Prop:=ay (a+1)/\bm b λe=>c (a+1) e/\d (a+1)<d a
abbrev Pk(a:Bool)(b:World)(c:List Nat):Prop:=a=false->bn w0 F b c Q (.tuple #[.agg #[D 0,D 0, .bool false,D 0, .int .u8 0, .int .u8 0, .int .u8 0, .int .u8 0,D 0, .int .u8 0, .int .u8 0, .int .u8 0, .int .u8 0, .int .u8 0, .bool false,D 0,D 0,D 0],D 2])
abbrev Yk(a:eL)(b:dy):Prop:=aG w0 λc=>aG w0 λd=>aG w0 λe=>a7 w0 F [c,d,e] w0 [(c,G.hO),(d,G.fI),(e,G.hO)] X.Jc #[.agg a.T] .bool λh i=>Pk w0 F Q i h [e]/\(i=true->a7 w0 F [c,d,e] h [(c,G.hO),(d,G.fI),(e,G.hO)] X.Vo #[.agg b.T] .bool λl m=>Pk w0 F Q m l [e]/\(m=true->ay (b.an-1)/\aG l λn=>dQ a.fy (ay (b.ai-1)/\dQ a.az.dC (ay (b.ai-1)/\bn w0 F l [e,c,c,c] Q (.tuple #[.agg #[D (max b.aq.bf (min a.az.row b.aq.b7)),D (min a.az.ae (b.ai-1)), .bool (bL.val (.eq (min a.az.ae (b.ai-1)) (b.ai-1))),D a.p.f.k, .int .u8 a.p.f.i, .int .u8 a.p.f.r, .int .u8 a.p.f.g, .int .u8 a.p.f.b,D a.p.b.k, .int .u8 a.p.b.i, .int .u8 a.p.b.r, .int .u8 a.p.b.g, .int .u8 a.p.b.b, .int .u8 a.p.eo, .bool a.fy,D a.cs.aR,D a.cs.g1,D a.cs.gO],D 0])) (bn w0 F l [e,c,c,c] Q (.tuple #[.agg #[D (max b.aq.bf (min a.az.row b.aq.b7)),D (min a.az.ae (b.ai-1)), .bool false,D a.p.f.k, .int .u8 a.p.f.i, .int .u8 a.p.f.r, .int .u8 a.p.f.g, .int .u8 a.p.f.b,D a.p.b.k, .int .u8 a.p.b.i, .int .u8 a.p.b.r, .int .u8 a.p.b.g, .int .u8 a.p.b.b, .int .u8 a.p.eo, .bool a.fy,D a.cs.aR,D a.cs.g1,D a.cs.gO],D 0]))) (ay (b.ai-1)/\dQ a.az.dC (ay (b.ai-1)/\bn w0 F l [e,c,c,c] Q (.tuple #[.agg #[D (max 0 (min a.az.row (b.an-1))),D (min a.az.ae (b.ai-1)), .bool (bL.val (.eq (min a.az.ae (b.ai-1)) (b.ai-1))),D a.p.f.k, .int .u8 a.p.f.i, .int .u8 a.p.f.r, .int .u8 a.p.f.g, .int .u8 a.p.f.b,D a.p.b.k, .int .u8 a.p.b.i, .int .u8 a.p.b.r, .int .u8 a.p.b.g, .int .u8 a.p.b.b, .int .u8 a.p.eo, .bool a.fy,D a.cs.aR,D a.cs.g1,D a.cs.gO],D 0])) (bn w0 F l [e,c,c,c] Q (.tuple #[.agg #[D (max 0 (min a.az.row (b.an-1))),D (min a.az.ae (b.ai-1)), .bool false,D a.p.f.k, .int .u8 a.p.f.i, .int .u8 a.p.f.r, .int .u8 a.p.f.g, .int .u8 a.p.f.b,D a.p.b.k, .int .u8 a.p.b.i, .int .u8 a.p.b.r, .int .u8 a.p.b.g, .int .u8 a.p.b.b, .int .u8 a.p.eo, .bool a.fy,D a.cs.aR,D a.cs.g1,D a.cs.gO],D 0])))))
abbrev YJ(a:Int)(b c:List UInt8)(d:World)(e f:List Nat):Prop:=ia X.Oz #[.agg #[D a, .string ⟨b.toArray⟩, .string ⟨c.toArray⟩]] d λg h=>∃i,bW g (D i) w0 F e d h ((i≠0->bn w0 F h f Q (.tuple #[.agg #[D 0, .string ⟨[].toArray⟩, .string ⟨[].toArray⟩],D i]))/\(i=0->bn w0 F h f Q (.tuple #[.agg #[D a, .string ⟨b.toArray⟩, .string ⟨c.toArray⟩],D 0])))
abbrev Yl(a:Int)(b:World)(c:List (Nat×TypeId))(d:List UInt8)(e:List Nat)(f:Nat):Prop:=a' a 8 (cC w0 b c X.strings_Cut #[.string ⟨d.toArray⟩, .string ⟨[59].toArray⟩] λg h i=>∃j k:List UInt8,∃l:Bool,bW h (.tuple #[.string ⟨j.toArray⟩, .string ⟨k.toArray⟩, .bool l]) w0 F e g i (gL l (bn w0 F i e Q (.tuple #[.agg #[D 0, .string ⟨[].toArray⟩, .string ⟨[].toArray⟩],D 6])) ((k=[]->bn w0 F i e Q (.tuple #[.agg #[D 3, .string ⟨[].toArray⟩, .string ⟨[].toArray⟩],D 0]))/\(¬(k=[])->aG i λm=>cC w0 i [(f,G.p3),(m,G.p3)] X.strings_Split #[.string ⟨j.toArray⟩, .string ⟨[58].toArray⟩] λn o p=>∃q:ao,∃r s:Nat,bW o (.slice q r s) w0 F [f,m] n p (∃t:Int->Int->List UInt8->List UInt8->World->Prop,∃u:Int->Int->List UInt8->List UInt8->Nat,(bm p λv=>t 0 2 [] k v)/\∀v x:Int,∀y z:List UInt8,∀A:World,U F w0 A->t v x y z A->bG v r (∃B:Addr,q=(some B)/\((0:Int)<=v/\v<(r:Int))/\∃C:List UInt8,At A B ((Int.toNat v)*1) [.string ⟨C.toArray⟩]/\cC w0 A [(f,G.p3),(m,G.p3)] X.strings_CutPrefix #[.string ⟨C.toArray⟩, .string ⟨[105,100,61].toArray⟩] λaD E bT=>∃ak:List UInt8,∃bo:Bool,bW E (.tuple #[.string ⟨ak.toArray⟩, .bool bo]) w0 F [f,m] aD bT (dQ bo (∀J:World,dV bT [m] J->cB J w0.heap.size [(f,G.p3),(m,G.p3)]->YJ w0 F Q x ak z J [f,m] e) (ay (v+1)/\bm bT λJ=>t (v+1) x y z J/\u (v+1) x y z<u v x y z))) (Pw w0 A [(f,G.p3),(m,G.p3)] λB=>YJ w0 F Q x y z B [f,m] e)))))) (bn w0 F b e Q (.tuple #[.agg #[D 0, .string ⟨[].toArray⟩, .string ⟨[].toArray⟩],D 9]))
abbrev Ge(a:List Nat)(b c:World)(d:Int):Prop:=eC w0.heap.size F a b c/\aa w0 F c Q (D d)
abbrev J8(a:Int)(b:World)(c:List Nat):Prop:=(1:Int)<a->bn w0 F b c Q (.tuple #[.agg #[D 0,D 0],D 3])
abbrev Yt(a:dz)(b:Int)(c:World)(d:List Nat):Prop:=dX a.b7 a.bf (J8 w0 F Q b c d/\(b<=1->bG 0 a.bf (bn w0 F c d Q (.tuple #[.agg #[D 0,D 0],D 3])) (bn w0 F c d Q (.tuple #[.agg a.T,D 0])))) (bn w0 F c d Q (.tuple #[.agg a.T,D 0]))
abbrev YE(a:dz)(b c:Int)(d:World)(e:List Nat):Prop:=dX a.b7 (b-1) (J8 w0 F Q c d e/\(c<=1->bG 0 (b-1) (bn w0 F d e Q (.tuple #[.agg #[D 0,D 0],D 3])) (bn w0 F d e Q (.tuple #[.agg #[D (b-1),D a.b7],D 0])))) (bn w0 F d e Q (.tuple #[.agg #[D (b-1),D a.b7],D 0]))
abbrev Ym(a b c:Int):Prop:=aG w0 λd=>cC w0 w0 [(d,G.Region)] X.I4 #[D a] λe f g=>∃h:dz,∃i,bW f (.tuple #[.agg h.T,D i]) w0 F [d] e g (aG g λj=>(i≠0->bn w0 F g [d] Q (.tuple #[.agg #[D 0,D 0],D i]))/\(i=0->bG 1 b (ay (b-1)/\dX 1 c (dX c a (ay (c-1)/\dX (c-1) (b-1) (J8 w0 F Q a g [d]/\(a<=1->bG 0 (b-1) (bn w0 F g [d] Q (.tuple #[.agg #[D 0,D 0],D 3])) (bn w0 F g [d] Q (.tuple #[.agg #[D (b-1),D (c-1)],D 0])))) (bn w0 F g [d] Q (.tuple #[.agg #[D (b-1),D (c-1)],D 0]))) (YE w0 F Q h b a g [d])) (YE w0 F Q h b a g [d])) (dX 1 c (dX c a (ay (c-1)/\dX (c-1) h.bf (J8 w0 F Q a g [d]/\(a<=1->bG 0 h.bf (bn w0 F g [d] Q (.tuple #[.agg #[D 0,D 0],D 3])) (bn w0 F g [d] Q (.tuple #[.agg #[D h.bf,D (c-1)],D 0])))) (bn w0 F g [d] Q (.tuple #[.agg #[D h.bf,D (c-1)],D 0]))) (Yt w0 F Q h a g [d])) (Yt w0 F Q h a g [d]))))
abbrev J1(a:World)(b:List (Nat×TypeId))(c:ff)(d:List Nat)(e:Addr)(f g:Nat):Prop:=Below w0.heap.size w0 a->cB a w0.heap.size b->ia X.KR #[.int .i32 c.rune] a λh i=>∃j k:Int,bW h (.tuple #[D j,D k]) w0 F d a i ((k≠0->aa w0 F i Q (D k))/\(k=0->∃l:gX,At i e 30 l.T.toList/\((0:Int)<=0/\(0:Int)<(c.bS.length:Int))/\ay (IntKind.wrap .u8 ((ir c.bS 0)-40))/\cC w0 i b X.KT #[.agg l.T,D (IntKind.wrap .u8 ((ir c.bS 0)-40)),D j] λm n o=>∃p:gX,∃q,bW n (.tuple #[.agg p.T,D q]) w0 F d m o ((ct o e 30 3/\cp w0.heap.size F [f,g] e.block)/\∀r:World,bH o [] e 30 p.T.toList r->aa w0 F r Q (D q))))
abbrev Ys(a:ao)(b:World)(c:Int):Prop:=(¬(a=none)->∃d:Addr,a=(some d)/\∃e,At b d 0 [D e]/\a' e c (aa w0 F b Q (.tuple #[D 1,D 0])) (aa w0 F b Q (.tuple #[D 2,D 0])))/\(a=none->aa w0 F b Q (.tuple #[D 2,D 0]))
abbrev Ya(a:ao)(b:World)(c:ao)(d:Int):Prop:=(¬(a=none)->∃e:Addr,a=(some e)/\∃f:Bool,At b e 0 [.bool f]/\dQ f (dQ f (aa w0 F b Q (.tuple #[D 1,D 0])) (aa w0 F b Q (.tuple #[D 2,D 0]))) (Ys w0 F Q c b d))/\(a=none->Ys w0 F Q c b d)
abbrev Py(a:Nat)(b:World)(c:Md):Prop:=w0.heap.size<=a/\Whole b a G.h_ c.T.toList
abbrev Yn(a:Md)(b c:Int)(d:List Nat):Prop:=aG w0 λe=>a7 w0 F [e] w0 [(e,G.h_)] X.MQ #[.agg a.T] .bool λh i=>gL i (aa w0 F h Q (.tuple #[D 0,D 2])) (bm h λj=>Py w0 e j a->ia X.MT #[ij e, .int .i32 b,D c] j λk l=>∃m:ao,bW k (.pointer m) w0 F d j l (∃n:Md,Whole l e G.h_ n.T.toList/\bm l λo=>Py w0 e o n->ia X.MS #[ij e, .int .i32 b,D c] o λp q=>∃r:ao,bW p (.pointer r) w0 F d o q (∃s:Md,Whole q e G.h_ s.T.toList/\(m=none->(r=none->aa w0 F q Q (.tuple #[D 0,D 0]))/\(¬(r=none)->Ya w0 F Q m q r c))/\(¬(m=none)->Ya w0 F Q m q r c))))
abbrev Pn(a b:World)(c:List (Nat×TypeId))(d e f g h i j k l m n:Int)(o:List Nat):Prop:=Below a.heap.size a b->cB b w0.heap.size c->ia X.uS #[.agg #[D d, .int .u8 e, .int .u8 f, .int .u8 g, .int .u8 h,D i, .int .u8 j, .int .u8 k, .int .u8 l, .int .u8 m, .int .u8 n]] b λp q=>∃r:bC,bW p (.agg r.T) w0 F o b q (a7 w0 F o q c X.wa #[.agg r.T] .bool λu v=>gL v (aa w0 F u Q (D 2)) (aa w0 F u Q (D 0)))
abbrev uG(a:Ending)(b:List Nat)(c d:World):Prop:=∃e:ao,∃f g:Nat,bW a (.slice e f g) w0 F b c d (aa w0 F d Q (.slice e f g))
abbrev Yo(a:World)(b:Addr)(c:List Nat)(d e:Nat)(f:Int)(g:List (Nat×TypeId))(h:aT)(i:List Nat):Prop:=∃j,At a b 2 [D j]/\a' j 0 (bn w0 F a c Q (.tuple #[.agg #[D 0,D 0, .bool false,D 0, .int .u8 0, .int .u8 0, .int .u8 0, .int .u8 0,D 0, .int .u8 0, .int .u8 0, .int .u8 0, .int .u8 0, .int .u8 0, .bool false,D 0,D 0,D 0], .bool false,D 8])) ((ct a b 2 1/\cp w0.heap.size F [d,e] b.block)/\∀k:World,bH a [] b 2 [D 0] k->(ct k b 3 1/\cp w0.heap.size F [d,e] b.block)/\∀l:World,bH k [] b 3 [D 0] l->a' f 1047 (a7 w0 F i l g X.Kq #[al b, .agg h.T] D λo p=>bn w0 F o c Q (.tuple #[.agg #[D 0,D 0, .bool false,D 0, .int .u8 0, .int .u8 0, .int .u8 0, .int .u8 0,D 0, .int .u8 0, .int .u8 0, .int .u8 0, .int .u8 0, .int .u8 0, .bool false,D 0,D 0,D 0], .bool false,D p])) (a' f 1049 (∃m:ao,At l b 4 [.pointer m]/\(¬(m=none)->∃n:ao,At l b 4 [.pointer n]/\∃o:Addr,n=(some o)/\∃p:eL,At l o 0 p.T.toList/\(ct l b 4 1/\cp w0.heap.size F [d,e] b.block)/\∀q:World,bH l [e] b 4 [lk] q->bn w0 F q c Q (.tuple #[.agg p.T, .bool true,D 0]))/\(m=none->bn w0 F l c Q (.tuple #[.agg #[D 0,D 0, .bool false,D 0, .int .u8 0, .int .u8 0, .int .u8 0, .int .u8 0,D 0, .int .u8 0, .int .u8 0, .int .u8 0, .int .u8 0, .int .u8 0, .bool false,D 0,D 0,D 0], .bool false,D 0]))) (bn w0 F l c Q (.tuple #[.agg #[D 0,D 0, .bool false,D 0, .int .u8 0, .int .u8 0, .int .u8 0, .int .u8 0,D 0, .int .u8 0, .int .u8 0, .int .u8 0, .int .u8 0, .int .u8 0, .bool false,D 0,D 0,D 0], .bool false,D 0]))))
abbrev J2(a:Int)(b:List Nat):Prop:=bG 1114111 a (aa w0 F w0 Q (D (-1))) (((0:Int)<=0/\(0:Int)<=18/\(18:Int)<=18)/\b9 w0 F b w0 X.FQ #[.slice (some ⟨Y.Xg,0,none⟩) 18 18, .int .i32 a] .bool λe f=>dQ f (aa w0 F e Q (D 0)) (((0:Int)<=0/\(0:Int)<=19/\(19:Int)<=19)/\b9 w0 F b e X.FQ #[.slice (some ⟨Y.Xh,0,none⟩) 19 19, .int .i32 a] .bool λi j=>dQ j (aa w0 F i Q (D 2)) (aa w0 F i Q (D 1))))
abbrev Po(a:Int)(b:World)(c:List Nat)(d e f g h i j k l m n o p q r s t:Int):Prop:=((0:Int)<=a/\a<3)/\(a=0->bn w0 F b c Q (.tuple #[.agg #[.int .i32 d, .int .i32 e, .int .i32 f, .int .i32 g,D h,D i, .int .u8 j, .int .u8 k, .int .u8 l, .int .u8 m,D n, .int .u8 o, .int .u8 p, .int .u8 q, .int .u8 r, .int .u8 s],D 0]))/\(a=1->bn w0 F b c Q (.tuple #[.agg #[.int .i32 d, .int .i32 t, .int .i32 e, .int .i32 g,D h,D i, .int .u8 j, .int .u8 k, .int .u8 l, .int .u8 m,D n, .int .u8 o, .int .u8 p, .int .u8 q, .int .u8 r, .int .u8 s],D 0]))/\(a=2->bn w0 F b c Q (.tuple #[.agg #[.int .i32 d, .int .i32 t, .int .i32 f, .int .i32 e,D h,D i, .int .u8 j, .int .u8 k, .int .u8 l, .int .u8 m,D n, .int .u8 o, .int .u8 p, .int .u8 q, .int .u8 r, .int .u8 s],D 0]))/\True
abbrev hG(a:Int)(b:Nat):Prop:=(0:Int)<=a/\a<(b:Int)
abbrev J7(a:Nat)(b:World)(c:Int):Prop:=w0.heap.size<=a/\Whole b a G.ft [.int .i32 c]
abbrev Pp(a:Int)(b:World)(c:ao)(d e:Nat)(f:Int)(g:Nat)(h:Bool)(i:List Nat):Prop:=(a≠0->aa w0 F b Q (D a))/\(a=0->∃j:Addr,c=(some j)/\∃k:ao,At b j 2 [.pointer k]/\bm b λl=>w0.heap.size<=d/\Whole l d G.ew [.pointer c]->J7 w0 e l f->w0.heap.size<=g/\Whole l g G.bool [.bool h]->List.Nodup [d,e,g]->ia X.oI #[.pointer k, .func (.func X.C') #[] #[ij d,ij e]] l λm n=>∃o,bW m (D o) w0 F i l n (∃p:ao,Whole n d G.ew [.pointer p]/\∃q:Int,Whole n e G.ft [.int .i32 q]/\aa w0 F n Q (D o)))
abbrev Yp(a:Int)(b:World):Prop:=bG a 95 (aa w0 F b Q (.int .i32 a)) (ay (IntKind.wrap .i32 (a-95))/\dX 32 (IntKind.wrap .i32 (a-95)) (aa w0 F b Q (.int .i32 a)) (((0:Int)<=(IntKind.wrap .i32 (a-95))/\(IntKind.wrap .i32 (a-95))<32)/\∃c:Int,At b ⟨Y.QJ,0,none⟩ (0+((Int.toNat (IntKind.wrap .i32 (a-95)))*1)) [.int .i32 c]/\aa w0 F b Q (.int .i32 c)))
abbrev YO(a:World):Prop:=∀b:World,∀c:Nat,cX a [] G.ft [.int .i32 65533] b c->aa w0 F b Q (.slice (some ⟨c,0,none⟩) 1 1)
abbrev J3(a:Int)(b:World)(c:Addr)(d:World->Prop):Prop:=dX 240 a (dX a 244 ((ct b c 1 1/\cp w0.heap.size F [] c.block)/\∀e:World,bH b [] c 1 [D 3] e->bm e λf=>d f) (YO w0 F Q b)) (YO w0 F Q b)
abbrev xn(a:Nat):Prop:=J6 a
abbrev jW(a:Bool)(b:World):Prop:=a=false->aa w0 F b Q (.bool false)
abbrev i'(a:Int)(b:World):Prop:=a≠0->aa w0 F b Q (D a)
abbrev Yv(a b:Int)(c:List (Nat×TypeId))(d:ao)(e f:Nat)(g h:List Nat)(i:jO):Prop:=a' (a-b) 9 (aa w0 F w0 Q (.agg #[D 0, .int .u8 0, .int .u8 0, .int .u8 0, .int .u8 0])) (a' (a-b) 8 (cC w0 w0 c X.Ww #[.slice d e f] λj k l=>∃m:jO,∃n:Bool,bW k (.tuple #[.agg m.T, .bool n]) w0 F g j l (aG l λo=>dQ n (bn w0 F l h Q (.agg m.T)) (bn w0 F l h Q (.agg i.T)))) (aa w0 F w0 Q (.agg i.T)))
abbrev Ye(a b:Int)(c:List (Nat×TypeId))(d e:List Nat)(f:ao)(g h:Nat)(i:jO):Prop:=dX 60 (a-b) (bG (a-b) 68 (ay ((a-b)-60)/\ay (((a-b)-60)+8)/\a7 w0 F d w0 c X.EY #[.int .u8 (IntKind.wrap .u8 (((a-b)-60)+8))] Az λl m=>bn w0 F l e Q (.agg m.T)) (Yv w0 F Q a b c f g h d e i)) (Yv w0 F Q a b c f g h d e i)
abbrev pX(a:ao)(b:List Nat):Prop:=∀c:Addr,a=(some c)->¬(c.block∈b)
abbrev Kc(a:World)(b:Addr):Prop:=ct a b 0 1/\cp w0.heap.size F [] b.block
abbrev Yf(a:World)(b:Addr)(c d:Int)(e:List Nat)(f:Bool):Prop:=Below w0.heap.size w0 a->ia X.MT #[al b, .int .i32 c,D d] a λg h=>∃i:ao,bW g (.pointer i) w0 F e a h ((¬(i=none)->∃j:Addr,i=(some j)/\Kc w0 F h j/\∀k:World,bH h [] j 0 [.bool f] k->aa w0 F k Q (.bool true))/\(i=none->b9 w0 F e h X.MS #[al b, .int .i32 c,D d] .pointer λl m=>(m=none->aa w0 F l Q (.bool false))/\(¬(m=none)->dQ f (∃n:Addr,m=(some n)/\Kc w0 F l n/\∀o:World,bH l [] n 0 [D d] o->aa w0 F o Q (.bool true)) (∃n:Addr,m=(some n)/\∃o,At l n 0 [D o]/\a' o d (∃p:Addr,m=(some p)/\Kc w0 F l p/\∀q:World,bH l [] p 0 [D 0] q->aa w0 F q Q (.bool true)) (aa w0 F l Q (.bool true))))))
abbrev Dy(a b:World)(c:List (Nat×TypeId))(d:Addr)(e f:List Nat)(g:Int->Int->Int->Int->Int->Int->Int->Int->Int->Int->Int->Int->World->Prop)(h:Int):Prop:=Below a.heap.size a b->cB b w0.heap.size c->ia X.qJ #[al d] b λi j=>∃k:aT,bW i (.agg k.T) w0 F e b j (∀l:World,dV j f l->g h k.f.k k.f.i k.f.r k.f.g k.f.b k.b.k k.b.i k.b.r k.b.g k.b.b k.eo l)
abbrev A2(a:List Value)(b:ao)(c:Nat)(d:World):Prop:=(∀e:Value,e∈a->e.oneCell'=true)/\(b=none->c=0)/\∀e:Addr,b=(some e)->At d e 0 a
abbrev xl(a:Ending)(b:List Nat)(c d:World)(e:List Nat)(f:Int->Int->Int->Bool->World->Prop):Prop:=∃g:Cu,∃h,bW a (.tuple #[.agg g.T,D h]) w0 F b c d (∀i:World,dV d e i->f h g.row g.ae g.dC i)
abbrev yZ(a:List Value):Prop:=∀b:Value,b∈a->b.oneCell'=true
abbrev xm(a:Ending)(b:List Nat)(c d:World):Prop:=∃e:Bool,bW a (.bool e) w0 F b c d (aa w0 F d Q (.bool e))
abbrev aiz(a:World)(b:List Nat)(c:Int->Int->Int->Int->Int->Int->Int->Int->Int->Int->Int->Int->World->Prop)(d:Int)(e:aT):Prop:=∀f:World,dV a b f->c d e.f.k e.f.i e.f.r e.f.g e.f.b e.b.k e.b.i e.b.r e.b.g e.b.b e.eo f
abbrev uF(a:Int)(b:World)(c:List Nat):Prop:=a≠0->bn w0 F b c Q (.tuple #[.agg #[D 0,D 0, .bool false],D a])
abbrev Dz(a:World)(b:List Nat)(c:Int->Int->Int->Int->Int->Bool->Int->Int->Bool->World->Prop)(d:Int)(e:dy)(f:Cu):Prop:=∀g:World,dV a b g->c d e.an e.ai e.aq.bf e.aq.b7 e.fy f.row f.ae f.dC g
abbrev Yg(a b:Int)(c:Addr)(d:List Nat):Prop:=a' a 74 (a' b 3 (∃e:ao,At w0 c 3 [.pointer e]/\dt w0 X.Ef #[.pointer e] λf g h=>bW g (.tuple #[]) w0 F d f h (aa w0 F h Q (D 0))) (aa w0 F w0 Q (D 0))) (aa w0 F w0 Q (D 0))
abbrev Yh(a:Ending)(b:List Nat)(c d:World):Prop:=∃e:Bool,bW a (.bool e) w0 F b c d (gL e (aa w0 F d Q (D 2)) (aa w0 F d Q (D 0)))
abbrev vN(a:World)(b:Addr):Prop:=ct a b 4 1/\cp w0.heap.size F [] b.block
abbrev A3(a:World)(b:Addr):Prop:=ct a b 1 1/\cp w0.heap.size F [] b.block
abbrev y0(a:Bool)(b:World):Prop:=a=true->aa w0 F b Q (D 0)
abbrev Gf(a:World)(b:Addr):Prop:=ct a b 4 3/\cp w0.heap.size F [] b.block
abbrev JZ(a:World)(b:Addr)(c:Cu)(d:Int):Prop:=Gf w0 F a b/\∀e:World,bH a [] b 4 c.T.toList e->aa w0 F e Q (D d)
abbrev J0(a:World)(b:Addr):Prop:=Kc w0 F a b
abbrev vO(a:Bool)(b:World):Prop:=a=false->aa w0 F b Q (D 2)
abbrev fW(a:Ending)(b:List Nat)(c d:World):Prop:=∃e,a=(.returned (D e))/\Ge w0 F Q b c d e
abbrev Gc(a:World)(b:Addr)(c:Int)(d:List Nat):Prop:=∃e:List UInt8,At a b 6 [.string ⟨e.toArray⟩]/\∀f:World,∀g:Nat,cX a [] G.fO [D 3, .int .i32 c, .int .i32 0, .string ⟨e.toArray⟩, .slice none 0 0, .string ⟨[].toArray⟩] f g->dt f X.Ab #[al b, .slice (some ⟨g,0,none⟩) 1 1] λh i j=>uG w0 F Q i d h j
abbrev Yi(a:Bool)(b c:Int)(d:World)(e:Int)(f:List (Nat×TypeId))(g h i j k l m n o p q:Int)(r:List Nat)(s:Addr):Prop:=gL a (∃t:Bool,(∀u:World,(Op.equal G.Region (.agg #[D b,D c]) (.agg #[D 0,D 0])).run Tryz.prog u= .ok t u)/\gL t (vO w0 F Q t d/\(t=true->bG e 0 (aa w0 F d Q (D 2)) (∀u:World,Pn w0 F Q d u f g h i j k l m n o p q r))) (bG b 0 (aa w0 F d Q (D 2)) (bG c b (aa w0 F d Q (D 2)) (a7 w0 F r d f X.oQ #[al s] D λx y=>dX y c (aa w0 F x Q (D 2)) (bG e 0 (aa w0 F x Q (D 2)) (∀z:World,Pn w0 F Q x z f g h i j k l m n o p q r)))))) (bG b 0 (aa w0 F d Q (D 2)) (bG c b (aa w0 F d Q (D 2)) (a7 w0 F r d f X.oQ #[al s] D λv x=>dX x c (aa w0 F v Q (D 2)) (bG e 0 (aa w0 F v Q (D 2)) (∀y:World,Pn w0 F Q v y f g h i j k l m n o p q r)))))
abbrev X'(a:World)(b:Nat)(c:ao)(d:List Nat):Prop:=∃e:Option Addr->Nat->Nat->Int->World->Prop,∃f:Option Addr->Nat->Nat->Int->Nat,(bm a λg=>e none 0 0 0 g)/\∀g:ao,∀h i:Nat,∀j:Int,∀k:World,U F w0 k->e g h i j k->bG j b (∃l:Addr,c=(some l)/\hG j b/\∃m:gx,At k l ((Int.toNat j)*2) m.T.toList/\aG k λn=>a7 w0 F [n] k [(n,G.fg)] X.Is #[.agg m.T] Jw λq r=>aG q λs=>∃t:List Value,gy w0.heap.size F [n,s] q G.fg 2 g h i t 1/\((h+1)*32)<=140737488355328/\∀u:World,∀v:ao,∀x:Nat,gk q d g h i G.fg 2 (h+1) (t++r.T.toList) u v x->pX v [n,s]->ay (j+1)/\bm u λy=>e v (h+1) x (j+1) y/\f v (h+1) x (j+1)<f g h i j) (aa w0 F k Q (.slice g h i))
abbrev Pg(a b:World)(c:Addr)(d:Nat)(e:List Nat):Prop:=Below a.heap.size a b->ia X.Ab #[al c, .slice (some ⟨d,0,none⟩) 1 1] b λf g=>uG w0 F Q f e b g
abbrev Ph(a:List Nat)(b c:World)(d e:Int)(f:bC)(g:Int->World->Prop)(h:Int->Nat):Prop:=eC w0.heap.size F a b c/\(d≠0->aa w0 F c Q (.bool false))/\(d=0->bG 0 e (ay (e-1)/\((0:Int)<=(e-1)/\(e-1)<3)/\((e-1)=0->a' f.hZ 0 (aa w0 F c Q (.bool false)) (ji e c g h))/\((e-1)=1->a' f.fE 0 (aa w0 F c Q (.bool false)) (ji e c g h))/\((e-1)=2->a' f.fQ 0 (aa w0 F c Q (.bool false)) (ji e c g h))/\True) (ji e c g h))
abbrev Ka(a b:Nat):Prop:=(a:Int)≠(b:Int)->aa w0 F w0 Q (.bool false)
abbrev DD(a:Nat)(b:Int)(c:World):Prop:=(a:Int)<=b->aa w0 F c Q (.bool true)
abbrev Yb(a b:Nat)(c d:ao):Prop:=Ka w0 F Q a b/\((a:Int)=(b:Int)->∃e:Int->World->Prop,∃f:Int->Nat,(bm w0 λg=>e 0 g)/\∀g:Int,∀h:World,U F w0 h->e g h->(g<(a:Int)->∃i:Addr,c=(some i)/\hG g a/\∃j:bC,At h i ((Int.toNat g)*16) j.T.toList/\∃k:Addr,d=(some k)/\hG g b/\∃l:bC,At h k ((Int.toNat g)*16) l.T.toList/\∃m:Bool,(∀n:World,(Op.equal G.Cell (.agg j.T) (.agg l.T)).run Tryz.prog n= .ok m n)/\jW w0 F Q m h/\(m=true->ji g h e f))/\DD w0 F Q a g h)
abbrev Yc(a b:World)(c:List (Nat×TypeId))(d:Int)(e:List Nat)(f:Addr)(g:Nat)(h:List Nat)(i:World->Prop):Prop:=Below a.heap.size a b->cB b w0.heap.size c->ia X.Wg #[D d] b λj k=>∃l:ao,∃m,bW j (.tuple #[.pointer l,D m]) w0 F e b k ((m≠0->aa w0 F k Q (.tuple #[D 0,D m]))/\(m=0->∃n:ao,∃o p:Nat,At k f 4 [.slice n o p]/\aG k λq=>∃r:List Value,gy w0.heap.size F [g,q] k G.qz 1 n o p r 1/\((o+1)*8)<=140737488355328/\∀s:World,∀t:ao,∀u:Nat,gk k h n o p G.qz 1 (o+1) (r++[.pointer l]) s t u->pX t [g,q]->(ct s f 4 1/\cp w0.heap.size F [g,q] f.block)/\∀v:World,bH s [] f 4 [.slice t (o+1) u] v->bm v λx=>i x))
abbrev Yd(a:Addr)(b:Int)(c:List Nat):Prop:=∀d:World,∀e:Nat,cX w0 [] G.ft [.int .i32 65533] d e->dt d X.Ju #[al a, .int .u8 b] λf g h=>∃i:ao,∃j k:Nat,bW g (.slice i j k) w0 F c f h (∃l:List Value,gy w0.heap.size F c h G.ft 1 (some ⟨e,0,none⟩) 1 1 l j/\∃m:List Value,(m.length=(j*1)/\A2 m i j h)/\((1+j)*4)<=140737488355328/\∀n:World,∀o:ao,∀p:Nat,gk h c (some ⟨e,0,none⟩) 1 1 G.ft 1 (1+j) (l++m) n o p->aa w0 F n Q (.slice o (1+j) p))
abbrev Gi(a:ao)(b:List Nat)(c:Int)(d:World)(e:Option Addr->Nat->Nat->Int->World->Prop)(f g:Nat)(h:Option Addr->Nat->Nat->Int->Nat)(i:ao)(j:Nat):Prop:=pX a b->ay (c+1)/\bm d λk=>e a (f+1) g (c+1) k/\h a (f+1) g (c+1)<h i f j c
abbrev YF(a:gX)(b:Int):Prop:=aG w0 λc=>a7 w0 F [c] w0 [(c,G.vQ)] X.DP #[.agg a.T] .bool λf g=>gL g (aa w0 F f Q (.int .i32 b)) (((0:Int)<=a.gO/\a.gO<2)/\(a.gO=0->(a.aR≠1->aa w0 F f Q (.int .i32 b))/\(a.aR=1->Yp w0 F Q b f))/\(a.gO=1->(a.g1≠1->aa w0 F f Q (.int .i32 b))/\(a.g1=1->Yp w0 F Q b f))/\True)
abbrev Pu(a:World)(b:List (Nat×TypeId))(c:aT)(d:List Nat):Prop:=Below w0.heap.size w0 a->cB a w0.heap.size b->ia X.uS #[.agg c.T] a λe f=>∃g:bC,bW e (.agg g.T) w0 F d a f (cC w0 f b X.wa #[.agg g.T] λh i j=>xm w0 F Q i d h j)
abbrev Pv(a b:World)(c:List (Nat×TypeId))(d:Addr)(e:List Nat)(f:Int)(g:aT)(h:Int->World->Prop)(i:Int->Nat):Prop:=Below a.heap.size a b->cB b w0.heap.size c->ia X.mf #[al d] b λj k=>∃l,bW j (D l) w0 F e b k (a7 w0 F e k c X.BI #[al d,D f,D 0,D l, .agg g.T] D λo p=>i' w0 F Q p o/\(p=0->ji f o h i))
abbrev YG(a:dy):Prop:=aG w0 λb=>dX 1 a.an (dX a.an 1000 (dX 1 a.ai (dX a.ai 1000 (dX 0 a.aq.bf (dX a.aq.bf a.aq.b7 (aa w0 F w0 Q (.bool (bL.val (.lt a.aq.b7 a.an)))) (aa w0 F w0 Q (.bool false))) (aa w0 F w0 Q (.bool false))) (aa w0 F w0 Q (.bool false))) (aa w0 F w0 Q (.bool false))) (aa w0 F w0 Q (.bool false))) (aa w0 F w0 Q (.bool false))
abbrev Gj(a b:World)(c:List (Nat×TypeId))(d:List Nat):Prop:=Below a.heap.size a b->cB b w0.heap.size c->ia X.Jg #[] b λe f=>xm w0 F Q e d b f
abbrev Gk(a b:World)(c:Addr)(d:List Nat):Prop:=Below a.heap.size a b->ia X.Ab #[al c, .slice none 0 0] b λe f=>uG w0 F Q e d b f
abbrev YH(a b:Int)(c:Addr):Prop:=(a≠63->aa w0 F w0 Q lk)/\(a=63->a' b 1 (aa w0 F w0 Q (al (Addr.add c 4))) (a' b 6 (aa w0 F w0 Q (al (Addr.add c 1))) (a' b 7 (aa w0 F w0 Q (al c)) (a' b 25 (aa w0 F w0 Q (al (Addr.add c 3))) (a' b 1006 (aa w0 F w0 Q (al (Addr.add c 6))) (a' b 2004 (aa w0 F w0 Q (al (Addr.add c 5))) (aa w0 F w0 Q lk)))))))
abbrev YI(a:Bool)(b:World)(c:Addr)(d:Int)(e:List Nat):Prop:=dQ a (b9 w0 F e b X.Nf #[al (Addr.add c 7), .int .i32 d] .bool λh i=>dQ i (vN w0 F h c/\∀j:World,bH h [] c 4 [D 4] j->aa w0 F j Q (.slice none 0 0)) (vN w0 F h c/\∀j:World,bH h [] c 4 [D 6] j->aa w0 F j Q (.slice none 0 0))) (vN w0 F b c/\∀f:World,bH b [] c 4 [D 6] f->aa w0 F f Q (.slice none 0 0))
abbrev J'(a:List Nat)(b c:World)(d e:Int)(f:Int->World->Prop)(g:Int->Nat):Prop:=eC w0.heap.size F a b c/\i' w0 F Q d c/\(d=0->ji e c f g)
abbrev YK(a:fJ):Prop:=aG w0 λb=>dX 1 a.an (dX a.an 1000 (dX 1 a.ai (dX a.ai 1000 (dX 0 a.cl (aa w0 F w0 Q (.bool (bL.val (.le a.cl 1048576)))) (aa w0 F w0 Q (.bool false))) (aa w0 F w0 Q (.bool false))) (aa w0 F w0 Q (.bool false))) (aa w0 F w0 Q (.bool false))) (aa w0 F w0 Q (.bool false))
abbrev Gl:Prop:=(0:Int)<=0/\(0:Int)<=3/\(3:Int)<=3
abbrev Px(a b:World)(c:List (Nat×TypeId))(d e f:Int)(g:List Nat)(h:Int->Int->Int->World->Prop):Prop:=Below a.heap.size a b->cB b w0.heap.size c->ia X.I3 #[D d,D e,D f] b λi j=>∃k:dz,∃l,bW i (.tuple #[.agg k.T,D l]) w0 F g b j (∀m:World,dV j g m->h l k.bf k.b7 m)
abbrev pf(a:Bool)(b:World):Prop:=a=true->aa w0 F b Q (D 1)
abbrev A5(a:World)(b:Addr):Prop:=ct a b 2 1/\cp w0.heap.size F [] b.block
abbrev Yu(a:Int)(b:World)(c:Addr)(d:List Nat)(e:Int):Prop:=i' w0 F Q a b/\(a=0->∃f:Cu,At b c 4 f.T.toList/\b9 w0 F d b X.mN #[al c] qM λi j=>At i c 4 f.T.toList/\dt i X.IE #[.agg j.T, .agg f.T,D e] λk l m=>∃n:Cu,∃o,bW l (.tuple #[.agg n.T,D o]) w0 F d k m (JZ w0 F Q m c n o))
abbrev J9(a:Ending)(b:List Nat)(c d:World):Prop:=∃e:ao,∃f g:Nat,∃h,a=(.returned (.tuple #[.slice e f g,D h]))/\Ge w0 F Q b c d h
abbrev Yw(a:Nat)(b:ao):Prop:=bG a 2 (aa w0 F w0 Q (D 1)) (∃c:Addr,b=(some c)/\((0:Int)<=1/\(1:Int)<(a:Int))/\∃d,At w0 c 1 [D d]/\a' d 5 (aa w0 F w0 Q (D (min 3 (a:Int)))) (a' d 2 (aa w0 F w0 Q (D (min 5 (a:Int)))) (aa w0 F w0 Q (D 1))))
abbrev Yx(a:Int)(b:World)(c:World->Prop):Prop:=dX 0 a (bG a 32 (∀d:World,∀e:Nat,cX b [] G.fO [D 2, .int .i32 a, .int .i32 0, .string ⟨[].toArray⟩, .slice none 0 0, .string ⟨[].toArray⟩] d e->aa w0 F d Q (.slice (some ⟨e,0,none⟩) 1 1)) (bm b λd=>c d)) (bm b λd=>c d)
abbrev J_(a:Int)(b c:Nat):Prop:=(0:Int)<=a/\a<=(b:Int)/\(b:Int)<=(c:Int)
abbrev Yy(a:bC)(b:Bool):Prop:=∀c:World,(Op.equal G.P2 (.agg #[.int .i32 a.hZ, .int .i32 a.fE, .int .i32 a.fQ]) (.agg #[.int .i32 0, .int .i32 0, .int .i32 0])).run Tryz.prog c= .ok b c
abbrev Yz(a:Bool)(b:World)(c:List Nat):Prop:=a=false->bn w0 F b c Q (.tuple #[.agg #[D 0,D 0, .bool false,D 0, .int .u8 0, .int .u8 0, .int .u8 0, .int .u8 0,D 0, .int .u8 0, .int .u8 0, .int .u8 0, .int .u8 0, .int .u8 0, .bool false,D 0,D 0,D 0], .bool false,D 2])
abbrev YN(a:World)(b:List (Nat×TypeId))(c:Addr)(d:ff)(e:List Nat):Prop:=Below w0.heap.size w0 a->cB a w0.heap.size b->ia X.N0 #[al c, .int .i32 d.pre, .slice d.fw.p d.fw.n d.fw.c, .bool (bL.val (.eq d.rune 104))] a λf g=>fW w0 F Q f e a g
abbrev Ps(a:ff)(b:List (Nat×TypeId))(c:Addr)(d:List Nat):Prop:=(¬(a.bS=[])->aa w0 F w0 Q (D 0))/\(a.bS=[]->a' a.rune 104 (∀e:World,YN w0 F Q e b c a d) (a' a.rune 108 (∀e:World,YN w0 F Q e b c a d) ((a.pre≠0->aa w0 F w0 Q (D 0))/\(a.pre=0->cC w0 w0 b X.VI #[al c, .int .i32 a.rune, .slice a.fw.p a.fw.n a.fw.c] λe f g=>∃h:Bool,∃i,bW f (.tuple #[.bool h,D i]) w0 F d e g (dQ h (aa w0 F g Q (D i)) (i' w0 F Q i g/\(i=0->cC w0 g b X.VC #[al c, .int .i32 a.rune, .slice a.fw.p a.fw.n a.fw.c] λj k l=>fW w0 F Q k d j l)))))))
abbrev YP(a:World)(b:Addr)(c:Int)(d:Cu)(e:List (Nat×TypeId))(f:List Nat):Prop:=∃g,At a b 28 [D g]/\(c≠g->a' d.row c (cC w0 a e X.Ap #[al b,D c, .bool false] λh i j=>fW w0 F Q i f h j) (aa w0 F a Q (D 0)))/\(c=g->aa w0 F a Q (D 0))
abbrev YA(a:World)(b:Addr)(c:Int)(d:List (Nat×TypeId))(e:List Nat)(f:Cu):Prop:=∃g,At a b 28 [D g]/\a' c g (∃h,At a b 27 [D h]/\bG h c (ay (c-1)/\cC w0 a d X.Ap #[al b,D (c-1), .bool true] λi j k=>fW w0 F Q j e i k) (YP w0 F Q a b c f d e)) (YP w0 F Q a b c f d e)
abbrev YB(a:World)(b:Addr)(c d:Nat)(e:Int)(f:eL)(g:aT)(h:List (Nat×TypeId))(i:List Nat):Prop:=∃j,At a b 2 [D j]/\a' j 1 (aa w0 F a Q (D 11)) ((ct a b 2 1/\cp w0.heap.size F [c,d] b.block)/\∀k:World,bH a [] b 2 [D 1] k->(ct k b 3 1/\cp w0.heap.size F [c,d] b.block)/\∀l:World,bH k [] b 3 [D e] l->(e≠1049->aa w0 F l Q (D 0))/\(e=1049->(ct l b 4 1/\cp w0.heap.size F [c,d] b.block)/\∀m:World,bH l [] b 4 [ij c] m->w0.heap.size<=c/\Whole m c G.hO f.T.toList->w0.heap.size<=d/\Whole m d G.b_ g.T.toList->cC w0 m h X.Kq #[al b, .agg g.T] λn o p=>fW w0 F Q o i n p))
abbrev YC(a b:World)(c:List (Nat×TypeId))(d:ao)(e:Int)(f:aT)(g:List Nat)(h:Addr)(i:Nat):Prop:=Below a.heap.size a b->cB b w0.heap.size c->ia X.Gt #[.pointer d,D e, .agg f.T] b λj k=>∃l:eL,∃m:Bool,∃n,bW j (.tuple #[.agg l.T, .bool m,D n]) w0 F g b k ((n≠0->bn w0 F k g Q (D n))/\(n=0->(ct k h 26 1/\cp w0.heap.size F [i] h.block)/\∀o:World,bH k [i] h 26 [D 0] o->dQ m (cC w0 o c X.Fu #[al h, .agg l.T] λp q r=>fW w0 F Q q g p r) (aa w0 F o Q (D 0))))
abbrev YD(a b:Int)(c:Addr)(d:List Nat)(e:Addr):Prop:=a' a 74 (dX b 2 (∃f:Cu,At w0 c 4 f.T.toList/\b9 w0 F d w0 X.qJ #[al c] w8 λi j=>At i c 4 f.T.toList/\dt i X.Rl #[al e, .agg f.T,D b, .agg j.T] λk l m=>fW w0 F Q l d k m) (Yg w0 F Q a b c d)) (Yg w0 F Q a b c d)
abbrev Gh(a:Int)(b:Nat):Prop:=(0:Int)<=(a-1)/\(a-1)<(b:Int)
abbrev Pt(a:Ending)(b:List Nat)(c d:World):Prop:=∃e:List UInt8,∃f,bW a (.tuple #[.string ⟨e.toArray⟩,D f]) w0 F b c d (aa w0 F d Q (.tuple #[.string ⟨e.toArray⟩,D f]))
abbrev DA(a:Int)(b:World):Prop:=a≠0->aa w0 F b Q (.tuple #[.bool false,D a])
abbrev Yq(a b:World)(c:Addr)(d:List Nat)(e:Addr)(f:Int):Prop:=Below a.heap.size a b->ia X.HC #[al c] b λg h=>∃i,bW g (D i) w0 F d b h (At h e 1 [D f]/\b9 w0 F d h X.OH #[.agg #[D f,D i]] D λl m=>A3 w0 F l e/\∀n:World,bH l [] e 1 [D m] n->aa w0 F n Q (D 0))
abbrev J4(a b:World)(c:Addr)(d:List Nat):Prop:=Below a.heap.size a b->ia X.CV #[al c,D 8] b λe f=>uG w0 F Q e d b f
abbrev J5(a b:World)(c:List (Nat×TypeId))(d:Addr)(e f:List Nat)(g:Int->Int->Int->Int->Int->Int->Int->Int->Int->Int->Int->Int->World->Prop)(h:Int):Prop:=Below a.heap.size a b->cB b w0.heap.size c->ia X.qJ #[al d] b λi j=>∃k:aT,bW i (.agg k.T) w0 F e b j (aG j λl=>aiz j f g h k)
abbrev Yr(a:List UInt8)(b:World)(c:List Nat):Prop:=ia X.aho #[.string ⟨a.toArray⟩] b λd e=>∃f:List UInt8,bW d (.string ⟨f.toArray⟩) w0 F c b e (bn w0 F e c Q (.tuple #[.agg #[D 1, .string ⟨[].toArray⟩, .string ⟨f.toArray⟩],D 0]))
abbrev Pq(a b:World)(c:List (Nat×TypeId))(d:Addr)(e:List Nat)(f:Cu)(g:List Nat)(h:Int->Int->Int->Int->Int->Bool->Int->Int->Bool->World->Prop)(i:Int):Prop:=Below a.heap.size a b->cB b w0.heap.size c->ia X.mN #[al d] b λj k=>∃l:dy,bW j (.agg l.T) w0 F e b k (At k d 4 f.T.toList/\¬(d.block∈g)/\Dz k e h i l f)
abbrev PB(a:Ending)(b:List Nat)(c d:World)(e:Addr):Prop:=∃f:Bool,bW a (.bool f) w0 F b c d (y0 w0 F Q f d/\(f=false->∃g,At d e 1 [D g]/\aa w0 F d Q (D g)))
abbrev DC(a:Int):Prop:=a<1->aa w0 F w0 Q (.tuple #[lk,D 2])
abbrev YQ:Prop:=(0:Int)<=5000/\(5000:Int)<=5000/\(5000:Int)<=140737488355328
abbrev aiE(a:List Nat)(b c:World):Prop:=eC w0.heap.size F a b c/\aa w0 F c Q (D 0)
abbrev PD(a b:World)(c:List (Nat×TypeId))(d:Addr)(e:List Nat)(f:Cu)(g h:List Nat)(i:Int->Int->Int->Int->Int->Bool->Int->Int->Bool->World->Prop)(j:Int):Prop:=Below a.heap.size a b->cB b w0.heap.size c->ia X.mN #[al d] b λk l=>∃m:dy,bW k (.agg m.T) w0 F e b l (At l d 4 f.T.toList/\¬(d.block∈g)/\Dz l h i j m f)
abbrev YR(a b c:Nat):Prop:=(0:Int)<=0/\(0:Int)<=(a:Int)/\(a:Int)<=(b:Int)/\(b:Int)<=(c:Int)
abbrev YS(a b:World)(c:List (Nat×TypeId))(d:aT)(e:List Nat):Prop:=Below a.heap.size a b->cB b w0.heap.size c->ia X.uS #[.agg d.T] b λf g=>∃h:bC,bW f (.agg h.T) w0 F e b g (cC w0 g c X.wa #[.agg h.T] λi j k=>Yh w0 F Q j e i k)
abbrev YV(a b:ly)(c:Bool):Prop:=∀d:World,(Op.equal G.bR (.agg a.az.T) (.agg b.az.T)).run Tryz.prog d= .ok c d
abbrev YW(a b:ly)(c:Bool):Prop:=∀d:World,(Op.equal G.h_ (.agg a.bA.T) (.agg b.bA.T)).run Tryz.prog d= .ok c d
abbrev YX(a b:ly)(c:Bool):Prop:=∀d:World,(Op.equal G.b_ (.agg a.bV.T) (.agg b.bV.T)).run Tryz.prog d= .ok c d
abbrev Kd(a:Int):Prop:=(1000:Int)<a->aa w0 F w0 Q (.tuple #[lk,D 2])
abbrev PG(a b:World)(c:List (Nat×TypeId))(d:Addr)(e:Int)(f:Bool)(g:List Nat)(h:Int)(i:Int->World->Prop)(j:Int->Nat):Prop:=Below a.heap.size a b->cB b w0.heap.size c->ia X.N2 #[al d,D e, .bool f] b λk l=>∃m,k=(.returned (D m))/\J' w0 F Q g b l m h i j
abbrev Y1:Prop:=(0:Int)<=0/\(0:Int)<=1/\(1:Int)<=3
abbrev Y2(a b:Nat):Prop:=(0:Int)<=1/\(1:Int)<=(a:Int)/\(a:Int)<=(b:Int)
abbrev Y3(a b:jO)(c:Bool):Prop:=∀d:World,(Op.equal G.rV (.agg a.T) (.agg b.T)).run Tryz.prog d= .ok c d
abbrev YL(a b:Nat):Prop:=(0:Int)<=((a:Int)-1)/\((a:Int)-1)<(b:Int)
abbrev YM(a b:World)(c:List (Nat×TypeId))(d:dy)(e:Cu)(f:List Nat)(g:Addr)(h:Nat)(i:Int):Prop:=Below a.heap.size a b->cB b w0.heap.size c->ia X.yo #[.agg d.T, .agg e.T] b λj k=>∃l:Cu,∃m,bW j (.tuple #[.agg l.T,D m]) w0 F f b k ((m≠0->bn w0 F k f Q (D m))/\(m=0->(ct k g 4 3/\cp w0.heap.size F [h] g.block)/\∀n:World,bH k [h] g 4 l.T.toList n->YA w0 F Q n g i c f l))
abbrev DB(a:Ending)(b:List Nat)(c d:World):Prop:=a=(.returned (.tuple #[]))/\aiE w0 F Q b c d
abbrev Pz(a:Addr):Prop:=∃b,At w0 a 0 [D b]/\aa w0 F w0 Q (.bool (bL.val (.eq b 0)))
abbrev PA(a:bC)(b:Nat)(c:Int)(d:World)(e:Int->World->Prop)(f:Int->Nat):Prop:=a' a.w 2 (ay ((b:Int)-1)/\a' c ((b:Int)-1) (aa w0 F d Q (.bool false)) (ji c d e f)) (ji c d e f)
end Go.Proofs.YtimbpmnbbfeogaaGreatDoor
namespace Go.Proofs.YtimbpmnbbfeogaaGreatDoor
open Go Go.RowKit Go.Sy Go.Rep
variable{w0:World}{F:Nat->Prop}{Q:Value->World->Prop}
theorem aw_(c:bC)(h:aG w0 λa=>a7 w0 F [a] w0 [(a,G.Cell)] X.EZ #[.agg c.p.T] .bool λe f=>jW w0 F Q f e/\(f=true->a' c.r 0 (a' c.w 0 (∃g:Bool,Yy c g/\aa w0 F e Q (.bool g)) (a' c.w 1 (∃g:Bool,Yy c g/\aa w0 F e Q (.bool g)) (aa w0 F e Q (.bool false)))) (∃g:Int->World->Prop,∃i:Int->Nat,(bm e λj=>g 0 j)/\∀j:Int,∀k:World,U F w0 k->g j k->bG j 3 (((0:Int)<=j/\j<3)/\(j=0->(c.hZ≠0->cC w0 k [(a,G.Cell)] X.uw #[.int .i32 c.hZ] λl m n=>∃o,m=(.returned (D o))/\Ph w0 F Q [a] l n o j c g i)/\(c.hZ=0->ji j k g i))/\(j=1->(c.fE≠0->cC w0 k [(a,G.Cell)] X.uw #[.int .i32 c.fE] λl m n=>∃o,m=(.returned (D o))/\Ph w0 F Q [a] l n o j c g i)/\(c.fE=0->ji j k g i))/\(j=2->(c.fQ≠0->cC w0 k [(a,G.Cell)] X.uw #[.int .i32 c.fQ] λl m n=>∃o,m=(.returned (D o))/\Ph w0 F Q [a] l n o j c g i)/\(c.fQ=0->ji j k g i))/\True) (bG 0 c.w (a7 w0 F [a] k [(a,G.Cell)] X.uw #[.int .i32 c.r] D λn o=>aa w0 F n Q (.bool (bL.val (.eq c.w o)))) (aa w0 F k Q (.bool false)))))):aO X.wa #[.agg c.T] w0 F Q:=eV [⟨6,[28],[]⟩] [] [.agg (bC.bN.enc c)] h
theorem aw6(c:bC)(r:Int)(h:aG w0 λa=>aG w0 λb=>a7 w0 F [a,b] w0 [(a,G.Cell),(b,G.Cell)] X.wa #[.agg c.T] .bool λf g=>gL g (bn w0 F f [b] Q (.tuple #[.agg #[.int .i32 0, .int .i32 0, .int .i32 0, .int .i32 0,D 0,D 0, .int .u8 0, .int .u8 0, .int .u8 0, .int .u8 0,D 0, .int .u8 0, .int .u8 0, .int .u8 0, .int .u8 0, .int .u8 0],D 2])) (a7 w0 F [a,b] f [(a,G.Cell),(b,G.Cell)] X.uw #[.int .i32 r] D λk l=>(l≠0->bn w0 F k [b] Q (.tuple #[.agg #[.int .i32 0, .int .i32 0, .int .i32 0, .int .i32 0,D 0,D 0, .int .u8 0, .int .u8 0, .int .u8 0, .int .u8 0,D 0, .int .u8 0, .int .u8 0, .int .u8 0, .int .u8 0, .int .u8 0],D 2]))/\(l=0->a7 w0 F [a,b] k [(a,G.Cell),(b,G.Cell)] X.KP #[.agg c.T] .bool λo p=>gL p (bn w0 F o [b] Q (.tuple #[.agg #[.int .i32 0, .int .i32 0, .int .i32 0, .int .i32 0,D 0,D 0, .int .u8 0, .int .u8 0, .int .u8 0, .int .u8 0,D 0, .int .u8 0, .int .u8 0, .int .u8 0, .int .u8 0, .int .u8 0],D 8])) (∃q:Int->Int->Int->Int->Int->Int->Int->Int->Int->Int->Int->Int->Int->Int->Int->Int->Int->World->Prop,∃s:Int->Int->Int->Int->Int->Int->Int->Int->Int->Int->Int->Int->Int->Int->Int->Int->Int->Nat,(bm o λt=>q 0 c.r c.hZ c.fE c.fQ c.w c.p.f.k c.p.f.i c.p.f.r c.p.f.g c.p.f.b c.p.b.k c.p.b.i c.p.b.r c.p.b.g c.p.b.b c.p.eo t)/\∀t u v x y z A B C aD E bT ak bo J K L:Int,∀bj:World,U F w0 bj->q t u v x y z A B C aD E bT ak bo J K L bj->bG t 3 (((0:Int)<=t/\t<3)/\(t=0->a' c.hZ 0 (Po w0 F Q t bj [b,a] u r x y z A B C aD E bT ak bo J K L v) (ay (t+1)/\bm bj λN=>q (t+1) u v x y z A B C aD E bT ak bo J K L N/\s (t+1) u v x y z A B C aD E bT ak bo J K L<s t u v x y z A B C aD E bT ak bo J K L))/\(t=1->a' c.fE 0 (Po w0 F Q t bj [b,a] u r x y z A B C aD E bT ak bo J K L v) (ay (t+1)/\bm bj λN=>q (t+1) u v x y z A B C aD E bT ak bo J K L N/\s (t+1) u v x y z A B C aD E bT ak bo J K L<s t u v x y z A B C aD E bT ak bo J K L))/\(t=2->a' c.fQ 0 (Po w0 F Q t bj [b,a] u r x y z A B C aD E bT ak bo J K L v) (ay (t+1)/\bm bj λN=>q (t+1) u v x y z A B C aD E bT ak bo J K L N/\s (t+1) u v x y z A B C aD E bT ak bo J K L<s t u v x y z A B C aD E bT ak bo J K L))/\True) (bn w0 F bj [b] Q (.tuple #[.agg #[.int .i32 0, .int .i32 0, .int .i32 0, .int .i32 0,D 0,D 0, .int .u8 0, .int .u8 0, .int .u8 0, .int .u8 0,D 0, .int .u8 0, .int .u8 0, .int .u8 0, .int .u8 0, .int .u8 0],D 7])))))):aO X.QE #[.agg c.T, .int .i32 r] w0 F Q:=eV [⟨6,[25],[0]⟩] [] [.agg (bC.bN.enc c), .int .i32 r] h
theorem aw7(r:Int)(p:aT)(h:aG w0 λa=>a7 w0 F [a] w0 [(a,G.b_)] X.uw #[.int .i32 r] D λd e=>bG e 1 (aa w0 F d Q (.tuple #[.slice none 0 0,D 2])) (a7 w0 F [a] d [(a,G.b_)] X.EZ #[.agg p.T] .bool λi j=>gL j (aa w0 F i Q (.tuple #[.slice none 0 0,D 2])) (∀k:World,∀l:Nat,cX i [] G.Cell [.int .i32 r, .int .i32 0, .int .i32 0, .int .i32 0,D e,D p.f.k, .int .u8 p.f.i, .int .u8 p.f.r, .int .u8 p.f.g, .int .u8 p.f.b,D p.b.k, .int .u8 p.b.i, .int .u8 p.b.r, .int .u8 p.b.g, .int .u8 p.b.b, .int .u8 p.eo] k l->¬(l∈[a])->a' e 2 (a7 w0 F [a] k [(a,G.b_)] X.KO #[.agg p.T] Ay λo q=>aG o λs=>∃t:List Value,gy w0.heap.size F [a,s] o G.Cell 16 (some ⟨l,0,none⟩) 1 1 t 1/\128<=140737488355328/\∀u:World,∀v:ao,∀x:Nat,gk o [] (some ⟨l,0,none⟩) 1 1 G.Cell 16 2 (t++q.T.toList) u v x->pX v [a,s]->aa w0 F u Q (.tuple #[.slice v 2 x,D 0])) (aa w0 F k Q (.tuple #[.slice (some ⟨l,0,none⟩) 1 1,D 0]))))):aO X.QF #[.int .i32 r, .agg p.T] w0 F Q:=bh [.int .i32 r, .agg (aT.bN.enc p)] h
theorem aw8(aP:ao)(aM ba:Nat)(h:∃a:Int->World->Prop,∃b:Int->Nat,(bm w0 λc=>a 0 c)/\∀c:Int,∀d:World,U F w0 d->a c d->(c<(aM:Int)->∃e:Addr,aP=(some e)/\hG c aM/\∃f:bC,At d e ((Int.toNat c)*16) f.T.toList/\aG d λg=>bG 0 c (ay (c-1)/\∃i:Addr,aP=(some i)/\Gh c aM/\∃j,At d i (((Int.toNat (c-1))*16)+4) [D j]/\a7 w0 F [g] d [(g,G.Cell)] X.wa #[.agg f.T] .bool λm n=>jW w0 F Q n m/\(n=true->(¬((bL.val (.eq f.w 0))=(bL.val (.eq j 2)))->aa w0 F m Q (.bool false))/\((bL.val (.eq f.w 0))=(bL.val (.eq j 2))->a' j 2 (ay (c-1)/\∃o:Addr,aP=(some o)/\Gh c aM/\∃p:aT,At m o (((Int.toNat (c-1))*16)+5) p.T.toList/\∃q:Bool,(∀r:World,(Op.equal G.b_ (.agg f.p.T) (.agg p.T)).run Tryz.prog r= .ok q r)/\jW w0 F Q q m/\(q=true->PA w0 F Q f aM c m a b)) (PA w0 F Q f aM c m a b)))) (a7 w0 F [g] d [(g,G.Cell)] X.wa #[.agg f.T] .bool λk l=>jW w0 F Q l k/\(l=true->a' f.w 0 (aa w0 F k Q (.bool false)) (PA w0 F Q f aM c k a b))))/\DD w0 F Q aM c d):aO X.QG #[.slice aP aM ba] w0 F Q:=eV [⟨2,[8],[]⟩] [] [.cJ aP aM ba] h
theorem ahu(c:gX)(r:Int)(h:YF w0 F Q c r):aO X.KS #[.agg c.T, .int .i32 r] w0 F Q:=bh [.agg (gX.bN.enc c), .int .i32 r] h
end Go.Proofs.YtimbpmnbbfeogaaGreatDoor
namespace Go.Sy
open Go.RowKit (Below)
theorem U.au{w w':World}(h:Below w.heap.size w w'):U bg w w':=Below.ax h bg
structure Row(w:World)(p:ao)(n es:Nat)(vs:List Value):Prop where
 len:vs.length=n*es
 eI:∀a,p=some a->At w a 0 vs
 iP:0<n->∃a,p=some a
variable{w w':World}{p:ao}{n es:Nat}{vs:List Value}
theorem Row.ax{F:Nat->Prop}(h:Row w p n es vs)(hk:U F w w')(bc:∀a,p=some a->¬F a.block):Row w' p n es vs:=⟨h.len,λa e=>(h.eI a e).ax hk (bc a e),h.iP⟩
theorem Row.O(h:Row w p n es vs)(hk:U bg w w'):Row w' p n es vs:=h.ax hk λ_ _ e=>e
theorem Row.below(h:Row w p n es vs)(hb:Below w.heap.size w w'):Row w' p n es vs:=h.O (U.au hb)
theorem At.O{a:Addr}{o:Nat}(h:At w a o vs)(hk:U bg w w'):At w' a o vs:=h.ax hk λe=>e
theorem Row.at_(h:Row w p n es vs){a:Addr}(e:p=some a)(j:Nat){cj:List Value}(hu:cj=(vs.drop j).take cj.length):At w a j cj:=by
 have:=(h.eI a e).sub j hu;rwa[iR] at this
end Go.Sy
namespace Go.Proofs.YtimbpmnbbfeogaaGreatDoor
open Go Go.RowKit Go.Sy Go.Rep
theorem apR(l:List Int)(i:Nat)(h:i<l.length):[Value.int .i64 (l.getD i 0)]=((wG l).drop (i*1)).take [Value.int .i64 (l.getD i 0)].length:=by
 rw[oC,mw (by simpa[wG] using h)];simp[wG,h]
theorem agB(l:List Int)(i:Nat)(h:i<l.length):[Value.int .i32 (l.getD i 0)]=((C5 l).drop (i*1)).take [Value.int .i32 (l.getD i 0)].length:=by
 rw[oC,mw (by simpa[C5] using h)];simp[C5,h]
def eK(w:World)(p:ao)(n:Nat)(l:List Int):Prop:=Row w p n 1 (wG l)
def y6(w:World)(p:ao)(n:Nat)(l:List Int):Prop:=Row w p n 1 (C5 l)
theorem eK.len{w:World}{p:ao}{n:Nat}{l:List Int}(h:eK w p n l):l.length=n:=by have:=Row.len h;simpa[wG] using this
theorem y6.len{w:World}{p:ao}{n:Nat}{l:List Int}(h:y6 w p n l):l.length=n:=by have:=Row.len h;simpa[C5] using this
theorem eK.O{w w':World}{p:ao}{n:Nat}{l:List Int}(h:eK w p n l)(hk:U bg w w'):eK w' p n l:=Row.O h hk
theorem y6.O{w w':World}{p:ao}{n:Nat}{l:List Int}(h:y6 w p n l)(hk:U bg w w'):y6 w' p n l:=Row.O h hk
theorem eK.below{w w':World}{p:ao}{n:Nat}{l:List Int}(h:eK w p n l)(hk:Below w.heap.size w w'):eK w' p n l:=Row.below h hk
theorem eK.get{w:World}{p:ao}{n:Nat}{l:List Int}(h:eK w p n l){i:Int}(aW:0<=i)(hi:i<n):∃a,p=some a/\At w a (i.toNat*1) [.int .i64 (l.getD i.toNat 0)]:=by
 obtain⟨a,e⟩:=Row.iP h M;have:=h.len;exact⟨a,e,Row.at_ h e _ (apR l i.toNat M)⟩
theorem y6.get{w:World}{p:ao}{n:Nat}{l:List Int}(h:y6 w p n l){i:Int}(aW:0<=i)(hi:i<n):∃a,p=some a/\At w a (i.toNat*1) [.int .i32 (l.getD i.toNat 0)]:=by
 obtain⟨a,e⟩:=Row.iP h M;have:=h.len;exact⟨a,e,Row.at_ h e _ (agB l i.toNat M)⟩
def lG(l:List Int)(v:Int)(k:Nat):Int:=match l with
 |[]=> -1
 |x::l=>if v=x then k else lG l v (k+1)
theorem adJ(l:List Int)(v:Int)(k:Nat)(h:k<l.length):lG (l.drop k) v k=if v=l.getD k 0 then(k:Int) else lG (l.drop (k+1)) v (k+1):=by
 rw[mw h,lG];simp[kb,el h]
theorem adI(l:List Int)(v:Int)(k:Nat)(h:l.length<=k):lG (l.drop k) v k= -1:=by rw[XP h];rfl
theorem G4{w:World}{g:Nat}{vs:List Value}{n es:Nat}(h:At w ⟨g,0,none⟩ 0 vs)(hl:vs.length=n*es):Row w (some ⟨g,0,none⟩) n es vs:=⟨hl,λa e=>by cases e;exact h,λ_=>⟨_,rfl⟩⟩
variable{w0:World}{F:Nat->Prop}{Q:Value->World->Prop}
theorem az8(a_:ao)(dw cs:Nat)(v:Int)(h:∃a:Int->World->Prop,∃b:Int->Nat,(bm w0 λc=>a 0 c)/\∀c:Int,∀d:World,U F w0 d->a c d->bG c dw (∃e:Addr,a_=(some e)/\hG c dw/\∃f:Int,At d e ((Int.toNat c)*1) [.int .i32 f]/\a' v f (aa w0 F d Q (D c)) (ji c d a b)) (aa w0 F d Q (D (-1)))):aO X.Oe #[.slice a_ dw cs, .int .i32 v] w0 F Q:=eV [⟨2,[8],[]⟩] [] [.cJ a_ dw cs, .int .i32 v] h
theorem az5(a_:ao)(dw cs:Nat)(v:Int)(h:b9 w0 F [] w0 X.Wo #[.slice a_ dw cs,D v] D λc d=>aa w0 F c Q (.bool (bL.val (.le 0 d)))):aO X.vB #[.slice a_ dw cs,D v] w0 F Q:=bh [.cJ a_ dw cs,cn v] h
theorem az7(a_:ao)(dw cs:Nat)(v:Int)(h:∃a:Int->World->Prop,∃b:Int->Nat,(bm w0 λc=>a 0 c)/\∀c:Int,∀d:World,U F w0 d->a c d->bG c dw (∃e:Addr,a_=(some e)/\hG c dw/\∃f,At d e ((Int.toNat c)*1) [D f]/\a' v f (aa w0 F d Q (D c)) (ji c d a b)) (aa w0 F d Q (D (-1)))):aO X.Wo #[.slice a_ dw cs,D v] w0 F Q:=eV [⟨2,[8],[]⟩] [] [.cJ a_ dw cs,cn v] h
theorem axY(m:Md)(h:aG w0 λa=>a' m.ptr 0 (a' m.gP 0 (aa w0 F w0 Q (.bool true)) (Gl/\cC w0 w0 [(a,G.h_)] X.vB #[.slice (some ⟨Y.EN,0,none⟩) 3 3,D m.gP] λb c d=>xm w0 F Q c [a] b d)) (Gl/\a7 w0 F [a] w0 [(a,G.h_)] X.vB #[.slice (some ⟨Y.ID,0,none⟩) 3 3,D m.ptr] .bool λd e=>(e=true->a' m.gP 0 (aa w0 F d Q (.bool true)) (Gl/\cC w0 d [(a,G.h_)] X.vB #[.slice (some ⟨Y.EN,0,none⟩) 3 3,D m.gP] λf g i=>xm w0 F Q g [a] f i))/\jW w0 F Q e d)):aO X.MQ #[.agg m.T] w0 F Q:=bh [.agg (Md.bN.enc m)] h
theorem ax0(m:Addr)(pre n:Int)(h:a' pre 0 (a' n 4 (aa w0 F w0 Q (al (Addr.add m 2))) (YH w0 F Q pre n m)) (YH w0 F Q pre n m)):aO X.MT #[al m, .int .i32 pre,D n] w0 F Q:=bh [.aY m 0, .int .i32 pre,cn n] h
theorem axZ(m:Addr)(pre n:Int)(h:(pre≠63->aa w0 F w0 Q lk)/\(pre=63->Gl/\b9 w0 F [] w0 X.vB #[.slice (some ⟨Y.ID,0,none⟩) 3 3,D n] .bool λc d=>dQ d (aa w0 F c Q (al (Addr.add m 7))) (Gl/\b9 w0 F [] c X.vB #[.slice (some ⟨Y.EN,0,none⟩) 3 3,D n] .bool λg i=>dQ i (aa w0 F g Q (al (Addr.add m 8))) (aa w0 F g Q lk)))):aO X.MS #[al m, .int .i32 pre,D n] w0 F Q:=bh [.aY m 0, .int .i32 pre,cn n] h
theorem ahy(m:Addr)(pre n:Int)(on:Bool)(h:∀a:World,Yf w0 F Q a m pre n [] on):aO X.MR #[al m, .int .i32 pre,D n, .bool on] w0 F Q:=bh [.aY m 0, .int .i32 pre,cn n, .bool (bL.ok on)] h
theorem axa(r:Int)(h:((0:Int)<=0/\(0:Int)<=2/\(2:Int)<=2)/\b9 w0 F [] w0 X.Oe #[.slice (some ⟨Y.QI,0,none⟩) 2 2, .int .i32 r] D λc d=>bG d 0 (aa w0 F c Q (.tuple #[D 0,D 9])) (aa w0 F c Q (.tuple #[D d,D 0]))):aO X.KR #[.int .i32 r] w0 F Q:=bh [.int .i32 r] h
theorem aAP(jM hE r:Int)(h:aG w0 λa=>bG hE r (aa w0 F w0 Q (D (-1))) (bG r jM (aa w0 F w0 Q (D 1)) (aa w0 F w0 Q (D 0)))):aO X.AB #[.agg #[.int .i32 jM, .int .i32 hE], .int .i32 r] w0 F Q:=bh [.agg [.int .i32 jM, .int .i32 hE], .int .i32 r] h
theorem aAO(aP:ao)(aM ba:Nat)(r:Int)(h:dt w0 X.Wl #[.slice aP aM ba, .int .i32 r, .func (.func X.AB) #[] #[]] λa b c=>∃d,∃e:Bool,bW b (.tuple #[D d, .bool e]) w0 F [] a c (aa w0 F c Q (.bool e))):aO X.FQ #[.slice aP aM ba, .int .i32 r] w0 F Q:=bh [.cJ aP aM ba, .int .i32 r] h
theorem aAN(r:Int)(h:bG r 32 (aa w0 F w0 Q (D (-1))) (dX 127 r (bG r 160 (aa w0 F w0 Q (D (-1))) (dX 55296 r (dX r 57343 (aa w0 F w0 Q (D (-1))) (J2 w0 F Q r [])) (J2 w0 F Q r []))) (dX 55296 r (dX r 57343 (aa w0 F w0 Q (D (-1))) (J2 w0 F Q r [])) (J2 w0 F Q r [])))):aO X.uw #[.int .i32 r] w0 F Q:=bh [.int .i32 r] h
theorem ahA(s:eL)(a:dy)(h:Yk w0 F Q s a):aO X.C9 #[.agg s.T, .agg a.T] w0 F Q:=bh [.agg (eL.bN.enc s), .agg (dy.bN.enc a)] h
theorem ahz(an bf mb:Int)(h:Ym w0 F Q an bf mb):aO X.I3 #[D an,D bf,D mb] w0 F Q:=bh [cn an,cn bf,cn mb] h
end Go.Proofs.YtimbpmnbbfeogaaGreatDoor
namespace Go.Proofs.YtimbpmnbbfeogaaGreatDoor
open Go Go.RowKit Go.Sy Go.Rep
variable{w0:World}{F:Nat->Prop}{Q:Value->World->Prop}
theorem axe(k:Int)(h:dX 0 k (aa w0 F w0 Q (.bool (bL.val (.lt k 2)))) (aa w0 F w0 Q (.bool false))):aO X.GH #[D k] w0 F Q:=bh [cn k] h
theorem axd(c:gX)(h:aG w0 λa=>a7 w0 F [a] w0 [(a,G.vQ)] X.GH #[D c.aR] .bool λe f=>(f=true->a7 w0 F [a] e [(a,G.vQ)] X.GH #[D c.g1] .bool λj k=>(k=true->a' c.gO 0 (aa w0 F j Q (.bool true)) (aa w0 F j Q (.bool (bL.val (.eq c.gO 1)))))/\jW w0 F Q k j)/\jW w0 F Q f e):aO X.DP #[.agg c.T] w0 F Q:=bh [.agg (gX.bN.enc c)] h
theorem axb(c:gX)(g k:Int)(h:aG w0 λa=>aG w0 λb=>a7 w0 F [a,b] w0 [(a,G.vQ),(b,G.vQ)] X.DP #[.agg c.T] .bool λf i=>gL i (bn w0 F f [b] Q (.tuple #[.agg #[D 0,D 0,D 0],D 2])) (bG g 0 (bn w0 F f [b] Q (.tuple #[.agg #[D 0,D 0,D 0],D 2])) (bG 1 g (bn w0 F f [b] Q (.tuple #[.agg #[D 0,D 0,D 0],D 2])) (a7 w0 F [a,b] f [(a,G.vQ),(b,G.vQ)] X.GH #[D k] .bool λm n=>gL n (bn w0 F m [b] Q (.tuple #[.agg #[D 0,D 0,D 0],D 2])) (((0:Int)<=g/\g<2)/\(g=0->bn w0 F m [b,a] Q (.tuple #[.agg #[D k,D c.g1,D c.gO],D 0]))/\(g=1->bn w0 F m [b,a] Q (.tuple #[.agg #[D c.aR,D k,D c.gO],D 0]))/\True))))):aO X.KT #[.agg c.T,D g,D k] w0 F Q:=bh [.agg (gX.bN.enc c),cn g,cn k] h
theorem axc(c:gX)(g:Int)(h:aG w0 λa=>aG w0 λb=>a7 w0 F [a,b] w0 [(a,G.vQ),(b,G.vQ)] X.DP #[.agg c.T] .bool λf i=>gL i (bn w0 F f [b] Q (.tuple #[.agg #[D 0,D 0,D 0],D 2])) (bG g 0 (bn w0 F f [b] Q (.tuple #[.agg #[D 0,D 0,D 0],D 2])) (bG 1 g (bn w0 F f [b] Q (.tuple #[.agg #[D 0,D 0,D 0],D 2])) (bn w0 F f [b,a] Q (.tuple #[.agg #[D c.aR,D c.g1,D g],D 0]))))):aO X.QH #[.agg c.T,D g] w0 F Q:=bh [.agg (gX.bN.enc c),cn g] h
theorem ayX(h:aG w0 λa=>aa w0 F w0 Q (.agg #[D 0,D 0, .bool false,D 0, .int .u8 0, .int .u8 0, .int .u8 0, .int .u8 0,D 0, .int .u8 0, .int .u8 0, .int .u8 0, .int .u8 0, .int .u8 0, .bool false,D 0,D 0,D 0])):aO X.Jb #[] w0 F Q:=bh [] h
theorem ayZ(s:eL)(h:aG w0 λa=>aG w0 λb=>dX 0 s.az.row (bG s.az.row 1000 (dX 0 s.az.ae (bG s.az.ae 1000 (a7 w0 F [a,b] w0 [(a,G.hO),(b,G.bR)] X.EZ #[.agg s.p.T] .bool λe f=>(f=true->cC w0 e [(a,G.hO),(b,G.bR)] X.DP #[.agg s.cs.T] λg i j=>xm w0 F Q i [a,b] g j)/\jW w0 F Q f e) (aa w0 F w0 Q (.bool false))) (aa w0 F w0 Q (.bool false))) (aa w0 F w0 Q (.bool false))) (aa w0 F w0 Q (.bool false))):aO X.Jc #[.agg s.T] w0 F Q:=bh [.agg (eL.bN.enc s)] h
theorem ayY(c:Cu)(p:aT)(origin:Bool)(s:gX)(h:aG w0 λa=>aG w0 λb=>aG w0 λd=>aG w0 λe=>aG w0 λf=>a7 w0 F [a,b,d,e,f] w0 [(a,G.bR),(b,G.b_),(d,G.vQ),(e,G.hO),(f,G.hO)] X.Jc #[.agg #[D c.row,D c.ae, .bool c.dC,D p.f.k, .int .u8 p.f.i, .int .u8 p.f.r, .int .u8 p.f.g, .int .u8 p.f.b,D p.b.k, .int .u8 p.b.i, .int .u8 p.b.r, .int .u8 p.b.g, .int .u8 p.b.b, .int .u8 p.eo, .bool origin,D s.aR,D s.g1,D s.gO]] .bool λj k=>Pk w0 F Q k j [e]/\(k=true->bn w0 F j [e] Q (.tuple #[.agg #[D c.row,D c.ae, .bool c.dC,D p.f.k, .int .u8 p.f.i, .int .u8 p.f.r, .int .u8 p.f.g, .int .u8 p.f.b,D p.b.k, .int .u8 p.b.i, .int .u8 p.b.r, .int .u8 p.b.g, .int .u8 p.b.b, .int .u8 p.eo, .bool origin,D s.aR,D s.g1,D s.gO],D 0]))):aO X.Vn #[.agg c.T, .agg p.T, .bool origin, .agg s.T] w0 F Q:=bh [.agg (Cu.bN.enc c), .agg (aT.bN.enc p), .bool (bL.ok origin), .agg (gX.bN.enc s)] h
theorem ay0(a:dy)(h:YG w0 F Q a):aO X.Vo #[.agg a.T] w0 F Q:=bh [.agg (dy.bN.enc a)] h
theorem ayE(an:Int)(r:dz)(h:aG w0 λa=>dX 1 an (dX an 1000 (dX 0 r.bf (dX r.bf r.b7 (aa w0 F w0 Q (.bool (bL.val (.lt r.b7 an)))) (aa w0 F w0 Q (.bool false))) (aa w0 F w0 Q (.bool false))) (aa w0 F w0 Q (.bool false))) (aa w0 F w0 Q (.bool false))):aO X.U3 #[D an, .agg r.T] w0 F Q:=bh [cn an, .agg (dz.bN.enc r)] h
theorem ayG(an:Int)(h:aG w0 λa=>bG an 1 (aa w0 F w0 Q (.tuple #[.agg #[D 0,D 0],D 2])) (bG 1000 an (aa w0 F w0 Q (.tuple #[.agg #[D 0,D 0],D 2])) (ay (an-1)/\aa w0 F w0 Q (.tuple #[.agg #[D 0,D (an-1)],D 0])))):aO X.I4 #[D an] w0 F Q:=bh [cn an] h
theorem ayv(c:jO)(h:aG w0 λa=>a' c.k 0 (∃b:Bool,(∀d:World,(Op.equal G.rV (.agg c.T) (.agg #[D 0, .int .u8 0, .int .u8 0, .int .u8 0, .int .u8 0])).run Tryz.prog d= .ok b d)/\aa w0 F w0 Q (.bool b)) (a' c.k 1 (a7 w0 F [a] w0 [(a,G.rV)] X.EY #[.int .u8 c.i] Az λe f=>∃g:Bool,Y3 c f g/\aa w0 F e Q (.bool g)) (a' c.k 2 (a7 w0 F [a] w0 [(a,G.rV)] X.Nk #[.int .u8 c.r, .int .u8 c.g, .int .u8 c.b] Az λe f=>∃g:Bool,Y3 c f g/\aa w0 F e Q (.bool g)) (aa w0 F w0 Q (.bool false))))):aO X.Nl #[.agg c.T] w0 F Q:=bh [.agg (jO.bN.enc c)] h
theorem ayu(p:aT)(h:aG w0 λa=>a7 w0 F [a] w0 [(a,G.b_)] X.Nl #[.agg p.f.T] .bool λd e=>(e=true->cC w0 d [(a,G.b_)] X.Nl #[.agg p.b.T] λf g i=>xm w0 F Q g [a] f i)/\jW w0 F Q e d):aO X.EZ #[.agg p.T] w0 F Q:=bh [.agg (aT.bN.enc p)] h
theorem ays(n:Int)(h:aG w0 λa=>aa w0 F w0 Q (.agg #[D 1, .int .u8 n, .int .u8 0, .int .u8 0, .int .u8 0])):aO X.EY #[.int .u8 n] w0 F Q:=bh [.int .u8 n] h
theorem ayt(r g b:Int)(h:aG w0 λa=>aa w0 F w0 Q (.agg #[D 2, .int .u8 0, .int .u8 r, .int .u8 g, .int .u8 b])):aO X.Nk #[.int .u8 r, .int .u8 g, .int .u8 b] w0 F Q:=bh [.int .u8 r, .int .u8 g, .int .u8 b] h
theorem aw5(p:aT)(h:aG w0 λa=>aG w0 λb=>aa w0 F w0 Q (.agg #[.int .i32 0, .int .i32 0, .int .i32 0, .int .i32 0,D 1,D p.f.k, .int .u8 p.f.i, .int .u8 p.f.r, .int .u8 p.f.g, .int .u8 p.f.b,D p.b.k, .int .u8 p.b.i, .int .u8 p.b.r, .int .u8 p.b.g, .int .u8 p.b.b, .int .u8 p.eo])):aO X.uS #[.agg p.T] w0 F Q:=bh [.agg (aT.bN.enc p)] h
theorem aw9(p:aT)(h:aG w0 λa=>aG w0 λb=>aa w0 F w0 Q (.agg #[.int .i32 0, .int .i32 0, .int .i32 0, .int .i32 0,D 0,D p.f.k, .int .u8 p.f.i, .int .u8 p.f.r, .int .u8 p.f.g, .int .u8 p.f.b,D p.b.k, .int .u8 p.b.i, .int .u8 p.b.r, .int .u8 p.b.g, .int .u8 p.b.b, .int .u8 p.eo])):aO X.KO #[.agg p.T] w0 F Q:=bh [.agg (aT.bN.enc p)] h
theorem aw'(c:bC)(h:aG w0 λa=>aa w0 F w0 Q (.bool (bL.val (.fF (.eq c.r 0))))):aO X.KP #[.agg c.T] w0 F Q:=bh [.agg (bC.bN.enc c)] h
theorem aAD(r:Int)(h:dX 0 r (dX r 1114111 (bG r 55296 (aa w0 F w0 Q (.bool true)) (aa w0 F w0 Q (.bool (bL.val (.lt 57343 r))))) (aa w0 F w0 Q (.bool false))) (aa w0 F w0 Q (.bool false))):aO X.Jv #[.int .i32 r] w0 F Q:=bh [.int .i32 r] h
theorem ayk(r first yj:Int)(h:dX first r (aa w0 F w0 Q (.bool (bL.val (.le r yj)))) (aa w0 F w0 Q (.bool false))):aO X.yz #[.int .i32 r, .int .i32 first, .int .i32 yj] w0 F Q:=bh [.int .i32 r, .int .i32 first, .int .i32 yj] h
theorem aw2(mode:Int)(h:a' mode 47 (aa w0 F w0 Q (.bool true)) (a' mode 1047 (aa w0 F w0 Q (.bool true)) (aa w0 F w0 Q (.bool (bL.val (.eq mode 1049)))))):aO X.Ks #[D mode] w0 F Q:=bh [cn mode] h
theorem aw1(bV:aT)(h:aG w0 λa=>∀b:World,Pu w0 F Q b [(a,G.b_)] bV [a]):aO X.Kr #[.agg bV.T] w0 F Q:=bh [.agg (aT.bN.enc bV)] h
theorem ahw(p:aT)(h:aG w0 λa=>∀b:World,Pu w0 F Q b [(a,G.b_)] p [a]):aO X.D3 #[.agg p.T] w0 F Q:=bh [.agg (aT.bN.enc p)] h
theorem axW(h:aG w0 λa=>aa w0 F w0 Q (.agg #[.bool true, .bool false, .bool false, .bool true, .bool false, .bool false, .bool false,D 0,D 0])):aO X.MP #[] w0 F Q:=bh [] h
theorem ahE(n vj cy:Int)(h:aa w0 F w0 Q (D (max vj (min n cy)))):aO X.FJ #[D n,D vj,D cy] w0 F Q:=bh [cn n,cn vj,cn cy] h
theorem ahC(c:fJ)(h:YK w0 F Q c):aO X.N1 #[.agg c.T] w0 F Q:=bh [.agg (fJ.bN.enc c)] h
end Go.Proofs.YtimbpmnbbfeogaaGreatDoor
namespace Go.Proofs.YtimbpmnbbfeogaaGreatDoor
open Go Go.RowKit Go.Sy Go.Rep
theorem aeE(n:Nat)(x y z x' FT Dk:Int)(w:World):(Op.equalIn (n+2) G.P2 (.agg #[.int .i32 x, .int .i32 y, .int .i32 z]) (.agg #[.int .i32 x', .int .i32 FT, .int .i32 Dk])).run Tryz.prog w= .ok (decide (x=x')&&(decide (y=FT)&&decide (z=Dk))) w:=by
 rw[Op.equalIn];simp[go_sem,show List.range' 0 3=[0,1,2] from rfl]
 repeat' split
 all_goals simp[*]
theorem alE(x y z x' FT Dk:Int)(w:World):(Op.equal G.P2 (.agg #[.int .i32 x, .int .i32 y, .int .i32 z]) (.agg #[.int .i32 x', .int .i32 FT, .int .i32 Dk])).run Tryz.prog w= .ok (decide (x=x')&&(decide (y=FT)&&decide (z=Dk))) w:=by
 have:=aeE 9998 x y z x' FT Dk w;simp[Op.equal,Op.maxDepth,go_sem,this]
theorem Rh(a b:jO)(w:World):(Op.equal G.rV (.agg a.T) (.agg b.T)).run Tryz.prog w= .ok (decide (a=b)) w:=by
 obtain⟨dd,a2,a3,a4,a5⟩:=a;obtain⟨b1,b2,b3,p8,xC⟩:=b;simp only[jO.mk.injEq];simp[Op.equal,Op.maxDepth,go_sem]
 repeat' split
 all_goals simp[*]
theorem Ri(a b:aT)(w:World):(Op.equal G.b_ (.agg a.T) (.agg b.T)).run Tryz.prog w= .ok (decide (a=b)) w:=by
 obtain⟨⟨dd,a2,a3,a4,a5⟩,⟨iG,nC,nD,a9,Ba⟩,xx⟩:=a;obtain⟨⟨b1,b2,b3,p8,xC⟩,⟨zb,nF,Bg,ZB,Kv⟩,ajA⟩:=b;simp only[jO.mk.injEq,aT.mk.injEq];simp[Op.equal,Op.maxDepth,go_sem]
 repeat' split
 all_goals simp[*]
theorem Rg(a b:bC)(w:World):(Op.equal G.Cell (.agg a.T) (.agg b.T)).run Tryz.prog w= .ok (decide (a=b)) w:=by
 obtain⟨xy,Bb,Bc,Bd,PZ,⟨⟨dd,a2,a3,a4,a5⟩,⟨iG,nC,nD,a9,Ba⟩,xx⟩⟩:=a;obtain⟨ajB,ajC,Kw,ajD,ajE,⟨⟨b1,b2,b3,p8,xC⟩,⟨zb,nF,Bg,ZB,Kv⟩,ajA⟩⟩:=b;simp only[jO.mk.injEq,aT.mk.injEq,bC.mk.injEq];have hm:=λx y z u v t W=>aeE 9997 x y z u v t W
 simp[Op.equal,Op.maxDepth,go_sem,hm]
 by_cases h12:xy=ajB
 case neg=>simp[h12]
 subst h12
 by_cases Hd:Bb=ajC
 case neg=>simp[Hd]
 subst Hd
 by_cases h14:Bc=Kw
 case neg=>simp[h14]
 subst h14
 by_cases Lx:Bd=ajD
 case neg=>simp[Lx]
 subst Lx
 by_cases Ly:PZ=ajE
 case neg=>simp[Ly]
 subst Ly;simp
 repeat' split
 all_goals simp[*]
theorem alD(a b:Cu)(w:World):(Op.equal G.bR (.agg a.T) (.agg b.T)).run Tryz.prog w= .ok (decide (a.row=b.row)&&(decide (a.ae=b.ae)&&decide (a.dC=b.dC))) w:=by
 obtain⟨dd,a2,a3⟩:=a;obtain⟨b1,b2,b3⟩:=b;simp[Op.equal,Op.maxDepth,go_sem]
 repeat' split
 all_goals simp[*]
variable{w0:World}{F:Nat->Prop}{Q:Value->World->Prop}
theorem aya(n low high:Int)(h:aa w0 F w0 Q (D (max low (min n high)))):aO X.EO #[D n,D low,D high] w0 F Q:=bh [cn n,cn low,cn high] h
theorem ayb(a:dy)(h:YG w0 F Q a):aO X.MW #[.agg a.T] w0 F Q:=bh [.agg (dy.bN.enc a)] h
theorem ax9(a:dy)(c:Cu)(h:aG w0 λb=>aG w0 λd=>a7 w0 F [b,d] w0 [(b,G.fI),(d,G.bR)] X.MW #[.agg a.T] .bool λg i=>jW w0 F Q i g/\(i=true->bG c.row 0 (aa w0 F g Q (.bool false)) (dX a.an c.row (aa w0 F g Q (.bool false)) (bG c.ae 0 (aa w0 F g Q (.bool false)) (dX a.ai c.ae (aa w0 F g Q (.bool false)) (gL c.dC (aa w0 F g Q (.bool true)) (ay (a.ai-1)/\aa w0 F g Q (.bool (bL.val (.eq c.ae (a.ai-1))))))))))):aO X.Ud #[.agg a.T, .agg c.T] w0 F Q:=bh [.agg (dy.bN.enc a), .agg (Cu.bN.enc c)] h
theorem ax'(a:dy)(c:Cu)(n:Int)(h:aG w0 λb=>aG w0 λd=>a7 w0 F [b,d] w0 [(b,G.fI),(d,G.bR)] X.Ud #[.agg a.T, .agg c.T] .bool λg i=>vO w0 F Q i g/\(i=true->bG n 0 (aa w0 F g Q (D 2)) (aa w0 F g Q (D 0)))):aO X.yp #[.agg a.T, .agg c.T,D n] w0 F Q:=bh [.agg (dy.bN.enc a), .agg (Cu.bN.enc c),cn n] h
theorem ax4(a:dy)(c:Cu)(n:Int)(h:aG w0 λb=>aG w0 λd=>aG w0 λe=>a7 w0 F [b,d,e] w0 [(b,G.fI),(d,G.bR),(e,G.bR)] X.yp #[.agg a.T, .agg c.T,D n] D λi j=>uF w0 F Q j i [e]/\(j=0->ay (c.ae-(min n c.ae))/\bn w0 F i [e] Q (.tuple #[.agg #[D c.row,D (c.ae-(min n c.ae)), .bool false],D 0]))):aO X.MV #[.agg a.T, .agg c.T,D n] w0 F Q:=bh [.agg (dy.bN.enc a), .agg (Cu.bN.enc c),cn n] h
theorem ax6(a:dy)(c:Cu)(n:Int)(h:aG w0 λb=>aG w0 λd=>aG w0 λe=>a7 w0 F [b,d,e] w0 [(b,G.fI),(d,G.bR),(e,G.bR)] X.yp #[.agg a.T, .agg c.T,D n] D λi j=>uF w0 F Q j i [e]/\(j=0->ay (a.ai-1)/\ay ((a.ai-1)-c.ae)/\ay (c.ae+(min n ((a.ai-1)-c.ae)))/\bn w0 F i [e] Q (.tuple #[.agg #[D c.row,D (c.ae+(min n ((a.ai-1)-c.ae))), .bool false],D 0]))):aO X.Ua #[.agg a.T, .agg c.T,D n] w0 F Q:=bh [.agg (dy.bN.enc a), .agg (Cu.bN.enc c),cn n] h
theorem ax8(a:dy)(c:Cu)(n:Int)(h:aG w0 λb=>aG w0 λd=>aG w0 λe=>a7 w0 F [b,d,e] w0 [(b,G.fI),(d,G.bR),(e,G.bR)] X.yp #[.agg a.T, .agg c.T,D n] D λi j=>uF w0 F Q j i [e]/\(j=0->dX a.aq.bf c.row (ay (c.row-(min n c.row))/\bn w0 F i [e] Q (.tuple #[.agg #[D (max a.aq.bf (c.row-(min n c.row))),D c.ae, .bool false],D 0])) (ay (c.row-(min n c.row))/\bn w0 F i [e] Q (.tuple #[.agg #[D (max 0 (c.row-(min n c.row))),D c.ae, .bool false],D 0])))):aO X.Uc #[.agg a.T, .agg c.T,D n] w0 F Q:=bh [.agg (dy.bN.enc a), .agg (Cu.bN.enc c),cn n] h
theorem ax2(a:dy)(c:Cu)(n:Int)(h:aG w0 λb=>aG w0 λd=>aG w0 λe=>a7 w0 F [b,d,e] w0 [(b,G.fI),(d,G.bR),(e,G.bR)] X.yp #[.agg a.T, .agg c.T,D n] D λi j=>uF w0 F Q j i [e]/\(j=0->ay (a.an-1)/\dX c.row a.aq.b7 (ay (c.row+(min n a.an))/\bn w0 F i [e] Q (.tuple #[.agg #[D (min a.aq.b7 (c.row+(min n a.an))),D c.ae, .bool false],D 0])) (ay (c.row+(min n a.an))/\bn w0 F i [e] Q (.tuple #[.agg #[D (min (a.an-1) (c.row+(min n a.an))),D c.ae, .bool false],D 0])))):aO X.T' #[.agg a.T, .agg c.T,D n] w0 F Q:=bh [.agg (dy.bN.enc a), .agg (Cu.bN.enc c),cn n] h
theorem ax1(a:dy)(c:Cu)(ae:Int)(h:aG w0 λb=>aG w0 λd=>aG w0 λe=>a7 w0 F [b,d,e] w0 [(b,G.fI),(d,G.bR),(e,G.bR)] X.yp #[.agg a.T, .agg c.T,D 0] D λi j=>uF w0 F Q j i [e]/\(j=0->ay (a.ai-1)/\a7 w0 F [b,d,e] i [(b,G.fI),(d,G.bR),(e,G.bR)] X.EO #[D ae,D 0,D (a.ai-1)] D λm n=>bn w0 F m [e] Q (.tuple #[.agg #[D c.row,D n, .bool false],D 0]))):aO X.IE #[.agg a.T, .agg c.T,D ae] w0 F Q:=bh [.agg (dy.bN.enc a), .agg (Cu.bN.enc c),cn ae] h
theorem ayc(a:dy)(row:Int)(h:aG w0 λb=>dQ a.fy (ay (a.aq.b7-a.aq.bf)/\a7 w0 F [b] w0 [(b,G.fI)] X.EO #[D row,D 0,D (a.aq.b7-a.aq.bf)] D λe f=>ay (a.aq.bf+f)/\aa w0 F e Q (D (a.aq.bf+f))) (ay (a.an-1)/\cC w0 w0 [(b,G.fI)] X.EO #[D row,D 0,D (a.an-1)] λc d e=>fW w0 F Q d [b] c e)):aO X.MX #[.agg a.T,D row] w0 F Q:=bh [.agg (dy.bN.enc a),cn row] h
theorem ax7(a:dy)(c:Cu)(row:Int)(h:aG w0 λb=>aG w0 λd=>aG w0 λe=>a7 w0 F [b,d,e] w0 [(b,G.fI),(d,G.bR),(e,G.bR)] X.yp #[.agg a.T, .agg c.T,D 0] D λi j=>uF w0 F Q j i [e]/\(j=0->a7 w0 F [b,d,e] i [(b,G.fI),(d,G.bR),(e,G.bR)] X.MX #[.agg a.T,D row] D λm n=>bn w0 F m [e] Q (.tuple #[.agg #[D n,D c.ae, .bool false],D 0]))):aO X.Ub #[.agg a.T, .agg c.T,D row] w0 F Q:=bh [.agg (dy.bN.enc a), .agg (Cu.bN.enc c),cn row] h
theorem ax3(a:dy)(row ae:Int)(h:aG w0 λb=>aG w0 λc=>a7 w0 F [b,c] w0 [(b,G.fI),(c,G.bR)] X.MW #[.agg a.T] .bool λf g=>gL g (bn w0 F f [c] Q (.tuple #[.agg #[D 0,D 0, .bool false],D 2])) (ay (a.ai-1)/\a7 w0 F [b,c] f [(b,G.fI),(c,G.bR)] X.MX #[.agg a.T,D row] D λk l=>a7 w0 F [b,c] k [(b,G.fI),(c,G.bR)] X.EO #[D ae,D 0,D (a.ai-1)] D λo p=>bn w0 F o [c] Q (.tuple #[.agg #[D l,D p, .bool false],D 0]))):aO X.MU #[.agg a.T,D row,D ae] w0 F Q:=bh [.agg (dy.bN.enc a),cn row,cn ae] h
theorem ax5(a:dy)(c:Cu)(h:aG w0 λb=>aG w0 λd=>aG w0 λe=>cC w0 w0 [(b,G.fI),(d,G.bR),(e,G.bR)] X.IE #[.agg a.T, .agg c.T,D 0] λf g i=>∃j:Cu,∃k,bW g (.tuple #[.agg j.T,D k]) w0 F [b,d,e] f i (bn w0 F i [e] Q (.tuple #[.agg j.T,D k]))):aO X.yo #[.agg a.T, .agg c.T] w0 F Q:=bh [.agg (dy.bN.enc a), .agg (Cu.bN.enc c)] h
theorem ax_(a:dy)(c:Cu)(h:aG w0 λb=>aG w0 λd=>a7 w0 F [b,d] w0 [(b,G.fI),(d,G.bR)] X.yp #[.agg a.T, .agg c.T,D 0] D λg i=>(i≠0->aa w0 F g Q (.tuple #[D 0,D 0,D i]))/\(i=0->dQ a.fy (ay (c.row-a.aq.bf)/\aa w0 F g Q (.tuple #[D (c.row-a.aq.bf),D c.ae,D 0])) (aa w0 F g Q (.tuple #[D c.row,D c.ae,D 0])))):aO X.Ue #[.agg a.T, .agg c.T] w0 F Q:=bh [.agg (dy.bN.enc a), .agg (Cu.bN.enc c)] h
end Go.Proofs.YtimbpmnbbfeogaaGreatDoor
namespace Go.Proofs.YtimbpmnbbfeogaaGreatDoor
open Go Go.RowKit Go.Sy Go.Rep
theorem Qu{n low high:Int}:Pure X.EO #[.int .i64 n, .int .i64 low, .int .i64 high] (.int .i64 (max low (min n high))):=by
 intro w aj;refine aya n low high ?_
 repeat' (first|(refine aa.of λ_=>?_)|(refine bn.of λ_=>?_)|(refine And.intro ?_ ?_)|intro _)
 all_goals first|rfl|(unfold ay;omega)|(exfalso;first|omega|contradiction|(simp_all;done))|(simp[cF,cD,cb,cv,cG, *];done)|grind [cF,cD,cb,cv,cG]
theorem Z8{a:dy}(h:a.ok):Pure X.MW #[.agg a.T] (.bool true):=by
 obtain⟨h1,h2,aw,aZ,ca,dM,fM⟩:=h;intro w aj;refine ayb a ?_
 repeat' (first|(refine aa.of λ_=>?_)|(refine bn.of λ_=>?_)|(refine And.intro ?_ ?_)|intro _)
 all_goals first|rfl|(unfold ay;omega)|(exfalso;first|omega|contradiction|(simp_all;done))|(simp[cF,cD,cb,cv,cG, *];done)|grind [cF,cD,cb,cv,cG]
theorem aj7{a:dy}{c:Cu}(h:a.ok)(hc:c.ok a):Pure X.Ud #[.agg a.T, .agg c.T] (.bool true):=by
 have hr:=h;obtain⟨h1,h2,aw,aZ,ca,dM,fM⟩:=h;obtain⟨a8,aK,k3,k4,dW⟩:=hc;intro w aj;refine ax9 a c ?_
 repeat' (first|(refine aa.of λ_=>?_)|(refine bn.of λ_=>?_)|(refine Pure.aH (Z8 hr) gv λ_ hk hl=>?_;first|refine⟨_,rfl,hk.O,?_⟩|refine⟨_,_,rfl,hk.O,?_⟩|refine⟨_,_,_,rfl,hk.O,?_⟩)|(refine And.intro ?_ ?_)|intro _)
 all_goals first|rfl|(unfold ay;omega)|(exfalso;first|omega|contradiction|(simp_all;done))|(simp[cF,cD,cb,cv,cG, *];done)|grind [cF,cD,cb,cv,cG]
theorem Bo{a:dy}{c:Cu}{n:Int}(h:a.ok)(hc:c.ok a)(hn:0<=n):Pure X.yp #[.agg a.T, .agg c.T, .int .i64 n] (.int .i64 0):=by
 intro w aj;refine ax' a c n ?_
 repeat' (first|(refine aa.of λ_=>?_)|(refine bn.of λ_=>?_)|(refine Pure.aH (aj7 h hc) gv λ_ hk hl=>?_;first|refine⟨_,rfl,hk.O,?_⟩|refine⟨_,_,rfl,hk.O,?_⟩|refine⟨_,_,_,rfl,hk.O,?_⟩)|(refine And.intro ?_ ?_)|intro _)
 all_goals first|rfl|(unfold ay;omega)|(exfalso;first|omega|contradiction|(simp_all;done))|(simp[cF,cD,cb,cv,cG, *];done)|grind [cF,cD,cb,cv,cG]
theorem Z7{a:dy}{c:Cu}{n:Int}(h:a.ok)(hc:c.ok a)(hn:0<=n):Pure X.MV #[.agg a.T, .agg c.T, .int .i64 n] (.tuple #[.agg (Cu.T ⟨c.row,c.ae-min n c.ae,false⟩), .int .i64 0]):=by
 have hk:=Bo h hc hn;obtain⟨h1,h2,aw,aZ,ca,dM,fM⟩:=h;obtain⟨a8,aK,k3,k4,dW⟩:=hc;intro w aj;refine ax4 a c n ?_
 repeat' (first|(refine aa.of λ_=>?_)|(refine bn.of λ_=>?_)|(refine Pure.aH (hk) gv λ_ hk hl=>?_;first|refine⟨_,rfl,hk.O,?_⟩|refine⟨_,_,rfl,hk.O,?_⟩|refine⟨_,_,_,rfl,hk.O,?_⟩)|(refine And.intro ?_ ?_)|intro _)
 all_goals first|rfl|(unfold ay;omega)|(exfalso;first|omega|contradiction|(simp_all;done))|(simp[cF,cD,cb,cv,cG, *];done)|grind [cF,cD,cb,cv,cG]
theorem aj4{a:dy}{c:Cu}{n:Int}(h:a.ok)(hc:c.ok a)(hn:0<=n):Pure X.Ua #[.agg a.T, .agg c.T, .int .i64 n] (.tuple #[.agg (Cu.T ⟨c.row,c.ae+min n (a.ai-1-c.ae),false⟩), .int .i64 0]):=by
 have hk:=Bo h hc hn;obtain⟨h1,h2,aw,aZ,ca,dM,fM⟩:=h;obtain⟨a8,aK,k3,k4,dW⟩:=hc;intro w aj;refine ax6 a c n ?_
 repeat' (first|(refine aa.of λ_=>?_)|(refine bn.of λ_=>?_)|(refine Pure.aH (hk) gv λ_ hk hl=>?_;first|refine⟨_,rfl,hk.O,?_⟩|refine⟨_,_,rfl,hk.O,?_⟩|refine⟨_,_,_,rfl,hk.O,?_⟩)|(refine And.intro ?_ ?_)|intro _)
 all_goals first|rfl|(unfold ay;omega)|(exfalso;first|omega|contradiction|(simp_all;done))|(simp[cF,cD,cb,cv,cG, *];done)|grind [cF,cD,cb,cv,cG]
def Dj(a:dy)(c:Cu):Int:=if a.aq.bf<=c.row then a.aq.bf else 0
def Bk(a:dy)(c:Cu):Int:=if c.row<=a.aq.b7 then a.aq.b7 else a.an-1
def nS(a:dy)(row:Int):Int:=if a.fy=true then a.aq.bf+max 0 (min row (a.aq.b7-a.aq.bf)) else max 0 (min row (a.an-1))
theorem aj6{a:dy}{c:Cu}{n:Int}(h:a.ok)(hc:c.ok a)(hn:0<=n):Pure X.Uc #[.agg a.T, .agg c.T, .int .i64 n] (.tuple #[.agg (Cu.T ⟨max (Dj a c) (c.row-min n c.row),c.ae,false⟩), .int .i64 0]):=by
 have hk:=Bo h hc hn;obtain⟨h1,h2,aw,aZ,ca,dM,fM⟩:=h;obtain⟨a8,aK,k3,k4,dW⟩:=hc;intro w aj;refine ax8 a c n ?_
 repeat' (first|(refine aa.of λ_=>?_)|(refine bn.of λ_=>?_)|(refine Pure.aH (hk) gv λ_ hk hl=>?_;first|refine⟨_,rfl,hk.O,?_⟩|refine⟨_,_,rfl,hk.O,?_⟩|refine⟨_,_,_,rfl,hk.O,?_⟩)|(refine And.intro ?_ ?_)|intro _)
 all_goals first|rfl|(unfold ay;omega)|(exfalso;first|omega|contradiction|(simp_all;done))|(simp[cF,cD,cb,cv,cG, *,Dj];done)|grind [cF,cD,cb,cv,cG,Dj]
theorem aj3{a:dy}{c:Cu}{n:Int}(h:a.ok)(hc:c.ok a)(hn:0<=n):Pure X.T' #[.agg a.T, .agg c.T, .int .i64 n] (.tuple #[.agg (Cu.T ⟨min (Bk a c) (c.row+min n a.an),c.ae,false⟩), .int .i64 0]):=by
 have hk:=Bo h hc hn;obtain⟨h1,h2,aw,aZ,ca,dM,fM⟩:=h;obtain⟨a8,aK,k3,k4,dW⟩:=hc;intro w aj;refine ax2 a c n ?_
 repeat' (first|(refine aa.of λ_=>?_)|(refine bn.of λ_=>?_)|(refine Pure.aH (hk) gv λ_ hk hl=>?_;first|refine⟨_,rfl,hk.O,?_⟩|refine⟨_,_,rfl,hk.O,?_⟩|refine⟨_,_,_,rfl,hk.O,?_⟩)|(refine And.intro ?_ ?_)|intro _)
 all_goals first|rfl|(unfold ay;omega)|(exfalso;first|omega|contradiction|(simp_all;done))|(simp[cF,cD,cb,cv,cG, *,Bk];done)|grind [cF,cD,cb,cv,cG,Bk]
theorem KJ{a:dy}{c:Cu}{ae:Int}(h:a.ok)(hc:c.ok a):Pure X.IE #[.agg a.T, .agg c.T, .int .i64 ae] (.tuple #[.agg (Cu.T ⟨c.row,max 0 (min ae (a.ai-1)),false⟩), .int .i64 0]):=by
 have hk:=Bo h hc (n4 0);obtain⟨h1,h2,aw,aZ,ca,dM,fM⟩:=h;obtain⟨a8,aK,k3,k4,dW⟩:=hc;intro w aj;refine ax1 a c ae ?_
 repeat' (first|(refine aa.of λ_=>?_)|(refine bn.of λ_=>?_)|(refine Pure.aH (hk) gv λ_ hk hl=>?_;first|refine⟨_,rfl,hk.O,?_⟩|refine⟨_,_,rfl,hk.O,?_⟩|refine⟨_,_,_,rfl,hk.O,?_⟩)|(refine Pure.aH (Qu) gv λ_ hk hl=>?_;first|refine⟨_,rfl,hk.O,?_⟩|refine⟨_,_,rfl,hk.O,?_⟩|refine⟨_,_,_,rfl,hk.O,?_⟩)|(refine And.intro ?_ ?_)|intro _)
 all_goals first|rfl|(unfold ay;omega)|(exfalso;first|omega|contradiction|(simp_all;done))|(simp[cF,cD,cb,cv,cG, *];done)|grind [cF,cD,cb,cv,cG]
theorem Z9{a:dy}{row:Int}(h:a.ok):Pure X.MX #[.agg a.T, .int .i64 row] (.int .i64 (nS a row)):=by
 obtain⟨h1,h2,aw,aZ,ca,dM,fM⟩:=h;intro w aj;refine ayc a row ?_
 repeat' (first|(refine aa.of λ_=>?_)|(refine bn.of λ_=>?_)|(refine Pure.aH (Qu) gv λ_ hk hl=>?_;first|refine⟨_,rfl,hk.O,?_⟩|refine⟨_,_,rfl,hk.O,?_⟩|refine⟨_,_,_,rfl,hk.O,?_⟩)|(refine And.intro ?_ ?_)|intro _)
 all_goals first|rfl|(unfold ay;omega)|(exfalso;first|omega|contradiction|(simp_all;done))|(simp[cF,cD,cb,cv,cG, *,nS];done)|grind [cF,cD,cb,cv,cG,nS]
theorem aj5{a:dy}{c:Cu}{row:Int}(h:a.ok)(hc:c.ok a):Pure X.Ub #[.agg a.T, .agg c.T, .int .i64 row] (.tuple #[.agg (Cu.T ⟨nS a row,c.ae,false⟩), .int .i64 0]):=by
 have hk:=Bo h hc (n4 0);have hr:=λr=>Z9 (row:=r) h;obtain⟨h1,h2,aw,aZ,ca,dM,fM⟩:=h;obtain⟨a8,aK,k3,k4,dW⟩:=hc
 intro w aj;refine ax7 a c row ?_
 repeat' (first|(refine aa.of λ_=>?_)|(refine bn.of λ_=>?_)|(refine Pure.aH (hk) gv λ_ hk hl=>?_;first|refine⟨_,rfl,hk.O,?_⟩|refine⟨_,_,rfl,hk.O,?_⟩|refine⟨_,_,_,rfl,hk.O,?_⟩)|(refine Pure.aH (hr _) gv λ_ hk hl=>?_;first|refine⟨_,rfl,hk.O,?_⟩|refine⟨_,_,rfl,hk.O,?_⟩|refine⟨_,_,_,rfl,hk.O,?_⟩)|(refine And.intro ?_ ?_)|intro _)
 all_goals first|rfl|(unfold ay;omega)|(exfalso;first|omega|contradiction|(simp_all;done))|(simp[cF,cD,cb,cv,cG, *];done)|grind [cF,cD,cb,cv,cG]
theorem Z6{a:dy}{row ae:Int}(h:a.ok):Pure X.MU #[.agg a.T, .int .i64 row, .int .i64 ae] (.tuple #[.agg (Cu.T ⟨nS a row,max 0 (min ae (a.ai-1)),false⟩), .int .i64 0]):=by
 have hk:=Z8 h;have hr:=λr=>Z9 (row:=r) h;obtain⟨h1,h2,aw,aZ,ca,dM,fM⟩:=h
 intro w aj;refine ax3 a row ae ?_
 repeat' (first|(refine aa.of λ_=>?_)|(refine bn.of λ_=>?_)|(refine Pure.aH (hk) gv λ_ hk hl=>?_;first|refine⟨_,rfl,hk.O,?_⟩|refine⟨_,_,rfl,hk.O,?_⟩|refine⟨_,_,_,rfl,hk.O,?_⟩)|(refine Pure.aH (hr _) gv λ_ hk hl=>?_;first|refine⟨_,rfl,hk.O,?_⟩|refine⟨_,_,rfl,hk.O,?_⟩|refine⟨_,_,_,rfl,hk.O,?_⟩)|(refine Pure.aH (Qu) gv λ_ hk hl=>?_;first|refine⟨_,rfl,hk.O,?_⟩|refine⟨_,_,rfl,hk.O,?_⟩|refine⟨_,_,_,rfl,hk.O,?_⟩)|(refine And.intro ?_ ?_)|intro _)
 all_goals first|rfl|(unfold ay;omega)|(exfalso;first|omega|contradiction|(simp_all;done))|(simp[cF,cD,cb,cv,cG, *];done)|grind [cF,cD,cb,cv,cG]
theorem KK{a:dy}{c:Cu}(h:a.ok)(hc:c.ok a):Pure X.yo #[.agg a.T, .agg c.T] (.tuple #[.agg (Cu.T ⟨c.row,max 0 (min 0 (a.ai-1)),false⟩), .int .i64 0]):=by
 intro w aj;refine ax5 a c ?_
 repeat' (first|(refine aa.of λ_=>?_)|(refine bn.of λ_=>?_)|(refine Pure.aH (KJ h hc) gv λ_ hk hl=>?_;first|refine⟨_,rfl,hk.O,?_⟩|refine⟨_,_,rfl,hk.O,?_⟩|refine⟨_,_,_,rfl,hk.O,?_⟩)|(refine And.intro ?_ ?_)|intro _)
 all_goals first|rfl|(unfold ay;omega)|(exfalso;first|omega|contradiction|(simp_all;done))|(simp[cF,cD,cb,cv,cG, *];done)|grind [cF,cD,cb,cv,cG]
theorem aj8{a:dy}{c:Cu}(h:a.ok)(hc:c.ok a):Pure X.Ue #[.agg a.T, .agg c.T] (.tuple #[.int .i64 (if a.fy=true then c.row-a.aq.bf else c.row), .int .i64 c.ae, .int .i64 0]):=by
 have hk:=Bo h hc (n4 0);obtain⟨h1,h2,aw,aZ,ca,dM,fM⟩:=h;obtain⟨a8,aK,k3,k4,dW⟩:=hc;intro w aj;refine ax_ a c ?_
 repeat' (first|(refine aa.of λ_=>?_)|(refine bn.of λ_=>?_)|(refine Pure.aH (hk) gv λ_ hk hl=>?_;first|refine⟨_,rfl,hk.O,?_⟩|refine⟨_,_,rfl,hk.O,?_⟩|refine⟨_,_,_,rfl,hk.O,?_⟩)|(refine And.intro ?_ ?_)|intro _)
 all_goals first|rfl|(unfold ay;omega)|(exfalso;first|omega|contradiction|(simp_all;done))|(simp[cF,cD,cb,cv,cG, *];done)|grind [cF,cD,cb,cv,cG]
def ub(c:jO):Bool:=if c.k=0 then decide (c=⟨0,0,0,0,0⟩) else if c.k=1 then decide (c=⟨1,c.i,0,0,0⟩) else if c.k=2 then decide (c=⟨2,0,c.r,c.g,c.b⟩) else false
def h0(p:aT):Bool:=ub p.f&&ub p.b
def ed(p:aT):bC:=⟨0,0,0,0,1,p⟩
def C8(p:aT):bC:=⟨0,0,0,0,0,p⟩
def vF:jO:=⟨0,0,0,0,0⟩
def jg:aT:=⟨vF,vF,0⟩
def np:Cu:=⟨0,0,false⟩
def lL:gX:=⟨0,0,0⟩
def h7:eL:=⟨np,jg,false,lL⟩
def aBz:dz:=⟨0,0⟩
def uc(k:Int):Bool:=decide (0<=k)&&decide (k<2)
def o3(c:gX):Bool:=uc c.aR&&uc c.g1&&(decide (c.gO=0)||decide (c.gO=1))
def mK(s:eL):Bool:=decide (0<=s.az.row)&&decide (s.az.row<1000)&&decide (0<=s.az.ae)&&decide (s.az.ae<1000)&&h0 s.p&&o3 s.cs
def wN(r:Int):Bool:=decide (0<=r)&&decide (r<=1114111)&&(decide (r<55296)||decide (57343<r))
def ED(m:Int):Bool:=decide (m=47)||decide (m=1047)||decide (m=1049)
theorem Qv{n:Int}:Pure X.EY #[.int .u8 n] (.agg (jO.T ⟨1,n,0,0,0⟩)):=by
 intro w aj;refine ays n ?_
 repeat' (first|(refine aa.of λ_=>?_)|(refine bn.of λ_=>?_)|(refine And.intro ?_ ?_)|intro _)
 all_goals first|rfl|(unfold ay;omega)|(exfalso;first|omega|contradiction|(simp_all;done))|(simp[cF,cD,cb,cv,cG, *];done)|grind [cF,cD,cb,cv,cG]
theorem Z_{r g b:Int}:Pure X.Nk #[.int .u8 r, .int .u8 g, .int .u8 b] (.agg (jO.T ⟨2,0,r,g,b⟩)):=by
 intro w aj;refine ayt r g b ?_
 repeat' (first|(refine aa.of λ_=>?_)|(refine bn.of λ_=>?_)|(refine And.intro ?_ ?_)|intro _)
 all_goals first|rfl|(unfold ay;omega)|(exfalso;first|omega|contradiction|(simp_all;done))|(simp[cF,cD,cb,cv,cG, *];done)|grind [cF,cD,cb,cv,cG]
theorem aj9{c:jO}:Pure X.Nl #[.agg c.T] (.bool (ub c)):=by
 intro w aj;refine ayv c ?_
 repeat' (first|(refine aa.of λ_=>?_)|(refine bn.of λ_=>?_)|(refine Pure.aH (Qv) gv λ_ hk hl=>?_;first|refine⟨_,rfl,hk.O,?_⟩|refine⟨_,_,rfl,hk.O,?_⟩|refine⟨_,_,_,rfl,hk.O,?_⟩)|(refine Pure.aH (Z_) gv λ_ hk hl=>?_;first|refine⟨_,rfl,hk.O,?_⟩|refine⟨_,_,rfl,hk.O,?_⟩|refine⟨_,_,_,rfl,hk.O,?_⟩)|(refine⟨_,Rh c ⟨0,0,0,0,0⟩,?_⟩)|(refine⟨_,Rh c ⟨1,c.i,0,0,0⟩,?_⟩)|(refine⟨_,Rh c ⟨2,0,c.r,c.g,c.b⟩,?_⟩)|(refine And.intro ?_ ?_)|intro _)
 all_goals first|rfl|(unfold ay;omega)|(exfalso;first|omega|contradiction|(simp_all;done))|(simp[cF,cD,cb,cv,cG, *,ub];done)|grind [cF,cD,cb,cv,cG,ub]
theorem KL{p:aT}:Pure X.EZ #[.agg p.T] (.bool (h0 p)):=by
 intro w aj;refine ayu p ?_
 repeat' (first|(refine aa.of λ_=>?_)|(refine bn.of λ_=>?_)|(refine Pure.aH (aj9) gv λ_ hk hl=>?_;first|refine⟨_,rfl,hk.O,?_⟩|refine⟨_,_,rfl,hk.O,?_⟩|refine⟨_,_,_,rfl,hk.O,?_⟩)|(refine And.intro ?_ ?_)|intro _)
 all_goals first|rfl|(unfold ay;omega)|(exfalso;first|omega|contradiction|(simp_all;done))|(simp[cF,cD,cb,cv,cG, *,h0];done)|grind [cF,cD,cb,cv,cG,h0]
theorem v_{p:aT}:Pure X.uS #[.agg p.T] (.agg (ed p).T):=by
 intro w aj;refine aw5 p ?_
 repeat' (first|(refine aa.of λ_=>?_)|(refine bn.of λ_=>?_)|(refine And.intro ?_ ?_)|intro _)
 all_goals first|rfl|(unfold ay;omega)|(exfalso;first|omega|contradiction|(simp_all;done))|(simp[cF,cD,cb,cv,cG, *];done)|grind [cF,cD,cb,cv,cG]
theorem ZZ{p:aT}:Pure X.KO #[.agg p.T] (.agg (C8 p).T):=by
 intro w aj;refine aw9 p ?_
 repeat' (first|(refine aa.of λ_=>?_)|(refine bn.of λ_=>?_)|(refine And.intro ?_ ?_)|intro _)
 all_goals first|rfl|(unfold ay;omega)|(exfalso;first|omega|contradiction|(simp_all;done))|(simp[cF,cD,cb,cv,cG, *];done)|grind [cF,cD,cb,cv,cG]
theorem Z0{c:bC}:Pure X.KP #[.agg c.T] (.bool (decide (c.r≠0))):=by
 intro w aj;refine aw' c ?_
 repeat' (first|(refine aa.of λ_=>?_)|(refine bn.of λ_=>?_)|(refine And.intro ?_ ?_)|intro _)
 all_goals first|rfl|(unfold ay;omega)|(exfalso;first|omega|contradiction|(simp_all;done))|(simp[cF,cD,cb,cv,cG, *];done)|grind [cF,cD,cb,cv,cG]
theorem Z1{k:Int}:Pure X.GH #[.int .i64 k] (.bool (uc k)):=by
 intro w aj;refine axe k ?_
 repeat' (first|(refine aa.of λ_=>?_)|(refine bn.of λ_=>?_)|(refine And.intro ?_ ?_)|intro _)
 all_goals first|rfl|(unfold ay;omega)|(exfalso;first|omega|contradiction|(simp_all;done))|(simp[cF,cD,cb,cv,cG, *,uc];done)|grind [cF,cD,cb,cv,cG,uc]
theorem KH{c:gX}:Pure X.DP #[.agg c.T] (.bool (o3 c)):=by
 intro w aj;refine axd c ?_
 repeat' (first|(refine aa.of λ_=>?_)|(refine bn.of λ_=>?_)|(refine Pure.aH (Z1) gv λ_ hk hl=>?_;first|refine⟨_,rfl,hk.O,?_⟩|refine⟨_,_,rfl,hk.O,?_⟩|refine⟨_,_,_,rfl,hk.O,?_⟩)|(refine And.intro ?_ ?_)|intro _)
 all_goals first|rfl|(unfold ay;omega)|(exfalso;first|omega|contradiction|(simp_all;done))|(simp[cF,cD,cb,cv,cG, *,o3];done)|grind [cF,cD,cb,cv,cG,o3]
theorem ajX{c:gX}{g k:Int}(h:o3 c=true)(hg:0<=g)(vb:g<=1)(hk:uc k=true):Pure X.KT #[.agg c.T, .int .i64 g, .int .i64 k] (.tuple #[.agg (if g=0 then gX.T ⟨k,c.g1,c.gO⟩ else gX.T ⟨c.aR,k,c.gO⟩), .int .i64 0]):=by
 intro w aj;refine axb c g k ?_
 repeat' (first|(refine aa.of λ_=>?_)|(refine bn.of λ_=>?_)|(refine Pure.aH (KH) gv λ_ hk hl=>?_;first|refine⟨_,rfl,hk.O,?_⟩|refine⟨_,_,rfl,hk.O,?_⟩|refine⟨_,_,_,rfl,hk.O,?_⟩)|(refine Pure.aH (Z1) gv λ_ hk hl=>?_;first|refine⟨_,rfl,hk.O,?_⟩|refine⟨_,_,rfl,hk.O,?_⟩|refine⟨_,_,_,rfl,hk.O,?_⟩)|(refine And.intro ?_ ?_)|intro _)
 all_goals first|rfl|(unfold ay;omega)|(exfalso;first|omega|contradiction|(simp_all;done))|(simp[cF,cD,cb,cv,cG, *];done)|grind [cF,cD,cb,cv,cG]
theorem ajY{c:gX}{g:Int}(h:o3 c=true)(hg:0<=g)(vb:g<=1):Pure X.QH #[.agg c.T, .int .i64 g] (.tuple #[.agg (gX.T ⟨c.aR,c.g1,g⟩), .int .i64 0]):=by
 intro w aj;refine axc c g ?_
 repeat' (first|(refine aa.of λ_=>?_)|(refine bn.of λ_=>?_)|(refine Pure.aH (KH) gv λ_ hk hl=>?_;first|refine⟨_,rfl,hk.O,?_⟩|refine⟨_,_,rfl,hk.O,?_⟩|refine⟨_,_,_,rfl,hk.O,?_⟩)|(refine And.intro ?_ ?_)|intro _)
 all_goals first|rfl|(unfold ay;omega)|(exfalso;first|omega|contradiction|(simp_all;done))|(simp[cF,cD,cb,cv,cG, *];done)|grind [cF,cD,cb,cv,cG]
theorem GF:Pure X.Jb #[] (.agg h7.T):=by
 intro w aj;refine ayX ?_
 repeat' (first|(refine aa.of λ_=>?_)|(refine bn.of λ_=>?_)|(refine And.intro ?_ ?_)|intro _)
 all_goals first|rfl|(unfold ay;omega)|(exfalso;first|omega|contradiction|(simp_all;done))|(simp[cF,cD,cb,cv,cG, *];done)|grind [cF,cD,cb,cv,cG]
theorem Qw{s:eL}:Pure X.Jc #[.agg s.T] (.bool (mK s)):=by
 intro w aj;refine ayZ s ?_
 repeat' (first|(refine aa.of λ_=>?_)|(refine bn.of λ_=>?_)|(refine Pure.aH (KL) gv λ_ hk hl=>?_;first|refine⟨_,rfl,hk.O,?_⟩|refine⟨_,_,rfl,hk.O,?_⟩|refine⟨_,_,_,rfl,hk.O,?_⟩)|(refine Pure.aH (KH) gv λ_ hk hl=>?_;first|refine⟨_,rfl,hk.O,?_⟩|refine⟨_,_,rfl,hk.O,?_⟩|refine⟨_,_,_,rfl,hk.O,?_⟩)|(refine And.intro ?_ ?_)|intro _)
 all_goals first|rfl|(unfold ay;omega)|(exfalso;first|omega|contradiction|(simp_all;done))|(simp[cF,cD,cb,cv,cG, *,mK];done)|grind [cF,cD,cb,cv,cG,mK]
theorem ake{c:Cu}{p:aT}{origin:Bool}{s:gX}(h:mK ⟨c,p,origin,s⟩=true):Pure X.Vn #[.agg c.T, .agg p.T, .bool origin, .agg s.T] (.tuple #[.agg (eL.T ⟨c,p,origin,s⟩), .int .i64 0]):=by
 intro w aj;refine ayY c p origin s ?_
 repeat' (first|(refine aa.of λ_=>?_)|(refine bn.of λ_=>?_)|(refine Pure.aH (Qw (s:=⟨c,p,origin,s⟩)) gv λ_ hk hl=>?_;first|refine⟨_,rfl,hk.O,?_⟩|refine⟨_,_,rfl,hk.O,?_⟩|refine⟨_,_,_,rfl,hk.O,?_⟩)|(refine And.intro ?_ ?_)|intro _)
 all_goals first|rfl|(unfold ay;omega)|(exfalso;first|omega|contradiction|(simp_all;done))|(simp[cF,cD,cb,cv,cG, *];done)|grind [cF,cD,cb,cv,cG]
theorem akf{a:dy}(h:a.ok):Pure X.Vo #[.agg a.T] (.bool true):=by
 obtain⟨h1,h2,aw,aZ,ca,dM,fM⟩:=h;intro w aj;refine ay0 a ?_
 repeat' (first|(refine aa.of λ_=>?_)|(refine bn.of λ_=>?_)|(refine And.intro ?_ ?_)|intro _)
 all_goals first|rfl|(unfold ay;omega)|(exfalso;first|omega|contradiction|(simp_all;done))|(simp[cF,cD,cb,cv,cG, *];done)|grind [cF,cD,cb,cv,cG]
theorem aj'{an:Int}{r:dz}(h1:1<=an)(h2:an<=1000)(aw:0<=r.bf)(aZ:r.bf<=r.b7)(ca:r.b7<an):Pure X.U3 #[.int .i64 an, .agg r.T] (.bool true):=by
 intro w aj;refine ayE an r ?_
 repeat' (first|(refine aa.of λ_=>?_)|(refine bn.of λ_=>?_)|(refine And.intro ?_ ?_)|intro _)
 all_goals first|rfl|(unfold ay;omega)|(exfalso;first|omega|contradiction|(simp_all;done))|(simp[cF,cD,cb,cv,cG, *];done)|grind [cF,cD,cb,cv,cG]
theorem KM{an:Int}(h1:1<=an)(h2:an<=1000):Pure X.I4 #[.int .i64 an] (.tuple #[.agg (dz.T ⟨0,an-1⟩), .int .i64 0]):=by
 intro w aj;refine ayG an ?_
 repeat' (first|(refine aa.of λ_=>?_)|(refine bn.of λ_=>?_)|(refine And.intro ?_ ?_)|intro _)
 all_goals first|rfl|(unfold ay;omega)|(exfalso;first|omega|contradiction|(simp_all;done))|(simp[cF,cD,cb,cv,cG, *];done)|grind [cF,cD,cb,cv,cG]
theorem Qy{r:Int}:Pure X.Jv #[.int .i32 r] (.bool (wN r)):=by
 intro w aj;refine aAD r ?_
 repeat' (first|(refine aa.of λ_=>?_)|(refine bn.of λ_=>?_)|(refine And.intro ?_ ?_)|intro _)
 all_goals first|rfl|(unfold ay;omega)|(exfalso;first|omega|contradiction|(simp_all;done))|(simp[cF,cD,cb,cv,cG, *,wN];done)|grind [cF,cD,cb,cv,cG,wN]
theorem xF{r first yj:Int}:Pure X.yz #[.int .i32 r, .int .i32 first, .int .i32 yj] (.bool (decide (first<=r)&&decide (r<=yj))):=by
 intro w aj;refine ayk r first yj ?_
 repeat' (first|(refine aa.of λ_=>?_)|(refine bn.of λ_=>?_)|(refine And.intro ?_ ?_)|intro _)
 all_goals first|rfl|(unfold ay;omega)|(exfalso;first|omega|contradiction|(simp_all;done))|(simp[cF,cD,cb,cv,cG, *];done)|grind [cF,cD,cb,cv,cG]
theorem ZY{mode:Int}:Pure X.Ks #[.int .i64 mode] (.bool (ED mode)):=by
 intro w aj;refine aw2 mode ?_
 repeat' (first|(refine aa.of λ_=>?_)|(refine bn.of λ_=>?_)|(refine And.intro ?_ ?_)|intro _)
 all_goals first|rfl|(unfold ay;omega)|(exfalso;first|omega|contradiction|(simp_all;done))|(simp[cF,cD,cb,cv,cG, *,ED];done)|grind [cF,cD,cb,cv,cG,ED]
theorem Qt:Pure X.MP #[] (.agg (Md.T ⟨true,false,false,true,false,false,false,0,0⟩)):=by
 intro w aj;refine axW ?_
 repeat' (first|(refine aa.of λ_=>?_)|(refine bn.of λ_=>?_)|(refine And.intro ?_ ?_)|intro _)
 all_goals first|rfl|(unfold ay;omega)|(exfalso;first|omega|contradiction|(simp_all;done))|(simp[cF,cD,cb,cv,cG, *];done)|grind [cF,cD,cb,cv,cG]
theorem Qx{n vj cy:Int}:Pure X.FJ #[.int .i64 n, .int .i64 vj, .int .i64 cy] (.int .i64 (max vj (min n cy))):=by
 intro w aj;refine ahE n vj cy ?_
 repeat' (first|(refine aa.of λ_=>?_)|(refine bn.of λ_=>?_)|(refine And.intro ?_ ?_)|intro _)
 all_goals first|rfl|(unfold ay;omega)|(exfalso;first|omega|contradiction|(simp_all;done))|(simp[cF,cD,cb,cv,cG, *];done)|grind [cF,cD,cb,cv,cG]
theorem ass{w:World}{p:ao}{n c:Nat}{l:List Int}{v:Int}(h:eK w p n l)(hn:n<=1073741824):di X.Wo #[.slice p n c, .int .i64 v] w (.int .i64 (lG l v 0)):=by
 have hl:=h.len;refine az7 p n c v ⟨λi w'=>U bg w w'/\0<=i/\i<=n/\lG l v 0=lG (l.drop i.toNat) v i.toNat,λi=>(n-i).toNat,λbP hb=>⟨U.au hb,by omega,by omega,rfl⟩,?_⟩;intro i w1 hk ⟨hk1,aW,h1,hx⟩;refine⟨λhi=>?_,λhi=>aa.of λ_=>by rw[hx,adI _ _ _ M]⟩;obtain⟨a,e,ha⟩:=(h.O hk1).get aW hi;rw[adJ _ _ _ M] at hx;refine⟨a,e,⟨aW,hi⟩,_,ha,λhe=>aa.of λ_=>by rw[hx,aA he];congr 1;omega,λhe=>⟨by unfold ay;omega,λbw hb=>⟨⟨hk1.trans (U.au hb),by omega,by omega,?_⟩,by dsimp only;omega⟩⟩⟩;rw[hx,ag he,show(i+1).toNat=i.toNat+1 by omega]
theorem ast{w:World}{p:ao}{n c:Nat}{l:List Int}{v:Int}(h:y6 w p n l)(hn:n<=1073741824):di X.Oe #[.slice p n c, .int .i32 v] w (.int .i64 (lG l v 0)):=by
 have hl:=h.len;refine az8 p n c v ⟨λi w'=>U bg w w'/\0<=i/\i<=n/\lG l v 0=lG (l.drop i.toNat) v i.toNat,λi=>(n-i).toNat,λbP hb=>⟨U.au hb,by omega,by omega,rfl⟩,?_⟩;intro i w1 hk ⟨hk1,aW,h1,hx⟩;refine⟨λhi=>?_,λhi=>aa.of λ_=>by rw[hx,adI _ _ _ M]⟩;obtain⟨a,e,ha⟩:=(h.O hk1).get aW hi;rw[adJ _ _ _ M] at hx;refine⟨a,e,⟨aW,hi⟩,_,ha,λhe=>aa.of λ_=>by rw[hx,aA he];congr 1;omega,λhe=>⟨by unfold ay;omega,λbw hb=>⟨⟨hk1.trans (U.au hb),by omega,by omega,?_⟩,by dsimp only;omega⟩⟩⟩;rw[hx,ag he,show(i+1).toNat=i.toNat+1 by omega]
theorem afE{w:World}{p:ao}{n c:Nat}{l:List Int}{v:Int}(h:eK w p n l)(hn:n<=1073741824):di X.vB #[.slice p n c, .int .i64 v] w (.bool (decide (0<=lG l v 0))):=by
 refine az5 p n c v λw1 hb=>?_
 refine(ass (h.below hb) hn).aH λad hk=>⟨_,rfl,hk.O,aa.of λ_=>?_⟩
 rw[cD]
def EE(n:Int):Bool:=decide (0<=lG afr n 0)
def zV(n:Int):Bool:=decide (0<=lG agK n 0)
def kT(m:Md):Bool:=(decide (m.ptr=0)||EE m.ptr)&&(decide (m.gP=0)||zV m.gP)
theorem as8{w:World}(aj:Laid w){v:Int}:di X.vB #[.slice (some ⟨Y.ID,0,none⟩) 3 3, .int .i64 v] w (.bool (EE v)):=afE (G4 aj.pointers rfl) M
theorem as9{w:World}(aj:Laid w){v:Int}:di X.vB #[.slice (some ⟨Y.EN,0,none⟩) 3 3, .int .i64 v] w (.bool (zV v)):=afE (G4 aj.screens rfl) M
theorem afh{v:Int}:Pure X.vB #[.slice (some ⟨Y.ID,0,none⟩) 3 3, .int .i64 v] (.bool (EE v)):=λw aj=>as8 aj
theorem afi{v:Int}:Pure X.vB #[.slice (some ⟨Y.EN,0,none⟩) 3 3, .int .i64 v] (.bool (zV v)):=λw aj=>as9 aj
theorem arK{v:Int}:Pure X.Oe #[.slice (some ⟨Y.QI,0,none⟩) 2 2, .int .i32 v] (.int .i64 (lG u2 v 0)):=λw aj=>ast (G4 aj.finals rfl) M
variable{w0:World}{F:Nat->Prop}{Q:Value->World->Prop}
theorem az2(sR:ao)(iL wb:Nat)(target:Int)(h:∃a:Int->Int->World->Prop,∃b:Int->Int->Nat,(bm w0 λc=>a 0 (iL:Int) c)/\∀c d:Int,∀e:World,U F w0 e->a c d e->bG c d (ay (c+d)/\(0:Int)<=1/\ay (iA .u64 (IntKind.wrap .u64 (c+d)) 1)/\∃f:Addr,sR=(some f)/\((0:Int)<=(iA .u64 (IntKind.wrap .u64 (c+d)) 1)/\(iA .u64 (IntKind.wrap .u64 (c+d)) 1)<(iL:Int))/\∃g i:Int,At e f ((Int.toNat (iA .u64 (IntKind.wrap .u64 (c+d)) 1))*2) [.int .i32 g, .int .i32 i]/\b9 w0 F [] e X.AB #[.agg #[.int .i32 g, .int .i32 i], .int .i32 target] D λl m=>bG m 0 (ay ((iA .u64 (IntKind.wrap .u64 (c+d)) 1)+1)/\bm l λn=>a ((iA .u64 (IntKind.wrap .u64 (c+d)) 1)+1) d n/\b ((iA .u64 (IntKind.wrap .u64 (c+d)) 1)+1) d<b c d) (bm l λn=>a c (iA .u64 (IntKind.wrap .u64 (c+d)) 1) n/\b c (iA .u64 (IntKind.wrap .u64 (c+d)) 1)<b c d)) (bG c iL (∃f:Addr,sR=(some f)/\hG c iL/\∃g i:Int,At e f ((Int.toNat c)*2) [.int .i32 g, .int .i32 i]/\b9 w0 F [] e X.AB #[.agg #[.int .i32 g, .int .i32 i], .int .i32 target] D λl m=>aa w0 F l Q (.tuple #[D c, .bool (bL.val (.eq m 0))])) (aa w0 F e Q (.tuple #[D c, .bool false])))):aO X.Wl #[.slice sR iL wb, .int .i32 target, .func (.func X.AB) #[] #[]] w0 F Q:=eV [⟨3,[9,10],[]⟩] [] [.cJ sR iL wb, .int .i32 target, .fn X.AB [] []] h
end Go.Proofs.YtimbpmnbbfeogaaGreatDoor
namespace Go.Proofs.YtimbpmnbbfeogaaGreatDoor
open Go Go.RowKit Go.Sy Go.Rep
def KZ(a b r:Int):Int:=if b<r then-1 else if r<a then 1 else 0
def mU(G:List (Int×Int))(i:Nat):Int×Int:=G.getD i (0,0)
def q8(G:List (Int×Int))(r:Int)(i j:Nat):Nat:=
 if i<j then if KZ (mU G ((i+j)/2)).1 (mU G ((i+j)/2)).2 r<0 then q8 G r ((i+j)/2+1) j else q8 G r i ((i+j)/2) else i
termination_by j-i
def zW(G:List (Int×Int))(r:Int):Bool:=decide (q8 G r 0 G.length<G.length)&&decide (KZ (mU G (q8 G r 0 G.length)).1 (mU G (q8 G r 0 G.length)).2 r=0)
def fx(r:Int):Int:=if r<32∨(127<=r/\r<160)∨(55296<=r/\r<=57343)∨1114111<r then-1 else if zW T6 r=true then 0 else if zW Xf r=true then 2 else 1
theorem arQ(l:List (Int×Int)):(rF l).length=l.length*2:=by
 induction l with
 |nil=>rfl
 |cons c l ih=>
  show([Value.int .i32 c.1, .int .i32 c.2]++rF l).length=(l.length+1)*2;rw[gh,ih];show 2+l.length*2=_;omega
theorem arP(l:List (Int×Int))(k:Nat):(rF l).drop (k*2)=rF (l.drop k):=by
 induction k generalizing l with
 |zero=>rw[Dv];rfl
 |succ k ih=>
  cases l with
  |nil=>simp[rF]
  |cons c l=>
   show([Value.int .i32 c.1, .int .i32 c.2]++rF l).drop ((k+1)*2)=_;rw[show(k+1)*2=2+k*2 by omega,<-vH];exact ih l
theorem arR(l:List (Int×Int))(k:Nat)(h:k<l.length):[Value.int .i32 (mU l k).1, .int .i32 (mU l k).2]=((rF l).drop (k*2)).take [Value.int .i32 (mU l k).1, .int .i32 (mU l k).2].length:=by
 have:rF (l.drop k)=[Value.int .i32 (mU l k).1, .int .i32 (mU l k).2]++rF (l.drop (k+1)):=by
  rw[mw h];show[Value.int .i32 l[k].1, .int .i32 l[k].2]++rF (l.drop (k+1))=_;simp[mU,h]
 rw[arP,this];rfl
theorem mid{i j:Int}(h1:0<=i)(h2:i<=j)(aw:j<=1000000):iA .u64 (IntKind.wrap .u64 (i+j)) 1=(i+j)/2:=by
 have:IntKind.wrap .u64 (i+j)=i+j:=by
  unfold IntKind.wrap;simp[IntKind.bits,IntKind.signed];omega
 rw[this];unfold iA;show(i+j).fdiv (2^(min 1 64))=_;rw[aiu _ du];rfl
theorem afg(a b r:Int):Pure X.AB #[.agg #[.int .i32 a, .int .i32 b], .int .i32 r] (.int .i64 (KZ a b r)):=by
 intro w aj;refine aAP a b r ?_
 repeat' (first|(refine aa.of λ_=>?_)|(refine And.intro ?_ ?_)|intro _)
 all_goals first|rfl|grind [KZ]
theorem asA{w:World}{p:ao}{c n:Nat}{G:List (Int×Int)}{r:Int}(aj:Laid w)(h:Row w p n 2 (rF G))(hn:n<=1000):di X.Wl #[.slice p n c, .int .i32 r, .func (.func X.AB) #[] #[]] w (.tuple #[.int .i64 (q8 G r 0 G.length), .bool (zW G r)]):=by
 have hl:G.length=n:=by have:=h.len;rw[arQ] at this;omega
 refine az2 p n c r ⟨λi j w'=>U bg w w'/\0<=i/\i<=j/\j<=n/\q8 G r i.toNat j.toNat=q8 G r 0 G.length,λi j=>(j-i).toNat,λbP hb=>⟨U.au hb,by omega,by omega,by omega,by simp[hl]⟩,?_⟩;intro i j w1 hk ⟨hk1,aW,h1,h2,hx⟩;have get:∀k:Int,0<=k->k<n->∃a,p=some a/\At w1 a (k.toNat*2) [.int .i32 (mU G k.toNat).1, .int .i32 (mU G k.toNat).2]:=λk k0 a8=>by
  obtain⟨a,e⟩:=h.iP M;exact⟨a,e,(h.O hk1).at_ e _ (arR G k.toNat M)⟩
 refine⟨λhi=>?_,λhi=>⟨λqp=>?_,λqp=>aa.of λ_=>?_⟩⟩
 ·have hm:=mid (i:=i) (j:=j) aW h1 M
  rw[hm];obtain⟨a,e,ha⟩:=get ((i+j)/2) M M;have HV:((i+j)/2).toNat=(i.toNat+j.toNat)/2:=by omega
  refine⟨by unfold ay;omega,by omega,by unfold ay;omega,a,e,by omega,_,_,ha,λcu hb=>(afg _ _ _).aH (Laid.below hb (Laid.O hk1 aj)) λw7 e_ nJ=>⟨_,rfl,e_.O,λhc=>⟨by unfold ay;omega,λcR cr=>⟨⟨((hk1.trans (U.au hb)).trans e_).trans (U.au cr),by omega,by omega,by omega,?_⟩,by dsimp only;omega⟩⟩,λhc cW lE=>⟨⟨((hk1.trans (U.au hb)).trans e_).trans (U.au lE),by omega,by omega,by omega,?_⟩,by dsimp only;omega⟩⟩⟩
  ·rw[<-hx]
   conv=>rhs;rw[q8]
   rw[aA M,aA (by rw[<-HV];exact hc)];congr 1;omega
  ·rw[<-hx]
   conv=>rhs;rw[q8]
   rw[aA M,ag (by rw[<-HV];omega)];congr 1
 ·obtain⟨a,e,ha⟩:=get i aW qp
  have hb':q8 G r 0 G.length=i.toNat:=by rw[<-hx,q8,ag M]
  refine⟨a,e,⟨aW,qp⟩,_,_,ha,λcu hb=>(afg _ _ _).aH (Laid.below hb (Laid.O hk1 aj)) λw7 e_ nJ=>⟨_,rfl,e_.O,aa.of λ_=>?_⟩⟩;rw[cb];unfold zW;rw[hb',l8 (show i.toNat<G.length by omega),Ga];congr 4;omega
 ·have hb':q8 G r 0 G.length=i.toNat:=by rw[<-hx,q8,ag M]
  unfold zW;rw[hb',kp (show ¬i.toNat<G.length by omega),Gb];congr 4;omega
theorem afN{w:World}{p:ao}{c n:Nat}{G:List (Int×Int)}{r:Int}(aj:Laid w)(h:Row w p n 2 (rF G))(hn:n<=1000):di X.FQ #[.slice p n c, .int .i32 r] w (.bool (zW G r)):=by
 refine aAO p n c r λw1 hb=>?_
 exact(asA (Laid.below hb aj) (h.below hb) hn).aH λad hk=>⟨_,_,rfl,hk.O,aa.of λ_=>rfl⟩
theorem arL{r:Int}:Pure X.FQ #[.slice (some ⟨Y.Xg,0,none⟩) 18 18, .int .i32 r] (.bool (zW T6 r)):=λw aj=>afN aj (G4 aj.marks rfl) M
theorem arM{r:Int}:Pure X.FQ #[.slice (some ⟨Y.Xh,0,none⟩) 19 19, .int .i32 r] (.bool (zW Xf r)):=λw aj=>afN aj (G4 aj.wide rfl) M
theorem Bp{r:Int}:Pure X.uw #[.int .i32 r] (.int .i64 (fx r)):=by
 intro w aj;refine aAN r ?_
 repeat' (first|(refine aa.of λ_=>?_)|(refine bn.of λ_=>?_)|(refine Pure.aH (arL) gv λ_ hk hl=>?_;first|refine⟨_,rfl,hk.O,?_⟩|refine⟨_,_,rfl,hk.O,?_⟩|refine⟨_,_,_,rfl,hk.O,?_⟩)|(refine Pure.aH (arM) gv λ_ hk hl=>?_;first|refine⟨_,rfl,hk.O,?_⟩|refine⟨_,_,rfl,hk.O,?_⟩|refine⟨_,_,_,rfl,hk.O,?_⟩)|(refine And.intro ?_ ?_)|intro _)
 all_goals first|rfl|(unfold ay;omega)|(exfalso;first|omega|contradiction|(simp_all;done))|(simp[cF,cD,cb,cv,cG, *,fx];done)|grind [cF,cD,cb,cv,cG,fx]
theorem Z3{m:Md}:Pure X.MQ #[.agg m.T] (.bool (kT m)):=by
 intro w aj;refine axY m ?_
 repeat' (first|(refine aa.of λ_=>?_)|(refine bn.of λ_=>?_)|(refine Pure.aH (afh) gv λ_ hk hl=>?_;first|refine⟨_,rfl,hk.O,?_⟩|refine⟨_,_,rfl,hk.O,?_⟩|refine⟨_,_,_,rfl,hk.O,?_⟩)|(refine Pure.aH (afi) gv λ_ hk hl=>?_;first|refine⟨_,rfl,hk.O,?_⟩|refine⟨_,_,rfl,hk.O,?_⟩|refine⟨_,_,_,rfl,hk.O,?_⟩)|(refine And.intro ?_ ?_)|intro _)
 all_goals first|rfl|(unfold ay;omega)|(exfalso;first|omega|contradiction|(simp_all;done))|(simp[cF,cD,cb,cv,cG, *,kT];done)|grind [cF,cD,cb,cv,cG,kT]
def kU(pre n:Int):Nat:=if pre=0/\n=4 then 2 else if pre≠63 then 9 else if n=1 then 4 else if n=6 then 1 else if n=7 then 0 else if n=25 then 3 else if n=1006 then 6 else if n=2004 then 5 else 9
def gG(pre n:Int):Nat:=if pre≠63 then 9 else if EE n=true then 7 else if zV n=true then 8 else 9
def o6(m:Addr)(k:Nat):Option Addr:=if k=9 then none else some (m.add k)
theorem Z5{m:Addr}{pre n:Int}:Pure X.MT #[.pointer (some m), .int .i32 pre, .int .i64 n] (.pointer (o6 m (kU pre n))):=by
 intro w aj;refine ax0 m pre n ?_
 repeat' (first|(refine aa.of λ_=>?_)|(refine bn.of λ_=>?_)|(refine And.intro ?_ ?_)|intro _)
 all_goals first|rfl|(unfold ay;omega)|(exfalso;first|omega|contradiction|(simp_all;done))|(simp[cF,cD,cb,cv,cG, *,o6,kU,Addr.add];done)|grind [cF,cD,cb,cv,cG,o6,kU,Addr.add]
theorem Z4{m:Addr}{pre n:Int}:Pure X.MS #[.pointer (some m), .int .i32 pre, .int .i64 n] (.pointer (o6 m (gG pre n))):=by
 intro w aj;refine axZ m pre n ?_
 repeat' (first|(refine aa.of λ_=>?_)|(refine bn.of λ_=>?_)|(refine Pure.aH (afh) gv λ_ hk hl=>?_;first|refine⟨_,rfl,hk.O,?_⟩|refine⟨_,_,rfl,hk.O,?_⟩|refine⟨_,_,_,rfl,hk.O,?_⟩)|(refine Pure.aH (afi) gv λ_ hk hl=>?_;first|refine⟨_,rfl,hk.O,?_⟩|refine⟨_,_,rfl,hk.O,?_⟩|refine⟨_,_,_,rfl,hk.O,?_⟩)|(refine And.intro ?_ ?_)|intro _)
 all_goals first|rfl|(unfold ay;omega)|(exfalso;first|omega|contradiction|(simp_all;done))|(simp[cF,cD,cb,cv,cG, *,o6,gG,Addr.add];done)|grind [cF,cD,cb,cv,cG,o6,gG,Addr.add]
theorem ajV{r:Int}:Pure X.KR #[.int .i32 r] (.tuple #[.int .i64 (max 0 (lG u2 r 0)), .int .i64 (if lG u2 r 0<0 then 9 else 0)]):=by
 intro w aj;refine axa r ?_
 repeat' (first|(refine aa.of λ_=>?_)|(refine bn.of λ_=>?_)|(refine Pure.aH (arK) gv λ_ hk hl=>?_;first|refine⟨_,rfl,hk.O,?_⟩|refine⟨_,_,rfl,hk.O,?_⟩|refine⟨_,_,_,rfl,hk.O,?_⟩)|(refine And.intro ?_ ?_)|intro _)
 all_goals first|rfl|(unfold ay;omega)|(exfalso;first|omega|contradiction|(simp_all;done))|(simp[cF,cD,cb,cv,cG, *];done)|grind [cF,cD,cb,cv,cG]
def sT(s:eL)(a:dy):eL:=⟨⟨if s.fy=true then max a.aq.bf (min s.az.row a.aq.b7) else max 0 (min s.az.row (a.an-1)),min s.az.ae (a.ai-1),s.az.dC&&decide (min s.az.ae (a.ai-1)=a.ai-1)⟩,s.p,s.fy,s.cs⟩
theorem akd{s:eL}{a:dy}(hs:mK s=true)(h:a.ok):Pure X.C9 #[.agg s.T, .agg a.T] (.tuple #[.agg (sT s a).T, .int .i64 0]):=by
 have hr:=akf h;obtain⟨h1,h2,aw,aZ,ca,dM,fM⟩:=h;intro w aj;refine ahA s a ?_
 repeat' (first|(refine aa.of λ_=>?_)|(refine bn.of λ_=>?_)|(refine Pure.aH (Qw) gv λ_ hk hl=>?_;first|refine⟨_,rfl,hk.O,?_⟩|refine⟨_,_,rfl,hk.O,?_⟩|refine⟨_,_,_,rfl,hk.O,?_⟩)|(refine Pure.aH (hr) gv λ_ hk hl=>?_;first|refine⟨_,rfl,hk.O,?_⟩|refine⟨_,_,rfl,hk.O,?_⟩|refine⟨_,_,_,rfl,hk.O,?_⟩)|(refine And.intro ?_ ?_)|intro _)
 all_goals first|rfl|(unfold ay;omega)|(exfalso;first|omega|contradiction|(simp_all;done))|(simp[cF,cD,cb,cv,cG, *,sT];done)|grind [cF,cD,cb,cv,cG,sT]
def ET(bf:Int):Int:=if 1<bf then bf-1 else 0
def IN(an mb:Int):Int:=if 1<=mb/\mb<=an then mb-1 else an-1
def rC(an bf mb:Int):Bool:=decide (IN an mb<=ET bf)&&(decide (1<an)||decide (0<ET bf))
def rE(an bf mb:Int):dz:=if rC an bf mb=true then⟨0,0⟩ else⟨ET bf,IN an mb⟩
theorem aj_{an bf mb:Int}(h1:1<=an)(h2:an<=1000)(ht:bf<=1000000):Pure X.I3 #[.int .i64 an, .int .i64 bf, .int .i64 mb] (.tuple #[.agg (rE an bf mb).T, .int .i64 (if rC an bf mb=true then 3 else 0)]):=by
 intro w aj;refine ahz an bf mb ?_
 repeat' (first|(refine aa.of λ_=>?_)|(refine bn.of λ_=>?_)|(refine Pure.aH (KM h1 h2) gv λ_ hk hl=>?_;first|refine⟨_,rfl,hk.O,?_⟩|refine⟨_,_,rfl,hk.O,?_⟩|refine⟨_,_,_,rfl,hk.O,?_⟩)|(refine And.intro ?_ ?_)|intro _)
 all_goals first|rfl|(unfold ay;omega)|(exfalso;first|omega|contradiction|(simp_all;done))|(simp[cF,cD,cb,cv,cG, *,rE,rC,ET,IN];done)|grind [cF,cD,cb,cv,cG,rE,rC,ET,IN]
def ud(i m p:Int):Bool:=decide (m=0)||(decide (fx m=0)&&(decide (i=0)||decide (p≠0)))
def IS(c:bC):Bool:=ud 0 c.hZ 0&&ud 1 c.fE c.hZ&&ud 2 c.fQ c.fE
def ea(c:bC):Bool:=h0 c.p&&(if c.r=0 then(decide (c.w=0)||decide (c.w=1))&&(decide (c.hZ=0)&&(decide (c.fE=0)&&decide (c.fQ=0))) else IS c&&(decide (0<c.w)&&decide (c.w=fx c.r)))
theorem zg{c:bC}:Pure X.wa #[.agg c.T] (.bool (ea c)):=by
 intro w aj;refine aw_ c ?_
 repeat' (first|(refine aa.of λ_=>?_)|(refine bn.of λ_=>?_)|(refine Pure.aH (KL) gv λ_ hk hl=>?_;first|refine⟨_,rfl,hk.O,?_⟩|refine⟨_,_,rfl,hk.O,?_⟩|refine⟨_,_,_,rfl,hk.O,?_⟩)|(refine Pure.aH (Bp) gv λ_ hk hl=>?_;first|refine⟨_,rfl,hk.O,?_⟩|refine⟨_,_,rfl,hk.O,?_⟩|refine⟨_,_,_,rfl,hk.O,?_⟩)|(refine⟨λi _=>(0<=i/\i<=3)/\((0<i->ud 0 c.hZ 0=true)/\(1<i->ud 1 c.fE c.hZ=true)/\(2<i->ud 2 c.fQ c.fE=true)),λi=>(3-i).toNat,?_,?_⟩;dsimp only)|(refine⟨_,alE c.hZ c.fE c.fQ 0 0 0,?_⟩)|(refine And.intro ?_ ?_)|intro _|dsimp only)
 all_goals first|rfl|(unfold ay;omega)|(exfalso;first|omega|contradiction|(simp_all;done))|(simp[cF,cD,cb,cv,cG, *,ea,IS,ud];done)|grind [cF,cD,cb,cv,cG,ea,IS,ud]
end Go.Proofs.YtimbpmnbbfeogaaGreatDoor
namespace Go.Sy
open Go.RowKit (Below)
end Go.Sy
namespace Go.Proofs.YtimbpmnbbfeogaaGreatDoor
open Go Go.RowKit Go.Sy Go.Rep
def Dl:bC:=⟨0,0,0,0,0,⟨⟨0,0,0,0,0⟩,⟨0,0,0,0,0⟩,0⟩⟩
def cP(l:List bC)(i:Nat):bC:=l.getD i Dl
def ga(w:World)(p:ao)(n:Nat)(l:List bC):Prop:=Row w p n 16 (gR l)
section
variable{w w':World}{p:ao}{n:Nat}{l:List bC}
theorem ga.len(h:ga w p n l):l.length=n:=by have:=Row.len h;rw[xI] at this;omega
theorem ga.O(h:ga w p n l)(hk:U bg w w'):ga w' p n l:=Row.O h hk
theorem ga.ax{F:Nat->Prop}(h:ga w p n l)(hk:U F w w')(bc:∀a,p=some a->¬F a.block):ga w' p n l:=Row.ax h hk bc
theorem alb(l:List bC)(k:Nat)(h:k<l.length):(cP l k).T.toList=((gR l).drop (k*16)).take (cP l k).T.toList.length:=by
 have e:gR (l.drop k)=(cP l k).T.toList++gR (l.drop (k+1)):=by
  rw[mw h,DQ];simp[cP,h]
 rw[K3,e];rfl
theorem ga.get(h:ga w p n l){i:Int}(aW:0<=i)(hi:i<n):∃a,p=some a/\At w a (i.toNat*16) (cP l i.toNat).T.toList:=by
 obtain⟨a,e⟩:=Row.iP h M;have:=h.len;exact⟨a,e,Row.at_ h e _ (alb l i.toNat M)⟩
theorem ga.fU(h:ga w p n l){i:Int}{R:bC->Addr->Prop}(aW:0<=i)(h1:i<n)(hR:∀a,p=some a->At w a (i.toNat*16) (cP l i.toNat).T.toList->R (cP l i.toNat) a):∃a,p=some a/\((0<=i/\i<n)/\∃c:bC,At w a (i.toNat*16) c.T.toList/\R c a):=by
 obtain⟨a,e,ha⟩:=h.get aW h1;exact⟨a,e,⟨aW,h1⟩,_,ha,hR a e ha⟩
theorem ga.aa9(h:ga w p n l){i:Int}{R:Int->Addr->Prop}(aW:0<=i)(h1:i<n)(hR:∀a,p=some a->At w a (i.toNat*16) (cP l i.toNat).T.toList->R (cP l i.toNat).w a):∃a,p=some a/\((0<=i/\i<n)/\∃c:Int,At w a (i.toNat*16+4) [.int .i64 c]/\R c a):=by
 obtain⟨a,e,ha⟩:=h.get aW h1;exact⟨a,e,⟨aW,h1⟩,_,ha.cw 4 rfl,hR a e ha⟩
theorem ga.Rn(h:ga w p n l){i:Int}{R:aT->Addr->Prop}(aW:0<=i)(h1:i<n)(hR:∀a,p=some a->At w a (i.toNat*16) (cP l i.toNat).T.toList->R (cP l i.toNat).p a):∃a,p=some a/\((0<=i/\i<n)/\∃c:aT,At w a (i.toNat*16+5) c.T.toList/\R c a):=by
 obtain⟨a,e,ha⟩:=h.get aW h1;exact⟨a,e,⟨aW,h1⟩,_,ha.sub 5 rfl,hR a e ha⟩
end
section
variable{w w':World}{p:ao}{n:Nat}{l:List Int}
theorem eK.fU(h:eK w p n l){i:Int}{R:Int->Addr->Prop}(aW:0<=i)(h1:i<n)(hR:∀a,p=some a->R (l.getD i.toNat 0) a):∃a,p=some a/\((0<=i/\i<n)/\∃c:Int,At w a (i.toNat*1) [.int .i64 c]/\R c a):=by
 obtain⟨a,e,ha⟩:=h.get aW h1;exact⟨a,e,⟨aW,h1⟩,_,ha,hR a e⟩
theorem eK.alT(h:eK w p n l){i:Nat}{R:Int->Addr->Prop}(h1:i<n)(hR:∀a,p=some a->R (l.getD i 0) a):∃a,p=some a/\((0<=(i:Int)/\(i:Int)<n)/\∃c:Int,At w a i [.int .i64 c]/\R c a):=by
 obtain⟨a,e,ha⟩:=h.get (i:=i) M M;exact⟨a,e,by omega,_,by simpa using ha,hR a e⟩
end
def zc(l:List bC)(i:Int):Bool:=decide (0<i)&&decide ((cP l (i-1).toNat).w=2)
def rI(l:List bC)(i:Int):Bool:=
 ea (cP l i.toNat)&&(decide ((cP l i.toNat).w=0)==zc l i)&&(!zc l i||decide ((cP l i.toNat).p=(cP l (i-1).toNat).p))&& !(decide ((cP l i.toNat).w=2)&&decide (i=l.length-1))
def sU(l:List bC):Nat->Bool
 |0=>true
 |i+1=>sU l i&&rI l i
def vx(l:List bC):Bool:=sU l l.length
theorem au'{l:List bC}{i:Nat}(h:rI l i=false):∀k,i<k->sU l k=false:=by
 intro k hk
 induction k with
 |zero=>omega
 |succ k ih=>
  rw[sU]
  by_cases e:i=k
  ·subst e;rw[h,Bool.and_false]
  ·rw[ih M,Gb]
theorem au8{l:List bC}{i:Int}(h:rI l i=false)(aW:0<=i)(h1:i<l.length):vx l=false:=au' (i:=i.toNat) (by rw[XS aW];exact h) _ M
theorem au9{l:List bC}{n:Nat}{i:Int}(hI:(0<=i/\i<=n)/\sU l i.toNat=true)(hi:i<n)(hl:l.length=n)(h:rI l i=false):vx l=false:=au8 h M M
theorem au_{l:List bC}{n:Nat}{i:Int}(hI:(0<=i/\i<=n)/\sU l i.toNat=true)(h:rI l i=true):sU l (i+1).toNat=true:=by
 rw[show(i+1).toNat=i.toNat+1 by omega,sU,hI.2,XS hI.1.1,h];rfl
theorem asC{w:World}{aP:ao}{aM ba:Nat}{l:List bC}(aj:Laid w)(h:ga w aP aM l)(hn:aM<=1073741824):di X.QG #[.slice aP aM ba] w (.bool (vx l)):=by
 have hl:=h.len;refine aw8 aP aM ba ?_
 repeat' (first|(refine aa.of λ_=>?_)|(refine bn.of λ_=>?_)|(refine Pure.aH (zg) gv λ_ hk hl=>?_;first|refine⟨_,rfl,hk.O,?_⟩|refine⟨_,_,rfl,hk.O,?_⟩|refine⟨_,_,_,rfl,hk.O,?_⟩)|(refine⟨λi _=>(0<=i/\i<=aM)/\sU l i.toNat=true,λi=>(aM-i).toNat,?_,?_⟩;dsimp only)|(refine ga.fU (h.O qQ) M M λ_ _ _=>?_)|(refine ga.aa9 (h.O qQ) M M λ_ _ _=>?_)|(refine ga.Rn (h.O qQ) M M λ_ _ _=>?_)|(refine⟨_,Ri _ _,?_⟩)|(refine And.intro ?_ ?_)|intro _|dsimp only)
 all_goals first|(refine dx Value.bool (Eq.symm (au9 cx cx cx ?_));first|(simp_all [rI,zc,cb];done)|grind [rI,zc,cb])|(refine au_ cx ?_;first|(simp_all [rI,zc,cb];done)|grind [rI,zc,cb])|rfl|(unfold ay;omega)|(exfalso;first|omega|contradiction|(simp_all;done))|(simp[cF,cD,cb,cv,cG, *,vx];done)|grind [cF,cD,cb,cv,cG,vx]
def wo(c:bC):Bool:=decide (c.hZ≠0)&&(decide (c.fE≠0)&&decide (c.fQ≠0))
def yn(c:bC)(r:Int):bC:=if c.hZ=0 then⟨c.r,r,c.fE,c.fQ,c.w,c.p⟩ else if c.fE=0 then⟨c.r,c.hZ,r,c.fQ,c.w,c.p⟩ else if c.fQ=0 then⟨c.r,c.hZ,c.fE,r,c.w,c.p⟩ else Dl
theorem ajU{c:bC}{r:Int}(ah:ea c=true)(hw:fx r=0)(hr:c.r≠0):Pure X.QE #[.agg c.T, .int .i32 r] (.tuple #[.agg (yn c r).T, .int .i64 (if wo c=true then 7 else 0)]):=by
 intro w aj;refine aw6 c r ?_
 repeat' (first|(refine aa.of λ_=>?_)|(refine bn.of λ_=>?_)|(refine Pure.aH (zg) gv λ_ hk hl=>?_;first|refine⟨_,rfl,hk.O,?_⟩|refine⟨_,_,rfl,hk.O,?_⟩|refine⟨_,_,_,rfl,hk.O,?_⟩)|(refine Pure.aH (Bp) gv λ_ hk hl=>?_;first|refine⟨_,rfl,hk.O,?_⟩|refine⟨_,_,rfl,hk.O,?_⟩|refine⟨_,_,_,rfl,hk.O,?_⟩)|(refine Pure.aH (Z0) gv λ_ hk hl=>?_;first|refine⟨_,rfl,hk.O,?_⟩|refine⟨_,_,rfl,hk.O,?_⟩|refine⟨_,_,_,rfl,hk.O,?_⟩)|(refine⟨λi a0 dd a2 a3 a4 a8 aK k3 k4 dW fj fe fu gI fZ jd _=>(0<=i/\i<=3)/\((0<i->c.hZ≠0)/\(1<i->c.fE≠0)/\(2<i->c.fQ≠0))/\c=⟨a0,dd,a2,a3,a4,⟨⟨a8,aK,k3,k4,dW⟩,⟨fj,fe,fu,gI,fZ⟩,jd⟩⟩,λi _ _ _ _ _ _ _ _ _ _ _ _ _ _ _ _=>(3-i).toNat,?_,?_⟩;dsimp only)|(refine And.intro ?_ ?_)|intro _|dsimp only)
 all_goals first|rfl|(unfold ay;omega)|(exfalso;first|omega|contradiction|(simp_all;done))|(simp[cF,cD,cb,cv,cG, *,yn,wo,Dl];done)|grind [cF,cD,cb,cv,cG,yn,wo,Dl]
theorem aBc{n:Int}(h1: -2147483648<=n)(h2:n<=2147483647):IntKind.wrap .i32 n=n:=by
 unfold IntKind.wrap;simp[IntKind.bits,IntKind.signed];omega
def ym(c:gX)(r:Int):Int:=if o3 c=true/\(if c.gO=0 then c.aR else c.g1)=1/\95<=r/\r-95<32 then Iv.getD (r-95).toNat 0 else r
theorem Laid.aqA{w:World}(aj:Laid w){i:Int}{R:Int->Prop}(aW:0<=i)(h1:i<32)(hR:R (Iv.getD i.toNat 0)):∃k:Int,At w ⟨Y.QJ,0,none⟩ (0+(i.toNat*1)) [.int .i32 k]/\R k:=
 ⟨_,aj.lines.sub (i.toNat*1) (agB Iv i.toNat (by have:Iv.length=32:=rfl;omega)),hR⟩
theorem ajW{c:gX}{r:Int}(aW: -1000<=r)(h1:r<=1114111):Pure X.KS #[.agg c.T, .int .i32 r] (.int .i32 (ym c r)):=by
 have e:=aBc (n:=r-95) M M;have hk:o3 c=true->c.gO=0∨c.gO=1:=λh=>by simp[o3] at h;exact h.2
 intro w aj;refine ahu c r ?_
 repeat' (first|(refine aa.of λ_=>?_)|(refine bn.of λ_=>?_)|(refine Pure.aH (KH) gv λ_ hk hl=>?_;first|refine⟨_,rfl,hk.O,?_⟩|refine⟨_,_,rfl,hk.O,?_⟩|refine⟨_,_,_,rfl,hk.O,?_⟩)|(rw[e])|(simp only[e])|(refine Laid.aqA (by first|assumption|exact Laid.O cx cx) M M ?_)|(refine And.intro ?_ ?_)|intro _)
 all_goals first|rfl|(unfold ay;omega)|(exfalso;first|omega|contradiction|(simp_all;done))|(simp[cF,cD,cb,cv,cG, *,ym];done)|grind [cF,cD,cb,cv,cG,ym]
end Go.Proofs.YtimbpmnbbfeogaaGreatDoor
namespace Go.Sy
open Go.RowKit (Below)
variable{w w':World}{p:ao}{n es:Nat}{vs:List Value}
theorem At.shift{a:Addr}{k:Nat}{vs:List Value}(h:At w a k vs):At w (a.add k) 0 vs:=by
 intro i v ah;rw[iR,add_add];exact h i v ah
theorem Row.cut(h:Row w p n es vs){lo hi c:Nat}(h1:lo<=hi)(h2:hi<=n)(aw:n<=c):Row w (cM p c lo es) (hi-lo) es ((vs.drop (lo*es)).take ((hi-lo)*es)):=by
 have hl:=h.len;have hm:lo*es+(hi-lo)*es<=n*es:=by rw[<-F3];exact JJ _ M
 refine⟨by rw[kC,mv,hl];omega,λa e=>?_,λhp=>?_⟩
 ·unfold cM at e
  split at e
  ·rename_i hc
   have:hi-lo=0:=by omega
   rw[this];intro i v ah;simp at ah
  ·cases sx:p with
   |none=>rw[sx] at e;cases e
   |some b=>
    rw[sx] at e;cases e;refine At.shift (h.at_ sx (lo*es) ?_);rw[kC,mv,hl,AY M]
 ·obtain⟨b,e⟩:=h.iP M
  unfold cM;split
  ·omega
  ·exact⟨_,by rw[e];rfl⟩
end Go.Sy
namespace Go.Proofs.YtimbpmnbbfeogaaGreatDoor
open Go Go.RowKit Go.Sy Go.Rep
section
variable{w w':World}{p:ao}{n:Nat}{l:List Int}
theorem apQ(l:List Int)(lo k:Nat):((wG l).drop (lo*1)).take (k*1)=wG ((l.drop lo).take k):=by simp[wG,AU,xk]
theorem eK.cut(h:eK w p n l){lo hi c:Nat}(h1:lo<=hi)(h2:hi<=n)(aw:n<=c):eK w (cM p c lo 1) (hi-lo) ((l.drop lo).take (hi-lo)):=by
 have:=Row.cut h h1 h2 aw;rw[apQ] at this;exact this
theorem eK.GX(h:eK w p n l){z:Int}{o:Nat}{R:Int->Addr->Prop}(hz:z=o)(h1:o<n)(hR:∀a,p=some a->R (l.getD o 0) a):∃a,p=some a/\((0<=z/\z<n)/\∃c:Int,At w a o [.int .i64 c]/\R c a):=by
 subst hz;exact h.alT h1 hR
theorem eK.Qg(h:eK w p n l){a:Addr}(e:p=some a){k:Nat}(hk:k<n):At w a k [.int .i64 (l.getD k 0)]:=by
 obtain⟨b,e',hb⟩:=h.get (i:=k) M M;rw[e] at e';cases e';simpa using hb
theorem eK.aF(h:eK w p n l)(hn:0<n){a:Addr}(e:p=some a):a.block<w.heap.size:=by
 have:=h.Qg e hn 0 _ rfl;have hb:(a.add (0+0)).block=a.block:=by unfold Addr.add;split<;>rfl
 rw[<-hb];exact World.block_lt_of_cell? w _ this
end
variable{w0:World}{F:Nat->Prop}{Q:Value->World->Prop}
theorem aAa(aP:ao)(aM ba:Nat)(h:∃a:Int->World->Prop,∃b:Int->Nat,(bm w0 λc=>a 0 c)/\∀c:Int,∀d:World,U F w0 d->a c d->bG c aM (∃e:Addr,aP=(some e)/\hG c aM/\∃f,At d e ((Int.toNat c)*1) [D f]/\bG 9999 f (aa w0 F d Q (D 2)) (ji c d a b)) (aa w0 F d Q (D 0))):aO X.Wv #[.slice aP aM ba] w0 F Q:=eV [⟨2,[7],[]⟩] [] [.cJ aP aM ba] h
theorem aAd(aP:ao)(aM ba:Nat)(h:∃a:Addr,aP=(some a)/\xn aM/\∃b,At w0 a 0 [D b]/\(b≠38->∃c:Addr,aP=(some c)/\xn aM/\∃d,At w0 c 0 [D d]/\(d≠48->aa w0 F w0 Q (D 1))/\(d=48->Yw w0 F Q aM aP))/\(b=38->Yw w0 F Q aM aP)):aO X.Wx #[.slice aP aM ba] w0 F Q:=bh [.cJ aP aM ba] h
theorem aAc(gV:ao)(eW j1:Nat)(h:aG w0 λa=>∃b:World->Prop,(((eW:Int)≠3->((eW:Int)≠5->aa w0 F w0 Q (.tuple #[.agg #[D 0, .int .u8 0, .int .u8 0, .int .u8 0, .int .u8 0], .bool false]))/\((eW:Int)=5->bm w0 λc=>b c))/\((eW:Int)=3->bm w0 λc=>b c))/\∀c:World,U F w0 c->b c->aG c λd=>((0:Int)<=2/\(2:Int)<=(eW:Int)/\(eW:Int)<=(j1:Int))/\∃e:Int->Int->Int->Int->World->Prop,∃f:Int->Int->Int->Int->Nat,(bm c λg=>e 0 0 0 0 g)/\∀g i j k:Int,∀l:World,U F w0 l->e g i j k l->bG g ((Int.toNat ((eW:Int)-2)):Nat) (∃m:Addr,(cM gV j1 2 1)=(some m)/\((0:Int)<=g/\g<(((Int.toNat ((eW:Int)-2)):Nat):Int))/\∃n,At l m ((Int.toNat g)*1) [D n]/\bG 255 n (bn w0 F l [a] Q (.tuple #[.agg #[D 0, .int .u8 0, .int .u8 0, .int .u8 0, .int .u8 0], .bool false])) (((0:Int)<=g/\g<3)/\(g=0->ay (g+1)/\∀o:World,dV l [d] o->e (g+1) (IntKind.wrap .u8 (max 0 n)) j k o/\f (g+1) (IntKind.wrap .u8 (max 0 n)) j k<f g i j k)/\(g=1->ay (g+1)/\∀o:World,dV l [d] o->e (g+1) i (IntKind.wrap .u8 (max 0 n)) k o/\f (g+1) i (IntKind.wrap .u8 (max 0 n)) k<f g i j k)/\(g=2->ay (g+1)/\∀o:World,dV l [d] o->e (g+1) i j (IntKind.wrap .u8 (max 0 n)) o/\f (g+1) i j (IntKind.wrap .u8 (max 0 n))<f g i j k)/\True)) (a' (eW:Int) 3 (∃m:Addr,gV=(some m)/\Pr eW/\∃n,At l m 1 [D n]/\a7 w0 F [a,d] l [(a,G.rV),(d,G.Zl)] X.EY #[.int .u8 i] Az λq r=>At q m 1 [D n]/\¬(m.block∈[a])/\bn w0 F q [a] Q (.tuple #[.agg r.T, .bool (bL.val (.eq n 5))])) (∃m:Addr,gV=(some m)/\Pr eW/\∃n,At l m 1 [D n]/\a7 w0 F [a,d] l [(a,G.rV),(d,G.Zl)] X.Nk #[.int .u8 i, .int .u8 j, .int .u8 k] Az λq r=>At q m 1 [D n]/\¬(m.block∈[a])/\bn w0 F q [a] Q (.tuple #[.agg r.T, .bool (bL.val (.eq n 2))])))):aO X.Ww #[.slice gV eW j1] w0 F Q:=eV [⟨5,[19],[1]⟩] [⟨3,[],[]⟩] [.cJ gV eW j1] h
theorem aAb(c:jO)(gV:ao)(eW j1:Nat)(base:Int)(h:aG w0 λa=>aG w0 λb=>∃d:Addr,gV=(some d)/\xn eW/\∃e,At w0 d 0 [D e]/\ay (e-base)/\dX 0 (e-base) (bG (e-base) 8 (a7 w0 F [a,b] w0 [(a,G.rV),(b,G.rV)] X.EY #[.int .u8 (IntKind.wrap .u8 (e-base))] Az λi j=>bn w0 F i [b] Q (.agg j.T)) (Ye w0 F Q e base [(a,G.rV),(b,G.rV)] [a,b] [b] gV eW j1 c)) (Ye w0 F Q e base [(a,G.rV),(b,G.rV)] [a,b] [b] gV eW j1 c)):aO X.On #[.agg c.T, .slice gV eW j1,D base] w0 F Q:=bh [.agg (jO.bN.enc c), .cJ gV eW j1,cn base] h
theorem aAe(p:aT)(gV:ao)(eW j1:Nat)(h:aG w0 λa=>aG w0 λb=>∃c:Int->Int->Int->Int->Int->Int->Int->Int->Int->Int->Int->World->Prop,(∃d:Addr,gV=(some d)/\xn eW/\∃e,At w0 d 0 [D e]/\dX e 0 (aa w0 F w0 Q (.agg #[D 0, .int .u8 0, .int .u8 0, .int .u8 0, .int .u8 0,D 0, .int .u8 0, .int .u8 0, .int .u8 0, .int .u8 0, .int .u8 0])) (a' e 22 (bm w0 λf=>c p.f.k p.f.i p.f.r p.f.g p.f.b p.b.k p.b.i p.b.r p.b.g p.b.b (bits .andNot .u8 p.eo 3) f) (bm w0 λf=>c p.f.k p.f.i p.f.r p.f.g p.f.b p.b.k p.b.i p.b.r p.b.g p.b.b p.eo f)))/\∀d e f g i j k l m n o:Int,∀q:World,U F w0 q->c d e f g i j k l m n o q->∃r s t u v x y z A B C aD E bT ak bo:Int,At q ⟨Y.ahj,0,none⟩ 0 [.int .u8 r,D s, .int .u8 t,D u, .int .u8 v,D x, .int .u8 y,D z, .int .u8 A,D B, .int .u8 C,D aD, .int .u8 E,D bT, .int .u8 ak,D bo]/\∃J:Int->Int->Int->Int->Int->Int->Int->Int->Int->Int->Int->Int->World->Prop,∃K:Int->Int->Int->Int->Int->Int->Int->Int->Int->Int->Int->Int->Nat,(bm q λL=>J 0 d e f g i j k l m n o L)/\∀L bj N eE P R S er V W Y a1:Int,∀gd:World,U F w0 gd->J L bj N eE P R S er V W Y a1 gd->bG L 8 (((0:Int)<=L/\L<8)/\(L=0->∀fq:Nat,y1 gd fq gV eW s L [a] J bj N eE P R S er V W Y a1 r K)/\(L=1->∀fq:Nat,y1 gd fq gV eW u L [a] J bj N eE P R S er V W Y a1 t K)/\(L=2->∀fq:Nat,y1 gd fq gV eW x L [a] J bj N eE P R S er V W Y a1 v K)/\(L=3->∀fq:Nat,y1 gd fq gV eW z L [a] J bj N eE P R S er V W Y a1 y K)/\(L=4->∀fq:Nat,y1 gd fq gV eW B L [a] J bj N eE P R S er V W Y a1 A K)/\(L=5->∀fq:Nat,y1 gd fq gV eW aD L [a] J bj N eE P R S er V W Y a1 C K)/\(L=6->∀fq:Nat,y1 gd fq gV eW bT L [a] J bj N eE P R S er V W Y a1 E K)/\(L=7->∀fq:Nat,y1 gd fq gV eW bo L [a] J bj N eE P R S er V W Y a1 ak K)/\True) (a7 w0 F [a,b] gd [(a,G.b_),(b,G.b_)] X.On #[.agg #[D bj, .int .u8 N, .int .u8 eE, .int .u8 P, .int .u8 R], .slice gV eW j1,D 30] Az λaB jE=>a7 w0 F [a,b] aB [(a,G.b_),(b,G.b_)] X.On #[.agg #[D S, .int .u8 er, .int .u8 V, .int .u8 W, .int .u8 Y], .slice gV eW j1,D 40] Az λmT lz=>bn w0 F mT [b,a,a] Q (.agg #[D jE.k, .int .u8 jE.i, .int .u8 jE.r, .int .u8 jE.g, .int .u8 jE.b,D lz.k, .int .u8 lz.i, .int .u8 lz.r, .int .u8 lz.g, .int .u8 lz.b, .int .u8 a1]))):aO X.Wy #[.agg p.T, .slice gV eW j1] w0 F Q:=eV [⟨7,[23],[0]⟩] [⟨6,[],[0]⟩] [.agg (aT.bN.enc p), .cJ gV eW j1] h
theorem az'(p:aT)(aP:ao)(aM ba:Nat)(h:aG w0 λa=>aG w0 λb=>a7 w0 F [a,b] w0 [(a,G.b_),(b,G.b_)] X.EZ #[.agg p.T] .bool λe f=>gL f (bn w0 F e [b] Q (.tuple #[.agg #[D 0, .int .u8 0, .int .u8 0, .int .u8 0, .int .u8 0,D 0, .int .u8 0, .int .u8 0, .int .u8 0, .int .u8 0, .int .u8 0],D 2])) (a7 w0 F [a,b] e [(a,G.b_),(b,G.b_)] X.Wv #[.slice aP aM ba] D λj k=>(k≠0->bn w0 F j [b] Q (.tuple #[.agg #[D 0, .int .u8 0, .int .u8 0, .int .u8 0, .int .u8 0,D 0, .int .u8 0, .int .u8 0, .int .u8 0, .int .u8 0, .int .u8 0],D 2]))/\(k=0->∃l:Option Addr->Nat->Nat->Int->Int->Int->Int->Int->Int->Int->Int->Int->Int->Int->World->Prop,∃m:Option Addr->Nat->Nat->Int->Int->Int->Int->Int->Int->Int->Int->Int->Int->Int->Nat,(bm j λn=>l aP aM ba p.f.k p.f.i p.f.r p.f.g p.f.b p.b.k p.b.i p.b.r p.b.g p.b.b p.eo n)/\∀n:ao,∀o q:Nat,∀r s t u v x y z A B C:Int,∀aD:World,U F w0 aD->l n o q r s t u v x y z A B C aD->bG 0 o (a7 w0 F [a,b] aD [(a,G.b_),(b,G.b_)] X.Wx #[.slice n o q] D λak bo=>((0:Int)<=0/\(0:Int)<=bo/\bo<=(q:Int))/\J_ bo o q/\a7 w0 F [a,b] ak [(a,G.b_),(b,G.b_)] X.Wy #[.agg #[D r, .int .u8 s, .int .u8 t, .int .u8 u, .int .u8 v,D x, .int .u8 y, .int .u8 z, .int .u8 A, .int .u8 B, .int .u8 C], .slice (cM n q 0 1) (Int.toNat (bo-0)) q] w8 λL bj=>∀N:World,dV L [a] N->l (cM n q (Int.toNat bo) 1) (Int.toNat ((o:Int)-bo)) (q-(Int.toNat bo)) bj.f.k bj.f.i bj.f.r bj.f.g bj.f.b bj.b.k bj.b.i bj.b.r bj.b.g bj.b.b bj.eo N/\m (cM n q (Int.toNat bo) 1) (Int.toNat ((o:Int)-bo)) (q-(Int.toNat bo)) bj.f.k bj.f.i bj.f.r bj.f.g bj.f.b bj.b.k bj.b.i bj.b.r bj.b.g bj.b.b bj.eo<m n o q r s t u v x y z A B C) (bn w0 F aD [b] Q (.tuple #[.agg #[D r, .int .u8 s, .int .u8 t, .int .u8 u, .int .u8 v,D x, .int .u8 y, .int .u8 z, .int .u8 A, .int .u8 B, .int .u8 C],D 0]))))):aO X.Wu #[.agg p.T, .slice aP aM ba] w0 F Q:=eV [⟨3,[1],[0]⟩] [] [.agg (aT.bN.enc p), .cJ aP aM ba] h
end Go.Proofs.YtimbpmnbbfeogaaGreatDoor
namespace Go.Proofs.YtimbpmnbbfeogaaGreatDoor
open Go Go.RowKit Go.Sy Go.Rep
theorem aun{w:World}{aP:ao}{aM ba:Nat}{l:List Int}(h:eK w aP aM l)(hn:aM<=1073741824)(hc:∀i,i<aM->l.getD i 0<=9999):di X.Wv #[.slice aP aM ba] w (.int .i64 0):=by
 refine aAa aP aM ba ?_
 repeat' (first|(refine aa.of λ_=>?_)|(refine bn.of λ_=>?_)|(refine⟨λi _=>0<=i/\i<=aM,λi=>(aM-i).toNat,?_,?_⟩;dsimp only)|(refine eK.fU (h.O qQ) M M λ_ _=>?_)|(refine And.intro ?_ ?_)|intro _|dsimp only)
 all_goals first|(exfalso;have q:=hc _ (by omega:Int.toNat _<aM);omega)|(have q1:(0:Int)<=_/\_<=(aM:Int):=by assumption;have q2:=hc _ (by omega:(Int.toNat _)<aM);omega)|rfl|(unfold ay;omega)|(exfalso;first|omega|contradiction|(simp_all;done))|(simp[cF,cD,cb,cv,cG, *];done)|grind [cF,cD,cb,cv,cG]
def lW(l:List Int):Int:=if(l.getD 0 0=38∨l.getD 0 0=48)/\2<=l.length then(if l.getD 1 0=5 then min 3 l.length else if l.getD 1 0=2 then min 5 l.length else 1) else 1
theorem auq{w:World}{aP:ao}{aM ba:Nat}{l:List Int}(h:eK w aP aM l)(h1:0<aM):di X.Wx #[.slice aP aM ba] w (.int .i64 (lW l)):=by
 have hl:=h.len;refine aAd aP aM ba ?_
 repeat' (first|(refine aa.of λ_=>?_)|(refine bn.of λ_=>?_)|(refine eK.GX (h.O qQ) (by rfl) M λ_ _=>?_)|(refine And.intro ?_ ?_)|intro _)
 all_goals first|rfl|(unfold ay;omega)|(exfalso;first|omega|contradiction|(simp_all;done))|(simp[cF,cD,cb,cv,cG, *,lW];done)|grind [cF,cD,cb,cv,cG,lW]
def u8(n:Int):Int:=IntKind.wrap .u8 (max 0 n)
def rh(g:List Int):jO×Bool:=if g.length≠3/\g.length≠5 then(vF,false) else if(g.drop 2).any (λx=>decide (255<x))=true then(vF,false) else if g.length=3 then(⟨1,u8 (g.getD 2 0),0,0,0⟩,decide (g.getD 1 0=5)) else(⟨2,0,u8 (g.getD 2 0),u8 (g.getD 3 0),u8 (g.getD 4 0)⟩,decide (g.getD 1 0=2))
theorem al2{g:List Int}{i:Nat}(h:255<(g.drop 2).getD i 0):rh g=(vF,false):=by
 unfold rh;have:(g.drop 2).any (λx=>decide (255<x))=true:=by
  have hi:i<(g.drop 2).length:=by
   rcases h8 i (g.drop 2).length with hi|hi
   ·exact hi
   ·rw[kb,nu hi] at h;simp at h
  rw[kb,el hi] at h;exact Pe.2 ⟨_,vM hi,by simpa using h⟩
 rw[aA this];split<;>rfl
theorem aa_{g:List Int}(h:∀k,k<g.length-2->g.getD (2+k) 0<=255):(g.drop 2).any (λx=>decide (255<x))=false:=by
 rw[X_];intro x hx;obtain⟨k,hk,rfl⟩:=List.mem_iff_getElem.1 hx;rw[mv] at hk;have:=h k hk;rw[kb,el M] at this;simpa using this
theorem aaQ(g:List Int)(k:Nat):(g.drop 2).getD k 0=g.getD (2+k) 0:=by simp[kb,s9]
theorem alY{g:List Int}(aw:g.length≠3)(ca:g.length≠5):rh g=(vF,false):=by unfold rh;rw[aA ⟨aw,ca⟩]
theorem alZ{g:List Int}(h:g.length=3)(ha:∀k,k<g.length-2->g.getD (2+k) 0<=255):rh g=(⟨1,u8 (g.getD 2 0),0,0,0⟩,decide (g.getD 1 0=5)):=by
 unfold rh;rw[ag M,aa_ ha,ag aS,aA h]
theorem al0{g:List Int}(h:g.length=5)(ha:∀k,k<g.length-2->g.getD (2+k) 0<=255):rh g=(⟨2,0,u8 (g.getD 2 0),u8 (g.getD 3 0),u8 (g.getD 4 0)⟩,decide (g.getD 1 0=2)):=by
 unfold rh;rw[ag M,aa_ ha,ag aS,ag M]
theorem aup{w:World}{gV:ao}{eW j1:Nat}{g:List Int}(aj:Laid w)(h:eK w gV eW g)(h1:0<eW)(kg:eW<=j1):di X.Ww #[.slice gV eW j1] w (.tuple #[.agg (rh g).1.T, .bool (rh g).2]):=by
 have hl:=h.len;have e2:((eW:Int)-2).toNat=eW-2:=by omega
 refine aAc gV eW j1 ?_;intro ar ec;refine⟨λ_=>eW=3∨eW=5,⟨λaw=>⟨λca=>aa.of λ_=>by rw[alY M M];rfl,λca _ _=> .inr M⟩,λaw _ _=> .inl M⟩,?_⟩;intro w1 hk1 aBR aQ gA;refine⟨by omega,λi a b c _=>(0<=i/\i<=(eW:Int)-2)/\(∀k,k<i.toNat->g.getD (2+k) 0<=255)/\a=(if 0<i then u8 (g.getD 2 0) else 0)/\b=(if 1<i then u8 (g.getD 3 0) else 0)/\c=(if 2<i then u8 (g.getD 4 0) else 0),λi _ _ _=>((eW:Int)-2-i).toNat,λjy _=>⟨by omega,λk hk=>by omega,rfl,rfl,rfl⟩,?_⟩;intro i a b c ad aI ⟨hi,nK,ha,hb,hc⟩;have h2:=h.O aI;have hcut:eK ad (cM gV j1 2 1) ((eW:Int)-2).toNat (g.drop 2):=by
  rw[e2];have q:=h2.cut (lo:=2) (hi:=eW) (c:=j1) M (cL _) kg;rwa[jh ej] at q
 refine⟨λhlt=>?_,λqn=>?_⟩
 ·refine hcut.fU M M λaB _=>⟨λhbig=>bn.of λ_=>by rw[al2 hbig];rfl,λve=>?_⟩
  have D_:∀k,k<(i+1).toNat->g.getD (2+k) 0<=255:=λk hk=>by
   rcases h8 k i.toNat with q|q
   ·exact nK k q
   ·have:k=i.toNat:=by omega
    subst this;rw[<-aaQ];exact ve
  rw[aaQ];refine⟨by omega,λe=>⟨by unfold ay;omega,λhC _=>⟨⟨by omega,D_,?_,?_,?_⟩,by dsimp only;omega⟩⟩,λe=>⟨by unfold ay;omega,λhC _=>⟨⟨by omega,D_,?_,?_,?_⟩,by dsimp only;omega⟩⟩,λe=>⟨by unfold ay;omega,λhC _=>⟨⟨by omega,D_,?_,?_,?_⟩,by dsimp only;omega⟩⟩,trivial⟩<;>subst e<;>simp_all [u8]
 ·have D_:∀k,k<g.length-2->g.getD (2+k) 0<=255:=λk hk=>nK k M
  have aF:=λ(a:Addr) (e:gV=some a)=>h.aF h1 e
  refine⟨λaw=>eK.GX h2 (by rfl) M λaB e cu ep oX=>?_,λaw=>eK.GX h2 (by rfl) M λaB e cu ep oX=>?_⟩
  ·refine(Qv (n:=a)).aH (Laid.below ep (Laid.O aI aj)) λw7 e_ nJ=>⟨_,rfl,e_.O,((h2.below ep).O e_).Qg e M,by have:=aF aB e;simp;omega,bn.of λ_=>?_⟩
   rw[alZ M D_,ha,aA M,cb]
  ·refine(Z_ (r:=a) (g:=b) (b:=c)).aH (Laid.below ep (Laid.O aI aj)) λw7 e_ nJ=>⟨_,rfl,e_.O,((h2.below ep).O e_).Qg e M,by have:=aF aB e;simp;omega,bn.of λ_=>?_⟩
   rw[al0 M D_,ha,hb,hc,aA M,aA M,aA M,cb]
def cW(n:Int):Int:=IntKind.wrap .u8 n
def Bu(c:jO)(g:List Int)(base:Int):jO:=
 if 0<=g.getD 0 0-base/\g.getD 0 0-base<8 then⟨1,cW (g.getD 0 0-base),0,0,0⟩ else if 60<=g.getD 0 0-base/\g.getD 0 0-base<68 then⟨1,cW (g.getD 0 0-base-60+8),0,0,0⟩
 else if g.getD 0 0-base=9 then vF else if g.getD 0 0-base=8 then(if(rh g).2=true then(rh g).1 else c) else c
theorem auo{w:World}{c:jO}{gV:ao}{eW j1:Nat}{base:Int}{g:List Int}(aj:Laid w)(h:eK w gV eW g)(h1:0<eW)(kg:eW<=j1)(hb:base=30∨base=40)(hg: -1<=g.getD 0 0/\g.getD 0 0<=9999):di X.On #[.agg c.T, .slice gV eW j1, .int .i64 base] w (.agg (Bu c g base).T):=by
 refine aAb c gV eW j1 base ?_
 repeat' (first|(refine aa.of λ_=>?_)|(refine bn.of λ_=>?_)|(refine Pure.aH (Qv) gv λ_ hk hl=>?_;first|refine⟨_,rfl,hk.O,?_⟩|refine⟨_,_,rfl,hk.O,?_⟩|refine⟨_,_,_,rfl,hk.O,?_⟩)|(refine di.aH (aup (Laid.O qQ aj) (h.O qQ) h1 kg) λ_ hk=>?_;first|refine⟨_,rfl,hk.O,?_⟩|refine⟨_,_,rfl,hk.O,?_⟩|refine⟨_,_,_,rfl,hk.O,?_⟩)|(refine eK.GX (h.O qQ) (by rfl) M λ_ _=>?_)|(refine And.intro ?_ ?_)|intro _)
 all_goals first|rfl|(unfold ay;omega)|(exfalso;first|omega|contradiction|(simp_all;done))|(simp[cF,cD,cb,cv,cG, *,Bu,cW,vF];done)|grind [cF,cD,cb,cv,cG,Bu,cW,vF]
def Rt(n eo:Int)(m:Int×Int):Int:=if n=m.2 then bits .or .u8 eo m.1 else if n=m.2+20/\bits .and .u8 m.1 3=0 then bits .andNot .u8 eo m.1 else eo
def DY(n eo:Int):Nat->Int
 |0=>eo
 |k+1=>Rt n (DY n eo k) (Lm.getD k (0,0))
theorem amd(n eo:Int){i:Int}(h:0<=i):DY n eo (i+1).toNat=Rt n (DY n eo i.toNat) (Lm.getD i.toNat (0,0)):=by
 rw[show(i+1).toNat=i.toNat+1 by omega];rfl
def G1(n eo:Int):Int:=if n=22 then bits .andNot .u8 eo 3 else eo
def CR(p:aT)(g:List Int):aT:=if g.getD 0 0<=0 then jg else⟨Bu p.f g 30,Bu p.b g 40,DY (g.getD 0 0) (G1 (g.getD 0 0) p.eo) 8⟩
theorem aur{w:World}{p:aT}{gV:ao}{eW j1:Nat}{g:List Int}(aj:Laid w)(h:eK w gV eW g)(h1:0<eW)(kg:eW<=j1)(hg: -1<=g.getD 0 0/\g.getD 0 0<=9999):di X.Wy #[.agg p.T, .slice gV eW j1] w (.agg (CR p g).T):=by
 refine aAe p gV eW j1 ?_
 repeat' (first|(refine aa.of λ_=>?_)|(refine bn.of λ_=>?_)|(refine⟨λa8 aK k3 k4 dW fj fe fu gI fZ jd _=>(0<g.getD 0 0)/\p.f=⟨a8,aK,k3,k4,dW⟩/\p.b=⟨fj,fe,fu,gI,fZ⟩/\jd=G1 (g.getD 0 0) p.eo,?_,?_⟩;dsimp only)|(refine⟨λi a8 aK k3 k4 dW fj fe fu gI fZ jd _=>(0<=i/\i<=8)/\(0<g.getD 0 0)/\p.f=⟨a8,aK,k3,k4,dW⟩/\p.b=⟨fj,fe,fu,gI,fZ⟩/\jd=DY (g.getD 0 0) (G1 (g.getD 0 0) p.eo) i.toNat,λi _ _ _ _ _ _ _ _ _ _ _=>(8-i).toNat,?_,?_⟩;dsimp only)|(refine di.aH (auo (c:=⟨_,_,_,_,_⟩) (Laid.O qQ aj) (h.O qQ) h1 kg M hg) λ_ hk=>?_;first|refine⟨_,rfl,hk.O,?_⟩|refine⟨_,_,rfl,hk.O,?_⟩|refine⟨_,_,_,rfl,hk.O,?_⟩)|(refine eK.GX (h.O qQ) (by rfl) M λ_ _=>?_)|(refine⟨1,1,2,2,4,3,8,4,16,5,32,7,64,8,128,9,(Laid.O qQ aj).abf,?_⟩)|(refine And.intro ?_ ?_)|intro _|dsimp only)
 all_goals first|(rw[amd _ _ M];simp_all [Rt,Lm];done)|(simp_all only[DY,Int.toNat_zero];done)|rfl|(unfold ay;omega)|(exfalso;first|omega|contradiction|(simp_all;done))|(simp[cF,cD,cb,cv,cG, *,CR,G1,jg,vF];done)|grind [cF,cD,cb,cv,cG,CR,G1,jg,vF]
theorem RA{l:List Int}(h:0<l.length):1<=lW l/\lW l<=l.length:=by
 unfold lW
 repeat' split
 all_goals omega
def vX:Nat->aT->List Int->aT
 |0,p,_=>p
 |k+1,p,l=>if l=[] then p else vX k (CR p (l.take (lW l).toNat)) (l.drop (lW l).toNat)
theorem ajp{k m:Nat}{p:aT}{l:List Int}(h:l.length<=k)(hm:k<=m):vX m p l=vX k p l:=by
 induction k generalizing m p l with
 |zero=>
  have:l=[]:=n2 M;subst this;cases m with
  |zero=>rfl
  |succ m=>simp[vX]
 |succ k ih=>
  cases m with
  |zero=>omega
  |succ m=>
   rw[vX,vX]
   by_cases e:l=[]
   ·rw[aA e,aA e]
   ·rw[ag e,ag e]
    have hl:0<l.length:=by cases l with|nil=>exact absurd rfl e|cons _ _=>simp
    have:=RA hl;exact ih XD M
def uL(p:aT)(l:List Int):aT:=vX l.length p l
theorem ajr{p:aT}{l:List Int}(h:0<l.length):uL p l=uL (CR p (l.take (lW l).toNat)) (l.drop (lW l).toNat):=by
 have:=RA h;unfold uL;rw[<-ajp (k:=(l.drop (lW l).toNat).length) (m:=l.length-1) (cL _) XD];obtain⟨m,hm⟩:∃m,l.length=m+1:=⟨l.length-1,by omega⟩;rw[hm,vX,ag (by intro e;rw[e] at h;simp at h)];rfl
theorem ajq{p:aT}{l:List Int}(h:l.length=0):uL p l=p:=by unfold uL;rw[h];rfl
theorem aum{w:World}{p:aT}{aP:ao}{aM ba:Nat}{l:List Int}(aj:Laid w)(h:eK w aP aM l)(kg:aM<=ba)(hn:aM<=1073741824)(hp:h0 p=true)(hc:∀i,i<aM->-1<=l.getD i 0/\l.getD i 0<=9999):di X.Wu #[.agg p.T, .slice aP aM ba] w (.tuple #[.agg (uL p l).T, .int .i64 0]):=by
 have hl:=h.len;refine az' p aP aM ba ?_;intro ar ec aQ gA w1 hb1 fb;have hk1:=U.au hb1;refine KL.aH (Laid.O hk1 aj) λad aI hU=>⟨_,rfl,aI.O,λe=>XF,λ_ bw bp fN=>?_⟩
 have hk3:=(hk1.trans aI).trans (U.au bp);refine(aun (h.O hk3) hn λi hi=>(hc i hi).2).aH λbD bO=>⟨_,rfl,bO.O,λe=>absurd rfl e,λ_=>?_⟩
 refine⟨λq nq Bv a8 aK k3 k4 dW fj fe fu gI fZ jd _=>∃l':List Int,eK w q nq l'/\nq<=Bv/\nq<=aM/\(∀i,i<nq->-1<=l'.getD i 0/\l'.getD i 0<=9999)/\uL p l=uL ⟨⟨a8,aK,k3,k4,dW⟩,⟨fj,fe,fu,gI,fZ⟩,jd⟩ l',λ_ nq _ _ _ _ _ _ _ _ _ _ _ _=>nq,λ_ _=>⟨l,h,kg,cL _,hc,rfl⟩,?_⟩;intro q nq Bv a8 aK k3 k4 dW fj fe fu gI fZ jd bP eH ⟨l',hr,aca,acO,hc',he⟩;have kP:=hr.len;refine⟨λaW w7 c8 mh=>?_,λaW=>bn.of λ_=>by rw[he,ajq M]⟩;have hg:=RA (l:=l') M;have e_:=eH.trans (U.au c8);refine(auq (hr.O e_) M).aH λcW br=>⟨_,rfl,br.O,by omega,by omega,λcR cr dO=>?_⟩
 have pz:=(e_.trans br).trans (U.au cr);have hcut:eK w (cM q Bv 0 1) (Int.toNat (lW l'-0)) (l'.take (lW l').toNat):=by
  have:=hr.cut (lo:=0) (hi:=(lW l').toNat) (c:=Bv) M M aca;simpa using this
 have tM:eK w (cM q Bv (lW l').toNat 1) (Int.toNat ((nq:Int)-lW l')) (l'.drop (lW l').toNat):=by
  have:=hr.cut (lo:=(lW l').toNat) (hi:=nq) (c:=Bv) M (cL _) aca;rw[jh XD] at this;rwa[show((nq:Int)-lW l').toNat=nq-(lW l').toNat by omega]
 have Ed:(l'.take (lW l').toNat).getD 0 0=l'.getD 0 0:=by
  rw[kb,kb,uD,aA M]
 refine(aur (p:=⟨⟨a8,aK,k3,k4,dW⟩,⟨fj,fe,fu,gI,fZ⟩,jd⟩) (j1:=Bv) (Laid.O pz aj) (hcut.O pz) M M (by rw[Ed];exact hc' 0 M)).aH λgn jI=>⟨_,rfl,jI.O,λhC _=>⟨⟨l'.drop (lW l').toNat,tM,by omega,by omega,λi hi=>?_,?_⟩,by dsimp only;omega⟩⟩
 ·have:=hc' ((lW l').toNat+i) M
  simpa[kb,s9] using this
 ·rw[he,ajr M]
end Go.Proofs.YtimbpmnbbfeogaaGreatDoor
namespace Go.Sy
open Go.RowKit (Below)
def bF(lo:Nat)(w:World)(e:TypeId)(s:Nat)(p:ao)(n c:Nat)(xs:List Value):Prop:=w.ownsRow lo e s (.slice p n c) n xs
section
variable{w w':World}{B B':Nat}{e:TypeId}{s n c:Nat}{p:ao}{xs ys:List Value}
theorem bF.lt(h:bF B w e s p n c xs):∀a,p=some a->a.block<w.heap.size/\B<=a.block/\∃cs,w.heap[a.block]? =some (.cells cs e (0,0)):=by
 intro a ha;rcases h.2 with⟨ah,_⟩|⟨g,cap,cur,ah,hB,hg,_⟩
 ·injection ah with ah;rw[ah] at ha;cases ha
 ·injection ah with ah
  rw[ah] at ha;injection ha with ha
  subst ha;exact⟨(oD.1 hg).1,hB,_,hg⟩
theorem bF.same(h:bF B w e s p n c xs)(hk:∀a,p=some a->w'.heap[a.block]? =w.heap[a.block]?):bF B w' e s p n c xs:=by
 refine⟨h.1,?_⟩;rcases h.2 with⟨ah,hn⟩|⟨g,cap,cur,ah,hB,hg,hr⟩
 ·exact .inl ⟨ah,hn⟩
 ·injection ah with Ic hv2 Tk
  exact .inr ⟨g,cap,cur,by rw[Ic,Tk],hB,(hk _ Ic).trans hg,hr⟩
theorem bF.base(h:bF B w e s p n c xs)(hk:∀a,p=some a->B'<=a.block):bF B' w e s p n c xs:=by
 refine⟨h.1,?_⟩;rcases h.2 with⟨ah,hn⟩|⟨g,cap,cur,ah,hB,hg,hr⟩
 ·exact .inl ⟨ah,hn⟩
 ·injection ah with Ic hv2 Tk
  exact .inr ⟨g,cap,cur,by rw[Ic,Tk],hk _ Ic,hg,hr⟩
theorem bF.low(h:bF B w e s p n c xs)(hB:B'<=B):bF B' w e s p n c xs:=h.base λa ha=>ek hB (h.lt a ha).2.1
theorem bF.nil(B:Nat)(w:World)(e:TypeId)(s:Nat):bF B w e s none 0 0 []:=⟨by simp, .inl ⟨rfl,rfl⟩⟩
theorem bF.cap(h:bF B w e s p n c xs):n<=c:=by
 rcases h.2 with⟨ah,hn⟩|⟨g,cap,cur,ah,_,_,hc,_⟩
 ·injection ah with _ h1 h2;omega
 ·injection ah with _ _ h2;omega
theorem bF.len(h:bF B w e s p n c xs):xs.length=n*s:=h.1
theorem bF.j6(h:bF B w e s p n c xs):p=none/\n=0/\c=0∨∃g,p=some ⟨g,0,none⟩/\B<=g:=by
 rcases h.2 with⟨ah,hn⟩|⟨g,cap,cur,ah,hB,_⟩
 ·injection ah with aW h1 h2;exact .inl ⟨aW,by omega,by omega⟩
 ·injection ah with ah;exact .inr ⟨g,ah,hB⟩
theorem bF.row(h:bF B w e s p n c xs):Row w p n s xs:=by
 refine⟨h.1,λa ha=>?_,λhn=>?_⟩
 ·rcases h.j6 with⟨aW,_⟩|⟨g,hg,_⟩
  ·rw[aW] at ha;cases ha
  ·rw[hg] at ha
   cases ha;subst hg;intro j u hu;rw[iR];exact World.ownsRow.cells h rfl j u hu
 ·rcases h.j6 with⟨_,h1,_⟩|⟨g,hg,_⟩
  ·omega
  ·exact⟨_,hg⟩
theorem bF.ax{F:Nat->Prop}(h:bF B w e s p n c xs)(hk:U F w w')(bc:∀a,p=some a->¬F a.block):bF B w' e s p n c xs:=h.same λa ha=>hk.heap _ (h.lt a ha).1 (bc a ha)
theorem bF.O(h:bF B w e s p n c xs)(hk:U bg w w'):bF B w' e s p n c xs:=h.ax hk λ_ _ e=>e
theorem bF.below(h:bF B w e s p n c xs)(hb:Below w.heap.size w w'):bF B w' e s p n c xs:=h.O (U.au hb)
theorem bF.zero(h:bF B w e s p n c xs):w.ownsRow 0 e s (.slice p n c) n xs:=h.low (ef _)
theorem cB.lt{lo:Nat}{ab:List (Nat×TypeId)}(h:cB w lo ab){d:Nat}(hd:d∈ab.map (·.1)):d<w.heap.size:=by
 obtain⟨q,hq,rfl⟩:=lr.1 hd;obtain⟨_,cs,hc⟩:=h q hq;exact(oD.1 hc).1
theorem bF.ext{cf:List Nat}(h:bF B w e s p n c xs)(hx:dV w cf w')(hd:∀d∈cf,d<B):bF B w' e s p n c xs:=h.same λa ha=>by
 have:=h.lt a ha;exact hx.heap _ this.1 λhm=>by have:=hd _ hm;omega
theorem cX.own{cf:List Nat}{cs:List Value}{b:Nat}(h:cX w cf e cs w' b)(hl:cs.length=n*s)(hn:n<=maxLen):bF w.heap.size w' e s (some ⟨b,0,none⟩) n n cs:=
 ⟨hl, .inr ⟨b,n,cs.toArray,rfl,h.new,h.row,cL _,hn,by simp[hl],by rw[<-hl];simp⟩⟩
theorem cX.ax{cf:List Nat}{cs:List Value}{b:Nat}(h:cX w cf e cs w' b)(hd:cf=[]):U bg w w':=by
 subst hd;exact⟨h.os,h.tape,h.output,Pa (JU h.new h.size),λi hi _=>h.heap i hi aS⟩
theorem gk.own{cf:List Nat}{p':ao}{rB c0 c' m:Nat}(h:gk w cf p rB c0 e s m xs w' p' c')(hB:B<=w.heap.size)(hp:∀a,p=some a->B<=a.block):bF B w' e s p' m c' xs:=by
 refine bF.base (B:=0) h.row λa ha=>?_
 rcases h.j6 a ha with⟨b,hb,e',_⟩|q
 ·rw[e'];exact hp b hb
 ·omega
theorem gk.ax{F:Nat->Prop}{p':ao}{rB c0 c' m:Nat}(h:gk w [] p rB c0 e s m xs w' p' c')(hp:rB<c0->∀a,p=some a->F a.block):U F w w':=
 ⟨h.os,h.tape,h.output,h.size,λi hi bc=>h.heap i hi aS λhlt a ha e=>bc (by rw[e];exact hp hlt a ha)⟩
end
theorem ak8{p:ao}{c es:Nat}:cM p c 0 es=p:=by
 unfold cM;split
 ·rfl
 ·cases p with
  |none=>rfl
  |some a=>
   show some (a.add (0*es))=some a;rw[Dv];unfold Addr.add;rw[aA rfl]
end Go.Sy
namespace Go.Proofs.YtimbpmnbbfeogaaGreatDoor
open Go Go.RowKit Go.Sy Go.Rep
abbrev fB(lo:Nat)(w:World)(p:ao)(n c:Nat)(l:List bC):Prop:=bF lo w G.Cell 16 p n c (gR l)
theorem fB.qc{lo:Nat}{w:World}{p:ao}{n c:Nat}{l:List bC}(h:fB lo w p n c l):ga w p n l:=bF.row h
def Za(w0:World)(l:List bC)(v:Value)(w:World):Prop:=∃p c,v= .slice p l.length c/\fB w0.heap.size w p l.length c l
theorem aan{w0 w1 ad:World}{e:TypeId}{s ar dw aQ:Nat}{cq:ao}{xs:List Value}(h1:cX w0 [] e [] w1 ar)(h2:gk w1 [] (some ⟨ar,0,none⟩) 0 0 e s (0+dw) ([]++xs) ad cq aQ):bF w0.heap.size ad e s cq dw aQ xs/\U bg w0 ad:=by
 have hk:=cX.ax h1 rfl;have:=gk.own (B:=w0.heap.size) h2 hk.size λa ha=>by cases ha;exact h1.new
 rw[iR,pW] at this;exact⟨this,hk.trans (gk.ax h2 λh=>by omega)⟩
theorem aeu{w0 w1:World}{lo:Nat}{F:Nat->Prop}{e:TypeId}{s ar m:Nat}(h:cX w0 [] e [] w1 ar):gy lo F [] w1 e s (some ⟨ar,0,none⟩) 0 0 [] m:=
 .inl ⟨(cX.own (s:=s) (n:=0) h aS (ef _)).zero,λa ha=>⟨by simp,λh=>by omega⟩⟩
variable{w0:World}{F:Nat->Prop}{Q:Value->World->Prop}
theorem ayh(aP:ao)(aM ba:Nat)(i missing:Int)(h:bG i 0 (aa w0 F w0 Q (D missing)) (dX aM i (aa w0 F w0 Q (D missing)) (∃a:Addr,aP=(some a)/\hG i aM/\∃b,At w0 a ((Int.toNat i)*1) [D b]/\bG b 0 (aa w0 F w0 Q (D missing)) (∃c:Addr,aP=(some c)/\hG i aM/\∃d,At w0 c ((Int.toNat i)*1) [D d]/\aa w0 F w0 Q (D d))))):aO X.uf #[.slice aP aM ba,D i,D missing] w0 F Q:=bh [.cJ aP aM ba,cn i,cn missing] h
theorem ayi(aP:ao)(aM ba:Nat)(i:Int)(h:b9 w0 F [] w0 X.uf #[.slice aP aM ba,D i,D 0] D λc d=>i' w0 F Q d c/\(d=0->aa w0 F c Q (D 1))):aO X.qA #[.slice aP aM ba,D i] w0 F Q:=bh [.cJ aP aM ba,cn i] h
theorem azs(aP:ao)(aM ba:Nat)(h:a' (aM:Int) 0 (∀a:World,∀b:Nat,cX w0 [] G.int [D 0] a b->aa w0 F a Q (.slice (some ⟨b,0,none⟩) 1 1)) (aa w0 F w0 Q (.slice aP aM ba))):aO X.VJ #[.slice aP aM ba] w0 F Q:=bh [.cJ aP aM ba] h
theorem axT(l:gx)(h:aG w0 λa=>aG w0 λb=>cC w0 w0 [(a,G.fg),(b,G.fg)] X.Oc #[.slice l.cells.p l.cells.n l.cells.c] λc d e=>∃f:ao,∃g i:Nat,bW d (.slice f g i) w0 F [a,b] c e (bn w0 F e [b,a] Q (.agg #[.slice f g i, .bool l.cU]))):aO X.Is #[.agg l.T] w0 F Q:=bh [.agg (gx.bN.enc l)] h
theorem axV(l:gx)(h:aG w0 λa=>dX l.cells.n 1000 (cC w0 w0 [(a,G.fg)] X.QG #[.slice l.cells.p l.cells.n l.cells.c] λb c d=>xm w0 F Q c [a] b d) (aa w0 F w0 Q (.bool false))):aO X.It #[.agg l.T] w0 F Q:=bh [.agg (gx.bN.enc l)] h
theorem az3(a_:ao)(dw cs:Nat)(h:(a_=none->aa w0 F w0 Q (.slice none 0 0))/\(¬(a_=none)->∀a:World,∀b:Nat,cX w0 [] G.Cell [] a b->∃c:List Value,gy w0.heap.size F [] a G.Cell 16 (some ⟨b,0,none⟩) 0 0 c dw/\∃d:List Value,(d.length=(dw*16)/\A2 d a_ dw a)/\((0+dw)*64)<=140737488355328/\∀e:World,∀f:ao,∀g:Nat,gk a [] (some ⟨b,0,none⟩) 0 0 G.Cell 16 (0+dw) (c++d) e f g->aa w0 F e Q (.slice f (0+dw) g))):aO X.Oc #[.slice a_ dw cs] w0 F Q:=bh [.cJ a_ dw cs] h
theorem az4(a_:ao)(dw cs:Nat)(h:(a_=none->aa w0 F w0 Q (.slice none 0 0))/\(¬(a_=none)->∀a:World,∀b:Nat,cX w0 [] G.fg [] a b->∃c:List Value,gy w0.heap.size F [] a G.fg 2 (some ⟨b,0,none⟩) 0 0 c dw/\∃d:List Value,(d.length=(dw*2)/\A2 d a_ dw a)/\((0+dw)*32)<=140737488355328/\∀e:World,∀f:ao,∀g:Nat,gk a [] (some ⟨b,0,none⟩) 0 0 G.fg 2 (0+dw) (c++d) e f g->aa w0 F e Q (.slice f (0+dw) g))):aO X.Od #[.slice a_ dw cs] w0 F Q:=bh [.cJ a_ dw cs] h
theorem az9(sR:ao)(iL wb:Nat)(dZ:Int)(h:bG dZ 0 False (dt w0 X.Ql #[.int .u64 (IntKind.wrap .u64 (iL:Int)), .int .u64 (IntKind.wrap .u64 dZ)] λa b c=>∃d e:Int,bW b (.tuple #[.int .u64 d, .int .u64 e]) w0 F [] a c (bG 0 d False (bG 9223372036854775807 e False (ay e/\((0:Int)<=e/\e<=e/\(e*64)<=140737488355328)/\∀f:World,∀g:Nat,Made c [] G.Cell 16 (Int.toNat e) (Int.toNat e) [.int .i32 0, .int .i32 0, .int .i32 0, .int .i32 0,D 0,D 0, .int .u8 0, .int .u8 0, .int .u8 0, .int .u8 0,D 0, .int .u8 0, .int .u8 0, .int .u8 0, .int .u8 0, .int .u8 0] f g->∃i:Addr,(some ⟨g,0,none⟩)=(some i)/\∃j:List Value,(j.length=((min iL (Int.toNat e))*16)/\yZ j/\(sR=none->(min iL (Int.toNat e))=0)/\∀k:Addr,sR=(some k)->At f k 0 j)/\(ct f i 0 ((min iL (Int.toNat e))*16)/\cp w0.heap.size F [] i.block)/\∀k:World,bH f [] i 0 j k->∃l:Int->World->Prop,∃m:Int->Nat,(bm k λn=>l (((min iL (Int.toNat e)):Nat):Int) n)/\∀n:Int,∀o:World,U F w0 o->l n o->bG n ((Int.toNat e):Nat) (((0:Int)<=n/\n<=(((Int.toNat e):Nat):Int)/\(((Int.toNat e):Nat):Int)<=(((Int.toNat e):Nat):Int))/\((0:Int)<=0/\(0:Int)<=n/\n<=(((Int.toNat e):Nat):Int))/\∃p:Addr,(cM (some ⟨g,0,none⟩) (Int.toNat e) (Int.toNat n) 16)=(some p)/\∃q:List Value,(q.length=((min (Int.toNat (n-0)) (Int.toNat ((((Int.toNat e):Nat):Int)-n)))*16)/\yZ q/\((cM (some ⟨g,0,none⟩) (Int.toNat e) 0 16)=none->(min (Int.toNat (n-0)) (Int.toNat ((((Int.toNat e):Nat):Int)-n)))=0)/\∀r:Addr,(cM (some ⟨g,0,none⟩) (Int.toNat e) 0 16)=(some r)->At o r 0 q)/\(ct o p 0 ((min (Int.toNat (n-0)) (Int.toNat ((((Int.toNat e):Nat):Int)-n)))*16)/\cp w0.heap.size F [] p.block)/\∀r:World,bH o [] p 0 q r->ay (n+(((min (Int.toNat (n-0)) (Int.toNat ((((Int.toNat e):Nat):Int)-n))):Nat):Int))/\bm r λs=>l (n+(((min (Int.toNat (n-0)) (Int.toNat ((((Int.toNat e):Nat):Int)-n))):Nat):Int)) s/\m (n+(((min (Int.toNat (n-0)) (Int.toNat ((((Int.toNat e):Nat):Int)-n))):Nat):Int))<m n) (aa w0 F o Q (.slice (some ⟨g,0,none⟩) (Int.toNat e) (Int.toNat e)))))))):aO X.Wp #[.slice sR iL wb,D dZ] w0 F Q:=eV [⟨8,[8],[]⟩] [] [.cJ sR iL wb,cn dZ] h
theorem az6(CZ:ao)(vp GJ:Nat)(C1:ao)(yr xG:Nat)(h:Yb w0 F Q vp yr CZ C1):aO X.Wn #[.slice CZ vp GJ, .slice C1 yr xG] w0 F Q:=eV [⟨4,[13],[]⟩] [] [.cJ CZ vp GJ, .cJ C1 yr xG] h
theorem axU(a b:gx)(h:aG w0 λc=>aG w0 λd=>((bL.val (.ok a.cU))=(bL.val (.ok b.cU))->cC w0 w0 [(c,G.fg),(d,G.fg)] X.Wn #[.slice a.cells.p a.cells.n a.cells.c, .slice b.cells.p b.cells.n b.cells.c] λe f g=>xm w0 F Q f [c,d] e g)/\(¬((bL.val (.ok a.cU))=(bL.val (.ok b.cU)))->aa w0 F w0 Q (.bool false))):aO X.CB #[.agg a.T, .agg b.T] w0 F Q:=bh [.agg (gx.bN.enc a), .agg (gx.bN.enc b)] h
end Go.Proofs.YtimbpmnbbfeogaaGreatDoor
namespace Go.Proofs.YtimbpmnbbfeogaaGreatDoor
open Go Go.RowKit Go.Sy Go.Rep
def dp(l:List Int)(i m:Int):Int:=if 0<=i/\i<l.length/\0<=l.getD i.toNat 0 then l.getD i.toNat 0 else m
def e5(l:List Int)(i:Int):Int:=if dp l i 0=0 then 1 else dp l i 0
theorem Ny{w:World}{aP:ao}{aM ba:Nat}{i missing:Int}{l:List Int}(h:eK w aP aM l):di X.uf #[.slice aP aM ba, .int .i64 i, .int .i64 missing] w (.int .i64 (dp l i missing)):=by
 have hl:=h.len;refine ayh aP aM ba i missing ?_
 repeat' (first|(refine aa.of λ_=>?_)|(refine bn.of λ_=>?_)|(refine eK.fU (h.O qQ) M M λ_ _=>?_)|(refine And.intro ?_ ?_)|intro _)
 all_goals first|rfl|(unfold ay;omega)|(exfalso;first|omega|contradiction|(simp_all;done))|(simp[cF,cD,cb,cv,cG, *,dp];done)|grind [cF,cD,cb,cv,cG,dp]
theorem afQ{w:World}{aP:ao}{aM ba:Nat}{i:Int}{l:List Int}(h:eK w aP aM l):di X.qA #[.slice aP aM ba, .int .i64 i] w (.int .i64 (e5 l i)):=by
 refine ayi aP aM ba i ?_
 repeat' (first|(refine aa.of λ_=>?_)|(refine bn.of λ_=>?_)|(refine di.aH (Ny (h.O qQ)) λ_ hk=>?_;first|refine⟨_,rfl,hk.O,?_⟩|refine⟨_,_,rfl,hk.O,?_⟩|refine⟨_,_,_,rfl,hk.O,?_⟩)|(refine And.intro ?_ ?_)|intro _)
 all_goals first|rfl|(unfold ay;omega)|(exfalso;first|omega|contradiction|(simp_all;done))|(simp[cF,cD,cb,cv,cG, *,e5];done)|grind [cF,cD,cb,cv,cG,e5]
theorem af8{w:World}{p:ao}{n c:Nat}{l:List bC}(h:ga w p n l)(hn:n<=1073741824):bI Tryz.prog X.Oc #[.slice p n c] w bg (Za w l):=by
 have hl:=h.len;refine az3 p n c ⟨λe=>?_,λe w1 ar h1=>?_⟩
 ·intro w' hb hk
  have aW:n=0:=by
   rcases nw n with q|q
   ·exact q
   ·obtain⟨a,ha⟩:=Row.iP h q
    rw[e] at ha;cases ha
  have:l=[]:=n2 M;subst this;exact⟨none,0,rfl,bF.nil _ _ _ _⟩
 ·have zs:=Row.O h (cX.ax h1 rfl)
  refine⟨[],aeu h1,gR l,⟨by rw[xI,hl],K4 l,λe'=>absurd e' e,λa ha=>zs.eI a ha⟩,by omega,λad cq aQ h2=>?_⟩;obtain⟨ho,hk⟩:=aan h1 h2;intro w' hb _;rw[iR,<-hl];exact⟨cq,aQ,rfl,by rw[hl];exact ho.below hb⟩
def nz(w:World)(h:gx)(cs:List bC):Prop:=ga w h.cells.p h.cells.n cs
theorem nz.O{w w':World}{h:gx}{cs:List bC}(k:nz w h cs)(hk:U bg w w'):nz w' h cs:=ga.O k hk
def aiQ(w0:World)(cs:List bC)(cU:Bool)(v:Value)(w:World):Prop:=∃p c,v= .agg (gx.T ⟨⟨p,cs.length,c⟩,cU⟩)/\fB w0.heap.size w p cs.length c cs
theorem Nx{w:World}{l:gx}{cs:List bC}(h:nz w l cs)(hn:l.cells.n<=1073741824):bI Tryz.prog X.Is #[.agg l.T] w bg (aiQ w cs l.cU):=by
 refine axT l λar h1 aQ h2 w1 hb hm=>?_
 refine(af8 (h.O (U.au hb)) hn).aH λv ad hk hq=>?_
 obtain⟨p,c,rfl,ho⟩:=hq;refine⟨p,_,c,rfl,hk.O,λw' he _=>⟨p,c,rfl,?_⟩⟩;have hs:=hb.size;have tN:=hk.size;exact(ho.ext he λd hd=>hm.lt (by simp at hd⊢;omega)).low hs
end Go.Proofs.YtimbpmnbbfeogaaGreatDoor
namespace Go.Sy
open Go.RowKit (Below)
section
variable{w w':World}{B B':Nat}{e:TypeId}{s n c:Nat}{p:ao}{xs ys:List Value}
theorem bF.p9(h:bF B w e s p n c xs){a:Addr}(ha:p=some a){o m:Nat}(hm:o+m<=n*s):ct w a o m:=by
 rcases h.2 with⟨ah,_⟩|⟨g,cap,cur,ah,hB,hg,hc,_,hs,_⟩
 ·injection ah with ah;rw[ah] at ha;cases ha
 ·injection ah with ah _ _
  rw[ah] at ha;injection ha with ha
  subst ha;refine⟨rfl,cur,e,hg,?_⟩;have:n*s<=cap*s:=JJ _ hc;show 0+o+m<=cur.size;omega
theorem bF.put(h:bF B w e s p n c xs){a:Addr}(ha:p=some a){o:Nat}{vs:List Value}(hm:o+vs.length<=n*s){cf:List Nat}(hp:bH w cf a o vs w'):bF B w' e s p n c (xs.take o++(vs++xs.drop (o+vs.length))):=by
 have hl:=h.1;rcases h.2 with⟨ah,_⟩|⟨g,cap,cur,ah,hB,hg,hc,hx,hs,ht⟩
 ·injection ah with ah;rw[ah] at ha;cases ha
 ·injection ah with ah h2 aw
  rw[ah] at ha;injection ha with ha
  subst ha;obtain⟨fD,bY,c2,c3⟩:=hp.u7 cur e hg;refine⟨by simp;omega, .inr ⟨g,cap,fD,by rw[ah,aw],hB,bY,hc,hx,by rw[c2];exact hs,?_⟩⟩;have Cb:n*s<=cap*s:=JJ _ hc;apply s8;intro j;rw[T0 xs vs o M,uD];have hj:=c3 j;simp only[iR] at hj;have anl:∀j,j<n*s->cur[j]? =xs[j]? :=λj hj=>by
   rw[<-ht,uD,aA hj,uA]
  split
  ·rename_i hlt
   rw[uA,hj];split
   ·rfl
   ·exact anl j hlt
  ·rename_i qn
   rw[ag M];exact(nu M).symm
theorem bH.ax{F:Nat->Prop}{a:Addr}{o:Nat}{vs:List Value}(hp:bH w [] a o vs w')(bc:F a.block):U F w w':=
 ⟨hp.os,hp.tape,hp.output,hp.size,λi hi hn=>hp.heap i hi aS λe=>hn (by rw[e];exact bc)⟩
theorem cp.new{lo:Nat}{F:Nat->Prop}{bs:List Nat}{b:Nat}(h1:lo<=b)(h2:b∉bs):cp lo F bs b:=⟨h2,λh=>by omega⟩
end
end Go.Sy
namespace Go.Proofs.YtimbpmnbbfeogaaGreatDoor
open Go Go.RowKit Go.Sy Go.Rep
theorem ald(l:List bC)(k:Nat)(x:bC)(h:k<l.length):(gR l).take (k*16)++(x.T.toList++(gR l).drop (k*16+x.T.toList.length))=gR (l.set k x):=by
 rw[K5,show k*16+x.T.toList.length=(k+1)*16 by show k*16+16=_;omega,K3,O5,aA h,Q4,DQ]
theorem fB.put{B:Nat}{w w':World}{p:ao}{n c:Nat}{l:List bC}(h:fB B w p n c l){a:Addr}(ha:p=some a){k:Nat}(hk:k<n){x:bC}{cf:List Nat}(hp:bH w cf a (k*16) x.T.toList w'):fB B w' p n c (l.set k x):=by
 have hl:=h.qc.len;have:=bF.put h ha (o:=k*16) (vs:=x.T.toList) (by show k*16+16<=n*16;omega) hp;rwa[ald l k x M] at this
theorem fB.p9{B:Nat}{w:World}{p:ao}{n c:Nat}{l:List bC}(h:fB B w p n c l){a:Addr}(ha:p=some a){k:Nat}(hk:k<n):ct w a (k*16) 16:=bF.p9 h ha M
theorem gy.none{lo:Nat}{F:Nat->Prop}{bs:List Nat}{w:World}{e:TypeId}{es m:Nat}:gy lo F bs w e es none 0 0 [] m:= .inl ⟨(bF.nil 0 _ _ _).zero,λa ha=>nomatch ha⟩
theorem Row.wL{w:World}{p:ao}{n es:Nat}{vs:List Value}(h:Row w p n es vs)(e:p=none):n=0:=by
 rcases nw n with q|q
 ·exact q
 ·obtain⟨a,ha⟩:=h.iP q
  rw[e] at ha;cases ha
variable{w0:World}{F:Nat->Prop}{Q:Value->World->Prop}
theorem aw4(x y:Int)(h:(0:Int)<=32/\(0:Int)<=32/\(0:Int)<=32/\(0:Int)<=32/\(0:Int)<=32/\aa w0 F w0 Q (.tuple #[.int .u64 (IntKind.wrap .u64 ((IntKind.wrap .u64 ((IntKind.wrap .u64 ((iA .u64 x 32)*(iA .u64 y 32)))+(iA .u64 (IntKind.wrap .u64 ((IntKind.wrap .u64 ((iA .u64 x 32)*(bits .and .u64 y 4294967295)))+(iA .u64 (IntKind.wrap .u64 ((bits .and .u64 x 4294967295)*(bits .and .u64 y 4294967295))) 32))) 32)))+(iA .u64 (IntKind.wrap .u64 ((bits .and .u64 (IntKind.wrap .u64 ((IntKind.wrap .u64 ((iA .u64 x 32)*(bits .and .u64 y 4294967295)))+(iA .u64 (IntKind.wrap .u64 ((bits .and .u64 x 4294967295)*(bits .and .u64 y 4294967295))) 32))) 4294967295)+(IntKind.wrap .u64 ((bits .and .u64 x 4294967295)*(iA .u64 y 32))))) 32))), .int .u64 (IntKind.wrap .u64 (x*y))])):aO X.Qm #[.int .u64 x, .int .u64 y] w0 F Q:=bh [.int .u64 x, .int .u64 y] h
theorem aw3(x y:Int)(h:dt w0 X.Qm #[.int .u64 x, .int .u64 y] λa b c=>∃d e:Int,bW b (.tuple #[.int .u64 d, .int .u64 e]) w0 F [] a c (aa w0 F c Q (.tuple #[.int .u64 d, .int .u64 e]))):aO X.Ql #[.int .u64 x, .int .u64 y] w0 F Q:=bh [.int .u64 x, .int .u64 y] h
end Go.Proofs.YtimbpmnbbfeogaaGreatDoor
namespace Go.Sy
open Go.RowKit (Below)
section
variable{w w':World}{e:TypeId}{s n c b:Nat}{z:List Value}
theorem Made.own{cf:List Nat}(h:Made w cf e s n c z w' b)(hz:z.length=s)(hn:n<=c)(hc:c<=maxLen):bF w.heap.size w' e s (some ⟨b,0,none⟩) n c (List.replicate n z).flatten:=by
 have hl:∀m,(List.replicate m z).flatten.length=m*s:=λm=>by simp[hz]
 refine⟨hl n, .inr ⟨b,c,_,rfl,h.new,h.row,hn,hc,by simp[hz],?_⟩⟩;have:c=n+(c-n):=by omega
 rw[this,<-ait,List.flatten_append];exact List.take_left' (hl n)
theorem Made.ax(h:Made w [] e s n c z w' b):U bg w w':=⟨h.os,h.tape,h.output,Pa (JU h.new h.size),λi hi _=>h.heap i hi aS⟩
theorem ct.base{g k o m:Nat}(h:ct w ⟨g,0,none⟩ (k+o) m):ct w ⟨g,k,none⟩ o m:=by
 obtain⟨h1,cs,t,h2,aw⟩:=h;exact⟨rfl,cs,t,h2,by simpa using aw⟩
theorem bH.base{cf:List Nat}{g k o:Nat}{vs:List Value}(h:bH w cf ⟨g,k,none⟩ o vs w'):bH w cf ⟨g,0,none⟩ (k+o) vs w':=by
 refine⟨h.os,h.tape,h.output,h.size,h.heap,λcs t hc=>?_⟩;obtain⟨fD,h1,h2,aw⟩:=h.u7 cs t hc;refine⟨fD,h1,h2,λj=>?_⟩;have:=aw j;simpa using this
end
end Go.Sy
namespace Go.Proofs.YtimbpmnbbfeogaaGreatDoor
open Go Go.RowKit Go.Sy Go.Rep
theorem alc(c:bC)(n:Nat):gR (List.replicate n c)=(List.replicate n c.T.toList).flatten:=by simp[gR]
theorem fB.Nt{B:Nat}{w w':World}{p:ao}{n c:Nat}{l:List bC}(h:fB B w p n c l){a:Addr}(ha:p=some a){k:Nat}{ys:List bC}(hk:k+ys.length<=n){cf:List Nat}(hp:bH w cf a (k*16) (gR ys) w'):fB B w' p n c (l.take k++ys++l.drop (k+ys.length)):=by
 have hl:=h.qc.len;have:=bF.put h ha (o:=k*16) (vs:=gR ys) (by rw[xI];omega) hp;have e:k*16+(gR ys).length=(k+ys.length)*16:=by rw[xI];omega
 rw[e,K5,K3,<-Q4,<-Q4,<-ju] at this;exact this
theorem ga.sub{w:World}{p:ao}{n:Nat}{l:List bC}(h:ga w p n l){a:Addr}(ha:p=some a){k:Nat}(hk:k<=n):At w a 0 (gR (l.take k)):=by
 have hl:=h.len;refine Row.at_ h ha 0 ?_;rw[AX,xI,K5,kC,AY M]
theorem sa{g c k es:Nat}(h:k<c):cM (some ⟨g,0,none⟩) c k es=some ⟨g,k*es,none⟩:=by
 unfold cM;rw[ag M];show some (Addr.add ⟨g,0,none⟩ (k*es))=_;unfold Addr.add;split
 ·rename_i e
  rw[show k*es=0 from e]
 ·simp
theorem ahr(x:Int)(aW:0<=x)(h1:x<4294967296):bits .and .u64 x 4294967295=x:=by
 have:=bits_mask .u64 64 du (λn a b=>by simp[IntKind.wrap,IntKind.bits,IntKind.signed];omega) 32 du x aW M;rw[show(4294967295:Int)=2^32-1 by decide,this];omega
theorem av3(x:Int):iA .u64 x 32=x/4294967296:=by
 unfold iA;show x.fdiv (2^(min 32 64))=_;rw[aiu _ du];rfl
theorem Xp{n:Int}(aW:0<=n)(h1:n<18446744073709551616):IntKind.wrap .u64 n=n:=by
 simp[IntKind.wrap,IntKind.bits,IntKind.signed];omega
theorem asz{w:World}{x y:Int}(hx:0<=x)(wF:x<4294967296)(hy:0<=y)(Tu:y<4294967296)(aW:0<=x*y)(h:x*y<4294967296):di X.Qm #[.int .u64 x, .int .u64 y] w (.tuple #[.int .u64 0, .int .u64 (x*y)]):=by
 refine aw4 x y ⟨by decide,by decide,by decide,by decide,by decide,aa.of λ_=>?_⟩;have fU:x/4294967296=0:=by omega
 have xP:y/4294967296=0:=by omega
 simp only[av3,ahr _ hx wF,ahr _ hy Tu,Xp aW (by omega:x*y<18446744073709551616),fU,xP,Int.zero_mul,Int.mul_zero,show x*y/4294967296=0 by omega];have z0:IntKind.u64.wrap 0=0:=by decide
 have xc:bits .and .u64 0 4294967295=0:=by decide
 simp only[z0,xc,Int.add_zero,Int.zero_ediv]
theorem asy{w:World}{x y:Int}(hx:0<=x)(wF:x<4294967296)(hy:0<=y)(Tu:y<4294967296)(aW:0<=x*y)(h:x*y<4294967296):di X.Ql #[.int .u64 x, .int .u64 y] w (.tuple #[.int .u64 0, .int .u64 (x*y)]):=by
 refine aw3 x y λw1 hb=>(asz hx wF hy Tu aW h).aH λad hk=>⟨_,_,rfl,hk.O,aa.of λ_=>rfl⟩
theorem auj{w:World}{sR:ao}{wb:Nat}{c:bC}{m:Nat}(h:ga w sR 1 [c])(hm:m<=1048576):bI Tryz.prog X.Wp #[.slice sR 1 wb, .int .i64 m] w bg (Za w (List.replicate m c)):=by
 refine az9 sR 1 wb m ⟨λe=>by omega,λ_ w1 hb1=>?_⟩;rw[Xp (n:=((1:Nat):Int)) M M,Xp (n:=(m:Int)) M M];refine(asy M M M M M M).aH λad aI=>⟨_,_,rfl,aI.O,λe=>absurd e du,λ_=>⟨λe=>by omega,λ_=>?_⟩⟩
 simp only[show((1:Nat):Int)*(m:Int)=(m:Int) by omega,jN];refine⟨by unfold ay;omega,⟨by omega,by omega,by omega⟩,λbw ar aw=>⟨_,rfl,?_⟩⟩;have iZ:=(U.au hb1).trans aI;have hk3:U bg w bw:=iZ.trans aw.ax;have wB:fB w.heap.size bw (some ⟨ar,0,none⟩) m m (List.replicate m Dl):=by
  have:=(Made.own aw rfl (cL _) (by show m<=_;unfold maxLen;omega)).low iZ.size;unfold fB;rw[alc];exact this
 have Hs:=h.O hk3;refine⟨gR (List.replicate (min 1 m) c),⟨by rw[xI,n3],K4 _,λe=>by rw[Row.wL h e];omega,λa ha=>?_⟩,⟨bF.p9 wB rfl (o:=0) (m:=min 1 m*16) M,cp.new (ek iZ.size aw.new) aS⟩,λbD sy=>?_⟩
 ·have:=ga.sub Hs ha (k:=min 1 m) M
  have e:[c].take (min 1 m)=List.replicate (min 1 m) c:=by cases m with|zero=>rfl|succ m=>simp
  rwa[e] at this
 have Cd:=wB.Nt rfl (k:=0) (ys:=List.replicate (min 1 m) c) ej (by rw[Dv];exact sy);rw[Dw,pW,n3,iR,X4] at Cd;refine⟨λi w'=>∃k:Nat,i=k/\min 1 m<=k/\k<=m/\fB w.heap.size w' (some ⟨ar,0,none⟩) m m (List.replicate k c++List.replicate (m-k) Dl),λi=>((m:Int)-i).toNat,λw' hb=>⟨min 1 m,rfl,cL _,by omega,Cd.below hb⟩,?_⟩;rintro i bP eH ⟨k,rfl,hk1,aCm,L'⟩;refine⟨λhi=>?_,λhi w' hb hk=>?_⟩
 ·have an4:k<m:=by omega
  simp only[show((k:Int)-0).toNat=k by omega,show((m:Int)-(k:Int)).toNat=m-k by omega,jN,ak8,sa an4];refine⟨⟨by omega,by omega,by omega⟩,⟨by omega,by omega,by omega⟩,_,rfl,gR (List.replicate (min k (m-k)) c),⟨by rw[xI,n3],K4 _,λe=>mR,λa ha=>?_⟩,⟨ct.base (bF.p9 L' rfl M),cp.new (ek iZ.size aw.new) aS⟩,λw7 pC=>⟨by unfold ay;omega,λcW lE=>⟨⟨k+min k (m-k),by omega,by omega,by omega,?_⟩,by omega⟩⟩⟩
  ·have:=ga.sub L'.qc ha (k:=min k (m-k)) M
   rw[X5 ej,List.take_replicate,AY M] at this;exact this
  ·have:=L'.Nt rfl (k:=k) (ys:=List.replicate (min k (m-k)) c) ej pC.base
   have:=this.below lE;rw[List.take_left' aS,ait,vL,X4,X4] at this;simp only[n3] at this;rw[show k-(k+min k (m-k))=0 by omega,show m-k-(k+min k (m-k)-k)=m-(k+min k (m-k)) by omega] at this;exact this
 ·have:k=m:=by omega
  subst this;refine⟨_,_,by rw[n3],?_⟩;have:=L'.below hb;rw[AZ,List.replicate_zero,nx] at this;rw[n3];exact this
end Go.Proofs.YtimbpmnbbfeogaaGreatDoor
namespace Go.Sy
open Go.RowKit (Below)
theorem bF.room{B lo:Nat}{F:Nat->Prop}{bs:List Nat}{w:World}{e:TypeId}{s n c:Nat}{p:ao}{xs:List Value}(h:bF B w e s p n c xs)(hb:∀a,p=some a->a.block∉bs)(bc:n<c->∀a,p=some a->a.block<lo->F a.block){m:Nat}:gy lo F bs w e s p n c xs m:=
 .inl ⟨h.zero,λa ha=>⟨hb a ha,λhlt=>bc hlt a ha⟩⟩
theorem gy.abo{lo:Nat}{F:Nat->Prop}{bs:List Nat}{w:World}{e:TypeId}{es n m:Nat}{a:Addr}{xs:List Value}(hm:0<m)(hl:xs.length=n*es)(hb:a.block∉bs)(ha:At w a 0 xs):gy lo F bs w e es (some a) n n xs m:=
 .inr ⟨hm,rfl,hl,a,rfl,hb,ha⟩
end Go.Sy
namespace Go.Proofs.YtimbpmnbbfeogaaGreatDoor
open Go Go.RowKit Go.Sy Go.Rep
def KB(n:Nat):List bC:=List.replicate n (ed jg)
theorem ga.lit{w w':World}{c:bC}{b:Nat}{e:TypeId}(h:cX w [] e c.T.toList w' b):ga w' (some ⟨b,0,none⟩) 1 [c]:=by
 have:=(cX.own (s:=16) (n:=1) h rfl du).row;have e:gR [c]=c.T.toList:=by simp[gR]
 unfold ga;rw[e];exact this
def pK(cs:List bC):Bool:=decide (cs.length<=1000)&&vx cs
theorem UQ{w:World}{l:gx}{cs:List bC}(aj:Laid w)(h:nz w l cs):di X.It #[.agg l.T] w (.bool (pK cs)):=by
 have hl:=ga.len h;refine axV l λar h1=>⟨λe ad hb hm=>(asC (Laid.below hb aj) (h.O (U.au hb)) M).aH λbw hk=>⟨_,rfl,hk.O,aa.of λ_=>?_⟩,λe=>aa.of λ_=>?_⟩
 ·rw[pK,hl,l8 (show l.cells.n<=1000 by omega),Ga]
 ·rw[pK,hl,kp (show ¬l.cells.n<=1000 by omega),Gb]
def Vm(a b:List bC)(k:Nat):Prop:=∀j,j<k->cP a j=cP b j
theorem agG{a b:List bC}(hl:a.length=b.length)(h:Vm a b a.length):a=b:=by
 apply List.ext_getElem hl;intro i h1 h2;have:=h i h1;simpa[cP,h1,h2] using this
theorem aui{w:World}{h3 cm:ao}{i6 jm nb db:Nat}{a b:List bC}(ha:ga w h3 i6 a)(hb:ga w cm nb b)(hn:i6<=1073741824):di X.Wn #[.slice h3 i6 jm, .slice cm nb db] w (.bool (decide (a=b))):=by
 have HK:=ha.len;have x8:=hb.len;refine az6 h3 i6 jm cm nb db ⟨λe=>aa.of λ_=>?_,λe=>⟨λi _=>∃k:Nat,i=k/\k<=i6/\Vm a b k,λi=>((i6:Int)-i).toNat,λ_ _=>⟨0,rfl,by omega,λj hj=>by omega⟩,?_⟩⟩
 ·rw[kp]
  intro q;rw[q] at HK;omega
 rintro i w1 hk1 ⟨k,rfl,hk,hs⟩;refine⟨λhi=>?_,λhi=>aa.of λ_=>?_⟩
 ·refine ga.fU (ha.O hk1) M M λx _ _=>ga.fU (hb.O hk1) M M λy _ _=>⟨_,λbP=>Rg _ _ bP,λe=>aa.of λ_=>?_,λe=>⟨by unfold ay;omega,λbw _=>⟨⟨k+1,by omega,by omega,?_⟩,by dsimp only;omega⟩⟩⟩
  ·rw[kp]
   intro q;rw[q] at e;simp at e
  ·intro j hj
   rcases X8.1 hj with q|q
   ·exact hs j q
   ·subst q
    simpa using e
 ·have:k=i6:=by omega
  subst this;rw[l8 (agG M (by rw[HK];exact hs))]
theorem ata{w:World}{x y:gx}{a b:List bC}(ha:nz w x a)(hb:nz w y b)(hn:x.cells.n<=1073741824):di X.CB #[.agg x.T, .agg y.T] w (.bool (decide (x.cU=y.cU)&&decide (a=b))):=by
 refine axU x y λar _ aQ _=>⟨λe ad Hq hm=>(aui (ha.O (U.au Hq)) (hb.O (U.au Hq)) hn).aH λbw hk=>⟨_,rfl,hk.O,aa.of λ_=>?_⟩,λe=>aa.of λ_=>?_⟩
 ·rw[cv,cv] at e
  rw[l8 e,Ga]
 ·rw[cv,cv] at e
  rw[kp e,Gb]
end Go.Proofs.YtimbpmnbbfeogaaGreatDoor
namespace Go.Rep
open Go Go.Sy
def ck.iK(x:ck):gx:=⟨⟨x.aB,x.cs.length,x.cap⟩,x.cU⟩
def aBv:ck:=⟨none,0,[],false⟩
def bb(xs:List ck)(i:Nat):ck:=xs.getD i aBv
structure Li where
 (cs:List bC) (cU:Bool)
 deriving DecidableEq
def ck.jT(x:ck):Li:=⟨x.cs,x.cU⟩
def bJ(xs:List ck):List Li:=xs.map ck.jT
end Go.Rep
namespace Go.Proofs.YtimbpmnbbfeogaaGreatDoor
open Go Go.RowKit Go.Sy Go.Rep
def dm(xs:List ck)(i:Nat):Prop:=∃x∈xs,∃a,x.aB=some a/\a.block=i
def oF(w:World)(x:ck):Prop:=fB Y.dZ w x.aB x.cs.length x.cap x.cs
def aiB(x y:ck):Prop:=∀a b,x.aB=some a->y.aB=some b->a.block≠b.block
structure fX(w:World)(xs:List ck):Prop where
 own:∀x∈xs,oF w x
 sep:xs.Pairwise aiB
theorem dm.append{xs ys:List ck}{i:Nat}:dm (xs++ys) i↔dm xs i∨dm ys i:=by
 constructor
 ·rintro⟨x,hx,a,ha,e⟩
  rcases gi.1 hx with q|q
  ·exact .inl ⟨x,q,a,ha,e⟩
  ·exact .inr ⟨x,q,a,ha,e⟩
 ·rintro(⟨x,hx,r⟩|⟨x,hx,r⟩)
  ·exact⟨x,pd _ hx,r⟩
  ·exact⟨x,vJ _ hx,r⟩
theorem dm.nil{i:Nat}:¬dm [] i:=λ⟨x,hx,_⟩=>by cases hx
theorem dm.cw{x:ck}{i:Nat}:dm [x] i↔∃a,x.aB=some a/\a.block=i:=
 ⟨λ⟨y,hy,r⟩=>by rw[gg] at hy;subst hy;exact r,λr=>⟨x,gg.2 rfl,r⟩⟩
theorem dm.sub{xs ys:List ck}(h:∀x∈xs,x∈ys){i:Nat}:dm xs i->dm ys i:=λ⟨x,hx,r⟩=>⟨x,h x hx,r⟩
section
variable{w w':World}{xs ys:List ck}{p p':ao}{n c:Nat}
theorem fX.nil:fX w []:=⟨λ_ h=>(by cases h),List.Pairwise.nil⟩
theorem fX.sub(h:fX w xs)(s:List.Sublist ys xs):fX w ys:=⟨λx hx=>h.own x (s.subset hx),h.sep.sublist s⟩
theorem fX.lt(h:fX w xs){i:Nat}(hi:dm xs i):i<w.heap.size:=by
 obtain⟨x,hx,a,ha,rfl⟩:=hi;exact(bF.lt (h.own x hx) a ha).1
theorem oF.ax{F:Nat->Prop}{x:ck}(h:oF w x)(hk:U F w w')(bc:∀i,F i->¬dm [x] i):oF w' x:=
 bF.ax h hk λa ha bk=>bc _ bk (dm.cw.2 ⟨a,ha,rfl⟩)
theorem fX.ax{F:Nat->Prop}(h:fX w xs)(hk:U F w w')(bc:∀i,F i->¬dm xs i):fX w' xs:=
 ⟨λx hx=>(h.own x hx).ax hk λi bk hl=>bc i bk (hl.sub λy hy=>by rw[gg] at hy;subst hy;exact hx),h.sep⟩
theorem fX.append(h1:fX w xs)(h2:fX w ys)(hd:∀i,dm xs i->¬dm ys i):fX w (xs++ys):=
 ⟨λx hx=>(gi.1 hx).elim (h1.own x) (h2.own x),uz.2 ⟨h1.sep,h2.sep,λx hx y hy a b ha hb e=>hd a.block ⟨x,hx,a,ha,rfl⟩ ⟨y,hy,b,hb,e.symm⟩⟩⟩
theorem fX.cw{x:ck}(h:oF w x):fX w [x]:=⟨λy hy=>by rw[gg] at hy;subst hy;exact h,Dr _ _⟩
structure dE(w:World)(p:ao)(n c:Nat)(xs:List ck):Prop where
 row:bF Y.dZ w G.fg 2 p n c (dR xs)
 off:∀a,p=some a->¬dm xs a.block
 eG:fX w xs
def fA(p:ao)(xs:List ck)(i:Nat):Prop:=(∃a,p=some a/\a.block=i)∨dm xs i
theorem dE.len(h:dE w p n c xs):xs.length=n:=by
 have:=h.row.len;rw[wv] at this;omega
theorem dE.nil:dE w none 0 0 []:=⟨bF.nil _ _ _ _,λa ha=>(nomatch ha),fX.nil⟩
theorem dE.lt(h:dE w p n c xs){i:Nat}(hi:fA p xs i):i<w.heap.size:=by
 rcases hi with⟨a,ha,rfl⟩|hi
 ·exact(h.row.lt a ha).1
 ·exact h.eG.lt hi
theorem dE.low(h:dE w p n c xs){i:Nat}(hi:fA p xs i):Y.dZ<=i:=by
 rcases hi with⟨a,ha,rfl⟩|⟨x,hx,a,ha,rfl⟩
 ·exact(h.row.lt a ha).2.1
 ·exact(bF.lt (h.eG.own x hx) a ha).2.1
theorem dE.ax{F:Nat->Prop}(h:dE w p n c xs)(hk:U F w w')(bc:∀i,F i->¬fA p xs i):dE w' p n c xs:=
 ⟨h.row.ax hk λa ha bk=>bc _ bk (.inl ⟨a,ha,rfl⟩),h.off,h.eG.ax hk λi bk hl=>bc i bk (.inr hl)⟩
theorem dE.O(h:dE w p n c xs)(hk:U bg w w'):dE w' p n c xs:=h.ax hk λ_ e=>e.elim
theorem oF.wJ{x:ck}(h:oF w x):nz w x.iK x.cs:=fB.qc h
theorem aci(xs:List ck)(k:Nat)(h:k<xs.length):(bb xs k).iK.T.toList=((dR xs).drop (k*2)).take (bb xs k).iK.T.toList.length:=by
 have hd:∀(xs:List ck) (k:Nat),(dR xs).drop (k*2)=dR (xs.drop k):=by
  intro xs k
  induction k generalizing xs with
  |zero=>rfl
  |succ k ih=>
   cases xs with
   |nil=>simp[dR]
   |cons c l=>
    rw[x2,show(k+1)*2=2+k*2 by omega,<-vH];exact ih l
 have e:dR (xs.drop k)=(bb xs k).iK.T.toList++dR (xs.drop (k+1)):=by
  rw[mw h,x2];simp[bb,h,ck.iK]
 rw[hd,e];rfl
theorem pG{xs:List ck}{k:Nat}(h:k<xs.length):bb xs k∈xs:=by
 have:bb xs k=xs[k]:=by simp[bb,h]
 rw[this];exact vM h
theorem dE.at_(h:dE w p n c xs){a:Addr}(ha:p=some a){k:Nat}(hk:k<n):At w a (k*2) (bb xs k).iK.T.toList:=
 Row.at_ h.row.row ha _ (aci xs k (by have:=h.len;omega))
theorem dE.fU(h:dE w p n c xs){i:Int}{R:gx->Addr->Prop}(aW:0<=i)(h1:i<n)(hR:∀a,p=some a->oF w (bb xs i.toNat)->bb xs i.toNat∈xs->R (bb xs i.toNat).iK a):∃a,p=some a/\((0<=i/\i<n)/\∃l:gx,At w a (i.toNat*2) l.T.toList/\R l a):=by
 have hl:=h.len;obtain⟨a,ha⟩:=h.row.row.iP (by omega:0<n);have hm:=pG (xs:=xs) (k:=i.toNat) M;exact⟨a,ha,⟨aW,h1⟩,_,h.at_ ha M,hR a ha (h.eG.own _ hm) hm⟩
theorem dE.push(hY:Y.dZ<=w.heap.size)(h:dE w p n c xs){x:ck}(hx:oF w x)(hd:∀i,dm [x] i->¬fA p xs i){c':Nat}(g:gk w [] p n c G.fg 2 (n+1) (dR xs++x.iK.T.toList) w' p' c'):dE w' p' (n+1) c' (xs++[x])/\(∀i,fA p' (xs++[x]) i->fA p xs i∨dm [x] i∨w.heap.size<=i)/\U (fA p xs) w w':=by
 have hk:U (λi=>∃a,p=some a/\a.block=i) w w':=g.ax λ_ a ha=>⟨a,ha,rfl⟩
 have Lz:=h.eG.append (fX.cw hx) λi h1 h2=>hd i h2 (.inr h1)
 have hp:∀a,p'=some a->(∃b,p=some b/\a.block=b.block)∨w.heap.size<=a.block:=λa ha=>by
  rcases g.j6 a ha with⟨b,h1,h2,_⟩|q
  ·exact .inl ⟨b,h1,h2⟩
  ·exact .inr q
 refine⟨⟨?_,λa ha hl=>?_,Lz.ax hk ?_⟩,?_,hk.mono λi hi=> .inl hi⟩
 ·have:dR (xs++[x])=dR xs++x.iK.T.toList:=by rw[Hw];simp[dR,ck.iK]
  rw[this];exact g.own hY λa ha=>(h.row.lt a ha).2.1
 ·rcases hp a ha with⟨b,hb,e⟩|q
  ·rw[e] at hl
   rcases dm.append.1 hl with r|r
   ·exact h.off b hb r
   ·exact hd _ r (.inl ⟨b,hb,rfl⟩)
  ·have:=Lz.lt hl
   omega
 ·rintro i ⟨a,ha,rfl⟩ hl
  rcases dm.append.1 hl with r|r
  ·exact h.off a ha r
  ·exact hd _ r (.inl ⟨a,ha,rfl⟩)
 ·rintro i (⟨a,ha,rfl⟩|hl)
  ·rcases hp a ha with⟨b,hb,e⟩|q
   ·exact .inl (.inl ⟨b,hb,e.symm⟩)
   ·exact .inr (.inr q)
  ·rcases dm.append.1 hl with r|r
   ·exact .inl (.inr r)
   ·exact .inr (.inl r)
end
variable{w0:World}{F:Nat->Prop}{Q:Value->World->Prop}
theorem axw(g:Addr)(h:b9 w0 F [] w0 X.D4 #[al g] .bool λc d=>dQ d (aa w0 F c Q (.slice none 0 0)) (∃e:ao,∃f i:Nat,At c g 1 [.slice e f i]/\X' w0 F Q c f e [])):aO X.Lu #[al g] w0 F Q:=eV [⟨5,[3,13],[]⟩] [] [.aY g 0] h
theorem axv(g:Addr)(h:b9 w0 F [] w0 X.D4 #[al g] .bool λc d=>dQ d (aa w0 F c Q lk) (∃e,At c g 0 [D e]/\dt c X.Lu #[al g] λf i j=>∃k:ao,∃l m:Nat,bW i (.slice k l m) w0 F [] f j (At j g 0 [D e]/\aG j λn=>bm j λo=>U F w0 o->w0.heap.size<=n/\Whole o n G.Lt [D e, .slice k l m]->Q (ij n) o))):aO X.Ry #[al g] w0 F Q:=bh [.aY g 0] h
theorem axF(g:Addr)(h:Pz w0 F Q g):aO X.D4 #[al g] w0 F Q:=bh [.aY g 0] h
theorem axx(an ai:Int)(h:DC w0 F Q an/\((1:Int)<=an->Kd w0 F Q an/\(an<=1000->DC w0 F Q ai/\((1:Int)<=ai->Kd w0 F Q ai/\(ai<=1000->aG w0 λa=>∃b:Int->Int->Option Addr->Nat->Nat->World->Prop,∃c:Int->Int->Option Addr->Nat->Nat->Nat,(bm w0 λd=>b 0 ai none 0 0 d)/\∀d e:Int,∀f:ao,∀g i:Nat,∀j:World,U F w0 j->b d e f g i j->bG d an (a7 w0 F [a] j [(a,G.Lt)] X.Lv #[D ai, .agg #[D 0, .int .u8 0, .int .u8 0, .int .u8 0, .int .u8 0,D 0, .int .u8 0, .int .u8 0, .int .u8 0, .int .u8 0, .int .u8 0]] Jw λm n=>aG m λo=>∃p:List Value,gy w0.heap.size F [a,o] m G.fg 2 f g i p 1/\((g+1)*32)<=140737488355328/\∀q:World,∀r:ao,∀s:Nat,gk m [] f g i G.fg 2 (g+1) (p++n.T.toList) q r s->pX r [a,o]->ay (d+1)/\∀t:World,dV q [a] t->b (d+1) e r (g+1) s t/\c (d+1) e r (g+1) s<c d e f g i) (bm j λk=>U F w0 k->w0.heap.size<=a/\Whole k a G.Lt [D e, .slice f g i]->Q (.tuple #[ij a,D 0]) k)))))):aO X.Rz #[D an,D ai] w0 F Q:=eV [⟨5,[25],[0]⟩] [] [cn an,cn ai] h
theorem axE(ai:Int)(p:aT)(h:aG w0 λa=>aG w0 λb=>a7 w0 F [a,b] w0 [(a,G.b_),(b,G.fg)] X.uS #[.agg p.T] Ay λe f=>∀g:World,∀i:Nat,cX e [] G.Cell f.T.toList g i->¬(i∈[a,b])->cC w0 g [(a,G.b_),(b,G.fg)] X.Wp #[.slice (some ⟨i,0,none⟩) 1 1,D ai] λj k l=>∃m:ao,∃n o:Nat,bW k (.slice m n o) w0 F [a,b] j l (bn w0 F l [b] Q (.agg #[.slice m n o, .bool false]))):aO X.Lv #[D ai, .agg p.T] w0 F Q:=bh [cn ai, .agg (aT.bN.enc p)] h
theorem axA(g:Addr)(h:∃a:ao,∃b c:Nat,At w0 g 1 [.slice a b c]/\aa w0 F w0 Q (D (b:Int))):aO X.oQ #[al g] w0 F Q:=bh [.aY g 0] h
theorem axu(g:Addr)(h:∃a,At w0 g 0 [D a]/\aa w0 F w0 Q (D a)):aO X.mf #[al g] w0 F Q:=bh [.aY g 0] h
theorem axs(g:Addr)(row ae:Int)(h:aG w0 λa=>a7 w0 F [a] w0 [(a,G.Cell)] X.G8 #[al g,D row,D ae] D λd e=>(e≠0->bn w0 F d [a] Q (.tuple #[.agg #[.int .i32 0, .int .i32 0, .int .i32 0, .int .i32 0,D 0,D 0, .int .u8 0, .int .u8 0, .int .u8 0, .int .u8 0,D 0, .int .u8 0, .int .u8 0, .int .u8 0, .int .u8 0, .int .u8 0],D e]))/\(e=0->∃f:ao,∃i j:Nat,At d g 1 [.slice f i j]/\∃k:Addr,f=(some k)/\hG row i/\∃l:ao,∃m n:Nat,At d k ((Int.toNat row)*2) [.slice l m n]/\∃o:Addr,l=(some o)/\hG ae m/\∃p:bC,At d o ((Int.toNat ae)*16) p.T.toList/\bn w0 F d [a] Q (.tuple #[.agg p.T,D 0]))):aO X.G5 #[al g,D row,D ae] w0 F Q:=bh [.aY g 0,cn row,cn ae] h
theorem axy(g:Addr)(row ae:Int)(c:bC)(h:aG w0 λa=>a7 w0 F [a] w0 [(a,G.Cell)] X.G8 #[al g,D row,D ae] D λe f=>i' w0 F Q f e/\(f=0->a7 w0 F [a] e [(a,G.Cell)] X.wa #[.agg c.T] .bool λk l=>vO w0 F Q l k/\(l=true->a' c.w 0 (aa w0 F k Q (D 2)) (ay (ae+c.w)/\∃m,At k g 0 [D m]/\bG m (ae+c.w) (aa w0 F k Q (D 2)) (∃n:ao,∃o p:Nat,At k g 1 [.slice n o p]/\∃q:Addr,n=(some q)/\hG row o/\∃r:ao,∃s t:Nat,At k q ((Int.toNat row)*2) [.slice r s t]/\cC w0 k [(a,G.Cell)] X.u4 #[.slice r s t,D ae] λu v x=>bW v (.tuple #[]) w0 F [a] u x (ay (ae+c.w)/\cC w0 x [(a,G.Cell)] X.u4 #[.slice r s t,D (ae+c.w)] λy z A=>bW z (.tuple #[]) w0 F [a] y A (∃B:Addr,r=(some B)/\hG ae s/\(ct A B ((Int.toNat ae)*16) 16/\cp w0.heap.size F [a] B.block)/\∀C:World,bH A [] B ((Int.toNat ae)*16) c.T.toList C->a' c.w 2 (ay (ae+1)/\a7 w0 F [a] C [(a,G.Cell)] X.KO #[.agg c.p.T] Ay λbT ak=>∃bo:Addr,r=(some bo)/\((0:Int)<=(ae+1)/\(ae+1)<(s:Int))/\(ct bT bo ((Int.toNat (ae+1))*16) 16/\cp w0.heap.size F [a] bo.block)/\∀J:World,bH bT [] bo ((Int.toNat (ae+1))*16) ak.T.toList J->aa w0 F J Q (D 0)) (aa w0 F C Q (D 0))))))))):aO X.G7 #[al g,D row,D ae, .agg c.T] w0 F Q:=bh [.aY g 0,cn row,cn ae, .agg (bC.bN.enc c)] h
theorem axC(g:Addr)(row ae n:Int)(p:aT)(h:aG w0 λa=>a7 w0 F [a] w0 [(a,G.b_)] X.G8 #[al g,D row,D ae] D λd e=>i' w0 F Q e d/\(e=0->a7 w0 F [a] d [(a,G.b_)] X.D3 #[.agg p.T] .bool λj k=>vO w0 F Q k j/\(k=true->a' n 0 (aa w0 F j Q (D 0)) (∃l:ao,∃m o:Nat,At j g 1 [.slice l m o]/\∃q:Addr,l=(some q)/\hG row m/\∃r:ao,∃s t:Nat,At j q ((Int.toNat row)*2) [.slice r s t]/\∃u,At j g 0 [D u]/\ay (u-ae)/\cC w0 j [(a,G.b_)] X.u4 #[.slice r s t,D ae] λv x y=>bW x (.tuple #[]) w0 F [a] v y (bG 0 n (∃z,At y g 0 [D z]/\ay (z-(min n (u-ae)))/\cC w0 y [(a,G.b_)] X.u4 #[.slice r s t,D (z-(min n (u-ae)))] λA B C=>bW B (.tuple #[]) w0 F [a] A C (ay (ae+(min n (u-ae)))/\((0:Int)<=(ae+(min n (u-ae)))/\(ae+(min n (u-ae)))<=(s:Int)/\(s:Int)<=(t:Int))/\∃aD,At C g 0 [D aD]/\ay (aD-(min n (u-ae)))/\((0:Int)<=ae/\ae<=(aD-(min n (u-ae)))/\(aD-(min n (u-ae)))<=(t:Int))/\∃E:Addr,(cM r t (Int.toNat (ae+(min n (u-ae)))) 16)=(some E)/\∃bT:List Value,(bT.length=((min (Int.toNat ((aD-(min n (u-ae)))-ae)) (Int.toNat ((s:Int)-(ae+(min n (u-ae))))))*16)/\yZ bT/\((cM r t (Int.toNat ae) 16)=none->(min (Int.toNat ((aD-(min n (u-ae)))-ae)) (Int.toNat ((s:Int)-(ae+(min n (u-ae))))))=0)/\∀ak:Addr,(cM r t (Int.toNat ae) 16)=(some ak)->At C ak 0 bT)/\(ct C E 0 ((min (Int.toNat ((aD-(min n (u-ae)))-ae)) (Int.toNat ((s:Int)-(ae+(min n (u-ae))))))*16)/\cp w0.heap.size F [a] E.block)/\∀ak:World,bH C [] E 0 bT ak->ay (ae+(min n (u-ae)))/\((0:Int)<=ae/\ae<=(ae+(min n (u-ae)))/\(ae+(min n (u-ae)))<=(t:Int))/\cC w0 ak [(a,G.b_)] X.BW #[.slice (cM r t (Int.toNat ae) 16) (Int.toNat ((ae+(min n (u-ae)))-ae)) (t-(Int.toNat ae)), .agg p.T] λbo J K=>DB w0 F Q J [a] bo K)) (ay (0-(u-ae))/\bG (0-(u-ae)) n (ay (0-n)/\ay (ae+(0-n))/\cC w0 y [(a,G.b_)] X.u4 #[.slice r s t,D (ae+(0-n))] λz A B=>bW A (.tuple #[]) w0 F [a] z B (J_ ae s t/\ay (ae+(0-n))/\((0:Int)<=(ae+(0-n))/\(ae+(0-n))<=(s:Int)/\(s:Int)<=(t:Int))/\∃C:Addr,(cM r t (Int.toNat ae) 16)=(some C)/\∃aD:List Value,(aD.length=((min (Int.toNat ((s:Int)-(ae+(0-n)))) (Int.toNat ((s:Int)-ae)))*16)/\yZ aD/\((cM r t (Int.toNat (ae+(0-n))) 16)=none->(min (Int.toNat ((s:Int)-(ae+(0-n)))) (Int.toNat ((s:Int)-ae)))=0)/\∀E:Addr,(cM r t (Int.toNat (ae+(0-n))) 16)=(some E)->At B E 0 aD)/\(ct B C 0 ((min (Int.toNat ((s:Int)-(ae+(0-n)))) (Int.toNat ((s:Int)-ae)))*16)/\cp w0.heap.size F [a] C.block)/\∀E:World,bH B [] C 0 aD E->∃bT,At E g 0 [D bT]/\ay (bT-(0-n))/\((0:Int)<=(bT-(0-n))/\(bT-(0-n))<=(s:Int)/\(s:Int)<=(t:Int))/\cC w0 E [(a,G.b_)] X.BW #[.slice (cM r t (Int.toNat (bT-(0-n))) 16) (Int.toNat ((s:Int)-(bT-(0-n)))) (t-(Int.toNat (bT-(0-n)))), .agg p.T] λak bo J=>DB w0 F Q bo [a] ak J)) (ay (ae+(u-ae))/\cC w0 y [(a,G.b_)] X.u4 #[.slice r s t,D (ae+(u-ae))] λz A B=>bW A (.tuple #[]) w0 F [a] z B (J_ ae s t/\ay (ae+(u-ae))/\((0:Int)<=(ae+(u-ae))/\(ae+(u-ae))<=(s:Int)/\(s:Int)<=(t:Int))/\∃C:Addr,(cM r t (Int.toNat ae) 16)=(some C)/\∃aD:List Value,(aD.length=((min (Int.toNat ((s:Int)-(ae+(u-ae)))) (Int.toNat ((s:Int)-ae)))*16)/\yZ aD/\((cM r t (Int.toNat (ae+(u-ae))) 16)=none->(min (Int.toNat ((s:Int)-(ae+(u-ae)))) (Int.toNat ((s:Int)-ae)))=0)/\∀E:Addr,(cM r t (Int.toNat (ae+(u-ae))) 16)=(some E)->At B E 0 aD)/\(ct B C 0 ((min (Int.toNat ((s:Int)-(ae+(u-ae)))) (Int.toNat ((s:Int)-ae)))*16)/\cp w0.heap.size F [a] C.block)/\∀E:World,bH B [] C 0 aD E->∃bT,At E g 0 [D bT]/\ay (bT-(u-ae))/\((0:Int)<=(bT-(u-ae))/\(bT-(u-ae))<=(s:Int)/\(s:Int)<=(t:Int))/\cC w0 E [(a,G.b_)] X.BW #[.slice (cM r t (Int.toNat (bT-(u-ae))) 16) (Int.toNat ((s:Int)-(bT-(u-ae)))) (t-(Int.toNat (bT-(u-ae)))), .agg p.T] λak bo J=>DB w0 F Q bo [a] ak J)))))))):aO X.D2 #[al g,D row,D ae,D n, .agg p.T] w0 F Q:=bh [.aY g 0,cn row,cn ae,cn n, .agg (aT.bN.enc p)] h
theorem axD(g:Addr)(row ae:Int)(h:b9 w0 F [] w0 X.G9 #[al g,D row] D λc d=>(d=0->bG ae 0 (aa w0 F c Q (D 3)) (∃e,At c g 0 [D e]/\dX e ae (aa w0 F c Q (D 3)) (aa w0 F c Q (D d))))/\i' w0 F Q d c):aO X.G8 #[al g,D row,D ae] w0 F Q:=bh [.aY g 0,cn row,cn ae] h
theorem axG(aP:ao)(aM ba:Nat)(c:Int)(h:bG c 1 (aa w0 F w0 Q (.tuple #[])) (dX aM c (aa w0 F w0 Q (.tuple #[])) (ay (c-1)/\∃a:Addr,aP=(some a)/\Gh c aM/\∃b,At w0 a (((Int.toNat (c-1))*16)+4) [D b]/\(b≠2->aa w0 F w0 Q (.tuple #[]))/\(b=2->ay (c-1)/\ay (c-1)/\∃d:Addr,aP=(some d)/\Gh c aM/\∃e:aT,At w0 d (((Int.toNat (c-1))*16)+5) e.T.toList/\∃f:Addr,aP=(some f)/\hG c aM/\∃g:aT,At w0 f (((Int.toNat c)*16)+5) g.T.toList/\b9 w0 F [] w0 X.uS #[.agg e.T] Ay λk l=>At k f (((Int.toNat c)*16)+5) g.T.toList/\b9 w0 F [] k X.uS #[.agg g.T] Ay λo p=>∃q:Addr,aP=(some q)/\Gh c aM/\(ct o q ((Int.toNat (c-1))*16) 16/\cp w0.heap.size F [] q.block)/\∀r:World,bH o [] q ((Int.toNat (c-1))*16) l.T.toList r->∃s:Addr,aP=(some s)/\hG c aM/\(ct r s ((Int.toNat c)*16) 16/\cp w0.heap.size F [] s.block)/\∀t:World,bH r [] s ((Int.toNat c)*16) p.T.toList t->aa w0 F t Q (.tuple #[]))))):aO X.u4 #[.slice aP aM ba,D c] w0 F Q:=bh [.cJ aP aM ba,cn c] h
theorem axB(g:Addr)(row:Int)(cU:Bool)(h:b9 w0 F [] w0 X.G9 #[al g,D row] D λc d=>(d=0->∃e:ao,∃f i:Nat,At c g 1 [.slice e f i]/\∃j:Addr,e=(some j)/\hG row f/\(ct c j (((Int.toNat row)*2)+1) 1/\cp w0.heap.size F [] j.block)/\∀k:World,bH c [] j (((Int.toNat row)*2)+1) [.bool cU] k->aa w0 F k Q (D d))/\i' w0 F Q d c):aO X.BV #[al g,D row, .bool cU] w0 F Q:=bh [.aY g 0,cn row, .bool (bL.ok cU)] h
theorem axI(aP:ao)(aM ba:Nat)(p:aT)(h:aG w0 λa=>∃b:Int->World->Prop,∃c:Int->Nat,(bm w0 λd=>b 0 d)/\∀d:Int,∀e:World,U F w0 e->b d e->bG d aM (a7 w0 F [a] e [(a,G.b_)] X.uS #[.agg p.T] Ay λi j=>∃k:Addr,aP=(some k)/\hG d aM/\(ct i k ((Int.toNat d)*16) 16/\cp w0.heap.size F [a] k.block)/\∀l:World,bH i [] k ((Int.toNat d)*16) j.T.toList l->ji d l b c) (aa w0 F e Q (.tuple #[]))):aO X.BW #[.slice aP aM ba, .agg p.T] w0 F Q:=eV [⟨2,[7],[]⟩] [] [.cJ aP aM ba, .agg (aT.bN.enc p)] h
theorem axH(g:Addr)(row:Int)(h:b9 w0 F [] w0 X.D4 #[al g] .bool λc d=>pf w0 F Q d c/\(d=false->bG row 0 (aa w0 F c Q (D 3)) (∃e:ao,∃f i:Nat,At c g 1 [.slice e f i]/\dX f row (aa w0 F c Q (D 3)) (aa w0 F c Q (D 0))))):aO X.G9 #[al g,D row] w0 F Q:=bh [.aY g 0,cn row] h
theorem axt(g:Addr)(row cQ to:Int)(p:aT)(h:aG w0 λa=>a7 w0 F [a] w0 [(a,G.b_)] X.G9 #[al g,D row] D λd e=>i' w0 F Q e d/\(e=0->bG cQ 0 (aa w0 F d Q (D 3)) (bG to cQ (aa w0 F d Q (D 3)) (∃f,At d g 0 [D f]/\bG f to (aa w0 F d Q (D 3)) (a7 w0 F [a] d [(a,G.b_)] X.D3 #[.agg p.T] .bool λk l=>vO w0 F Q l k/\(l=true->a' cQ to (aa w0 F k Q (D 0)) (∃m:ao,∃n o:Nat,At k g 1 [.slice m n o]/\∃q:Addr,m=(some q)/\hG row n/\∃r:ao,∃s t:Nat,At k q ((Int.toNat row)*2) [.slice r s t]/\cC w0 k [(a,G.b_)] X.u4 #[.slice r s t,D cQ] λu v x=>bW v (.tuple #[]) w0 F [a] u x (cC w0 x [(a,G.b_)] X.u4 #[.slice r s t,D to] λy z A=>bW z (.tuple #[]) w0 F [a] y A (((0:Int)<=cQ/\cQ<=to/\to<=(t:Int))/\cC w0 A [(a,G.b_)] X.BW #[.slice (cM r t (Int.toNat cQ) 16) (Int.toNat (to-cQ)) (t-(Int.toNat cQ)), .agg p.T] λB C aD=>DB w0 F Q C [a] B aD))))))))):aO X.G6 #[al g,D row,D cQ,D to, .agg p.T] w0 F Q:=bh [.aY g 0,cn row,cn cQ,cn to, .agg (aT.bN.enc p)] h
end Go.Proofs.YtimbpmnbbfeogaaGreatDoor
namespace Go.Sy
theorem Whole.at_{w:World}{b:Nat}{t:TypeId}{cs:List Value}(h:Whole w b t cs)(hl:cs.length<=maxLen):At w ⟨b,0,none⟩ 0 cs:=
 (bF.row (B:=0) (e:=t) (s:=1) (n:=cs.length) (c:=cs.length) (xs:=cs) (p:=some ⟨b,0,none⟩) ⟨by simp, .inr ⟨b,cs.length,cs.toArray,rfl,ef _,h,cL _,hl,by simp,by simp⟩⟩).eI _ rfl
theorem Whole.ax{F:Nat->Prop}{w w':World}{b:Nat}{t:TypeId}{cs:List Value}(h:Whole w b t cs)(hk:U F w w')(bc:¬F b):Whole w' b t cs:=(hk.heap b h.lt bc).trans h
end Go.Sy
namespace Go.Rep
open Go Go.Sy
structure cV where
 (b:Nat) (ai:Nat) (p:ao) (c:Nat) (xs:List ck)
structure cc where
 (ai:Nat) (ab:List Li)
def cV.aC(g:cV):cc:=⟨g.ai,bJ g.xs⟩
def cV.ptr(g:cV):Value:= .pointer (some ⟨g.b,0,none⟩)
end Go.Rep
namespace Go.Proofs.YtimbpmnbbfeogaaGreatDoor
open Go Go.RowKit Go.Sy Go.Rep
def dY(g:cV)(i:Nat):Prop:=i=g.b∨fA g.p g.xs i
structure dA(w:World)(g:cV):Prop where
 aF:Whole w g.b G.Lt [.int .i64 g.ai, .slice g.p g.xs.length g.c]
 lines:dE w g.p g.xs.length g.c g.xs
 off:¬fA g.p g.xs g.b
 lo:Y.dZ<=g.b
 bY:1<=g.ai
 c2:g.ai<=1000
 de:1<=g.xs.length
 c1:g.xs.length<=1000
 oA:∀x∈g.xs,x.cs.length=g.ai
theorem dV.ax{w w':World}{cf:List Nat}(h:dV w cf w'):U (λi=>i∈cf) w w':=⟨h.os,h.tape,h.output,h.size,λi hi bk=>h.heap i hi bk⟩
def PN(w0:World)(l:Li)(x:ck)(w:World):Prop:=x.jT=l/\oF w x/\∀i,dm [x] i->w0.heap.size<=i
theorem fB.EP{w0 w:World}{p:ao}{c:Nat}{cs:List bC}{cU:Bool}(aj:Laid w0)(h:fB w0.heap.size w p cs.length c cs):PN w0 ⟨cs,cU⟩ ⟨p,c,cs,cU⟩ w:=
 ⟨rfl,bF.low h aj.size,λi hi=>by
  obtain⟨a,ha,rfl⟩:=dm.cw.1 hi
  exact(bF.lt h a ha).2.1⟩
theorem EM{xs:List ck}{x:ck}:bJ (xs++[x])=bJ xs++[x.jT]:=by simp[bJ]
section
variable{w w':World}{g:cV}
theorem dA.lt(h:dA w g){i:Nat}(hi:dY g i):i<w.heap.size:=by
 rcases hi with rfl|hi
 ·exact h.aF.lt
 ·exact h.lines.lt hi
theorem dA.ax{F:Nat->Prop}(h:dA w g)(hk:U F w w')(bc:∀i,F i->¬dY g i):dA w' g:=
 ⟨h.aF.ax hk λbk=>bc _ bk (.inl rfl),h.lines.ax hk λi bk hl=>bc i bk (.inr hl),h.off,h.lo,h.bY,h.c2,h.de,h.c1,h.oA⟩
theorem dA.low(h:dA w g){i:Nat}(hi:dY g i):Y.dZ<=i:=by
 rcases hi with rfl|hi
 ·exact h.lo
 ·exact h.lines.low hi
theorem dA.O(h:dA w g)(hk:U bg w w'):dA w' g:=h.ax hk λ_ e=>e.elim
theorem dA.below(h:dA w g)(hb:Below w.heap.size w w'):dA w' g:=h.O (U.au hb)
theorem dA.iV(h:dA w g):At w ⟨g.b,0,none⟩ 0 [.int .i64 g.ai]:=(h.aF.at_ (show 2<=maxLen by decide)).cw 0 rfl
theorem dA.jb(h:dA w g):At w ⟨g.b,0,none⟩ 1 [.slice g.p g.xs.length g.c]:=(h.aF.at_ (show 2<=maxLen by decide)).cw 1 rfl
theorem Nv(h:dA w g):di X.D4 #[g.ptr] w (.bool false):=
 axF _ ⟨_,h.iV,aa.of λ_=>by
  have:=h.bY
  rw[cb,kp M]⟩
theorem asZ(h:dA w g):di X.oQ #[g.ptr] w (.int .i64 g.xs.length):=axA _ ⟨_,_,_,h.jb,aa.of λ_=>rfl⟩
theorem asU(h:dA w g):di X.mf #[g.ptr] w (.int .i64 g.ai):=axu _ ⟨_,h.iV,aa.of λ_=>rfl⟩
def nW(g:cc)(row:Int):Int:=if row<0∨(g.ab.length:Int)<=row then 3 else 0
theorem D1:g.aC.ab.length=g.xs.length:=by simp[cV.aC,bJ]
theorem UP(h:dA w g){row:Int}:di X.G9 #[g.ptr, .int .i64 row] w (.int .i64 (nW g.aC row)):=by
 have hl:=D1 (g:=g);refine axH _ row λw1 hb=>(Nv (h.below hb)).aH λad hk=>⟨_,rfl,hk.O,λe=>(nomatch e),λ_=>⟨λe=>aa.of λ_=>?_,λe=>⟨_,_,_,((h.below hb).O hk).jb,λe2=>aa.of λ_=>?_,λe2=>aa.of λ_=>?_⟩⟩⟩
 all_goals grind [nW]
def nE(g:cc)(row ae:Int):Int:=if nW g row=0/\(ae<0∨(g.ai:Int)<=ae) then 3 else nW g row
theorem UM(h:dA w g){row ae:Int}:di X.G8 #[g.ptr, .int .i64 row, .int .i64 ae] w (.int .i64 (nE g.aC row ae)):=by
 have hc:(g.aC.ai:Int)=g.ai:=rfl;refine axD _ row ae λw1 hb=>(UP (h.below hb)).aH λad hk=>⟨_,rfl,hk.O,λe=>⟨λe1=>aa.of λ_=>?_,λe1=>⟨_,((h.below hb).O hk).iV,λe2=>aa.of λ_=>?_,λe2=>aa.of λ_=>?_⟩⟩,λe=>aa.of λ_=>?_⟩
 all_goals grind [nE]
theorem UN{p:aT}(aj:Laid w):di X.D3 #[.agg p.T] w (.bool (ea (ed p))):=
 ahw p λar _ w1 hb1 _=>(v_).aH (Laid.below hb1 aj) λad aI hU=>⟨_,rfl,aI.O,λbw bp _=>(zg).aH (Laid.below bp hU) λbD bO _=>⟨_,rfl,bO.O,aa.of λ_=>rfl⟩⟩
theorem afK{p:aT}{n:Nat}(aj:Laid w)(hn:n<=1048576):bI Tryz.prog X.Lv #[.int .i64 n, .agg p.T] w bg (λv w'=>∃x,v= .agg x.iK.T/\PN w ⟨List.replicate n (ed p),false⟩ x w'):=by
 refine axE n p λar h1 aQ h2 w1 hb1 fb=>(v_).aH (Laid.below hb1 aj) λad aI hU=>⟨_,rfl,aI.O,λbw cH aw jJ bD eR zH=>?_⟩
 have bO:=(((U.au hb1).trans aI).trans (cX.ax aw rfl)).trans (U.au eR);refine(auj ((ga.lit aw).O (U.au eR)) hn).aH λv bP eH hq=>?_
 obtain⟨q,c,rfl,ho⟩:=hq;refine⟨q,_,c,rfl,eH.O,λw' he _=>⟨⟨q,c,List.replicate n (ed p),false⟩,rfl,fB.EP aj ?_⟩⟩;refine bF.low (bF.ext ho he λd hd=>zH.lt (by simp at hd⊢;exact .inr hd)) bO.size
def IG(an ai:Nat):cc:=⟨ai,List.replicate an ⟨KB ai,false⟩⟩
def PL(w0:World)(r:cc)(g:cV)(w:World):Prop:=g.aC=r/\dA w g/\∀i,dY g i->w0.heap.size<=i
theorem asW{an ai:Nat}(aj:Laid w)(de:1<=an)(c1:an<=1000)(bY:1<=ai)(c2:ai<=1000):bI Tryz.prog X.Rz #[.int .i64 an, .int .i64 ai] w bg (λv w'=>∃g:cV,v= .tuple #[g.ptr, .int .i64 0]/\PL w (IG an ai) g w'):=by
 refine axx an ai ⟨λe=>by omega,λ_=>⟨λe=>by omega,λ_=>⟨λe=>by omega,λ_=>⟨λe=>by omega,λ_ ar h1=>?_⟩⟩⟩⟩;refine⟨λeA i2 p n c w'=>i2=ai/\eA=n/\n<=an/\∃xs,dE w' p n c xs/\bJ xs=List.replicate n ⟨KB ai,false⟩/\∀i,fA p xs i->w.heap.size<=i/\i≠ar,λeA _ _ _ _=>((an:Int)-eA).toNat,λw' _=>⟨rfl,rfl,by omega,[],dE.nil,rfl,?_⟩,?_⟩
 ·rintro i (⟨a,ha,_⟩|hi)
  ·cases ha
  ·exact absurd hi dm.nil
 rintro eA i2 p n c w1 hk1 ⟨rfl,rfl,hn,xs,eF,iI,bc⟩;refine⟨λhi bw bp fN=>?_,λhi ad kN aI hw=>?_⟩
 ·have hk3:=hk1.trans (U.au bp)
  refine(afK (p:=jg) (Laid.O hk3 aj) M).aH λv bD bO hq=>?_
  obtain⟨x,rfl,hx,sC,lZ⟩:=hq;have Ts:=(eF.O (U.au bp)).O bO;have ec:ar<bw.heap.size:=fN.lt aS;have aB7:=bp.size;have tO:=hk3.size;have pD:=bO.size;refine⟨x.iK,rfl,bO.O,λeO aZ=>⟨dR xs,Ts.row.room (λa ha hm=>?_) (λ_ a ha hlt=>?_),by omega,λbP cA fv hg fV=>⟨by unfold ay;omega,λcu he=>⟨⟨rfl,by omega,by omega,xs++[x],?_,?_,?_⟩,by dsimp only;omega⟩⟩⟩⟩
  ·have h1:=(bc _ (.inl ⟨a,ha,rfl⟩)).2
   have h2:=Ts.lt (.inl ⟨a,ha,rfl⟩);simp at hm;omega
  ·have:=(bc _ (.inl ⟨a,ha,rfl⟩)).1
   omega
  all_goals obtain⟨q1,q2,cz⟩:=Ts.push XG sC (λi h1 h2=>by have:=lZ i h1;have:=eF.lt h2;omega) hg
  ·refine q1.ax (dV.ax he) λi hi hl=>?_
   simp at hi;subst hi;rcases q2 _ hl with r|r|r
   ·exact(bc _ r).2 rfl
   ·have:=lZ _ r;omega
   ·omega
  ·rw[EM,iI,hx,List.replicate_succ'];rfl
  ·intro i hi
   rcases q2 i hi with r|r|r
   ·exact bc i r
   ·have:=lZ _ r;omega
   ·omega
 ·have:n=an:=by omega
  subst this;have hlen:=eF.len;refine⟨⟨ar,ai,p,c,xs⟩,rfl,?_,⟨?_,?_,?_,ek aj.size hw.1,bY,c2,?_,?_,?_⟩,?_⟩
  ·show cc.mk _ _=_
   rw[iI];rfl
  ·show Whole _ _ _ [_, .slice p xs.length c]
   rw[hlen];exact hw.2
  ·show dE _ _ xs.length _ _
   rw[hlen];exact eF.O (U.au kN)
  ·exact λhl=>(bc _ hl).2 rfl
  ·show 1<=xs.length;omega
  ·show xs.length<=1000;omega
  ·intro x hx
   have:x.jT∈bJ xs:=lr.2 ⟨x,hx,rfl⟩;rw[iI] at this;have:=JV this;have h2:x.cs=KB ai:=dx Li.cs this;show x.cs.length=ai;rw[h2,KB,n3]
  ·rintro i (rfl|hl)
   ·exact hw.1
   ·exact(bc i hl).1
def PO(w0:World)(l:List Li)(v:Value)(w:World):Prop:=∃p c xs,v= .slice p l.length c/\bJ xs=l/\dE w p l.length c xs/\∀i,fA p xs i->w0.heap.size<=i
theorem fA.nil{i:Nat}:¬fA none [] i:=by
 rintro(⟨a,ha,_⟩|hi)
 ·cases ha
 ·exact dm.nil hi
theorem TY{xs:List ck}{k:Nat}(h:k<xs.length):(bJ xs).take (k+1)=(bJ xs).take k++[(bb xs k).jT]:=by
 have:k<(bJ xs).length:=by simpa[bJ] using h
 rw[air this];simp[bJ,bb,h]
theorem afI(aj:Laid w)(h:dA w g):bI Tryz.prog X.Lu #[g.ptr] w bg (PO w g.aC.ab):=by
 refine axw _ λw1 hb1=>(Nv (h.below hb1)).aH λad aI=>⟨_,rfl,aI.O,λe=>(nomatch e),λ_=>⟨_,_,_,((h.below hb1).O aI).jb,?_⟩⟩
 have j4:=h.c1;have mg:=h.c2;refine⟨λp n c i w'=>i=n/\n<=g.xs.length/\∃xs,dE w' p n c xs/\bJ xs=(bJ g.xs).take n/\∀i,fA p xs i->w.heap.size<=i,λ_ _ _ i=>((g.xs.length:Int)-i).toNat,λw' _=>⟨rfl,by omega,[],dE.nil,rfl,λi hi=>absurd hi fA.nil⟩,?_⟩;rintro p n c i bw hk3 ⟨rfl,hn,xs,eF,iI,bc⟩;refine⟨λhi=>(h.O hk3).lines.fU M hi λa ha hown ev fv ca bP hb5 om=>?_,λhi w' hb hk=>?_⟩
 ·rw[jN] at hown ev⊢
  have eH:=hk3.trans (U.au hb5);have wE:=h.oA _ ev;refine(Nx (cs:=(bb g.xs n).cs) (nz.O hown.wJ (U.au hb5)) (by show(bb g.xs n).cs.length<=_;omega)).aH λv cu dK hq=>?_
  obtain⟨q,d,rfl,ho⟩:=hq;obtain⟨hx,sC,lZ⟩:=fB.EP (cU:=(bb g.xs n).iK.cU) (Laid.O eH aj) ho;have Cs:=(eF.O (U.au hb5)).O dK;have zK:fv<bP.heap.size:=om.lt aS;have hs5:=eH.size;have am_:=hb5.size;have Ev:=dK.size;refine⟨_,rfl,dK.O,λi1 dM=>⟨dR xs,Cs.row.room (λa ha hm=>?_) (λ_ a ha hlt=>?_),by omega,λw7 fG ie hg fV=>⟨by unfold ay;omega,λcW lE=>⟨⟨by omega,by omega,xs++[⟨q,d,(bb g.xs n).cs,(bb g.xs n).cU⟩],?_,?_,?_⟩,by dsimp only;omega⟩⟩⟩⟩
  ·have h1:=eF.lt (.inl ⟨a,ha,rfl⟩)
   have h2:=Cs.lt (.inl ⟨a,ha,rfl⟩);simp at hm;omega
  ·have:=bc _ (.inl ⟨a,ha,rfl⟩)
   omega
  all_goals obtain⟨q1,q2,cz⟩:=Cs.push XG sC (λi h1 h2=>by have:=lZ i h1;have:=eF.lt h2;omega) hg
  ·exact q1.O (U.au lE)
  ·rw[EM,iI,TY M];rfl
  ·intro i hi
   rcases q2 i hi with r|r|r
   ·exact bc i r
   ·have:=lZ _ r;omega
   ·omega
 ·have:n=g.xs.length:=by omega
  subst this;have hl:g.aC.ab.length=g.xs.length:=D1;refine⟨p,c,xs,by rw[hl],?_,by rw[hl];exact eF.O (U.au hb),bc⟩;rw[iI,jh (by simp[bJ])];rfl
theorem asV(aj:Laid w)(h:dA w g):bI Tryz.prog X.Ry #[g.ptr] w bg (λv w'=>∃aU:cV,v=aU.ptr/\PL w g.aC aU w'):=by
 refine axv _ λw1 hb1=>(Nv (h.below hb1)).aH λad aI=>⟨_,rfl,aI.O,λe=>(nomatch e),λ_=>⟨_,((h.below hb1).O aI).iV,λbw bp=>?_⟩⟩
 have aw:=((h.below hb1).O aI).below bp;have hk3:=((U.au hb1).trans aI).trans (U.au bp);refine(afI (Laid.O hk3 aj) aw).aH λv bD bO hq=>?_
 obtain⟨p,c,xs,rfl,iI,eF,bc⟩:=hq;have hl:g.aC.ab.length=g.xs.length:=D1;rw[hl] at eF⊢;have hlen:=eF.len;have pD:=bO.size;have tO:=hk3.size;refine⟨p,_,c,rfl,bO.O,(aw.O bO).iV,λcH jJ bP hb5 eH hw=>⟨⟨cH,g.ai,p,c,xs⟩,rfl,?_,⟨?_,?_,?_,ek aj.size hw.1,h.bY,h.c2,?_,?_,?_⟩,?_⟩⟩
 ·show cc.mk _ _=_
  rw[iI];rfl
 ·show Whole _ _ _ [_, .slice p xs.length c]
  rw[hlen];exact hw.2
 ·show dE _ _ xs.length _ _
  rw[hlen];exact eF.O (U.au hb5)
 ·intro hl
  have:cH<bD.heap.size:=eF.lt hl;omega
 ·show 1<=xs.length
  rw[hlen];exact h.de
 ·show xs.length<=1000
  rw[hlen];exact h.c1
 ·intro x hx
  have:x.jT∈bJ xs:=lr.2 ⟨x,hx,rfl⟩;rw[iI] at this;obtain⟨y,hy,e⟩:=lr.1 this;have:y.cs=x.cs:=dx Li.cs e;show x.cs.length=g.ai;rw[<-this];exact h.oA y hy
 ·rintro i (rfl|hl)
  ·exact hw.1
  ·have:=bc i hl;omega
end
def hX(ab:List Li)(k:Nat):Li:=ab.getD k ⟨[],false⟩
theorem z1{xs:List ck}{k:Nat}:hX (bJ xs) k=(bb xs k).jT:=by
 unfold hX bJ bb;rcases h8 k xs.length with h|h
 ·simp[h]
 ·simp[h];rfl
theorem LR{xs:List ck}{k:Nat}{x':ck}(h:k<xs.length):dR (xs.set k x')=dR (xs.take k)++(x'.iK.T.toList++dR (xs.drop (k+1))):=by
 rw[O5,aA h,Hw,x2];rfl
theorem anr{xs:List ck}{k:Nat}{x':ck}(h:k<xs.length)(he:x'.iK=(bb xs k).iK):dR (xs.set k x')=dR xs:=by
 have:dR xs=dR (xs.set k (bb xs k)):=by
  congr 1;apply s8;intro j;rw[F9];split
  ·rename_i q
   subst q;simp[bb,h]
  ·rfl
 rw[this,LR h,LR h,he]
theorem TW{xs:List ck}{k:Nat}{x':ck}:bJ (xs.set k x')=(bJ xs).set k x'.jT:=by simp[bJ,List.map_set]
section
variable{w w':World}{xs:List ck}{p:ao}{n c:Nat}{g:cV}
theorem dm.set{k:Nat}{x':ck}(h:k<xs.length)(he:x'.aB=(bb xs k).aB){i:Nat}:dm (xs.set k x') i->dm xs i:=by
 rintro⟨y,hy,a,ha,e⟩;rcases vI hy with q|q
 ·exact⟨y,q,a,ha,e⟩
 ·subst q
  exact⟨_,pG h,a,by rw[<-he];exact ha,e⟩
theorem fX.pM(h:fX w xs){j k:Nat}(hj:j<xs.length)(hk:k<xs.length)(hne:j≠k):∀i,dm [bb xs k] i->¬dm [xs[j]] i:=by
 intro i h1 h2;obtain⟨a,ha,rfl⟩:=dm.cw.1 h1;obtain⟨b,hb,e⟩:=dm.cw.1 h2;have hs:=List.pairwise_iff_getElem.1 h.sep;have hl:bb xs k=xs[k]:=by simp[bb,hk]
 rw[hl] at ha;rcases Nat.lt_or_gt_of_ne hne with q|q
 ·exact hs j k hj hk q b a hb ha e
 ·exact hs k j hk hj q a b ha hb e.symm
theorem fX.set(h:fX w xs){k:Nat}{x':ck}(hk:k<xs.length)(he:x'.aB=(bb xs k).aB)(hkp:U (dm [bb xs k]) w w')(ho:oF w' x'):fX w' (xs.set k x'):=by
 refine⟨λx hx=>?_,?_⟩
 ·obtain⟨j,hj,rfl⟩:=List.mem_iff_getElem.1 hx
  rw[uB] at hj;rw[List.getElem_set];split
  ·exact ho
  ·rename_i hne
   exact(h.own _ (vM hj)).ax hkp (h.pM hj hk λe=>hne e.symm)
 ·have h1:(xs.map ck.aB).Pairwise λp q=>∀a b,p=some a->q=some b->a.block≠b.block:=List.pairwise_map.2 h.sep
  have h2:(xs.set k x').map ck.aB=xs.map ck.aB:=by
   rw[List.map_set];apply s8;intro j;rw[F9];split
   ·rename_i q
    subst q;rw[he];simp[bb,hk]
   ·rfl
  rw[<-h2] at h1;have aw:(xs.set k x').Pairwise λx y=>∀a b,x.aB=some a->y.aB=some b->a.block≠b.block:=List.pairwise_map.1 h1
  exact aw
theorem dE.GO(h:dE w p n c xs){k:Nat}{fD:List bC}(hk:k<n)(hl:fD.length=(bb xs k).cs.length)(hkp:U (dm [bb xs k]) w w')(ho:fB Y.dZ w' (bb xs k).aB (bb xs k).cs.length (bb xs k).cap fD):dE w' p n c (xs.set k ⟨(bb xs k).aB,(bb xs k).cap,fD,(bb xs k).cU⟩):=by
 have hlen:=h.len;refine⟨?_,λa ha hi=>h.off a ha (dm.set (k:=k) (x':=⟨(bb xs k).aB,(bb xs k).cap,fD,(bb xs k).cU⟩) M rfl hi),h.eG.set M rfl hkp (by unfold oF;rw[hl];exact ho)⟩;rw[anr M (by unfold ck.iK;rw[hl])];exact h.row.ax hkp λa ha hi=>h.off a ha (hi.sub λy hy=>by rw[gg] at hy;subst hy;exact pG M)
theorem fA.set{k:Nat}{x':ck}(h:k<xs.length)(he:x'.aB=(bb xs k).aB){i:Nat}:fA p (xs.set k x') i->fA p xs i
 | .inl h1=> .inl h1
 | .inr h1=> .inr (h1.set h he)
theorem dm.mem{x:ck}(h:x∈xs){i:Nat}(hi:dm [x] i):dm xs i:=hi.sub λy hy=>by rw[gg] at hy;subst hy;exact h
def N5(g:cV)(k:Nat)(x':ck):cV:=⟨g.b,g.ai,g.p,g.c,g.xs.set k x'⟩
def iS(w0:World)(g:cV)(r:cc)(w:World):Prop:=∃aU:cV,aU.b=g.b/\aU.aC=r/\dA w aU/\∀i,dY aU i->dY g i∨w0.heap.size<=i
def wh(r:cc)(k:Nat)(cs:List bC):cc:=⟨r.ai,r.ab.set k ⟨cs,(hX r.ab k).cU⟩⟩
theorem dA.GO(h:dA w g){k:Nat}{fD:List bC}(hk:k<g.xs.length)(hl:fD.length=(bb g.xs k).cs.length)(hkp:U (dm [bb g.xs k]) w w')(ho:fB Y.dZ w' (bb g.xs k).aB (bb g.xs k).cs.length (bb g.xs k).cap fD){w0:World}:iS w0 g (wh g.aC k fD) w':=by
 have hm:=pG hk;refine⟨N5 g k ⟨(bb g.xs k).aB,(bb g.xs k).cap,fD,(bb g.xs k).cU⟩,rfl,?_,⟨?_,?_,?_,h.lo,h.bY,h.c2,?_,?_,?_⟩,?_⟩
 ·show cc.mk _ _=cc.mk _ _
  rw[N5,TW];congr 1;show(bJ g.xs).set k _=(bJ g.xs).set k ⟨fD,(hX (bJ g.xs) k).cU⟩;rw[z1];rfl
 ·show Whole _ _ _ [_, .slice _ (g.xs.set _ _).length _]
  rw[uB];exact h.aF.ax hkp λhi=>h.off (.inr (dm.mem hm hi))
 ·show dE _ _ (g.xs.set _ _).length _ _
  rw[uB];exact h.lines.GO hk hl hkp ho
 ·exact λhi=>h.off (fA.set (k:=k) (x':=⟨(bb g.xs k).aB,(bb g.xs k).cap,fD,(bb g.xs k).cU⟩) hk rfl hi)
 ·show 1<=(g.xs.set _ _).length
  rw[uB];exact h.de
 ·show(g.xs.set _ _).length<=1000
  rw[uB];exact h.c1
 ·intro x hx
  rcases vI hx with q|q
  ·exact h.oA x q
  ·subst q
   show fD.length=g.ai;rw[hl];exact h.oA _ hm
 ·rintro i (rfl|hi)
  ·exact .inl (.inl rfl)
  ·exact .inl (.inr (fA.set (k:=k) (x':=⟨(bb g.xs k).aB,(bb g.xs k).cap,fD,(bb g.xs k).cU⟩) hk rfl hi))
def dk(p:ao)(i:Nat):Prop:=∃a,p=some a/\a.block=i
theorem dk.dm{x:ck}{i:Nat}:dk x.aB i↔dm [x] i:=dm.cw.symm
def fo(l:List bC)(c:Int):List bC:=if 1<=c/\c<l.length/\(cP l (c-1).toNat).w=2 then(l.set (c-1).toNat (ed (cP l (c-1).toNat).p)).set c.toNat (ed (cP l c.toNat).p) else l
theorem pQ(l:List bC)(c:Int):(fo l c).length=l.length:=by unfold fo;split<;>simp
theorem fB.Nr{B:Nat}{l:List bC}(h:fB B w p n c l){a:Addr}(ha:p=some a){k:Nat}(hk:k<n){x:bC}(hp:bH w [] a (k*16) x.T.toList w'):fB B w' p n c (l.set k x)/\U (dk p) w w':=⟨h.put ha hk hp,hp.ax ⟨a,ha,rfl⟩⟩
theorem UO{l:List bC}{k:Int}(aj:Laid w)(h:fB Y.dZ w p n c l)(hn:n<=1000000):bI Tryz.prog X.u4 #[.slice p n c, .int .i64 k] w (dk p) (λv w'=>v= .tuple #[]/\fB Y.dZ w' p n c (fo l k)):=by
 have hl:=h.qc.len;refine axG p n c k ⟨λe w' hb _=>⟨rfl,?_⟩,λe=>⟨λe1 w' hb _=>⟨rfl,?_⟩,λe1=>⟨by unfold ay;omega,h.qc.aa9 M M λdd oe _=>⟨λe2 w' hb _=>⟨rfl,?_⟩,λe2=>⟨by unfold ay;omega,by unfold ay;omega,h.qc.Rn M M λa2 iu _=>h.qc.Rn M M λa3 nd aw w1 hb1=>(v_).aH (Laid.below hb1 aj) λad aI hU=>⟨_,rfl,aI.O,?_⟩⟩⟩⟩⟩⟩
 ·rw[fo,ag M];exact h.below hb
 ·rw[fo,ag M];exact h.below hb
 ·rw[fo,ag (λq=>e2 q.2.2)];exact h.below hb
 have HF:=(U.au hb1).trans aI;refine⟨(aw.O HF).sub 5 rfl,λbw bp=>(v_).aH (Laid.below bp hU) λbD bO kL=>⟨_,rfl,bO.O,?_⟩⟩;have aZ:fB Y.dZ bD p n c l:=h.O ((HF.trans (U.au bp)).trans bO);refine⟨a3,nd,⟨by omega,by omega⟩,⟨aZ.p9 nd M,⟨by simp,λ_=>⟨a3,nd,rfl⟩⟩⟩,λbP iJ=>?_⟩;obtain⟨ca,_⟩:=aZ.Nr nd M iJ;refine⟨a3,nd,⟨by omega,by omega⟩,⟨ca.p9 nd M,⟨by simp,λ_=>⟨a3,nd,rfl⟩⟩⟩,λcu ot w' hb _=>⟨rfl,?_⟩⟩;obtain⟨dM,_⟩:=ca.Nr nd M ot;rw[fo,aA ⟨e,by omega,e2⟩];exact dM.below hb
def lq(l:List bC)(k m:Nat)(q:aT):List bC:=l.take k++List.replicate m (ed q)++l.drop (k+m)
theorem ahU(l:List bC){k m:Nat}(q:aT)(h:k+m<=l.length):(lq l k m q).length=l.length:=by simp[lq];omega
theorem aA4(l:List bC){k m:Nat}(q:aT)(h:k+m<l.length):(lq l k m q).set (k+m) (ed q)=lq l k (m+1) q:=by
 apply s8;intro j;unfold lq;rw[F9];simp only[List.getElem?_append,gh,kC,n3,s9,uD,List.getElem?_replicate,mv]
 grind
theorem aA5(l:List bC)(k:Nat)(q:aT):lq l k 0 q=l:=by simp[lq]
theorem as1{b N C k m jZ:Nat}{l:List bC}{aP:ao}{q:aT}(aj:Laid w)(h:fB Y.dZ w (some ⟨b,0,none⟩) N C l)(hp:0<m->aP=some ⟨b,k*16,none⟩)(hm:k+m<=N)(hN:N<=1000000):bI Tryz.prog X.BW #[.slice aP m jZ, .agg q.T] w (λi=>i=b) (λv w'=>v= .tuple #[]/\fB Y.dZ w' (some ⟨b,0,none⟩) N C (lq l k m q)):=by
 have hl:=h.qc.len;refine axI aP m jZ q λar h1=>⟨λi w'=>∃j:Nat,i=j/\j<=m/\Laid w'/\fB Y.dZ w' (some ⟨b,0,none⟩) N C (lq l k j q),λi=>((m:Int)-i).toNat,λw' hb=>⟨0,rfl,by omega,Laid.below hb aj,by rw[aA5];exact h.below hb⟩,?_⟩
 rintro i w1 hk1 ⟨j,rfl,hj,hL1,ho⟩;have jG:b<w.heap.size:=(bF.lt h _ rfl).1;refine⟨λhi bw bp fN=>(v_).aH (Laid.below bp hL1) λbD bO kL=>⟨_,rfl,bO.O,⟨b,k*16,none⟩,hp M,⟨by omega,by omega⟩,?_⟩,λhi w' hb _=>⟨rfl,?_⟩⟩
 ·have aZ:=(ho.below bp).O bO
  rw[jN];refine⟨⟨ct.base (by rw[<-F3];exact bF.p9 aZ rfl M),⟨?_,λ_=>rfl⟩⟩,λbP iJ=>⟨by unfold ay;omega,λcu ep=>⟨⟨j+1,by omega,by omega,?_,?_⟩,by dsimp only;omega⟩⟩⟩
  ·simp
   omega
  ·exact Laid.below ep (kL.ax (iJ.ax (F:=λi=>i=b) rfl) λi hi=>by rw[hi];exact(bF.lt h _ rfl).2.1)
  ·have ca:=iJ.base
   rw[<-F3] at ca;have:=(fB.put aZ rfl (k:=k+j) M ca).below ep;rwa[aA4 l q M] at this
 ·have:j=m:=by omega
  subst this;exact ho.below hb
end
theorem aAY(r:Int):fx r<=2:=by unfold fx;repeat' split;all_goals omega
theorem aAQ{c:bC}(h:ea c=true):0<=c.w/\c.w<=2:=by
 unfold ea at h;rw[fR] at h;have h2:=h.2;split at h2
 ·simp at h2;omega
 ·simp at h2
  have:=aAY c.r;omega
section
variable{w w':World}{g:cV}
theorem dA.mod{w0:World}(h:dA w g):iS w0 g g.aC w:=⟨g,rfl,rfl,h,λi hi=> .inl hi⟩
def o7(r:cc)(row ae:Int)(c:bC):Int:=if nE r row ae≠0 then nE r row ae else if ea c=false∨c.w=0∨(r.ai:Int)<ae+c.w then 2 else 0
def E2(cs:List bC)(ae:Int)(c:bC):List bC:=
 if c.w=2 then(((fo (fo cs ae) (ae+c.w)).set ae.toNat c).set (ae+1).toNat (C8 c.p)) else(fo (fo cs ae) (ae+c.w)).set ae.toNat c
def nj(r:cc)(row ae:Int)(c:bC):cc:=if o7 r row ae c=0 then wh r row.toNat (E2 (hX r.ab row.toNat).cs ae c) else r
theorem Qe{row ae:Int}(h:nE g.aC row ae=0):0<=row/\row<g.xs.length/\0<=ae/\ae<g.ai:=by
 have:=D1 (g:=g);have hc:(g.aC.ai:Int)=g.ai:=rfl
 grind [nE,nW]
theorem dk.aL{k:Nat}(hk:k<g.xs.length){i:Nat}(h:dk (bb g.xs k).aB i):dY g i:= .inr (.inr (dm.mem (pG hk) (dk.dm.1 h)))
theorem asX(aj:Laid w)(h:dA w g){row ae:Int}{c:bC}:bI Tryz.prog X.G7 #[g.ptr, .int .i64 row, .int .i64 ae, .agg c.T] w (dY g) (λv w'=>v= .int .i64 (o7 g.aC row ae c)/\iS w g (nj g.aC row ae c) w'):=by
 refine axy _ row ae c λar ec w1 hb1 fb=>(UM (h.below hb1)).aH λad aI=>⟨_,rfl,aI.O,λe w' hb _=>?_,λe bw bp fN=>?_⟩
 ·have he:o7 g.aC row ae c=nE g.aC row ae:=by unfold o7;rw[aA e]
  refine⟨by rw[he],?_⟩;rw[nj,ag (by rw[he];exact e)];exact(((h.below hb1).O aI).below hb).mod
 have hk3:=((U.au hb1).trans aI).trans (U.au bp);have aw:=h.O hk3;obtain⟨rn,rq,hc0,sq⟩:=Qe e;refine(zg).aH (Laid.O hk3 aj) λbD bO kL=>⟨_,rfl,bO.O,λe1 w' hb _=>?_,λe1=>⟨λe2 w' hb _=>?_,λe2=>?_⟩⟩
 ·have he:o7 g.aC row ae c=2:=by unfold o7;rw[ag M,aA (.inl e1)]
  refine⟨by rw[he],?_⟩;rw[nj,ag (by rw[he];decide)];exact((aw.O bO).below hb).mod
 ·have he:o7 g.aC row ae c=2:=by unfold o7;rw[ag M,aA (.inr (.inl e2))]
  refine⟨by rw[he],?_⟩;rw[nj,ag (by rw[he];decide)];exact((aw.O bO).below hb).mod
 have hw:=aAQ e1;have aZ:=aw.O bO;have mg:=h.c2;have acp:(g.aC.ai:Int)=g.ai:=rfl;refine⟨by unfold ay;omega,_,aZ.iV,λe3 w' hb _=>?_,λe3=>?_⟩
 ·have he:o7 g.aC row ae c=2:=by unfold o7;rw[ag M,aA (.inr (.inr M))]
  refine⟨by rw[he],?_⟩;rw[nj,ag (by rw[he];decide)];exact(aZ.below hb).mod
 have he:o7 g.aC row ae c=0:=by unfold o7;rw[ag M,ag (by rw[e1];rintro(q|q|q);cases q;exact e2 q;omega)]
 obtain⟨k,rfl⟩:=F7 rn;have hk:k<g.xs.length:=by omega
 obtain⟨a,ha⟩:=aZ.lines.row.row.iP (by omega:0<g.xs.length);have hm:=pG hk;have wE:=h.oA _ hm;rw[jN];refine⟨_,_,_,aZ.jb,a,ha,⟨by omega,by omega⟩,_,_,_,(aZ.lines.at_ ha hk).cw 0 rfl,λbP hb5 om=>?_⟩;have hx:∀{v:World},dA v g->fB Y.dZ v (bb g.xs k).aB (bb g.xs k).cs.length (bb g.xs k).cap (bb g.xs k).cs:=λah=>ah.lines.eG.own _ hm
 have eH:=(hk3.trans bO).trans (U.au hb5);have ca:=h.O eH;have acB:∀{v v':World},U (dk (bb g.xs k).aB) v v'->eC w.heap.size (dY g) [ar] v v':=λq=>q.kept (λi hi _=>dk.aL hk hi) λi hi fa=>by
  have:=h.lt (dk.aL hk hi);omega
 have Sp:∀{v v':World},U (dk (bb g.xs k).aB) v v'->Laid v->Laid v':=λq ah=>ah.ax q λi hi=>h.low (dk.aL hk hi)
 refine(UO (Laid.O eH aj) (hx ca) M).aH λv cu dK ⟨ah,H0⟩=>⟨by rw[ah],acB dK,by unfold ay;omega,λw7 c8 mh=>?_⟩
 have nJ:=Laid.below c8 (Sp dK (Laid.O eH aj));refine(UO nJ (H0.below c8) M).aH λv cW br ⟨ah,Ce⟩=>⟨by rw[ah],acB br,?_⟩
 have D7:=Sp br nJ;obtain⟨a2,iu⟩:=Ce.qc.iP (by omega:0<(bb g.xs k).cs.length);have hP:dk (bb g.xs k).aB a2.block:=⟨a2,iu,rfl⟩;have dJ:cp w.heap.size (dY g) [ar] a2.block:=⟨λq=>by have:=h.lt (dk.aL hk hP);simp at q;omega,λ_=>dk.aL hk hP⟩;have acy:=(dK.trans ((U.au c8).mono λ_ q=>q.elim)).trans br;refine⟨a2,iu,⟨by omega,by show ae<((bb g.xs k).cs.length:Int);omega⟩,⟨Ce.p9 iu M,dJ⟩,λcR mF=>⟨λe4=>⟨by unfold ay;omega,λhC fs rl=>(ZZ).aH (Laid.below fs (Sp (mF.ax hP) D7)) λkl iZ aB2=>⟨_,rfl,iZ.O,a2,iu,⟨by omega,by show ae+1<((bb g.xs k).cs.length:Int);omega⟩,?_⟩⟩,λe4 w' hb _=>⟨by rw[he],?_⟩⟩⟩
 all_goals obtain⟨acQ,pz⟩:=fB.Nr Ce iu (k:=ae.toNat) M mF
 ·have Cc:=(acQ.below fs).O iZ
  refine⟨⟨Cc.p9 iu M,dJ⟩,λjy pB w' hb _=>⟨by rw[he],?_⟩⟩;obtain⟨aox,HD⟩:=fB.Nr Cc iu (k:=(ae+1).toNat) M pB;rw[nj,aA he,E2,aA e4];have hgr:(hX g.aC.ab k).cs=(bb g.xs k).cs:=by show(hX (bJ g.xs) k).cs=_;rw[z1];rfl
  rw[jN,hgr];have x7:U (dk (bb g.xs k).aB) bP w':=(((acy.trans pz).trans ((U.au fs).trans iZ|>.mono λ_ q=>q.elim)).trans HD).trans ((U.au hb).mono λ_ q=>q.elim);exact ca.GO hk (by simp[pQ]) (x7.mono λi hi=>dk.dm.1 hi) (aox.below hb)
 ·rw[nj,aA he,E2,ag e4]
  have hgr:(hX g.aC.ab k).cs=(bb g.xs k).cs:=by show(hX (bJ g.xs) k).cs=_;rw[z1];rfl
  rw[jN,hgr];have x7:U (dk (bb g.xs k).aB) bP w':=(acy.trans pz).trans ((U.au hb).mono λ_ q=>q.elim);exact ca.GO hk (by simp[pQ]) (x7.mono λi hi=>dk.dm.1 hi) (acQ.below hb)
end
theorem Hx(xs:List ck)(k:Nat):(dR xs).drop (k*2)=dR (xs.drop k):=by
 induction k generalizing xs with
 |zero=>rfl
 |succ k ih=>
  cases xs with
  |nil=>simp[dR]
  |cons c l=>
   rw[x2,show(k+1)*2=2+k*2 by omega,<-vH];exact ih l
theorem R7(xs:List ck)(k:Nat):(dR xs).take (k*2)=dR (xs.take k):=by
 induction k generalizing xs with
 |zero=>rfl
 |succ k ih=>
  cases xs with
  |nil=>simp[dR]
  |cons c l=>
   rw[List.take_succ_cons,x2,x2,show(k+1)*2=c.T.toList.length+k*2 by show _=2+_;omega,ais,ih]
theorem anp{xs:List ck}{k:Nat}{x':ck}(h:k<xs.length):(dR xs).take (k*2)++(x'.iK.T.toList++(dR xs).drop (k*2+x'.iK.T.toList.length))=dR (xs.set k x'):=by
 rw[R7,show k*2+x'.iK.T.toList.length=(k+1)*2 by show k*2+2=_;omega,Hx,LR h]
theorem aqK{xs:List ck}{k:Nat}(h:k<xs.length):xs=xs.take k++bb xs k::xs.drop (k+1):=by
 have:bb xs k=xs[k]:=by simp[bb,h]
 rw[this,<-mw h,AV]
def FC(x:ck)(b:Bool):ck:=⟨x.aB,x.cap,x.cs,b⟩
theorem ach{xs:List ck}{k:Nat}{b:Bool}(h:k<xs.length):(dR xs).take (k*2+1)++([Value.bool b]++(dR xs).drop (k*2+1+1))=dR (xs.set k (FC (bb xs k) b)):=by
 have e:=aqK h;have e1:dR xs=dR (xs.take k)++((bb xs k).T.toList++dR (xs.drop (k+1))):=by
  conv=>lhs;rw[e]
  rw[Hw,x2]
 have hl:(dR (xs.take k)).length=k*2:=by rw[wv,kC];omega
 rw[LR h,show k*2+1+1=(k+1)*2 by omega,Hx]
 conv=>lhs;rw[e1]
 rw[<-hl,ais,ju];rfl
section
variable{w w':World}{xs:List ck}{p:ao}{n c:Nat}{g:cV}
theorem oF.cU{x:ck}{b:Bool}(h:oF w x):oF w (FC x b):=h
theorem dE.anx(h:dE w p n c xs){k o:Nat}{vs:List Value}{x':ck}{a:Addr}(ha:p=some a)(hk:k<n)(ho:o+vs.length<=n*2)(ah:(dR xs).take o++(vs++(dR xs).drop (o+vs.length))=dR (xs.set k x'))(he:fX w (xs.set k x'))(fV:¬dm (xs.set k x') a.block)(hp:bH w [] a o vs w'):dE w' p n c (xs.set k x'):=by
 refine⟨?_,λb6 fP=>?_,he.ax (hp.ax (F:=λi=>i=a.block) rfl) λi hi hl=>?_⟩
 ·have:=h.row.put ha ho hp
  rwa[ah] at this
 ·rw[ha] at fP
  injection fP with fP
  subst fP;exact fV
 ·rw[hi] at hl;exact fV hl
def FB(r:cc)(k:Nat)(b:Bool):cc:=⟨r.ai,r.ab.set k ⟨(hX r.ab k).cs,b⟩⟩
theorem dA.cU(h:dA w g){k:Nat}{b:Bool}{a:Addr}(ha:g.p=some a)(hk:k<g.xs.length)(hp:bH w [] a (k*2+1) [.bool b] w'){w0:World}:iS w0 g (FB g.aC k b) w'/\U (dY g) w w':=by
 have hm:=pG hk;have lg:∀i,dm (g.xs.set k (FC (bb g.xs k) b)) i->dm g.xs i:=λi hi=>dm.set hk (by rfl) hi
 have x7:U (λi=>i=a.block) w w':=hp.ax rfl;refine⟨⟨N5 g k (FC (bb g.xs k) b),rfl,?_,⟨?_,?_,?_,h.lo,h.bY,h.c2,?_,?_,?_⟩,?_⟩,x7.mono λi hi=> .inr (.inl ⟨a,ha,hi.symm⟩)⟩
 ·show cc.mk _ _=cc.mk _ _
  rw[N5,TW];congr 1;show(bJ g.xs).set k _=(bJ g.xs).set k ⟨(hX (bJ g.xs) k).cs,b⟩;rw[z1];rfl
 ·show Whole _ _ _ [_, .slice _ (g.xs.set _ _).length _]
  rw[uB];exact h.aF.ax x7 λhi=>h.off (.inl ⟨a,ha,hi.symm⟩)
 ·show dE _ _ (g.xs.set _ _).length _ _
  rw[uB];refine h.lines.anx ha hk (by show k*2+1+1<=_;omega) (ach hk) ?_ (λhi=>h.lines.off a ha (lg _ hi)) hp;exact h.lines.eG.set hk rfl (U.refl _ _) (oF.cU (h.lines.eG.own _ hm))
 ·rintro(⟨b',hb',e⟩|hi)
  ·exact h.off (.inl ⟨b',hb',e⟩)
  ·exact h.off (.inr (lg _ hi))
 ·show 1<=(g.xs.set _ _).length
  rw[uB];exact h.de
 ·show(g.xs.set _ _).length<=1000
  rw[uB];exact h.c1
 ·intro x hx
  rcases vI hx with q|q
  ·exact h.oA x q
  ·subst q
   show(bb g.xs k).cs.length=g.ai;exact h.oA _ hm
 ·rintro i (rfl|⟨b',hb',e⟩|hi)
  ·exact .inl (.inl rfl)
  ·exact .inl (.inr (.inl ⟨b',hb',e⟩))
  ·exact .inl (.inr (.inr (lg _ hi)))
theorem iS.below{w0:World}{r:cc}(h:iS w0 g r w)(hb:Below w.heap.size w w'):iS w0 g r w':=by
 obtain⟨aU,h1,h2,aw,aZ⟩:=h;exact⟨aU,h1,h2,aw.below hb,aZ⟩
def mO(r:cc)(row:Int)(b:Bool):cc:=if nW r row=0 then FB r row.toNat b else r
theorem ahn{row:Int}(h:nW g.aC row=0):0<=row/\row<g.xs.length:=by
 have:=D1 (g:=g)
 grind [nW]
theorem afJ(aj:Laid w)(h:dA w g){row:Int}{b:Bool}:bI Tryz.prog X.BV #[g.ptr, .int .i64 row, .bool b] w (dY g) (λv w'=>v= .int .i64 (nW g.aC row)/\iS w g (mO g.aC row b) w'):=by
 refine axB _ row b λw1 hb1=>(UP (h.below hb1)).aH λad aI=>⟨_,rfl,aI.O,λe=>?_,λe w' hb _=>⟨rfl,?_⟩⟩
 ·obtain⟨aW,h1⟩:=ahn e
  have h2:=(h.below hb1).O aI;obtain⟨k,rfl⟩:=F7 aW;have hk:k<g.xs.length:=by omega
  obtain⟨a,ha⟩:=h2.lines.row.row.iP (by omega:0<g.xs.length);have hP:dY g a.block:= .inr (.inl ⟨a,ha,rfl⟩);rw[jN];refine⟨_,_,_,h2.jb,a,ha,⟨by omega,by omega⟩,⟨bF.p9 h2.lines.row ha M,⟨by simp,λ_=>hP⟩⟩,λbD hp w' hb _=>⟨rfl,?_⟩⟩;rw[mO,aA e];exact((h2.cU ha hk hp).1).below hb
 ·rw[mO,ag e]
  exact(((h.below hb1).O aI).below hb).mod
def DO(r:cc)(row ae:Int):bC:=if nE r row ae=0 then cP (hX r.ab row.toNat).cs ae.toNat else Dl
theorem asS(h:dA w g){row ae:Int}:di X.G5 #[g.ptr, .int .i64 row, .int .i64 ae] w (.tuple #[.agg (DO g.aC row ae).T, .int .i64 (nE g.aC row ae)]):=by
 refine axs _ row ae λar ec w1 hb1 fb=>(UM (h.below hb1)).aH λad aI=>⟨_,rfl,aI.O,λe=>bn.of λ_=>?_,λe=>?_⟩
 ·rw[DO,ag e];rfl
 ·obtain⟨aW,h1,aw,aZ⟩:=Qe e
  have h2:=(h.below hb1).O aI;obtain⟨k,rfl⟩:=F7 aW;have hk:k<g.xs.length:=by omega
  obtain⟨a,ha⟩:=h2.lines.row.row.iP (by omega:0<g.xs.length);have hm:=pG hk;have wE:=h.oA _ hm;rw[jN];refine⟨_,_,_,h2.jb,a,ha,⟨by omega,by omega⟩,_,_,_,(h2.lines.at_ ha hk).cw 0 rfl,fB.qc (h2.lines.eG.own _ hm)|>.fU aw M λb hb dB=>bn.of λ_=>?_⟩;have hgr:(hX g.aC.ab k).cs=(bb g.xs k).cs:=by show(hX (bJ g.xs) k).cs=_;rw[z1];rfl
  rw[DO,aA e,e,jN,hgr]
end
structure gE(w v:World)(g:cV)(k:Nat)(cs:List bC):Prop where
 dT:dA w g
 lt:k<g.xs.length
 own:fB Y.dZ v (bb g.xs k).aB (bb g.xs k).cs.length (bb g.xs k).cap cs
 tX:U (dk (bb g.xs k).aB) w v
 laid:Laid v
def vn(l:List bC)(a8 aK m:Nat):List bC:=l.take a8++(l.drop aK).take m++l.drop (a8+m)
section
variable{w v v':World}{g:cV}{k:Nat}{cs:List bC}
theorem gE.begin(aj:Laid w)(h:dA w g)(hk:k<g.xs.length):gE w w g k (bb g.xs k).cs:=⟨h,hk,h.lines.eG.own _ (pG hk),U.refl _ _,aj⟩
theorem gE.len(h:gE w v g k cs):cs.length=(bb g.xs k).cs.length:=h.own.qc.len
theorem gE.ai(h:gE w v g k cs):(bb g.xs k).cs.length=g.ai:=h.dT.oA _ (pG h.lt)
theorem gE.cap(h:gE w v g k cs):(bb g.xs k).cs.length<=(bb g.xs k).cap:=bF.cap h.own
theorem gE.O(h:gE w v g k cs)(hk:U bg v v'):gE w v' g k cs:=⟨h.dT,h.lt,h.own.O hk,h.tX.trans (hk.mono λ_ q=>q.elim),Laid.O hk h.laid⟩
theorem gE.below(h:gE w v g k cs)(hb:Below v.heap.size v v'):gE w v' g k cs:=h.O (U.au hb)
theorem gE.off(h:gE w v g k cs):¬dk (bb g.xs k).aB g.b:=λhi=>h.dT.off (.inr (dm.mem (pG h.lt) (dk.dm.1 hi)))
theorem gE.iV(h:gE w v g k cs):At v ⟨g.b,0,none⟩ 0 [.int .i64 g.ai]:=h.dT.iV.ax h.tX h.off
theorem gE.step{fD:List bC}(h:gE w v g k cs)(ho:fB Y.dZ v' (bb g.xs k).aB (bb g.xs k).cs.length (bb g.xs k).cap fD)(hk:U (dk (bb g.xs k).aB) v v'):gE w v' g k fD:=
 ⟨h.dT,h.lt,ho,h.tX.trans hk,h.laid.ax hk λi hi=>h.dT.low (dk.aL h.lt hi)⟩
theorem gE.j6(h:gE w v g k cs):∃b,(bb g.xs k).aB=some ⟨b,0,none⟩:=by
 have:=h.ai;have:=h.dT.bY;rcases bF.j6 h.own with⟨_,q,_⟩|⟨b,hb,_⟩
 ·omega
 ·exact⟨b,hb⟩
theorem gE.kept{u u' w0:World}{bs:List Nat}(h:gE w v g k cs)(aW:w.heap.size<=w0.heap.size)(ic:∀b∈bs,w.heap.size<=b)(hk:U (dk (bb g.xs k).aB) u u'):eC w0.heap.size (dY g) bs u u':=
 hk.kept (λi hi _=>dk.aL h.lt hi) λi hi fa hm=>by
  have:=h.dT.lt (dk.aL h.lt hi);have:=ic i hm;omega
theorem gE.lS{lo:Nat}{bs:List Nat}{a:Addr}(h:gE w v g k cs)(ic:∀b∈bs,w.heap.size<=b)(ha:dk (bb g.xs k).aB a.block):cp lo (dY g) bs a.block:=
 ⟨λhm=>by have:=h.dT.lt (dk.aL h.lt ha);have:=ic _ hm;omega,λ_=>dk.aL h.lt ha⟩
theorem gE.mod{w0:World}{r:cc}(h:gE w v g k cs)(hr:r=wh g.aC k cs):iS w0 g r v:=by
 subst hr;exact h.dT.GO h.lt h.len (h.tX.mono λi hi=>dk.dm.1 hi) h.own
theorem gE.split{j:Int}(h:gE w v g k cs):bI Tryz.prog X.u4 #[.slice (bb g.xs k).aB (bb g.xs k).cs.length (bb g.xs k).cap, .int .i64 j] v (dk (bb g.xs k).aB) (λu v'=>u= .tuple #[]/\fB Y.dZ v' (bb g.xs k).aB (bb g.xs k).cs.length (bb g.xs k).cap (fo cs j)):=
 UO h.laid h.own (by have:=h.ai;have:=h.dT.c2;omega)
theorem gE.OM{j m jZ:Nat}{q:aT}(h:gE w v g k cs)(hm:j+m<=(bb g.xs k).cs.length):bI Tryz.prog X.BW #[.slice (cM (bb g.xs k).aB (bb g.xs k).cap j 16) m jZ, .agg q.T] v (dk (bb g.xs k).aB) (λu v'=>u= .tuple #[]/\fB Y.dZ v' (bb g.xs k).aB (bb g.xs k).cs.length (bb g.xs k).cap (lq cs j m q)):=by
 obtain⟨b,hb⟩:=h.j6;have ho:=h.own;have kg:=h.cap;rw[hb] at ho⊢;have e:(λi=>i=b)=dk (some ⟨b,0,none⟩):=funext λi=>propext ⟨λe=>⟨_,rfl,e.symm⟩,λ⟨a,ha,e⟩=>by cases ha;exact e.symm⟩
 rw[<-e];exact as1 h.laid ho (λoW=>sa M) hm (by have:=h.ai;have:=h.dT.c2;omega)
theorem gE.from{j m:Nat}(h:gE w v g k cs)(hm:j+m<=(bb g.xs k).cs.length):((gR ((cs.drop j).take m)).length=m*16)/\((∀u:Value,u∈gR ((cs.drop j).take m)->u.oneCell'=true)/\((cM (bb g.xs k).aB (bb g.xs k).cap j 16=none->m=0)/\∀a:Addr,cM (bb g.xs k).aB (bb g.xs k).cap j 16=some a->At v a 0 (gR ((cs.drop j).take m)))):=by
 have hl:=h.len;obtain⟨b,hb⟩:=h.j6;have kg:=h.cap;refine⟨by rw[xI,kC,mv];omega,K4 _,λe=>?_,λa ha=>?_⟩
 ·rw[hb] at e
  unfold cM at e;split at e<;>cases e
 ·rcases nw m with q|q
  ·subst q
   intro i u hu;simp[gR] at hu
  ·rw[hb,sa M] at ha
   cases ha;have ho:=h.own;rw[hb] at ho;have:=Row.at_ ho.qc (a:=⟨b,0,none⟩) rfl (j*16) (cj:=gR ((cs.drop j).take m)) (by rw[xI,K3,kC,K5,mv,AY M]);have:=At.shift this;unfold Addr.add at this;split at this
   ·rename_i q2;rw[show j*16=0 from q2];exact this
   ·simpa using this
theorem gE.ch{j m:Nat}{a:Addr}(h:gE w v g k cs)(hm:j+m<=(bb g.xs k).cs.length)(ha:cM (bb g.xs k).aB (bb g.xs k).cap j 16=some a):ct v a 0 (m*16)/\dk (bb g.xs k).aB a.block:=by
 obtain⟨b,hb⟩:=h.j6;have ho:=h.own;have kg:=h.cap;rw[hb] at ho ha⊢;rcases h8 j (bb g.xs k).cap with q|q
 ·rw[sa q] at ha
  cases ha;exact⟨ct.base (bF.p9 ho rfl M),⟨_,rfl,rfl⟩⟩
 ·unfold cM at ha
  rw[aA M] at ha;cases ha;exact⟨bF.p9 ho rfl M,⟨_,rfl,rfl⟩⟩
theorem gE.copy{pF qv m:Nat}{a:Addr}(h:gE w v g k cs)(hm:pF+m<=(bb g.xs k).cs.length)(tJ:qv+m<=(bb g.xs k).cs.length)(ha:cM (bb g.xs k).aB (bb g.xs k).cap pF 16=some a)(hp:bH v [] a 0 (gR ((cs.drop qv).take m)) v'):gE w v' g k (vn cs pF qv m):=by
 have hl:=h.len;have u5:=(h.ch (m:=m) hm ha).2;refine h.step ?_ (hp.ax u5);obtain⟨b,hb⟩:=h.j6;have ho:=h.own;have kg:=h.cap;rw[hb] at ho ha⊢;have hlen:((cs.drop qv).take m).length=m:=by rw[kC,mv];omega
 rcases h8 pF (bb g.xs k).cap with q|q
 ·rw[sa q] at ha
  cases ha;have:=fB.Nt ho rfl (k:=pF) (ys:=(cs.drop qv).take m) M hp.base;rwa[hlen] at this
 ·have oW:m=0:=by omega
  subst oW;unfold cM at ha;rw[aA M] at ha;cases ha;have:=fB.Nt ho rfl (k:=0) (ys:=[]) aS (by simpa using hp);simpa[vn] using this
theorem Q2{b c lo es:Nat}:∃a,cM (some ⟨b,0,none⟩) c lo es=some a:=by
 unfold cM;split
 ·exact⟨_,rfl⟩
 ·exact⟨_,rfl⟩
def ra(r:cc)(row cQ to:Int)(q:aT):Int:=if nW r row≠0 then nW r row else if cQ<0∨to<cQ∨(r.ai:Int)<to then 3 else if ea (ed q)=false then 2 else 0
def KX(cs:List bC)(cQ to:Int)(q:aT):List bC:=lq (fo (fo cs cQ) to) cQ.toNat (to-cQ).toNat q
def oN(r:cc)(row cQ to:Int)(q:aT):cc:=if ra r row cQ to q=0/\cQ≠to then wh r row.toNat (KX (hX r.ab row.toNat).cs cQ to q) else r
theorem Ls{k:Nat}:(hX g.aC.ab k).cs=(bb g.xs k).cs:=by show(hX (bJ g.xs) k).cs=_;rw[z1];rfl
theorem asT(aj:Laid w)(h:dA w g){row cQ to:Int}{q:aT}:bI Tryz.prog X.G6 #[g.ptr, .int .i64 row, .int .i64 cQ, .int .i64 to, .agg q.T] w (dY g) (λv w'=>v= .int .i64 (ra g.aC row cQ to q)/\iS w g (oN g.aC row cQ to q) w'):=by
 have acp:(g.aC.ai:Int)=g.ai:=rfl;have same:∀{e:Int} {u w':World},ra g.aC row cQ to q=e->(e≠0∨cQ=to)->dA u g->Below u.heap.size u w'->Value.int .i64 e= .int .i64 (ra g.aC row cQ to q)/\iS w g (oN g.aC row cQ to q) w':=λhe aW hg hb=>⟨by rw[he],by rw[oN,ag aio];exact(hg.below hb).mod⟩
 refine axt _ row cQ to q λar ec w1 hb1 fb=>(UP (h.below hb1)).aH λad aI=>⟨_,rfl,aI.O,λe w' hb _=>same (by rw[ra,aA e]) (.inl e) ((h.below hb1).O aI) hb,λe=>?_⟩
 have h2:=(h.below hb1).O aI;refine⟨λe1 w' hb _=>same Xy (.inl du) h2 hb,λe1=>⟨λe2 w' hb _=>same Xy (.inl du) h2 hb,λe2=>⟨_,h2.iV,λe3 w' hb _=>same Xy (.inl du) h2 hb,λe3 bw bp fN=>?_⟩⟩⟩;have hk3:=((U.au hb1).trans aI).trans (U.au bp);refine(UN (Laid.O hk3 aj)).aH λbD bO=>⟨_,rfl,bO.O,λe4 w' hb _=>same (by rw[ra,ag M,ag M,aA e4]) (.inl du) ((h.O hk3).O bO) hb,λe4=>?_⟩
 have he:ra g.aC row cQ to q=0:=by rw[ra,ag M,ag M,ag (by rw[e4];simp)]
 have zE:=hk3.trans bO;have aZ:=h.O zE;refine⟨λeu w' hb _=>same he (.inr eu) aZ hb,λeu=>?_⟩;obtain⟨rn,rq⟩:=ahn e;obtain⟨k,rfl⟩:=F7 rn;have hk:k<g.xs.length:=by omega
 obtain⟨a,ha⟩:=aZ.lines.row.row.iP (by omega:0<g.xs.length);rw[jN];refine⟨_,_,_,aZ.jb,a,ha,⟨by omega,by omega⟩,_,_,_,(aZ.lines.at_ ha hk).cw 0 rfl,λbP hb5 om=>?_⟩;have ob:=((gE.begin aj h hk).O zE).below hb5;have ic:∀b∈[ar],w.heap.size<=b:=λb hb=>by simp at hb;omega
 refine ob.split.aH λv cu dK ⟨ah,H0⟩=>⟨by rw[ah],ob.kept (cL _) ic dK,λw7 c8 mh=>?_⟩
 have oc:=(ob.step H0 dK).below c8;refine oc.split.aH λv cW br ⟨ah,Ce⟩=>⟨by rw[ah],oc.kept (cL _) ic br,?_⟩
 have mZ:=oc.step Ce br;have kg:=mZ.cap;have ri:=mZ.ai;refine⟨⟨by omega,by omega,by show to<=((bb g.xs k).cap:Int);omega⟩,λcR cr dO=>?_⟩;have re:=mZ.below cr;refine(re.OM M).aH λv gn jI ⟨ah,aow⟩=>⟨by rw[ah],re.kept (cL _) ic jI,λw' hb _=>⟨by rw[he],?_⟩⟩
 have sb:=(re.step aow jI).below hb;refine sb.mod ?_;rw[oN,aA ⟨he,eu⟩,jN,Ls];rfl
def pP(r:cc)(row ae n:Int)(q:aT):Int:=if nE r row ae≠0 then nE r row ae else if ea (ed q)=false then 2 else 0
def Da(cs:List bC)(ai ae n:Int)(q:aT):List bC:=
 if 0<n then lq (vn (fo (fo cs ae) (ai-min n (ai-ae))) (ae+min n (ai-ae)).toNat ae.toNat (min ((ai-min n (ai-ae))-ae).toNat ((cs.length:Int)-(ae+min n (ai-ae))).toNat)) ae.toNat (ae+min n (ai-ae)-ae).toNat q
 else if 0-(ai-ae)<n then lq (vn (fo (fo cs ae) (ae+(0-n))) ae.toNat (ae+(0-n)).toNat (min ((cs.length:Int)-(ae+(0-n))).toNat ((cs.length:Int)-ae).toNat)) (ai-(0-n)).toNat ((cs.length:Int)-(ai-(0-n))).toNat q
 else lq (vn (fo (fo cs ae) (ae+(ai-ae))) ae.toNat (ae+(ai-ae)).toNat (min ((cs.length:Int)-(ae+(ai-ae))).toNat ((cs.length:Int)-ae).toNat)) (ai-(ai-ae)).toNat ((cs.length:Int)-(ai-(ai-ae))).toNat q
def mP(r:cc)(row ae n:Int)(q:aT):cc:=if pP r row ae n q=0/\n≠0 then wh r row.toNat (Da (hX r.ab row.toNat).cs r.ai ae n q) else r
theorem as0(aj:Laid w)(h:dA w g){row ae n:Int}{q:aT}(hn: -1000000<=n/\n<=1000000):bI Tryz.prog X.D2 #[g.ptr, .int .i64 row, .int .i64 ae, .int .i64 n, .agg q.T] w (dY g) (λv w'=>v= .int .i64 (pP g.aC row ae n q)/\iS w g (mP g.aC row ae n q) w'):=by
 have acp:(g.aC.ai:Int)=g.ai:=rfl;have same:∀{e:Int} {u w':World},pP g.aC row ae n q=e->(e≠0∨n=0)->dA u g->Below u.heap.size u w'->Value.int .i64 e= .int .i64 (pP g.aC row ae n q)/\iS w g (mP g.aC row ae n q) w':=λhe aW hg hb=>⟨by rw[he],by rw[mP,ag aio];exact(hg.below hb).mod⟩
 refine axC _ row ae n q λar ec w1 hb1 fb=>(UM (h.below hb1)).aH λad aI=>⟨_,rfl,aI.O,λe w' hb _=>same (by rw[pP,aA e]) (.inl e) ((h.below hb1).O aI) hb,λe bw bp fN=>?_⟩
 have hk3:=((U.au hb1).trans aI).trans (U.au bp);refine(UN (Laid.O hk3 aj)).aH λbD bO=>⟨_,rfl,bO.O,λe4 w' hb _=>same (by rw[pP,ag M,aA e4]) (.inl du) ((h.O hk3).O bO) hb,λe4=>?_⟩
 have he:pP g.aC row ae n q=0:=by rw[pP,ag M,ag (by rw[e4];simp)]
 have zE:=hk3.trans bO;have aZ:=h.O zE;refine⟨λeu w' hb _=>same he (.inr eu) aZ hb,λeu=>?_⟩;obtain⟨rn,rq,hc0,sq⟩:=Qe e;obtain⟨k,rfl⟩:=F7 rn;have hk:k<g.xs.length:=by omega
 obtain⟨a,ha⟩:=aZ.lines.row.row.iP (by omega:0<g.xs.length);have mg:=h.c2;rw[jN];refine⟨_,_,_,aZ.jb,a,ha,⟨by omega,by omega⟩,_,_,_,(aZ.lines.at_ ha hk).cw 0 rfl,_,aZ.iV,by unfold ay;omega,λbP hb5 om=>?_⟩;have ob:=((gE.begin aj h hk).O zE).below hb5;have ic:∀b∈[ar],w.heap.size<=b:=λb hb=>by simp at hb;omega
 refine ob.split.aH λv cu dK ⟨ah,H0⟩=>⟨by rw[ah],ob.kept (cL _) ic dK,?_⟩
 have xJ:=ob.step H0 dK;have kg:=xJ.cap;have ri:=xJ.ai;obtain⟨b,iv⟩:=xJ.j6;have aCq:(bb g.xs k).iK.cells.n=(bb g.xs k).cs.length:=rfl;refine⟨λgq=>⟨_,xJ.iV,by unfold ay;omega,λw7 c8 mh=>?_⟩,λgq=>⟨by unfold ay;omega,λiW=>⟨by unfold ay;omega,by unfold ay;omega,λw7 c8 mh=>?_⟩,λiW=>⟨by unfold ay;omega,λw7 c8 mh=>?_⟩⟩⟩
 all_goals have oc:=xJ.below c8
 all_goals refine oc.split.aH λv cW br ⟨ah,Ce⟩=>⟨by rw[ah],oc.kept (cL _) ic br,?_⟩
 all_goals have mZ:=oc.step Ce br
 ·obtain⟨iG,lf⟩:=Q2 (b:=b) (c:=(bb g.xs k).cap) (lo:=(ae+min n ((g.ai:Int)-ae)).toNat) (es:=16)
  rw[<-iv] at lf;refine⟨by unfold ay;omega,⟨by omega,by show _<=((bb g.xs k).cs.length:Int);omega,by show((bb g.xs k).cs.length:Int)<=((bb g.xs k).cap:Int);omega⟩,_,mZ.iV,by unfold ay;omega,⟨by omega,by omega,by show _<=((bb g.xs k).cap:Int);omega⟩,iG,lf,_,mZ.from (j:=ae.toNat) (m:=min (((g.ai:Int)-min n ((g.ai:Int)-ae))-ae).toNat (((bb g.xs k).cs.length:Int)-(ae+min n ((g.ai:Int)-ae))).toNat) M,⟨(mZ.ch M lf).1,mZ.lS ic (mZ.ch (m:=0) M lf).2⟩,λcR mF=>?_⟩;have re:=mZ.copy M M lf mF;refine⟨by unfold ay;omega,⟨by omega,by omega,by show _<=((bb g.xs k).cap:Int);omega⟩,λgn iY Sw=>?_⟩;have sb:=re.below iY;refine(sb.OM M).aH λv hC lF ⟨ah,HZ⟩=>⟨by rw[ah],sb.kept (cL _) ic lF,λw' hb _=>⟨by rw[he],?_⟩⟩
  refine((sb.step HZ lF).below hb).mod ?_;rw[mP,aA ⟨he,eu⟩,jN,Ls,Da,aA gq];rfl
 ·obtain⟨iG,lf⟩:=Q2 (b:=b) (c:=(bb g.xs k).cap) (lo:=ae.toNat) (es:=16)
  rw[<-iv] at lf;refine⟨⟨by omega,by show ae<=((bb g.xs k).cs.length:Int);omega,by show((bb g.xs k).cs.length:Int)<=((bb g.xs k).cap:Int);omega⟩,by unfold ay;omega,⟨by omega,by show _<=((bb g.xs k).cs.length:Int);omega,by show((bb g.xs k).cs.length:Int)<=((bb g.xs k).cap:Int);omega⟩,iG,lf,_,mZ.from (j:=(ae+(0-n)).toNat) (m:=min (((bb g.xs k).cs.length:Int)-(ae+(0-n))).toNat (((bb g.xs k).cs.length:Int)-ae).toNat) M,⟨(mZ.ch M lf).1,mZ.lS ic (mZ.ch (m:=0) M lf).2⟩,λcR mF=>?_⟩;have re:=mZ.copy M M lf mF;refine⟨_,re.iV,by unfold ay;omega,⟨by omega,by show _<=((bb g.xs k).cs.length:Int);omega,by show((bb g.xs k).cs.length:Int)<=((bb g.xs k).cap:Int);omega⟩,λgn iY Sw=>?_⟩;have sb:=re.below iY;refine(sb.OM (j:=((g.ai:Int)-(0-n)).toNat) (m:=(((bb g.xs k).cs.length:Int)-((g.ai:Int)-(0-n))).toNat) M).aH λv hC lF ⟨ah,HZ⟩=>⟨by rw[ah],sb.kept (cL _) ic lF,λw' hb _=>⟨by rw[he],?_⟩⟩
  refine((sb.step HZ lF).below hb).mod ?_;rw[mP,aA ⟨he,eu⟩,jN,Ls,Da,ag M,aA (show 0-((g.aC.ai:Int)-ae)<n by omega)];rfl
 ·obtain⟨iG,lf⟩:=Q2 (b:=b) (c:=(bb g.xs k).cap) (lo:=ae.toNat) (es:=16)
  rw[<-iv] at lf;refine⟨⟨by omega,by show ae<=((bb g.xs k).cs.length:Int);omega,by show((bb g.xs k).cs.length:Int)<=((bb g.xs k).cap:Int);omega⟩,by unfold ay;omega,⟨by omega,by show _<=((bb g.xs k).cs.length:Int);omega,by show((bb g.xs k).cs.length:Int)<=((bb g.xs k).cap:Int);omega⟩,iG,lf,_,mZ.from (j:=(ae+((g.ai:Int)-ae)).toNat) (m:=min (((bb g.xs k).cs.length:Int)-(ae+((g.ai:Int)-ae))).toNat (((bb g.xs k).cs.length:Int)-ae).toNat) M,⟨(mZ.ch M lf).1,mZ.lS ic (mZ.ch (m:=0) M lf).2⟩,λcR mF=>?_⟩;have re:=mZ.copy M M lf mF;refine⟨_,re.iV,by unfold ay;omega,⟨by omega,by show _<=((bb g.xs k).cs.length:Int);omega,by show((bb g.xs k).cs.length:Int)<=((bb g.xs k).cap:Int);omega⟩,λgn iY Sw=>?_⟩;have sb:=re.below iY;refine(sb.OM (j:=((g.ai:Int)-((g.ai:Int)-ae)).toNat) (m:=(((bb g.xs k).cs.length:Int)-((g.ai:Int)-((g.ai:Int)-ae))).toNat) M).aH λv hC lF ⟨ah,HZ⟩=>⟨by rw[ah],sb.kept (cL _) ic lF,λw' hb _=>⟨by rw[he],?_⟩⟩
  refine((sb.step HZ lF).below hb).mod ?_;rw[mP,aA ⟨he,eu⟩,jN,Ls,Da,ag M,ag M];rfl
end
variable{w0:World}{F:Nat->Prop}{Q:Value->World->Prop}
theorem axz(g:Addr)(r:dz)(n:Int)(p:aT)(h:aG w0 λa=>aG w0 λb=>a7 w0 F [a,b] w0 [(a,G.Region),(b,G.b_)] X.D4 #[al g] .bool λe f=>dQ f (aa w0 F e Q (.tuple #[.slice none 0 0,D 1])) (bG r.bf 0 (aa w0 F e Q (.tuple #[.slice none 0 0,D 3])) (bG r.b7 r.bf (aa w0 F e Q (.tuple #[.slice none 0 0,D 3])) (∃i:ao,∃j k:Nat,At e g 1 [.slice i j k]/\dX j r.b7 (aa w0 F e Q (.tuple #[.slice none 0 0,D 3])) (a7 w0 F [a,b] e [(a,G.Region),(b,G.b_)] X.D3 #[.agg p.T] .bool λo q=>gL q (aa w0 F o Q (.tuple #[.slice none 0 0,D 2])) (a' n 0 (aa w0 F o Q (.tuple #[.slice none 0 0,D 0])) (∃s:ao,∃t u:Nat,At o g 1 [.slice s t u]/\ay (r.b7+1)/\((0:Int)<=r.bf/\r.bf<=(r.b7+1)/\(r.b7+1)<=(u:Int))/\∃v:Int->World->Prop,(ay (0-(((Int.toNat ((r.b7+1)-r.bf)):Nat):Int))/\bG (0-(((Int.toNat ((r.b7+1)-r.bf)):Nat):Int)) n (bG n ((Int.toNat ((r.b7+1)-r.bf)):Nat) (ay (0-n)/\bm o λx=>v (max n (0-n)) x) (bm o λx=>v (((Int.toNat ((r.b7+1)-r.bf)):Nat):Int) x)) (bm o λx=>v (((Int.toNat ((r.b7+1)-r.bf)):Nat):Int) x))/\∀x:Int,∀y:World,U F w0 y->v x y->ay ((((Int.toNat ((r.b7+1)-r.bf)):Nat):Int)-x)/\((0:Int)<=((((Int.toNat ((r.b7+1)-r.bf)):Nat):Int)-x)/\((((Int.toNat ((r.b7+1)-r.bf)):Nat):Int)-x)<=(((Int.toNat ((r.b7+1)-r.bf)):Nat):Int)/\(((Int.toNat ((r.b7+1)-r.bf)):Nat):Int)<=(((u-(Int.toNat r.bf)):Nat):Int))/\∃z:Option Addr->Nat->Nat->Option Addr->Nat->Nat->World->Prop,bG 0 n (((0:Int)<=0/\(0:Int)<=x/\x<=(((u-(Int.toNat r.bf)):Nat):Int))/\cC w0 y [(a,G.Region),(b,G.b_)] X.Od #[.slice (cM (cM s u (Int.toNat r.bf) 2) (u-(Int.toNat r.bf)) 0 2) (Int.toNat (x-0)) ((u-(Int.toNat r.bf))-0)] λA B C=>∃aD:ao,∃E bT:Nat,bW B (.slice aD E bT) w0 F [a,b] A C (((0:Int)<=x/\x<=(((Int.toNat ((r.b7+1)-r.bf)):Nat):Int)/\(((Int.toNat ((r.b7+1)-r.bf)):Nat):Int)<=(((u-(Int.toNat r.bf)):Nat):Int))/\∃ak:Addr,(cM s u (Int.toNat r.bf) 2)=(some ak)/\∃bo:List Value,(bo.length=((min (Int.toNat ((((Int.toNat ((r.b7+1)-r.bf)):Nat):Int)-x)) (Int.toNat ((r.b7+1)-r.bf)))*2)/\(∀J:Value,J∈bo->J.oneCell'=true)/\((cM (cM s u (Int.toNat r.bf) 2) (u-(Int.toNat r.bf)) (Int.toNat x) 2)=none->(min (Int.toNat ((((Int.toNat ((r.b7+1)-r.bf)):Nat):Int)-x)) (Int.toNat ((r.b7+1)-r.bf)))=0)/\∀J:Addr,(cM (cM s u (Int.toNat r.bf) 2) (u-(Int.toNat r.bf)) (Int.toNat x) 2)=(some J)->At C J 0 bo)/\(ct C ak 0 ((min (Int.toNat ((((Int.toNat ((r.b7+1)-r.bf)):Nat):Int)-x)) (Int.toNat ((r.b7+1)-r.bf)))*2)/\cp w0.heap.size F [a,b] ak.block)/\∀J:World,bH C [] ak 0 bo J->bG x ((Int.toNat ((r.b7+1)-r.bf)):Nat) (ay ((((Int.toNat ((r.b7+1)-r.bf)):Nat):Int)-x)/\ay (((((Int.toNat ((r.b7+1)-r.bf)):Nat):Int)-x)-1)/\∃K:Addr,(cM s u (Int.toNat r.bf) 2)=(some K)/\((0:Int)<=(((((Int.toNat ((r.b7+1)-r.bf)):Nat):Int)-x)-1)/\(((((Int.toNat ((r.b7+1)-r.bf)):Nat):Int)-x)-1)<(((Int.toNat ((r.b7+1)-r.bf)):Nat):Int))/\(ct J K (((Int.toNat (((((Int.toNat ((r.b7+1)-r.bf)):Nat):Int)-x)-1))*2)+1) 1/\cp w0.heap.size F [a,b] K.block)/\∀L:World,bH J [] K (((Int.toNat (((((Int.toNat ((r.b7+1)-r.bf)):Nat):Int)-x)-1))*2)+1) [.bool false] L->bm L λbj=>z aD E bT (cM (cM s u (Int.toNat r.bf) 2) (u-(Int.toNat r.bf)) (Int.toNat ((((Int.toNat ((r.b7+1)-r.bf)):Nat):Int)-x)) 2) (Int.toNat ((((Int.toNat ((r.b7+1)-r.bf)):Nat):Int)-((((Int.toNat ((r.b7+1)-r.bf)):Nat):Int)-x))) ((u-(Int.toNat r.bf))-(Int.toNat ((((Int.toNat ((r.b7+1)-r.bf)):Nat):Int)-x))) bj) (bm J λK=>z aD E bT (cM (cM s u (Int.toNat r.bf) 2) (u-(Int.toNat r.bf)) (Int.toNat ((((Int.toNat ((r.b7+1)-r.bf)):Nat):Int)-x)) 2) (Int.toNat ((((Int.toNat ((r.b7+1)-r.bf)):Nat):Int)-((((Int.toNat ((r.b7+1)-r.bf)):Nat):Int)-x))) ((u-(Int.toNat r.bf))-(Int.toNat ((((Int.toNat ((r.b7+1)-r.bf)):Nat):Int)-x))) K))) (ay ((((Int.toNat ((r.b7+1)-r.bf)):Nat):Int)-x)/\((0:Int)<=((((Int.toNat ((r.b7+1)-r.bf)):Nat):Int)-x)/\((((Int.toNat ((r.b7+1)-r.bf)):Nat):Int)-x)<=(((Int.toNat ((r.b7+1)-r.bf)):Nat):Int)/\(((Int.toNat ((r.b7+1)-r.bf)):Nat):Int)<=(((u-(Int.toNat r.bf)):Nat):Int))/\cC w0 y [(a,G.Region),(b,G.b_)] X.Od #[.slice (cM (cM s u (Int.toNat r.bf) 2) (u-(Int.toNat r.bf)) (Int.toNat ((((Int.toNat ((r.b7+1)-r.bf)):Nat):Int)-x)) 2) (Int.toNat ((((Int.toNat ((r.b7+1)-r.bf)):Nat):Int)-((((Int.toNat ((r.b7+1)-r.bf)):Nat):Int)-x))) ((u-(Int.toNat r.bf))-(Int.toNat ((((Int.toNat ((r.b7+1)-r.bf)):Nat):Int)-x)))] λA B C=>∃aD:ao,∃E bT:Nat,bW B (.slice aD E bT) w0 F [a,b] A C (((0:Int)<=x/\x<=(((Int.toNat ((r.b7+1)-r.bf)):Nat):Int)/\(((Int.toNat ((r.b7+1)-r.bf)):Nat):Int)<=(((u-(Int.toNat r.bf)):Nat):Int))/\∃ak:Addr,(cM (cM s u (Int.toNat r.bf) 2) (u-(Int.toNat r.bf)) (Int.toNat x) 2)=(some ak)/\∃bo:List Value,(bo.length=((min (Int.toNat ((r.b7+1)-r.bf)) (Int.toNat ((((Int.toNat ((r.b7+1)-r.bf)):Nat):Int)-x)))*2)/\(∀J:Value,J∈bo->J.oneCell'=true)/\((cM s u (Int.toNat r.bf) 2)=none->(min (Int.toNat ((r.b7+1)-r.bf)) (Int.toNat ((((Int.toNat ((r.b7+1)-r.bf)):Nat):Int)-x)))=0)/\∀J:Addr,(cM s u (Int.toNat r.bf) 2)=(some J)->At C J 0 bo)/\(ct C ak 0 ((min (Int.toNat ((r.b7+1)-r.bf)) (Int.toNat ((((Int.toNat ((r.b7+1)-r.bf)):Nat):Int)-x)))*2)/\cp w0.heap.size F [a,b] ak.block)/\∀J:World,bH C [] ak 0 bo J->((0:Int)<=0/\(0:Int)<=x/\x<=(((u-(Int.toNat r.bf)):Nat):Int))/\bG x ((Int.toNat ((r.b7+1)-r.bf)):Nat) (ay ((((Int.toNat ((r.b7+1)-r.bf)):Nat):Int)-1)/\∃K:Addr,(cM s u (Int.toNat r.bf) 2)=(some K)/\((0:Int)<=((((Int.toNat ((r.b7+1)-r.bf)):Nat):Int)-1)/\((((Int.toNat ((r.b7+1)-r.bf)):Nat):Int)-1)<(((Int.toNat ((r.b7+1)-r.bf)):Nat):Int))/\(ct J K (((Int.toNat ((((Int.toNat ((r.b7+1)-r.bf)):Nat):Int)-1))*2)+1) 1/\cp w0.heap.size F [a,b] K.block)/\∀L:World,bH J [] K (((Int.toNat ((((Int.toNat ((r.b7+1)-r.bf)):Nat):Int)-1))*2)+1) [.bool false] L->bm L λbj=>z aD E bT (cM (cM s u (Int.toNat r.bf) 2) (u-(Int.toNat r.bf)) 0 2) (Int.toNat (x-0)) ((u-(Int.toNat r.bf))-0) bj) (bm J λK=>z aD E bT (cM (cM s u (Int.toNat r.bf) 2) (u-(Int.toNat r.bf)) 0 2) (Int.toNat (x-0)) ((u-(Int.toNat r.bf))-0) K)))/\∀A:ao,∀B C:Nat,∀aD:ao,∀E bT:Nat,∀ak:World,U F w0 ak->z A B C aD E bT ak->∃bo:Int->World->Prop,∃J:Int->Nat,(bm ak λK=>bo 0 K)/\∀K:Int,∀L:World,U F w0 L->bo K L->bG K E (∃bj,At L g 0 [D bj]/\a7 w0 F [a,b] L [(a,G.Region),(b,G.b_)] X.Lv #[D bj, .agg p.T] Jw λP R=>∃S:Addr,aD=(some S)/\((0:Int)<=K/\K<(E:Int))/\(ct P S ((Int.toNat K)*2) 2/\cp w0.heap.size F [a,b] S.block)/\∀er:World,bH P [] S ((Int.toNat K)*2) R.T.toList er->ay (K+1)/\bm er λV=>bo (K+1) V/\J (K+1)<J K) (bG 0 r.bf (∃bj:ao,∃N eE:Nat,At L g 1 [.slice bj N eE]/\ay (r.bf-1)/\∃P:Addr,bj=(some P)/\((0:Int)<=(r.bf-1)/\(r.bf-1)<(N:Int))/\(ct L P (((Int.toNat (r.bf-1))*2)+1) 1/\cp w0.heap.size F [a,b] P.block)/\∀R:World,bH L [] P (((Int.toNat (r.bf-1))*2)+1) [.bool false] R->aa w0 F R Q (.tuple #[.slice A B C,D 0])) (aa w0 F L Q (.tuple #[.slice A B C,D 0])))))))))):aO X.zq #[al g, .agg r.T,D n, .agg p.T] w0 F Q:=eV [⟨26,[127],[]⟩] [⟨13,[11],[]⟩,⟨25,[12,13],[]⟩] [.aY g 0, .agg (dz.bN.enc r),cn n, .agg (aT.bN.enc p)] h
end Go.Proofs.YtimbpmnbbfeogaaGreatDoor
namespace Go.Proofs.YtimbpmnbbfeogaaGreatDoor
open Go Go.RowKit Go.Sy Go.Rep
theorem af9{w:World}{p:ao}{n c:Nat}{xs:List ck}(h:Row w p n 2 (dR xs))(hn:n<=1073741824):bI Tryz.prog X.Od #[.slice p n c] w bg (λv w'=>∃q d,v= .slice q n d/\bF w.heap.size w' G.fg 2 q n d (dR xs)):=by
 have hl:=h.len;rw[wv] at hl;refine az4 p n c ⟨λe=>?_,λe w1 ar h1=>?_⟩
 ·intro w' hb hk
  have aW:n=0:=Row.wL h e;subst aW;have:xs=[]:=n2 M;subst this;exact⟨none,0,rfl,bF.nil _ _ _ _⟩
 ·have zs:=Row.O h (cX.ax h1 rfl)
  refine⟨[],aeu h1,dR xs,⟨by rw[wv,show xs.length=n by omega],R6 xs,λe'=>absurd e' e,λa ha=>zs.eI a ha⟩,by omega,λad cq aQ h2=>?_⟩;obtain⟨ho,hk⟩:=aan h1 h2;intro w' hb _;rw[iR];exact⟨cq,aQ,rfl,ho.below hb⟩
def eQ(ys:List ck)(j:Nat):List ck:=ys.set j (FC (bb ys j) false)
theorem ag2(ys:List ck)(j:Nat):(eQ ys j).length=ys.length:=by simp[eQ]
theorem aqI{xs ys:List ck}{j:Nat}(h:j<xs.length):bb (xs++ys) j=bb xs j:=by simp[bb,nr h]
theorem aqJ{xs ys:List ck}{j:Nat}:bb (xs++ys) (xs.length+j)=bb ys j:=by simp[bb,mu]
theorem N9{xs ys:List ck}{j:Nat}(h:j<xs.length):eQ (xs++ys) j=eQ xs j++ys:=by
 unfold eQ;rw[aqI h,List.set_append_left _ _ h]
theorem ag4{xs ys:List ck}{j:Nat}:eQ (xs++ys) (xs.length+j)=xs++eQ ys j:=by
 unfold eQ;rw[aqJ,List.set_append_right _ _ M,X9]
section
variable{w v v':World}{g:cV}{ys xs:List ck}{j:Nat}
theorem dm.eQ{i:Nat}:dm (eQ ys j) i->dm ys i:=by
 rcases h8 j ys.length with h|h
 ·exact dm.set (x':=FC (bb ys j) false) h rfl
 ·unfold Go.Proofs.YtimbpmnbbfeogaaGreatDoor.eQ
  rw[F6 h];exact id
theorem fX.eQ(h:fX v ys):fX v (eQ ys j):=by
 rcases h8 j ys.length with q|q
 ·exact h.set q rfl (U.refl _ _) (oF.cU (h.own _ (pG q)))
 ·unfold Go.Proofs.YtimbpmnbbfeogaaGreatDoor.eQ
  rw[F6 q];exact h
theorem fX.pN(h:fX v xs)(hp:xs.Perm ys):fX v ys:=
 ⟨λx hx=>h.own x (hp.symm.subset hx),(hp.pairwise_iff (λ{a b} RP p q hp hq e=>RP q p hq hp e.symm)).1 h.sep⟩
structure fz(w v:World)(g:cV)(b:Nat)(ys:List ck):Prop where
 dT:dA w g
 at_:g.p=some ⟨b,0,none⟩
 own:bF Y.dZ v G.fg 2 g.p g.xs.length g.c (dR ys)
 tX:U (dk g.p) w v
 laid:Laid v
theorem dk.sj{i:Nat}(h:dk g.p i):dY g i:= .inr (.inl h)
variable{b:Nat}
theorem fz.begin(aj:Laid w)(h:dA w g)(hb:g.p=some ⟨b,0,none⟩):fz w w g b g.xs:=⟨h,hb,h.lines.row,U.refl _ _,aj⟩
theorem fz.len(h:fz w v g b ys):ys.length=g.xs.length:=by have:=h.own.len;rw[wv] at this;omega
theorem fz.O(h:fz w v g b ys)(hk:U bg v v'):fz w v' g b ys:=⟨h.dT,h.at_,h.own.O hk,h.tX.trans (hk.mono λ_ q=>q.elim),Laid.O hk h.laid⟩
theorem fz.below(h:fz w v g b ys)(hb:Below v.heap.size v v'):fz w v' g b ys:=h.O (U.au hb)
theorem fz.off(h:fz w v g b ys):¬dk g.p g.b:=λhi=>h.dT.off (.inl hi)
theorem fz.iV(h:fz w v g b ys):At v ⟨g.b,0,none⟩ 0 [.int .i64 g.ai]:=h.dT.iV.ax h.tX h.off
theorem fz.jb(h:fz w v g b ys):At v ⟨g.b,0,none⟩ 1 [.slice g.p g.xs.length g.c]:=h.dT.jb.ax h.tX h.off
theorem fz.yA(h:fz w v g b ys):dk g.p b:=⟨_,h.at_,rfl⟩
theorem fz.eG(h:fz w v g b ys):fX v g.xs:=h.dT.lines.eG.ax h.tX λi ⟨a,ha,e⟩ hl=>h.dT.lines.off a ha (by rw[e];exact hl)
theorem fz.lS{lo:Nat}{bs:List Nat}(h:fz w v g b ys)(ic:∀i∈bs,w.heap.size<=i):cp lo (dY g) bs b:=
 ⟨λhm=>by have:=h.dT.lt (dk.sj h.yA);have:=ic _ hm;omega,λ_=>dk.sj h.yA⟩
theorem fz.step{xb:List ck}{a:Addr}{o:Nat}{vs:List Value}(h:fz w v g b ys)(ha:a.block=b)(hp:bH v [] a o vs v')(ho:bF Y.dZ v' G.fg 2 g.p g.xs.length g.c (dR xb)):fz w v' g b xb:=
 have hk:U (dk g.p) v v':=hp.ax ⟨_,h.at_,ha.symm⟩
 ⟨h.dT,h.at_,ho,h.tX.trans hk,h.laid.ax hk λi hi=>h.dT.low (dk.sj hi)⟩
def DE(g:cV)(b:Nat)(a:Addr)(j m:Nat):Prop:=∃o,a=⟨b,o,none⟩/\o<=g.xs.length*2/\(0<m->o=j*2)
theorem fz.ch{a:Addr}{m:Nat}(h:fz w v g b ys)(ha:DE g b a j m)(hm:j+m<=g.xs.length):ct v a 0 (m*2)/\a.block=b:=by
 obtain⟨o,rfl,ho,hj⟩:=ha;refine⟨ct.base (bF.p9 h.own h.at_ ?_),rfl⟩;rcases nw m with q|q
 ·omega
 ·have:=hj q;omega
theorem fz.from{m:Nat}(h:fz w v g b ys)(hm:j+m<=g.xs.length):(dR ((ys.drop j).take m)).length=m*2/\((∀u:Value,u∈dR ((ys.drop j).take m)->u.oneCell'=true)/\∀a,DE g b a j m->At v a 0 (dR ((ys.drop j).take m))):=by
 have hl:=h.len;refine⟨by rw[wv,kC,mv];omega,R6 _,λa ha=>?_⟩;obtain⟨o,rfl,ho,hj⟩:=ha;rcases nw m with q|q
 ·subst q
  intro i u hu;simp[dR] at hu
 ·have e:=hj q
  subst e;have:=Row.at_ h.own.row h.at_ (j*2) (cj:=dR ((ys.drop j).take m)) (by rw[wv,Hx,kC,R7,mv,AY M]);have:=At.shift this;unfold Addr.add at this;split at this
  ·rename_i q2;rw[show j*2=0 from q2];exact this
  ·simpa using this
def wK(l:List ck)(pF qv m:Nat):List ck:=l.take pF++(l.drop qv).take m++l.drop (pF+m)
theorem anq{k:Nat}{df:List ck}:(dR ys).take (k*2)++(dR df++(dR ys).drop (k*2+(dR df).length))=dR (ys.take k++df++ys.drop (k+df.length)):=by
 rw[R7,wv,<-F3,Hx,<-Hw,<-Hw,ju]
theorem fz.copy{pF qv m:Nat}{a:Addr}(h:fz w v g b ys)(hm:pF+m<=g.xs.length)(tJ:qv+m<=g.xs.length)(ha:DE g b a pF m)(hp:bH v [] a 0 (dR ((ys.drop qv).take m)) v'):fz w v' g b (wK ys pF qv m):=by
 have hl:=h.len;refine h.step (h.ch ha hm).2 hp ?_;obtain⟨o,rfl,ho,hj⟩:=ha;have hlen:((ys.drop qv).take m).length=m:=by rw[kC,mv];omega
 rcases nw m with q|q
 ·subst q
  have:=bF.put h.own h.at_ (o:=o+0) (vs:=dR ((ys.drop qv).take 0)) (by simp[dR];omega) (bH.base hp);simpa[wK,dR] using this
 ·have e:=hj q
  subst e;have sx:=bH.base (k:=pF*2) (o:=0) hp;rw[AW] at sx;have:=bF.put h.own h.at_ (o:=pF*2) (by rw[wv,hlen];omega) sx;rw[anq,hlen] at this;exact this
theorem fz.cU{a:Addr}{k:Nat}(h:fz w v g b ys)(ha:a=⟨b,j*2,none⟩)(hk:j+k<g.xs.length)(hp:bH v [] a (k*2+1) [.bool false] v'):fz w v' g b (eQ ys (j+k)):=by
 have hl:=h.len;refine h.step (by rw[ha]) hp ?_;subst ha;have:=bF.put h.own h.at_ (o:=j*2+(k*2+1)) (by show j*2+(k*2+1)+1<=_;omega) (bH.base hp);rw[show j*2+(k*2+1)=(j+k)*2+1 by omega] at this;show bF _ _ _ _ _ _ _ (dR (ys.set (j+k) _));rw[<-ach M];exact this
theorem fz.head{a:Addr}{k:Nat}{x:ck}(h:fz w v g b ys)(ha:a=⟨b,j*2,none⟩)(hk:j+k<g.xs.length)(hp:bH v [] a (k*2) x.iK.T.toList v'):fz w v' g b (ys.set (j+k) x):=by
 have hl:=h.len;refine h.step (by rw[ha]) hp ?_;subst ha;have:=bF.put h.own h.at_ (o:=j*2+k*2) (by show j*2+k*2+2<=_;omega) (bH.base hp);rw[<-F3] at this;rw[<-anp M];exact this
theorem fz.KN{a:Addr}{o m:Nat}(h:fz w v g b ys)(ha:a=⟨b,j*2,none⟩)(hk:j*2+o+m<=g.xs.length*2):ct v a o m:=by
 subst ha;exact ct.base (bF.p9 h.own h.at_ M)
theorem Q1{c t k:Nat}(h:t+k<c):cM (cM (some ⟨b,0,none⟩) c t 2) (c-t) k 2=some ⟨b,(t+k)*2,none⟩:=by
 rw[sa M];unfold cM;rw[ag M];show some (Addr.add ⟨b,t*2,none⟩ (k*2))=_;unfold Addr.add;split
 ·rename_i e
  have:k=0:=by omega
  subst this;rfl
 ·simp;omega
theorem ak7{c t k m:Nat}{a:Addr}(h:t+k<=c)(ht:t<c)(hm:0<m->t+k<c)(hk:t+k<=g.xs.length)(ha:cM (cM (some ⟨b,0,none⟩) c t 2) (c-t) k 2=some a):DE g b a (t+k) m:=by
 rcases h8 (t+k) c with q|q
 ·rw[Q1 q] at ha
  cases ha;exact⟨_,rfl,by omega,λ_=>rfl⟩
 ·rw[sa ht] at ha
  unfold cM at ha;rw[aA M] at ha;cases ha;exact⟨_,rfl,by omega,λoW=>by have:=hm oW;omega⟩
def A_(w:World)(g:cV)(r:cc)(gone:List Li)(e:Int)(u:Value)(v:World):Prop:=∃fG c3 gs,∃aU:cV,u= .tuple #[.slice fG gs.length c3, .int .i64 e]/\bJ gs=gone/\dE v fG gs.length c3 gs/\aU.b=g.b/\aU.aC=r/\dA v aU/\(∀i,dY aU i->dY g i∨w.heap.size<=i)/\∀i,fA fG gs i->(dY g i∨w.heap.size<=i)/\¬dY aU i
theorem au4{e:Int}(h:dA v g):A_ w g g.aC [] e (.tuple #[.slice none 0 0, .int .i64 e]) v:=
 ⟨none,0,[],g,rfl,rfl,dE.nil,rfl,rfl,h,λi hi=> .inl hi,λi hi=>absurd hi fA.nil⟩
theorem agl{Y gs:List ck}{fG:ao}{c3:Nat}(h:fz w v g b Y)(hY:Y.length=g.xs.length)(ib:fX v (Y++gs))(lg:∀i,dm Y i->dm g.xs i∨w.heap.size<=i)(qo:∀i,dm gs i->dm g.xs i)(aj:Laid w)(iw:bF w.heap.size v G.fg 2 fG gs.length c3 (dR gs))(hd:∀a,fG=some a->¬dm Y a.block)(wE:∀x∈Y,x.cs.length=g.ai):A_ w g ⟨g.ai,bJ Y⟩ (bJ gs) 0 (.tuple #[.slice fG gs.length c3, .int .i64 0]) v:=by
 have ho:=h.dT;have hlt:∀{i},dY g i->i<w.heap.size:=λhi=>ho.lt hi
 have sB:=uz.1 ib.sep;refine⟨fG,c3,gs,⟨g.b,g.ai,g.p,g.c,Y⟩,rfl,rfl,⟨iw.low aj.size,λa ha hi=>?_,ib.sub (List.sublist_append_right _ _)⟩,rfl,rfl,⟨?_,⟨?_,λa ha hi=>?_,ib.sub (List.sublist_append_left _ _)⟩,λhi=>?_,ho.lo,ho.bY,ho.c2,?_,?_,wE⟩,λi hi=>?_,λi hi=>⟨?_,λhg=>?_⟩⟩
 ·have:=hlt (.inr (.inr (qo _ hi)))
  have:=(iw.lt a ha).2.1;omega
 ·show Whole _ _ _ [_, .slice _ Y.length _]
  rw[hY];exact ho.aF.ax h.tX h.off
 ·show bF _ _ _ _ _ Y.length _ _
  rw[hY];exact h.own
 ·rcases lg _ hi with q|q
  ·exact ho.lines.off a ha q
  ·have:=hlt (dk.sj ⟨a,ha,rfl⟩)
   omega
 ·rcases hi with q|q
  ·exact ho.off (.inl q)
  ·rcases lg _ q with q|q
   ·exact ho.off (.inr q)
   ·have:=hlt (i:=g.b) (.inl rfl)
    have:g.b<w.heap.size:=this;change w.heap.size<=g.b at q;omega
 ·show 1<=Y.length
  rw[hY];exact ho.de
 ·show Y.length<=1000
  rw[hY];exact ho.c1
 ·rcases hi with q|q|q
  ·exact .inl (.inl q)
  ·exact .inl (dk.sj q)
  ·rcases lg _ q with q|q
   ·exact .inl (.inr (.inr q))
   ·exact .inr q
 ·rcases hi with⟨a,ha,rfl⟩|q
  ·exact .inr (iw.lt a ha).2.1
  ·exact .inl (.inr (.inr (qo _ q)))
 ·rcases hi with⟨a,ha,rfl⟩|q
  ·have qn:=(iw.lt a ha).2.1
   rcases hg with q|q|q
   ·have:=hlt (i:=g.b) (.inl rfl)
    change a.block=g.b at q;omega
   ·have:=hlt (dk.sj q)
    omega
   ·exact hd a ha q
  ·have hx:=qo _ q
   rcases hg with r|⟨a,ha,e⟩|r
   ·change i=g.b at r
    subst r;exact ho.off (.inr hx)
   ·exact ho.lines.off a ha (by rw[e];exact hx)
   ·obtain⟨x,Mu,a,ha,e1⟩:=r
    obtain⟨y,Tw,c,hc,e2⟩:=q;exact sB.2.2 x Mu y Tw a c ha hc (e1.trans e2.symm)
end
def sV(ab:List Li)(j:Nat):List Li:=ab.set j ⟨(hX ab j).cs,false⟩
def tV(n:Int)(L:Nat):Nat:=if-(L:Int)<n/\n<L then n.natAbs else L
def mm{eg:Type}(s:List eg->Nat->List eg)(ab:List eg)(t L k:Nat)(n:Int):List eg:=
 if 0<n then(if k<L then s (ab.take t++(ab.drop (t+k)).take (L-k)) (t+(L-k-1)) else ab.take t++(ab.drop (t+k)).take (L-k)) else ab.take t
def o8{eg:Type}(s:List eg->Nat->List eg)(ab:List eg)(t L k:Nat)(n:Int):List eg:=
 if 0<n then ab.drop (t+L) else(if k<L then s ((ab.drop t).take (L-k)++ab.drop (t+L)) (L-k-1) else(ab.drop t).take (L-k)++ab.drop (t+L))
def ox{eg:Type}(ab:List eg)(t L k:Nat)(n:Int):List eg:=if 0<n then(ab.drop t).take k else(ab.drop (t+(L-k))).take k
def Ak{eg:Type}(ab:List eg)(t L k:Nat)(n:Int):List eg:=if 0<n then(ab.drop (t+(L-k))).take k else(ab.drop t).take k
theorem TX{ys:List ck}{j:Nat}:bJ (eQ ys j)=sV (bJ ys) j:=by
 unfold eQ sV;rw[TW,z1];rfl
theorem TZ{xs:List ck}{k:Nat}:bJ (xs.take k)=(bJ xs).take k:=by simp[bJ,xk]
theorem TV{xs:List ck}{k:Nat}:bJ (xs.drop k)=(bJ xs).drop k:=by simp[bJ,AU]
theorem MI{xs ys:List ck}:bJ (xs++ys)=bJ xs++bJ ys:=by simp[bJ]
theorem aqE{xs:List ck}{t L k:Nat}{n:Int}:bJ (mm eQ xs t L k n)=mm sV (bJ xs) t L k n:=by
 unfold mm
 repeat' split
 all_goals simp only[TX,MI,TZ,TV]
theorem aqG{xs:List ck}{t L k:Nat}{n:Int}:bJ (o8 eQ xs t L k n)=o8 sV (bJ xs) t L k n:=by
 unfold o8
 repeat' split
 all_goals simp only[TX,MI,TZ,TV]
theorem aqF{xs:List ck}{t L k:Nat}{n:Int}:bJ (ox xs t L k n)=ox (bJ xs) t L k n:=by
 unfold ox;split<;>simp only[TZ,TV]
section
variable{xs:List ck}{t L k:Nat}{n:Int}
theorem aeK(h1:k<=L):xs=xs.take t++(xs.drop t).take k++(xs.drop (t+k)).take (L-k)++xs.drop (t+L):=by
 have e1:xs.drop (t+k)=(xs.drop (t+k)).take (L-k)++xs.drop (t+L):=by
  conv=>lhs;rw[<-AV (L-k) (xs.drop (t+k))]
  rw[vH,show t+k+(L-k)=t+L by omega]
 have e2:xs.drop t=(xs.drop t).take k++xs.drop (t+k):=by
  conv=>lhs;rw[<-AV k (xs.drop t)]
  rw[vH]
 conv=>lhs;rw[<-AV t xs,e2,e1]
 simp only[ju]
theorem agj(h:t+L<=xs.length)(h1:k<=L):(mm eQ xs t L k n).length=if 0<n then t+(L-k) else t:=by
 unfold mm
 repeat' split
 all_goals simp[ag2]
 all_goals omega
theorem auZ(h:t+L<=xs.length)(h1:k<=L):(Ak xs t L k n).length=k:=by
 unfold Ak;split<;>simp<;>omega
theorem auW(h:t+L<=xs.length)(h1:k<=L):(ox xs t L k n).length=k:=by
 unfold ox;split<;>simp<;>omega
theorem au5(h:t+L<=xs.length)(h1:k<=L)(hn:0<n):(if k<L then eQ (wK xs t (t+k) (L-k)) (t+(L-k-1)) else wK xs t (t+k) (L-k))=mm eQ xs t L k n++Ak xs t L k n++o8 eQ xs t L k n:=by
 have e1:xs.drop (t+(L-k))=(xs.drop (t+(L-k))).take k++xs.drop (t+L):=by
  conv=>lhs;rw[<-AV k (xs.drop (t+(L-k)))]
  rw[vH,show t+(L-k)+k=t+L by omega]
 have e2:wK xs t (t+k) (L-k)=(xs.take t++(xs.drop (t+k)).take (L-k))++((xs.drop (t+(L-k))).take k++xs.drop (t+L)):=by
  unfold wK;rw[<-e1]
 unfold mm Ak o8;rw[aA hn,aA hn,aA hn,e2];have hl:(xs.take t++(xs.drop (t+k)).take (L-k)).length=t+(L-k):=by simp;omega
 generalize xs.take t++(xs.drop (t+k)).take (L-k)=X at*;split
 ·rw[N9 M,ju]
 ·rw[ju]
theorem au1(h:t+L<=xs.length)(h1:k<=L)(hn:¬0<n):(if k<L then eQ (wK xs (t+k) t (L-k)) (t+(L-1)) else wK xs (t+k) t (L-k))=mm eQ xs t L k n++Ak xs t L k n++o8 eQ xs t L k n:=by
 have e2:wK xs (t+k) t (L-k)=(xs.take t++(xs.drop t).take k)++((xs.drop t).take (L-k)++xs.drop (t+L)):=by
  unfold wK;rw[List.take_add,show t+k+(L-k)=t+L by omega,ju]
 have hl:(xs.take t++(xs.drop t).take k).length=t+k:=by simp;omega
 unfold mm Ak o8;rw[ag hn,ag hn,ag hn,e2];split
 ·rename_i q
  rw[show t+(L-1)=(xs.take t++(xs.drop t).take k).length+(L-k-1) by rw[hl];omega,ag4]
 ·rfl
theorem au2{v:World}(h:t+L<=xs.length)(h1:k<=L)(ib:fX v xs):fX v (mm eQ xs t L k n++o8 eQ xs t L k n++ox xs t L k n):=by
 have hu:fX v ((xs.take t++(xs.drop (t+k)).take (L-k))++xs.drop (t+L)++(xs.drop t).take k):=by
  have e:=aeK (xs:=xs) (t:=t) h1;rw[e] at ib;refine ib.pN ?_;simp only[ju];refine A0 _ ?_;rw[<-ju ((xs.drop (t+k)).take (L-k))];exact xh
 have hd:fX v (xs.take t++((xs.drop t).take (L-k)++xs.drop (t+L))++(xs.drop (t+(L-k))).take k):=by
  have e:=aeK (xs:=xs) (t:=t) (k:=L-k) (L:=L) M;rw[show L-(L-k)=k by omega] at e;rw[e] at ib;refine ib.pN ?_;simp only[ju];refine A0 _ (A0 _ ?_);exact xh
 unfold mm o8 ox
 by_cases hn:0<n
 ·rw[aA hn,aA hn,aA hn]
  split
  ·have:=fX.eQ (j:=t+(L-k-1)) hu
   rwa[ju,N9 ej,<-ju] at this
  ·exact hu
 ·rw[ag hn,ag hn,ag hn]
  split
  ·have:=fX.eQ (j:=(xs.take t).length+(L-k-1)) hd
   rw[ju,ag4,N9 ej,<-ju] at this;exact this
  ·exact hd
end
def jQ(xs:List ck)(x:ck):Prop:=∃y∈xs,y.aB=x.aB/\y.cs=x.cs
theorem ag3{xs ys:List ck}{j:Nat}(h:∀x∈ys,jQ xs x):∀x∈eQ ys j,jQ xs x:=by
 intro x hx;rcases h8 j ys.length with q|q
 ·rcases vI hx with r|r
  ·exact h x r
  ·subst r
   obtain⟨y,hy,h1,h2⟩:=h _ (pG q);exact⟨y,hy,h1,h2⟩
 ·unfold eQ at hx
  rw[F6 q] at hx;exact h x hx
theorem au3{xs:List ck}{t L k:Nat}{n:Int}:∀x∈mm eQ xs t L k n++o8 eQ xs t L k n++ox xs t L k n,jQ xs x:=by
 have base:∀x∈xs,jQ xs x:=λx hx=>⟨x,hx,rfl,rfl⟩
 have yQ:∀{ys:List ck} {m:Nat},(∀x∈ys,jQ xs x)->∀x∈ys.take m,jQ xs x:=λh x hx=>h x (kA hx)
 have xL:∀{ys:List ck} {m:Nat},(∀x∈ys,jQ xs x)->∀x∈ys.drop m,jQ xs x:=λh x hx=>h x (ka hx)
 have xB:∀{ys df:List ck},(∀x∈ys,jQ xs x)->(∀x∈df,jQ xs x)->∀x∈ys++df,jQ xs x:=λh h' x hx=>(gi.1 hx).elim (h x) (h' x)
 refine xB (xB ?_ ?_) ?_
 ·unfold mm
  repeat' split
  ·exact ag3 (xB (yQ base) (yQ (xL base)))
  ·exact xB (yQ base) (yQ (xL base))
  ·exact yQ base
 ·unfold o8
  repeat' split
  ·exact xL base
  ·exact ag3 (xB (yQ (xL base)) (xL base))
  ·exact xB (yQ (xL base)) (xL base)
 ·unfold ox
  split
  ·exact yQ (xL base)
  ·exact yQ (xL base)
theorem jQ.dm{xs ys:List ck}(h:∀x∈ys,jQ xs x){i:Nat}(hi:dm ys i):dm xs i:=by
 obtain⟨x,hx,a,ha,e⟩:=hi;obtain⟨y,hy,h1,_⟩:=h x hx;exact⟨y,hy,a,by rw[h1];exact ha,e⟩
def qG(r:cc)(aq:dz)(q:aT):Int:=if aq.bf<0∨aq.b7<aq.bf∨(r.ab.length:Int)<=aq.b7 then 3 else if ea (ed q)=false then 2 else 0
def Fh(ab:List Li)(t L k:Nat)(n:Int)(uO:Li):List Li:=mm sV ab t L k n++List.replicate k uO++o8 sV ab t L k n
def yF(ab:List Li)(t L k:Nat)(n:Int)(uO:Li):List Li:=if 0<t then sV (Fh ab t L k n uO) (t-1) else Fh ab t L k n uO
def kW(r:cc)(aq:dz)(n:Int)(q:aT):cc:=if qG r aq q=0/\n≠0 then⟨r.ai,yF r.ab aq.bf.toNat (aq.b7+1-aq.bf).toNat (tV n (aq.b7+1-aq.bf).toNat) n ⟨List.replicate r.ai (ed q),false⟩⟩ else r
def vw(r:cc)(aq:dz)(n:Int)(q:aT):List Li:=if qG r aq q=0/\n≠0 then ox r.ab aq.bf.toNat (aq.b7+1-aq.bf).toNat (tV n (aq.b7+1-aq.bf).toNat) n else[]
section
variable{w v v':World}{g:cV}{b:Nat}{ys:List ck}
theorem Q0{c t k:Nat}:∃a,cM (cM (some ⟨b,0,none⟩) c t 2) (c-t) k 2=some a:=by
 unfold cM
 repeat' split
 all_goals exact⟨_,rfl⟩
theorem fz.cap(h:fz w v g b ys):g.xs.length<=g.c:=bF.cap h.own
theorem fz.aP{t o0 m:Nat}{a:Addr}(h:fz w v g b ys)(ht:t<g.xs.length)(Th:t+o0+m<=g.xs.length)(ha:cM (cM g.p g.c t 2) (g.c-t) o0 2=some a):DE g b a (t+o0) m:=by
 rw[h.at_] at ha;have:=h.cap;exact ak7 M M M M ha
theorem fz.row{t o0 m:Nat}(h:fz w v g b ys)(ht:t<g.xs.length)(Th:t+o0+m<=g.xs.length):Row v (cM (cM g.p g.c t 2) (g.c-t) o0 2) m 2 (dR ((ys.drop (t+o0)).take m)):=by
 have:=h.from (j:=t+o0) (m:=m) Th;exact⟨this.1,λa ha=>this.2.2 a (h.aP ht Th ha),λ_=>by rw[h.at_];exact Q0⟩
theorem ad'{n:Int}{L:Nat}(hn:n≠0)(aj:1<=L):1<=tV n L/\tV n L<=L:=by
 unfold tV;split<;>omega
theorem avT{A dw G R:List ck}{x:ck}{k:Nat}(ez:G.length=k)(hi:dw.length<k):(A++dw++G.drop dw.length++R).set (A.length+dw.length) x=A++(dw++[x])++G.drop (dw.length+1)++R:=by
 have e:G.drop dw.length=G[dw.length]'M::G.drop (dw.length+1):=mw M;have e2:(G.drop dw.length++R).set 0 x=x::(G.drop (dw.length+1)++R):=by rw[e];rfl
 rw[ju (A++dw),List.set_append_right _ _ aS,show A.length+dw.length-(A++dw).length=0 by simp,e2];simp
theorem asY(aj:Laid w)(h:dA w g){r:dz}{n:Int}{q:aT}(hn: -1000000<=n/\n<=1000000):bI Tryz.prog X.zq #[g.ptr, .agg r.T, .int .i64 n, .agg q.T] w (dY g) (A_ w g (kW g.aC r n q) (vw g.aC r n q) (qG g.aC r q)):=by
 have Hz:=D1 (g:=g);have same:∀{e:Int} {u w':World},qG g.aC r q=e->(e≠0∨n=0)->dA u g->Below u.heap.size u w'->A_ w g (kW g.aC r n q) (vw g.aC r n q) (qG g.aC r q) (.tuple #[.slice none 0 0, .int .i64 e]) w':=λhe aW hg hb=>by
  have hc:¬(qG g.aC r q=0/\n≠0):=by rw[he];rintro⟨q1,q2⟩;rcases aW with r|r;exact r q1;exact q2 r
  rw[kW,ag hc,vw,ag hc,he];exact au4 (hg.below hb)
 refine axz _ r n q λar ec aQ gA w1 hb1 fb=>(Nv (h.below hb1)).aH λad aI=>⟨_,rfl,aI.O,λe=>(nomatch e),λ_=>?_⟩
 have h2:=(h.below hb1).O aI;refine⟨λe1 w' hb _=>same XC (.inl du) h2 hb,λe1=>⟨λe2 w' hb _=>same XC (.inl du) h2 hb,λe2=>⟨_,_,_,h2.jb,λe3 w' hb _=>same XC (.inl du) h2 hb,λe3 bw bp fN=>?_⟩⟩⟩;have hk3:=((U.au hb1).trans aI).trans (U.au bp);refine(UN (Laid.O hk3 aj)).aH λbD bO=>⟨_,rfl,bO.O,λe4 w' hb _=>same (by rw[qG,ag M,aA e4]) (.inl du) ((h.O hk3).O bO) hb,λe4=>?_⟩
 have he:qG g.aC r q=0:=by rw[qG,ag M,ag (by rw[e4];simp)]
 have zE:=hk3.trans bO;have aZ:=h.O zE;refine⟨λeu w' hb _=>same he (.inr eu) aZ hb,λeu=>?_⟩;obtain⟨b,iv⟩:∃b,g.p=some ⟨b,0,none⟩:=by
  have:=h.de;rcases bF.j6 h.lines.row with⟨_,q,_⟩|⟨b,hb,_⟩
  ·omega
  ·exact⟨b,hb⟩
 have tA:=(fz.begin aj h iv).O zE;have kg:=tA.cap;have j4:=h.c1;refine⟨_,_,_,aZ.jb,by unfold ay;omega,⟨by omega,by omega,by omega⟩,?_⟩;have zu:kW g.aC r n q=⟨g.aC.ai,yF g.aC.ab r.bf.toNat (r.b7+1-r.bf).toNat (tV n (r.b7+1-r.bf).toNat) n ⟨List.replicate g.aC.ai (ed q),false⟩⟩:=by rw[kW,aA ⟨he,eu⟩]
 have wu:vw g.aC r n q=ox g.aC.ab r.bf.toNat (r.b7+1-r.bf).toNat (tV n (r.b7+1-r.bf).toNat) n:=by rw[vw,aA ⟨he,eu⟩]
 rw[zu,wu,he];clear zu wu same he;obtain⟨tp,Bl⟩:=r;simp only at*;obtain⟨t,rfl⟩:=F7 e1;simp only[jN] at*;generalize zv:(Bl+1-(t:Int)).toNat=L;have hL1:1<=L:=by omega
 have Cp:t+L<=g.xs.length:=by omega
 refine⟨λi w'=>i=(tV n L:Nat)/\fz w w' g b g.xs,⟨by unfold ay;omega,λgq=>⟨λiW=>⟨by unfold ay;omega,λw' hb=>⟨by rw[tV,aA ⟨by omega,iW⟩];omega,tA.below hb⟩⟩,λiW w' hb=>⟨by rw[tV,ag M],tA.below hb⟩⟩,λgq w' hb=>⟨by rw[tV,ag M],tA.below hb⟩⟩,?_⟩;rintro _ bP eH ⟨rfl,ob⟩;obtain⟨hk1,B8⟩:=ad' eu hL1;generalize tV n L=k at*;refine⟨by unfold ay;omega,⟨by omega,by omega,by omega⟩,?_⟩;simp only[show((L:Int)-(k:Int)).toNat=L-k by omega,show min (L-k) L=L-k by omega,show min L (L-k)=L-k by omega,show((L:Int)-((L:Int)-(k:Int))).toNat=k by omega,show((k:Int)-0).toNat=k by omega,show((L:Int)-(k:Int)-1).toNat=L-k-1 by omega,show((L:Int)-1).toNat=L-1 by omega,F8,jN];refine⟨λfG ie qy ue j5 o2 w'=>fz w w' g b (mm eQ g.xs t L k n++Ak g.xs t L k n++o8 eQ g.xs t L k n)/\j5=k/\ue=some ⟨b,(mm eQ g.xs t L k n).length*2,none⟩/\ie=k/\bF w.heap.size w' G.fg 2 fG k qy (dR (ox g.xs t L k n)),⟨λgq=>?_,λgq=>?_⟩,?_⟩
 ·have Hg:=agj (n:=n) Cp B8
  rw[aA gq] at Hg;refine⟨⟨by omega,by omega,by omega⟩,λuu B4 Sz=>?_⟩;have zj:=ob.below B4;refine(af9 (zj.row (t:=t) (o0:=0) (m:=k) M M) M).aH λv s4 x6 ⟨yy,c7,ah,tL⟩=>⟨yy,k,c7,by rw[ah],x6.O,⟨by omega,by omega,by omega⟩,⟨b,t*2,none⟩,by rw[iv];exact sa M,dR ((g.xs.drop (t+k)).take (L-k)),?_⟩
  have GK:=zj.O x6;have qq:DE g b ⟨b,t*2,none⟩ t (L-k):=⟨_,rfl,by omega,λ_=>rfl⟩;have va:=GK.from (j:=t+k) (m:=L-k) M;refine⟨⟨va.1,va.2.1,λe=>?_,λa ha=>va.2.2 a (GK.aP M M ha)⟩,⟨(GK.ch qq M).1,GK.lS (bs:=[ar,aQ]) (λi hi=>by simp at hi;omega)⟩,λky SX=>?_⟩
  ·rw[iv] at e
   obtain⟨a,ha⟩:=Q0 (b:=b) (c:=g.c) (t:=t) (k:=k);rw[ha] at e;cases e
  have K8:=GK.copy (pF:=t) (qv:=t+k) (m:=L-k) M M qq SX;have ado:=au5 (xs:=g.xs) (t:=t) (n:=n) Cp B8 gq;have HB:ox g.xs t L k n=(g.xs.drop (t+0)).take k:=by rw[ox,aA gq,AW]
  have hs5:=eH.size;have aB6:=B4.size;have H2:=tL.low (B':=w.heap.size) M;have Ck:cM (cM g.p g.c t 2) (g.c-t) (L-k) 2=some ⟨b,(mm eQ g.xs t L k n).length*2,none⟩:=by rw[iv,Q1 M,Hg]
  refine⟨λiW=>⟨by unfold ay;omega,by unfold ay;omega,⟨b,t*2,none⟩,by rw[iv];exact sa M,⟨by omega,by omega⟩,⟨K8.KN rfl M,K8.lS (bs:=[ar,aQ]) (λi hi=>by simp at hi;omega)⟩,λrQ acZ vC zy=>⟨?_,rfl,Ck,rfl,?_⟩⟩,λiW AA ab3=>⟨?_,rfl,Ck,rfl,?_⟩⟩
  ·have alf:=K8.cU rfl M acZ
   rw[<-ado,aA M];exact alf.below zy
  ·rw[HB]
   exact(H2.ax (SX.ax (F:=λi=>i=b) rfl) (λa ha e=>by have:=(tL.lt a ha).2.1;have:=zj.dT.lt (dk.sj zj.yA);omega)).ax (acZ.ax (F:=λi=>i=b) rfl) (λa ha e=>by have:=(tL.lt a ha).2.1;have:=zj.dT.lt (dk.sj zj.yA);omega)|>.below zy
  ·rw[<-ado,ag M]
   exact K8.below ab3
  ·rw[HB]
   exact(H2.ax (SX.ax (F:=λi=>i=b) rfl) (λa ha e=>by have:=(tL.lt a ha).2.1;have:=zj.dT.lt (dk.sj zj.yA);omega)).below ab3
 ·have Hg:=agj (n:=n) Cp B8
  rw[ag M] at Hg;refine⟨by unfold ay;omega,⟨by omega,by omega,by omega⟩,λnX oR Ek=>?_⟩;have zi:=ob.below oR;refine(af9 (zi.row (t:=t) (o0:=L-k) (m:=k) M M) M).aH λv l7 oT ⟨yy,c7,ah,tL⟩=>⟨yy,k,c7,by rw[ah],oT.O,⟨by omega,by omega,by omega⟩,?_⟩
  have By:=zi.O oT;obtain⟨a3,nd⟩:=Q0 (b:=b) (c:=g.c) (t:=t) (k:=k);rw[<-iv] at nd;have qq:=By.aP (t:=t) (o0:=k) (m:=L-k) M M nd;have va:=By.from (j:=t) (m:=L-k) M;refine⟨a3,nd,dR ((g.xs.drop t).take (L-k)),⟨va.1,va.2.1,λe=>?_,λa ha=>va.2.2 a (by rw[iv,sa M] at ha;cases ha;exact⟨_,rfl,by omega,λ_=>rfl⟩)⟩,⟨(By.ch qq M).1,by rw[(By.ch qq M).2];exact By.lS (bs:=[ar,aQ]) (λi hi=>by simp at hi;omega)⟩,λlK Cg=>⟨⟨by omega,by omega,by omega⟩,?_⟩⟩
  ·rw[iv,sa M] at e;cases e
  have K7:=By.copy (pF:=t+k) (qv:=t) (m:=L-k) M M qq Cg;have acf:=au1 (xs:=g.xs) (t:=t) (n:=n) Cp B8 M;have HB:ox g.xs t L k n=(g.xs.drop (t+(L-k))).take k:=by rw[ox,ag M]
  have hs5:=eH.size;have aB5:=oR.size;have H2:=tL.low (B':=w.heap.size) M;have Ck:cM (cM g.p g.c t 2) (g.c-t) 0 2=some ⟨b,(mm eQ g.xs t L k n).length*2,none⟩:=by rw[iv,Q1 M,Hg,AW]
  have LM:=(By.ch qq M).2;refine⟨λiW=>⟨by unfold ay;omega,⟨b,t*2,none⟩,by rw[iv];exact sa M,⟨by omega,by omega⟩,⟨K7.KN rfl M,K7.lS (bs:=[ar,aQ]) (λi hi=>by simp at hi;omega)⟩,λkm Er ln oS=>⟨?_,rfl,Ck,rfl,?_⟩⟩,λiW qO sn=>⟨?_,rfl,Ck,rfl,?_⟩⟩
  ·have ale:=K7.cU rfl M Er
   rw[<-acf,aA M];exact ale.below oS
  ·rw[HB]
   exact(H2.ax (Cg.ax (F:=λi=>i=b) LM) (λa ha e=>by have:=(tL.lt a ha).2.1;have:=zi.dT.lt (dk.sj zi.yA);omega)).ax (Er.ax (F:=λi=>i=b) rfl) (λa ha e=>by have:=(tL.lt a ha).2.1;have:=zi.dT.lt (dk.sj zi.yA);omega)|>.below oS
  ·rw[<-acf,ag M]
   exact K7.below sn
  ·rw[HB]
   exact(H2.ax (Cg.ax (F:=λi=>i=b) LM) (λa ha e=>by have:=(tL.lt a ha).2.1;have:=zi.dT.lt (dk.sj zi.yA);omega)).below sn
 ·rintro fG ie qy ue j5 o2 cu dK ⟨xJ,rfl,rfl,rfl,aco⟩
  have Lz:=λ(v:World) (ib:fX v g.xs)=>au2 (v:=v) (xs:=g.xs) (n:=n) Cp B8 ib
  have abU:=au3 (xs:=g.xs) (t:=t) (L:=L) (k:=ie) (n:=n);have amT:=auZ (xs:=g.xs) (n:=n) Cp B8;have LC:=auW (xs:=g.xs) (n:=n) Cp B8;have an8:=aqE (xs:=g.xs) (t:=t) (L:=L) (k:=ie) (n:=n);have an9:=aqG (xs:=g.xs) (t:=t) (L:=L) (k:=ie) (n:=n);have acD:=aqF (xs:=g.xs) (t:=t) (L:=L) (k:=ie) (n:=n);have an_:=xJ.len;generalize mm eQ g.xs t L ie n=A at*;generalize o8 eQ g.xs t L ie n=R at*;generalize Ak g.xs t L ie n=S at*;generalize ox g.xs t L ie n=gone at*;have hlen:A.length+ie+R.length=g.xs.length:=by simp at an_;omega
  have Ev:=dK.size;have hbw:b<w.heap.size:=h.lt (dk.sj xJ.yA);have ani:(g.aC.ai)=g.ai:=rfl;have mg:=h.c2;refine⟨λi w'=>∃dw:List ck,i=dw.length/\dw.length<=ie/\cu.heap.size<=w'.heap.size/\fz w w' g b (A++dw++S.drop dw.length++R)/\fX w' dw/\(∀i,dm dw i->cu.heap.size<=i)/\bJ dw=List.replicate dw.length ⟨List.replicate g.ai (ed q),false⟩/\bF w.heap.size w' G.fg 2 fG ie qy (dR gone),λi=>((ie:Int)-i).toNat,λw' hb=>⟨[],rfl,by simp,hb.size,by simpa using xJ.below hb,fX.nil,λi hi=>absurd hi dm.nil,rfl,aco.below hb⟩,?_⟩;rintro i w7 e_ ⟨dw,rfl,Cb,abK,oc,RJ,LB,HQ,kt⟩;refine⟨λhi=>⟨_,oc.iV,λhC fs rl=>?_⟩,λhi=>?_⟩
  ·have aaG:=oc.below fs
   refine(afK (p:=q) (n:=g.ai) aaG.laid M).aH λv kl iZ ⟨x,ah,hx,sC,lZ⟩=>⟨x.iK,by rw[ah],iZ.O,⟨b,A.length*2,none⟩,rfl,⟨by omega,hi⟩,?_⟩
   have Q5:=aaG.O iZ;simp only[jN];refine⟨⟨Q5.KN (j:=A.length) rfl M,Q5.lS (bs:=[ar,aQ]) (λi hi=>by simp at hi;omega)⟩,λjy pB=>⟨by unfold ay;omega,λk2 py=>⟨⟨dw++[x],by simp,by simp;omega,by have:=fs.size;have:=iZ.size;have:=pB.size;have:=py.size;omega,?_,?_,?_,?_,?_⟩,by omega⟩⟩⟩
   ·have aaH:=Q5.head (j:=A.length) (k:=dw.length) rfl M pB
    rw[avT amT M] at aaH;have:=aaH.below py;rw[show(dw++[x]).length=dw.length+1 by simp];exact this
   ·have hs7:=fs.size
    have wH:U (λi=>i=b) kl jy:=pB.ax rfl;have e1:fX jy dw:=((RJ.ax (U.au fs) λ_ e=>e.elim).ax iZ λ_ e=>e.elim).ax wH λi hi hl=>by have:=LB i hl;omega
    have e2:fX jy [x]:=(fX.cw sC).ax wH λi hi hl=>by have:=lZ i hl;have:=oc.tX.size;omega
    exact(e1.append e2 λi h1 h2=>by have:=RJ.lt h1;have:=lZ i h2;omega).ax (U.au py) λ_ e=>e.elim
   ·intro i hi
    rcases dm.append.1 hi with r|r
    ·exact LB i r
    ·have:=lZ i r
     have:=fs.size;omega
   ·rw[EM,HQ,hx,show(dw++[x]).length=dw.length+1 by simp,List.replicate_succ']
   ·exact(((kt.below fs).O iZ).ax (pB.ax (F:=λi=>i=b) rfl) (λa ha e=>by have:=(kt.lt a ha).2.1;omega)).below py
  ·have Ca:dw.length=ie:=by omega
   have Hv:S.drop dw.length=[]:=XP M;rw[Hv,nx] at oc;have HU:g.aC.ab=bJ g.xs:=rfl;have acG:∀{i:Nat},dm g.xs i->i<w.heap.size:=λhi=>h.lt (.inr (.inr hi))
   have abN:fX w7 (A++dw++R++gone):=by
    have h1:=Lz w7 oc.eG;have h2:=h1.append RJ λi h1 h2=>by have:=acG (jQ.dm abU h1);have:=LB i h2;omega
    refine h2.pN ?_;simp only[ju];refine A0 _ ?_;rw[<-ju];exact xh
   have Hi:∀x∈A++R++gone,jQ g.xs x:=abU;have ev:∀i,dm (A++dw++R) i->dm g.xs i∨cu.heap.size<=i:=λi hi=>by
    rcases dm.append.1 hi with r|r
    ·rcases dm.append.1 r with r|r
     ·exact .inl (jQ.dm Hi (dm.append.2 (.inl (dm.append.2 (.inl r)))))
     ·exact .inr (LB i r)
    ·exact .inl (jQ.dm Hi (dm.append.2 (.inl (dm.append.2 (.inr r)))))
   have qo:∀i,dm gone i->dm g.xs i:=λi hi=>jQ.dm Hi (dm.append.2 (.inr hi))
   have wE:∀x∈A++dw++R,x.cs.length=g.ai:=λx hx=>by
    have qw:jQ g.xs x->x.cs.length=g.ai:=λ⟨y,hy,_,e⟩=>by rw[<-e];exact h.oA y hy
    rcases gi.1 hx with r|r
    ·rcases gi.1 r with r|r
     ·exact qw (Hi x (pd _ (pd _ r)))
     ·have:x.jT∈bJ dw:=lr.2 ⟨x,r,rfl⟩
      rw[HQ] at this;have:=dx Li.cs (JV this);have:x.cs=List.replicate g.ai (ed q):=this;rw[this,n3]
    ·exact qw (Hi x (pd _ (vJ _ r)))
   have hd:∀a,fG=some a->¬dm (A++dw++R) a.block:=λa ha hi=>by
    have h1:=aco.lt a ha;rcases ev _ hi with r|r
    ·have:=acG r;omega
    ·omega
   have acE:bJ (A++dw++R)=Fh g.aC.ab t L ie n ⟨List.replicate g.aC.ai (ed q),false⟩:=by
    rw[MI,MI,an8,HQ,an9,Ca];rfl
   have ab0:(A++dw++R).length=g.xs.length:=by simp;omega
   refine⟨λaW=>⟨_,_,_,oc.jb,by unfold ay;omega,⟨b,0,none⟩,iv,⟨by omega,by omega⟩,⟨oc.KN (j:=0) aS M,oc.lS (bs:=[ar,aQ]) (λi hi=>by simp at hi;omega)⟩,λcR mF w' hb _=>?_⟩,λaW w' hb _=>?_⟩
   ·rw[show((t:Int)-1).toNat=t-1 by omega] at mF
    have re:=(oc.cU (j:=0) (k:=t-1) aS M mF).below hb;rw[iR] at re;have gI:U (λi=>i=b) w7 w':=(mF.ax (F:=λi=>i=b) rfl).trans ((U.au hb).mono λ_ e=>e.elim);have LL:¬dm (A++dw++R++gone) b:=λhi=>by
     have hx:dm g.xs b∨cu.heap.size<=b:=(dm.append.1 hi).elim (ev b) λr=> .inl (qo b r)
     rcases hx with r|r
     ·exact h.lines.off _ iv r
     ·omega
    have amG:fX w' (eQ (A++dw++R) (t-1)++gone):=by
     rw[<-N9 M];exact(abN.ax gI λi hi hl=>LL XJ).eQ
    have:=agl (c3:=qy) re (by rw[ag2,ab0]) amG (λi hi=>(ev i (dm.eQ hi)).elim .inl λr=> .inr M) qo aj (by rw[LC];exact kt.ax gI λa ha e=>by have:=(kt.lt a ha).2.1;omega) (λa ha hi=>hd a ha (dm.eQ hi)) (λx hx=>by
     rcases vI hx with r|r
     ·exact wE x r
     ·subst r
      exact wE (bb (A++dw++R) (t-1)) (pG M))
    rw[LC,acD,TX,acE] at this;rw[yF,aA M];exact this
   ·have:=agl (c3:=qy) (oc.below hb) ab0 (abN.ax (U.au hb) λ_ e=>e.elim) (λi hi=>(ev i hi).elim .inl λr=> .inr M) qo aj (by rw[LC];exact kt.below hb) hd wE
    rw[LC,acD,acE] at this;rw[yF,ag M];exact this
end
end Go.Proofs.YtimbpmnbbfeogaaGreatDoor
