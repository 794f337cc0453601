/- A part of the proof of EvictCounts. -/
import Derived.Test.YtjhhiindeignaaaGreatDoorGE
import Derived.KernelRfl
import Derived.JoinedOf
set_option linter.unusedVariables false
set_option linter.unusedSimpArgs false
set_option linter.unusedSectionVars false
namespace Go.Proofs.YtjhhiindeignaaaGreatDoor
open Go Go.RowKit Go.Sy Go.Rep
set_option maxRecDepth 100000
set_option maxHeartbeats 1000000
def runE (bs:List Int) (q:Sq):Sq:=bs.foldl (fun q r=>easyD r q) q
theorem runE_take {l:List Int} {q:Sq} {i:Nat} {x:Int} (h:l[i]? =some x):runE (l.take (i+1)) q=easyD x (runE (l.take i) q):=by
 rw[List.take_add_one,h]
 simp[runE,List.foldl_append]
theorem feedS_ok {N:Nat} {q:Sq} {r:Int} (h:SqOk N q):SqOk (N+1000) (feedS r q):=by
 unfold feedS
 split
 ·exact indexQ_ok h
 ·exact(setCu_ok h (zeroCu_ok h)).more (by omega)
theorem easyS_ok {N:Nat} {q:Sq} {r:Int} (h:SqOk N q):SqOk (N+1000) (easyS r q):=by
 unfold easyS
 split
 ·exact printQ_ok h
 ·exact feedS_ok h
theorem easyD_ok {N:Nat} {q:Sq} {r:Int} (h:SqOk N q):SqOk (N+1000) (easyD r q):={easyS_ok (r:=r) h with}
theorem easyS_pu {N:Nat} {q:Sq} {r:Int} (h:SqOk N q) (hp:q.pushed=0):PuOk (easyS r q):=by
 unfold easyS feedS
 split
 ·exact printQ_pu h hp
 ·split
  ·exact indexQ_pu h hp
  ·exact .of hp
section
variable {w0 w w' w1:World} {F0:Nat→Prop} {bs:List Nat} {o o':Ob} {l1 l2:List Ob} {R:Ending→World→Prop} {f:FuncId} {args:Array Value} {s s':Sx} {t t':Tx}
theorem r_easy_write {N:Nat} {p:Option Addr} {n c:Nat} {by_:List Int} (hL:Laid w) (h:(TmO t).P w) (ok:SqOk N t.sx.sq) (h0:Ps0 t.ps) (hp:t.sx.pushed=0) (hvb:t.vw.back=0) (hr:Row w p n 1 (bvals by_)) (hl:by_.length=n) (hn:n≤1048576) (hoff:∀a,p=some a→¬(TmO t).F a.block) (hN:N+1000*(n+1)≤4611686018427387904) (he:∀x∈by_,Easy x):
  Gets Tryz.prog X.term_Write #[t.ptr, .slice p n c] w (TmO t).F (fun v w'=>(∃k,v= .tuple #[.int .i64 k, .int .i64 0])∧ModO TmO w t (fun t'=>t'.b=t.b∧Ps0 t'.ps∧t'.vw.back=0∧t'.vw.rows=t.vw.rows∧t'.sx.sq=runE by_ t.sx.sq∧t'.sx.pushed=0∧SqOk (N+1000*n) t'.sx.sq) w'):=by
 have s0:=OS.start (bs:=[]) hL h (by simp)
 refine v_term_Write _ p n c fun w1 hb1=>(s0.below hb1).ret (fun a b=>r_term_zero b a) fun w2 s2 k2=>⟨_,rfl,k2.nix,fun e=>(nomatch e),fun _=>⟨_,TmO.cell s2 0 rfl,fun w3 hb3=>?_⟩⟩
 have s3:=s2.below hb3
 have hr3:Row w3 p n 1 (bvals by_):=Row.keeps hr s3.kept hoff
 refine OS.call (o:=Ob.ps t.pb t.ps) [] [Ob.vw t.vw,Ob.blk t.b T.term_Term t.cells,SsO t.sx] s3 (by simp) (fun a b=>(r_easy_Write b a h0 hr3 hl hn (fun ad e hb=>hoff ad e ⟨Ob.ps t.pb t.ps,by simp, .inl hb⟩) he).mono (fun i hi=> .inl hi) fun _ _ _ e=>e) fun v w4 ⟨⟨pa,ca,xs,hv,hx,hA⟩,s',h0',hP,hF⟩ hs=>?_
 subst hv
 have hxl:xs.length=n:=by have:=congrArg List.length hx;simpa[hl] using this
 have hxl':(by_.map easyA).length=xs.length:=by rw[List.length_map,hxl,hl]
 have hY3:Y.count≤w3.heap.size:=s3.laid.size
 have hA':Acts w4 Y.count pa xs.length ca xs:=by
  rw[hxl'] at hA
  exact⟨hA.row.low hY3,fun x hx=>(hA.par x hx).low hY3,hA.off⟩
 obtain⟨s4,k4⟩:=hs (Ob.psA t.pb s' pa ca xs) ⟨hP,hA'⟩ fun i hi=>by
  rcases hi with hi|⟨a,ha,rfl⟩|⟨x,hx,a,ha,rfl⟩
  ·exact hF i hi
  ·exact .inr (hA.row.lt a ha).2.1
  ·exact .inr ((hA.par x hx).lt a ha).2.1
 refine⟨pa,_,ca,rfl,k4,fun i1 i2 V=>0≤i2∧i2≤n∧0≤i1∧i1≤1000*i2∧∃sx vw,sx.b=t.sx.b∧vw.b=t.vw.b∧vw.back=0∧vw.rows=t.vw.rows∧SqOk (N+1000*i2.toNat) sx.sq∧sx.pushed=0∧sx.sq=runE (by_.take i2.toNat) t.sx.sq∧OS w (TmO t).F [] (Ob.sep [Ob.psA t.pb s' pa ca xs,Ob.vw vw,Ob.blk t.b T.term_Term t.cells,SsO sx]) V,fun i1 i2=>((n:Int)-i2).toNat,fun V hb=>⟨by omega,by omega,by omega,by omega,t.sx,t.vw,rfl,rfl,hvb,rfl,ok,hp,rfl,s4.below hb⟩,?_⟩
 rintro i1 i2 w5 _ ⟨a0,a1,b0,b1,sx,vw,hsb,hvb',hvb0,hvr,ok5,hp5,hrun,s5⟩
 rw[hxl',hxl]
 refine⟨fun hi=>?_,fun hi w' hb _=>?_⟩
 ·obtain⟨x,hxk⟩:∃x,xs[i2.toNat]? =some x:=⟨_,List.getElem?_eq_getElem (by omega)⟩
  obtain⟨y,hyk⟩:∃y,by_[i2.toNat]? =some y:=⟨_,List.getElem?_eq_getElem (by omega)⟩
  have hxm:x∈xs:=List.mem_of_getElem? hxk
  have hq5:x.q=easyA y:=by
   have:=congrArg (fun l:List Aq=>l[i2.toNat]?) hx
   simp only[List.getElem?_map,hxk,hyk,Option.map_some] at this
   exact Option.some.inj this
  have hey:Easy y:=he y (List.mem_of_getElem? hyk)
  have psA:=(OS.get [] [Ob.vw vw,Ob.blk t.b T.term_Term t.cells,SsO sx] s5).2
  have hrow:=Own.row psA.row
  obtain⟨ad,ead⟩:=hrow.some_ (by omega)
  refine⟨ad,ead,⟨a0,hi⟩,x.ac,hrow.at_ ead (i2.toNat*6) (avals_at hxk),fun n3 g3=>?_⟩
  have hcell:∀{V:World} {bs:List Nat} {sx:Sx} {vw:Vw} {k:Nat} {us:List Value},OS w (TmO t).F bs (Ob.sep [Ob.psA t.pb s' pa ca xs,Ob.vw vw,Ob.blk t.b T.term_Term t.cells,SsO sx]) V→us=(t.cells.drop k).take us.length→At V ⟨t.b,0,none⟩ k us:=fun{V bs sx vw k us} hV hu=>OS.cells [Ob.psA t.pb s' pa ca xs,Ob.vw vw] [SsO sx] hV (show 3≤maxLen by decide) hu
  refine⟨_,hcell s5 (k:=1) rfl,fun w7 hb7 hm7=>?_⟩
  have s7:=(s5.more g3).below hb7
  have hptr:sx.ptr=t.sx.ptr:=by unfold Sx.ptr;rw[hsb]
  have hDo:Gets Tryz.prog X.screen_Do #[.pointer (some ⟨t.sx.b,0,none⟩), .agg x.ac.arr] w7 (SsO sx).F (fun v w'=>v= .tuple #[.int .i64 (easyS y sx.sq).pushed, .int .i64 0]∧ModO SsO w7 sx (fun s'=>s'.b=sx.b∧s'.sq=easyD y sx.sq) w'):=by
   have:=r_easy_Do (s:=sx) (x:=x) s7.laid (OS.get [Ob.psA t.pb s' pa ca xs,Ob.vw vw,Ob.blk t.b T.term_Term t.cells] [] s7) ok5 (by omega) hp5 hq5 hey
   rw[hptr] at this
   exact this
  refine OS.call (o:=SsO sx) [Ob.psA t.pb s' pa ca xs,Ob.vw vw,Ob.blk t.b T.term_Term t.cells] [] s7 (Mine.all hm7) (fun a b=>hDo) fun v w8 ⟨hv8,sx2,⟨f1,f2⟩,fP,fF⟩ hs8=>?_
  obtain⟨s8,k8⟩:=hs8 (SsO sx2) fP fF
  subst hv8
  have hpu:=easyS_pu (r:=y) ok5 hp5
  have e0:((easyS y sx.sq).pushed.toNat:Int)=(easyS y sx.sq).pushed:=by have:=hpu.1;omega
  refine⟨_,_,rfl,k8,fun e=>absurd rfl e,fun _=>⟨by have:=hpu.1;have:=hpu.2;unfold I64;omega,fun w9 hb9 hm9=>?_⟩⟩
  have s9:=s8.below hb9
  have hsb2:sx2.b=t.sx.b:=f1.trans hsb
  have hcl:({t with sx:=sx2,vw:=vw}:Tx).cells=t.cells:=by
   show[_,sx2.ptr,vw.ptr]=[_,t.sx.ptr,t.vw.ptr]
   unfold Sx.ptr Vw.ptr
   rw[hsb2,hvb']
  have s9':OS w (TmO t).F ([]++[n3]) (Ob.sep ([Ob.psA t.pb s' pa ca xs]++[Ob.vw vw,Ob.blk t.b T.term_Term ({t with sx:=sx2,vw:=vw}:Tx).cells,SsO sx2])) w9:=by
   rw[hcl]
   exact s9
  rw[←e0]
  refine OS.callT (Qv:=fun v _ l2'=>v= .int .i64 0∧l2'=[Ob.vw ⟨vw.b,vw.rows,followB vw.back (easyS y sx.sq).pushed.toNat sx2.sq⟩,Ob.blk t.b T.term_Term ({t with sx:=sx2,vw:=vw}:Tx).cells,SsO sx2]) [Ob.psA t.pb s' pa ca xs] s9' (Mine.all hm9) (fun a b=>(r_term_follow (t:={t with sx:=sx2,vw:=vw}) (k:=(easyS y sx.sq).pushed.toNat) b a).mono (fun _ e=>e) fun v V _ ⟨hv,t',et,hP,hF⟩=>⟨_,⟨hv,rfl⟩,?_,?_⟩) fun v w10 l2' ⟨hv,hl2⟩ s10 k10=>?_
  ·subst et
   exact hP
  ·subst et
   exact hF
  ·subst hl2 hv
   rw[hcl] at s10
   refine⟨_,rfl,k10,fun e=>absurd rfl e,fun _=>⟨by unfold I64;omega,fun w11 hb11=>⟨⟨by omega,by omega,by have:=hpu.1;omega,by have:=hpu.2;omega,sx2,⟨vw.b,vw.rows,followB vw.back (easyS y sx.sq).pushed.toNat sx2.sq⟩,hsb2,hvb',?_,hvr,?_,?_,?_,(s10.below hb11).free⟩,by show((n:Int)-(i2+1)).toNat<((n:Int)-i2).toNat;omega⟩⟩⟩
   ·show followB vw.back _ _=0
    rw[followB,if_pos hvb0]
   ·rw[f2,show(i2+1).toNat=i2.toNat+1 by omega]
    exact(easyD_ok ok5).more (by omega)
   ·have:sx2.sq.pushed=0:=by rw[f2];rfl
    exact this
   ·rw[show(i2+1).toNat=i2.toNat+1 by omega,runE_take hyk,←hrun,f2]
 ·have e2:i2.toNat=n:=by omega
  refine⟨⟨_,rfl⟩,?_⟩
  have hcl:({t with sx:=sx,vw:=vw,ps:=s'}:Tx).cells=t.cells:=by
   show[_,sx.ptr,vw.ptr]=[_,t.sx.ptr,t.vw.ptr]
   unfold Sx.ptr Vw.ptr
   rw[hsb,hvb']
  have sE:=s5.below hb
  have hP:(TmO {t with sx:=sx,vw:=vw,ps:=s'}).P w':=by
   unfold TmO
   rw[hcl]
   obtain⟨p1,p2,p3⟩:=(Ob.sep_app (l1:=[Ob.psA t.pb s' pa ca xs]) (l2:=[Ob.vw vw,Ob.blk t.b T.term_Term t.cells,SsO sx])).1 sE.at_
   exact(Ob.sep_app (l1:=[Ob.ps t.pb s']) (l2:=[Ob.vw vw,Ob.blk t.b T.term_Term t.cells,SsO sx])).2 ⟨Ob.sep_one.2 (Ob.sep_one.1 p1).1,p2,fun i hi hf=>p3 i (Ob.sepF_one.2 (.inl (Ob.sepF_one.1 hi))) hf⟩
  have sF:OS w (TmO t).F [] (TmO {t with sx:=sx,vw:=vw,ps:=s'}) w':=sE.conv hP fun i hi=>by
   rcases(Ob.sepF_app (l1:=[Ob.ps t.pb s']) (l2:=[Ob.vw vw,Ob.blk t.b T.term_Term ({t with sx:=sx,vw:=vw,ps:=s'}:Tx).cells,SsO sx])).1 hi with q|q
   ·exact(Ob.sepF_app (l1:=[Ob.psA t.pb s' pa ca xs]) (l2:=[Ob.vw vw,Ob.blk t.b T.term_Term t.cells,SsO sx])).2 (.inl (Ob.sepF_one.2 (.inl (Ob.sepF_one.1 q))))
   ·exact(Ob.sepF_app (l1:=[Ob.psA t.pb s' pa ca xs]) (l2:=[Ob.vw vw,Ob.blk t.b T.term_Term t.cells,SsO sx])).2 (.inr (by rw[hcl] at q;exact q))
  refine OS.fin sF ⟨rfl,h0',hvb0,hvr,?_,hp5,?_⟩
  ·show sx.sq=_
   rw[hrun,e2,List.take_of_length_le (by omega)]
  ·show SqOk _ sx.sq
   rw[←e2]
   exact ok5
end
end Go.Proofs.YtjhhiindeignaaaGreatDoor
namespace Go.Proofs.YtjhhiindeignaaaGreatDoor
open Go Go.RowKit Go.Sy Go.Rep
set_option maxRecDepth 100000
set_option maxHeartbeats 1000000
structure Sm where
 (lines:List Li) (cols first back hist:Int) (cu:Cu) (md:Md) (pen:Pn) (title:List UInt8)
def snapN (q:Tq):Nat:=(clampI q.back (histLen q.sq.hv)).toNat
def snapQ (q:Tq):Sm:=⟨linesV q.rows (snapN q) q.sq.hv (Pv.grid q.sq.pv).ls,q.sq.cols,(q.sq.hv.next:Int)-snapN q,q.back,histLen q.sq.hv,q.sq.cu,q.sq.md,q.sq.pen,q.sq.title⟩
def Sm.sn (m:Sm) (l:Sl):Sn:=⟨l,m.cols,m.first,m.back,m.hist,m.cu,m.md,m.pen,m.title⟩
def NewSn (w0:World) (m:Sm) (v:Value) (w:World):Prop:=∃p c ys,v= .agg (m.sn ⟨p,ys.length,c⟩).arr∧Lines w p ys.length c ys∧lis ys=m.lines∧∀i,LsF p ys i→w0.heap.size≤i
section
variable {w0 w w' w1:World} {F0:Nat→Prop} {bs:List Nat} {o o':Ob} {l1 l2:List Ob} {R:Ending→World→Prop} {f:FuncId} {args:Array Value} {s s':Sx} {t t':Tx}
theorem r_term_Snapshot {N:Nat} (hL:Laid w) (h:(TmO t).P w) (ok:TqOk N t.tq):Gets Tryz.prog X.term_Snapshot #[t.ptr] w Nix (NewSn w (snapQ t.tq)):=by
 refine v_term_Snapshot _ fun n1 g1 w1 hb1 hm1=>?_
 have s0:=OS.start (bs:=[n1]) hL h (by simpa using g1)
 have hrl:((Pv.grid t.sx.sq.pv).ls.length:Int)=t.sx.sq.rows:=ok.sq.grid.r
 have hrows:(Pv.grid t.sx.sq.pv).ls.length=t.vw.rows:=by have h1:(t.vw.rows:Int)=t.sx.sq.rows:=ok.rows;omega
 refine(s0.below hb1).ret (fun a b=>r_term_zero b a) fun w2 s2 k2=>⟨_,rfl,k2.nix,fun e=>(nomatch e),fun _=>⟨_,TmO.cell s2 1 rfl,fun w3 hb3 hm3=>?_⟩⟩
 have s3:=s2.below hb3
 refine(r_screen_History s3.laid (TmO.sx s3)).runs fun v w4 k4 ⟨h',hv,q1,q2,q3⟩=>?_
 subst hv
 have s4:=s3.nix k4
 refine⟨_,rfl,k4.nix,_,TmO.cell s4 2 rfl,_,TmO.cell s4 1 rfl,fun w5 hb5 hm5=>?_⟩
 have s5:=s4.below hb5
 have q25:=q2.below hb5
 refine(r_screen_Lines s5.laid (TmO.sx s5) ok.sq).runs fun v w6 k6 ⟨p,c,xs,hv,e1,e2,e3⟩=>?_
 subst hv
 have s6:=s5.nix k6
 rw[hrows] at e2⊢
 refine⟨_,_,_,rfl,k6.nix,TmO.cell s6 2 rfl,fun w7 hb7 hm7=>?_⟩
 have s7:=s6.below hb7
 have q27:=(q25.nix k6).below hb7
 have hw:∀x∈xs,x.cs.length≤1000:=by
  intro x hx
  have hm:x.li∈(Pv.grid t.sx.sq.pv).ls:=by rw[←e1];exact List.mem_map.2 ⟨x,hx,rfl⟩
  exact((okL_iff _).1 (ok.sq.grid.ok _ hm).2).1
 refine(r_view_Lines s7.laid (TmO.vw s7) q27 (e2.nix (Keeps.of_below hb7)) hw).runs fun v w8 k8 ⟨q,d,ys,n,hn,hv,f1,f2,f3⟩=>?_
 subst hv
 have s8:=s7.nix k8
 have q28:=q27.nix k8
 have hz:w.heap.size≤w7.heap.size:=s7.kept.size
 have hnn:n=snapN t.tq:=by
  rw[q1] at hn
  have hn':(n:Int)=clampI t.vw.back (histLen t.sx.sq.hv):=hn
  show n=(clampI t.vw.back (histLen t.sx.sq.hv)).toNat
  omega
 refine⟨_,_,_,_,_,rfl,k8.nix,_,TmO.cell s8 1 rfl,_,TmO.cell s8 2 rfl,_,TmO.cell s8 1 rfl,_,TmO.cell s8 1 rfl,_,TmO.cell s8 1 rfl,_,TmO.cell s8 1 rfl,fun w9 hb9 hm9=>(s8.below hb9).ret (fun a b=>r_screen_Cols b (TmO.sx (s8.below hb9))) fun w10 s10 k10=>⟨_,rfl,k10.nix,TmO.cell s10 1 rfl,TmO.cell s10 1 rfl,TmO.cell s10 1 rfl,TmO.cell s10 1 rfl,TmO.cell s10 2 rfl,fun w11 hb11 hm11=>(s10.below hb11).ret (fun a b=>r_view_Back (TmO.vw (s10.below hb11))) fun w12 s12 k12=>⟨_,rfl,k12.nix,TmO.cell s12 1 rfl,TmO.cell s12 1 rfl,TmO.cell s12 1 rfl,TmO.cell s12 1 rfl,fun w13 hb13 hm13=>?_⟩⟩⟩
 have s13:=s12.below hb13
 have kk:=((((Keeps.of_below hb9).trans k10).trans (Keeps.of_below hb11)).trans k12).trans (Keeps.of_below hb13)
 refine s13.ret (fun a b=>r_history_Len (q28.nix kk)) fun w14 s14 k14=>⟨_,rfl,k14.nix,TmO.cell s14 1 rfl,TmO.cell s14 1 rfl,TmO.cell s14 1 rfl,TmO.cell s14 1 rfl,fun w15 hb15 hm15=>(s14.below hb15).ret (fun a b=>r_screen_Cursor b (TmO.sx (s14.below hb15))) fun w16 s16 k16=>⟨t.sx.cu,rfl,k16.nix,TmO.cell s16 1 rfl,TmO.cell s16 1 rfl,TmO.cell s16 1 rfl,fun w17 hb17 hm17=>(s16.below hb17).ret (fun a b=>r_screen_Modes b (TmO.sx (s16.below hb17))) fun w18 s18 k18=>⟨t.sx.md,rfl,k18.nix,TmO.cell s18 1 rfl,TmO.cell s18 1 rfl,fun w19 hb19 hm19=>(s18.below hb19).ret (fun a b=>r_screen_Pen b (TmO.sx (s18.below hb19))) fun w20 s20 k20=>⟨t.sx.pen,rfl,k20.nix,TmO.cell s20 1 rfl,fun w21 hb21 hm21=>(s20.below hb21).ret (fun a b=>r_screen_Title b (TmO.sx (s20.below hb21))) fun w22 s22 k22=>⟨_,rfl,k22.nix,fun w' he hkE=>?_⟩⟩⟩⟩⟩
 have k2':Keeps Nix w8 w22:=((((((((kk.trans k14).trans (Keeps.of_below hb15)).trans k16).trans (Keeps.of_below hb17)).trans k18).trans (Keeps.of_below hb19)).trans k20).trans (Keeps.of_below hb21)).trans k22
 refine⟨q,d,ys,?_,?_,?_,fun i hi=>Nat.le_trans hz (f3 i hi)⟩
 ·show _=Value.agg #[_,_,_,_,_,_,_,_,_,_,_,_,_,_,_,_,_,_,_,_,_,_,_,_,_,_,_,_,_]
  have a1:(h'.r.next:Int)-n=(snapQ t.tq).first:=by
   have:=congrArg Rg'.next q1
   show _=(t.sx.hi.r.rg.next:Int)-snapN t.tq
   rw[←hnn]
   have h2:h'.r.next=t.sx.hi.r.rg.next:=this
   rw[h2]
  have a2:(h'.r.next:Int)-h'.r.first=(snapQ t.tq).hist:=by
   show histLen h'.r.rg=histLen t.sx.hi.r.rg
   rw[q1]
  rw[a1,a2]
  rfl
 ·exact(f1.nix k2').keeps (Go.Proofs.YtjhhiindeignaaaGreatDoor.Ext.keeps he) fun i hi hf=>by
   have:=f3 i hf
   have hn1:n1<w7.heap.size:=Mine.all hm7 n1 (by simp)
   have:i=n1:=by simpa using hi
   omega
 ·rw[f2,e1,q1,hnn]
  rfl
end
end Go.Proofs.YtjhhiindeignaaaGreatDoor
namespace Go.Proofs.YtjhhiindeignaaaGreatDoor
open Go Go.RowKit Go.Sy Go.Rep
set_option maxRecDepth 100000
theorem v_scrollbacklaw37_there {w0:World} {F:Nat→Prop} {Q:Value→World→Prop} (t:Addr) (want:Ev) (no:Int) (h:∀n1:Nat,(w0.heap.size≤n1)→∀w1:World,(Below w0.heap.size w0 w1)→(Mine w1 w0.heap.size [(n1,T.Eviction)])→Runs Tryz.prog X.evict_Of #[(.pointer (some t))] w1 (fun e1 w2=>∃ev1:Ev,∃i1:Int,(e1=(.returned (.tuple #[(.agg #[(.int .i64 ev1.first),(.int .i64 ev1.scr),(.int .i64 ev1.next)]),(.int .i64 i1)])))∧((Kept w0.heap.size F [n1] w1 w2)∧∀n2:Nat,(w2.heap.size≤n2)→∃b1:Bool,(∀w5:World,(Op.equal T.Eviction (.agg #[(.int .i64 ev1.first),(.int .i64 ev1.scr),(.int .i64 ev1.next)]) (.agg #[(.int .i64 want.first),(.int .i64 want.scr),(.int .i64 want.next)])).run (Tryz.prog) w5= .ok b1 w5)∧(((b1=true)→Fin w0 F w2 Q (.bool (BE.val (.eq i1 no))))∧((b1=false)→Fin w0 F w2 Q (.bool false)))))):Gets Tryz.prog X.scrollbacklaw37_there #[(.pointer (some t)),(.agg #[(.int .i64 want.first),(.int .i64 want.scr),(.int .i64 want.next)]),(.int .i64 no)] w0 F Q:=
 func_run mixed [] [] X.scrollbacklaw37_there [SV.adr t 0,SV.agg (Ev.cod.enc want),SV.int IntKind.i64 no] ⟨by trivial,okA _ _,by trivial,trivial⟩ (by kernel_rfl) (by kernel_rfl) h
theorem v_scrollbacklaw37_kept {w0:World} {F:Nat→Prop} {Q:Value→World→Prop} (t:Addr) (pl:Option Addr) (nl:Nat) (cl:Nat) (no:Int) (pwant:Option Addr) (nwant:Nat) (cwant:Nat) (h:∀w1:World,(Below w0.heap.size w0 w1)→Runs Tryz.prog X.evict_Kept #[(.pointer (some t)),(.slice pl nl cl)] w1 (fun e1 w2=>∃p1:Option Addr,∃n1 n2:Nat,∃i1:Int,(e1=(.returned (.tuple #[(.slice p1 n1 n2),(.int .i64 i1)])))∧((Kept w0.heap.size F [] w1 w2)∧∀w3:World,(Below w2.heap.size w2 w3)→Runs Tryz.prog X.scrollbackref37_Same #[(.slice p1 n1 n2),(.slice pwant nwant cwant)] w3 (fun e2 w4=>∃b1:Bool,(e2=(.returned (.bool b1)))∧((Kept w0.heap.size F [] w3 w4)∧(((b1=true)→Fin w0 F w4 Q (.bool (BE.val (.eq i1 no))))∧((b1=false)→Fin w0 F w4 Q (.bool false)))))))):Gets Tryz.prog X.scrollbacklaw37_kept #[(.pointer (some t)),(.slice pl nl cl),(.int .i64 no),(.slice pwant nwant cwant)] w0 F Q:=
 func_run mixed [] [] X.scrollbacklaw37_kept [SV.adr t 0,SV.sl pl nl cl,SV.int IntKind.i64 no,SV.sl pwant nwant cwant] ⟨by trivial,by trivial,by trivial,by trivial,trivial⟩ (by kernel_rfl) (by kernel_rfl) h
theorem v_scrollbacklaw37_rows {w0:World} {F:Nat→Prop} {Q:Value→World→Prop} (pl:Option Addr) (nl:Nat) (cl:Nat) (h:∃I1:Option Addr→Nat→Nat→Int→World→Prop,∃I2:Option Addr→Nat→Nat→Int→Nat,(∀w15:World,(Below w0.heap.size w0 w15)→I1 none 0 0 0 w15)∧∀p1:Option Addr,∀n1 n2:Nat,∀i1:Int,∀w1:World,(Keeps F w0 w1)→(I1 p1 n1 n2 i1 w1)→((i1<(nl:Int))→∃a1:Addr,(pl=(some a1))∧((((0:Int)≤i1)∧(i1<(nl:Int)))∧∃s1:List UInt8,(At w1 a1 ((Int.toNat i1)*1) [(.string ⟨s1.toArray⟩)])∧((((0:Int)<((s1.length):Int))→(I64 (((s1.length):Int)-1))∧((((0:Int)≤(((s1.length):Int)-1))∧((((s1.length):Int)-1)<((s1.length):Int)))∧((((byteAt s1 (((s1.length):Int)-1))=45)→(I64 (((s1.length):Int)-1))∧((((0:Int)≤0)∧(((0:Int)≤(((s1.length):Int)-1))∧((((s1.length):Int)-1)≤((s1.length):Int))))∧∀w11:World,(Below w1.heap.size w1 w11)→Runs Tryz.prog X.scrollbacklaw37_of #[(.string ⟨(List.take (Int.toNat ((((s1.length):Int)-1)-0)) (List.drop 0 s1)).toArray⟩)] w11 (fun e3 w12=>∃p6:Option Addr,∃n11 n12:Nat,(e3=(.returned (.slice p6 n11 n12)))∧((Kept w0.heap.size F [] w11 w12)∧∀n13:Nat,(w12.heap.size≤n13)→∃s4:List Value,(Room w0.heap.size F [n13] w12 T.Line 2 p1 n1 n2 s4 1)∧((((n1+1)*32)≤140737488355328)∧∀w13:World,∀p7:Option Addr,∀n14:Nat,(Grown w12 [] p1 n1 n2 T.Line 2 (n1+1) (s4++[(.slice p6 n11 n12),(.bool (BE.val (.eq (byteAt s1 (((s1.length):Int)-1)) 45)))]) w13 p7 n14)→(∀a4:Addr,(p7=(some a4))→¬(a4.block∈[n13]))→(I64 (i1+1))∧∀w14:World,(Below w13.heap.size w13 w14)→(I1 p7 (n1+1) n14 (i1+1) w14)∧(I2 p7 (n1+1) n14 (i1+1)<I2 p1 n1 n2 i1))))))∧(((byteAt s1 (((s1.length):Int)-1))≠45)→∀w7:World,(Below w1.heap.size w1 w7)→Runs Tryz.prog X.scrollbacklaw37_of #[(.string ⟨s1.toArray⟩)] w7 (fun e2 w8=>∃p4:Option Addr,∃n7 n8:Nat,(e2=(.returned (.slice p4 n7 n8)))∧((Kept w0.heap.size F [] w7 w8)∧∀n9:Nat,(w8.heap.size≤n9)→∃s3:List Value,(Room w0.heap.size F [n9] w8 T.Line 2 p1 n1 n2 s3 1)∧((((n1+1)*32)≤140737488355328)∧∀w9:World,∀p5:Option Addr,∀n10:Nat,(Grown w8 [] p1 n1 n2 T.Line 2 (n1+1) (s3++[(.slice p4 n7 n8),(.bool (BE.val (.eq (byteAt s1 (((s1.length):Int)-1)) 45)))]) w9 p5 n10)→(∀a3:Addr,(p5=(some a3))→¬(a3.block∈[n9]))→(I64 (i1+1))∧∀w10:World,(Below w9.heap.size w9 w10)→(I1 p5 (n1+1) n10 (i1+1) w10)∧(I2 p5 (n1+1) n10 (i1+1)<I2 p1 n1 n2 i1))))))))∧((((s1.length):Int)≤0)→∀w3:World,(Below w1.heap.size w1 w3)→Runs Tryz.prog X.scrollbacklaw37_of #[(.string ⟨s1.toArray⟩)] w3 (fun e1 w4=>∃p2:Option Addr,∃n3 n4:Nat,(e1=(.returned (.slice p2 n3 n4)))∧((Kept w0.heap.size F [] w3 w4)∧∀n5:Nat,(w4.heap.size≤n5)→∃s2:List Value,(Room w0.heap.size F [n5] w4 T.Line 2 p1 n1 n2 s2 1)∧((((n1+1)*32)≤140737488355328)∧∀w5:World,∀p3:Option Addr,∀n6:Nat,(Grown w4 [] p1 n1 n2 T.Line 2 (n1+1) (s2++[(.slice p2 n3 n4),(.bool false)]) w5 p3 n6)→(∀a2:Addr,(p3=(some a2))→¬(a2.block∈[n5]))→(I64 (i1+1))∧∀w6:World,(Below w5.heap.size w5 w6)→(I1 p3 (n1+1) n6 (i1+1) w6)∧(I2 p3 (n1+1) n6 (i1+1)<I2 p1 n1 n2 i1))))))))∧(((nl:Int)≤i1)→Fin w0 F w1 Q (.slice p1 n1 n2))):Gets Tryz.prog X.scrollbacklaw37_rows #[(.slice pl nl cl)] w0 F Q:=
 func_run mixed [⟨3,[3,4],[]⟩] [] X.scrollbacklaw37_rows [SV.sl pl nl cl] ⟨by trivial,trivial⟩ (by kernel_rfl) (by kernel_rfl) h
theorem v_scrollbacklaw37_line {w0:World} {F:Nat→Prop} {Q:Value→World→Prop} (t:Addr) (n:Int) (want:Lh) (no:Int) (h:∀n1:Nat,(w0.heap.size≤n1)→∀w1:World,(Below w0.heap.size w0 w1)→(Mine w1 w0.heap.size [(n1,T.Line)])→Runs Tryz.prog X.evict_Line #[(.pointer (some t)),(.int .i64 n)] w1 (fun e1 w2=>∃lh1:Lh,∃i1:Int,(e1=(.returned (.tuple #[(.agg lh1.arr),(.int .i64 i1)])))∧((Kept w0.heap.size F [n1] w1 w2)∧∀n2:Nat,(w2.heap.size≤n2)→∀w3:World,(Below w2.heap.size w2 w3)→(Mine w3 w0.heap.size [(n1,T.Line),(n2,T.Line)])→Runs Tryz.prog X.scrollbackref06_Same #[(.agg lh1.arr),(.agg want.arr)] w3 (fun e2 w4=>∃b1:Bool,(e2=(.returned (.bool b1)))∧((Kept w0.heap.size F [n1,n2] w3 w4)∧(((b1=true)→Fin w0 F w4 Q (.bool (BE.val (.eq i1 no))))∧((b1=false)→Fin w0 F w4 Q (.bool false)))))))):Gets Tryz.prog X.scrollbacklaw37_line #[(.pointer (some t)),(.int .i64 n),(.agg want.arr),(.int .i64 no)] w0 F Q:=
 func_run mixed [] [] X.scrollbacklaw37_line [SV.adr t 0,SV.int IntKind.i64 n,SV.agg (Lh.cod.enc want),SV.int IntKind.i64 no] ⟨by trivial,by trivial,okA _ _,by trivial,trivial⟩ (by kernel_rfl) (by kernel_rfl) h
theorem v_evict_Clamp {w0:World} {F:Nat→Prop} {Q:Value→World→Prop} (t:Addr) (p:Go.Rep.Pl) (h:∀n1:Nat,(w0.heap.size≤n1)→∀n2:Nat,(w0.heap.size≤n2)→∀w1:World,(Below w0.heap.size w0 w1)→(Mine w1 w0.heap.size [(n1,T.Place),(n2,T.Place)])→Runs Tryz.prog X.evict_Of #[(.pointer (some t))] w1 (fun e1 w2=>∃ev1:Ev,∃i1:Int,(e1=(.returned (.tuple #[(.agg #[(.int .i64 ev1.first),(.int .i64 ev1.scr),(.int .i64 ev1.next)]),(.int .i64 i1)])))∧((Kept w0.heap.size F [n1,n2] w1 w2)∧∀n3:Nat,(w2.heap.size≤n3)→((i1≠0)→FinE w0 F w2 [n2] Q (.tuple #[(.agg #[(.int .i64 0),(.int .i64 0)]),(.int .i64 i1)]))∧((i1=0)→∀w3:World,(Below w2.heap.size w2 w3)→(Mine w3 w0.heap.size [(n1,T.Place),(n2,T.Place),(n3,T.Eviction)])→Runs Tryz.prog X.term_Snapshot #[(.pointer (some t))] w3 (fun e2 w4=>∃sn1:Sn,(e2=(.returned (.agg sn1.arr)))∧((Kept w0.heap.size F [n1,n2,n3] w3 w4)∧∀w5:World,(Below w4.heap.size w4 w5)→(Mine w5 w0.heap.size [(n1,T.Place),(n2,T.Place),(n3,T.Eviction)])→Runs Tryz.prog X.place_Clamp #[(.agg #[(.int .i64 p.line),(.int .i64 p.col)]),(.int .i64 ev1.first),(.int .i64 ev1.next),(.int .i64 sn1.cols)] w5 (fun e3 w6=>∃pl1:Go.Rep.Pl,∃i2:Int,(e3=(.returned (.tuple #[(.agg #[(.int .i64 pl1.line),(.int .i64 pl1.col)]),(.int .i64 i2)])))∧((Kept w0.heap.size F [n1,n2,n3] w5 w6)∧FinE w0 F w6 [n2] Q (.tuple #[(.agg #[(.int .i64 pl1.line),(.int .i64 pl1.col)]),(.int .i64 i2)]))))))))):Gets Tryz.prog X.evict_Clamp #[(.pointer (some t)),(.agg #[(.int .i64 p.line),(.int .i64 p.col)])] w0 F Q:=
 func_run mixed [] [] X.evict_Clamp [SV.adr t 0,SV.agg (Go.Rep.Pl.cod.enc p)] ⟨by trivial,okA _ _,trivial⟩ (by kernel_rfl) (by kernel_rfl) h
theorem v_evict_Of {w0:World} {F:Nat→Prop} {Q:Value→World→Prop} (t:Addr) (h:∀n1:Nat,(w0.heap.size≤n1)→∀w1:World,(Below w0.heap.size w0 w1)→(Mine w1 w0.heap.size [(n1,T.Eviction)])→Runs Tryz.prog X.evict_all #[(.pointer (some t))] w1 (fun e1 w2=>∃p1:Option Addr,∃n2 n3:Nat,∃ev1:Ev,∃i1:Int,(e1=(.returned (.tuple #[(.slice p1 n2 n3),(.agg #[(.int .i64 ev1.first),(.int .i64 ev1.scr),(.int .i64 ev1.next)]),(.int .i64 i1)])))∧((Kept w0.heap.size F [n1] w1 w2)∧∀n4:Nat,(w2.heap.size≤n4)→FinE w0 F w2 [n1] Q (.tuple #[(.agg #[(.int .i64 ev1.first),(.int .i64 ev1.scr),(.int .i64 ev1.next)]),(.int .i64 i1)])))):Gets Tryz.prog X.evict_Of #[(.pointer (some t))] w0 F Q:=
 func_run mixed [] [] X.evict_Of [SV.adr t 0] ⟨by trivial,trivial⟩ (by kernel_rfl) (by kernel_rfl) h
theorem v_evict_Kept {w0:World} {F:Nat→Prop} {Q:Value→World→Prop} (t:Addr) (plines:Option Addr) (nlines:Nat) (clines:Nat) (h:∀w1:World,(Below w0.heap.size w0 w1)→Runs Tryz.prog X.evict_Of #[(.pointer (some t))] w1 (fun e1 w2=>∃ev1:Ev,∃i1:Int,(e1=(.returned (.tuple #[(.agg #[(.int .i64 ev1.first),(.int .i64 ev1.scr),(.int .i64 ev1.next)]),(.int .i64 i1)])))∧((Kept w0.heap.size F [] w1 w2)∧∀n1:Nat,(w2.heap.size≤n1)→((i1≠0)→Fin w0 F w2 Q (.tuple #[(.slice none 0 0),(.int .i64 i1)]))∧((i1=0)→∃I1:Option Addr→Nat→Nat→Int→World→Prop,∃I2:Option Addr→Nat→Nat→Int→Nat,(∀w9:World,(Below w2.heap.size w2 w9)→I1 none 0 0 0 w9)∧∀p1:Option Addr,∀n2 n3:Nat,∀i2:Int,∀w3:World,(Keeps F w0 w3)→(I1 p1 n2 n3 i2 w3)→((i2<(nlines:Int))→∃a1:Addr,(plines=(some a1))∧((((0:Int)≤i2)∧(i2<(nlines:Int)))∧∃i3:Int,(At w3 a1 ((Int.toNat i2)*1) [(.int .i64 i3)])∧(((ev1.first≤i3)→((i3<ev1.next)→∀n4:Nat,(w3.heap.size≤n4)→∃s1:List Value,(Room w0.heap.size F [n1,n4] w3 T.int 1 p1 n2 n3 s1 1)∧((((n2+1)*8)≤140737488355328)∧∀w7:World,∀p2:Option Addr,∀n5:Nat,(Grown w3 [] p1 n2 n3 T.int 1 (n2+1) (s1++[(.int .i64 i3)]) w7 p2 n5)→(∀a2:Addr,(p2=(some a2))→¬(a2.block∈[n1,n4]))→(I64 (i2+1))∧∀w8:World,(Below w7.heap.size w7 w8)→(I1 p2 (n2+1) n5 (i2+1) w8)∧(I2 p2 (n2+1) n5 (i2+1)<I2 p1 n2 n3 i2)))∧((ev1.next≤i3)→(I64 (i2+1))∧∀w6:World,(Below w3.heap.size w3 w6)→(I1 p1 n2 n3 (i2+1) w6)∧(I2 p1 n2 n3 (i2+1)<I2 p1 n2 n3 i2)))∧((i3<ev1.first)→(I64 (i2+1))∧∀w5:World,(Below w3.heap.size w3 w5)→(I1 p1 n2 n3 (i2+1) w5)∧(I2 p1 n2 n3 (i2+1)<I2 p1 n2 n3 i2)))))∧(((nlines:Int)≤i2)→Fin w0 F w3 Q (.tuple #[(.slice p1 n2 n3),(.int .i64 0)])))))):Gets Tryz.prog X.evict_Kept #[(.pointer (some t)),(.slice plines nlines clines)] w0 F Q:=
 func_run mixed [⟨6,[8,21],[]⟩] [] X.evict_Kept [SV.adr t 0,SV.sl plines nlines clines] ⟨by trivial,by trivial,trivial⟩ (by kernel_rfl) (by kernel_rfl) h
theorem v_scrollbackref37_Same {w0:World} {F:Nat→Prop} {Q:Value→World→Prop} (pa:Option Addr) (na:Nat) (ca:Nat) (pb:Option Addr) (nb:Nat) (cb:Nat) (h:(((na:Int)≠(nb:Int))→Fin w0 F w0 Q (.bool false))∧(((na:Int)=(nb:Int))→∃I1:Int→World→Prop,∃I2:Int→Nat,(∀w5:World,(Below w0.heap.size w0 w5)→I1 0 w5)∧∀i1:Int,∀w1:World,(Keeps F w0 w1)→(I1 i1 w1)→((i1<(na:Int))→∃a1:Addr,(pa=(some a1))∧((((0:Int)≤i1)∧(i1<(na:Int)))∧∃i2:Int,(At w1 a1 ((Int.toNat i1)*1) [(.int .i64 i2)])∧∃a2:Addr,(pb=(some a2))∧((((0:Int)≤i1)∧(i1<(nb:Int)))∧∃i3:Int,(At w1 a2 ((Int.toNat i1)*1) [(.int .i64 i3)])∧(((i2≠i3)→Fin w0 F w1 Q (.bool false))∧((i2=i3)→(I64 (i1+1))∧∀w3:World,(Below w1.heap.size w1 w3)→(I1 (i1+1) w3)∧(I2 (i1+1)<I2 i1))))))∧(((na:Int)≤i1)→Fin w0 F w1 Q (.bool true)))):Gets Tryz.prog X.scrollbackref37_Same #[(.slice pa na ca),(.slice pb nb cb)] w0 F Q:=
 func_run mixed [⟨4,[5],[]⟩] [] X.scrollbackref37_Same [SV.sl pa na ca,SV.sl pb nb cb] ⟨by trivial,by trivial,trivial⟩ (by kernel_rfl) (by kernel_rfl) h
theorem v_evict_Line {w0:World} {F:Nat→Prop} {Q:Value→World→Prop} (t:Addr) (n:Int) (h:∀n1:Nat,(w0.heap.size≤n1)→∀w1:World,(Below w0.heap.size w0 w1)→(Mine w1 w0.heap.size [(n1,T.Line)])→Runs Tryz.prog X.evict_all #[(.pointer (some t))] w1 (fun e1 w2=>∃p1:Option Addr,∃n2 n3:Nat,∃ev1:Ev,∃i1:Int,(e1=(.returned (.tuple #[(.slice p1 n2 n3),(.agg #[(.int .i64 ev1.first),(.int .i64 ev1.scr),(.int .i64 ev1.next)]),(.int .i64 i1)])))∧((Kept w0.heap.size F [n1] w1 w2)∧∀n4:Nat,(w2.heap.size≤n4)→((i1≠0)→FinE w0 F w2 [n1] Q (.tuple #[(.agg #[(.slice none 0 0),(.bool false)]),(.int .i64 i1)]))∧((i1=0)→((n<0)→FinE w0 F w2 [n1] Q (.tuple #[(.agg #[(.slice none 0 0),(.bool false)]),(.int .i64 3)]))∧(((0:Int)≤n)→((ev1.next≤n)→FinE w0 F w2 [n1] Q (.tuple #[(.agg #[(.slice none 0 0),(.bool false)]),(.int .i64 3)]))∧((n<ev1.next)→((n<ev1.first)→FinE w0 F w2 [n1] Q (.tuple #[(.agg #[(.slice none 0 0),(.bool false)]),(.int .i64 14)]))∧((ev1.first≤n)→(I64 (n-ev1.first))∧∃a1:Addr,(p1=(some a1))∧((((0:Int)≤(n-ev1.first))∧((n-ev1.first)<(n2:Int)))∧∃lh1:Lh,(At w2 a1 ((Int.toNat (n-ev1.first))*2) lh1.arr.toList)∧FinE w0 F w2 [n1] Q (.tuple #[(.agg lh1.arr),(.int .i64 0)]))))))))):Gets Tryz.prog X.evict_Line #[(.pointer (some t)),(.int .i64 n)] w0 F Q:=
 func_run mixed [] [] X.evict_Line [SV.adr t 0,SV.int IntKind.i64 n] ⟨by trivial,by trivial,trivial⟩ (by kernel_rfl) (by kernel_rfl) h
theorem v_scrollbackref06_Same {w0:World} {F:Nat→Prop} {Q:Value→World→Prop} (a:Lh) (b:Lh) (h:∀n1:Nat,(w0.heap.size≤n1)→∀n2:Nat,(w0.heap.size≤n2)→(((BE.val (.ok a.soft))=(BE.val (.ok b.soft)))→∀w2:World,(Below w0.heap.size w0 w2)→(Mine w2 w0.heap.size [(n1,T.Line),(n2,T.Line)])→Runs Tryz.prog X.scrollbackref04_Same #[(.slice a.cells.p a.cells.n a.cells.c),(.slice b.cells.p b.cells.n b.cells.c)] w2 (fun e1 w3=>∃b1:Bool,(e1=(.returned (.bool b1)))∧((Kept w0.heap.size F [n1,n2] w2 w3)∧Fin w0 F w3 Q (.bool b1))))∧((¬((BE.val (.ok a.soft))=(BE.val (.ok b.soft))))→Fin w0 F w0 Q (.bool false))):Gets Tryz.prog X.scrollbackref06_Same #[(.agg a.arr),(.agg b.arr)] w0 F Q:=
 func_run mixed [] [] X.scrollbackref06_Same [SV.agg (Lh.cod.enc a),SV.agg (Lh.cod.enc b)] ⟨okA _ _,okA _ _,trivial⟩ (by kernel_rfl) (by kernel_rfl) h
theorem v_place_Clamp {w0:World} {F:Nat→Prop} {Q:Value→World→Prop} (p:Go.Rep.Pl) (first:Int) (next:Int) (columns:Int) (h:∀n1:Nat,(w0.heap.size≤n1)→∀n2:Nat,(w0.heap.size≤n2)→((first<0)→Fin w0 F w0 Q (.tuple #[(.agg #[(.int .i64 0),(.int .i64 0)]),(.int .i64 2)]))∧(((0:Int)≤first)→((next≤first)→Fin w0 F w0 Q (.tuple #[(.agg #[(.int .i64 0),(.int .i64 0)]),(.int .i64 2)]))∧((first<next)→(((1099511627777:Int)<next)→Fin w0 F w0 Q (.tuple #[(.agg #[(.int .i64 0),(.int .i64 0)]),(.int .i64 2)]))∧((next≤1099511627777)→∀w1:World,(Below w0.heap.size w0 w1)→(Mine w1 w0.heap.size [(n1,T.Place),(n2,T.Place)])→Runs Tryz.prog X.place_wide #[(.int .i64 columns)] w1 (fun e1 w2=>∃b1:Bool,(e1=(.returned (.bool b1)))∧((Kept w0.heap.size F [n1,n2] w1 w2)∧(((b1=false)→FinE w0 F w2 [n2] Q (.tuple #[(.agg #[(.int .i64 0),(.int .i64 0)]),(.int .i64 2)]))∧((b1=true)→((p.line<first)→FinE w0 F w2 [n2] Q (.tuple #[(.agg #[(.int .i64 first),(.int .i64 0)]),(.int .i64 0)]))∧((first≤p.line)→((next≤p.line)→(I64 (next-1))∧((I64 (columns-1))∧FinE w0 F w2 [n2] Q (.tuple #[(.agg #[(.int .i64 (next-1)),(.int .i64 (columns-1))]),(.int .i64 0)])))∧((p.line<next)→(I64 (columns-1))∧FinE w0 F w2 [n2] Q (.tuple #[(.agg #[(.int .i64 p.line),(.int .i64 (min (max p.col 0) (columns-1)))]),(.int .i64 0)]))))))))))):Gets Tryz.prog X.place_Clamp #[(.agg #[(.int .i64 p.line),(.int .i64 p.col)]),(.int .i64 first),(.int .i64 next),(.int .i64 columns)] w0 F Q:=
 func_run mixed [] [] X.place_Clamp [SV.agg (Go.Rep.Pl.cod.enc p),SV.int IntKind.i64 first,SV.int IntKind.i64 next,SV.int IntKind.i64 columns] ⟨okA _ _,by trivial,by trivial,by trivial,trivial⟩ (by kernel_rfl) (by kernel_rfl) h
theorem v_evict_all {w0:World} {F:Nat→Prop} {Q:Value→World→Prop} (t:Addr) (h:∀n1:Nat,(w0.heap.size≤n1)→∀w1:World,(Below w0.heap.size w0 w1)→(Mine w1 w0.heap.size [(n1,T.Eviction)])→Runs Tryz.prog X.term_All #[(.pointer (some t))] w1 (fun e1 w2=>∃p1:Option Addr,∃n2 n3:Nat,∃i1 i2:Int,(e1=(.returned (.tuple #[(.slice p1 n2 n3),(.int .i64 i1),(.int .i64 i2)])))∧((Kept w0.heap.size F [n1] w1 w2)∧(((i2≠0)→FinE w0 F w2 [n1] Q (.tuple #[(.slice none 0 0),(.agg #[(.int .i64 0),(.int .i64 0),(.int .i64 0)]),(.int .i64 i2)]))∧((i2=0)→∀w3:World,(Below w2.heap.size w2 w3)→(Mine w3 w0.heap.size [(n1,T.Eviction)])→Runs Tryz.prog X.term_Snapshot #[(.pointer (some t))] w3 (fun e2 w4=>∃sn1:Sn,(e2=(.returned (.agg sn1.arr)))∧((Kept w0.heap.size F [n1] w3 w4)∧∀n4:Nat,(w4.heap.size≤n4)→(I64 (i1+sn1.hist))∧((I64 (i1+(n2:Int)))∧FinE w0 F w4 [n1] Q (.tuple #[(.slice p1 n2 n3),(.agg #[(.int .i64 i1),(.int .i64 (i1+sn1.hist)),(.int .i64 (i1+(n2:Int)))]),(.int .i64 0)]))))))))):Gets Tryz.prog X.evict_all #[(.pointer (some t))] w0 F Q:=
 func_run mixed [] [] X.evict_all [SV.adr t 0] ⟨by trivial,trivial⟩ (by kernel_rfl) (by kernel_rfl) h
theorem v_scrollbackref04_Same {w0:World} {F:Nat→Prop} {Q:Value→World→Prop} (pa:Option Addr) (na:Nat) (ca:Nat) (pb:Option Addr) (nb:Nat) (cb:Nat) (h:(((na:Int)≠(nb:Int))→Fin w0 F w0 Q (.bool false))∧(((na:Int)=(nb:Int))→∃I1:Int→World→Prop,∃I2:Int→Nat,(∀w6:World,(Below w0.heap.size w0 w6)→I1 0 w6)∧∀i1:Int,∀w1:World,(Keeps F w0 w1)→(I1 i1 w1)→((i1<(na:Int))→∃a1:Addr,(pa=(some a1))∧((((0:Int)≤i1)∧(i1<(na:Int)))∧∃cl1:Cl,(At w1 a1 ((Int.toNat i1)*16) cl1.arr.toList)∧∃a2:Addr,(pb=(some a2))∧((((0:Int)≤i1)∧(i1<(nb:Int)))∧∃cl2:Cl,(At w1 a2 ((Int.toNat i1)*16) cl2.arr.toList)∧∃b1:Bool,(∀w5:World,(Op.equal T.Cell (.agg cl1.arr) (.agg cl2.arr)).run (Tryz.prog) w5= .ok b1 w5)∧(((b1=false)→Fin w0 F w1 Q (.bool false))∧((b1=true)→(I64 (i1+1))∧∀w3:World,(Below w1.heap.size w1 w3)→(I1 (i1+1) w3)∧(I2 (i1+1)<I2 i1))))))∧(((na:Int)≤i1)→Fin w0 F w1 Q (.bool true)))):Gets Tryz.prog X.scrollbackref04_Same #[(.slice pa na ca),(.slice pb nb cb)] w0 F Q:=
 func_run mixed [⟨4,[5],[]⟩] [] X.scrollbackref04_Same [SV.sl pa na ca,SV.sl pb nb cb] ⟨by trivial,by trivial,trivial⟩ (by kernel_rfl) (by kernel_rfl) h
theorem v_place_wide {w0:World} {F:Nat→Prop} {Q:Value→World→Prop} (columns:Int) (h:(((1:Int)≤columns)→Fin w0 F w0 Q (.bool (BE.val (.le columns 1000))))∧((columns<1)→Fin w0 F w0 Q (.bool false))):Gets Tryz.prog X.place_wide #[(.int .i64 columns)] w0 F Q:=
 func_run mixed [] [] X.place_wide [SV.int IntKind.i64 columns] ⟨by trivial,trivial⟩ (by kernel_rfl) (by kernel_rfl) h
theorem v_term_All {w0:World} {F:Nat→Prop} {Q:Value→World→Prop} (t:Addr) (h:∀w1:World,(Below w0.heap.size w0 w1)→Runs Tryz.prog X.term_zero #[(.pointer (some t))] w1 (fun e1 w2=>∃b1:Bool,(e1=(.returned (.bool b1)))∧((Kept w0.heap.size F [] w1 w2)∧(((b1=true)→Fin w0 F w2 Q (.tuple #[(.slice none 0 0),(.int .i64 0),(.int .i64 1)]))∧((b1=false)→∃p1:Option Addr,(At w2 t 1 [(.pointer p1)])∧∀w3:World,(Below w2.heap.size w2 w3)→Runs Tryz.prog X.screen_History #[(.pointer p1)] w3 (fun e2 w4=>∃p2:Option Addr,(e2=(.returned (.pointer p2)))∧((Kept w0.heap.size F [] w3 w4)∧∃p3:Option Addr,(At w4 t 1 [(.pointer p3)])∧∀w5:World,(Below w4.heap.size w4 w5)→Runs Tryz.prog X.history_All #[(.pointer p2)] w5 (fun e3 w6=>∃p4:Option Addr,∃n1 n2:Nat,(e3=(.returned (.slice p4 n1 n2)))∧((Kept w0.heap.size F [] w5 w6)∧((At w6 t 1 [(.pointer p3)])∧∀w7:World,(Below w6.heap.size w6 w7)→Runs Tryz.prog X.screen_Lines #[(.pointer p3)] w7 (fun e4 w8=>∃p5:Option Addr,∃n3 n4:Nat,(e4=(.returned (.slice p5 n3 n4)))∧((Kept w0.heap.size F [] w7 w8)∧∃s1:List Value,(Room w0.heap.size F [] w8 T.Line 2 p4 n1 n2 s1 n3)∧∃s2:List Value,(((s2.length)=(n3*2))∧((∀v1:Value,(v1∈s2)→(v1.oneCell')=true)∧(((p5=none)→n3=0)∧∀a1:Addr,(p5=(some a1))→At w8 a1 0 s2)))∧((((n1+n3)*32)≤140737488355328)∧∀w9:World,∀p6:Option Addr,∀n5:Nat,(Grown w8 [] p4 n1 n2 T.Line 2 (n1+n3) (s1++s2) w9 p6 n5)→∀w10:World,(Below w9.heap.size w9 w10)→Runs Tryz.prog X.history_First #[(.pointer p2)] w10 (fun e5 w11=>∃i1:Int,(e5=(.returned (.int .i64 i1)))∧((Kept w0.heap.size F [] w10 w11)∧Fin w0 F w11 Q (.tuple #[(.slice p6 (n1+n3) n5),(.int .i64 i1),(.int .i64 0)])))))))))))))))):Gets Tryz.prog X.term_All #[(.pointer (some t))] w0 F Q:=
 func_run mixed [] [] X.term_All [SV.adr t 0] ⟨by trivial,trivial⟩ (by kernel_rfl) (by kernel_rfl) h
end Go.Proofs.YtjhhiindeignaaaGreatDoor
namespace Go.Proofs.YtjhhiindeignaaaGreatDoor
open Go Go.RowKit Go.Sy Go.Rep
set_option maxRecDepth 100000
set_option maxHeartbeats 1000000
section
variable {w0 w w' w1:World} {F0:Nat→Prop} {bs:List Nat} {p p2 p':Option Addr} {n n2 c c2 c':Nat} {xs ys:List Ln} {t:Tx}
theorem Lines.join (hY:Y.count≤w.heap.size) (h:Lines w p n c xs) (h2:Lines w p2 n2 c2 ys) (hd:∀i,LF ys i→¬LsF p xs i) (g:Grown w [] p n c T.Line 2 (n+n2) (hdrs xs++hdrs ys) w' p' c'):Lines w' p' (n+n2) c' (xs++ys)∧(∀i,LsF p' (xs++ys) i→LsF p xs i∨LF ys i∨w.heap.size≤i)∧Keeps (LsF p xs) w w':=by
 have hk:Keeps (fun i=>∃a,p=some a∧a.block=i) w w':=g.keeps fun _ a ha=>⟨a,ha,rfl⟩
 have hEach:=h.each.append h2.each fun i h1 h2=>hd i h2 (.inr h1)
 have hp:∀a,p'=some a→(∃b,p=some b∧a.block=b.block)∨w.heap.size≤a.block:=fun a ha=>by
  rcases g.place a ha with⟨b,h1,h2,_⟩|q
  ·exact .inl ⟨b,h1,h2⟩
  ·exact .inr q
 refine⟨⟨?_,fun a ha hl=>?_,hEach.keeps hk ?_⟩,?_,hk.mono fun i hi=> .inl hi⟩
 ·rw[hdrs_append]
  exact g.own hY fun a ha=>(h.row.lt a ha).2.1
 ·rcases hp a ha with⟨b,hb,e⟩|q
  ·rw[e] at hl
   rcases LF.append.1 hl with r|r
   ·exact h.off b hb r
   ·exact hd _ r (.inl ⟨b,hb,rfl⟩)
  ·have:=hEach.lt hl
   omega
 ·rintro i ⟨a,ha,rfl⟩ hl
  rcases LF.append.1 hl with r|r
  ·exact h.off a ha r
  ·exact hd _ r (.inl ⟨a,ha,rfl⟩)
 ·rintro i (⟨a,ha,rfl⟩|hl)
  ·rcases hp a ha with⟨b,hb,e⟩|q
   ·exact .inl (.inl ⟨b,hb,e.symm⟩)
   ·exact .inr (.inr q)
  ·rcases LF.append.1 hl with r|r
   ·exact .inl (.inr r)
   ·exact .inr (.inl r)
def allT (q:Sq):List Li:=lastR q.hv 1048576++(Pv.grid q.pv).ls
theorem r_term_All {N:Nat} (hL:Laid w) (h:(TmO t).P w) (ok:SqOk N t.sx.sq):Gets Tryz.prog X.term_All #[t.ptr] w Nix (fun v w'=>∃q d zs,v= .tuple #[.slice q zs.length d, .int .i64 t.sx.sq.hv.first, .int .i64 0]∧Lines w' q zs.length d zs∧lis zs=allT t.sx.sq∧∀i,LsF q zs i→w.heap.size≤i):=by
 have hY:=hL.size
 have s0:=OS.start (bs:=[]) hL h (by simp)
 refine v_term_All _ fun w1 hb1=>(s0.below hb1).ret (fun a b=>r_term_zero b a) fun w2 s2 k2=>⟨_,rfl,k2.nix,fun e=>(nomatch e),fun _=>⟨_,TmO.cell s2 1 rfl,fun w3 hb3=>?_⟩⟩
 have s3:=s2.below hb3
 refine(r_screen_History s3.laid (TmO.sx s3)).runs fun v w4 k4 ⟨h',hv,q1,q2,q3⟩=>?_
 subst hv
 have s4:=s3.nix k4
 refine⟨_,rfl,k4.nix,_,TmO.cell s4 1 rfl,fun w5 hb5=>?_⟩
 have s5:=s4.below hb5
 have q25:=q2.below hb5
 refine(r_history_All s5.laid q25).runs fun v w6 k6 ⟨p,c,xs,hv,hx,hl,hF⟩=>?_
 subst hv
 have s6:=s5.nix k6
 refine⟨_,_,_,rfl,k6.nix,TmO.cell s6 1 rfl,fun w7 hb7=>?_⟩
 have s7:=s6.below hb7
 refine(r_screen_Lines s7.laid (TmO.sx s7) ok).runs fun v w8 k8 ⟨p2,c2,ys,hv,e1,e2,e3⟩=>?_
 subst hv
 have s8:=s7.nix k8
 have hx8:Lines w8 p xs.length c xs:=(hx.nix (Keeps.of_below hb7)).nix k8
 have z5:w.heap.size≤w5.heap.size:=s5.kept.size
 have z7:w.heap.size≤w7.heap.size:=s7.kept.size
 have z56:=k6.size
 have z67:=hb7.size
 have hy:(Pv.grid t.sx.sq.pv).ls.length=ys.length:=by rw[←e1];simp[lis]
 rw[hy] at e2⊢
 have hyr:=e2.row.row
 have hdis:∀i,LF ys i→¬LsF p xs i:=fun i hi hx=>by
  have a1:=e3 i (.inr hi)
  have a2:i<w6.heap.size:=by
   rcases hx with⟨a,ha,rfl⟩|hf
   ·rename_i hx0
    exact ‹Lines w6 p xs.length c xs›.row.lt a ha|>.1
   ·exact ‹Lines w6 p xs.length c xs›.each.lt hf
  omega
 have hbx:=Own.bound hx8.row
 have hby:=Own.bound e2.row
 refine⟨_,_,_,rfl,k8.nix,hdrs xs,hx8.row.room (fun a ha=>by simp) (fun _ a ha hl=>?_),hdrs ys,⟨hdrs_length ys,hdrs_one ys,fun e=>Row.none0 hyr e,fun a ha=>hyr.lies a ha⟩,?_,fun w9 p6 n5 hg w10 hb10=>?_⟩
 ·have:=hF a.block (.inl ⟨a,ha,rfl⟩)
  omega
 ·have l1:xs.length≤1048576:=by
   have:(lis xs).length=xs.length:=by simp[lis]
   rw[←this,hl]
   unfold lastR rangeR
   rw[List.length_drop,List.length_take]
   omega
  have l2:ys.length≤1000:=by
   have:=ok.grid.r
   have:=ok.r2
   have e:t.sx.sq.pv=t.sx.sq.pv:=rfl
   omega
  omega
 ·have hlow:∀i,LsF p xs i→w.heap.size≤i:=fun i hi=>by have:=hF i hi;omega
  obtain⟨j1,j2,j3⟩:=Lines.join (by have:=s8.laid.size;omega) hx8 e2 hdis hg
  have q28:HiAt w8 h':=((q25.nix k6).below hb7).nix k8
  have q29:HiAt w9 h':=q28.keeps j3 fun i hi hf=>by
   have a1:=hF i hi
   have a2:=q25.lt hf
   omega
  refine(r_history_First (q29.below hb10)).runs fun w11 k11=>⟨_,rfl,k11.nix,fun w' hb _=>⟨p6,n5,xs++ys,?_,?_,?_,fun i hi=>?_⟩⟩
  ·rw[List.length_append,show h'.r.first=t.sx.sq.hv.first from congrArg Rg'.first q1]
  ·rw[List.length_append]
   exact(((j1.nix (Keeps.of_below hb10)).nix k11).nix (Keeps.of_below hb))
  ·unfold allT lis
   rw[List.map_append]
   show lis xs++lis ys=_
   rw[hl,e1,q1]
   rfl
  ·rcases j2 i hi with u|u|u
   ·exact hlow i u
   ·have:=e3 i (.inr u);omega
   ·have:=s8.kept.size;omega
end
end Go.Proofs.YtjhhiindeignaaaGreatDoor
namespace Go.Proofs.YtjhhiindeignaaaGreatDoor
open Go Go.RowKit Go.Sy Go.Rep
set_option maxRecDepth 100000
set_option maxHeartbeats 1000000
theorem eq_ev (a b:Go.Rep.Ev) (w:World):(Op.equal T.Eviction (.agg a.arr) (.agg b.arr)).run Tryz.prog w= .ok (decide (a=b)) w:=by
 obtain⟨a1,a2,a3⟩:=a
 obtain⟨b1,b2,b3⟩:=b
 simp only[Go.Rep.Ev.mk.injEq]
 simp[Op.equal,Op.maxDepth,go_sem]
 repeat' split
 all_goals simp[*]
theorem eq_pl (a b:Go.Rep.Pl) (w:World):(Op.equal T.Place (.agg a.arr) (.agg b.arr)).run Tryz.prog w= .ok (decide (a=b)) w:=by
 obtain⟨a1,a2⟩:=a
 obtain⟨b1,b2⟩:=b
 simp only[Go.Rep.Pl.mk.injEq]
 simp[Op.equal,Op.maxDepth,go_sem]
 repeat' split
 all_goals simp[*]
def evQ (q:Sq):Go.Rep.Ev:=⟨q.hv.first,q.hv.first+histLen q.hv,q.hv.first+(allT q).length⟩
theorem lastR_len (q:Rg') (n:Nat):(lastR q n).length≤n:=by
 unfold lastR rangeR
 rw[List.length_drop,List.length_take]
 omega
theorem lis_get {xs:List Ln} {k:Nat} (h:k<xs.length):(lis xs)[k]? =some (lnAt xs k).li:=by
 unfold lis lnAt
 rw[List.getElem?_map,List.getD_eq_getElem?_getD,List.getElem?_eq_getElem h]
 rfl
section
variable {w w':World} {t:Tx} {N:Nat}
theorem evQ_small (ok:SqOk N t.sx.sq) (hfn:t.sx.sq.hv.first≤t.sx.sq.hv.next) (hN:N≤4611686018426387904):I64 (evQ t.sx.sq).scr∧I64 (evQ t.sx.sq).next:=by
 have h1:=ok.nx
 have h2:=lastR_len t.sx.sq.hv 1048576
 have h3:=ok.grid.r
 have h4:=ok.r2
 have h5:(allT t.sx.sq).length=(lastR t.sx.sq.hv 1048576).length+(Pv.grid t.sx.sq.pv).ls.length:=by unfold allT;rw[List.length_append]
 have h6:t.sx.sq.hv.next≤N:=h1
 unfold I64 evQ histLen
 dsimp only
 omega
theorem r_evict_all (hL:Laid w) (h:(TmO t).P w) (ok:TqOk N t.tq) (hfn:t.sx.sq.hv.first≤t.sx.sq.hv.next) (hN:N≤4611686018426387904):Gets Tryz.prog X.evict_all #[t.ptr] w Nix (fun v w'=>∃q d zs,v= .tuple #[.slice q zs.length d, .agg (evQ t.sx.sq).arr, .int .i64 0]∧Lines w' q zs.length d zs∧lis zs=allT t.sx.sq∧∀i,LsF q zs i→w.heap.size≤i):=by
 refine v_evict_all _ fun n1 g1 w1 hb1 hm1=>?_
 have s0:=OS.start (bs:=[n1]) hL h (by simpa using g1)
 have s1:=s0.below hb1
 have hm:=Mine.all hm1 n1 (by simp)
 refine(r_term_All s1.laid s1.at_ ok.sq).runs fun v w2 k2 ⟨q,d,zs,hv,hz,hl,hF⟩=>?_
 subst hv
 have s2:=s1.nix k2
 refine⟨_,_,_,_,_,rfl,k2.nix,fun e=>absurd rfl e,fun _ w3 hb3 hm3=>?_⟩
 have s3:=s2.below hb3
 refine(r_term_Snapshot s3.laid s3.at_ ok).runs fun v w4 k4 ⟨p,c,ys,hv,_⟩=>?_
 subst hv
 have hzl:zs.length=(allT t.sx.sq).length:=by rw[←hl];simp[lis]
 obtain⟨b1,b2⟩:=evQ_small ok.sq hfn hN
 refine⟨_,rfl,k4.nix,fun n4 g4=>⟨b1,by rw[hzl];exact b2,fun w' he hk=>⟨q,d,zs,?_,?_,hl,fun i hi=>?_⟩⟩⟩
 ·rw[hzl]
  rfl
 ·exact((hz.nix (Keeps.of_below hb3)).nix k4).keeps (Go.Proofs.YtjhhiindeignaaaGreatDoor.Ext.keeps he) fun i hi hf=>by
   have:=hF i hf
   have:i=n1:=by simpa using hi
   omega
 ·have:=hF i hi
  have:=hb1.size
  omega
theorem r_evict_Of (hL:Laid w) (h:(TmO t).P w) (ok:TqOk N t.tq) (hfn:t.sx.sq.hv.first≤t.sx.sq.hv.next) (hN:N≤4611686018426387904):Gets Tryz.prog X.evict_Of #[t.ptr] w Nix (fun v w'=>v= .tuple #[.agg (evQ t.sx.sq).arr, .int .i64 0]):=by
 refine v_evict_Of _ fun n1 g1 w1 hb1 hm1=>?_
 have s0:=OS.start (bs:=[n1]) hL h (by simpa using g1)
 have s1:=s0.below hb1
 refine(r_evict_all s1.laid s1.at_ ok hfn hN).runs fun v w2 k2 ⟨q,d,zs,hv,_⟩=>?_
 subst hv
 exact⟨_,_,_,evQ t.sx.sq,_,rfl,k2.nix,fun n4 g4=>FinE.of fun _=>rfl⟩
theorem r_law_there (hL:Laid w) (h:(TmO t).P w) (ok:TqOk N t.tq) (hfn:t.sx.sq.hv.first≤t.sx.sq.hv.next) (hN:N≤4611686018426387904):Ret X.scrollbacklaw37_there #[t.ptr, .agg (evQ t.sx.sq).arr, .int .i64 0] w (.bool true):=by
 refine v_scrollbacklaw37_there _ (evQ t.sx.sq) 0 fun n1 g1 w1 hb1 hm1=>?_
 have s0:=OS.start (bs:=[n1]) hL h (by simpa using g1)
 have s1:=s0.below hb1
 refine(r_evict_Of s1.laid s1.at_ ok hfn hN).runs fun v w2 k2 hv=>?_
 subst hv
 refine⟨evQ t.sx.sq,_,rfl,k2.nix,fun n2 g2=>⟨_,fun w5=>eq_ev _ _ w5,fun _=>Fin.of fun _=>?_,fun e=>by simp at e⟩⟩
 rw[bv_eq]
 rfl
def LineV (q:Sq) (n:Int) (v:Value) (w:World):Prop:=
 (((n<0∨(evQ q).next≤n)∧v= .tuple #[.agg #[.slice none 0 0, .bool false], .int .i64 3])∨((0≤n∧n<(evQ q).next∧n<(evQ q).first)∧v= .tuple #[.agg #[.slice none 0 0, .bool false], .int .i64 14]))∨
  ((0≤n∧n<(evQ q).next∧(evQ q).first≤n)∧∃x:Ln,v= .tuple #[.agg x.lh.arr, .int .i64 0]∧LRow w x.lh x.cs∧(allT q)[(n-(evQ q).first).toNat]? =some x.li)
theorem r_evict_Line {n:Int} (hn: -1000000≤n∧n≤1000000) (hL:Laid w) (h:(TmO t).P w) (ok:TqOk N t.tq) (hfn:t.sx.sq.hv.first≤t.sx.sq.hv.next) (hN:N≤1000000000):Gets Tryz.prog X.evict_Line #[t.ptr, .int .i64 n] w Nix (LineV t.sx.sq n):=by
 refine v_evict_Line _ n fun n1 g1 w1 hb1 hm1=>?_
 have s0:=OS.start (bs:=[n1]) hL h (by simpa using g1)
 have s1:=s0.below hb1
 have hm:=Mine.all hm1 n1 (by simp)
 refine(r_evict_all s1.laid s1.at_ ok hfn (by omega)).runs fun v w2 k2 ⟨q,d,zs,hv,hz,hl,hF⟩=>?_
 subst hv
 have hzl:zs.length=(allT t.sx.sq).length:=by rw[←hl];simp[lis]
 have hfi:(evQ t.sx.sq).first=(t.sx.sq.hv.first:Int):=rfl
 have hne:(evQ t.sx.sq).next=(t.sx.sq.hv.first:Int)+zs.length:=by rw[hzl];rfl
 have hlow:=lastR_len t.sx.sq.hv 1048576
 refine⟨_,_,_,evQ t.sx.sq,_,rfl,k2.nix,fun n4 g4=>⟨fun e=>absurd rfl e,fun _=>⟨fun e1=>FinE.of fun _=> .inl (.inl ⟨.inl e1,rfl⟩),fun e1=>⟨fun e2=>FinE.of fun _=> .inl (.inl ⟨.inr e2,rfl⟩),fun e2=>⟨fun e3=>FinE.of fun _=> .inl (.inr ⟨⟨e1,e2,e3⟩,rfl⟩),fun e3=>⟨by unfold I64;omega,?_⟩⟩⟩⟩⟩⟩
 refine hz.ex (by omega) (by omega) fun a ha hown hmem w' he hk=> .inr ⟨⟨e1,e2,e3⟩,lnAt zs (n-(evQ t.sx.sq).first).toNat,rfl,?_,?_⟩
 ·have hz':=hz.keeps (Go.Proofs.YtjhhiindeignaaaGreatDoor.Ext.keeps he) fun i hi hf=>by
   have:=hF i hf
   have:i=n1:=by simpa using hi
   omega
  exact(hz'.each.own _ hmem).lrow
 ·rw[←hl]
  exact lis_get (by omega)
end
end Go.Proofs.YtjhhiindeignaaaGreatDoor
namespace Go.Proofs.YtjhhiindeignaaaGreatDoor
open Go Go.RowKit Go.Sy Go.Rep
set_option maxRecDepth 100000
theorem v_term_zero_nil {w0:World} {F:Nat→Prop} {Q:Value→World→Prop} (h:(((none:Option Addr)=none)→Fin w0 F w0 Q (.bool true))∧((¬((none:Option Addr)=none))→∃a1:Addr,((none:Option Addr)=(some a1))∧∃p1:Option Addr,(At w0 a1 1 [(.pointer p1)])∧Fin w0 F w0 Q (.bool (BE.val (.pr (p1=none)))))):Gets Tryz.prog X.term_zero #[(.pointer none)] w0 F Q:=
 func_run mixed [] [] X.term_zero [SV.ptr none] ⟨by trivial,trivial⟩ (by kernel_rfl) (by kernel_rfl) h
theorem v_term_All_nil {w0:World} {F:Nat→Prop} {Q:Value→World→Prop} (h:∀w1:World,(Below w0.heap.size w0 w1)→Runs Tryz.prog X.term_zero #[(.pointer none)] w1 (fun e1 w2=>∃b1:Bool,(e1=(.returned (.bool b1)))∧((Kept w0.heap.size F [] w1 w2)∧(((b1=true)→Fin w0 F w2 Q (.tuple #[(.slice none 0 0),(.int .i64 0),(.int .i64 1)]))∧((b1=false)→∃a1:Addr,((none:Option Addr)=(some a1))∧∃p1:Option Addr,(At w2 a1 1 [(.pointer p1)])∧∀w3:World,(Below w2.heap.size w2 w3)→Runs Tryz.prog X.screen_History #[(.pointer p1)] w3 (fun e2 w4=>∃p2:Option Addr,(e2=(.returned (.pointer p2)))∧((Kept w0.heap.size F [] w3 w4)∧∃a2:Addr,((none:Option Addr)=(some a2))∧∃p3:Option Addr,(At w4 a2 1 [(.pointer p3)])∧∀w5:World,(Below w4.heap.size w4 w5)→Runs Tryz.prog X.history_All #[(.pointer p2)] w5 (fun e3 w6=>∃p4:Option Addr,∃n1 n2:Nat,(e3=(.returned (.slice p4 n1 n2)))∧((Kept w0.heap.size F [] w5 w6)∧((At w6 a2 1 [(.pointer p3)])∧∀w7:World,(Below w6.heap.size w6 w7)→Runs Tryz.prog X.screen_Lines #[(.pointer p3)] w7 (fun e4 w8=>∃p5:Option Addr,∃n3 n4:Nat,(e4=(.returned (.slice p5 n3 n4)))∧((Kept w0.heap.size F [] w7 w8)∧∃s1:List Value,(Room w0.heap.size F [] w8 T.Line 2 p4 n1 n2 s1 n3)∧∃s2:List Value,(((s2.length)=(n3*2))∧((∀v1:Value,(v1∈s2)→(v1.oneCell')=true)∧(((p5=none)→n3=0)∧∀a3:Addr,(p5=(some a3))→At w8 a3 0 s2)))∧((((n1+n3)*32)≤140737488355328)∧∀w9:World,∀p6:Option Addr,∀n5:Nat,(Grown w8 [] p4 n1 n2 T.Line 2 (n1+n3) (s1++s2) w9 p6 n5)→∀w10:World,(Below w9.heap.size w9 w10)→Runs Tryz.prog X.history_First #[(.pointer p2)] w10 (fun e5 w11=>∃i1:Int,(e5=(.returned (.int .i64 i1)))∧((Kept w0.heap.size F [] w10 w11)∧Fin w0 F w11 Q (.tuple #[(.slice p6 (n1+n3) n5),(.int .i64 i1),(.int .i64 0)])))))))))))))))):Gets Tryz.prog X.term_All #[(.pointer none)] w0 F Q:=
 func_run mixed [] [] X.term_All [SV.ptr none] ⟨by trivial,trivial⟩ (by kernel_rfl) (by kernel_rfl) h
theorem v_evict_all_nil {w0:World} {F:Nat→Prop} {Q:Value→World→Prop} (h:∀n1:Nat,(w0.heap.size≤n1)→∀w1:World,(Below w0.heap.size w0 w1)→(Mine w1 w0.heap.size [(n1,T.Eviction)])→Runs Tryz.prog X.term_All #[(.pointer none)] w1 (fun e1 w2=>∃p1:Option Addr,∃n2 n3:Nat,∃i1 i2:Int,(e1=(.returned (.tuple #[(.slice p1 n2 n3),(.int .i64 i1),(.int .i64 i2)])))∧((Kept w0.heap.size F [n1] w1 w2)∧(((i2≠0)→FinE w0 F w2 [n1] Q (.tuple #[(.slice none 0 0),(.agg #[(.int .i64 0),(.int .i64 0),(.int .i64 0)]),(.int .i64 i2)]))∧((i2=0)→∀w3:World,(Below w2.heap.size w2 w3)→(Mine w3 w0.heap.size [(n1,T.Eviction)])→Runs Tryz.prog X.term_Snapshot #[(.pointer none)] w3 (fun e2 w4=>∃sn1:Sn,(e2=(.returned (.agg sn1.arr)))∧((Kept w0.heap.size F [n1] w3 w4)∧∀n4:Nat,(w4.heap.size≤n4)→(I64 (i1+sn1.hist))∧((I64 (i1+(n2:Int)))∧FinE w0 F w4 [n1] Q (.tuple #[(.slice p1 n2 n3),(.agg #[(.int .i64 i1),(.int .i64 (i1+sn1.hist)),(.int .i64 (i1+(n2:Int)))]),(.int .i64 0)]))))))))):Gets Tryz.prog X.evict_all #[(.pointer none)] w0 F Q:=
 func_run mixed [] [] X.evict_all [SV.ptr none] ⟨by trivial,trivial⟩ (by kernel_rfl) (by kernel_rfl) h
theorem v_evict_Of_nil {w0:World} {F:Nat→Prop} {Q:Value→World→Prop} (h:∀n1:Nat,(w0.heap.size≤n1)→∀w1:World,(Below w0.heap.size w0 w1)→(Mine w1 w0.heap.size [(n1,T.Eviction)])→Runs Tryz.prog X.evict_all #[(.pointer none)] w1 (fun e1 w2=>∃p1:Option Addr,∃n2 n3:Nat,∃ev1:Ev,∃i1:Int,(e1=(.returned (.tuple #[(.slice p1 n2 n3),(.agg #[(.int .i64 ev1.first),(.int .i64 ev1.scr),(.int .i64 ev1.next)]),(.int .i64 i1)])))∧((Kept w0.heap.size F [n1] w1 w2)∧∀n4:Nat,(w2.heap.size≤n4)→FinE w0 F w2 [n1] Q (.tuple #[(.agg #[(.int .i64 ev1.first),(.int .i64 ev1.scr),(.int .i64 ev1.next)]),(.int .i64 i1)])))):Gets Tryz.prog X.evict_Of #[(.pointer none)] w0 F Q:=
 func_run mixed [] [] X.evict_Of [SV.ptr none] ⟨by trivial,trivial⟩ (by kernel_rfl) (by kernel_rfl) h
theorem v_there_nil {w0:World} {F:Nat→Prop} {Q:Value→World→Prop} (want:Ev) (no:Int) (h:∀n1:Nat,(w0.heap.size≤n1)→∀w1:World,(Below w0.heap.size w0 w1)→(Mine w1 w0.heap.size [(n1,T.Eviction)])→Runs Tryz.prog X.evict_Of #[(.pointer none)] w1 (fun e1 w2=>∃ev1:Ev,∃i1:Int,(e1=(.returned (.tuple #[(.agg #[(.int .i64 ev1.first),(.int .i64 ev1.scr),(.int .i64 ev1.next)]),(.int .i64 i1)])))∧((Kept w0.heap.size F [n1] w1 w2)∧∀n2:Nat,(w2.heap.size≤n2)→∃b1:Bool,(∀w5:World,(Op.equal T.Eviction (.agg #[(.int .i64 ev1.first),(.int .i64 ev1.scr),(.int .i64 ev1.next)]) (.agg #[(.int .i64 want.first),(.int .i64 want.scr),(.int .i64 want.next)])).run (Tryz.prog) w5= .ok b1 w5)∧(((b1=true)→Fin w0 F w2 Q (.bool (BE.val (.eq i1 no))))∧((b1=false)→Fin w0 F w2 Q (.bool false)))))):Gets Tryz.prog X.scrollbacklaw37_there #[(.pointer none),(.agg #[(.int .i64 want.first),(.int .i64 want.scr),(.int .i64 want.next)]),(.int .i64 no)] w0 F Q:=
 func_run mixed [] [] X.scrollbacklaw37_there [SV.ptr none,SV.agg (Ev.cod.enc want),SV.int IntKind.i64 no] ⟨by trivial,okA _ _,by trivial,trivial⟩ (by kernel_rfl) (by kernel_rfl) h
end Go.Proofs.YtjhhiindeignaaaGreatDoor
namespace Go.Proofs.YtjhhiindeignaaaGreatDoor
open Go Go.RowKit Go.Sy Go.Rep
set_option maxRecDepth 100000
set_option maxHeartbeats 1000000
theorem r_ref04_same {w:World} {pa pb:Option Addr} {na ca nb cb:Nat} {a:List Cl} (ha:CRow w pa na a) (hb:CRow w pb nb a) (hn:na≤1073741824):Ret X.scrollbackref04_Same #[.slice pa na ca, .slice pb nb cb] w (.bool true):=by
 have hla:=ha.len
 have hlb:=hb.len
 refine v_scrollbackref04_Same pa na ca pb nb cb ⟨fun e=>absurd (by omega) e,fun e=>⟨fun i _=>∃k:Nat,i=k∧k≤na,fun i=>((na:Int)-i).toNat,fun _ _=>⟨0,rfl,by omega⟩,?_⟩⟩
 rintro i w1 hk1 ⟨k,rfl,hk⟩
 refine⟨fun hi=>?_,fun hi=>Fin.of fun _=>rfl⟩
 refine CRow.ex (ha.nix hk1) (by omega) (by omega) fun x _ _=>CRow.ex (hb.nix hk1) (by omega) (by omega) fun y _ _=>⟨_,fun w5=>eq_cell _ _ w5,fun e=>?_,fun e=>⟨by unfold I64;omega,fun w3 _=>⟨⟨k+1,by omega,by omega⟩,by dsimp only;omega⟩⟩⟩
 simp at e
theorem r_ref06_same {w:World} {x y:Lh} {a:List Cl} (ha:LRow w x a) (hb:LRow w y a) (hs:x.soft=y.soft) (hn:x.cells.n≤1073741824):Ret X.scrollbackref06_Same #[.agg x.arr, .agg y.arr] w (.bool true):=by
 refine v_scrollbackref06_Same x y fun n1 _ n2 _=>⟨fun e w2 hbe hm=>(r_ref04_same (ha.nix (Keeps.of_below hbe)) (hb.nix (Keeps.of_below hbe)) hn).runs fun w3 hk=>⟨_,rfl,hk.nix,Fin.of fun _=>rfl⟩,fun e=>absurd (by rw[hs]) e⟩
section
variable {w w':World} {t:Tx} {N:Nat}
theorem LRow.zero (w:World):LRow w ⟨⟨none,0,0⟩,false⟩ []:=⟨rfl,fun _ e=>(by cases e),fun h=>(by change 0<0 at h;omega)⟩
theorem r_law_line {n no:Int} {want:Lh} {wc:List Cl} (hn: -1000000≤n∧n≤1000000) (hL:Laid w) (h:(TmO t).P w) (ok:TqOk N t.tq) (hfn:t.sx.sq.hv.first≤t.sx.sq.hv.next) (hN:N≤1000000000) (hw:LRow w want wc)
  (hc:(((n<0∨(evQ t.sx.sq).next≤n)∧no=3∧wc=[]∧want.soft=false)∨((0≤n∧n<(evQ t.sx.sq).next∧n<(evQ t.sx.sq).first)∧no=14∧wc=[]∧want.soft=false))∨((0≤n∧n<(evQ t.sx.sq).next∧(evQ t.sx.sq).first≤n)∧no=0∧wc.length≤1000∧(allT t.sx.sq)[(n-(evQ t.sx.sq).first).toNat]? =some ⟨wc,want.soft⟩)):
  Ret X.scrollbacklaw37_line #[t.ptr, .int .i64 n, .agg want.arr, .int .i64 no] w (.bool true):=by
 refine v_scrollbacklaw37_line _ n want no fun n1 g1 w1 hb1 hm1=>?_
 have s0:=OS.start (bs:=[n1]) hL h (by simpa using g1)
 have s1:=s0.below hb1
 refine(r_evict_Line hn s1.laid s1.at_ ok hfn hN).runs fun v w2 k2 hv=>?_
 have hw2:LRow w2 want wc:=LRow.nix (LRow.nix hw (Keeps.of_below hb1)) k2
 have fin:∀{lh:Lh} {i1:Int},LRow w2 lh wc→lh.soft=want.soft→i1=no→lh.cells.n≤1000→v= .tuple #[.agg lh.arr, .int .i64 i1]→∃lh1:Lh,∃i1:Int,Ending.returned v= .returned (.tuple #[.agg lh1.arr, .int .i64 i1])∧(Kept w.heap.size Nix [n1] w1 w2∧∀n2:Nat,w2.heap.size≤n2→∀w3:World,Below w2.heap.size w2 w3→Mine w3 w.heap.size [(n1,T.Line),(n2,T.Line)]→Runs Tryz.prog X.scrollbackref06_Same #[.agg lh1.arr, .agg want.arr] w3 (fun e2 w4=>∃b1:Bool,e2= .returned (.bool b1)∧(Kept w.heap.size Nix [n1,n2] w3 w4∧((b1=true→Sy.Fin w Nix w4 (fun v _=>v= .bool true) (.bool (BE.val (.eq i1 no))))∧(b1=false→Sy.Fin w Nix w4 (fun v _=>v= .bool true) (.bool false)))))):=by
  intro lh i1 h1 h2 h3 h4 h5
  refine⟨lh,i1,by rw[h5],k2.nix,fun n2 g2 w3 hb3 hm3=>(r_ref06_same (LRow.nix h1 (Keeps.of_below hb3)) (LRow.nix hw2 (Keeps.of_below hb3)) h2 (by omega)).runs fun w4 k4=>⟨_,rfl,k4.nix,fun _=>Fin.of fun _=>?_,fun e=>(nomatch e)⟩⟩
  rw[bv_eq,decide_eq_true h3]
 rcases hv with(⟨e1,e2⟩|⟨e1,e2⟩)|⟨e1,x,e2,e3,e4⟩
 ·rcases hc with(⟨f1,f2,f3,f4⟩|⟨f1,_⟩)|⟨f1,_⟩
  ·subst f3
   exact fin (lh:=⟨⟨none,0,0⟩,false⟩) (LRow.zero _) f4.symm f2.symm (Nat.zero_le _) e2
  ·omega
  ·omega
 ·rcases hc with(⟨f1,_⟩|⟨f1,f2,f3,f4⟩)|⟨f1,_⟩
  ·omega
  ·subst f3
   exact fin (lh:=⟨⟨none,0,0⟩,false⟩) (LRow.zero _) f4.symm f2.symm (Nat.zero_le _) e2
  ·omega
 ·rcases hc with(⟨f1,_⟩|⟨f1,_⟩)|⟨f1,f2,f3,f4⟩
  ·omega
  ·omega
  ·rw[e4] at f4
   have f5:x.li=⟨wc,want.soft⟩:=Option.some.inj f4
   have c1:x.cs=wc:=congrArg Li.cs f5
   have c2:x.soft=want.soft:=congrArg Li.soft f5
   rw[c1] at e3
   exact fin e3 c2 f2.symm (by show x.cs.length≤1000;rw[c1];exact f3) e2
theorem ints_one (l:List Int) (i:Nat) (h:i<l.length):[Value.int .i64 (l.getD i 0)]=((intsV l).drop (i*1)).take [Value.int .i64 (l.getD i 0)].length:=by
 rw[Nat.mul_one,List.drop_eq_getElem_cons (by simpa[intsV] using h)]
 simp[intsV,h]
theorem IRow.at1 {p:Option Addr} {n:Nat} {l:List Int} (h:IRow w p n l) {i:Int} {R:Int→Addr→Prop} (h0:0≤i) (h1:i<n) (hR:∀a,p=some a→R (l.getD i.toNat 0) a):∃a,p=some a∧((0≤i∧i<n)∧∃c:Int,At w a (i.toNat*1) [.int .i64 c]∧R c a):=by
 obtain⟨a,e⟩:=Row.some_ h (by omega)
 have hl:l.length=n:=by have:=Row.len h;simpa[intsV] using this
 exact⟨a,e,⟨h0,h1⟩,_,Row.at_ h e _ (ints_one l i.toNat (by omega)),hR a e⟩
theorem IRow.size {p:Option Addr} {n:Nat} {l:List Int} (h:IRow w p n l):l.length=n:=by have:=Row.len h;simpa[intsV] using this
theorem IRow.nx {p:Option Addr} {n:Nat} {l:List Int} (h:IRow w p n l) (hk:Keeps Nix w w'):IRow w' p n l:=Row.nix h hk
theorem r_ref37_same {pa pb:Option Addr} {na ca nb cb:Nat} {l:List Int} (ha:IRow w pa na l) (hb:IRow w pb nb l) (hn:na≤1000000):Ret X.scrollbackref37_Same #[.slice pa na ca, .slice pb nb cb] w (.bool true):=by
 have hla:=ha.size
 have hlb:=hb.size
 refine v_scrollbackref37_Same pa na ca pb nb cb ⟨fun e=>absurd (by omega) e,fun e=>⟨fun i _=>∃k:Nat,i=k∧k≤na,fun i=>((na:Int)-i).toNat,fun _ _=>⟨0,rfl,by omega⟩,?_⟩⟩
 rintro i w1 hk1 ⟨k,rfl,hk⟩
 refine⟨fun hi=>?_,fun hi=>Fin.of fun _=>rfl⟩
 exact IRow.at1 (ha.nx hk1) (by omega) (by omega) fun x _=>IRow.at1 (hb.nx hk1) (by omega) (by omega) fun y _=>⟨fun e=>absurd rfl e,fun e=>⟨by unfold I64;omega,fun w3 _=>⟨⟨k+1,by omega,by omega⟩,by dsimp only;omega⟩⟩⟩
end
end Go.Proofs.YtjhhiindeignaaaGreatDoor
namespace Go.Proofs.YtjhhiindeignaaaGreatDoor
open Go Go.RowKit Go.Sy Go.Rep
set_option maxRecDepth 100000
set_option maxHeartbeats 1000000
def keptL (a b:Int) (l:List Int):List Int:=l.filter fun n=>decide (a≤n)&&decide (n<b)
theorem keptL_snoc (a b:Int) (l:List Int) (x:Int):keptL a b (l++[x])=keptL a b l++(if a≤x∧x<b then[x] else[]):=by
 unfold keptL
 rw[List.filter_append]
 congr 1
 simp only[List.filter_cons,List.filter_nil,Bool.and_eq_true,decide_eq_true_eq]
theorem keptL_take {a b:Int} {l:List Int} {i:Nat} (h:i<l.length):keptL a b (l.take (i+1))=keptL a b (l.take i)++(if a≤l.getD i 0∧l.getD i 0<b then[l.getD i 0] else[]):=by
 rw[List.take_add_one,List.getElem?_eq_getElem h]
 have e:l.getD i 0=l[i]:=by simp[h]
 rw[e]
 exact keptL_snoc a b _ _
theorem keptL_len (a b:Int) (l:List Int):(keptL a b l).length≤l.length:=List.length_filter_le _ _
section
variable {w w':World} {t:Tx} {N:Nat}
theorem r_evict_Kept {pl:Option Addr} {nl cl:Nat} {l:List Int} (hL:Laid w) (h:(TmO t).P w) (ok:TqOk N t.tq) (hfn:t.sx.sq.hv.first≤t.sx.sq.hv.next) (hN:N≤1000000000) (hl:IRow w pl nl l) (hnl:nl≤1000000):
  Gets Tryz.prog X.evict_Kept #[t.ptr, .slice pl nl cl] w Nix (fun v w'=>∃q d,v= .tuple #[.slice q (keptL (evQ t.sx.sq).first (evQ t.sx.sq).next l).length d, .int .i64 0]∧IRow w' q (keptL (evQ t.sx.sq).first (evQ t.sx.sq).next l).length (keptL (evQ t.sx.sq).first (evQ t.sx.sq).next l)):=by
 have hll:=hl.size
 refine v_evict_Kept _ pl nl cl fun w1 hb1=>?_
 have s0:=OS.start (bs:=[]) hL h (by simp)
 have s1:=s0.below hb1
 refine(r_evict_Of s1.laid s1.at_ ok hfn (by omega)).runs fun v w2 k2 hv=>?_
 subst hv
 obtain⟨a,ha⟩:∃a,(evQ t.sx.sq).first=a:=⟨_,rfl⟩
 obtain⟨b,hb⟩:∃b,(evQ t.sx.sq).next=b:=⟨_,rfl⟩
 rw[ha,hb]
 have s2:=s1.nix k2
 have hz2:w.heap.size≤w2.heap.size:=s2.kept.size
 refine⟨evQ t.sx.sq,_,rfl,k2.nix,fun n1 g1=>⟨fun e=>absurd rfl e,fun _=>⟨fun p n d i V=>∃j:Nat,i=j∧j≤nl∧n=(keptL a b (l.take j)).length∧Own w.heap.size V T.int 1 p n d (intsV (keptL a b (l.take j)))∧(∀a',p=some a'→a'.block≠n1)∧w2.heap.size≤V.heap.size,fun _ _ _ i=>((nl:Int)-i).toNat,fun V hbV=>⟨0,rfl,Nat.zero_le _,rfl,Own.nil _ _ _ _,fun a' e=>(by cases e),hbV.size⟩,?_⟩⟩⟩
 rintro p n d i w3 hk3 ⟨j,rfl,hj,rfl,ho,hn1,hz3⟩
 have hlen:=keptL_len a b (l.take j)
 rw[List.length_take] at hlen
 refine⟨fun hi=>?_,fun hi w' hbW hkW=>?_⟩
 ·refine IRow.at1 (hl.nx hk3) (by omega) hi fun ad had=>?_
  rw[Int.toNat_natCast]
  have step:=keptL_take (a:=a) (b:=b) (l:=l) (i:=j) (by omega)
  rw[ha,hb]
  refine⟨fun e1=>⟨fun e2 n4 g4=>?_,fun e2=>⟨by unfold I64;omega,fun w6 hb6=>⟨⟨j+1,by omega,by omega,?_,?_,hn1,by have:=hb6.size;omega⟩,by dsimp only;omega⟩⟩⟩,fun e1=>⟨by unfold I64;omega,fun w5 hb5=>⟨⟨j+1,by omega,by omega,?_,?_,hn1,by have:=hb5.size;omega⟩,by dsimp only;omega⟩⟩⟩
  ·refine⟨_,ho.room (fun a' ha' hm=>?_) (fun _ a' ha' hl'=>by have:=(ho.lt a' ha').2.1;omega),by omega,fun w7 p2 n5 hg hnb=>⟨by unfold I64;omega,fun w8 hb8=>⟨⟨j+1,by omega,by omega,?_,?_,fun a' ha' e=>hnb a' ha' (by simp[e]),?_⟩,by dsimp only;omega⟩⟩⟩
   ·have h1:=(ho.lt a' ha').1
    simp only[List.mem_cons,List.not_mem_nil,or_false] at hm
    rcases hm with e|e
    ·exact hn1 a' ha' e
    ·omega
   ·rw[step,if_pos ⟨e1,e2⟩,List.length_append]
    rfl
   ·rw[step,if_pos ⟨e1,e2⟩]
    unfold intsV
    rw[List.map_append]
    exact(hg.own (by omega) fun a' ha'=>(ho.lt a' ha').2.1).below hb8
   ·have:=hg.size
    have:=hb8.size
    omega
  ·rw[step,if_neg (by omega),List.append_nil]
  ·rw[step,if_neg (by omega),List.append_nil]
   exact ho.below hb6
  ·rw[step,if_neg (by omega),List.append_nil]
  ·rw[step,if_neg (by omega),List.append_nil]
   exact ho.below hb5
 ·obtain rfl:j=nl:=by omega
  rw[List.take_of_length_le (by omega)] at ho⊢
  exact⟨p,d,rfl,(ho.below hbW).row⟩
theorem r_law_kept {pl pw:Option Addr} {nl cl nw cw:Nat} {l:List Int} (hL:Laid w) (h:(TmO t).P w) (ok:TqOk N t.tq) (hfn:t.sx.sq.hv.first≤t.sx.sq.hv.next) (hN:N≤1000000000) (hl:IRow w pl nl l) (hnl:nl≤1000000) (hw:IRow w pw nw (keptL (evQ t.sx.sq).first (evQ t.sx.sq).next l)):
  Ret X.scrollbacklaw37_kept #[t.ptr, .slice pl nl cl, .int .i64 0, .slice pw nw cw] w (.bool true):=by
 refine v_scrollbacklaw37_kept _ pl nl cl 0 pw nw cw fun w1 hb1=>?_
 have s0:=OS.start (bs:=[]) hL h (by simp)
 have s1:=s0.below hb1
 refine(r_evict_Kept s1.laid s1.at_ ok hfn hN (hl.nx (Keeps.of_below hb1)) hnl).runs fun v w2 k2 ⟨q,d,hv,hr⟩=>?_
 subst hv
 have hlen:=keptL_len (evQ t.sx.sq).first (evQ t.sx.sq).next l
 have hll:=hl.size
 refine⟨_,_,_,_,rfl,k2.nix,fun w3 hb3=>(r_ref37_same (hr.nx (Keeps.of_below hb3)) (((hw.nx (Keeps.of_below hb1)).nx k2).nx (Keeps.of_below hb3)) (by omega)).runs fun w4 k4=>⟨_,rfl,k4.nix,fun _=>Fin.of fun _=>?_,fun e=>(nomatch e)⟩⟩
 rw[bv_eq]
 rfl
theorem r_place_wide {c:Int} (h:1≤c∧c≤1000):Ret X.place_wide #[.int .i64 c] w (.bool true):=
 v_place_wide c ⟨fun _=>Fin.of fun _=>by rw[bv_le,decide_eq_true h.2],fun e=>absurd h.1 (by omega)⟩
theorem r_place_Clamp {p:Go.Rep.Pl} {a b c:Int} (h0:0≤a) (h1:a<b) (h2:b≤1099511627777) (hc:1≤c∧c≤1000) (hp:a≤p.line∧p.line<b) (hq:0≤p.col∧p.col<c):Gets Tryz.prog X.place_Clamp #[.agg p.arr, .int .i64 a, .int .i64 b, .int .i64 c] w Nix (fun v _=>v= .tuple #[.agg p.arr, .int .i64 0]):=by
 refine v_place_Clamp p a b c fun n1 g1 n2 g2=>⟨fun e=>absurd e (by omega),fun _=>⟨fun e=>absurd e (by omega),fun _=>⟨fun e=>absurd e (by omega),fun _ w1 hb1 hm1=>(r_place_wide hc).runs fun w2 k2=>⟨_,rfl,k2.nix,fun e=>(nomatch e),fun _=>⟨fun e=>absurd e (by omega),fun _=>⟨fun e=>absurd e (by omega),fun _=>⟨by unfold I64;omega,FinE.of fun _=>?_⟩⟩⟩⟩⟩⟩⟩
 rw[show min (max p.col 0) (c-1)=p.col by omega]
theorem r_evict_Clamp {p:Go.Rep.Pl} (hL:Laid w) (h:(TmO t).P w) (ok:TqOk N t.tq) (hfn:t.sx.sq.hv.first≤t.sx.sq.hv.next) (hN:N≤1000000000) (hp:(evQ t.sx.sq).first≤p.line∧p.line<(evQ t.sx.sq).next) (hq:0≤p.col∧p.col<t.sx.sq.cols) (hx:(evQ t.sx.sq).next≤1099511627777):
  Gets Tryz.prog X.evict_Clamp #[t.ptr, .agg p.arr] w Nix (fun v _=>v= .tuple #[.agg p.arr, .int .i64 0]):=by
 refine v_evict_Clamp _ p fun n1 g1 n2 g2 w1 hb1 hm1=>?_
 have s0:=OS.start (bs:=[n1,n2]) hL h (by simp<;>omega)
 have s1:=s0.below hb1
 refine(r_evict_Of s1.laid s1.at_ ok hfn (by omega)).runs fun v w2 k2 hv=>?_
 subst hv
 have s2:=s1.nix k2
 refine⟨evQ t.sx.sq,_,rfl,k2.nix,fun n3 g3=>⟨fun e=>absurd rfl e,fun _ w3 hb3 hm3=>?_⟩⟩
 have s3:=s2.below hb3
 refine(r_term_Snapshot s3.laid s3.at_ ok).runs fun v w4 k4 ⟨q,c,ys,hv,_⟩=>?_
 subst hv
 have hc1:=ok.sq.c1
 have hc2:=ok.sq.c2
 have h0:0≤(evQ t.sx.sq).first:=by unfold evQ;dsimp only;omega
 refine⟨_,rfl,k4.nix,fun w5 hb5 hm5=>(r_place_Clamp (p:=p) h0 (by omega) hx ⟨hc1,hc2⟩ hp hq).runs fun v w6 k6 hv=>?_⟩
 subst hv
 exact⟨p,_,rfl,k6.nix,FinE.of fun _=>rfl⟩
theorem r_there_nil:Ret X.scrollbacklaw37_there #[.pointer none, .agg #[.int .i64 0, .int .i64 0, .int .i64 0], .int .i64 1] w (.bool true):=by
 have z0:∀{w:World},Ret X.term_zero #[.pointer none] w (.bool true):=v_term_zero_nil ⟨fun _=>Fin.of fun _=>rfl,fun e=>absurd rfl e⟩
 have z1:∀{w:World},Ret X.term_All #[.pointer none] w (.tuple #[.slice none 0 0, .int .i64 0, .int .i64 1]):=v_term_All_nil fun w1 hb1=>z0.runs fun w2 k2=>⟨_,rfl,k2.nix,fun _=>Fin.of fun _=>rfl,fun e=>(nomatch e)⟩
 have z2:∀{w:World},Ret X.evict_all #[.pointer none] w (.tuple #[.slice none 0 0, .agg #[.int .i64 0, .int .i64 0, .int .i64 0], .int .i64 1]):=v_evict_all_nil fun n1 g1 w1 hb1 hm1=>z1.runs fun w2 k2=>⟨_,_,_,_,_,rfl,k2.nix,fun _=>FinE.of fun _=>rfl,fun e=>absurd e (by decide)⟩
 have z3:∀{w:World},Ret X.evict_Of #[.pointer none] w (.tuple #[.agg #[.int .i64 0, .int .i64 0, .int .i64 0], .int .i64 1]):=v_evict_Of_nil fun n1 g1 w1 hb1 hm1=>z2.runs fun w2 k2=>⟨_,_,_,⟨0,0,0⟩,_,rfl,k2.nix,fun n4 g4=>FinE.of fun _=>rfl⟩
 refine v_there_nil ⟨0,0,0⟩ 1 fun n1 g1 w1 hb1 hm1=>z3.runs fun w2 k2=>⟨⟨0,0,0⟩,_,rfl,k2.nix,fun n2 g2=>⟨_,fun w5=>eq_ev _ _ w5,fun _=>Fin.of fun _=>?_,fun e=>by simp at e⟩⟩
 rw[bv_eq]
 rfl
end
end Go.Proofs.YtjhhiindeignaaaGreatDoor
namespace Go.Proofs.YtjhhiindeignaaaGreatDoor
open Go Go.RowKit Go.Sy Go.Rep
set_option maxRecDepth 100000
theorem v_scrollbacklaw37_of {w0:World} {F:Nat→Prop} {Q:Value→World→Prop} (s:List UInt8) (h:∃I1:Option Addr→Nat→Nat→Int→World→Prop,∃I2:Option Addr→Nat→Nat→Int→Nat,(∀w9:World,(Below w0.heap.size w0 w9)→I1 none 0 0 0 w9)∧∀p1:Option Addr,∀n1 n2:Nat,∀i1:Int,∀w1:World,(Keeps F w0 w1)→(I1 p1 n1 n2 i1 w1)→((i1<((s.length):Int))→(((0:Int)≤i1)∧(i1<((s.length):Int)))∧((((byteAt s i1)=87)→∀n7:Nat,(w1.heap.size≤n7)→∃s3:List Value,(Room w0.heap.size F [n7] w1 T.Cell 16 p1 n1 n2 s3 2)∧((((n1+2)*64)≤140737488355328)∧∀w7:World,∀p4:Option Addr,∀n8:Nat,(Grown w1 [] p1 n1 n2 T.Cell 16 (n1+2) (s3++[(.int .i32 19968),(.int .i32 0),(.int .i32 0),(.int .i32 0),(.int .i64 2),(.int .i64 0),(.int .u8 0),(.int .u8 0),(.int .u8 0),(.int .u8 0),(.int .i64 0),(.int .u8 0),(.int .u8 0),(.int .u8 0),(.int .u8 0),(.int .u8 0),(.int .i32 0),(.int .i32 0),(.int .i32 0),(.int .i32 0),(.int .i64 0),(.int .i64 0),(.int .u8 0),(.int .u8 0),(.int .u8 0),(.int .u8 0),(.int .i64 0),(.int .u8 0),(.int .u8 0),(.int .u8 0),(.int .u8 0),(.int .u8 0)]) w7 p4 n8)→(∀a3:Addr,(p4=(some a3))→¬(a3.block∈[n7]))→(I64 (i1+1))∧∀w8:World,(Below w7.heap.size w7 w8)→(I1 p4 (n1+2) n8 (i1+1) w8)∧(I2 p4 (n1+2) n8 (i1+1)<I2 p1 n1 n2 i1)))∧(((byteAt s i1)≠87)→(((byteAt s i1)=95)→∀n5:Nat,(w1.heap.size≤n5)→∃s2:List Value,(Room w0.heap.size F [n5] w1 T.Cell 16 p1 n1 n2 s2 1)∧((((n1+1)*64)≤140737488355328)∧∀w5:World,∀p3:Option Addr,∀n6:Nat,(Grown w1 [] p1 n1 n2 T.Cell 16 (n1+1) (s2++[(.int .i32 0),(.int .i32 0),(.int .i32 0),(.int .i32 0),(.int .i64 1),(.int .i64 0),(.int .u8 0),(.int .u8 0),(.int .u8 0),(.int .u8 0),(.int .i64 0),(.int .u8 0),(.int .u8 0),(.int .u8 0),(.int .u8 0),(.int .u8 0)]) w5 p3 n6)→(∀a2:Addr,(p3=(some a2))→¬(a2.block∈[n5]))→(I64 (i1+1))∧∀w6:World,(Below w5.heap.size w5 w6)→(I1 p3 (n1+1) n6 (i1+1) w6)∧(I2 p3 (n1+1) n6 (i1+1)<I2 p1 n1 n2 i1)))∧(((byteAt s i1)≠95)→(((0:Int)≤i1)∧(i1<((s.length):Int)))∧∀n3:Nat,(w1.heap.size≤n3)→∃s1:List Value,(Room w0.heap.size F [n3] w1 T.Cell 16 p1 n1 n2 s1 1)∧((((n1+1)*64)≤140737488355328)∧∀w3:World,∀p2:Option Addr,∀n4:Nat,(Grown w1 [] p1 n1 n2 T.Cell 16 (n1+1) (s1++[(.int .i32 (IntKind.wrap .i32 (byteAt s i1))),(.int .i32 0),(.int .i32 0),(.int .i32 0),(.int .i64 1),(.int .i64 0),(.int .u8 0),(.int .u8 0),(.int .u8 0),(.int .u8 0),(.int .i64 0),(.int .u8 0),(.int .u8 0),(.int .u8 0),(.int .u8 0),(.int .u8 0)]) w3 p2 n4)→(∀a1:Addr,(p2=(some a1))→¬(a1.block∈[n3]))→(I64 (i1+1))∧∀w4:World,(Below w3.heap.size w3 w4)→(I1 p2 (n1+1) n4 (i1+1) w4)∧(I2 p2 (n1+1) n4 (i1+1)<I2 p1 n1 n2 i1))))))∧((((s.length):Int)≤i1)→Fin w0 F w1 Q (.slice p1 n1 n2))):Gets Tryz.prog X.scrollbacklaw37_of #[(.string ⟨s.toArray⟩)] w0 F Q:=
 func_run mixed [⟨3,[3,4],[]⟩] [] X.scrollbacklaw37_of [SV.str s] ⟨by trivial,trivial⟩ (by kernel_rfl) (by kernel_rfl) h
end Go.Proofs.YtjhhiindeignaaaGreatDoor
namespace Go.Proofs.YtjhhiindeignaaaGreatDoor
open Go Go.RowKit Go.Sy Go.Rep
set_option maxRecDepth 100000
set_option maxHeartbeats 1000000
def cellB (b:UInt8):Cl:=if b=95 then⟨0,0,0,0,1,⟨⟨0,0,0,0,0⟩,⟨0,0,0,0,0⟩,0⟩⟩ else⟨b.toNat,0,0,0,1,⟨⟨0,0,0,0,0⟩,⟨0,0,0,0,0⟩,0⟩⟩
def strsV (l:List (List UInt8)):List Value:=l.map fun s=> .string ⟨s.toArray⟩
theorem byteAt_eq {s:List UInt8} {j:Nat} (h:j<s.length):byteAt s j=(s[j].toNat:Int):=by
 unfold byteAt
 rw[Int.toNat_natCast,List.getD_eq_getElem?_getD,List.getElem?_eq_getElem h]
 rfl
section
variable {w w':World}
theorem r_law_of {s:List UInt8} (hW:∀b∈s,b≠87) (hs:s.length≤1000):Gets Tryz.prog X.scrollbacklaw37_of #[.string ⟨s.toArray⟩] w Nix (fun v w'=>∃p c,v= .slice p s.length c∧OwnC w.heap.size w' p s.length c (s.map cellB)):=by
 refine v_scrollbacklaw37_of s ⟨fun p n c i V=>∃j:Nat,i=j∧j≤s.length∧n=j∧OwnC w.heap.size V p j c ((s.take j).map cellB)∧w.heap.size≤V.heap.size,fun _ _ _ i=>((s.length:Int)-i).toNat,fun V hb=>⟨0,rfl,Nat.zero_le _,rfl,Own.nil _ _ _ _,hb.size⟩,?_⟩
 rintro p n c i w1 hk1 ⟨j,rfl,hj,rfl,ho,hz⟩
 refine⟨fun hi=>⟨⟨by omega,hi⟩,?_⟩,fun hi w' hb _=>?_⟩
 ·have hjs:n<s.length:=by omega
  have hbt:=byteAt_eq hjs
  have hmem:s[n]∈s:=List.getElem_mem hjs
  have step:(s.take (n+1)).map cellB=(s.take n).map cellB++[cellB s[n]]:=by
   rw[List.take_add_one,List.getElem?_eq_getElem hjs,List.map_append]
   rfl
  have next:∀{x:Cl} {w7:World} {p4:Option Addr} {n8:Nat},cellB s[n]=x→Grown w1 [] p n c T.Cell 16 (n+1) (cvals ((s.take n).map cellB)++x.arr.toList) w7 p4 n8→I64 ((n:Int)+1)∧∀w8:World,Below w7.heap.size w7 w8→(∃j:Nat,(n:Int)+1=j∧j≤s.length∧n+1=j∧OwnC w.heap.size w8 p4 j n8 ((s.take j).map cellB)∧w.heap.size≤w8.heap.size)∧((s.length:Int)-((n:Int)+1)).toNat<((s.length:Int)-(n:Int)).toNat:=by
   intro x w7 p4 n8 hx hg
   refine⟨by unfold I64;omega,fun w8 hb8=>⟨⟨n+1,by omega,by omega,rfl,?_,?_⟩,by omega⟩⟩
   ·rw[step,hx]
    unfold OwnC
    rw[cvals_append]
    have:cvals [x]=x.arr.toList:=by simp[cvals]
    rw[this]
    exact(hg.own hz fun a ha=>(ho.lt a ha).2.1).below hb8
   ·have:=hg.size
    have:=hb8.size
    omega
  have room:∀{k n7:Nat},w1.heap.size≤n7→Room w.heap.size Nix [n7] w1 T.Cell 16 p n c (cvals ((s.take n).map cellB)) k:=fun g=>ho.room (fun a ha hm=>by
   have:=(ho.lt a ha).1
   simp only[List.mem_cons,List.not_mem_nil,or_false] at hm
   omega) (fun _ a ha hl=>by have:=(ho.lt a ha).2.1;omega)
  refine⟨fun e=>?_,fun e=>⟨fun e2 n5 g5=>⟨_,room g5,by omega,fun w5 p3 n6 hg _=>next (x:=⟨0,0,0,0,1,⟨⟨0,0,0,0,0⟩,⟨0,0,0,0,0⟩,0⟩⟩) ?_ hg⟩,fun e2=>⟨⟨by omega,hi⟩,fun n3 g3=>⟨_,room g3,by omega,fun w3 p2 n4 hg _=>next (x:=⟨IntKind.wrap .i32 (byteAt s n),0,0,0,1,⟨⟨0,0,0,0,0⟩,⟨0,0,0,0,0⟩,0⟩⟩) ?_ hg⟩⟩⟩⟩
  ·refine absurd ?_ (hW _ hmem)
   rw[hbt] at e
   exact UInt8.toNat_inj.1 (show s[n].toNat=87 by omega)
  ·rw[hbt] at e2
   rw[cellB,if_pos (UInt8.toNat_inj.1 (show s[n].toNat=(95:UInt8).toNat by show s[n].toNat=95;omega))]
  ·rw[hbt] at e2
   have h255:=s[n].toNat_lt
   have e9:IntKind.wrap .i32 (s[n].toNat:Int)=s[n].toNat:=by rw[IntKind.wrap_i32];omega
   rw[cellB,if_neg (fun u=>e2 (by rw[u];rfl)),hbt,e9]
 ·obtain rfl:n=s.length:=by omega
  rw[List.take_of_length_le (Nat.le_refl _)] at ho
  exact⟨p,c,rfl,ho.below hb⟩
def rowsQ (ss:List (List UInt8)):List Li:=ss.map fun s=>⟨s.map cellB,false⟩
theorem r_law_rows {pl:Option Addr} {nl cl:Nat} {ss:List (List UInt8)} (hL:Laid w) (hr:Row w pl nl 1 (strsV ss)) (hn:nl≤1000) (hW:∀s∈ss,(∀b∈s,b≠87)∧0<s.length∧s.length≤1000∧s.getLast?≠some 45):
  Gets Tryz.prog X.scrollbacklaw37_rows #[.slice pl nl cl] w Nix (fun v w'=>∃p c xs,v= .slice p nl c∧lis xs=rowsQ ss∧Lines w' p nl c xs∧∀i,LsF p xs i→w.heap.size≤i):=by
 have hY:=hL.size
 have hl:ss.length=nl:=by have:=hr.len;simpa[strsV] using this
 refine v_scrollbacklaw37_rows pl nl cl ⟨fun p n c i V=>∃j:Nat,∃xs,i=j∧j≤nl∧n=j∧lis xs=rowsQ (ss.take j)∧Lines V p j c xs∧(∀i,LsF p xs i→w.heap.size≤i)∧w.heap.size≤V.heap.size,fun _ _ _ i=>((nl:Int)-i).toNat,fun V hb=>⟨0,[],rfl,Nat.zero_le _,rfl,rfl,Lines.nil,fun i hi=>(LsF.nil hi).elim,hb.size⟩,?_⟩
 rintro p n c i w1 hk1 ⟨j,xs,rfl,hj,rfl,hx,hls,hF,hz⟩
 refine⟨fun hi=>?_,fun hi w' hb _=>?_⟩
 ·have hjs:n<ss.length:=by omega
  obtain⟨a,ha⟩:=hr.some_ (by omega)
  obtain⟨h1,h2,h3,h4⟩:=hW ss[n] (List.getElem_mem hjs)
  have hat:At w1 a (n*1) [.string ⟨ss[n].toArray⟩]:=Row.at_ (Row.nix hr hk1) ha _ (us:=[.string ⟨ss[n].toArray⟩]) (by
   show _=((strsV ss).drop (n*1)).take 1
   rw[Nat.mul_one,List.drop_eq_getElem_cons (by simp[strsV];omega)]
   simp[strsV])
  have hlast:byteAt ss[n] (((ss[n].length:Nat):Int)-1)≠45:=by
   rw[show(((ss[n].length:Nat):Int)-1)=((ss[n].length-1:Nat):Int) by omega,byteAt_eq (by omega)]
   intro e
   apply h4
   rw[List.getLast?_eq_getElem?,List.getElem?_eq_getElem (by omega)]
   exact congrArg some (UInt8.toNat_inj.1 (by show _=(45:UInt8).toNat;show _=45;omega))
  refine⟨a,ha,⟨by omega,hi⟩,ss[n],by rw[Int.toNat_natCast];exact hat,fun _=>⟨by unfold I64;omega,⟨by omega,by omega⟩,fun e=>absurd e hlast,fun _ w7 hb7=>?_⟩,fun e=>absurd e (by omega)⟩
  refine(r_law_of h1 h3).runs fun v w8 k8 ⟨p4,n8,hv,hoc⟩=>?_
  subst hv
  have k18:=(Keeps.of_below hb7).trans k8
  have hls8:=hls.nix k18
  have hz7:=hb7.size
  have hz8:=k8.size
  refine⟨_,_,_,rfl,k8.nix,fun n9 g9=>⟨_,hls8.row.room (fun ad had hm=>?_) (fun _ ad had hl'=>?_),by omega,fun w9 p5 n10 hg _=>⟨by unfold I64;omega,fun w10 hb10=>?_⟩⟩⟩
  ·have:=(hls8.row.lt ad had).1
   simp only[List.mem_cons,List.not_mem_nil,or_false] at hm
   omega
  ·have:=hF _ (.inl ⟨ad,had,rfl⟩)
   omega
  ·have hsl:(ss[n].map cellB).length=ss[n].length:=List.length_map ..
   have hx9:LnOwn w8 ⟨p4,n8,ss[n].map cellB,false⟩:=by
    show OwnC Y.count w8 p4 (ss[n].map cellB).length n8 (ss[n].map cellB)
    rw[hsl]
    exact Own.low hoc (by omega)
   rw[show BE.val (.eq (byteAt ss[n] (((ss[n].length:Nat):Int)-1)) 45)=false by rw[bv_eq,decide_eq_false hlast]] at hg
   have hg':Grown w8 [] p n c T.Line 2 (n+1) (hdrs xs++(⟨p4,n8,ss[n].map cellB,false⟩:Ln).lh.arr.toList) w9 p5 n10:=by
    show Grown _ _ _ _ _ _ _ _ (hdrs xs++[.slice p4 (ss[n].map cellB).length n8, .bool false]) _ _ _
    rw[hsl]
    exact hg
   obtain⟨q1,q2,q3⟩:=Lines.push (by omega) hls8 hx9 (fun i hi hc=>by
    obtain⟨b,hb,e⟩:=LF.one.1 hi
    have l1:=(hoc.lt b hb).2.1
    have l2:i<w1.heap.size:=by
     rcases hc with⟨a',ha',rfl⟩|hf
     ·exact(hls.row.lt a' ha').1
     ·exact hls.each.lt hf
    omega) hg'
   refine⟨⟨n+1,_,by omega,by omega,rfl,?_,q1.nix (Keeps.of_below hb10),fun i hi=>?_,?_⟩,by dsimp only;omega⟩
   ·unfold lis at hx⊢
    rw[List.map_append,hx,List.take_add_one,List.getElem?_eq_getElem hjs]
    unfold rowsQ
    rw[List.map_append]
    rfl
   ·rcases q2 i hi with u|u|u
    ·exact hF i u
    ·obtain⟨b,hb,e⟩:=LF.one.1 u
     have:=(hoc.lt b hb).2.1
     omega
    ·omega
   ·have:=hg.size
    have:=hb10.size
    omega
 ·obtain rfl:n=nl:=by omega
  rw[List.take_of_length_le (by omega)] at hx
  exact⟨p,c,xs,rfl,hx,hls.nix (Keeps.of_below hb),hF⟩
end
end Go.Proofs.YtjhhiindeignaaaGreatDoor
namespace Go.Proofs.YtjhhiindeignaaaGreatDoor
open Go Go.RowKit Go.Sy Go.Rep
set_option maxRecDepth 100000
set_option maxHeartbeats 1000000
abbrev rawC (pv tv:Value) (s:Sx):List Value:=
 [.int .i64 s.rows, .int .i64 s.cols,pv,s.hi.ptr]++(s.cu.arr.toList++(s.pen.arr.toList++(s.md.arr.toList++(s.rg.arr.toList++([tv]++(s.cs.arr.toList++(s.s0.arr.toList++(s.s1.arr.toList++[.string ⟨s.title.toArray⟩, .string ⟨s.link.toArray⟩, .string ⟨s.reps.toArray⟩, .int .i64 s.pushed]))))))))
def newQ (rows cols:Int) (hv:Rg') (title reps:List UInt8) (pushed:Int):Sq:=⟨rows,cols,newV rows.toNat cols.toNat,hv,zCu,zPn,newMd,⟨0,rows-1⟩,fillQ cols 0 [],zCs,zSv,zSv,title,[],reps,pushed,cols⟩
section
variable {w0 w w' w1:World} {F0:Nat→Prop} {bs:List Nat} {o o':Ob} {l1 l2:List Ob} {R:Ending→World→Prop} {f:FuncId} {args:Array Value} {s s':Sx} {t t':Tx}
abbrev RaO (s:Sx):Ob:=Ob.sep [Ob.hist s.hi,Ob.none,Ob.blk s.b T.screen_Screen (rawC (.pointer none) (.pointer none) s),Ob.none]
theorem r_screen_reset0 {rows cols:Nat} (hL:Laid w) (h:(RaO s).P w) (hr:s.rows=rows) (hc:s.cols=cols) (r1:1≤rows) (r2:rows≤1000) (c1:1≤cols) (c2:cols≤1000):Gets Tryz.prog X.screen_reset #[s.ptr] w (RaO s).F (fun v w'=>v= .int .i64 0∧∃s',s'.b=s.b∧s'.sq=newQ s.rows s.cols s.hi.r.rg s.title s.reps s.pushed∧(SsO s').P w'∧∀i,(SsO s').F i→(RaO s).F i∨w.heap.size≤i):=by
 have hY:=hL.size
 generalize hRF:(RaO s).F=RF
 have s0:OS w RF [] (RaO s) w:=by rw[←hRF];exact OS.start (bs:=[]) hL h (by simp)
 have cell0:∀{V:World} {pv:Value} {k:Nat} {us:List Value},OS w RF [] (Ob.sep [Ob.hist s.hi,Ob.none,Ob.blk s.b T.screen_Screen (rawC pv (.pointer none) s),Ob.none]) V→us=((rawC pv (.pointer none) s).drop k).take us.length→At V ⟨s.b,0,none⟩ k us:=fun hV hu=>OS.cells [Ob.hist s.hi,Ob.none] [Ob.none] hV (show 73≤maxLen by decide) hu
 refine v_screen_reset _ ⟨rows,by rw[←hr];exact cell0 s0 rfl,cols,by rw[←hc];exact cell0 s0 rfl,fun w1 hb1=>?_⟩
 have s1:=s0.below hb1
 have lt1:∀i,(RaO s).F i→i<w1.heap.size:=fun i hi=>(RaO s).lt s1.at_ hi
 have hbF:(RaO s).F s.b:=⟨Ob.blk s.b T.screen_Screen (rawC (.pointer none) (.pointer none) s),List.Mem.tail _ (List.Mem.tail _ (List.Mem.head _)),rfl⟩
 refine OS.made s1 (fun _ b=>r_alternate_New b r1 r2 c1 c2) fun v w2 ⟨q,hv,hqv,hqP,hqF⟩ s2 hk2=>⟨_,_,congrArg Ending.returned hv,hk2.nix,OS.can (n:=1) [Ob.hist s.hi,Ob.none] [Ob.none] s2 (show 2+1≤73 by omega),fun w3 hp3=>⟨fun e=>absurd rfl e,fun _=>?_⟩⟩
 have hs1:=s1.kept.size
 have p3:OS w RF [] (Ob.sep [Ob.hist s.hi,Ob.none,Ob.blk s.b T.screen_Screen (rawC q.ptr (.pointer none) s),Ob.none]) w3:=OS.put (n:=0) [Ob.hist s.hi,Ob.none] [Ob.none] s2 (show 2+1≤73 by omega) hp3
 have hq3:(PdO q).P w3:=(PdO q).keeps hqP (hp3.keeps (F:=fun i=>i=s.b) rfl) fun i hi hf=>by have:=hqF i hf;have:=lt1 s.b hbF;omega
 have s3:OS w RF [] (Ob.sep [Ob.hist s.hi,Ob.none,Ob.blk s.b T.screen_Screen (rawC q.ptr (.pointer none) s),PdO q]) w3:=OS.swapNew [Ob.hist s.hi,Ob.none,Ob.blk s.b T.screen_Screen (rawC q.ptr (.pointer none) s)] [] p3 (fun i hi=>lt1 i (F_blk (l1:=[Ob.hist s.hi,Ob.none]) (l2:=[Ob.none]) hi)) hq3 hqF hs1 (by simp)
 have cell3:∀{V:World} {k:Nat} {us:List Value},OS w RF [] (Ob.sep [Ob.hist s.hi,Ob.none,Ob.blk s.b T.screen_Screen (rawC q.ptr (.pointer none) s),PdO q]) V→us=((rawC q.ptr (.pointer none) s).drop k).take us.length→At V ⟨s.b,0,none⟩ k us:=fun hV hu=>OS.cells [Ob.hist s.hi,Ob.none] [PdO q] hV (show 73≤maxLen by decide) hu
 refine⟨cols,by rw[←hc];exact cell3 s3 rfl,fun w4 hb4=>?_⟩
 have s4:=s3.below hb4
 have lt4:∀i,(Ob.sep [Ob.hist s.hi,Ob.none,Ob.blk s.b T.screen_Screen (rawC q.ptr (.pointer none) s),PdO q]).F i→i<w4.heap.size:=fun i hi=>(Ob.sep [Ob.hist s.hi,Ob.none,Ob.blk s.b T.screen_Screen (rawC q.ptr (.pointer none) s),PdO q]).lt s4.at_ hi
 refine OS.made s4 (fun _ b=>r_tabs_New b (by omega) (by omega)) fun v w5 ⟨t,hv,htc,htl,htP,htF⟩ s5 hk5=>⟨_,_,congrArg Ending.returned hv,hk5.nix,OS.can (n:=1) [Ob.hist s.hi,Ob.none] [PdO q] s5 (show 29+1≤73 by omega),fun w6 hp6=>⟨fun e=>absurd rfl e,fun _=>?_⟩⟩
 have hs4:=s4.kept.size
 have p6:OS w RF [] (Ob.sep [Ob.hist s.hi,Ob.none,Ob.blk s.b T.screen_Screen ({s with pd:=q,tz:=t}:Sx).cells,PdO q]) w6:=OS.put (n:=0) [Ob.hist s.hi,Ob.none] [PdO q] s5 (show 29+1≤73 by omega) hp6
 have ht6:(Ob.stops t).P w6:=(Ob.stops t).keeps htP (hp6.keeps (F:=fun i=>i=s.b) rfl) fun i hi hf=>by have:=htF i hf;have:=lt4 s.b ⟨Ob.blk s.b T.screen_Screen (rawC q.ptr (.pointer none) s),List.Mem.tail _ (List.Mem.tail _ (List.Mem.head _)),rfl⟩;omega
 have s6:OS w RF [] (SsO {s with pd:=q,tz:=t}) w6:=OS.swapNew [Ob.hist s.hi] [Ob.blk s.b T.screen_Screen ({s with pd:=q,tz:=t}:Sx).cells,PdO q] p6 (fun i hi=>lt4 i (F_blk (l1:=[Ob.hist s.hi,Ob.none]) (l2:=[PdO q]) hi)) ht6 htF hs4 (by simp)
 refine⟨rows,by rw[←hr];exact SsO.cell s6 0 rfl,fun w7 hb7=>OS.pure (c_region_Whole (by omega) (by omega)) (s6.below hb7) fun w8 s8 hk8=>⟨⟨0,(rows:Int)-1⟩,_,rfl,hk8.nix,SsO.can s8 (by omega),fun w9 hp9 w10 hb10=>?_⟩⟩
 have s9:OS w RF [] (SsO {s with pd:=q,tz:=t,rg:=⟨0,(rows:Int)-1⟩}) w9:=SsO.put s8 hp9 (by show 27+2≤73;omega) rfl rfl rfl rfl rfl
 refine OS.pure c_modes_New (s9.below hb10) fun w11 s11 hk11=>⟨newMd,rfl,hk11.nix,SsO.can s11 (by omega),fun w12 hp12=>?_⟩
 have s12:OS w RF [] (SsO {s with pd:=q,tz:=t,rg:=⟨0,(rows:Int)-1⟩,cu:=zCu}) w12:=SsO.put s11 hp12 (by show 4+3≤73;omega) rfl rfl rfl rfl rfl
 refine⟨SsO.can s12 (by omega),fun w13 hp13=>?_⟩
 have s13:OS w RF [] (SsO {s with pd:=q,tz:=t,rg:=⟨0,(rows:Int)-1⟩,cu:=zCu,pen:=zPn}) w13:=SsO.put s12 hp13 (by show 7+11≤73;omega) rfl rfl rfl rfl rfl
 refine⟨SsO.can s13 (by omega),fun w14 hp14=>?_⟩
 have s14:OS w RF [] (SsO {s with pd:=q,tz:=t,rg:=⟨0,(rows:Int)-1⟩,cu:=zCu,pen:=zPn,md:=newMd}) w14:=SsO.put s13 hp14 (by show 18+9≤73;omega) rfl rfl rfl rfl rfl
 refine⟨SsO.can s14 (by omega),fun w15 hp15 w16 hb16=>?_⟩
 have s15:OS w RF [] (SsO {s with pd:=q,tz:=t,rg:=⟨0,(rows:Int)-1⟩,cu:=zCu,pen:=zPn,md:=newMd,cs:=zCs}) w15:=SsO.put s14 hp15 (by show 30+3≤73;omega) rfl rfl rfl rfl rfl
 refine OS.pure c_saved_New (s15.below hb16) fun w17 s17 hk17=>⟨zSv,rfl,hk17.nix,fun w18 hb18=>OS.pure c_saved_New (s17.below hb18) fun w19 s19 hk19=>⟨zSv,rfl,hk19.nix,SsO.can s19 (by omega),fun w20 hp20=>?_⟩⟩
 have s20:OS w RF [] (SsO {s with pd:=q,tz:=t,rg:=⟨0,(rows:Int)-1⟩,cu:=zCu,pen:=zPn,md:=newMd,cs:=zCs,s0:=zSv,s1:=zSv}) w20:=SsO.put s19 hp20 (by show 33+36≤73;omega) rfl rfl rfl rfl rfl
 refine⟨SsO.can s20 (by omega),fun w21 hp21 w' hb _=>⟨rfl,?_⟩⟩
 have s21:OS w RF [] (SsO {s with pd:=q,tz:=t,rg:=⟨0,(rows:Int)-1⟩,cu:=zCu,pen:=zPn,md:=newMd,cs:=zCs,s0:=zSv,s1:=zSv,link:=[]}) w21:=SsO.put s20 hp21 (by show 70+1≤73;omega) rfl rfl rfl rfl rfl
 refine⟨_,?_,?_,(s21.below hb).at_,fun i hi=>((s21.below hb).own i hi).1⟩
 ·rfl
 ·show Sq.mk s.rows s.cols q.pv s.hi.r.rg zCu zPn newMd ⟨0,(rows:Int)-1⟩ t.l zCs zSv zSv s.title [] s.reps s.pushed t.cols=Sq.mk s.rows s.cols (newV s.rows.toNat s.cols.toNat) s.hi.r.rg zCu zPn newMd ⟨0,s.rows-1⟩ (fillQ s.cols 0 []) zCs zSv zSv s.title [] s.reps s.pushed s.cols
  rw[hqv,htl,htc,hr,hc]
  rfl
end
end Go.Proofs.YtjhhiindeignaaaGreatDoor
namespace Go.Proofs.YtjhhiindeignaaaGreatDoor
open Go Go.RowKit Go.Sy Go.Rep
set_option maxRecDepth 100000
set_option maxHeartbeats 1000000
structure CfOk (c:Cf):Prop where
 (r1:1≤c.rows) (r2:c.rows≤1000) (c1:1≤c.cols) (c2:c.cols≤1000) (h1:0≤c.hist) (h2:c.hist≤1048576)
theorem c_screen_right {c:Cf} (h:CfOk c):Pure X.screen_right #[.agg c.arr] (.bool true):=fun w hL=>by
 refine v_screen_right c fun n1 g1=>⟨fun _=>⟨fun _=>⟨fun _=>⟨fun _=>⟨fun _=>Fin.of fun _=>?_,fun e=>absurd h.h1 (by omega)⟩,fun e=>absurd h.c2 (by omega)⟩,fun e=>absurd h.c1 (by omega)⟩,fun e=>absurd h.r2 (by omega)⟩,fun e=>absurd h.r1 (by omega)⟩
 show Value.bool _=Value.bool _
 rw[bv_le,decide_eq_true h.h2]
def zMd:Md:=⟨false,false,false,false,false,false,false,0,0⟩
def freshS (b:Nat) (c:Cf) (h:Hi) (pd:Pd) (tz:Tz):Sx:=⟨b,c.rows,c.cols,pd,h,zCu,zPn,zMd,zRg,tz,zCs,zSv,zSv,[],[],[],0⟩
section
variable {w0 w w' w1:World} {F0:Nat→Prop} {bs:List Nat} {o o':Ob} {l1 l2:List Ob} {R:Ending→World→Prop} {f:FuncId} {args:Array Value} {s s':Sx} {t t':Tx}
def NewScr (w0:World) (q:Sq) (v:Value) (w:World):Prop:=∃s:Sx,v= .tuple #[s.ptr, .int .i64 0]∧s.sq=q∧(SsO s).P w∧∀i,(SsO s).F i→w0.heap.size≤i
theorem r_screen_New {c:Cf} (hL:Laid w) (h:CfOk c):Gets Tryz.prog X.screen_New #[.agg c.arr] w Nix (NewScr w (newQ c.rows c.cols ⟨c.hist.toNat,64,0,0,[]⟩ [] [] 0)):=by
 have hY:=hL.size
 have pd0:Pd:=⟨0,⟨0,0,none,0,[]⟩,⟨0,0,none,0,[]⟩,0,0,none⟩
 have tz0:Tz:=⟨0,0,0,[]⟩
 refine v_screen_New c fun n1 g1 w1 hb1 hm1=>(c_screen_right h).runs (Laid.below hb1 hL) fun w2 k2 hL2=>⟨_,rfl,k2.nix,fun e=>(nomatch e),fun _ w3 hb3 hm3=>?_⟩
 have hL3:=Laid.below hb3 hL2
 have k3:Keeps Nix w w3:=((Keeps.of_below hb1).trans k2).trans (Keeps.of_below hb3)
 have hN:=r_history_New (n:=c.hist.toNat) hL3 (by have:=h.h2;omega)
 rw[show((c.hist.toNat:Nat):Int)=c.hist by have:=h.h1;omega] at hN
 refine hN.runs fun v w4 k4 ⟨hi,hv,q1,q2,q3⟩=>?_
 subst hv
 refine⟨_,_,rfl,k4.nix,fun e=>absurd rfl e,fun _ n2 g2 w5 hb5 m1 m2 hnd=>?_⟩
 have hz4:w.heap.size≤w3.heap.size:=k3.size
 have hn1:n1<w3.heap.size:=Mine.all hm3 n1 (by simp)
 have k5:Keeps Nix w w5:=(k3.trans k4).trans (Keeps.of_below hb5)
 have hz5:=(Keeps.of_below (hb5)).size
 have hist5:HiAt w5 hi:=q2.below hb5
 have hlt4:∀i,HiF hi i→i<w4.heap.size:=fun i hi'=>q2.lt hi'
 have t0:OS w Nix [n1] (Ob.sep [Ob.hist hi,Ob.none,Ob.blk n2 T.screen_Screen (rawC (.pointer none) (.pointer none) (freshS n2 c hi pd0 tz0)),Ob.none]) w5:=by
  refine⟨hL3.keeps (k4.trans (Keeps.of_below hb5)) (fun i e=>e.elim),k5,?_,?_⟩
  ·refine⟨?_,?_⟩
   ·intro o ho
    simp only[List.mem_cons,List.not_mem_nil,or_false] at ho
    rcases ho with rfl|rfl|rfl|rfl
    ·exact hist5
    ·trivial
    ·exact⟨m2.2,Nat.le_trans hY m2.1⟩
    ·trivial
   ·simp only[List.pairwise_cons,List.mem_cons,List.not_mem_nil,or_false,forall_eq_or_imp,forall_eq]
    refine⟨⟨fun i _ e=>e,fun i hi' e=>?_,fun i _ e=>e⟩,⟨fun i e=>e.elim,fun i e=>e.elim⟩,fun i _ e=>e,by simp,List.Pairwise.nil⟩
    have e':i=n2:=e
    have:=hlt4 i hi'
    omega
  ·rintro i ⟨o,ho,e⟩
   simp only[List.mem_cons,List.not_mem_nil,or_false] at ho
   rcases ho with rfl|rfl|rfl|rfl
   ·have:=q3 i e
    exact⟨.inr (by omega),by simp<;>omega⟩
   ·exact e.elim
   ·have e':i=n2:=e
    have:=k4.size
    exact⟨.inr (by rw[e'];exact m2.1),by simp<;>omega⟩
   ·exact e.elim
 have h1:=h.r1;have h2:=h.r2;have h3:=h.c1;have h4:=h.c2
 refine OS.call (o:=RaO (freshS n2 c hi pd0 tz0)) [] [] (OS.mid [] [Ob.hist hi,Ob.none,Ob.blk n2 T.screen_Screen (rawC (.pointer none) (.pointer none) (freshS n2 c hi pd0 tz0)),Ob.none] [] t0) (by simpa using m1.2.lt) (fun a b=>r_screen_reset0 (s:=freshS n2 c hi pd0 tz0) (rows:=c.rows.toNat) (cols:=c.cols.toNat) b a (by show c.rows=_;omega) (by show c.cols=_;omega) (by omega) (by omega) (by omega) (by omega)) fun v w6 ⟨hv,s',e1,e2,e3,e4⟩ hs=>?_
 obtain⟨s6,k6⟩:=hs (SsO s') e3 e4
 subst hv
 have s6':OS w Nix [n1] (SsO s') w6:=s6.conv (o':=SsO s') (s6.at_.1 _ (by simp)) (fun i hi=>⟨SsO s',by simp,hi⟩)
 have hw:=(OS.get [Ob.hist s'.hi,Ob.stops s'.tz] [PdO s'.pd] s6').1
 rw[e1] at hw
 refine⟨_,rfl,k6,_,_,_,_,_,_,_,_,_,_,_,_,_,_,_,_,_,_,_,_,_,_,_,_,_,_,_,_,_,_,_,_,_,_,_,_,_,_,_,_,_,_,_,_,_,_,_,_,_,_,_,_,_,_,_,_,_,_,_,_,_,_,_,_,_,_,_,_,_,_,_,_,_,hw,fun w7 hb7 hk7 x1 x2=>⟨s',?_,?_,(s6'.below hb7).at_,fun i hi=>?_⟩⟩
 ·show Value.tuple #[Value.pointer (some ⟨n2,0,none⟩),_]=_
  unfold Sx.ptr
  rw[e1]
  rfl
 ·rw[e2]
  show newQ c.rows c.cols hi.r.rg [] [] 0=_
  rw[q1]
 ·exact((s6'.own i hi).1).resolve_left fun e=>e
end
end Go.Proofs.YtjhhiindeignaaaGreatDoor
namespace Go.Proofs.YtjhhiindeignaaaGreatDoor
open Go Go.RowKit Go.Sy Go.Rep
set_option maxRecDepth 100000
set_option maxHeartbeats 1000000
def zPs:Ps:=⟨⟨none,0,[],0,0,0⟩,0,0,[],zeroB,none,0,[]⟩
def clampC (c:Cf):Cf:=⟨max 1 (min c.rows 1000),max 1 (min c.cols 1000),max 0 (min c.hist 1048576)⟩
theorem clampC_ok (c:Cf):CfOk (clampC c):=by
 unfold clampC
 exact⟨by dsimp only;omega,by dsimp only;omega,by dsimp only;omega,by dsimp only;omega,by dsimp only;omega,by dsimp only;omega⟩
def newT (c:Cf):Tq:=⟨zPs.pq,newQ (clampC c).rows (clampC c).cols ⟨(clampC c).hist.toNat,64,0,0,[]⟩ [] [] 0,(clampC c).rows.toNat,0⟩
theorem zDq_ok:DqOk zPs.pq.d:= .inl rfl
theorem zPs_at {w:World} {b:Nat} (h:Whole w b T.parser_Parser zPs.cells) (hb:Y.count≤b):PsAt w b zPs:=
 ⟨h,Own.nil _ _ _ _,Own.nil _ _ _ _,fun⟨a,ha,_⟩=>(by cases ha),fun⟨a,ha,_⟩=>(by cases ha),zDq_ok,zeroB_ok,hb,Nat.zero_le _,Nat.zero_le _⟩
theorem zPq_j:PqJ zPs.pq:=⟨⟨fun x hx=>(by cases hx),Nat.zero_le _⟩,zeroB_ok,Nat.zero_le _⟩
theorem newQ_ok {c:Cf} (h:CfOk c) {n m p:Nat}:SqOk 0 (newQ c.rows c.cols ⟨n,m,0,0,[]⟩ [] [] 0):=by
 have h1:=h.r1;have h2:=h.r2;have h3:=h.c1;have h4:=h.c2
 have hg:=newG_ok (rows:=c.rows.toNat) (cols:=c.cols.toNat) (by omega)
 rw[show((c.rows.toNat:Nat):Int)=c.rows by omega,show((c.cols.toNat:Nat):Int)=c.cols by omega] at hg
 exact{r1:=h1,r2:=h2,c1:=h3,c2:=h4,g0:=hg,g1:=hg,u:=Nat.zero_le _,k:=fun s e=>(by cases e),cr1:=Int.le_refl 0,cr2:=by show(0:Int)<c.rows;omega,cc1:=Int.le_refl 0,cc2:=by show(0:Int)<c.cols;omega,cp:=fun e=>(by cases e),pen:=okPn_zero,md:=(show okMd newMd=true by decide),t1:=Int.le_refl 0,t2:=by show(0:Int)≤c.rows-1;omega,t3:=by show c.rows-1<c.rows;omega,cs:=okCs_zero,s0:=okSv_zero,s1:=okSv_zero,nx:=Nat.le_refl 0,sz:=Nat.zero_le _,tc:=rfl}
theorem newT_ok (c:Cf):TqOk 0 (newT c):=⟨newQ_ok (clampC_ok c) (p:=0),zPq_j,rfl,by have h1:=(clampC_ok c).r1;show(((clampC c).rows.toNat:Nat):Int)=(clampC c).rows;omega⟩
section
variable {w0 w w' w1:World} {F0:Nat→Prop} {bs:List Nat} {o o':Ob} {l1 l2:List Ob} {R:Ending→World→Prop} {f:FuncId} {args:Array Value} {s s':Sx} {t t':Tx}
def NewT (w0:World) (q:Tq) (v:Value) (w:World):Prop:=∃t:Tx,v=t.ptr∧t.tq=q∧(TmO t).P w∧∀i,(TmO t).F i→w0.heap.size≤i
theorem r_term_New {c:Cf} (hL:Laid w):Gets Tryz.prog X.term_New #[.agg c.arr] w Nix (NewT w (newT c)):=by
 have hY:=hL.size
 have hok:=clampC_ok c
 have h1:=hok.r1;have h2:=hok.r2
 refine v_term_New c fun n1 g1 w1 hb1 hm1=>c_term_clamp_int.runs (Laid.below hb1 hL) fun w2 k2 hL2=>⟨_,rfl,k2.nix,fun w3 hb3 hm3=>c_term_clamp_int.runs (Laid.below hb3 hL2) fun w4 k4 hL4=>⟨_,rfl,k4.nix,fun w5 hb5 hm5=>c_term_clamp_int.runs (Laid.below hb5 hL4) fun w6 k6 hL6=>⟨_,rfl,k6.nix,fun w7 he7 hm7=>?_⟩⟩⟩
 have k06:Keeps Nix w w6:=((((((Keeps.of_below hb1).trans k2).trans (Keeps.of_below hb3)).trans k4).trans (Keeps.of_below hb5)).trans k6)
 have hz6:=k06.size
 have ke7:=Go.Proofs.YtjhhiindeignaaaGreatDoor.Ext.keeps he7
 have hL7:Laid w7:=hL6.keeps ke7 fun i hi=>(by have:i=n1:=(by simpa using hi);omega)
 have k07:Keeps Nix w w7:=k06.after ke7 fun i hlt hi=>(by have:i=n1:=(by simpa using hi);exact absurd hlt (by omega))
 have hz7:=k07.size
 have hn17:n1<w7.heap.size:=Mine.all hm7 n1 (by simp)
 refine(r_screen_New (c:=clampC c) hL7 hok).runs fun v w8 k8 ⟨s,hv,q1,q2,q3⟩=>?_
 subst hv
 refine⟨_,_,rfl,k8.nix,fun w9 hb9 hm9=>?_⟩
 have hL9:=Laid.below hb9 (Laid.nix k8 hL7)
 have hV:=r_view_New (n:=(clampC c).rows.toNat) hL9 (by omega) (by omega)
 rw[show(((clampC c).rows.toNat:Nat):Int)=(clampC c).rows by omega] at hV
 refine hV.runs fun v w10 k10 ⟨vw,hv,r1,r2,r3,r4⟩=>?_
 subst hv
 refine⟨_,_,rfl,k10.nix,fun e=>absurd rfl e,fun _=>⟨fun e=>absurd rfl e,fun _ n2 g2 n3 g3 w11 hb11 hk11 m1 m2 m3=>?_⟩⟩
 have k79:Keeps Nix w7 w9:=k8.trans (Keeps.of_below hb9)
 have hz79:=k79.size
 have hz8:=k8.size
 have hz10:=k10.size
 have k811:Keeps Nix w8 w11:=((Keeps.of_below hb9).trans k10).trans (Keeps.of_below hb11)
 have hsx:(SsO s).P w11:=(SsO s).nix q2 k811
 have hlt8:∀i,(SsO s).F i→i<w8.heap.size:=fun i hi=>(SsO s).lt q2 hi
 have hvw:VwAt w11 vw:=r3.below hb11
 have hvl:vw.b<w10.heap.size:=r3.lt
 have hz89:w8.heap.size≤w9.heap.size:=(Keeps.of_below hb9).size
 have hne:n2≠n3:=fun e=>by
  subst e
  have a:=m2.2
  have b:=m3.2
  unfold Whole at a b
  rw[a] at b
  injection b with b
  injection b with b1 b2
  exact absurd b2 (by decide)
 have hlo:=hL7.size
 refine⟨⟨n3,n2,zPs,s,vw⟩,rfl,?_,⟨?_,?_⟩,?_⟩
 ·show Tq.mk zPs.pq s.sq vw.rows vw.back=_
  rw[q1,r1,r2]
  rfl
 ·intro o ho
  simp only[List.mem_cons,List.not_mem_nil,or_false] at ho
  rcases ho with rfl|rfl|rfl|rfl
  ·exact zPs_at m2.2 (by omega)
  ·exact hvw
  ·exact⟨m3.2,by omega⟩
  ·exact hsx
 ·have hps:∀i,PsF n2 zPs i→i=n2:=by
   rintro i (e|⟨a,ha,_⟩|⟨a,ha,_⟩)
   ·exact e
   ·cases ha
   ·cases ha
  simp only[List.pairwise_cons,List.mem_cons,List.not_mem_nil,or_false,forall_eq_or_imp,forall_eq]
  refine⟨⟨fun i hi e=>?_,fun i hi e=>?_,fun i hi e=>?_⟩,⟨fun i hi e=>?_,fun i hi e=>?_⟩,fun i hi e=>?_,by simp,List.Pairwise.nil⟩
  ·have a:=hps i hi;have b:i=vw.b:=e;omega
  ·have a:=hps i hi;have b:i=n3:=e;omega
  ·have a:=hps i hi;have b:=hlt8 i e;omega
  ·have a:i=vw.b:=hi;have b:i=n3:=e;omega
  ·have a:i=vw.b:=hi;have b:=hlt8 i e;omega
  ·have a:i=n3:=hi;have b:=hlt8 i e;omega
 ·rintro i ⟨o,ho,e⟩
  simp only[List.mem_cons,List.not_mem_nil,or_false] at ho
  rcases ho with rfl|rfl|rfl|rfl
  ·rcases e with e|⟨a,ha,_⟩|⟨a,ha,_⟩
   ·rw[e];exact m2.1
   ·cases ha
   ·cases ha
  ·have a:i=vw.b:=e;omega
  ·have a:i=n3:=e;rw[a];exact m3.1
  ·have a:=q3 i e;omega
end
end Go.Proofs.YtjhhiindeignaaaGreatDoor
namespace Go.Proofs.YtjhhiindeignaaaGreatDoor
open Go Go.RowKit Go.Sy Go.Rep
set_option maxRecDepth 100000
def zRow (C:Nat):Li:=⟨List.replicate C (bCl zPn),false⟩
def lRow (C:Nat) (c:Int):Li:=⟨⟨c,0,0,0,1,zPn⟩::List.replicate (C-1) (bCl zPn),false⟩
def stE (C:Nat) (r0 r1:Li) (hv:Rg') (row col:Int):Sq:={newQ 2 C hv [] [] 0 with pv:=⟨⟨C,[r0,r1]⟩,newG 2 C,0,0,none⟩,cu:=⟨row,col,false⟩}
theorem letters {c:Int} {P:Int→Prop} (h:97≤c∧c≤122) (hP:P 97∧P 98∧P 99∧P 100∧P 101∧P 102∧P 103∧P 104∧P 105∧P 106∧P 107∧P 108∧P 109∧P 110∧P 111∧P 112∧P 113∧P 114∧P 115∧P 116∧P 117∧P 118∧P 119∧P 120∧P 121∧P 122):P c:=by
 have:c=97∨c=98∨c=99∨c=100∨c=101∨c=102∨c=103∨c=104∨c=105∨c=106∨c=107∨c=108∨c=109∨c=110∨c=111∨c=112∨c=113∨c=114∨c=115∨c=116∨c=117∨c=118∨c=119∨c=120∨c=121∨c=122:=by omega
 obtain⟨h97,h98,h99,h100,h101,h102,h103,h104,h105,h106,h107,h108,h109,h110,h111,h112,h113,h114,h115,h116,h117,h118,h119,h120,h121,h122⟩:=hP
 rcases this with rfl|rfl|rfl|rfl|rfl|rfl|rfl|rfl|rfl|rfl|rfl|rfl|rfl|rfl|rfl|rfl|rfl|rfl|rfl|rfl|rfl|rfl|rfl|rfl|rfl|rfl<;>assumption
theorem first6 {c:Int} (hc:97≤c∧c≤122) (hv:Rg'):runE [c] (stE 6 (zRow 6) (zRow 6) hv 0 0)=stE 6 (lRow 6 c) (zRow 6) hv 0 1:=
 letters (P:=fun c=>runE [c] (stE 6 (zRow 6) (zRow 6) hv 0 0)=stE 6 (lRow 6 c) (zRow 6) hv 0 1) hc ⟨by kernel_rfl,by kernel_rfl,by kernel_rfl,by kernel_rfl,by kernel_rfl,by kernel_rfl,by kernel_rfl,by kernel_rfl,by kernel_rfl,by kernel_rfl,by kernel_rfl,by kernel_rfl,by kernel_rfl,by kernel_rfl,by kernel_rfl,by kernel_rfl,by kernel_rfl,by kernel_rfl,by kernel_rfl,by kernel_rfl,by kernel_rfl,by kernel_rfl,by kernel_rfl,by kernel_rfl,by kernel_rfl,by kernel_rfl⟩
theorem second6 {c:Int} (hc:97≤c∧c≤122) (hv:Rg') (l:List Cl):runE [13,10,c] (stE 6 ⟨l,false⟩ (zRow 6) hv 0 1)=stE 6 ⟨l,false⟩ (lRow 6 c) hv 1 1:=
 letters (P:=fun c=>runE [13,10,c] (stE 6 ⟨l,false⟩ (zRow 6) hv 0 1)=stE 6 ⟨l,false⟩ (lRow 6 c) hv 1 1) hc ⟨by kernel_rfl,by kernel_rfl,by kernel_rfl,by kernel_rfl,by kernel_rfl,by kernel_rfl,by kernel_rfl,by kernel_rfl,by kernel_rfl,by kernel_rfl,by kernel_rfl,by kernel_rfl,by kernel_rfl,by kernel_rfl,by kernel_rfl,by kernel_rfl,by kernel_rfl,by kernel_rfl,by kernel_rfl,by kernel_rfl,by kernel_rfl,by kernel_rfl,by kernel_rfl,by kernel_rfl,by kernel_rfl,by kernel_rfl⟩
theorem later6 {c:Int} (hc:97≤c∧c≤122) (hv:Rg') (l m:List Cl):runE [13,10,c] (stE 6 ⟨l,false⟩ ⟨m,false⟩ hv 1 1)=stE 6 ⟨m,false⟩ (lRow 6 c) (pushR hv ⟨l,false⟩) 1 1:=
 letters (P:=fun c=>runE [13,10,c] (stE 6 ⟨l,false⟩ ⟨m,false⟩ hv 1 1)=stE 6 ⟨m,false⟩ (lRow 6 c) (pushR hv ⟨l,false⟩) 1 1) hc ⟨by kernel_rfl,by kernel_rfl,by kernel_rfl,by kernel_rfl,by kernel_rfl,by kernel_rfl,by kernel_rfl,by kernel_rfl,by kernel_rfl,by kernel_rfl,by kernel_rfl,by kernel_rfl,by kernel_rfl,by kernel_rfl,by kernel_rfl,by kernel_rfl,by kernel_rfl,by kernel_rfl,by kernel_rfl,by kernel_rfl,by kernel_rfl,by kernel_rfl,by kernel_rfl,by kernel_rfl,by kernel_rfl,by kernel_rfl⟩
def flat (q:Rg'):List Li:=q.ps.flatMap Pg.ls
theorem flat_push (page:Nat) (x:Li):∀ps:List Pg,(pushP page ps x).flatMap Pg.ls=ps.flatMap Pg.ls++[x]
 |[]=>rfl
 |[p]=>by
  rw[pushP]
  split<;>simp
 |p::q::ps=>by
  rw[pushP,List.flatMap_cons,flat_push page x (q::ps),List.flatMap_cons (x:=p),List.append_assoc]
theorem flat_drop:∀(ps:List Pg) (k:Nat),(dropP ps k).flatMap Pg.ls=(ps.flatMap Pg.ls).drop k
 |[],k=>by simp[dropP]
 |p::ps,k=>by
  rw[dropP]
  split
  ·next e=>subst e;rfl
  ·split
   ·next e=>rw[List.flatMap_cons,List.flatMap_cons,List.drop_append_of_le_length (by omega)]
   ·next e=>rw[flat_drop ps,List.flatMap_cons,List.drop_append,show p.ls.drop k=[] from List.drop_eq_nil_of_le (by omega),List.nil_append]
structure Hist (m:Nat) (l:List Li) (q:Rg'):Prop where
 most:q.most=m
 next:q.next=l.length
 first:q.first=l.length-m
 flat:flat q=l.drop (l.length-m)
theorem Hist.new (m:Nat):Hist m [] ⟨m,64,0,0,[]⟩:=⟨rfl,rfl,by simp,by simp[Go.Proofs.YtjhhiindeignaaaGreatDoor.flat]⟩
theorem Hist.push {m:Nat} {l:List Li} {q:Rg'} (h:Hist m l q) (x:Li):Hist m (l++[x]) (pushR q x):=by
 have e1:=h.most
 have e2:=h.next
 have e3:=h.first
 have ht:tooMany ⟨q.most,q.page,q.first,q.next+1,pushP q.page q.ps x⟩=(l.length+1-m)-(l.length-m):=by
  unfold tooMany
  dsimp only
  omega
 unfold pushR evictR
 rw[ht]
 refine⟨e1,?_,?_,?_⟩
 ·show q.next+1=_
  rw[List.length_append,e2]
  rfl
 ·show q.first+_=_
  rw[List.length_append,e3,List.length_singleton]
  omega
 ·show((dropP (pushP q.page q.ps x) _).flatMap Pg.ls)=_
  rw[flat_drop,flat_push]
  have:=h.flat
  unfold Go.Proofs.YtjhhiindeignaaaGreatDoor.flat at this
  rw[this,List.length_append,List.length_singleton,←List.drop_append_of_le_length (by omega),List.drop_drop]
  congr 1
  omega
theorem Hist.all {m:Nat} {l:List Li} {q:Rg'} (h:Hist m l q) (hl:l.length≤1000000):lastR q 1048576=l.drop (l.length-m):=by
 have e1:=h.next
 have e2:=h.first
 have e3:=h.flat
 unfold Go.Proofs.YtjhhiindeignaaaGreatDoor.flat at e3
 unfold lastR rangeR
 rw[e3,List.take_of_length_le (by rw[List.length_drop];omega),show q.next-min 1048576 (q.next-q.first)-q.first=0 by omega,List.drop_zero]
end Go.Proofs.YtjhhiindeignaaaGreatDoor
namespace Go.Proofs.YtjhhiindeignaaaGreatDoor
open Go Go.RowKit Go.Sy Go.Rep
set_option maxRecDepth 100000
set_option maxHeartbeats 1000000
def chN (j:Nat):Int:=97+(j:Int)%26
theorem chN_in (j:Nat):97≤chN j∧chN j≤122:=by unfold chN;omega
def lns (n:Nat):List Li:=(List.range n).map fun j=>lRow 6 (chN j)
theorem lns_succ (n:Nat):lns (n+1)=lns n++[lRow 6 (chN n)]:=by unfold lns;rw[List.range_succ,List.map_append];rfl
theorem lns_len (n:Nat):(lns n).length=n:=by unfold lns;simp
theorem lns_get {n i:Nat} (h:i<n):(lns n)[i]? =some (lRow 6 (chN i)):=by unfold lns;rw[List.getElem?_map,List.getElem?_range h];rfl
def stN (hv:Rg'):Nat→Sq
 |0=>stE 6 (zRow 6) (zRow 6) hv 0 0
 |1=>stE 6 (lRow 6 (chN 0)) (zRow 6) hv 0 1
 |k+2=>stE 6 (lRow 6 (chN k)) (lRow 6 (chN (k+1))) hv 1 1
def bsN:Nat→List Int
 |0=>[chN 0]
 |k+1=>[13,10,chN (k+1)]
theorem step_N {m:Nat} {hv:Rg'}:∀{i:Nat},Hist m (lns (i-2)) hv→∃hv',runE (bsN i) (stN hv i)=stN hv' (i+1)∧Hist m (lns (i+1-2)) hv'
 |0,h=>⟨hv,first6 (chN_in 0) hv,h⟩
 |1,h=>⟨hv,second6 (chN_in 1) hv _,h⟩
 |k+2,h=>⟨pushR hv (lRow 6 (chN k)),later6 (chN_in (k+2)) hv _ _,by
  show Hist m (lns (k+1)) _
  rw[lns_succ]
  exact h.push _⟩
theorem all_N {m k:Nat} {hv:Rg'} (h:Hist m (lns k) hv) (hk:k≤1000):allT (stN hv (k+2))=(lns (k+2)).drop (k-m):=by
 show lastR hv 1048576++[lRow 6 (chN k),lRow 6 (chN (k+1))]=_
 have:=h.all (by rw[lns_len];omega)
 rw[lns_len] at this
 rw[this,lns_succ,lns_succ,List.append_assoc,List.drop_append_of_le_length (by rw[lns_len];omega)]
 rfl
theorem ev_N {m k:Nat} {hv:Rg'} (h:Hist m (lns k) hv) (hk:k≤1000):evQ (stN hv (k+2))=⟨max 0 ((k:Int)-m),k,k+2⟩:=by
 have h1:=h.next
 have h2:=h.first
 rw[lns_len] at h1 h2
 have h3:(allT (stN hv (k+2))).length=k+2-(k-m):=by rw[all_N h hk,List.length_drop,lns_len]
 unfold evQ histLen
 rw[h3]
 show Go.Rep.Ev.mk (hv.first:Int) ((hv.first:Int)+((hv.next:Int)-hv.first)) ((hv.first:Int)+((k+2-(k-m):Nat):Int))=_
 rw[h1,h2]
 congr 1
 ·omega
 ·omega
 ·omega
structure Te (m i N:Nat) (t:Tx):Prop where
 ps:Ps0 t.ps
 back:t.vw.back=0
 rows:t.vw.rows=2
 ok:SqOk N t.sx.sq
 pu:t.sx.pushed=0
 st:∃hv,Hist m (lns (i-2)) hv∧t.sx.sq=stN hv i
theorem Te.tq {m i N:Nat} {t:Tx} (h:Te m i N t):TqOk N t.tq:=by
 refine⟨h.ok,h.ps.j,h.pu,?_⟩
 obtain⟨hv,_,e⟩:=h.st
 show(t.vw.rows:Int)=t.sx.sq.rows
 rw[h.rows,e]
 match i with
 |0=>rfl
 |1=>rfl
 |k+2=>rfl
theorem Te.fn {m k N:Nat} {t:Tx} (h:Te m (k+2) N t):t.sx.sq.hv.first≤t.sx.sq.hv.next:=by
 obtain⟨hv,h1,e⟩:=h.st
 rw[e]
 show hv.first≤hv.next
 have h2:=h1.next
 have h3:=h1.first
 omega
theorem rune_letter (j:Nat):(runeStr (IntKind.wrap .i32 (chN j))).map (fun b=>((b.toNat:Nat):Int))=[chN j]∧(runeStr (IntKind.wrap .i32 (chN j))).length=1:=
 letters (P:=fun c=>(runeStr (IntKind.wrap .i32 c)).map (fun b=>((b.toNat:Nat):Int))=[c]∧(runeStr (IntKind.wrap .i32 c)).length=1) (chN_in j) (by refine⟨?_,?_,?_,?_,?_,?_,?_,?_,?_,?_,?_,?_,?_,?_,?_,?_,?_,?_,?_,?_,?_,?_,?_,?_,?_,?_⟩<;>exact⟨by kernel_rfl,by kernel_rfl⟩)
def lineS (c:Int):List UInt8:=runeStr (IntKind.wrap .i32 c)++[95,95,95,95,95]
theorem row_letter (j:Nat):((lineS (chN j)).all (fun b=>b !=87)&&((lineS (chN j)).length==6)&&((lineS (chN j)).getLast? !=some 45))=true:=
 letters (P:=fun c=>((lineS c).all (fun b=>b !=87)&&((lineS c).length==6)&&((lineS c).getLast? !=some 45))=true) (chN_in j) (by refine⟨?_,?_,?_,?_,?_,?_,?_,?_,?_,?_,?_,?_,?_,?_,?_,?_,?_,?_,?_,?_,?_,?_,?_,?_,?_,?_⟩<;>kernel_rfl)
theorem row_ok (j:Nat):(∀b∈lineS (chN j),b≠87)∧0<(lineS (chN j)).length∧(lineS (chN j)).length≤1000∧(lineS (chN j)).getLast?≠some 45:=by
 have h:=row_letter j
 simp only[Bool.and_eq_true,List.all_eq_true,bne_iff_ne,beq_iff_eq] at h
 obtain⟨⟨h1,h2⟩,h3⟩:=h
 exact⟨h1,by omega,by omega,h3⟩
theorem cell_letter (j:Nat):(lineS (chN j)).map cellB=(lRow 6 (chN j)).cs:=
 letters (P:=fun c=>(lineS c).map cellB=(lRow 6 c).cs) (chN_in j) (by refine⟨?_,?_,?_,?_,?_,?_,?_,?_,?_,?_,?_,?_,?_,?_,?_,?_,?_,?_,?_,?_,?_,?_,?_,?_,?_,?_⟩<;>kernel_rfl)
end Go.Proofs.YtjhhiindeignaaaGreatDoor
namespace Go.Proofs.YtjhhiindeignaaaGreatDoor
open Go Go.RowKit Go.Sy Go.Rep
set_option maxRecDepth 100000
set_option maxHeartbeats 1000000
structure Lp (w0:World) (m b i:Nat) (ns ws:List Int) (p2:Option Addr) (c2:Nat) (p3:Option Addr) (c3:Nat) (V:World):Prop where
 y:Y.count≤w0.heap.size
 k:Keeps Nix w0 V
 L:Laid V
 t:∃t:Tx,t.b=b∧Te m i (4000*i) t∧(TmO t).P V∧(∀i,(TmO t).F i→w0.heap.size≤i)∧(∀i,PF p2 i→¬(TmO t).F i)∧(∀i,PF p3 i→¬(TmO t).F i)
 a:Own w0.heap.size V T.int 1 p2 ns.length c2 (intsV ns)
 c:Own w0.heap.size V T.int 1 p3 ws.length c3 (intsV ws)
 d:∀i,PF p2 i→¬PF p3 i
section
variable {w0 V V':World} {m b i:Nat} {ns ws:List Int} {p2 p3:Option Addr} {c2 c3:Nat}
theorem Lp.nix (h:Lp w0 m b i ns ws p2 c2 p3 c3 V) (hk:Keeps Nix V V'):Lp w0 m b i ns ws p2 c2 p3 c3 V':=by
 obtain⟨t,t1,t2,t3,t4,t5,t6⟩:=h.t
 exact⟨h.y,h.k.trans hk,Laid.nix hk h.L,⟨t,t1,t2,(TmO t).nix t3 hk,t4,t5,t6⟩,h.a.keeps hk fun _ _ e=>e.elim,h.c.keeps hk fun _ _ e=>e.elim,h.d⟩
theorem Lp.below (h:Lp w0 m b i ns ws p2 c2 p3 c3 V) (hb:Below V.heap.size V V'):Lp w0 m b i ns ws p2 c2 p3 c3 V':=h.nix (Keeps.of_below hb)
theorem ints_snoc (l:List Int) (x:Int):intsV (l++[x])=intsV l++[.int .i64 x]:=by unfold intsV;rw[List.map_append];rfl
theorem Lp.pushA (h:Lp w0 m b i ns ws p2 c2 p3 c3 V) {x:Int} {p':Option Addr} {c':Nat} (g:Grown V [] p2 ns.length c2 T.int 1 (ns.length+1) (intsV ns++[.int .i64 x]) V' p' c'):Lp w0 m b i (ns++[x]) ws p' c' p3 c3 V':=by
 obtain⟨t,t1,t2,t3,t4,t5,t6⟩:=h.t
 have hz:=h.k.size
 have hk:Keeps (PF p2) V V':=g.keeps fun _ a ha=>⟨a,ha,rfl⟩
 have hlow:∀i,PF p2 i→w0.heap.size≤i:=fun i ⟨a,ha,e⟩=>by rw[←e];exact(h.a.lt a ha).2.1
 have hp:∀i,PF p' i→PF p2 i∨V.heap.size≤i:=fun i ⟨a,ha,e⟩=>by
  rcases g.place a ha with⟨b',h1,h2,_⟩|u
  ·exact .inl ⟨b',h1,by rw[←h2];exact e⟩
  ·exact .inr (by omega)
 refine⟨h.y,h.k.after hk fun i hi hf=>absurd (hlow i hf) (by omega),h.L.keeps hk fun i hi=>Nat.le_trans h.y (hlow i hi),⟨t,t1,t2,(TmO t).keeps t3 hk t5,t4,fun i hi hf=>?_,t6⟩,?_,h.c.keeps hk fun a ha hf=>h.d _ hf ⟨a,ha,rfl⟩,fun i hi hc=>?_⟩
 ·rcases hp i hi with u|u
  ·exact t5 i u hf
  ·have:=(TmO t).lt t3 hf
   omega
 ·rw[ints_snoc,List.length_append]
  exact g.own hz fun a ha=>(h.a.lt a ha).2.1
 ·rcases hp i hi with u|u
  ·exact h.d i u hc
  ·obtain⟨a,ha,e⟩:=hc
   have:=(h.c.lt a ha).1
   omega
theorem Lp.pushC (h:Lp w0 m b i ns ws p2 c2 p3 c3 V) {x:Int} {p':Option Addr} {c':Nat} (g:Grown V [] p3 ws.length c3 T.int 1 (ws.length+1) (intsV ws++[.int .i64 x]) V' p' c'):Lp w0 m b i ns (ws++[x]) p2 c2 p' c' V':=by
 obtain⟨t,t1,t2,t3,t4,t5,t6⟩:=h.t
 have hz:=h.k.size
 have hk:Keeps (PF p3) V V':=g.keeps fun _ a ha=>⟨a,ha,rfl⟩
 have hlow:∀i,PF p3 i→w0.heap.size≤i:=fun i ⟨a,ha,e⟩=>by rw[←e];exact(h.c.lt a ha).2.1
 have hp:∀i,PF p' i→PF p3 i∨V.heap.size≤i:=fun i ⟨a,ha,e⟩=>by
  rcases g.place a ha with⟨b',h1,h2,_⟩|u
  ·exact .inl ⟨b',h1,by rw[←h2];exact e⟩
  ·exact .inr (by omega)
 refine⟨h.y,h.k.after hk fun i hi hf=>absurd (hlow i hf) (by omega),h.L.keeps hk fun i hi=>Nat.le_trans h.y (hlow i hi),⟨t,t1,t2,(TmO t).keeps t3 hk t6,t4,t5,fun i hi hf=>?_⟩,h.a.keeps hk fun a ha hf=>h.d _ ⟨a,ha,rfl⟩ hf,?_,fun i hi hc=>?_⟩
 ·rcases hp i hi with u|u
  ·exact t6 i u hf
  ·have:=(TmO t).lt t3 hf
   omega
 ·rw[ints_snoc,List.length_append]
  exact g.own hz fun a ha=>(h.c.lt a ha).2.1
 ·rcases hp i hc with u|u
  ·exact h.d i hi u
  ·obtain⟨a,ha,e⟩:=hi
   have:=(h.a.lt a ha).1
   omega
theorem bsN_easy:∀i,∀x∈bsN i,Easy x
 |0,x,hx=>by
  have:=chN_in 0
  rw[bsN,List.mem_singleton] at hx
  unfold Easy
  omega
 |k+1,x,hx=>by
  have:=chN_in (k+1)
  simp only[bsN,List.mem_cons,List.not_mem_nil,or_false] at hx
  unfold Easy
  omega
theorem bsN_len:∀i,(bsN i).length≤3
 |0=>by decide
 |k+1=>Nat.le_refl 3
theorem bytes_row {n c:Nat} {l:List UInt8} {V1:World} (hs:FromStr V [] T.uint8 l V1 n c):Row V1 (some ⟨n,0,none⟩) l.length 1 (bvals (l.map fun b=>((b.toNat:Nat):Int))):=by
 have e:bvals (l.map fun b=>((b.toNat:Nat):Int))=bytesV l:=by
  unfold bvals bytesV
  rw[List.map_map]
  rfl
 rw[e]
 exact⟨by simp[bytesV],fun a ha=>by cases ha;exact hs.row,fun _=>⟨_,rfl⟩⟩
theorem Lp.write (h:Lp w0 m b i ns ws p2 c2 p3 c3 V) {l:List UInt8} {V1 V2:World} {n c:Nat} (hs:FromStr V [] T.uint8 l V1 n c) (hb:Below V1.heap.size V1 V2) (hl:l.map (fun b=>((b.toNat:Nat):Int))=bsN i) (hi:i≤1000) {R:Ending→World→Prop}
  (hR:∀k V3,Lp w0 m b (i+1) ns ws p2 c2 p3 c3 V3→Kept w0.heap.size Nix [] V2 V3→R (.returned (.tuple #[.int .i64 k, .int .i64 0])) V3):Runs Tryz.prog X.term_Write #[.pointer (some ⟨b,0,none⟩), .slice (some ⟨n,0,none⟩) l.length c] V2 R:=by
 have k1:Keeps Nix V V1:=⟨hs.os,hs.tape,hs.output,by have:=hs.new;have:=hs.size;omega,fun i h1 _=>hs.heap i h1 (by simp)⟩
 have h2:=(h.nix k1).below hb
 obtain⟨t,u1,u2,u3,u4,u5,u6⟩:=h.t
 have k12:Keeps Nix V V2:=k1.trans (Keeps.of_below hb)
 have hrow:=(bytes_row hs).nix (Keeps.of_below hb)
 rw[hl] at hrow
 have hll:l.length=(bsN i).length:=by rw[←hl,List.length_map]
 have hl3:=bsN_len i
 subst u1
 have hz:=h2.k.size
 have hz0:=h.k.size
 have hnew:=hs.new
 have hz2:=k12.size
 have hP2:=(TmO t).nix u3 k12
 refine(r_easy_write (N:=4000*i) (by_:=bsN i) h2.L hP2 u2.ok u2.ps u2.pu u2.back hrow hll.symm (by omega) (fun a ha hf=>?_) (by omega) (bsN_easy i)).runs fun v V3 hk3 ⟨⟨k,hv⟩,t',⟨e1,e2,e3,e4,e5,e6,e7⟩,hP',hF'⟩=>?_
 ·cases ha
  have:=(TmO t).lt u3 hf
  change n<_ at this
  omega
 ·subst hv
  have hF:∀i,(TmO t').F i→w0.heap.size≤i:=fun i hi=>by
   rcases hF' i hi with q|q
   ·exact u4 i q
   ·omega
  obtain⟨hv,g1,g2⟩:=u2.st
  obtain⟨hv',r1,r2⟩:=step_N g1
  refine hR k V3 ⟨h.y,h2.k.after hk3 fun i hi hf=>absurd (u4 i hf) (by omega),h2.L.keeps hk3 fun i hi=>(TmO t).low u3 hi,⟨t',e1,⟨e2,e3,e4.trans u2.rows,e7.more (by omega),e6,hv',r2,by rw[e5,g2,r1]⟩,hP',hF,fun i hi hf=>?_,fun i hi hf=>?_⟩,h2.a.keeps hk3 fun a ha hf=>u5 _ ⟨a,ha,rfl⟩ hf,h2.c.keeps hk3 fun a ha hf=>u6 _ ⟨a,ha,rfl⟩ hf,h.d⟩ (hk3.kept (fun i hi hlt=>absurd (u4 i hi) (by omega)) fun i _ _ hm=>by cases hm)
  ·rcases hF' i hf with q|q
   ·exact u5 i hi q
   ·obtain⟨a,ha,e⟩:=hi
    have:=(h2.a.lt a ha).1
    omega
  ·rcases hF' i hf with q|q
   ·exact u6 i hi q
   ·obtain⟨a,ha,e⟩:=hi
    have:=(h2.c.lt a ha).1
    omega
end
end Go.Proofs.YtjhhiindeignaaaGreatDoor
namespace Go.Proofs.YtjhhiindeignaaaGreatDoor
open Go Go.RowKit Go.Sy Go.Rep
set_option maxRecDepth 100000
theorem v_scrollbacklaw37_EvictCounts {w0:World} {F:Nat→Prop} {Q:Value→World→Prop} (most:Int) (many:Int) (h:(((30:Int)<most)→∀w50:World,(Below w0.heap.size w0 w50)→Runs Tryz.prog X.scrollbacklaw37_known #[] w50 (fun e12 w51=>∃b8:Bool,(e12=(.returned (.bool b8)))∧((Kept w0.heap.size F [] w50 w51)∧Fin w0 F w51 Q (.bool b8))))∧((most≤30)→((many<2)→∀w47:World,(Below w0.heap.size w0 w47)→Runs Tryz.prog X.scrollbacklaw37_known #[] w47 (fun e11 w48=>∃b7:Bool,(e11=(.returned (.bool b7)))∧((Kept w0.heap.size F [] w47 w48)∧Fin w0 F w48 Q (.bool b7))))∧(((2:Int)≤many)→(((300:Int)<many)→∀w44:World,(Below w0.heap.size w0 w44)→Runs Tryz.prog X.scrollbacklaw37_known #[] w44 (fun e10 w45=>∃b6:Bool,(e10=(.returned (.bool b6)))∧((Kept w0.heap.size F [] w44 w45)∧Fin w0 F w45 Q (.bool b6))))∧((many≤300)→(I64 most)∧∀w1:World,(Below w0.heap.size w0 w1)→Runs Tryz.prog X.term_New #[(.agg #[(.int .i64 2),(.int .i64 6),(.int .i64 most)])] w1 (fun e1 w2=>∃p1:Option Addr,(e1=(.returned (.pointer p1)))∧((Kept w0.heap.size F [] w1 w2)∧(((p1=none)→Fin w0 F w2 Q (.bool false))∧((¬(p1=none))→(I64 many)∧((I64 (many-2))∧((I64 most)∧((I64 ((many-2)-most))∧∃I1:Option Addr→Nat→Nat→Option Addr→Nat→Nat→Int→World→Prop,∃I2:Option Addr→Nat→Nat→Option Addr→Nat→Nat→Int→Nat,(∀w42:World,(Below w2.heap.size w2 w42)→I1 none 0 0 none 0 0 0 w42)∧∀p2:Option Addr,∀n1 n2:Nat,∀p3:Option Addr,∀n3 n4:Nat,∀i1:Int,∀w3:World,(Keeps F w0 w3)→(I1 p2 n1 n2 p3 n3 n4 i1 w3)→(I64 many)∧(((i1<many)→(((0:Int)≤i1)∧((I64 i1)∧((0:Int)<26)))∧((I64 (97+(i1%26)))∧((((0:Int)<i1)→((2+((runeStr (IntKind.wrap .i32 (97+(i1%26)))).length))<9223372036854775807)∧∀w34:World,∀n15 n16:Nat,(FromStr w3 [] T.uint8 ([13,10]++(runeStr (IntKind.wrap .i32 (97+(i1%26))))) w34 n15 n16)→∀w35:World,(Below w34.heap.size w34 w35)→Runs Tryz.prog X.term_Write #[(.pointer p1),(.slice (some ⟨n15,0,none⟩) (([13,10]++(runeStr (IntKind.wrap .i32 (97+(i1%26))))).length) n16)] w35 (fun e9 w36=>∃i5 i6:Int,(e9=(.returned (.tuple #[(.int .i64 i5),(.int .i64 i6)])))∧((Kept w0.heap.size F [] w35 w36)∧(((i6≠0)→Fin w0 F w36 Q (.bool false))∧((i6=0)→∀n17:Nat,(w36.heap.size≤n17)→∃s3:List Value,(Room w0.heap.size F [n17] w36 T.int 1 p2 n1 n2 s3 1)∧((((n1+1)*8)≤140737488355328)∧∀w37:World,∀p7:Option Addr,∀n18:Nat,(Grown w36 [] p2 n1 n2 T.int 1 (n1+1) (s3++[(.int .i64 i1)]) w37 p7 n18)→(∀a4:Addr,(p7=(some a4))→¬(a4.block∈[n17]))→(((max 0 ((many-2)-most))≤i1)→∀n19:Nat,(w37.heap.size≤n19)→∃s4:List Value,(Room w0.heap.size F [n17,n19] w37 T.int 1 p3 n3 n4 s4 1)∧((((n3+1)*8)≤140737488355328)∧∀w39:World,∀p8:Option Addr,∀n20:Nat,(Grown w37 [] p3 n3 n4 T.int 1 (n3+1) (s4++[(.int .i64 i1)]) w39 p8 n20)→(∀a5:Addr,(p8=(some a5))→¬(a5.block∈[n17,n19]))→(I64 (i1+1))∧∀w40:World,(Below w39.heap.size w39 w40)→(I1 p7 (n1+1) n18 p8 (n3+1) n20 (i1+1) w40)∧(I2 p7 (n1+1) n18 p8 (n3+1) n20 (i1+1)<I2 p2 n1 n2 p3 n3 n4 i1)))∧((i1<(max 0 ((many-2)-most)))→(I64 (i1+1))∧∀w38:World,(Below w37.heap.size w37 w38)→(I1 p7 (n1+1) n18 p3 n3 n4 (i1+1) w38)∧(I2 p7 (n1+1) n18 p3 n3 n4 (i1+1)<I2 p2 n1 n2 p3 n3 n4 i1))))))))∧((i1≤0)→∀w26:World,∀n9 n10:Nat,(FromStr w3 [] T.uint8 (runeStr (IntKind.wrap .i32 (97+(i1%26)))) w26 n9 n10)→∀w27:World,(Below w26.heap.size w26 w27)→Runs Tryz.prog X.term_Write #[(.pointer p1),(.slice (some ⟨n9,0,none⟩) ((runeStr (IntKind.wrap .i32 (97+(i1%26)))).length) n10)] w27 (fun e8 w28=>∃i3 i4:Int,(e8=(.returned (.tuple #[(.int .i64 i3),(.int .i64 i4)])))∧((Kept w0.heap.size F [] w27 w28)∧(((i4≠0)→Fin w0 F w28 Q (.bool false))∧((i4=0)→∀n11:Nat,(w28.heap.size≤n11)→∃s1:List Value,(Room w0.heap.size F [n11] w28 T.int 1 p2 n1 n2 s1 1)∧((((n1+1)*8)≤140737488355328)∧∀w29:World,∀p5:Option Addr,∀n12:Nat,(Grown w28 [] p2 n1 n2 T.int 1 (n1+1) (s1++[(.int .i64 i1)]) w29 p5 n12)→(∀a2:Addr,(p5=(some a2))→¬(a2.block∈[n11]))→(((max 0 ((many-2)-most))≤i1)→∀n13:Nat,(w29.heap.size≤n13)→∃s2:List Value,(Room w0.heap.size F [n11,n13] w29 T.int 1 p3 n3 n4 s2 1)∧((((n3+1)*8)≤140737488355328)∧∀w31:World,∀p6:Option Addr,∀n14:Nat,(Grown w29 [] p3 n3 n4 T.int 1 (n3+1) (s2++[(.int .i64 i1)]) w31 p6 n14)→(∀a3:Addr,(p6=(some a3))→¬(a3.block∈[n11,n13]))→(I64 (i1+1))∧∀w32:World,(Below w31.heap.size w31 w32)→(I1 p5 (n1+1) n12 p6 (n3+1) n14 (i1+1) w32)∧(I2 p5 (n1+1) n12 p6 (n3+1) n14 (i1+1)<I2 p2 n1 n2 p3 n3 n4 i1)))∧((i1<(max 0 ((many-2)-most)))→(I64 (i1+1))∧∀w30:World,(Below w29.heap.size w29 w30)→(I1 p5 (n1+1) n12 p3 n3 n4 (i1+1) w30)∧(I2 p5 (n1+1) n12 p3 n3 n4 (i1+1)<I2 p2 n1 n2 p3 n3 n4 i1)))))))))))∧((many≤i1)→(I64 many)∧((I64 (many-2))∧((I64 many)∧∀w4:World,(Below w3.heap.size w3 w4)→Runs Tryz.prog X.scrollbacklaw37_there #[(.pointer p1),(.agg #[(.int .i64 (max 0 ((many-2)-most))),(.int .i64 (many-2)),(.int .i64 many)]),(.int .i64 0)] w4 (fun e2 w5=>∃b1:Bool,(e2=(.returned (.bool b1)))∧((Kept w0.heap.size F [] w4 w5)∧(((b1=false)→Fin w0 F w5 Q (.bool false))∧((b1=true)→∀w6:World,(Below w5.heap.size w5 w6)→Runs Tryz.prog X.scrollbacklaw37_kept #[(.pointer p1),(.slice p2 n1 n2),(.int .i64 0),(.slice p3 n3 n4)] w6 (fun e3 w7=>∃b2:Bool,(e3=(.returned (.bool b2)))∧((Kept w0.heap.size F [] w6 w7)∧(((b2=false)→Fin w0 F w7 Q (.bool false))∧((b2=true)→∃I3:Int→World→Prop,∃I4:Int→Nat,(∀w23:World,(Below w7.heap.size w7 w23)→I3 0 w23)∧∀i2:Int,∀w8:World,(Keeps F w0 w8)→(I3 i2 w8)→(I64 many)∧(((i2<many)→∀n5:Nat,(w8.heap.size≤n5)→(((max 0 ((many-2)-most))≤i2)→(((0:Int)≤i2)∧((I64 i2)∧((0:Int)<26)))∧((I64 (97+(i2%26)))∧(((((runeStr (IntKind.wrap .i32 (97+(i2%26)))).length)+5)<9223372036854775807)∧∀w16:World,∀n6:Nat,(Litr w8 [] T.string [(.string ⟨((runeStr (IntKind.wrap .i32 (97+(i2%26))))++[95,95,95,95,95]).toArray⟩)] w16 n6)→(¬(n6∈[n5]))→∀w17:World,(Below w16.heap.size w16 w17)→(Mine w17 w0.heap.size [(n5,T.Line)])→Runs Tryz.prog X.scrollbacklaw37_rows #[(.slice (some ⟨n6,0,none⟩) 1 1)] w17 (fun e6 w18=>∃p4:Option Addr,∃n7 n8:Nat,(e6=(.returned (.slice p4 n7 n8)))∧((Kept w0.heap.size F [n5] w17 w18)∧∃a1:Addr,(p4=(some a1))∧((((0:Int)≤0)∧((0:Int)<(n7:Int)))∧∃lh1:Lh,(At w18 a1 0 lh1.arr.toList)∧∀w19:World,(Ext w18 [n5] w19)→(Mine w19 w0.heap.size [(n5,T.Line)])→Runs Tryz.prog X.scrollbacklaw37_line #[(.pointer p1),(.int .i64 i2),(.agg lh1.arr),(.int .i64 0)] w19 (fun e7 w20=>∃b5:Bool,(e7=(.returned (.bool b5)))∧((Kept w0.heap.size F [n5] w19 w20)∧(((b5=false)→Fin w0 F w20 Q (.bool false))∧((b5=true)→(I64 (i2+1))∧∀w21:World,(Below w20.heap.size w20 w21)→(I3 (i2+1) w21)∧(I4 (i2+1)<I4 i2)))))))))))∧((i2<(max 0 ((many-2)-most)))→∀w12:World,(Below w8.heap.size w8 w12)→(Mine w12 w0.heap.size [(n5,T.Line)])→Runs Tryz.prog X.scrollbacklaw37_line #[(.pointer p1),(.int .i64 i2),(.agg #[(.slice none 0 0),(.bool false)]),(.int .i64 14)] w12 (fun e5 w13=>∃b4:Bool,(e5=(.returned (.bool b4)))∧((Kept w0.heap.size F [n5] w12 w13)∧(((b4=false)→Fin w0 F w13 Q (.bool false))∧((b4=true)→(I64 (i2+1))∧∀w14:World,(Below w13.heap.size w13 w14)→(I3 (i2+1) w14)∧(I4 (i2+1)<I4 i2)))))))∧((many≤i2)→∀w9:World,(Below w8.heap.size w8 w9)→Runs Tryz.prog X.scrollbacklaw37_known #[] w9 (fun e4 w10=>∃b3:Bool,(e4=(.returned (.bool b3)))∧((Kept w0.heap.size F [] w9 w10)∧Fin w0 F w10 Q (.bool b3)))))))))))))))))))))))))))):Gets Tryz.prog X.scrollbacklaw37_EvictCounts #[(.int .u8 most),(.int .u16 many)] w0 F Q:=
 func_run mixed [⟨9,[6,7,9],[]⟩,⟨23,[13],[]⟩] [] X.scrollbacklaw37_EvictCounts [SV.int IntKind.u8 most,SV.int IntKind.u16 many] ⟨by trivial,by trivial,trivial⟩ (by kernel_rfl) (by kernel_rfl) h
end Go.Proofs.YtjhhiindeignaaaGreatDoor
namespace Go.Proofs.YtjhhiindeignaaaGreatDoor
open Go Go.RowKit Go.Sy Go.Rep
set_option maxRecDepth 100000
set_option maxHeartbeats 1000000
def upto (j:Nat):List Int:=(List.range j).map fun k:Nat=>(k:Int)
theorem upto_succ (j:Nat):upto (j+1)=upto j++[(j:Int)]:=by unfold upto;rw[List.range_succ,List.map_append];rfl
theorem upto_len (j:Nat):(upto j).length=j:=by unfold upto;simp
theorem Te.new {m:Int} (h0:0≤m) (h1:m≤30) {t:Tx} (h:t.tq=newT ⟨2,6,m⟩):Te m.toNat 0 0 t:=by
 have hp:t.ps.pq=zPs.pq:=congrArg Tq.pq h
 have hq:t.sx.sq=(newT ⟨2,6,m⟩).sq:=congrArg Tq.sq h
 refine⟨⟨congrArg Pq.st hp,congrArg (fun q:Pq=>q.d.bs) hp,by rw[hp];exact zPq_j⟩,congrArg Tq.back h,(congrArg Tq.rows h).trans (show(max 1 (min (2:Int) 1000)).toNat=2 by decide),by rw[hq];exact(newT_ok _).sq,?_,⟨m.toNat,64,0,0,[]⟩,Hist.new _,?_⟩
 ·have:t.sx.sq.pushed=0:=by rw[hq];rfl
  exact this
 ·rw[hq]
  have e:(clampC ⟨2,6,m⟩).hist.toNat=m.toNat:=by unfold clampC;dsimp only;omega
  unfold newT
  dsimp only
  rw[e]
  rfl
section
variable {w w':World}
theorem tail {many f:Int} {m b j:Nat} {p2 p3:Option Addr} {n2 n4:Nat} {V:World} (hj:(j:Int)≤many) (hi:(j:Int)<many) (h300:many≤300) (h':Lp w m b (j+1) (upto j) (keptL f many (upto j)) p2 n2 p3 n4 V):
  ∀n17:Nat,V.heap.size≤n17→∃s3:List Value,Room w.heap.size Nix [n17] V T.int 1 p2 (upto j).length n2 s3 1∧(((upto j).length+1)*8≤140737488355328∧∀(w37:World) (p7:Option Addr) (n18:Nat),Grown V [] p2 (upto j).length n2 T.int 1 ((upto j).length+1) (s3++[.int .i64 (j:Int)]) w37 p7 n18→(∀a4:Addr,p7=some a4→¬(a4.block∈[n17]))→
   ((f≤(j:Int)→∀n19:Nat,w37.heap.size≤n19→∃s4:List Value,Room w.heap.size Nix [n17,n19] w37 T.int 1 p3 (keptL f many (upto j)).length n4 s4 1∧(((keptL f many (upto j)).length+1)*8≤140737488355328∧∀(w39:World) (p8:Option Addr) (n20:Nat),Grown w37 [] p3 (keptL f many (upto j)).length n4 T.int 1 ((keptL f many (upto j)).length+1) (s4++[.int .i64 (j:Int)]) w39 p8 n20→(∀a5:Addr,p8=some a5→¬(a5.block∈[n17,n19]))→
    I64 ((j:Int)+1)∧∀w40:World,Below w39.heap.size w39 w40→(∃j2:Nat,(j:Int)+1=j2∧(j2:Int)≤many∧(upto j).length+1=(upto j2).length∧(keptL f many (upto j)).length+1=(keptL f many (upto j2)).length∧Lp w m b j2 (upto j2) (keptL f many (upto j2)) p7 n18 p8 n20 w40)∧(many-((j:Int)+1)).toNat<(many-(j:Int)).toNat))∧
   ((j:Int)<f→I64 ((j:Int)+1)∧∀w38:World,Below w37.heap.size w37 w38→(∃j2:Nat,(j:Int)+1=j2∧(j2:Int)≤many∧(upto j).length+1=(upto j2).length∧(keptL f many (upto j)).length=(keptL f many (upto j2)).length∧Lp w m b j2 (upto j2) (keptL f many (upto j2)) p7 n18 p3 n4 w38)∧(many-((j:Int)+1)).toNat<(many-(j:Int)).toNat))):=by
 intro n17 g17
 have hul:=upto_len j
 have hkl:=keptL_len f many (upto j)
 refine⟨_,h'.a.room (fun a ha hm=>?_) (fun _ a ha hlt=>?_),by omega,fun w37 p7 n18 hg _=>?_⟩
 ·have:=(h'.a.lt a ha).1
  simp only[List.mem_cons,List.not_mem_nil,or_false] at hm
  omega
 ·have:=(h'.a.lt a ha).2.1
  omega
 have h7:=h'.pushA hg
 have hg7:=hg.size
 have step:keptL f many (upto (j+1))=keptL f many (upto j)++(if f≤(j:Int)∧(j:Int)<many then[(j:Int)] else[]):=by rw[upto_succ,keptL_snoc]
 refine⟨fun e1 n19 g19=>⟨_,h7.c.room (fun a ha hm=>?_) (fun _ a ha hlt=>?_),by omega,fun w39 p8 n20 hg2 _=>⟨by unfold I64;omega,fun w40 hb40=>⟨⟨j+1,by omega,by omega,by rw[upto_len,upto_len],?_,?_⟩,by omega⟩⟩⟩,fun e1=>⟨by unfold I64;omega,fun w38 hb38=>⟨⟨j+1,by omega,by omega,by rw[upto_len,upto_len],?_,?_⟩,by omega⟩⟩⟩
 ·have:=(h'.c.lt a ha).1
  have:=(h7.c.lt a ha).1
  simp only[List.mem_cons,List.not_mem_nil,or_false] at hm
  omega
 ·have:=(h7.c.lt a ha).2.1
  omega
 ·rw[step,if_pos ⟨e1,hi⟩,List.length_append]
  rfl
 ·rw[step,if_pos ⟨e1,hi⟩,upto_succ]
  exact(h7.pushC hg2).below hb40
 ·rw[step,if_neg (by omega),List.append_nil]
 ·rw[step,if_neg (by omega),List.append_nil,upto_succ]
  exact h7.below hb38
theorem law_EvictCounts {most many:Int} (hL:Laid w) (h0:0≤most) (hk:Pure X.scrollbacklaw37_known #[] (.bool true)):Ret X.scrollbacklaw37_EvictCounts #[.int .u8 most, .int .u16 many] w (.bool true):=by
 have hY:=hL.size
 have kn:∀{V:World} {R:Ending→World→Prop},Laid V→(∀w',Keeps Nix V w'→Laid w'→R (.returned (.bool true)) w')→Runs Tryz.prog X.scrollbacklaw37_known #[] V R:=fun hV hR=>hk.runs hV hR
 refine v_scrollbacklaw37_EvictCounts most many ⟨fun _ w1 hb1=>kn (Laid.below hb1 hL) fun w2 k2 _=>⟨_,rfl,k2.nix,Fin.of fun _=>rfl⟩,fun h30=>⟨fun _ w1 hb1=>kn (Laid.below hb1 hL) fun w2 k2 _=>⟨_,rfl,k2.nix,Fin.of fun _=>rfl⟩,fun h2=>⟨fun _ w1 hb1=>kn (Laid.below hb1 hL) fun w2 k2 _=>⟨_,rfl,k2.nix,Fin.of fun _=>rfl⟩,fun h300=>⟨by unfold I64;omega,fun w1 hb1=>?_⟩⟩⟩⟩
 refine(r_term_New (c:=⟨2,6,most⟩) (Laid.below hb1 hL)).runs fun v w2 k2 ⟨t0,hv,ht0,hP0,hF0⟩=>?_
 subst hv
 have hz1:=hb1.size
 have k02:Keeps Nix w w2:=(Keeps.of_below hb1).trans k2
 obtain⟨f,hf⟩:∃f,max 0 ((many-2)-most)=f:=⟨_,rfl⟩
 refine⟨_,rfl,k2.nix,fun e=>(by cases e),fun _=>⟨by unfold I64;omega,by unfold I64;omega,by unfold I64;omega,by unfold I64;omega,fun p2 n1 n2 p3 n3 n4 i V=>∃j:Nat,i=j∧(j:Int)≤many∧n1=(upto j).length∧n3=(keptL f many (upto j)).length∧Lp w most.toNat t0.b j (upto j) (keptL f many (upto j)) p2 n2 p3 n4 V,fun _ _ _ _ _ _ i=>(many-i).toNat,fun V hb=>⟨0,rfl,by omega,rfl,rfl,?_⟩,?_⟩⟩
 ·have kV:=k02.trans (Keeps.of_below hb)
  exact⟨hY,kV,Laid.nix kV hL,⟨t0,rfl,Te.new h0 h30 ht0,(TmO t0).nix hP0 (Keeps.of_below hb),fun i hi=>by have:=hF0 i hi;omega,fun i ⟨a,ha,_⟩=>(by cases ha),fun i ⟨a,ha,_⟩=>(by cases ha)⟩,Own.nil _ _ _ _,Own.nil _ _ _ _,fun i ⟨a,ha,_⟩=>(by cases ha)⟩
 rintro p2 n1 n2 p3 n3 n4 i w3 hk3 ⟨j,rfl,hj,rfl,rfl,hlp⟩
 rw[hf]
 have hz3:=hk3.size
 refine⟨by unfold I64;omega,fun hi=>⟨⟨by omega,by unfold I64;omega,by omega⟩,by unfold I64;omega,?_,?_⟩,fun hi=>?_⟩
 ·refine fun g=>⟨by have:=(rune_letter j).2;unfold chN at this;omega,fun w34 n15 n16 hs w35 hb=>hlp.write hs hb ?_ (by omega) fun k V3 h' kk=>⟨_,_,rfl,kk,fun e=>absurd rfl e,fun _=>?_⟩⟩
  ·obtain⟨j',rfl⟩:∃j',j=j'+1:=⟨j-1,by omega⟩
   rw[List.map_append,show(runeStr (IntKind.wrap .i32 (97+((j'+1:Nat):Int)%26)))=runeStr (IntKind.wrap .i32 (chN (j'+1))) from rfl,(rune_letter (j'+1)).1]
   rfl
  ·exact tail hj hi h300 h'
 ·refine fun g w34 n15 n16 hs w35 hb=>hlp.write hs hb ?_ (by omega) fun k V3 h' kk=>⟨_,_,rfl,kk,fun e=>absurd rfl e,fun _=>?_⟩
  ·obtain rfl:j=0:=by omega
   exact(rune_letter 0).1
  ·exact tail hj hi h300 h'
 ·obtain rfl:(j:Int)=many:=by omega
  obtain⟨k,rfl⟩:∃k,j=k+2:=⟨j-2,by omega⟩
  obtain⟨t,t1,t2,t3,t4,t5,t6⟩:=hlp.t
  have htq:=t2.tq
  have hfn:=t2.fn
  have hall:allT t.sx.sq=(lns (k+2)).drop (k-most.toNat):=by
   obtain⟨hv,g1,g2⟩:=t2.st
   rw[g2]
   exact all_N (k:=k) g1 (by omega)
  have hev:evQ t.sx.sq=⟨f,((k+2:Nat):Int)-2,((k+2:Nat):Int)⟩:=by
   obtain⟨hv,g1,g2⟩:=t2.st
   rw[g2,ev_N (k:=k) g1 (by omega),←hf]
   congr 1
   ·omega
   ·omega
  have e1:(evQ t.sx.sq).first=f:=by rw[hev]
  have e2:(evQ t.sx.sq).next=((k+2:Nat):Int):=by rw[hev]
  have P:∀{V:World},Keeps Nix w3 V→(TmO t).P V:=fun hk=>(TmO t).nix t3 hk
  have L3:=hlp.L
  have hul:=upto_len (k+2)
  have ptr:t.ptr=t0.ptr:=by unfold Tx.ptr;rw[t1]
  refine⟨by unfold I64;omega,by unfold I64;omega,by unfold I64;omega,fun w4 hb4=>?_⟩
  have k4:Keeps Nix w3 w4:=Keeps.of_below hb4
  have hth:=r_law_there (Laid.nix k4 L3) (P k4) htq hfn (by omega)
  rw[hev,ptr] at hth
  refine hth.runs fun w5 k5=>⟨_,rfl,k5.nix,fun e=>(nomatch e),fun _ w6 hb6=>?_⟩
  have k6:=(k4.trans k5).trans (Keeps.of_below hb6)
  have hkp:=r_law_kept (pl:=p2) (cl:=n2) (pw:=p3) (cw:=n4) (nl:=(upto (k+2)).length) (nw:=(keptL f ((k+2:Nat):Int) (upto (k+2))).length) (l:=upto (k+2)) (Laid.nix k6 L3) (P k6) htq hfn (by omega) (IRow.nx (Own.row hlp.a) k6) (by omega) (by rw[e1,e2];exact IRow.nx (Own.row hlp.c) k6)
  rw[ptr] at hkp
  refine hkp.runs fun w7 k7=>⟨_,rfl,k7.nix,fun e=>(nomatch e),fun _=>⟨fun i V=>0≤i∧i≤((k+2:Nat):Int)∧Keeps Nix w3 V,fun i=>(((k+2:Nat):Int)-i).toNat,fun V hb=>⟨by omega,by omega,(k6.trans k7).trans (Keeps.of_below hb)⟩,?_⟩⟩
  rintro i V _ ⟨i0,i1,kV⟩
  obtain⟨q,rfl⟩:∃q:Nat,i=q:=⟨i.toNat,by omega⟩
  have LV:=Laid.nix kV L3
  have hzV:=kV.size
  have hcount:=L3.size
  refine⟨by unfold I64;omega,fun hlt n5 g5=>⟨fun g1=>⟨⟨by omega,by unfold I64;omega,by omega⟩,by unfold I64;omega,by have:=(rune_letter q).2;unfold chN at this;omega,fun w16 n6 hli hne w17 hb17 hm17=>?_⟩,fun g1 w12 hb12 hm12=>?_⟩,fun hge w9 hb9=>kn (Laid.below hb9 LV) fun w10 k10 _=>⟨_,rfl,k10.nix,Fin.of fun _=>rfl⟩⟩
  ·have k17:=(Litr.keeps hli rfl).trans (Keeps.of_below hb17)
   have hrow:Row w17 (some ⟨n6,0,none⟩) 1 1 (strsV [lineS (chN q)]):=(Own.row (Litr.own (s:=1) (n:=1) hli rfl (by decide))).nix (Keeps.of_below hb17)
   have L17:=Laid.nix k17 LV
   have hm5:=Mine.all hm17 n5 (by simp)
   have hz17:=k17.size
   refine(r_law_rows (ss:=[lineS (chN q)]) (cl:=1) L17 hrow (by decide) (fun s hs=>by rw[List.mem_singleton] at hs;rw[hs];exact row_ok q)).runs fun v w18 k18 ⟨p4,c4,xs,hv,hx,hls,hF⟩=>?_
   subst hv
   refine⟨_,_,_,rfl,k18.nix,hls.ex (i:=0) (by omega) (by omega) fun a ha hown hmem w19 he hm19=>?_⟩
   have kE:=Go.Proofs.YtjhhiindeignaaaGreatDoor.Ext.keeps he
   have k18':=(kV.trans k17).trans k18
   have hP19:(TmO t).P w19:=(TmO t).keeps (P k18') kE fun i hi hf=>by
    have a1:i=n5:=by simpa using hi
    have a2:=(TmO t).lt t3 hf
    omega
   have L19:Laid w19:=(Laid.nix k18' L3).keeps kE fun i hi=>by
    have a1:i=n5:=by simpa using hi
    omega
   have hls19:=hls.keeps kE fun i hi hf=>by
    have a1:i=n5:=by simpa using hi
    have a2:=hF i hf
    omega
   have hli0:(lnAt xs 0).li=⟨(lineS (chN q)).map cellB,false⟩:=by
    have hl1:xs.length=1:=hls.len
    have h1:=lis_get (xs:=xs) (k:=0) (by omega)
    rw[hx] at h1
    exact(Option.some.inj h1).symm
   have c1:(lnAt xs 0).cs=(lRow 6 (chN q)).cs:=(congrArg Li.cs hli0).trans (cell_letter q)
   have c2:(lnAt xs 0).soft=false:=congrArg Li.soft hli0
   have hw:LRow w19 (lnAt xs 0).lh (lRow 6 (chN q)).cs:=by rw[←c1];exact(hls19.each.own _ hmem).lrow
   have hlaw:=r_law_line (n:=(q:Int)) (no:=0) (want:=(lnAt xs 0).lh) (wc:=(lRow 6 (chN q)).cs) (by omega) L19 hP19 htq hfn (by omega) hw (.inr ⟨⟨by omega,by omega,by omega⟩,rfl,by show 6≤1000;decide,by
    rw[hall,e1,List.getElem?_drop]
    have:k-most.toNat+((q:Int)-f).toNat=q:=by omega
    rw[this,lns_get (by omega)]
    show some (⟨_,false⟩:Li)=some ⟨_,(lnAt xs 0).soft⟩
    rw[c2]
    rfl⟩)
   rw[ptr] at hlaw
   refine hlaw.runs fun w20 k20=>⟨_,rfl,k20.nix,fun e=>(nomatch e),fun _=>⟨by unfold I64;omega,fun w21 hb21=>⟨⟨by omega,by omega,?_⟩,by dsimp only;omega⟩⟩⟩
   have k19:Keeps Nix w3 w19:=k18'.after kE fun i hi hf=>by
    have a1:i=n5:=by simpa using hf
    omega
   exact(k19.trans k20).trans (Keeps.of_below hb21)
  ·have k12:=kV.trans (Keeps.of_below hb12)
   have hlaw:=r_law_line (n:=(q:Int)) (no:=14) (want:=⟨⟨none,0,0⟩,false⟩) (wc:=[]) (by omega) (Laid.nix k12 L3) (P k12) htq hfn (by omega) (LRow.zero _) (.inl (.inr ⟨⟨by omega,by omega,by omega⟩,rfl,rfl,rfl⟩))
   rw[ptr] at hlaw
   exact hlaw.runs fun w13 k13=>⟨_,rfl,k13.nix,fun e=>(nomatch e),fun _=>⟨by unfold I64;omega,fun w14 hb14=>⟨⟨by omega,by omega,(k12.trans k13).trans (Keeps.of_below hb14)⟩,by dsimp only;omega⟩⟩⟩
end
end Go.Proofs.YtjhhiindeignaaaGreatDoor
namespace Go.Proofs.YtjhhiindeignaaaGreatDoor
open Go Go.RowKit Go.Sy Go.Rep
set_option maxRecDepth 100000
theorem v_scrollbacklaw37_known {w0:World} {F:Nat→Prop} {Q:Value→World→Prop} (h:∀w1:World,(Below w0.heap.size w0 w1)→Runs Tryz.prog X.term_New #[(.agg #[(.int .i64 2),(.int .i64 4),(.int .i64 2)])] w1 (fun e1 w2=>∃p1:Option Addr,(e1=(.returned (.pointer p1)))∧((Kept w0.heap.size F [] w1 w2)∧(((p1=none)→Fin w0 F w2 Q (.bool false))∧((¬(p1=none))→∀w3:World,∀n1:Nat,(Litr w2 [] T.uint8 [(.int .u8 97),(.int .u8 13),(.int .u8 10),(.int .u8 98),(.int .u8 13),(.int .u8 10),(.int .u8 99),(.int .u8 13),(.int .u8 10),(.int .u8 100),(.int .u8 13),(.int .u8 10),(.int .u8 101)] w3 n1)→∃a1:Addr,((some ⟨n1,0,none⟩)=(some a1))∧(((CanPut w3 a1 0 0)∧(Away w0.heap.size F [] a1.block))∧∀w4:World,(Marked w3 [] a1 w4)→∀w5:World,(Below w4.heap.size w4 w5)→Runs Tryz.prog X.term_Write #[(.pointer p1),(.slice (some ⟨n1,0,none⟩) 13 13)] w5 (fun e2 w6=>∃i1 i2:Int,(e2=(.returned (.tuple #[(.int .i64 i1),(.int .i64 i2)])))∧((Kept w0.heap.size F [] w5 w6)∧∀w7:World,∀n2:Nat,(Litr w6 [] T.string [(.string ⟨[98,95,95,95].toArray⟩),(.string ⟨[101,95,95,95].toArray⟩)] w7 n2)→∀w8:World,(Below w7.heap.size w7 w8)→Runs Tryz.prog X.scrollbacklaw37_rows #[(.slice (some ⟨n2,0,none⟩) 2 2)] w8 (fun e3 w9=>∃p2:Option Addr,∃n3 n4:Nat,(e3=(.returned (.slice p2 n3 n4)))∧((Kept w0.heap.size F [] w8 w9)∧∀w10:World,(Below w9.heap.size w9 w10)→Runs Tryz.prog X.scrollbacklaw37_there #[(.pointer p1),(.agg #[(.int .i64 1),(.int .i64 3),(.int .i64 5)]),(.int .i64 0)] w10 (fun e4 w11=>∃b1:Bool,(e4=(.returned (.bool b1)))∧((Kept w0.heap.size F [] w10 w11)∧(((b1=false)→Fin w0 F w11 Q (.bool false))∧((b1=true)→∃a2:Addr,(p2=(some a2))∧((((0:Int)≤0)∧((0:Int)<(n3:Int)))∧∃lh1:Lh,(At w11 a2 0 lh1.arr.toList)∧∀w12:World,(Below w11.heap.size w11 w12)→Runs Tryz.prog X.scrollbacklaw37_line #[(.pointer p1),(.int .i64 1),(.agg lh1.arr),(.int .i64 0)] w12 (fun e5 w13=>∃b2:Bool,(e5=(.returned (.bool b2)))∧((Kept w0.heap.size F [] w12 w13)∧(((b2=false)→Fin w0 F w13 Q (.bool false))∧((b2=true)→∃a3:Addr,(p2=(some a3))∧((((0:Int)≤1)∧((1:Int)<(n3:Int)))∧∃lh2:Lh,(At w13 a3 2 lh2.arr.toList)∧∀w14:World,(Below w13.heap.size w13 w14)→Runs Tryz.prog X.scrollbacklaw37_line #[(.pointer p1),(.int .i64 4),(.agg lh2.arr),(.int .i64 0)] w14 (fun e6 w15=>∃b3:Bool,(e6=(.returned (.bool b3)))∧((Kept w0.heap.size F [] w14 w15)∧(((b3=false)→Fin w0 F w15 Q (.bool false))∧((b3=true)→∀w16:World,(Below w15.heap.size w15 w16)→Runs Tryz.prog X.scrollbacklaw37_line #[(.pointer p1),(.int .i64 0),(.agg #[(.slice none 0 0),(.bool false)]),(.int .i64 14)] w16 (fun e7 w17=>∃b4:Bool,(e7=(.returned (.bool b4)))∧((Kept w0.heap.size F [] w16 w17)∧(((b4=false)→Fin w0 F w17 Q (.bool false))∧((b4=true)→∀w18:World,(Below w17.heap.size w17 w18)→Runs Tryz.prog X.scrollbacklaw37_line #[(.pointer p1),(.int .i64 5),(.agg #[(.slice none 0 0),(.bool false)]),(.int .i64 3)] w18 (fun e8 w19=>∃b5:Bool,(e8=(.returned (.bool b5)))∧((Kept w0.heap.size F [] w18 w19)∧(((b5=false)→Fin w0 F w19 Q (.bool false))∧((b5=true)→∀w20:World,(Below w19.heap.size w19 w20)→Runs Tryz.prog X.evict_Clamp #[(.pointer p1),(.agg #[(.int .i64 2),(.int .i64 3)])] w20 (fun e9 w21=>∃pl1:Go.Rep.Pl,∃i3:Int,(e9=(.returned (.tuple #[(.agg #[(.int .i64 pl1.line),(.int .i64 pl1.col)]),(.int .i64 i3)])))∧((Kept w0.heap.size F [] w20 w21)∧∀n5:Nat,(w21.heap.size≤n5)→∀w22:World,∀n6:Nat,(Litr w21 [] T.int [(.int .i64 0),(.int .i64 3),(.int .i64 1),(.int .i64 9),(.int .i64 3)] w22 n6)→(¬(n6∈[n5]))→∀w23:World,∀n7:Nat,(Litr w22 [] T.int [(.int .i64 3),(.int .i64 1),(.int .i64 3)] w23 n7)→(¬(n7∈[n5]))→∀w24:World,(Below w23.heap.size w23 w24)→(Mine w24 w0.heap.size [(n5,T.Place)])→Runs Tryz.prog X.scrollbacklaw37_kept #[(.pointer p1),(.slice (some ⟨n6,0,none⟩) 5 5),(.int .i64 0),(.slice (some ⟨n7,0,none⟩) 3 3)] w24 (fun e10 w25=>∃b6:Bool,(e10=(.returned (.bool b6)))∧((Kept w0.heap.size F [n5] w24 w25)∧(((b6=true)→∀w27:World,(Below w25.heap.size w25 w27)→(Mine w27 w0.heap.size [(n5,T.Place)])→Runs Tryz.prog X.scrollbacklaw37_kept #[(.pointer p1),(.slice none 0 0),(.int .i64 0),(.slice none 0 0)] w27 (fun e11 w28=>∃b7:Bool,(e11=(.returned (.bool b7)))∧((Kept w0.heap.size F [n5] w27 w28)∧(((b7=true)→∀w30:World,(Below w28.heap.size w28 w30)→(Mine w30 w0.heap.size [(n5,T.Place)])→Runs Tryz.prog X.scrollbacklaw37_there #[(.pointer none),(.agg #[(.int .i64 0),(.int .i64 0),(.int .i64 0)]),(.int .i64 1)] w30 (fun e12 w31=>∃b8:Bool,(e12=(.returned (.bool b8)))∧((Kept w0.heap.size F [n5] w30 w31)∧(((b8=true)→∃b9:Bool,(∀w35:World,(Op.equal T.Place (.agg #[(.int .i64 pl1.line),(.int .i64 pl1.col)]) (.agg #[(.int .i64 2),(.int .i64 3)])).run (Tryz.prog) w35= .ok b9 w35)∧(((b9=true)→Fin w0 F w31 Q (.bool (BE.val (.eq i3 0))))∧((b9=false)→Fin w0 F w31 Q (.bool false))))∧((b8=false)→Fin w0 F w31 Q (.bool false))))))∧((b7=false)→Fin w0 F w28 Q (.bool false))))))∧((b6=false)→Fin w0 F w25 Q (.bool false))))))))))))))))))))))))))))))))))))))):Gets Tryz.prog X.scrollbacklaw37_known #[] w0 F Q:=
 func_run mixed [] [] X.scrollbacklaw37_known [] trivial (by kernel_rfl) (by kernel_rfl) h
end Go.Proofs.YtjhhiindeignaaaGreatDoor
namespace Go.Proofs.YtjhhiindeignaaaGreatDoor
open Go Go.RowKit Go.Sy Go.Rep
set_option maxRecDepth 100000
set_option maxHeartbeats 1000000
def bsK:List Int:=[97,13,10,98,13,10,99,13,10,100,13,10,101]
def qK:Sq:=runE bsK (newT ⟨2,4,2⟩).sq
theorem evK:evQ qK=⟨1,3,5⟩:=by kernel_rfl
theorem allK:allT qK=[lRow 4 98,lRow 4 99,lRow 4 100,lRow 4 101]:=by kernel_rfl
theorem rowsK:qK.rows=2:=by kernel_rfl
theorem colsK:qK.cols=4:=by kernel_rfl
theorem firstK:qK.hv.first=1:=by kernel_rfl
theorem nextK:qK.hv.next=3:=by kernel_rfl
theorem bsK_easy:∀x∈bsK,Easy x:=by
 intro x hx
 simp only[bsK,List.mem_cons,List.not_mem_nil,or_false] at hx
 unfold Easy
 omega
section
variable {w w':World}
theorem Marked.keeps {a:Addr} (h:Marked w [] a w'):Keeps (fun i=>i=a.block) w w':=⟨h.os,h.tape,h.output,h.size,fun i h1 h2=>h.heap i h1 (by simp) h2⟩
theorem Marked.at_ {n:Nat} {e:TypeId} {cs us:List Value} {o:Nat} (h:Marked w [] ⟨n,0,none⟩ w') (hw:Whole w n e cs) (ha:At w ⟨n,0,none⟩ o us):At w' ⟨n,0,none⟩ o us:=by
 obtain⟨fr,h2⟩:=h.here _ _ hw
 have h1:w.heap[n]? =some (.cells cs.toArray e (0,0)):=hw
 intro j v hj
 have:=ha j v hj
 unfold World.cell? at this⊢
 rw[Addr.add_lit] at this⊢
 dsimp only at this⊢
 rw[h1] at this
 rw[show w'.heap[n]? =some (.cells cs.toArray e fr) from h2]
 exact this
theorem c_known37:Pure X.scrollbacklaw37_known #[] (.bool true):=by
 intro w hL
 have hY:=hL.size
 refine v_scrollbacklaw37_known fun w1 hb1=>?_
 refine(r_term_New (c:=⟨2,4,2⟩) (Laid.below hb1 hL)).runs fun v w2 k2 ⟨t0,hv,ht0,hP0,hF0⟩=>?_
 subst hv
 have hz1:=hb1.size
 have hz2:=k2.size
 refine⟨_,rfl,k2.nix,fun e=>(by cases e),fun _ w3 n1 hli=>?_⟩
 have hnew:=hli.new
 have hsz:=hli.size
 refine⟨⟨n1,0,none⟩,rfl,⟨⟨rfl,_,_,hli.row,by simp⟩,by simp,fun e=>absurd (show n1<w.heap.size from e) (by omega)⟩,fun w4 hma w5 hb5=>?_⟩
 have k24:Keeps Nix w2 w3:=Litr.keeps hli rfl
 have km:Keeps (fun i=>i=n1) w3 w4:=Marked.keeps hma
 have k01:Keeps Nix w w2:=(Keeps.of_below hb1).trans k2
 have L3:Laid w3:=Laid.nix (k01.trans k24) hL
 have L5:Laid w5:=Laid.below hb5 (L3.keeps km fun i e=>by omega)
 have hP3:=(TmO t0).nix hP0 k24
 have hP4:(TmO t0).P w4:=(TmO t0).keeps hP3 km fun i e hf=>by
  have:=(TmO t0).lt hP0 hf
  omega
 have hP5:=(TmO t0).nix hP4 (Keeps.of_below hb5)
 have k05:Keeps Nix w w5:=((k01.trans k24).after km fun i h1 e=>by omega).trans (Keeps.of_below hb5)
 have hrow:Row w5 (some ⟨n1,0,none⟩) 13 1 (bvals bsK):=by
  have h3:Row w3 (some ⟨n1,0,none⟩) 13 1 (bvals bsK):=Own.row (Litr.own (s:=1) (n:=13) hli rfl (by decide))
  exact Row.nix ⟨h3.len,fun a ha=>by cases ha;exact Marked.at_ hma hli.row (h3.lies _ rfl),fun _=>⟨_,rfl⟩⟩ (Keeps.of_below hb5)
 have hp:t0.ps.pq=zPs.pq:=congrArg Tq.pq ht0
 have hq:t0.sx.sq=(newT ⟨2,4,2⟩).sq:=congrArg Tq.sq ht0
 have hpu:t0.sx.pushed=0:=by
  have:t0.sx.sq.pushed=0:=by rw[hq];rfl
  exact this
 refine(r_easy_write (N:=0) (by_:=bsK) L5 hP5 (by rw[hq];exact(newT_ok _).sq) ⟨congrArg Pq.st hp,congrArg (fun q:Pq=>q.d.bs) hp,by rw[hp];exact zPq_j⟩ hpu (congrArg Tq.back ht0) hrow rfl (by decide) (fun a ha hf=>?_) (by decide) bsK_easy).runs fun v w6 hk6 ⟨⟨kk,hv⟩,t,⟨e1,e2,e3,e4,e5,e6,e7⟩,hP6,hF6⟩=>?_
 ·cases ha
  have:=(TmO t0).lt hP0 hf
  change n1<_ at this
  omega
 subst hv
 have L6:Laid w6:=L5.keeps hk6 fun i hi=>(TmO t0).low hP0 hi
 have ptr:t0.ptr=t.ptr:=by unfold Tx.ptr;rw[e1]
 rw[hq] at e5
 change t.sx.sq=qK at e5
 have htq:TqOk 13000 t.tq:=⟨e7.more (by decide),e2.j,e6,by
  show(t.vw.rows:Int)=t.sx.sq.rows
  rw[e4,e5,rowsK,show t0.vw.rows=2 from(congrArg Tq.rows ht0).trans (by decide)]
  rfl⟩
 have hfn:t.sx.sq.hv.first≤t.sx.sq.hv.next:=by rw[e5,firstK,nextK];decide
 have hev:evQ t.sx.sq=⟨1,3,5⟩:=by rw[e5];exact evK
 have hall:allT t.sx.sq=[lRow 4 98,lRow 4 99,lRow 4 100,lRow 4 101]:=by rw[e5];exact allK
 have hcol:t.sx.sq.cols=4:=by rw[e5];exact colsK
 have P:∀{V:World},Keeps Nix w6 V→(TmO t).P V:=fun hk=>(TmO t).nix hP6 hk
 have L:∀{V:World},Keeps Nix w6 V→Laid V:=fun hk=>Laid.nix hk L6
 refine⟨_,_,rfl,hk6.kept (fun i hi hlt=>absurd (hF0 i hi) (by omega)) (fun i _ _ hm=>by cases hm),fun w7 n2 hls w8 hb8=>?_⟩
 have k8:Keeps Nix w6 w8:=(Litr.keeps hls rfl).trans (Keeps.of_below hb8)
 have hrow8:Row w8 (some ⟨n2,0,none⟩) 2 1 (strsV [[98,95,95,95],[101,95,95,95]]):=(Own.row (Litr.own (s:=1) (n:=2) hls rfl (by decide))).nix (Keeps.of_below hb8)
 refine(r_law_rows (ss:=[[98,95,95,95],[101,95,95,95]]) (cl:=2) (L k8) hrow8 (by decide) (fun s hs=>by
  simp only[List.mem_cons,List.not_mem_nil,or_false] at hs
  rcases hs with rfl|rfl<;>decide)).runs fun v w9 k9 ⟨p2,c2,xs,hv,hx,hlx,hFx⟩=>?_
 subst hv
 have k69:=k8.trans k9
 have hth:∀{V:World},Keeps Nix w6 V→Ret X.scrollbacklaw37_there #[t0.ptr, .agg #[.int .i64 1, .int .i64 3, .int .i64 5], .int .i64 0] V (.bool true):=fun hk=>by
  have:=r_law_there (L hk) (P hk) htq hfn (by decide)
  rw[hev,←ptr] at this
  exact this
 refine⟨_,_,_,rfl,k9.nix,fun w10 hb10=>(hth (k69.trans (Keeps.of_below hb10))).runs fun w11 k11=>⟨_,rfl,k11.nix,fun e=>(nomatch e),fun _=>?_⟩⟩
 have k9b:Keeps Nix w9 w11:=(Keeps.of_below hb10).trans k11
 have k611:=k69.trans k9b
 have hl1:xs.length=2:=hlx.len
 have li0:(lnAt xs 0).li=⟨([98,95,95,95]:List UInt8).map cellB,false⟩:=by
  have h1:=lis_get (xs:=xs) (k:=0) (by omega)
  rw[hx] at h1
  exact(Option.some.inj h1).symm
 have li1:(lnAt xs 1).li=⟨([101,95,95,95]:List UInt8).map cellB,false⟩:=by
  have h1:=lis_get (xs:=xs) (k:=1) (by omega)
  rw[hx] at h1
  exact(Option.some.inj h1).symm
 have a0:(lnAt xs 0).cs=(lRow 4 98).cs:=(congrArg Li.cs li0).trans (by kernel_rfl)
 have a1:(lnAt xs 1).cs=(lRow 4 101).cs:=(congrArg Li.cs li1).trans (by kernel_rfl)
 have b0:(lnAt xs 0).soft=false:=congrArg Li.soft li0
 have b1:(lnAt xs 1).soft=false:=congrArg Li.soft li1
 have f1:(evQ t.sx.sq).first=1:=by rw[hev]
 have f2:(evQ t.sx.sq).next=5:=by rw[hev]
 have zero:∀{V:World} {n no:Int},Keeps Nix w6 V→(n=0∧no=14)∨(n=5∧no=3)→Ret X.scrollbacklaw37_line #[t0.ptr, .int .i64 n, .agg #[.slice none 0 0, .bool false], .int .i64 no] V (.bool true):=fun{V n no} hk hc=>by
  have:=r_law_line (n:=n) (no:=no) (want:=⟨⟨none,0,0⟩,false⟩) (wc:=[]) (by omega) (L hk) (P hk) htq hfn (by decide) (LRow.zero _) (by
   rcases hc with⟨h1,h2⟩|⟨h1,h2⟩
   ·exact .inl (.inr ⟨by omega,h2,rfl,rfl⟩)
   ·exact .inl (.inl ⟨by omega,h2,rfl,rfl⟩))
  rw[←ptr] at this
  exact this
 have full:∀{V:World} {n:Int} {lh:Lh} {c:Int},Keeps Nix w6 V→LRow V lh (lRow 4 c).cs→lh.soft=false→(1≤n∧n<5)→(allT t.sx.sq)[(n-1).toNat]? =some (lRow 4 c)→Ret X.scrollbacklaw37_line #[t0.ptr, .int .i64 n, .agg lh.arr, .int .i64 0] V (.bool true):=fun{V n lh c} hk hl hs hn hg=>by
  have:=r_law_line (n:=n) (no:=0) (want:=lh) (wc:=(lRow 4 c).cs) (by omega) (L hk) (P hk) htq hfn (by decide) hl (.inr ⟨by omega,rfl,by show 4≤1000;decide,by rw[f1,hg,hs];rfl⟩)
  rw[←ptr] at this
  exact this
 have hlx11:=hlx.nix k9b
 refine hlx11.ex (i:=0) (by omega) (by omega) fun a ha hown hmem w12 hb12=>?_
 have k12:=k611.trans (Keeps.of_below hb12)
 refine(full (n:=1) (c:=98) k12 (by rw[←a0];exact hown.lrow.nix (Keeps.of_below hb12)) b0 (by omega) (by rw[hall];rfl)).runs fun w13 k13=>⟨_,rfl,k13.nix,fun e=>(nomatch e),fun _=>?_⟩
 have k613:=k12.trans k13
 have hlx13:=(hlx11.nix (Keeps.of_below hb12)).nix k13
 refine hlx13.ex (i:=1) (by omega) (by omega) fun a2 ha2 hown2 hmem2 w14 hb14=>?_
 have k14:=k613.trans (Keeps.of_below hb14)
 refine(full (n:=4) (c:=101) k14 (by rw[←a1];exact hown2.lrow.nix (Keeps.of_below hb14)) b1 (by omega) (by rw[hall];rfl)).runs fun w15 k15=>⟨_,rfl,k15.nix,fun e=>(nomatch e),fun _ w16 hb16=>?_⟩
 have k16:=(k14.trans k15).trans (Keeps.of_below hb16)
 refine(zero k16 (.inl ⟨rfl,rfl⟩)).runs fun w17 k17=>⟨_,rfl,k17.nix,fun e=>(nomatch e),fun _ w18 hb18=>?_⟩
 have k18:=(k16.trans k17).trans (Keeps.of_below hb18)
 refine(zero k18 (.inr ⟨rfl,rfl⟩)).runs fun w19 k19=>⟨_,rfl,k19.nix,fun e=>(nomatch e),fun _ w20 hb20=>?_⟩
 have k20:=(k18.trans k19).trans (Keeps.of_below hb20)
 have hcl:=r_evict_Clamp (p:=⟨2,3⟩) (L k20) (P k20) htq hfn (by decide) (by rw[f1,f2];decide) (by rw[hcol];decide) (by rw[f2];decide)
 rw[←ptr] at hcl
 refine hcl.runs fun v w21 k21 hv=>?_
 subst hv
 have k621:=k20.trans k21
 have kept:∀{V:World} {pl pw:Option Addr} {nl cl nw cw:Nat} {l l2:List Int},Keeps Nix w6 V→IRow V pl nl l→IRow V pw nw l2→nl≤1000→keptL 1 5 l=l2→Ret X.scrollbacklaw37_kept #[t0.ptr, .slice pl nl cl, .int .i64 0, .slice pw nw cw] V (.bool true):=fun{V pl pw nl cl nw cw l l2} hk h1 h2 hn he=>by
  have:=r_law_kept (pl:=pl) (pw:=pw) (nl:=nl) (cl:=cl) (nw:=nw) (cw:=cw) (l:=l) (L hk) (P hk) htq hfn (by decide) h1 (by omega) (by rw[f1,f2,he];exact h2)
  rw[←ptr] at this
  exact this
 refine⟨⟨2,3⟩,_,rfl,k21.nix,fun n5 g5 w22 n6 hli6 _ w23 n7 hli7 _ w24 hb24 hm24=>?_⟩
 have k67:Keeps Nix w22 w24:=(Litr.keeps hli7 rfl).trans (Keeps.of_below hb24)
 have k24':=(k621.trans (Litr.keeps hli6 rfl)).trans k67
 have r6:IRow w24 (some ⟨n6,0,none⟩) 5 [0,3,1,9,3]:=Row.nix (Own.row (Litr.own (s:=1) (n:=5) hli6 rfl (by decide))) k67
 have r7:IRow w24 (some ⟨n7,0,none⟩) 3 [3,1,3]:=Row.nix (Own.row (Litr.own (s:=1) (n:=3) hli7 rfl (by decide))) (Keeps.of_below hb24)
 have r0:∀V:World,IRow V none 0 []:=fun V=>⟨rfl,fun _ e=>(by cases e),fun h=>by omega⟩
 refine(kept k24' r6 r7 (by decide) (by decide)).runs fun w25 k25=>⟨_,rfl,k25.nix,fun _ w27 hb27 hm27=>?_,fun e=>(nomatch e)⟩
 have k27:=(k24'.trans k25).trans (Keeps.of_below hb27)
 refine(kept k27 (r0 _) (r0 _) (by decide) rfl).runs fun w28 k28=>⟨_,rfl,k28.nix,fun _ w30 hb30 hm30=>?_,fun e=>(nomatch e)⟩
 refine r_there_nil.runs fun w31 k31=>⟨_,rfl,k31.nix,fun _=>⟨_,fun w35=>eq_pl ⟨2,3⟩ ⟨2,3⟩ w35,fun _=>Fin.of fun _=>?_,fun e=>by simp at e⟩,fun e=>(nomatch e)⟩
 rw[bv_eq]
 rfl
theorem law37 {most many:Int} (hL:Laid w) (h0:0≤most):Ret X.scrollbacklaw37_EvictCounts #[.int .u8 most, .int .u16 many] w (.bool true):=law_EvictCounts hL h0 c_known37
end
end Go.Proofs.YtjhhiindeignaaaGreatDoor
namespace Go.Abs
theorem joined_of {P:Program} {f:FuncId} {fn:Func} {s:ChangeSpec} {c:OpenClaim}
  (a1:c.wf (OpenSpec.ofChange s)=true) (a2:laidOutB P=true) (a3:mapsRowed P=true) (a4:fn.params.all (P.readableRec ·)=true) (a5:namedTie P c.named s.vars=true)
  (a6:(c.stops==[])=true) (a7:(P.stops==[])=true) (a8:(c.knobs==[])=true) (a9:(P.stopKnobs==[])=true)
  (a10:(c.inPlace==P.inPlace f)=true) (a11:(c.unfollowed==P.unfollowed f)=true) (a12:(c.recurses==P.recurses f)=true) (a13:(c.named==P.varsNamed f)=true)
  (a14:(c.maps==(fn.params.toList++s.plain.varTypes P).any (P.mapsRec ·))=true) (a15:(c.ifaces==(fn.params.toList++s.plain.varTypes P).any (P.ifacesRec ·))=true) (a16:(c.mapsOut==P.mapsAmong fn.resultTypes.toList)=true)
  (a17:(c.loops==(fn.params.toList++s.plain.varTypes P).any (P.loopsFrom ·))=true) (a18:(c.wideKeys==(fn.params.toList++s.plain.varTypes P++fn.resultTypes.toList).any (P.wideKeysFrom ·))=true)
  (a19:s.vars.all (P.varReadable ·)=true) (a20:fn.resultTypes.all (fun t=>P.readableRec t&&decide (t<P.types.size))=true) (a21:(c.ifacesOut==fn.resultTypes.toList.any (P.ifacesRec ·))=true) (a22:(c.loopsOut==fn.resultTypes.toList.any (P.loopsFrom ·))=true)
  (a23:(c.plainKeys==P.plainKeys)=true) (a24:c.shortTexts.isNone=true) (a25:P.stopsHeard=true) (a26:P.mayEnter=true) (a27:(c.lifted==P.liftsFinal)=true) (a28:(P.make==some c.make)=true)
  (a29:(c.kinds==(if c.domain.isEmpty then[] else fn.params.toList.map fun t=>match P.underlying t with|some (.int k)=>some k|_=>none))=true) (a30:(c.pinned==c.pinnedBy)=true)
  (a31:(c.veiled==(fn.params.toList++s.plain.varTypes P++fn.resultTypes.toList).any (P.veiledRec ·))=true) (a32:c.veiledFits P fn.params.toList (fn.params.toList++s.plain.varTypes P++fn.resultTypes.toList)=true):
  joinedFacts P f fn s c=true:=by
 unfold joinedFacts
 simp only[Bool.and_eq_true]
 exact⟨⟨⟨⟨⟨⟨⟨⟨⟨⟨⟨⟨⟨⟨⟨⟨⟨⟨⟨⟨⟨⟨⟨⟨⟨⟨⟨⟨⟨⟨⟨a1,a2⟩,a3⟩,a4⟩,a5⟩,a6⟩,a7⟩,a8⟩,a9⟩,a10⟩,a11⟩,a12⟩,a13⟩,a14⟩,a15⟩,a16⟩,a17⟩,a18⟩,a19⟩,a20⟩,a21⟩,a22⟩,a23⟩,a24⟩,a25⟩,a26⟩,a27⟩,a28⟩,a29⟩,a30⟩,a31⟩,a32⟩
end Go.Abs
