/- A part of the proof of ChunksHolds. -/
import Derived.Test.YtimbpmnbbfeogaaGreatDoorZC
import Derived.Shelf.Strconv.Itoa0
import Derived.Shelf.Strconv.Itoa1
import Derived.Shelf.LaysM
import Derived.Shelf.Strconv.Itoa2
import Derived.Shelf.Strconv.Itoa3
import Derived.Lib.ItoaLen
import Derived.Lib.AppendIntMem
set_option linter.unusedVariables false
set_option linter.unusedSimpArgs false
set_option linter.unusedSectionVars false
set_option maxHeartbeats 16000000
set_option maxRecDepth 100000
namespace Go.Rep
open Go Go.Sy
structure gD where
 (l:List Int) (n:Nat) (o4:Bool)
def lh(l:List Int):List Value:=l.map λx=> .int .i64 x
def gD.cells(q:gD):List Value:=lh q.l++[.int .i64 q.n, .bool q.o4]
end Go.Rep
namespace Go.Proofs.YtimbpmnbbfeogaaGreatDoor
open Go Go.RowKit Go.Sy Go.Rep
structure pg(q:gD):Prop where
 len:q.l.length=16
 n:q.n<=16
 val:∀x∈q.l,-1<=x/\x<=9999
def Dx:gD:=⟨List.replicate 16 0,0,false⟩
def wO(q:gD):gD:=if q.n=16 then⟨q.l,q.n,true⟩ else⟨q.l.set q.n (-1),q.n+1,q.o4⟩
def Q6(r:Int)(q:gD):gD:=⟨q.l.set (q.n-1) (min (10*max (q.l.getD (q.n-1) 0) 0+IntKind.wrap .i32 (r-48)) 9999),q.n,q.o4⟩
def mM(q:gD):gD:=if q.n=0 then wO q else q
def n8(r:Int)(q:gD):gD×Bool:=
 if r≠59/\(r<48∨57<r) then(q,false)
 else if r=59 then(wO (mM q),true)
 else if(mM q).o4 then(mM q,true) else(Q6 r (mM q),true)
theorem Pf:pg Dx:=⟨rfl,ef _,λx hx=>by have:=JV hx;omega⟩
theorem Na{q:gD}(h:pg q):pg (wO q):=by
 unfold wO;split
 ·exact⟨h.len,h.n,h.val⟩
 ·exact⟨by simp[h.len],by have:=h.n;show q.n+1<=16;omega,λx hx=>by
   rcases vI hx with u|u
   ·exact h.val x u
   ·omega⟩
theorem ah2{r:Int}(h1:48<=r)(h2:r<=57):IntKind.wrap .i32 (r-48)=r-48:=by
 unfold IntKind.wrap;simp[IntKind.bits,IntKind.signed];omega
theorem aaN{q:gD}{r:Int}(h1:48<=r)(h2:r<=57)(h:pg q):pg (Q6 r q):=by
 refine⟨by simp[Q6,h.len],h.n,λx hx=>?_⟩;rcases vI hx with u|u
 ·exact h.val x u
 ·rw[ah2 h1 h2] at u
  omega
theorem ajh{q:gD}{r:Int}(h:pg q):pg (n8 r q).1:=by
 have h1:pg (mM q):=by unfold mM;split;exact Na h;exact h
 unfold n8;split
 ·exact h
 ·split
  ·exact Na h1
  ·split
   ·exact h1
   ·exact aaN M M h1
structure hH(w:World)(b o:Nat)(t:TypeId)(pre post:List Value)(q:gD):Prop where
 lp:hT w b o t pre post q.cells
 ok:pg q
section
variable{w w':World}{b o:Nat}{t:TypeId}{pre post:List Value}{q:gD}
theorem hH.len(h:hH w b o t pre post q):q.cells.length=18:=by simp[gD.cells,lh,h.ok.len]
theorem hH.O(h:hH w b o t pre post q)(hk:U bg w w'):hH w' b o t pre post q:=⟨h.lp.O hk,h.ok⟩
theorem hH.below(h:hH w b o t pre post q)(hb:Below w.heap.size w w'):hH w' b o t pre post q:=h.O (U.au hb)
theorem hH.DJ(h:hH w b o t pre post q):At w ⟨b,o,none⟩ 16 [.int .i64 q.n]:=
 h.lp.at_ 16 (by simp[gD.cells,lh,h.ok.len]) (by rw[h.len];show 16+1<=18;omega)
theorem hH.ajz(h:hH w b o t pre post q):At w ⟨b,o,none⟩ 17 [.bool q.o4]:=
 h.lp.at_ 17 (by
  have e:q.cells.drop 17=[.bool q.o4]:=by
   unfold gD.cells;rw[vL,rU (by simp[lh,h.ok.len])];simp[lh,h.ok.len]
  rw[e];rfl) (by rw[h.len];show 17+1<=18;omega)
theorem hH.ajy(h:hH w b o t pre post q){i:Nat}(hi:i<16):At w ⟨b,o,none⟩ i [.int .i64 (q.l.getD i 0)]:=by
 have hl:=h.ok.len;refine h.lp.at_ i ?_ (by rw[h.len];show i+1<=18;omega);show _=(q.cells.drop i).take 1;rw[mw OZ];have:q.cells[i]'OZ= .int .i64 (q.l.getD i 0):=by
  simp[gD.cells,lh,List.getElem_append,hl,hi]
 simp[this]
theorem hH.ch(h:hH w b o t pre post q){i:Nat}(hi:i<18):ct w ⟨b,o,none⟩ i 1:=h.lp.ch OZ
theorem hH.ag0(h:hH w b o t pre post q){i:Nat}{x:Int}(hi:i<16)(hp:bH w [] ⟨b,o,none⟩ i [.int .i64 x] w'):hT w' b o t pre post (gD.cells ⟨q.l.set i x,q.n,q.o4⟩):=by
 have hl:=h.ok.len;have:=h.lp.put hp (by rw[h.len];show i+1<=18;omega);have e:q.cells.take i++([.int .i64 x]++q.cells.drop (i+1))=gD.cells ⟨q.l.set i x,q.n,q.o4⟩:=by
  unfold gD.cells lh;rw[List.map_set,xj,vL];simp only[gw,hl];rw[show i-16=0 by omega,show i+1-16=0 by omega,Dw,nx,AX,O5,aA (by simp[hl];exact hi)];simp
 rw[<-e];exact this
theorem hH.avX(h:hT w b o t pre post q.cells)(hl:q.l.length=16){x:Nat}(hp:bH w [] ⟨b,o,none⟩ 16 [.int .i64 x] w'):hT w' b o t pre post (gD.cells ⟨q.l,x,q.o4⟩):=by
 have abG:q.cells.length=18:=by simp[gD.cells,lh,hl]
 have:=h.put hp (by rw[abG];show 16+1<=18;omega);have e:q.cells.take 16++([.int .i64 (x:Int)]++q.cells.drop (16+1))=gD.cells ⟨q.l,x,q.o4⟩:=by
  unfold gD.cells lh;rw[xj,vL];simp[hl];rw[jh JI,rU JI];rfl
 rw[<-e];exact this
theorem hH.avY(h:hH w b o t pre post q){x:Bool}(hp:bH w [] ⟨b,o,none⟩ 17 [.bool x] w'):hT w' b o t pre post (gD.cells ⟨q.l,q.n,x⟩):=by
 have hl:=h.ok.len;have:=h.lp.put hp (by rw[h.len];show 17+1<=18;omega);have e:q.cells.take 17++([.bool x]++q.cells.drop (17+1))=gD.cells ⟨q.l,q.n,x⟩:=by
  unfold gD.cells lh;rw[xj,vL];simp[hl];rw[jh JI,rU JI]
 rw[<-e];exact this
theorem afR(h:hH w b o t pre post q):bI Tryz.prog X.Ng #[.pointer (some ⟨b,o,none⟩)] w (λi=>i=b) (λv w'=>v= .tuple #[]/\hH w' b o t pre post (wO q)):=by
 have dJ:cp w.heap.size (λi=>i=b) [] b:=⟨by simp,λ_=>rfl⟩;have hn:=h.ok.n;refine ayg _ ⟨_,h.DJ,λe=>⟨⟨h.ch M,dJ⟩,λbD hp w' hb _=>⟨rfl,?_⟩⟩,λe=>⟨_,h.DJ,⟨by omega,by omega⟩,⟨?_,dJ⟩,λw1 hp=>?_⟩⟩
 ·have e':wO q=⟨q.l,q.n,true⟩:=by rw[wO,aA M]
  have:=Na h.ok;rw[e'] at this⊢;exact hH.below ⟨h.avY hp,this⟩ hb
 ·rw[show 0+((q.n:Int).toNat*1)=q.n by omega]
  exact h.ch M
 ·rw[show 0+((q.n:Int).toNat*1)=q.n by omega] at hp
  have h1:hT w1 b o t pre post (gD.cells ⟨q.l.set q.n (-1),q.n,q.o4⟩):=h.ag0 M hp;have hl:(q.l.set q.n (-1)).length=16:=by simp[h.ok.len]
  have abG:(gD.cells ⟨q.l.set q.n (-1),q.n,q.o4⟩).length=18:=by simp[gD.cells,lh,h.ok.len]
  have yv:pg ⟨q.l.set q.n (-1),q.n,q.o4⟩:=⟨hl,hn,λx hx=>by
   rcases vI hx with u|u
   ·exact h.ok.val x u
   ·omega⟩
  have b1:hH w1 b o t pre post ⟨q.l.set q.n (-1),q.n,q.o4⟩:=⟨h1,yv⟩;refine⟨_,b1.DJ,(by show ay ((q.n:Int)+1);unfold ay;omega),⟨b1.ch M,dJ⟩,λad nM w' hb _=>⟨rfl,?_⟩⟩;have e':wO q=⟨q.l.set q.n (-1),q.n+1,q.o4⟩:=by rw[wO,ag M]
  have:=Na h.ok;rw[e'] at this⊢;have iw:bH w1 [] ⟨b,o,none⟩ 16 [.int .i64 ((q.n+1:Nat):Int)] ad:=by
   rw[show((q.n+1:Nat):Int)=(q.n:Int)+1 by omega];exact nM
  exact hH.below ⟨hH.avX h1 hl iw,this⟩ hb
theorem ate(h:hH w b o t pre post q):bI Tryz.prog X.Uu #[.pointer (some ⟨b,o,none⟩)] w (λi=>i=b) (λv w'=>v= .tuple #[]/\hH w' b o t pre post Dx):=by
 have dJ:cp w.heap.size (λi=>i=b) [] b:=⟨by simp,λ_=>rfl⟩;refine ayf _ ⟨⟨h.lp.ch OZ,dJ⟩,λw1 hp w' hb _=>⟨rfl,hH.below ⟨?_,Pf⟩ hb⟩⟩;have:=h.lp.put hp (by rw[h.len];show 0+18<=18;omega);rw[Dw,pW,rU (by rw[h.len];show 18<=0+18;omega),nx] at this;exact this
end
def aiP(w0:World)(l:List Int)(v:Value)(w:World):Prop:=∃p c,v= .slice p l.length c/\bF w0.heap.size w G.int 1 p l.length c (lh l)
def rv(q:gD):List Int:=q.l.take q.n
section
variable{w w':World}{b o:Nat}{t:TypeId}{pre post:List Value}{q:gD}
theorem asd(h:pg q):1<=(mM q).n:=by
 unfold mM;split
 ·rename_i e
  unfold wO;rw[ag M];show 1<=q.n+1;omega
 ·omega
theorem atc{r:Int}(h:hH w b o t pre post q):bI Tryz.prog X.Nf #[.pointer (some ⟨b,o,none⟩), .int .i32 r] w (λi=>i=b) (λv w'=>v= .bool (n8 r q).2/\hH w' b o t pre post (n8 r q).1):=by
 have dJ:cp w.heap.size (λi=>i=b) [] b:=⟨by simp,λ_=>rfl⟩;have B5:(r≠59/\(r<48∨57<r))->Sy.aa w (λi=>i=b) w (λv w'=>v= .bool (n8 r q).2/\hH w' b o t pre post (n8 r q).1) (.bool false):=λe w' hb _=>by
  rw[n8,aA e];exact⟨rfl,h.below hb⟩
 refine ayd _ r ⟨λV=>¬(r≠59/\(r<48∨57<r))/\hH V b o t pre post q,⟨λe=>⟨λe1=>B5 ⟨e, .inl e1⟩,λe1=>⟨λe2=>B5 ⟨e, .inr e2⟩,λe2 k2 hb=>⟨by omega,h.below hb⟩⟩⟩,λe jy hb=>⟨by omega,h.below hb⟩⟩,?_⟩;rintro w1 hk1 ⟨fc,h1⟩;refine⟨λV=>hH V b o t pre post (mM q),⟨_,h1.DJ,λe gn iY=>?_,λe cR cr=>?_⟩,?_⟩
 ·refine(afR (h1.below iY)).aH λv hC lF ⟨ah,h11⟩=>⟨by rw[ah],lF.kept (λi hi _=>hi) (λi _ _ hm=>by cases hm),λkl B2=>?_⟩
  rw[mM,aA M];exact h11.below B2
 ·rw[mM,ag M]
  exact h1.below cr
 ·rintro ad aI h2
  have hn:=h2.ok.n;have hp:=asd h.ok;refine⟨λe cu ep=>?_,λe=>⟨_,h2.ajz,λe1 w' hb _=>?_,λe1=>?_⟩⟩
  ·refine(afR (h2.below ep)).aH λv w7 e_ ⟨ah,fM⟩=>⟨by rw[ah],e_.kept (λi hi _=>hi) (λi _ _ hm=>by cases hm),λw' hb _=>?_⟩
   rw[n8,ag fc,aA e];exact⟨rfl,fM.below hb⟩
  ·rw[n8,ag fc,ag e,aA e1]
   exact⟨rfl,h2.below hb⟩
  ·have hi:((mM q).n:Int)-1=(((mM q).n-1:Nat):Int):=by omega
   have hx:=h2.ok.val ((mM q).l.getD ((mM q).n-1) 0) (by
    rw[kb,el (by have:=h2.ok.len;omega)]
    exact vM _)
   have hw:=ah2 (r:=r) M M;have Rd:0+(((mM q).n:Int)-1).toNat*1=(mM q).n-1:=by omega
   refine⟨_,h2.DJ,by unfold ay;omega,⟨by omega,by omega⟩,(mM q).l.getD ((mM q).n-1) 0,?_,by unfold ay;omega,by rw[hw];unfold ay;omega,by rw[hw];unfold ay;omega,⟨?_,dJ⟩,λbw iw w' hb _=>?_⟩
   ·rw[Rd]
    exact h2.ajy M
   ·rw[Rd]
    exact h2.ch M
   ·rw[Rd] at iw
    have BC:(mM q).o4=false:=by cases ho:(mM q).o4 with
     |false=>rfl
     |true=>rw[ho] at e1;cases e1
    rw[n8,ag fc,ag e,ag (by rw[BC];decide)];exact⟨rfl,hH.below ⟨h2.ag0 M iw,aaN M M h2.ok⟩ hb⟩
theorem atd(h:hH w b o t pre post q):bI Tryz.prog X.Ut #[.pointer (some ⟨b,o,none⟩)] w bg (λv w'=>aiP w (rv q) v w'):=by
 have hn:=h.ok.n;have hl:=h.ok.len;refine aye _ ⟨_,h.DJ,⟨by omega,by omega,by omega⟩,λw1 ar hm=>?_⟩;rw[jN] at hm⊢;have a8:U bg w w1:=hm.ax;have h1:=h.O a8;have ho:=hm.own (n:=q.n) rfl (cL _) (by have e:maxLen=9223372036854775807:=du;omega);have L9:min 16 q.n*1=q.n:=by omega
 have j3:(rv q).length=q.n:=by simp[rv,hl];omega
 refine⟨⟨by omega,by omega,by omega⟩,_,rfl,lh (rv q),⟨by rw[L9];simp[lh,j3],λv ah=>?_,λe=>(nomatch e),λa2 e2=>?_⟩,⟨?_,⟨by simp,λhlt=>?_⟩⟩,λad hp w' hb _=>?_⟩
 ·obtain⟨z,_,rfl⟩:=lr.1 ah
  rfl
 ·cases e2
  refine h1.lp.at_ 0 ?_ (by rw[h1.len];simp[lh,j3];omega);rw[AX];simp only[lh,gw,j3];unfold gD.cells lh rv;rw[xj,xk];simp[hl,show q.n-16=0 by omega]
 ·rw[L9]
  exact ho.p9 rfl M
 ·have:=hm.new
  change ar<_ at hlt;omega
 ·refine⟨some ⟨ar,0,none⟩,q.n,by rw[j3],?_⟩
  have h2:=ho.put rfl (by simp[lh,j3]) hp;have e:((List.replicate q.n [Value.int .i64 0]).flatten).take 0++(lh (rv q)++((List.replicate q.n [Value.int .i64 0]).flatten).drop (0+(lh (rv q)).length))=lh (rv q):=by
   rw[Dw,pW,rU (by simp[lh,j3]),nx]
  rw[e] at h2;rw[j3];exact h2.below hb
end
def Aw(x:Int):Int:=bits .or .u8 128 (IntKind.wrap .u8 (bits .and .i32 x 63))
def gS(r:Int):List Int:=
 if r<128 then[IntKind.wrap .u8 r] else if r<2048 then[bits .or .u8 192 (IntKind.wrap .u8 (iA .i32 r 6)),Aw r]
 else if r<65536 then[bits .or .u8 224 (IntKind.wrap .u8 (iA .i32 r 12)),Aw (iA .i32 r 6),Aw r]
 else[bits .or .u8 240 (IntKind.wrap .u8 (iA .i32 r 18)),Aw (iA .i32 r 12),Aw (iA .i32 r 6),Aw r]
def aiO(w0:World)(l:List Int)(v:Value)(w:World):Prop:=∃p c,v= .slice p l.length c/\bF w0.heap.size w G.eY 1 p l.length c (eU l)
theorem aaZ(r:Int):1<=(gS r).length/\(gS r).length<=4:=by
 unfold gS;split
 ·simp
 ·split
  ·simp
  ·split<;>simp
theorem E9{w:World}(r:Int):di X.rO #[.int .i32 r] w (.int .u8 (Aw r)):=aAE r (aa.of λ_=>rfl)
theorem aaY:∀l:List Int,(l.flatMap gS).length<=4*l.length
 |[]=>cL _
 |r::l=>by
  have h1:=aaY l;have h2:=(aaZ r).2;rw[List.flatMap_cons,gh,ko];omega
section
variable{w w':World}
theorem auF{p:ao}{n c:Nat}{rs:List Int}(aj:Laid w)(hr:Row w p n 1 (o9 rs))(hl:rs.length=n)(hn:n<=1048576)(fc:∀r∈rs,wN r=true):
  bI Tryz.prog X.WW #[.slice p n c] w bg (aiO w (rs.flatMap gS)):=by
 refine aAC p n c ⟨λq m e i V=>∃j:Nat,i=j/\j<=n/\m=((rs.take j).flatMap gS).length/\bF w.heap.size V G.eY 1 q m e (eU ((rs.take j).flatMap gS)),λ_ _ _ i=>((n:Int)-i).toNat,
  λaDR hb=>⟨0,rfl,ef _,rfl,bF.nil _ _ _ _⟩,?_⟩
 rintro q m e i w1 hk1 ⟨j,rfl,hj,rfl,ho⟩;have hs1:=hk1.size;refine⟨λhi=>?_,λqn w' hb _=>?_⟩
 ·obtain⟨a,ha⟩:=hr.iP M
  obtain⟨y,hy⟩:∃y,rs[j]? =some y:=⟨_,el M⟩;have Tw:y∈rs:=uE hy
  have dB:At w1 a (j*1) [.int .i32 y]:=Row.at_ (hr.O hk1) ha _ (cj:=[.int .i32 y]) (by
   show _=((o9 rs).drop (j*1)).take 1;rw[oC,mw (by simp[o9];omega)];have:rs[j]=y:=by rw[el M] at hy;exact h9 hy
   simp[o9,this])
  have hlen:=aaY (rs.take j);rw[kC] at hlen;have u_:(rs.take (j+1)).flatMap gS=(rs.take j).flatMap gS++gS y:=by rw[ny,hy];simp
  have push:∀{V:World} {ys:List Int} {N:Nat},U bg w1 V->gS y=ys->ys.length=N->(∀(bs:List Nat),(∀z∈bs,V.heap.size<=z)->gy w.heap.size bg bs V G.eY 1 q ((rs.take j).flatMap gS).length e (eU ((rs.take j).flatMap gS)) N)/\
    ∀{jC PW:World} {q2:ao} {e2:Nat},gk V [] q ((rs.take j).flatMap gS).length e G.eY 1 (((rs.take j).flatMap gS).length+N) (eU ((rs.take j).flatMap gS)++eU ys) jC q2 e2->Below jC.heap.size jC PW->
     (∃k:Nat,(j:Int)+1=k/\k<=n/\((rs.take j).flatMap gS).length+N=((rs.take k).flatMap gS).length/\bF w.heap.size PW G.eY 1 q2 (((rs.take j).flatMap gS).length+N) e2 (eU ((rs.take k).flatMap gS))):=by
   intro V ys N hk qu hN;have Eo:=ho.O hk;have ao9:=hk.size;refine⟨λbs ic=>Eo.room (λb6 fP hm=>?_) (λ_ b6 fP kP=>?_),λ{jC PW q2 e2} hg hb=>⟨j+1,by omega,by omega,by rw[u_,gh,qu,hN],?_⟩⟩
   ·have:=ic _ hm
    have:=(Eo.lt b6 fP).1;omega
   ·have:=(Eo.lt b6 fP).2.1
    omega
   ·rw[u_,qu]
    have:eU ((rs.take j).flatMap gS++ys)=eU ((rs.take j).flatMap gS)++eU ys:=by simp[eU]
    rw[this];exact(hg.own M λb6 fP=>(Eo.lt b6 fP).2.1).below hb
  have aCz:∀{N:Nat},((n:Int)-((j:Int)+1)).toNat<((n:Int)-(j:Int)).toNat:=λ{_}=>by omega
  refine⟨a,ha,⟨by omega,by omega⟩,y,by rw[jN];exact dB,λbw bp=>?_⟩;have k3:=U.au bp;refine(Qy (r:=y)).aH (Laid.O (hk1.trans k3) aj) λbD bO _=>⟨_,rfl,bO.O,λe1=>(by rw[fc y Tw] at e1;cases e1),λ_=>⟨λe1 j5 jc=>?_,λe1=>⟨λe2=>⟨by omega,λbP hb5=>?_⟩,λe2=>⟨λe3=>⟨by omega,by omega,λbP hb5=>?_⟩,λe3=>⟨by omega,by omega,λbP hb5=>?_⟩⟩⟩⟩⟩
  all_goals have k4:=k3.trans bO
  ·obtain⟨cq,cA⟩:=push (N:=1) k4 (by rw[gS,aA e1]) rfl
   exact⟨_,cq [j5] ej,by omega,λs4 l2 o2 hg _=>⟨by unfold ay;omega,λky hb=>⟨cA hg hb,by dsimp only;omega⟩⟩⟩
  ·refine(E9 y).aH λkm zD=>⟨_,rfl,zD.O,λie B_=>?_⟩
   have EH:=(k4.trans (U.au hb5)).trans zD;obtain⟨cq,cA⟩:=push (N:=2) EH (by rw[gS,ag M,aA e2]) rfl;exact⟨_,cq [ie] ej,by omega,λs4 l2 o2 hg _=>⟨by unfold ay;omega,λky hb=>⟨cA hg hb,by dsimp only;omega⟩⟩⟩
  ·refine(E9 _).aH λcu dK=>⟨_,rfl,dK.O,λw7 c8=>(E9 y).aH λcW br=>⟨_,rfl,br.O,λie B_=>?_⟩⟩
   have fu:=(((k4.trans (U.au hb5)).trans dK).trans (U.au c8)).trans br;obtain⟨cq,cA⟩:=push (N:=3) fu (by rw[gS,ag M,ag M,aA e3]) rfl;exact⟨_,cq [ie] ej,by omega,λs4 l2 o2 hg _=>⟨by unfold ay;omega,λky hb=>⟨cA hg hb,by dsimp only;omega⟩⟩⟩
  ·refine(E9 _).aH λcu dK=>⟨_,rfl,dK.O,by omega,λw7 c8=>(E9 _).aH λcW br=>⟨_,rfl,br.O,λcR cr=>(E9 y).aH λgn jI=>⟨_,rfl,jI.O,λie B_=>?_⟩⟩⟩
   have fZ:=(((((k4.trans (U.au hb5)).trans dK).trans (U.au c8)).trans br).trans (U.au cr)).trans jI;obtain⟨cq,cA⟩:=push (N:=4) fZ (by rw[gS,ag M,ag M,ag M]) rfl;exact⟨_,cq [ie] ej,by omega,λs4 l2 o2 hg _=>⟨by unfold ay;omega,λky hb=>⟨cA hg hb,by dsimp only;omega⟩⟩⟩
 ·obtain rfl:j=n:=by omega
  rw[jh M] at ho⊢;exact⟨q,e,rfl,ho.below hb⟩
end
variable{w0:World}{F:Nat->Prop}{Q:Value->World->Prop}
theorem ayj(p:Addr)(cm:ao)(nb db:Nat)(h:dt w0 X.WU #[al p, .slice cm nb db] λa b c=>∃d:ao,∃e f:Nat,bW b (.slice d e f) w0 F [] a c (∃g:Option Addr->Nat->Nat->Int->World->Prop,∃i:Option Addr->Nat->Nat->Int->Nat,(bm c λj=>g none 0 0 0 j)/\∀j:ao,∀k l:Nat,∀m:Int,∀n:World,U F w0 n->g j k l m n->bG m e (∃o:Addr,d=(some o)/\hG m e/\∃q:Int,At n o ((Int.toNat m)*1) [.int .i32 q]/\dt n X.CU #[al p, .int .i32 q] λr s t=>∃u:ao,∃v x:Nat,bW s (.slice u v x) w0 F [] r t (∃y:List Value,gy w0.heap.size F [] t G.fO 6 j k l y v/\∃z:List Value,(z.length=(v*6)/\A2 z u v t)/\((k+v)*72)<=140737488355328/\∀A:World,∀B:ao,∀C:Nat,gk t [] j k l G.fO 6 (k+v) (y++z) A B C->ay (m+1)/\bm A λaD=>g B (k+v) C (m+1) aD/\i B (k+v) C (m+1)<i j k l m)) (aa w0 F n Q (.slice j k l)))):aO X.Uv #[al p, .slice cm nb db] w0 F Q:=eV [⟨5,[5,16],[]⟩] [] [.aY p 0, .cJ cm nb db] h
theorem ayo(p:Addr)(s:Int)(h:dt w0 X.Nh #[al p] λa b c=>bW b (.tuple #[]) w0 F [] a c (vN w0 F c p/\∀d:World,bH c [] p 4 [D s] d->aa w0 F d Q (.slice none 0 0))):aO X.CV #[al p,D s] w0 F Q:=bh [.aY p 0,cn s] h
theorem ayq(p:Addr)(aP:ao)(aM ba:Nat)(h:dt w0 X.Nh #[al p] λa b c=>bW b (.tuple #[]) w0 F [] a c (vN w0 F c p/\∀d:World,bH c [] p 4 [D 0] d->aa w0 F d Q (.slice aP aM ba))):aO X.Ab #[al p, .slice aP aM ba] w0 F Q:=bh [.aY p 0, .cJ aP aM ba] h
theorem ayr(p:Addr)(r:Int)(h:a' r 7 (∃a:ao,∃b c:Nat,At w0 p 25 [.slice a b c]/\∃d:List UInt8,bm w0 λe=>vP e a b d/\(a=none->b=0)/\∀f:World,∀g:Nat,cX e [] G.fO [D 5, .int .i32 0, .int .i32 0, .string ⟨[].toArray⟩, .slice none 0 0, .string ⟨d.toArray⟩] f g->∀i:World,Pg w0 F Q f i p g []) (bG r 32 (aa w0 F w0 Q (.slice none 0 0)) (a' r 127 (aa w0 F w0 Q (.slice none 0 0)) (b9 w0 F [] w0 X.Jv #[.int .i32 r] .bool λc d=>gL d (aa w0 F c Q (.slice none 0 0)) (∀e:World,∀f:Nat,cX c [] G.ft [.int .i32 r] e f->dt e X.WW #[.slice (some ⟨f,0,none⟩) 1 1] λg i j=>∃k:ao,∃l m:Nat,bW i (.slice k l m) w0 F [] g j (∃n:ao,∃o q:Nat,At j p 25 [.slice n o q]/\ay ((o:Int)+(l:Int))/\dX ((o:Int)+(l:Int)) 1024 (∃s:ao,∃t u:Nat,At j p 25 [.slice s t u]/\∃v:ao,∃x y:Nat,At j p 25 [.slice v x y]/\∃z:ao,∃A B:Nat,At j p 25 [.slice z A B]/\YR x A u/\∃C:List Value,gy w0.heap.size F [] j G.eY 1 (cM s A 0 1) x A C l/\∃aD:List Value,(aD.length=(l*1)/\A2 aD k l j)/\((x+l)*1)<=140737488355328/\∀E:World,∀bT:ao,∀ak:Nat,gk j [] (cM s A 0 1) x A G.eY 1 (x+l) (C++aD) E bT ak->(ct E p 25 1/\cp w0.heap.size F [] p.block)/\∀bo:World,bH E [] p 25 [.slice bT (x+l) ak] bo->aa w0 F bo Q (.slice none 0 0)) (aa w0 F j Q (.slice none 0 0)))))))):aO X.Uy #[al p, .int .i32 r] w0 F Q:=bh [.aY p 0, .int .i32 r] h
theorem ayp(p:Addr)(r:Int)(h:b9 w0 F [] w0 X.yz #[.int .i32 r, .int .i32 32, .int .i32 47] .bool λc d=>dQ d (vN w0 F c p/\∀e:World,bH c [] p 4 [D 2] e->dt e X.Ni #[al p, .int .i32 r] λf g i=>bW g (.tuple #[]) w0 F [] f i (aa w0 F i Q (.slice none 0 0))) (b9 w0 F [] c X.yz #[.int .i32 r, .int .i32 48, .int .i32 126] .bool λg i=>gL i (∀j:World,Gk w0 F Q g j p []) (∃j:List UInt8,At g p 6 [.string ⟨j.toArray⟩]/\bG 2 j.length (∀k:World,Gk w0 F Q g k p []) (∃k,At g p 4 [D k]/\a' k 1 (a' r 91 (dt g X.CV #[al p,D 3] λl m n=>uG w0 F Q m [] l n) (a' r 93 (dt g X.CV #[al p,D 7] λl m n=>uG w0 F Q m [] l n) (a' r 80 (a' r 80 (∀l:World,J4 w0 F Q g l p []) (Gc w0 F Q g p r [])) (a' r 88 (a' r 88 (∀l:World,J4 w0 F Q g l p []) (Gc w0 F Q g p r [])) (a' r 94 (a' r 94 (∀l:World,J4 w0 F Q g l p []) (Gc w0 F Q g p r [])) (a' r 95 (∀l:World,J4 w0 F Q g l p []) (Gc w0 F Q g p r []))))))) (Gc w0 F Q g p r []))))):aO X.Ux #[al p, .int .i32 r] w0 F Q:=bh [.aY p 0, .int .i32 r] h
theorem ayn(p:Addr)(r:Int)(h:∃a:Bool->World->Prop,(∃b,At w0 p 4 [D b]/\a' b 3 (bm w0 λc=>a true c) (∃c,At w0 p 4 [D c]/\bm w0 λd=>a' c 4 (a true d) (a false d)))/\∀b:Bool,∀c:World,U F w0 c->a b c->b9 w0 F [] c X.yz #[.int .i32 r, .int .i32 32, .int .i32 126] .bool λf g=>gL g (∀i:World,Gk w0 F Q f i p []) (b9 w0 F [] f X.yz #[.int .i32 r, .int .i32 64, .int .i32 126] .bool λk l=>dQ l (∃m,At k p 4 [D m]/\a' m 6 (∀n:World,Gk w0 F Q k n p []) (∃n:List UInt8,At k p 6 [.string ⟨n.toArray⟩]/\bG 2 n.length (∀o:World,Gk w0 F Q k o p []) (∃o:Int,At k p 5 [.int .i32 o]/\∃q:List UInt8,At k p 6 [.string ⟨q.toArray⟩]/\dt k X.Ut #[al (Addr.add p 7)] λs t u=>∃v:ao,∃x y:Nat,bW t (.slice v x y) w0 F [] s u (At u p 6 [.string ⟨q.toArray⟩]/\At u p 5 [.int .i32 o]/\∀z:World,∀A:Nat,cX u [] G.fO [D 4, .int .i32 r, .int .i32 o, .string ⟨q.toArray⟩, .slice v x y, .string ⟨[].toArray⟩] z A->∀B:World,Pg w0 F Q z B p A [])))) (∃m,At k p 4 [D m]/\a' m 6 (aa w0 F k Q (.slice none 0 0)) (b9 w0 F [] k X.yz #[.int .i32 r, .int .i32 32, .int .i32 47] .bool λq s=>dQ s (vN w0 F q p/\∀t:World,bH q [] p 4 [D 5] t->dt t X.Ni #[al p, .int .i32 r] λu v x=>bW v (.tuple #[]) w0 F [] u x (aa w0 F x Q (.slice none 0 0))) (b9 w0 F [] q X.yz #[.int .i32 r, .int .i32 60, .int .i32 63] .bool λv x=>dQ x (∃y,At v p 4 [D y]/\a' y 3 (vN w0 F v p/\∀z:World,bH v [] p 4 [D 4] z->(ct z p 5 1/\cp w0.heap.size F [] p.block)/\∀A:World,bH z [] p 5 [.int .i32 r] A->aa w0 F A Q (.slice none 0 0)) (YI w0 F Q b v p r [])) (YI w0 F Q b v p r [])))))):aO X.Uw #[al p, .int .i32 r] w0 F Q:=eV [] [⟨3,[5],[]⟩] [.aY p 0, .int .i32 r] h
theorem ayl(p:Addr)(h:(ct w0 p 5 1/\cp w0.heap.size F [] p.block)/\∀a:World,bH w0 [] p 5 [.int .i32 0] a->(ct a p 6 1/\cp w0.heap.size F [] p.block)/\∀b:World,bH a [] p 6 [.string ⟨[].toArray⟩] b->(ct b p 25 1/\cp w0.heap.size F [] p.block)/\∀c:World,bH b [] p 25 [.slice none 0 0] c->dt c X.Uu #[al (Addr.add p 7)] λd e f=>bW e (.tuple #[]) w0 F [] d f (aa w0 F f Q (.tuple #[]))):aO X.Nh #[al p] w0 F Q:=bh [.aY p 0] h
theorem aym(p:Addr)(r:Int)(h:∃a:List UInt8,At w0 p 6 [.string ⟨a.toArray⟩]/\dX a.length 2 (∃b:List UInt8,At w0 p 6 [.string ⟨b.toArray⟩]/\(b.length+(kk r).length)<9223372036854775807/\(ct w0 p 6 1/\cp w0.heap.size F [] p.block)/\∀c:World,bH w0 [] p 6 [.string ⟨(b++(kk r)).toArray⟩] c->aa w0 F c Q (.tuple #[])) (aa w0 F w0 Q (.tuple #[]))):aO X.Ni #[al p, .int .i32 r] w0 F Q:=bh [.aY p 0, .int .i32 r] h
end Go.Proofs.YtimbpmnbbfeogaaGreatDoor
namespace Go.Rep
open Go Go.Sy
structure iF where
 (d:mz) (cO pre:Int) (bS:List UInt8) (q:gD) (tp:ao) (jx:Nat) (cE:List Int)
structure da where
 (d:iE) (cO pre:Int) (bS:List UInt8) (q:gD) (cE:List Int)
def iF.bz(s:iF):da:=⟨s.d.q,s.cO,s.pre,s.bS,s.q,s.cE⟩
def iF.cells(s:iF):List Value:=s.d.cells++([.int .i64 s.cO, .int .i32 s.pre, .string ⟨s.bS.toArray⟩]++(s.q.cells++[.slice s.tp s.cE.length s.jx]))
end Go.Rep
namespace Go.Proofs.YtimbpmnbbfeogaaGreatDoor
open Go Go.RowKit Go.Sy Go.Rep
structure eh(w:World)(b:Nat)(s:iF):Prop where
 aF:Whole w b G.CT s.cells
 row:bF Y.dZ w G.eY 1 s.d.p s.d.bs.length s.d.c (eU s.d.bs)
 f':bF Y.dZ w G.eY 1 s.tp s.cE.length s.jx (eU s.cE)
 mJ:¬dk s.d.p b
 f_:¬dk s.tp b
 BB:qS s.d.q
 l3:pg s.q
 lo:Y.dZ<=b
 int:s.bS.length<=100
 iX:s.cE.length<=1024
def rX(b:Nat)(s:iF)(i:Nat):Prop:=i=b∨dk s.d.p i∨dk s.tp i
def akG(q:da):da:=⟨q.d,q.cO,0,[],Dx,[]⟩
def ja(w0:World)(b:Nat)(s:iF)(q:da)(w:World):Prop:=∃s':iF,s'.bz=q/\eh w b s'/\∀i,rX b s' i->rX b s i∨w0.heap.size<=i
section
variable{w w':World}{b:Nat}{s:iF}
theorem iF.C2(h:pg s.q):s.q.cells.length=18:=by simp[gD.cells,lh,h.len]
theorem eh.lt(h:eh w b s){i:Nat}(hi:rX b s i):i<w.heap.size:=by
 rcases hi with rfl|⟨a,ha,rfl⟩|⟨a,ha,rfl⟩
 ·exact h.aF.lt
 ·exact(h.row.lt a ha).1
 ·exact(h.f'.lt a ha).1
theorem eh.ax{F:Nat->Prop}(h:eh w b s)(hk:U F w w')(bc:∀i,F i->¬rX b s i):eh w' b s:=
 ⟨h.aF.ax hk λe=>bc _ e (.inl rfl),h.row.ax hk λa ha e=>bc _ e (.inr (.inl ⟨a,ha,rfl⟩)),h.f'.ax hk λa ha e=>bc _ e (.inr (.inr ⟨a,ha,rfl⟩)),h.mJ,h.f_,h.BB,h.l3,h.lo,h.int,h.iX⟩
theorem eh.O(h:eh w b s)(hk:U bg w w'):eh w' b s:=h.ax hk λ_ e=>e.elim
theorem eh.below(h:eh w b s)(hb:Below w.heap.size w w'):eh w' b s:=h.O (U.au hb)
theorem eh.at_(h:eh w b s)(i:Nat){cj:List Value}(hu:cj=(s.cells.drop i).take cj.length):At w ⟨b,0,none⟩ i cj:=by
 have h1:=h.aF.at_ (by
  have:=iF.C2 h.l3;have e:maxLen=9223372036854775807:=by decide
  unfold iF.cells mz.cells;simp[this]
  omega)
 have:=h1.sub i hu;rwa[iR] at this
theorem eh.ch(h:eh w b s){i:Nat}(hi:i<26):ct w ⟨b,0,none⟩ i 1:=h.aF.ch (by
 have:=iF.C2 h.l3;unfold iF.cells mz.cells;simp[this]
 omega)
theorem eh.put(h:eh w b s){i:Nat}{v:Value}{s':iF}(hp:bH w [] ⟨b,0,none⟩ i [v] w')(hi:i<26)(hc:s.cells.take i++([v]++s.cells.drop (i+1))=s'.cells)(hd:s'.d=s.d)(hq:pg s'.q)
  (ht:bF Y.dZ w G.eY 1 s'.tp s'.cE.length s'.jx (eU s'.cE)) (ho:¬dk s'.tp b) (kO:s'.bS.length<=100) (bk:s'.cE.length<=1024):eh w' b s':=by
 have hl:s.cells.length=26:=by
  have:=iF.C2 h.l3;unfold iF.cells mz.cells;simp[this]
 have h1:=h.aF.put hp (by rw[hl];show i+1<=26;omega);have hc':s.cells.take i++([v]++s.cells.drop (i+[v].length))=s'.cells:=hc;rw[hc'] at h1;have hk:U (λj=>j=b) w w':=hp.ax rfl;refine⟨h1,by rw[hd];exact h.row.ax hk λa ha e=>h.mJ ⟨a,ha,e⟩,ht.ax hk λa ha e=>ho ⟨a,ha,e⟩,by rw[hd];exact h.mJ,ho,by rw[hd];exact h.BB,hq,h.lo,kO,bk⟩
theorem eh.Xi(h:eh w b s):hH w b 7 G.CT (s.d.cells++[.int .i64 s.cO, .int .i32 s.pre, .string ⟨s.bS.toArray⟩]) [.slice s.tp s.cE.length s.jx] s.q:=
 ⟨⟨by rw[ju];exact h.aF,rfl,by have:=iF.C2 h.l3;rw[this];show 7+(18+1)<=1000;omega⟩,h.l3⟩
theorem eh.w2{afB:gD}(h:eh w b s)(hk:U (λi=>i=b) w w')(hb:hH w' b 7 G.CT (s.d.cells++[.int .i64 s.cO, .int .i32 s.pre, .string ⟨s.bS.toArray⟩]) [.slice s.tp s.cE.length s.jx] afB):eh w' b ⟨s.d,s.cO,s.pre,s.bS,afB,s.tp,s.jx,s.cE⟩:=by
 refine⟨?_,h.row.ax hk λa ha e=>h.mJ ⟨a,ha,e⟩,h.f'.ax hk λa ha e=>h.f_ ⟨a,ha,e⟩,h.mJ,h.f_,h.BB,hb.ok,h.lo,h.int,h.iX⟩;have:=hb.lp.aF;rw[ju] at this;exact this
end
def kK(cO:Int)(q:da):da:=⟨q.d,cO,0,[],Dx,[]⟩
def pt(r:Int)(q:da):da:=if q.bS.length<=2 then⟨q.d,q.cO,q.pre,q.bS++kk r,q.q,q.cE⟩ else q
section
variable{w w':World}{b:Nat}{s:iF}
theorem eh.ZQ(h:eh w b s):s.cells.drop 25=[.slice s.tp s.cE.length s.jx]:=by
 have:=iF.C2 h.l3;have e:s.cells=(s.d.cells++[.int .i64 s.cO, .int .i32 s.pre, .string ⟨s.bS.toArray⟩]++s.q.cells)++[.slice s.tp s.cE.length s.jx]:=by
  unfold iF.cells;simp
 rw[e,vL,rU (by unfold mz.cells;simp[this])];unfold mz.cells;simp[this]
theorem eh.awr(h:eh w b s):s.cells.take 25=s.d.cells++([.int .i64 s.cO, .int .i32 s.pre, .string ⟨s.bS.toArray⟩]++s.q.cells):=by
 have:=iF.C2 h.l3;have e:s.cells=(s.d.cells++([.int .i64 s.cO, .int .i32 s.pre, .string ⟨s.bS.toArray⟩]++s.q.cells))++[.slice s.tp s.cE.length s.jx]:=by
  unfold iF.cells;simp
 rw[e,xj,jh (by unfold mz.cells;simp[this])];unfold mz.cells;simp[this]
theorem eh.mU(h:eh w b s):At w ⟨b,0,none⟩ 25 [.slice s.tp s.cE.length s.jx]:=h.at_ 25 (by rw[h.ZQ];rfl)
theorem eh.afy(h:eh w b s){p:ao}{c:Nat}{l:List Int}(hp:bH w [] ⟨b,0,none⟩ 25 [.slice p l.length c] w')(ho:bF Y.dZ w G.eY 1 p l.length c (eU l))(hb:¬dk p b)(bk:l.length<=1024):
  eh w' b ⟨s.d,s.cO,s.pre,s.bS,s.q,p,c,l⟩:=by
 refine h.put hp M ?_ rfl h.l3 ho hb h.int bk;rw[h.awr,show(25+1)=25+1 from rfl,<-vH,h.ZQ];unfold iF.cells;simp
theorem afU(h:eh w b s):bI Tryz.prog X.Nh #[.pointer (some ⟨b,0,none⟩)] w (λi=>i=b) (λv w'=>v= .tuple #[]/\ja w b s (akG s.bz) w'):=by
 have dJ:cp w.heap.size (λi=>i=b) [] b:=⟨by simp,λ_=>rfl⟩;refine ayl _ ⟨⟨h.ch M,dJ⟩,λw1 Ep=>?_⟩;have h1:eh w1 b ⟨s.d,s.cO,0,s.bS,s.q,s.tp,s.jx,s.cE⟩:=h.put Ep M rfl rfl h.l3 h.f' h.f_ h.int h.iX;refine⟨⟨h1.ch M,dJ⟩,λad nM=>?_⟩;have h2:eh ad b ⟨s.d,s.cO,0,[],s.q,s.tp,s.jx,s.cE⟩:=h1.put nM M rfl rfl h1.l3 h1.f' h1.f_ (ef _) h1.iX;refine⟨⟨h2.ch M,dJ⟩,λbw iw bD eR=>?_⟩;have aw:eh bw b ⟨s.d,s.cO,0,[],s.q,none,0,[]⟩:=h2.afy iw (bF.nil _ _ _ _) (λ⟨a,ha,_⟩=>by cases ha) (ef _);refine(ate (aw.below eR).Xi).aH λv bP eH ⟨ah,hB⟩=>⟨by rw[ah],eH.kept (λi hi _=>hi) (λi _ _ hm=>by cases hm),λw' hb _=>⟨rfl,_,?_,((aw.below eR).w2 eH hB).below hb,λi hi=>?_⟩⟩
 ·rfl
 ·rcases hi with rfl|hi|⟨a,ha,_⟩
  ·exact .inl (.inl rfl)
  ·exact .inl (.inr (.inl hi))
  ·cases ha
theorem afW{cO:Int}(h:eh w b s):bI Tryz.prog X.CV #[.pointer (some ⟨b,0,none⟩), .int .i64 cO] w (λi=>i=b) (λv w'=>v= .slice none 0 0/\ja w b s (kK cO s.bz) w'):=by
 refine ayo _ cO λw1 hb1=>(afU (h.below hb1)).aH λv ad aI ⟨ah,s',jo,h2,bc⟩=>?_
 have hs1:=hb1.size;refine⟨by rw[ah],aI.kept (λi hi _=>hi) (λi _ _ hm=>by cases hm),⟨h2.ch M,⟨by simp,λ_=>rfl⟩⟩,λbw iw w' hb _=>?_⟩;have aw:eh bw b ⟨s'.d,cO,s'.pre,s'.bS,s'.q,s'.tp,s'.jx,s'.cE⟩:=h2.put iw M rfl rfl h2.l3 h2.f' h2.f_ h2.int h2.iX;refine⟨rfl,_,?_,aw.below hb,λi hi=>(bc i hi).imp id λu=>by omega⟩;have e1:s'.d.q=s.d.q:=dx da.d jo;have e2:s'.pre=0:=dx da.pre jo;have e3:s'.bS=[]:=dx da.bS jo;have e4:s'.q=Dx:=dx da.q jo;have eu:s'.cE=[]:=dx da.cE jo;show da.mk s'.d.q cO s'.pre s'.bS s'.q s'.cE=_;rw[e1,e2,e3,e4,eu];rfl
theorem E7{p:ao}{n c:Nat}(h:eh w b s):bI Tryz.prog X.Ab #[.pointer (some ⟨b,0,none⟩), .slice p n c] w (λi=>i=b) (λv w'=>v= .slice p n c/\ja w b s (kK 0 s.bz) w'):=by
 refine ayq _ p n c λw1 hb1=>(afU (h.below hb1)).aH λv ad aI ⟨ah,s',jo,h2,bc⟩=>?_
 have hs1:=hb1.size;refine⟨by rw[ah],aI.kept (λi hi _=>hi) (λi _ _ hm=>by cases hm),⟨h2.ch M,⟨by simp,λ_=>rfl⟩⟩,λbw iw w' hb _=>?_⟩;have aw:eh bw b ⟨s'.d,0,s'.pre,s'.bS,s'.q,s'.tp,s'.jx,s'.cE⟩:=h2.put iw M rfl rfl h2.l3 h2.f' h2.f_ h2.int h2.iX;refine⟨rfl,_,?_,aw.below hb,λi hi=>(bc i hi).imp id λu=>by omega⟩;have e1:s'.d.q=s.d.q:=dx da.d jo;have e2:s'.pre=0:=dx da.pre jo;have e3:s'.bS=[]:=dx da.bS jo;have e4:s'.q=Dx:=dx da.q jo;have eu:s'.cE=[]:=dx da.cE jo;show da.mk s'.d.q 0 s'.pre s'.bS s'.q s'.cE=_;rw[e1,e2,e3,e4,eu];rfl
theorem afV{r:Int}(h:eh w b s)(hr:(kk r).length<=4)(hi:s.bS.length<=90):bI Tryz.prog X.Ni #[.pointer (some ⟨b,0,none⟩), .int .i32 r] w (λi=>i=b) (λv w'=>v= .tuple #[]/\ja w b s (pt r s.bz) w'):=by
 have vY:At w ⟨b,0,none⟩ 6 [.string ⟨s.bS.toArray⟩]:=h.at_ 6 rfl;refine aym _ r ⟨_,vY,λe=>⟨_,vY,by omega,⟨h.ch M,⟨by simp,λ_=>rfl⟩⟩,λad nM w' hb _=>?_⟩,λe w' hb _=>?_⟩
 ·have h2:eh ad b ⟨s.d,s.cO,s.pre,s.bS++kk r,s.q,s.tp,s.jx,s.cE⟩:=h.put nM M rfl rfl h.l3 h.f' h.f_ (by show(s.bS++kk r).length<=100;rw[gh];omega) h.iX
  refine⟨rfl,_,?_,h2.below hb,λi hi=> .inl hi⟩;rw[pt,aA (show s.bz.bS.length<=2 by show s.bS.length<=2;omega)];rfl
 ·refine⟨rfl,s,?_,h.below hb,λi hi=> .inl hi⟩
  rw[pt,ag (show ¬s.bz.bS.length<=2 by show ¬s.bS.length<=2;omega)]
end
end Go.Proofs.YtimbpmnbbfeogaaGreatDoor
namespace Go.Rep
open Go Go.Sy
structure fH where
 (kind rune pre:Int) (bS:List UInt8) (params:List Int) (cE:List UInt8)
structure my where
 (q:fH) (aB:ao) (c:Nat)
abbrev my.ac(x:my):ff:=⟨x.q.kind,x.q.rune,x.q.pre,x.q.bS,⟨x.aB,x.q.params.length,x.c⟩,x.q.cE⟩
def n9(xs:List my):List Value:=xs.flatMap λx=>x.ac.T.toList
end Go.Rep
namespace Go.Proofs.YtimbpmnbbfeogaaGreatDoor
open Go Go.RowKit Go.Sy Go.Rep
structure oE(w:World)(lo:Nat)(p:ao)(n c:Nat)(xs:List my):Prop where
 row:bF lo w G.fO 6 p n c (n9 xs)
 fw:∀x∈xs,bF lo w G.int 1 x.aB x.q.params.length x.c (lh x.q.params)
 off:∀i,dk p i->∀x∈xs,¬dk x.aB i
def gl(w0:World)(l:List fH)(v:Value)(w:World):Prop:=∃p c xs,v= .slice p l.length c/\xs.map my.q=l/\oE w w0.heap.size p l.length c xs
def oL(l:List Int):List UInt8:=l.map λx=>UInt8.ofNat x.toNat
theorem KG{l:List Int}(h:∀x∈l,0<=x/\x<256):tv (oL l)=eU l:=by
 unfold tv oL eU;rw[Du];refine List.map_congr_left λx hx=>?_
 have:=h x hx;show Value.int .u8 ((UInt8.ofNat x.toNat).toNat:Int)=_;rw[UInt8.toNat_ofNat'];congr 1;omega
structure Zd(q:da):Prop where
 f':∀x∈q.cE,0<=x/\x<256
def mQ(r:Int)(q:da):da×List fH:=
 if r=7 then(kK 0 q,[⟨5,0,0,[],[],oL q.cE⟩]) else if r<32∨r=127∨wN r=false then(q,[])
 else if q.cE.length+(gS r).length<=1024 then(⟨q.d,q.cO,q.pre,q.bS,q.q,q.cE++gS r⟩,[]) else(q,[])
theorem gl.nil(w0 w:World):gl w0 [] (.slice none 0 0) w:=⟨none,0,[],rfl,rfl,⟨bF.nil _ _ _ _,λx hx=>JH,λi ⟨a,ha,_⟩=>by cases ha⟩⟩
section
variable{w w':World}{b:Nat}{s:iF}
theorem ja.same(h:eh w' b s):ja w b s s.bz w':=⟨s,rfl,h,λi hi=> .inl hi⟩
theorem ja.base{w0 w1 ad:World}{q:da}(h:ja w1 b s q ad)(hs:w0.heap.size<=w1.heap.size):ja w0 b s q ad:=by
 obtain⟨s',e,a,bc⟩:=h;exact⟨s',e,a,λi hi=>(bc i hi).imp id λu=>by omega⟩
theorem ja.below{w0 w1 ad:World}{q:da}(h:ja w0 b s q w1)(hb:Below w1.heap.size w1 ad):ja w0 b s q ad:=by
 obtain⟨s',e,a,bc⟩:=h;exact⟨s',e,a.below hb,bc⟩
theorem gl.lit{w0 w1 ad bw:World}{x:fH}{n:Nat}(hp:x.params=[])(hs:w0.heap.size<=w1.heap.size)(hl:cX w1 [] G.fO (⟨x,none,0⟩:my).ac.T.toList ad n)(hb:U (λi=>i=b) ad bw)(hn:b<w1.heap.size):gl w0 [x] (.slice (some ⟨n,0,none⟩) 1 1) bw:=by
 have ng:=hl.new;refine⟨_,_,[⟨x,none,0⟩],rfl,rfl,⟨?_,λy hy=>?_,λi _ y hy ⟨a,ha,_⟩=>?_⟩⟩
 ·have:=hl.own (n:=1) (s:=6) rfl du
  have h2:=this.base (B':=w0.heap.size) λa ha=>by cases ha;show _<=n;omega
  have aw:=h2.ax hb λa ha e=>by cases ha;change n=b at e;omega
  show bF _ _ _ _ _ _ _ (n9 [⟨x,none,0⟩]);simpa[n9] using aw
 ·rw[gg] at hy
  subst hy;show bF _ _ _ _ none x.params.length 0 (lh x.params);rw[hp];exact bF.nil _ _ _ _
 ·rw[gg] at hy
  subst hy;cases ha
theorem atj{r:Int}(aj:Laid w)(h:eh w b s)(fc:Zd s.bz):bI Tryz.prog X.Uy #[.pointer (some ⟨b,0,none⟩), .int .i32 r] w (λi=>i=b) (λv w'=>gl w (mQ r s.bz).2 v w'/\ja w b s (mQ r s.bz).1 w'):=by
 have hY:=aj.size;have jG:b<w.heap.size:=h.aF.lt;have vo:∀{V:World},U bg w V->mQ r s.bz=(s.bz,[])->Sy.aa w (λi=>i=b) V (λv w'=>gl w (mQ r s.bz).2 v w'/\ja w b s (mQ r s.bz).1 w') (.slice none 0 0):=λhk e w' hb _=>by
  rw[e];exact⟨gl.nil _ _,ja.same ((h.O hk).below hb)⟩
 refine ayr _ r ⟨λe=>⟨_,_,_,h.mU,oL s.cE,λjy kM=>⟨⟨by simp[oL],λa ha=>?_⟩,λe2=>Row.wL h.f'.row e2,λk2 aDD hl oz ks=>?_⟩⟩,λe=>⟨λe1=>vo (U.au (Below.refl _ _)) (by rw[mQ,ag e,aA (.inl e1)]),λe1=>⟨λe2=>vo (U.au (Below.refl _ _)) (by rw[mQ,ag e,aA (.inr (.inl e2))]),λe2 w1 hb1=>?_⟩⟩⟩
 ·rw[KG (l:=s.cE) fc.f']
  exact(h.f'.below kM).row.eI a ha
 ·have rr:=((U.au kM).trans (hl.ax rfl)).trans (U.au ks)
  have aCU:=rr.size;have aCT:=kM.size;refine(E7 (h.O rr)).aH λv nX su ⟨ah,hm⟩=>⟨_,_,_,dx Ending.returned ah,su.kept (λi hi _=>hi) (λi _ _ hm=>by cases hm),λw' hb _=>?_⟩
  rw[mQ,aA e];exact⟨gl.lit (b:=b) (x:=⟨5,0,0,[],[],oL s.cE⟩) rfl M hl ((((U.au ks).mono λ_ e=>e.elim).trans su).trans ((U.au hb).mono λ_ e=>e.elim)) M,(hm.base M).below hb⟩
 ·refine(Qy (r:=r)).aH (Laid.below hb1 aj) λad aI hU=>⟨_,rfl,aI.O,λe3=>vo ((U.au hb1).trans aI) (by rw[mQ,ag e,aA (.inr (.inr e3))]),λe3 bw ar hl bD eR=>?_⟩
  have k4:=(((U.au hb1).trans aI).trans (hl.ax rfl)).trans (U.au eR);have hrow:Row bD (some ⟨ar,0,none⟩) 1 1 (o9 [r]):=((hl.own (n:=1) (s:=1) rfl du).below eR).row;refine(auF (c:=1) (Laid.O k4 aj) hrow rfl M (λx hx=>by rw[gg] at hx;rw[hx];exact e3)).aH λv bP eH ⟨cq,bY,ah,ho⟩=>?_
  subst ah;have aly:[r].flatMap gS=gS r:=by simp
  rw[aly] at ho⊢;have dW:=k4.trans eH;have ca:=h.O dW;have hs5:=dW.size;have hlen:=aaZ r;have acm:=h.iX;have hne:mQ r s.bz=if s.cE.length+(gS r).length<=1024 then(⟨s.d.q,s.cO,s.pre,s.bS,s.q,s.cE++gS r⟩,[]) else(s.bz,[]):=by
   rw[mQ,ag e,ag (λu=>by rcases u with u|u|u;omega;exact e2 u;rw[e3] at u;cases u)];rfl
  have kg:=bF.cap ca.f';refine⟨_,_,_,rfl,eH.O,_,_,_,ca.mU,by unfold ay;omega,λe4=>⟨_,_,_,ca.mU,_,_,_,ca.mU,_,_,_,ca.mU,⟨by omega,by omega,by omega,by omega⟩,eU s.cE,?_,eU (gS r),⟨by simp[eU],λu hu=>?_,λeu=>Row.wL ho.row eu,λa ha=>ho.row.eI a ha⟩,by omega,λw7 sP IF hg=>?_⟩,λe4=>vo dW (by rw[hne,ag M])⟩
  ·have hcut:cM s.tp s.cE.length 0 1=s.tp:=by
    unfold cM;split
    ·rfl
    ·cases s.tp<;>simp[Addr.add]
   rw[hcut];cases adk:s.tp with
   |none=>
    have aW:=Row.wL ca.f'.row adk;have En:s.cE=[]:=n2 aW;rw[En];exact gy.none
   |some a=>exact gy.abo M (by simp[eU]) aS (ca.f'.row.eI a adk)
  ·obtain⟨z,_,rfl⟩:=lr.1 hu
   rfl
  ·have hcut:cM s.tp s.cE.length 0 1=s.tp:=by
    unfold cM;split
    ·rfl
    ·cases s.tp<;>simp[Addr.add]
   rw[hcut] at hg;have Sa:U bg bP w7:=hg.ax λu=>by omega
   have fM:=ca.O Sa;have tL:=hg.own (B:=Y.dZ) M λa ha=>(ca.f'.lt a ha).2.1
   have x3:eU s.cE++eU (gS r)=eU (s.cE++gS r):=by simp[eU]
   rw[x3] at tL;have acN:∀a,sP=some a->bP.heap.size<=a.block:=λa ha=>by
    rcases hg.j6 a ha with⟨_,_,_,u|u⟩|u
    ·omega
    ·omega
    ·exact u
   refine⟨⟨fM.ch M,⟨by simp,λ_=>rfl⟩⟩,λcW sz w' hb _=>?_⟩;have j3:(s.cE++gS r).length=s.cE.length+(gS r).length:=gh;have gT:eh cW b ⟨s.d,s.cO,s.pre,s.bS,s.q,sP,IF,s.cE++gS r⟩:=fM.afy (by rw[j3];exact sz) (by rw[j3];exact tL) (λ⟨a,ha,kf⟩=>by have:=acN a ha;omega) M;rw[hne,aA M];refine⟨gl.nil _ _,_,rfl,gT.below hb,λi hi=>?_⟩;rcases hi with rfl|hi|⟨a,ha,kf⟩
   ·exact .inl (.inl rfl)
   ·exact .inl (.inr (.inl hi))
   ·exact .inr (by have:=acN a ha;omega)
end
theorem agA{r:Int}(h1:32<=r)(h2:r<=47):(kk r).length<=4:=by
 have:r=32∨r=33∨r=34∨r=35∨r=36∨r=37∨r=38∨r=39∨r=40∨r=41∨r=42∨r=43∨r=44∨r=45∨r=46∨r=47:=by omega
 rcases this with rfl|rfl|rfl|rfl|rfl|rfl|rfl|rfl|rfl|rfl|rfl|rfl|rfl|rfl|rfl|rfl<;>decide
def kr(r:Int)(q:da):da×List fH:=
 if 32<=r/\r<=47 then(pt r ⟨q.d,2,q.pre,q.bS,q.q,q.cE⟩,[])
 else if ¬(48<=r/\r<=126) then(kK 0 q,[]) else if 2<q.bS.length then(kK 0 q,[])
 else if q.cO=1/\r=91 then(kK 3 q,[]) else if q.cO=1/\r=93 then(kK 7 q,[])
 else if q.cO=1/\(r=80∨r=88∨r=94∨r=95) then(kK 8 q,[]) else(kK 0 q,[⟨3,r,0,q.bS,[],[]⟩])
section
variable{w w':World}{b:Nat}{s:iF}
theorem ati{r:Int}(aj:Laid w)(h:eh w b s)(kO:s.bS.length<=3):bI Tryz.prog X.Ux #[.pointer (some ⟨b,0,none⟩), .int .i32 r] w (λi=>i=b) (λv w'=>gl w (kr r s.bz).2 v w'/\ja w b s (kr r s.bz).1 w'):=by
 have hY:=aj.size;have jG:b<w.heap.size:=h.aF.lt;have ground:∀{V gb:World},U bg w V->kr r s.bz=(kK 0 s.bz,[])->Below V.heap.size V gb->dH Tryz.prog X.Ab #[.pointer (some ⟨b,0,none⟩), .slice none 0 0] gb (λe1 ad=>∃p:ao,∃n c:Nat,e1= .returned (.slice p n c)/\(eC w.heap.size (λi=>i=b) [] gb ad/\Sy.aa w (λi=>i=b) ad (λv w'=>gl w (kr r s.bz).2 v w'/\ja w b s (kr r s.bz).1 w') (.slice p n c))):=by
  intro V gb hk e hb1;have a8:=hk.trans (U.au hb1);have hs1:=a8.size;refine(E7 (h.O a8)).aH λv ad aI ⟨ah,hm⟩=>⟨_,_,_,dx Ending.returned ah,aI.kept (λi hi _=>hi) (λi _ _ hm=>by cases hm),λw' hb _=>?_⟩
  rw[e];exact⟨gl.nil _ _,(hm.base M).below hb⟩
 have enter:∀{V gb:World} {cO:Int},U bg w V->kr r s.bz=(kK cO s.bz,[])->Below V.heap.size V gb->dH Tryz.prog X.CV #[.pointer (some ⟨b,0,none⟩), .int .i64 cO] gb (λe1 ad=>∃p:ao,∃n c:Nat,e1= .returned (.slice p n c)/\(eC w.heap.size (λi=>i=b) [] gb ad/\Sy.aa w (λi=>i=b) ad (λv w'=>gl w (kr r s.bz).2 v w'/\ja w b s (kr r s.bz).1 w') (.slice p n c))):=by
  intro V gb cO hk e hb1;have a8:=hk.trans (U.au hb1);have hs1:=a8.size;refine(afW (h.O a8)).aH λv ad aI ⟨ah,hm⟩=>⟨_,_,_,dx Ending.returned ah,aI.kept (λi hi _=>hi) (λi _ _ hm=>by cases hm),λw' hb _=>?_⟩
  rw[e];exact⟨gl.nil _ _,(hm.base M).below hb⟩
 have gO:∀{V gb jC:World} {n:Nat},U bg w V->kr r s.bz=(kK 0 s.bz,[⟨3,r,0,s.bS,[],[]⟩])->cX V [] G.fO [.int .i64 3, .int .i32 r, .int .i32 0, .string ⟨s.bS.toArray⟩, .slice none 0 0, .string ⟨[].toArray⟩] gb n->Below gb.heap.size gb jC->
   dH Tryz.prog X.Ab #[.pointer (some ⟨b,0,none⟩), .slice (some ⟨n,0,none⟩) 1 1] jC (λe1 ad=>∃p:ao,∃n c:Nat,e1= .returned (.slice p n c)/\(eC w.heap.size (λi=>i=b) [] jC ad/\Sy.aa w (λi=>i=b) ad (λv w'=>gl w (kr r s.bz).2 v w'/\ja w b s (kr r s.bz).1 w') (.slice p n c))):=by
  intro V gb jC n hk e hl hb1;have ao9:=hk.size;have a8:=(hk.trans (hl.ax rfl)).trans (U.au hb1);have hs1:=a8.size;refine(E7 (h.O a8)).aH λv ad aI ⟨ah,hm⟩=>⟨_,_,_,dx Ending.returned ah,aI.kept (λi hi _=>hi) (λi _ _ hm=>by cases hm),λw' hb _=>?_⟩
  rw[e];exact⟨gl.lit (b:=b) (x:=⟨3,r,0,s.bS,[],[]⟩) rfl M hl ((((U.au hb1).mono λ_ e=>e.elim).trans aI).trans ((U.au hb).mono λ_ e=>e.elim)) M,(hm.base M).below hb⟩
 have vY:∀{V:World},U bg w V->At V ⟨b,0,none⟩ 6 [.string ⟨s.bS.toArray⟩]:=λhk=>(h.O hk).at_ 6 rfl
 have tt:∀{V:World},U bg w V->At V ⟨b,0,none⟩ 4 [.int .i64 s.cO]:=λhk=>(h.O hk).at_ 4 rfl
 refine ayp _ r λw1 hb1=>(xF (r:=r)).aH (Laid.below hb1 aj) λad aI hU=>⟨_,rfl,aI.O,λe=>?_,λe bw bp=>(xF (r:=r)).aH (Laid.below bp hU) λbD bO kL=>⟨_,rfl,bO.O,λe2 ahN RT=>?_,λe2=>?_⟩⟩
 ·have hr:32<=r/\r<=47:=by simpa using e
  have aK:=(U.au hb1).trans aI;have h2:=h.O aK;have tN:=aK.size;refine⟨⟨h2.ch M,⟨by simp,λ_=>rfl⟩⟩,λahO ac0 ahP LK=>?_⟩;have aw:eh ahO b ⟨s.d,2,s.pre,s.bS,s.q,s.tp,s.jx,s.cE⟩:=h2.put ac0 M rfl rfl h2.l3 h2.f' h2.f_ h2.int h2.iX;have aC6:=ac0.size;have aC7:=LK.size;refine(afV (r:=r) (aw.below LK) (agA hr.1 hr.2) (by show s.bS.length<=90;omega)).aH λv aAT anY ⟨ah,s',jo,ha,bc⟩=>⟨dx Ending.returned ah,anY.kept (λi hi _=>hi) (λi _ _ hm=>by cases hm),λw' hb _=>?_⟩
  rw[kr,aA hr];exact⟨gl.nil _ _,s',jo,ha.below hb,λi hi=>(bc i hi).imp id λu=>by omega⟩
 all_goals
  have ec:¬(32<=r/\r<=47):=by intro u;simp at e;omega
  have k4:=(((U.au hb1).trans aI).trans (U.au bp)).trans bO
 ·exact ground k4 (by rw[kr,ag ec,aA (by intro u;simp at e2;omega)]) RT
 ·have j4:48<=r/\r<=126:=by simpa using e2
  refine⟨_,vY k4,λe3 Xc Ho=>ground k4 (by rw[kr,ag ec,ag M,aA (show 2<s.bz.bS.length from by show 2<s.bS.length;omega)]) Ho,λe3=>⟨_,tt k4,λe4=>?_,λe4=>?_⟩⟩
  all_goals have jJ:¬2<s.bz.bS.length:=by show ¬2<s.bS.length;omega
  ·have ki:s.bz.cO=1:=e4
   have base:kr r s.bz=if r=91 then(kK 3 s.bz,[]) else if r=93 then(kK 7 s.bz,[]) else if r=80∨r=88∨r=94∨r=95 then(kK 8 s.bz,[]) else(kK 0 s.bz,[⟨3,r,0,s.bS,[],[]⟩]):=by
    rw[kr,ag ec,ag M,ag jJ];simp only[ki,true_and];rfl
   refine⟨λf ahL hb=>enter k4 (by rw[base,aA f]) hb,λf1=>⟨λf Xb hb=>enter k4 (by rw[base,ag f1,aA f]) hb,λf2=>⟨λf=>⟨λ_ Xa hb=>enter k4 (by rw[base,ag f1,ag f2,aA (.inl f)]) hb,λg=>absurd f g⟩,λlU=>⟨λf=>⟨λ_ vC hb=>enter k4 (by rw[base,ag f1,ag f2,aA (.inr (.inl f))]) hb,λg=>absurd f g⟩,λwj=>⟨λf=>⟨λ_ km hb=>enter k4 (by rw[base,ag f1,ag f2,aA (.inr (.inr (.inl f)))]) hb,λg=>absurd f g⟩,λf5=>⟨λf jy hb=>enter k4 (by rw[base,ag f1,ag f2,aA (.inr (.inr (.inr f)))]) hb,λLh=>⟨_,vY k4,λcR eO hl gn hb=>gO k4 (by rw[base,ag f1,ag f2,ag M]) hl hb⟩⟩⟩⟩⟩⟩⟩
  ·have ki:¬s.bz.cO=1:=e4
   refine⟨_,vY k4,λbP ar hl cu hb=>gO k4 ?_ hl hb⟩;rw[kr,ag ec,ag M,ag jJ,ag (λu=>ki u.1),ag (λu=>ki u.1),ag (λu=>ki u.1)];rfl
end
def uU(r:Int)(q:da):da×List fH:=
 if q.cO=3∨q.cO=4 then(if(n8 r q.q).2=true then(⟨q.d,4,q.pre,q.bS,(n8 r q.q).1,q.cE⟩,[]) else(⟨q.d,6,q.pre,q.bS,(n8 r q.q).1,q.cE⟩,[]))
 else(⟨q.d,6,q.pre,q.bS,q.q,q.cE⟩,[])
def jn(r:Int)(q:da):da×List fH:=
 if ¬(32<=r/\r<=126) then(kK 0 q,[])
 else if 64<=r then(if q.cO=6∨2<q.bS.length then(kK 0 q,[]) else(kK 0 q,[⟨4,r,q.pre,q.bS,rv q.q,[]⟩]))
 else if q.cO=6 then(q,[]) else if r<=47 then(pt r ⟨q.d,5,q.pre,q.bS,q.q,q.cE⟩,[])
 else if 60<=r/\q.cO=3 then(⟨q.d,4,r,q.bS,q.q,q.cE⟩,[]) else uU r q
section
variable{w w':World}{b:Nat}{s:iF}
theorem ath{r:Int}(aj:Laid w)(h:eh w b s)(kO:s.bS.length<=3):bI Tryz.prog X.Uw #[.pointer (some ⟨b,0,none⟩), .int .i32 r] w (λi=>i=b) (λv w'=>gl w (jn r s.bz).2 v w'/\ja w b s (jn r s.bz).1 w'):=by
 have hY:=aj.size;have jG:b<w.heap.size:=h.aF.lt;have dJ:cp w.heap.size (λi=>i=b) [] b:=⟨by simp,λ_=>rfl⟩;have ground:∀{V gb:World},U bg w V->jn r s.bz=(kK 0 s.bz,[])->Below V.heap.size V gb->dH Tryz.prog X.Ab #[.pointer (some ⟨b,0,none⟩), .slice none 0 0] gb (λe1 ad=>∃p:ao,∃n c:Nat,e1= .returned (.slice p n c)/\(eC w.heap.size (λi=>i=b) [] gb ad/\Sy.aa w (λi=>i=b) ad (λv w'=>gl w (jn r s.bz).2 v w'/\ja w b s (jn r s.bz).1 w') (.slice p n c))):=by
  intro V gb hk e hb1;have a8:=hk.trans (U.au hb1);have hs1:=a8.size;refine(E7 (h.O a8)).aH λv ad aI ⟨ah,hm⟩=>⟨_,_,_,dx Ending.returned ah,aI.kept (λi hi _=>hi) (λi _ _ hm=>by cases hm),λw' hb _=>?_⟩
  rw[e];exact⟨gl.nil _ _,(hm.base M).below hb⟩
 have bQ:∀{V:World} {q:da} {s':iF},eh V b s'->s'.bz=q->s'.d=s.d->s'.tp=s.tp->jn r s.bz=(q,[])->Sy.aa w (λi=>i=b) V (λv w'=>gl w (jn r s.bz).2 v w'/\ja w b s (jn r s.bz).1 w') (.slice none 0 0):=by
  intro V q s' ha hq hd ht e w' hb _;rw[e];refine⟨gl.nil _ _,s',hq,ha.below hb,λi hi=> .inl ?_⟩;unfold rX at hi⊢;rw[hd,ht] at hi;exact hi
 have tt:∀{V:World},U bg w V->At V ⟨b,0,none⟩ 4 [.int .i64 s.cO]:=λhk=>(h.O hk).at_ 4 rfl
 have Zs:∀{V:World},U bg w V->At V ⟨b,0,none⟩ 5 [.int .i32 s.pre]:=λhk=>(h.O hk).at_ 5 rfl
 have vY:∀{V:World},U bg w V->At V ⟨b,0,none⟩ 6 [.string ⟨s.bS.toArray⟩]:=λhk=>(h.O hk).at_ 6 rfl
 refine ayn _ r ⟨λe V=>U bg w V/\e=decide (s.cO=3∨s.cO=4),⟨_,h.at_ 4 rfl,λe ahP hb=>⟨U.au hb,by simp[e]⟩,λe=>⟨_,h.at_ 4 rfl,λahO hb=>⟨λe2=>⟨U.au hb,by simp[e2]⟩,λe2=>⟨U.au hb,by simp[e,e2]⟩⟩⟩⟩,?_⟩;rintro early w1 hk1 ⟨a8,acj⟩ ad kN
 have aaM:∀{V:World},U bg w V->jn r s.bz=uU r s.bz->((early=true->∀km:World,Below V.heap.size V km->dH Tryz.prog X.Nf #[.pointer (some (Addr.add ⟨b,0,none⟩ 7)), .int .i32 r] km (λgq ln=>∃nF:Bool,gq= .returned (.bool nF)/\(eC w.heap.size (λi=>i=b) [] km ln/\((nF=true->((ct ln ⟨b,0,none⟩ 4 1/\cp w.heap.size (λi=>i=b) [] b)/\∀ky:World,bH ln [] ⟨b,0,none⟩ 4 [.int .i64 4] ky->Sy.aa w (λi=>i=b) ky (λv w'=>gl w (jn r s.bz).2 v w'/\ja w b s (jn r s.bz).1 w') (.slice none 0 0)))/\(nF=false->((ct ln ⟨b,0,none⟩ 4 1/\cp w.heap.size (λi=>i=b) [] b)/\∀ky:World,bH ln [] ⟨b,0,none⟩ 4 [.int .i64 6] ky->Sy.aa w (λi=>i=b) ky (λv w'=>gl w (jn r s.bz).2 v w'/\ja w b s (jn r s.bz).1 w') (.slice none 0 0)))))))
   /\(early=false->((ct V ⟨b,0,none⟩ 4 1/\cp w.heap.size (λi=>i=b) [] b)/\∀ky:World,bH V [] ⟨b,0,none⟩ 4 [.int .i64 6] ky->Sy.aa w (λi=>i=b) ky (λv w'=>gl w (jn r s.bz).2 v w'/\ja w b s (jn r s.bz).1 w') (.slice none 0 0)))):=by
  intro V hk hd;refine⟨λhe km qk=>?_,λhe=>⟨⟨(h.O hk).ch M,dJ⟩,λky hp=>?_⟩⟩
  ·have ki:s.bz.cO=3∨s.bz.cO=4:=by rw[acj] at he;exact lu he
   have D5:=(h.O hk).below qk;refine(atc (r:=r) D5.Xi).aH λv ln wz ⟨ah,hB⟩=>⟨_,dx Ending.returned ah,wz.kept (λi hi _=>hi) (λi _ _ hm=>by cases hm),λiW=>?_,λiW=>?_⟩
   ·have qh:=D5.w2 wz hB
    refine⟨⟨qh.ch M,dJ⟩,λky hp=>?_⟩;have He:eh ky b ⟨s.d,4,s.pre,s.bS,(n8 r s.q).1,s.tp,s.jx,s.cE⟩:=qh.put hp M rfl rfl qh.l3 qh.f' qh.f_ qh.int qh.iX;exact bQ He rfl rfl rfl (by rw[hd,uU,aA ki,aA (show(n8 r s.bz.q).2=true from iW)];rfl)
   ·have qh:=D5.w2 wz hB
    refine⟨⟨qh.ch M,dJ⟩,λky hp=>?_⟩;have He:eh ky b ⟨s.d,6,s.pre,s.bS,(n8 r s.q).1,s.tp,s.jx,s.cE⟩:=qh.put hp M rfl rfl qh.l3 qh.f' qh.f_ qh.int qh.iX;exact bQ He rfl rfl rfl (by rw[hd,uU,aA ki,ag (show ¬(n8 r s.bz.q).2=true from by show ¬(n8 r s.q).2=true;rw[iW];decide)];rfl)
  ·have ki:¬(s.bz.cO=3∨s.bz.cO=4):=by rw[acj] at he;exact mx he
   have aW:=h.O hk;have He:eh ky b ⟨s.d,6,s.pre,s.bS,s.q,s.tp,s.jx,s.cE⟩:=aW.put hp M rfl rfl aW.l3 aW.f' aW.f_ aW.int aW.iX;exact bQ He rfl rfl rfl (by rw[hd,uU,ag ki];rfl)
 have aK:=a8.trans (U.au kN);refine(xF (r:=r)).aH (Laid.O aK aj) λbw hk3 pw=>⟨_,rfl,hk3.O,λe ahN RT=>ground (aK.trans hk3) (by rw[jn,aA (by intro u;simp at e;omega)]) RT,λe bD eR=>(xF (r:=r)).aH (Laid.below eR pw) λbP eH nc=>⟨_,rfl,eH.O,λe2=>?_,λe2=>?_⟩⟩
 all_goals
  have hr:32<=r/\r<=126:=by simpa using e
  have dW:=((aK.trans hk3).trans (U.au eR)).trans eH
 ·have j4:64<=r:=by have:64<=r/\r<=126:=(by simpa using e2);exact this.1
  have base:jn r s.bz=if s.bz.cO=6∨2<s.bz.bS.length then(kK 0 s.bz,[]) else(kK 0 s.bz,[⟨4,r,s.pre,s.bS,rv s.q,[]⟩]):=by rw[jn,ag M,aA j4];rfl
  refine⟨_,tt dW,λe3 Xc hb=>ground dW (by rw[base,aA (.inl e3)]) hb,λe3=>⟨_,vY dW,λe4 ahL hb=>ground dW (by rw[base,aA (.inr (show 2<s.bS.length by omega))]) hb,λe4=>⟨_,Zs dW,_,vY dW,λXa Hm=>?_⟩⟩⟩;have Cx:=dW.trans (U.au Hm);refine(atd (h.O Cx).Xi).aH λv ahJ B7 ⟨cq,aQ,ah,ho⟩=>?_
  subst ah;have TN:=Cx.trans B7;have aC1:=Cx.size;have aC2:=B7.size;refine⟨_,_,_,rfl,B7.O,vY TN,Zs TN,λahK cH hl Xb Hn=>?_⟩;have ad0:=(TN.trans (hl.ax rfl)).trans (U.au Hn);have aC3:=ad0.size;have ng:=hl.new;refine(E7 (h.O ad0)).aH λv aDO Sl ⟨ah,hm⟩=>⟨_,_,_,dx Ending.returned ah,Sl.kept (λi hi _=>hi) (λi _ _ hm=>by cases hm),λw' hb _=>?_⟩
  rw[base,ag (by intro u;rcases u with u|u;exact e3 u;have u':2<s.bS.length:=u;omega)];refine⟨⟨_,_,[⟨⟨4,r,s.pre,s.bS,rv s.q,[]⟩,cq,aQ⟩],rfl,rfl,⟨?_,λy hy=>?_,λi ⟨a,ha,kf⟩ y hy ⟨a2,iu,aBG⟩=>?_⟩⟩,(hm.base M).below hb⟩
  ·have q1:=hl.own (n:=1) (s:=6) rfl du
   have q2:=q1.base (B':=w.heap.size) λa ha=>by cases ha;show _<=cH;omega
   have cz:=((q2.below Hn).ax Sl λa ha e=>by cases ha;change cH=b at e;omega).below hb;show bF _ _ _ _ _ _ _ (n9 [_]);simpa[n9,my.ac] using cz
  ·rw[gg] at hy
   subst hy;exact(((((ho.O (hl.ax rfl)).below Hn).ax Sl λa ha e=>by have:=(ho.lt a ha).2.1;omega).below hb).low M)
  ·rw[gg] at hy
   subst hy;cases ha;have:=(ho.lt a2 iu).1;change cH=i at kf;omega
 ·have j4:¬64<=r:=by intro u;simp at e2;omega
  refine⟨_,tt dW,λe3=>bQ (h.O dW) rfl rfl rfl (by rw[jn,ag M,ag j4,aA (show s.bz.cO=6 from e3)]),λe3 cu ep=>(xF (r:=r)).aH (Laid.below ep nc) λw7 e_ nJ=>⟨_,rfl,e_.O,λe4=>?_,λe4 cW lE=>(xF (r:=r)).aH (Laid.below lE nJ) λcR pz wt=>⟨_,rfl,pz.O,λeu=>⟨_,tt (((dW.trans (U.au ep)).trans e_).trans ((U.au lE).trans pz)),λgq=>?_,λgq=>?_⟩,λeu=>?_⟩⟩⟩
  all_goals have fe:=(dW.trans (U.au ep)).trans e_
  all_goals have Mp:¬s.bz.cO=6:=e3
  ·have fM:=h.O fe
   have Cn:32<=r/\r<=47:=by simpa using e4
   have hs7:=fe.size;refine⟨⟨fM.ch M,dJ⟩,λuv hp W9 LJ=>?_⟩;have amB:eh uv b ⟨s.d,5,s.pre,s.bS,s.q,s.tp,s.jx,s.cE⟩:=fM.put hp M rfl rfl fM.l3 fM.f' fM.f_ fM.int fM.iX;have aCZ:=hp.size;have aC0:=LJ.size;refine(afV (r:=r) (amB.below LJ) (agA Cn.1 Cn.2) (by show s.bS.length<=90;omega)).aH λv Jz anX ⟨ah,s',jo,ha,bc⟩=>⟨dx Ending.returned ah,anX.kept (λi hi _=>hi) (λi _ _ hm=>by cases hm),λw' hb _=>?_⟩
   rw[jn,ag M,ag j4,ag Mp,aA Cn.2];exact⟨gl.nil _ _,s',jo,ha.below hb,λi hi=>(bc i hi).imp id λu=>by omega⟩
  all_goals have gI:=(fe.trans (U.au lE)).trans pz
  all_goals have Cn:¬r<=47:=by intro u;simp at e4;omega
  ·have aoS:60<=r/\r<=63:=by simpa using eu
   have gm:=h.O gI;refine⟨⟨gm.ch M,dJ⟩,λrQ hp=>?_⟩;have BX:eh rQ b ⟨s.d,4,s.pre,s.bS,s.q,s.tp,s.jx,s.cE⟩:=gm.put hp M rfl rfl gm.l3 gm.f' gm.f_ gm.int gm.iX;refine⟨⟨BX.ch M,dJ⟩,λvC nM=>?_⟩;have amA:eh vC b ⟨s.d,4,r,s.bS,s.q,s.tp,s.jx,s.cE⟩:=BX.put nM M rfl rfl BX.l3 BX.f' BX.f_ BX.int BX.iX;exact bQ amA rfl rfl rfl (by rw[jn,ag M,ag j4,ag Mp,ag Cn,aA ⟨aoS.1,show s.bz.cO=3 from gq⟩];rfl)
  ·exact aaM gI (by rw[jn,ag M,ag j4,ag Mp,ag Cn,ag (λu=>gq u.2)])
  ·exact aaM gI (by rw[jn,ag M,ag j4,ag Mp,ag Cn,ag (λu=>by simp at eu;omega)])
end
variable{w0:World}{F:Nat->Prop}{Q:Value->World->Prop}
theorem WZ(p:Addr)(r:Int)(h:b9 w0 F [] w0 X.yz #[.int .i32 r, .int .i32 128, .int .i32 159] .bool λc d=>dQ d (dt c X.CU #[al p, .int .i32 27] λe f g=>∃i:ao,∃j k:Nat,bW f (.slice i j k) w0 F [] e g (dt g X.CU #[al p, .int .i32 (IntKind.wrap .i32 (r-64))] λl m n=>∃o:ao,∃q s:Nat,bW m (.slice o q s) w0 F [] l n (∃t:List Value,gy w0.heap.size F [] n G.fO 6 i j k t q/\∃u:List Value,(u.length=(q*6)/\A2 u o q n)/\((j+q)*72)<=140737488355328/\∀v:World,∀x:ao,∀y:Nat,gk n [] i j k G.fO 6 (j+q) (t++u) v x y->aa w0 F v Q (.slice x (j+q) y)))) (∃e:World->Prop,a' r 27 (∃f:Option Addr->Nat->Nat->World->Prop,(∃g,At c p 4 [D g]/\a' g 7 (∃i:ao,∃j k:Nat,At c p 25 [.slice i j k]/\∃l:List UInt8,bm c λm=>vP m i j l/\(i=none->j=0)/\∀n:World,∀o:Nat,cX m [] G.fO [D 5, .int .i32 0, .int .i32 0, .string ⟨[].toArray⟩, .slice none 0 0, .string ⟨l.toArray⟩] n o->bm n λq=>f (some ⟨o,0,none⟩) 1 1 q) (bm c λi=>f none 0 0 i))/\∀g:ao,∀i j:Nat,∀k:World,U F w0 k->f g i j k->dt k X.CV #[al p,D 1] λl m n=>∃o:ao,∃q s:Nat,bW m (.slice o q s) w0 F [] l n (aa w0 F n Q (.slice g i j))) (∃f:Bool->World->Prop,a' r 24 (bm c λg=>a' r 24 (f true g) (f false g)) (bm c λg=>a' r 26 (f true g) (f false g))/\∀g:Bool,∀i:World,U F w0 i->f g i->dQ g (∀j:World,∀k:Nat,cX i [] G.fO [D 2, .int .i32 r, .int .i32 0, .string ⟨[].toArray⟩, .slice none 0 0, .string ⟨[].toArray⟩] j k->∀l:World,Pg w0 F Q j l p k []) (∃j,At i p 4 [D j]/\a' j 7 (dt i X.Uy #[al p, .int .i32 r] λk l m=>uG w0 F Q l [] k m) (∃k,At i p 4 [D k]/\a' k 8 (aa w0 F i Q (.slice none 0 0)) (a' r 127 (∃l,At i p 4 [D l]/\(l≠0->aa w0 F i Q (.slice none 0 0))/\(l=0->Yx w0 F Q r i e)) (Yx w0 F Q r i e)))))/\∀f:World,U F w0 f->e f->∃g:World->Prop,(∃i,At f p 4 [D i]/\∃j:Bool->World->Prop,a' i 1 (bm f λk=>a' i 1 (j true k) (j false k)) (bm f λk=>a' i 2 (j true k) (j false k))/\∀k:Bool,∀l:World,U F w0 l->j k l->dQ k (dt l X.Ux #[al p, .int .i32 r] λm n o=>uG w0 F Q n [] m o) (∃m:Bool->World->Prop,a' i 3 (bm l λn=>a' i 3 (m true n) (m false n)) (a' i 4 (bm l λn=>a' i 4 (m true n) (m false n)) (a' i 5 (bm l λn=>a' i 5 (m true n) (m false n)) (bm l λn=>a' i 6 (m true n) (m false n))))/\∀n:Bool,∀o:World,U F w0 o->m n o->dQ n (dt o X.Uw #[al p, .int .i32 r] λq s t=>uG w0 F Q s [] q t) (bm o λq=>g q)))/\∀i:World,U F w0 i->g i->a' r 127 (aa w0 F i Q (.slice none 0 0)) (b9 w0 F [] i X.Jv #[.int .i32 r] .bool λl m=>gL m (aa w0 F l Q (.slice none 0 0)) (∀n:World,∀o:Nat,cX l [] G.fO [D 1, .int .i32 r, .int .i32 0, .string ⟨[].toArray⟩, .slice none 0 0, .string ⟨[].toArray⟩] n o->aa w0 F n Q (.slice (some ⟨o,0,none⟩) 1 1))))):aO X.CU #[al p, .int .i32 r] w0 F Q:=eV [] [⟨9,[5],[]⟩,⟨13,[35],[]⟩,⟨22,[],[]⟩,⟨25,[84],[]⟩,⟨30,[90],[]⟩,⟨31,[],[]⟩] [.aY p 0, .int .i32 r] h
end Go.Proofs.YtimbpmnbbfeogaaGreatDoor
namespace Go.Proofs.YtimbpmnbbfeogaaGreatDoor
open Go Go.RowKit Go.Sy Go.Rep
structure kF(q:da):Prop where
 f':∀x∈q.cE,0<=x/\x<256
 int:q.bS.length<=3
theorem kF.ok{q:da}(h:kF q):Zd q:=⟨h.f'⟩
def y8(k r:Int):fH:=⟨k,r,0,[],[],[]⟩
def uY(r:Int)(q:da):da×List fH:=if r=127∨wN r=false then(q,[]) else(q,[y8 1 r])
def uq(r:Int)(q:da):da×List fH:=if q.cO=1∨q.cO=2 then kr r q else if q.cO=3∨q.cO=4∨q.cO=5∨q.cO=6 then jn r q else uY r q
def fh(r:Int)(q:da):da×List fH:=
 if r=27 then(kK 1 q,if q.cO=7 then[⟨5,0,0,[],[],oL q.cE⟩] else[])
 else if r=24∨r=26 then(kK 0 q,[y8 2 r]) else if q.cO=7 then mQ r q else if q.cO=8 then(q,[])
 else if r=127/\q.cO≠0 then(q,[]) else if 0<=r/\r<32 then(q,[y8 2 r]) else uq r q
def l6(r:Int)(q:da):da×List fH:=if 128<=r/\r<=159 then((fh (r-64) (fh 27 q).1).1,(fh 27 q).2++(fh (r-64) (fh 27 q).1).2) else fh r q
theorem ahs(n:Int):0<=IntKind.wrap .u8 n/\IntKind.wrap .u8 n<256:=by
 rw[IntKind.wrap_u8];omega
theorem arG(x y:Int):0<=bits .or .u8 x y/\bits .or .u8 x y<256:=ahs _
theorem alz(r:Int):∀x∈gS r,0<=x/\x<256:=by
 intro x hx;unfold gS Aw at hx;split at hx
 ·rw[gg] at hx
  subst hx;exact ahs _
 ·have:∃y z,x=bits .or .u8 y z:=by
   split at hx
   ·simp only[e7,ns,nt] at hx
    rcases hx with rfl|rfl<;>exact⟨_,_,rfl⟩
   ·split at hx<;>simp only[e7,ns,nt] at hx
    ·rcases hx with rfl|rfl|rfl<;>exact⟨_,_,rfl⟩
    ·rcases hx with rfl|rfl|rfl|rfl<;>exact⟨_,_,rfl⟩
  obtain⟨y,z,rfl⟩:=this;exact arG y z
theorem avw{r:Int}(h1:32<=r)(h2:r<=47):(kk r).length=1:=by
 have:r=32∨r=33∨r=34∨r=35∨r=36∨r=37∨r=38∨r=39∨r=40∨r=41∨r=42∨r=43∨r=44∨r=45∨r=46∨r=47:=by omega
 rcases this with rfl|rfl|rfl|rfl|rfl|rfl|rfl|rfl|rfl|rfl|rfl|rfl|rfl|rfl|rfl|rfl<;>decide
theorem DV(cO:Int)(q:da):kF (kK cO q):=⟨λx hx=>JH,ef _⟩
theorem QU{r:Int}{q:da}(h:kF q)(h1:32<=r)(h2:r<=47):kF (pt r q):=by
 unfold pt;split
 ·refine⟨h.f',?_⟩
  show(q.bS++kk r).length<=3;rw[gh,avw h1 h2];omega
 ·exact h
theorem ahh{r:Int}{q:da}(h:kF q):kF (mQ r q).1:=by
 unfold mQ;split
 ·exact DV _ _
 ·split
  ·exact h
  ·split
   ·exact⟨λx hx=>(gi.1 hx).elim (h.f' x) (alz r x),h.int⟩
   ·exact h
theorem alO{r:Int}{q:da}(h:kF q):kF (kr r q).1:=by
 unfold kr;split
 ·next e=>exact QU (q:=⟨q.d,2,q.pre,q.bS,q.q,q.cE⟩) ⟨h.f',h.int⟩ e.1 e.2
 ·repeat' (first|exact DV _ _|split)
theorem ak2{r:Int}{q:da}(h:kF q):kF (jn r q).1:=by
 unfold jn;split
 ·exact DV _ _
 ·next e=>
  split
  ·split<;>exact DV _ _
  ·split
   ·exact h
   ·split
    ·exact QU (q:=⟨q.d,5,q.pre,q.bS,q.q,q.cE⟩) ⟨h.f',h.int⟩ M cx
    ·split
     ·exact⟨h.f',h.int⟩
     ·unfold uU
      split
      ·split<;>exact⟨h.f',h.int⟩
      ·exact⟨h.f',h.int⟩
theorem ML{r:Int}{q:da}(h:kF q):kF (fh r q).1:=by
 unfold fh
 repeat' (first|exact DV _ _|exact h|exact ahh h|split)
 unfold uq
 repeat' (first|exact alO h|exact ak2 h|split)
 unfold uY;split<;>exact h
theorem awg{r:Int}{q:da}(h:kF q):kF (l6 r q).1:=by
 unfold l6;split
 ·exact ML (ML h)
 ·exact ML h
section
variable{w w':World}{b:Nat}{s:iF}{lo:Nat}{p:ao}{n c:Nat}{xs:List my}
theorem oE.ax{F:Nat->Prop}(h:oE w lo p n c xs)(hk:U F w w')(bc:∀i,F i->i<lo):oE w' lo p n c xs:=
 ⟨h.row.ax hk λa ha e=>by have:=(h.row.lt a ha).2.1;have:=bc _ e;omega,λx hx=>(h.fw x hx).ax hk λa ha e=>by have:=((h.fw x hx).lt a ha).2.1;have:=bc _ e;omega,h.off⟩
theorem oE.low{aev:Nat}(h:oE w lo p n c xs)(hB:aev<=lo):oE w aev p n c xs:=⟨h.row.low hB,λx hx=>(h.fw x hx).low hB,h.off⟩
theorem gl.ax{F:Nat->Prop}{w0:World}{l:List fH}{v:Value}(h:gl w0 l v w)(hk:U F w w')(bc:∀i,F i->i<w0.heap.size):gl w0 l v w':=by
 obtain⟨p,c,xs,e1,e2,ha⟩:=h;exact⟨p,c,xs,e1,e2,ha.ax hk bc⟩
theorem gl.base{w0 w1:World}{l:List fH}{v:Value}(h:gl w1 l v w)(hs:w0.heap.size<=w1.heap.size):gl w0 l v w:=by
 obtain⟨p,c,xs,e1,e2,ha⟩:=h;exact⟨p,c,xs,e1,e2,ha.low hs⟩
theorem Zv(xs:List my):(n9 xs).length=xs.length*6:=by
 induction xs with
 |nil=>rfl
 |cons x xs ih=>
  show(x.ac.T.toList++n9 xs).length=_;rw[gh,ih];show 6+xs.length*6=(xs.length+1)*6;omega
theorem Zw(xs:List my):∀u∈n9 xs,u.oneCell'=true:=by
 intro u hu;obtain⟨x,_,hx⟩:=List.mem_flatMap.1 hu;simp only[my.ac,e7,ns,nt] at hx;rcases hx with rfl|rfl|rfl|rfl|rfl|rfl<;>rfl
theorem oE.cZ{w1:World}{MJ:Nat}{cA p':ao}{m c2 c':Nat}{ys:List my}(h:oE w lo p n c xs)(h2:oE w MJ cA m c2 ys)(hlt:∀a,p=some a->a.block<MJ)(hl:lo<=MJ)(fa:lo<=w.heap.size)
  (hg:gk w [] p n c G.fO 6 (n+m) (n9 xs++n9 ys) w1 p' c'):oE w1 lo p' (n+m) c' (xs++ys):=by
 have hk:U (dk p) w w1:=hg.ax λ_ a ha=>⟨a,ha,rfl⟩
 have qu:∀y∈ys,∀a,y.aB=some a->a.block<w.heap.size/\MJ<=a.block:=λy hy a ha=>⟨((h2.fw y hy).lt a ha).1,((h2.fw y hy).lt a ha).2.1⟩
 refine⟨?_,λx hx=>?_,λi ⟨a,ha,e⟩ x hx ⟨a2,iu,e2⟩=>?_⟩
 ·have:=hg.own (B:=lo) fa λa ha=>(h.row.lt a ha).2.1
  show bF _ _ _ _ _ _ _ (n9 (xs++ys));rw[n9,List.flatMap_append];exact this
 ·rcases gi.1 hx with hx|hx
  ·exact(h.fw x hx).ax hk λa ha e=>h.off _ e x hx ⟨a,ha,rfl⟩
  ·exact((h2.fw x hx).low hl).ax hk λa ha ⟨dd,oe,e1⟩=>by have:=hlt dd oe;have:=(qu x hx a ha).2;omega
 ·have Ss:a2.block<w.heap.size:=by
   rcases gi.1 hx with hx|hx
   ·exact((h.fw x hx).lt a2 iu).1
   ·exact(qu x hx a2 iu).1
  rcases hg.j6 a ha with⟨dd,oe,e1,_⟩|u
  ·rcases gi.1 hx with hx|hx
   ·exact h.off i ⟨dd,oe,by omega⟩ x hx ⟨a2,iu,e2⟩
   ·have:=hlt dd oe
    have:=(qu x hx a2 iu).2;omega
  ·omega
theorem afS(aj:Laid w)(h:eh w b s)(hq:kF s.bz):bI Tryz.prog X.CU #[.pointer (some ⟨b,0,none⟩), .int .i32 27] w (λi=>i=b) (λv w'=>∃p c xs s',v= .slice p (fh 27 s.bz).2.length c/\xs.map my.q=(fh 27 s.bz).2/\oE w' w.heap.size p (fh 27 s.bz).2.length c xs/\s'.bz=(fh 27 s.bz).1/\eh w' b s'/\∀i,rX b s' i->(rX b s i∨w.heap.size<=i)/\¬dk p i):=by
 have hY:=aj.size;have jG:b<w.heap.size:=h.aF.lt;have tt:∀{V:World},U bg w V->At V ⟨b,0,none⟩ 4 [.int .i64 s.cO]:=λhk=>(h.O hk).at_ 4 rfl
 refine WZ _ 27 λw1 hb1=>(xF (r:=27)).aH (Laid.below hb1 aj) λad aI hU=>⟨_,rfl,aI.O,λe=>absurd e du,λ_=>?_⟩
 have aK:=(U.au hb1).trans aI;refine⟨λ_=>False,⟨λe=>?_,λe=>(e rfl).elim⟩,λbw _ bk=>bk.elim⟩;refine⟨λp n c V=>U bg w V/\gl w (fh 27 s.bz).2 (.slice p n c) V,⟨_,tt aK,λiW=>?_,λiW ahP LK=>⟨aK.trans (U.au LK),?_⟩⟩,?_⟩
 ·refine⟨_,_,_,(h.O aK).mU,oL s.cE,λaAT ab5=>⟨⟨by simp[oL],λa ha=>?_⟩,λe2=>Row.wL h.f'.row e2,λaDU n hl aDV ab6=>?_⟩⟩
  ·rw[KG (l:=s.cE) hq.f']
   exact((h.O aK).f'.below ab5).row.eI a ha
  ·have ad3:=aK.trans (U.au ab5)
   have ao7:=ad3.size;refine⟨(ad3.trans (hl.ax rfl)).trans (U.au ab6),?_⟩;rw[fh,aA e,aA (show s.bz.cO=7 from iW)];exact gl.lit (b:=b) (x:=⟨5,0,0,[],[],oL s.cE⟩) rfl ao7 hl ((U.au ab6).mono λ_ e=>e.elim) M
 ·rw[fh,aA e,ag (show ¬s.bz.cO=7 from iW)]
  exact gl.nil _ _
 ·rintro p n c ahN aCj ⟨Mz,p',c',xs,ah,hx,ha⟩ aDS RU
  injection ah with e1 e2 e3
  subst e1 e3;have ad2:=Mz.trans (U.au RU);have aC5:=ad2.size;have aC4:=RU.size;refine(afW (h.O ad2)).aH λv aDT acx ⟨ah,s',jo,h',bc⟩=>⟨_,_,_,dx Ending.returned ah,acx.kept (λi hi _=>hi) (λi _ _ hm=>by cases hm),λw' hb _=>?_⟩
  refine⟨p,c,xs,s',by rw[e2],hx,((ha.ax (U.au RU) λ_ e=>e.elim).ax acx λi e=>by omega).ax (U.au hb) λ_ e=>e.elim,?_,h'.below hb,λi hi=>⟨(bc i hi).imp id λu=>by omega,λ⟨a,fP,e⟩=>?_⟩⟩
  ·rw[jo,fh,aA e]
  ·have q:=ha.row.lt a fP
   rcases bc i hi with u|u
   ·have:=h.lt u
    omega
   ·omega
theorem afT{r:Int}(aj:Laid w)(h:eh w b s)(hq:kF s.bz)(hr:¬(128<=r/\r<=159)):bI Tryz.prog X.CU #[.pointer (some ⟨b,0,none⟩), .int .i32 r] w (λi=>i=b) (λv w'=>gl w (fh r s.bz).2 v w'/\ja w b s (fh r s.bz).1 w'):=by
 by_cases e:r=27
 ·subst e
  exact(afS aj h hq).mono (λ_ e=>e) λv w' _ ⟨p,c,xs,s',e1,e2,e3,e4,eu,gq⟩=>⟨⟨p,c,xs,e1,e2,e3⟩,s',e4,eu,λi hi=>(gq i hi).1⟩
 have hY:=aj.size;have jG:b<w.heap.size:=h.aF.lt;have tt:∀{V:World},U bg w V->At V ⟨b,0,none⟩ 4 [.int .i64 s.cO]:=λhk=>(h.O hk).at_ 4 rfl
 have vo:∀{V:World},U bg w V->fh r s.bz=(s.bz,[])->Sy.aa w (λi=>i=b) V (λv w'=>gl w (fh r s.bz).2 v w'/\ja w b s (fh r s.bz).1 w') (.slice none 0 0):=λhk e w' hb _=>by
  rw[e];exact⟨gl.nil _ _,ja.same ((h.O hk).below hb)⟩
 have cw:∀{V gb:World} {n:Nat} {k:Int},U bg w V->fh r s.bz=(s.bz,[y8 k r])->cX V [] G.fO [.int .i64 k, .int .i32 r, .int .i32 0, .string ⟨[].toArray⟩, .slice none 0 0, .string ⟨[].toArray⟩] gb n->Sy.aa w (λi=>i=b) gb (λv w'=>gl w (fh r s.bz).2 v w'/\ja w b s (fh r s.bz).1 w') (.slice (some ⟨n,0,none⟩) 1 1):=by
  intro V gb n k hk e hl w' hb _;have hs:=hk.size;rw[e];exact⟨gl.lit (b:=b) (x:=y8 k r) rfl hs hl ((U.au hb).mono λ_ e=>e.elim) M,ja.same ((h.O (hk.trans (hl.ax rfl))).below hb)⟩
 have call:∀{f:FuncId} {V gb:World} {oJ:Array Value} {cO:da×List fH},U bg w V->fh r s.bz=cO->Below V.heap.size V gb->(∀{V:World},Laid V->eh V b s->bI Tryz.prog f oJ V (λi=>i=b) (λv w'=>gl V cO.2 v w'/\ja V b s cO.1 w'))->
   dH Tryz.prog f oJ gb (λe1 ad=>∃p:ao,∃n c:Nat,e1= .returned (.slice p n c)/\(eC w.heap.size (λi=>i=b) [] gb ad/\Sy.aa w (λi=>i=b) ad (λv w'=>gl w (fh r s.bz).2 v w'/\ja w b s (fh r s.bz).1 w') (.slice p n c))):=by
  intro f V gb oJ cO hk e hb1 hg;have a8:=hk.trans (U.au hb1);have hs1:=a8.size;refine(hg (Laid.O a8 aj) (h.O a8)).aH λv ad aI ⟨hn,hm⟩=>?_
  have gA:=hn;obtain⟨p,c,xs,rfl,_⟩:=gA;refine⟨_,_,_,rfl,aI.kept (λi hi _=>hi) (λi _ _ hm=>by cases hm),λw' hb _=>?_⟩;rw[e];exact⟨(hn.base hs1).ax (U.au hb) λ_ e=>e.elim,(hm.base hs1).below hb⟩
 refine WZ _ r λw1 hb1=>(xF (r:=r)).aH (Laid.below hb1 aj) λad aI hU=>⟨_,rfl,aI.O,λe=>absurd (show 128<=r/\r<=159 by simpa using e) hr,λ_=>?_⟩
 have aK:=(U.au hb1).trans aI;refine⟨λV=>U bg w V/\fh r s.bz=uq r s.bz,⟨λu=>absurd u e,λ_=>?_⟩,?_⟩
 ·refine⟨λx V=>U bg w V/\x=decide (r=24∨r=26),⟨λf V hb=>⟨λ_=>⟨aK.trans (U.au hb),by simp[f]⟩,λg=>absurd f g⟩,λf V hb=>⟨λg=>⟨aK.trans (U.au hb),by simp[g]⟩,λg=>⟨aK.trans (U.au hb),by simp[f,g]⟩⟩⟩,?_⟩
  rintro x rQ aCi ⟨tU,hx⟩;refine⟨λf ahL n hl aDP ab4=>?_,λf=>?_⟩
  ·have qf:r=24∨r=26:=by rw[hx] at f;exact lu f
   have ad1:=(tU.trans (hl.ax rfl)).trans (U.au ab4);have ao5:=tU.size;have ao6:=ad1.size;refine(E7 (h.O ad1)).aH λv aDQ acw ⟨ah,hm⟩=>⟨_,_,_,dx Ending.returned ah,acw.kept (λi hi _=>hi) (λi _ _ hm=>by cases hm),λw' hb _=>?_⟩
   rw[fh,ag e,aA qf];exact⟨gl.lit (b:=b) (x:=y8 2 r) rfl ao5 hl ((((U.au ab4).mono λ_ e=>e.elim).trans acw).trans ((U.au hb).mono λ_ e=>e.elim)) M,(hm.base ao6).below hb⟩
  ·have qf:¬(r=24∨r=26):=by rw[hx] at f;exact mx f
   refine⟨_,tt tU,λiW Xb Hn=>call tU (by rw[fh,ag e,ag qf,aA (show s.bz.cO=7 from iW)]) Hn λcY hP=>atj cY hP hq.ok,λiW=>⟨_,tt tU,λuV=>vo tU (by rw[fh,ag e,ag qf,ag (show ¬s.bz.cO=7 from iW),aA (show s.bz.cO=8 from uV)]),λuV=>?_⟩⟩;have base:fh r s.bz=if r=127/\s.bz.cO≠0 then(s.bz,[]) else if 0<=r/\r<32 then(s.bz,[y8 2 r]) else uq r s.bz:=by rw[fh,ag e,ag qf,ag (show ¬s.bz.cO=7 from iW),ag (show ¬s.bz.cO=8 from uV)]
   refine⟨λg=>⟨_,tt tU,λe0=>vo tU (by rw[base,aA ⟨g,e0⟩]),λe0=>⟨λg1=>⟨λg2=>by omega,λg2 V hb=>⟨tU.trans (U.au hb),by rw[base,ag (λu=>u.2 e0),ag M]⟩⟩,λg1=>by omega⟩⟩,
    λg=>⟨λg1=>⟨λg2 W_ n hl=>cw tU (by rw[base,ag (λu=>g u.1),aA ⟨g1,g2⟩]) hl,λg2 V hb=>⟨tU.trans (U.au hb),by rw[base,ag (λu=>g u.1),ag M]⟩⟩,λg1 V hb=>⟨tU.trans (U.au hb),by rw[base,ag (λu=>g u.1),ag M]⟩⟩⟩
 ·rintro bw _ ⟨k3,ht⟩
  refine⟨λV=>U bg w V/\fh r s.bz=uY r s.bz,⟨_,tt k3,λx V=>U bg w V/\x=decide (s.cO=1∨s.cO=2),⟨λg V hb=>⟨λ_=>⟨k3.trans (U.au hb),by simp[g]⟩,λu=>absurd g u⟩,λg V hb=>⟨λu=>⟨k3.trans (U.au hb),by simp[u]⟩,λu=>⟨k3.trans (U.au hb),by simp[g,u]⟩⟩⟩,?_⟩,?_⟩
  ·rintro x hC _ ⟨jd,hx⟩
   refine⟨λg ln oS=>call jd (by rw[ht,uq,aA (show s.bz.cO=1∨s.bz.cO=2 from by rw[hx] at g;exact lu g)]) oS λcY hP=>ati cY hP hq.int,λg=>?_⟩;have aU:¬(s.bz.cO=1∨s.bz.cO=2):=by rw[hx] at g;exact mx g
   refine⟨λx V=>U bg w V/\x=decide (s.cO=3∨s.cO=4∨s.cO=5∨s.cO=6),?_,?_⟩
   ·refine⟨λu V hb=>⟨λ_=>⟨jd.trans (U.au hb),by simp[u]⟩,λv=>absurd u v⟩,λu=>⟨λgu V hb=>⟨λ_=>⟨jd.trans (U.au hb),by simp[gu]⟩,λv=>absurd gu v⟩,λgu=>⟨λs0 V hb=>⟨λ_=>⟨jd.trans (U.au hb),by simp[s0]⟩,λv=>absurd s0 v⟩,λs0 V hb=>⟨λyR=>⟨jd.trans (U.au hb),by simp[yR]⟩,λyR=>⟨jd.trans (U.au hb),by simp[u,gu,s0,yR]⟩⟩⟩⟩⟩
   ·rintro x kl _ ⟨yf,hx⟩
    refine⟨λu k2 py=>call yf (by rw[ht,uq,ag aU,aA (show s.bz.cO=3∨s.bz.cO=4∨s.bz.cO=5∨s.bz.cO=6 from by rw[hx] at u;exact lu u)]) py λcY hP=>ath cY hP hq.int,λu V hb=>⟨yf.trans (U.au hb),?_⟩⟩;rw[ht,uq,ag aU,ag (show ¬(s.bz.cO=3∨s.bz.cO=4∨s.bz.cO=5∨s.bz.cO=6) from by rw[hx] at u;exact mx u)]
  ·rintro bD _ ⟨k4,Tg⟩
   refine⟨λg=>vo k4 (by rw[Tg,uY,aA (.inl g)]),λg bP hb5=>(Qy (r:=r)).aH (Laid.O (k4.trans (U.au hb5)) aj) λcu dK _=>⟨_,rfl,dK.O,λg2=>vo ((k4.trans (U.au hb5)).trans dK) (by rw[Tg,uY,aA (.inr g2)]),λg2 w7 n hl=>cw ((k4.trans (U.au hb5)).trans dK) (by rw[Tg,uY,ag (λu=>u.elim g (λv=>by rw[g2] at v;cases v))]) hl⟩⟩
end
theorem awm(r:Int)(q:da):(mQ r q).2.length<=1:=by
 unfold mQ
 repeat' (first|exact cL _|exact ef _|split)
theorem alN(r:Int)(q:da):(kr r q).2.length<=1:=by
 unfold kr
 repeat' (first|exact cL _|exact ef _|split)
theorem ak1(r:Int)(q:da):(jn r q).2.length<=1:=by
 unfold jn uU
 repeat' (first|exact cL _|exact ef _|split)
theorem Iz(r:Int)(q:da):(fh r q).2.length<=1:=by
 unfold fh
 repeat' (first|exact cL _|exact ef _|exact awm _ _|split)
 unfold uq
 repeat' (first|exact alN _ _|exact ak1 _ _|split)
 unfold uY;split
 ·exact ef _
 ·exact cL _
theorem ahc(r:Int)(q:da):(l6 r q).2.length<=2:=by
 unfold l6;split
 ·have h1:=Iz 27 q
  have h2:=Iz (r-64) (fh 27 q).1;show((fh 27 q).2++(fh (r-64) (fh 27 q).1).2).length<=2;rw[gh];omega
 ·exact XV (Iz _ _)
section
variable{w w':World}{b:Nat}{s:iF}
theorem atf{r:Int}(aj:Laid w)(h:eh w b s)(hq:kF s.bz):bI Tryz.prog X.CU #[.pointer (some ⟨b,0,none⟩), .int .i32 r] w (λi=>i=b) (λv w'=>gl w (l6 r s.bz).2 v w'/\ja w b s (l6 r s.bz).1 w'):=by
 by_cases hr:128<=r/\r<=159
 ·have hY:=aj.size
  have jG:b<w.heap.size:=h.aF.lt;have bc:∀i,(λi=>i=b) i->Y.dZ<=i:=λi e=>by have:=h.lo;omega
  refine WZ _ r λw1 hb1=>(xF (r:=r)).aH (Laid.below hb1 aj) λad aI hU=>⟨_,rfl,aI.O,λ_ bw bp=>?_,λe=>absurd hr (by intro u;simp at e;omega)⟩
  have k3:=((U.au hb1).trans aI).trans (U.au bp);have tO:=k3.size;refine(afS (Laid.O k3 aj) (h.O k3) hq).aH λv bD bO ⟨cq,bY,jV,cg,ah,wF,oe,pD,aZ,LA⟩=>?_
  subst ah;have aDa:=bO.size;have kL:Laid bD:=(Laid.O k3 aj).ax bO bc;refine⟨_,_,_,rfl,bO.kept (λi hi _=>hi) (λi _ _ hm=>by cases hm),λbP hb5=>?_⟩;have hs5:=hb5.size;have hwr:IntKind.wrap .i32 (r-64)=r-64:=by rw[IntKind.wrap_i32];omega
  rw[hwr];refine(afT (r:=r-64) (Laid.below hb5 kL) (aZ.below hb5) (by rw[pD];exact ML hq) M).aH λv cu dK ⟨⟨cA,c2,Xt,ah,ady,iu⟩,oX⟩=>?_
  subst ah;have Ta:=dK.size;have bM:=Iz 27 s.bz;have bq:=Iz (r-64) cg.bz;have lf:oE cu bw.heap.size cq (fh 27 s.bz).2.length bY jV:=(oe.ax (U.au hb5) λ_ e=>e.elim).ax dK λi e=>by omega
  have apC:(n9 Xt).length=(fh (r-64) cg.bz).2.length*6:=by rw[Zv,<-ady,gw]
  refine⟨_,_,_,rfl,dK.kept (λi hi _=>hi) (λi _ _ hm=>by cases hm),_,lf.row.room (λb6 fP=>by simp) (λ_ b6 fP kP=>by have:=(lf.row.lt b6 fP).2.1;omega),n9 Xt,⟨apC,Zw _,λe'=>Row.wL iu.row.row e',λb6 fP=>iu.row.row.eI b6 fP⟩,by omega,λw7 fG fv hg w' hb _=>?_⟩;obtain⟨eJ,gq,dM,D6⟩:=oX;have am2:=lf.cZ iu (λa ha=>by have:=(oe.row.lt a ha).1;omega) M M hg;have e_:U (dk cq) cu w7:=hg.ax λ_ a ha=>⟨a,ha,rfl⟩
  have ki:l6 r s.bz=((fh (r-64) cg.bz).1,(fh 27 s.bz).2++(fh (r-64) cg.bz).2):=by rw[l6,aA hr,pD]
  rw[ki];have amD:∀i,rX b eJ i->¬dk cq i:=λi hi hp=>by
   rcases D6 i hi with u|u
   ·exact(LA i u).2 hp
   ·obtain⟨a,ha,e⟩:=hp
    have:=(oe.row.lt a ha).1;omega
  refine⟨⟨fG,fv,jV++Xt,by rw[gh],by rw[l9,wF,ady],?_⟩,eJ,gq,?_,λi hi=>?_⟩
  ·rw[gh]
   exact(am2.low M).ax (U.au hb) λ_ e=>e.elim
  ·exact(dM.ax e_ λi hi zA=>amD i zA hi).below hb
  ·rcases D6 i hi with u|u
   ·exact(LA i u).1.imp id λu=>by omega
   ·exact .inr M
 ·rw[show l6 r s.bz=fh r s.bz by rw[l6,ag hr]]
  exact afT aj h hq hr
end
def nZ(a:da×List fH)(r:Int):da×List fH:=((l6 r a.1).1,a.2++(l6 r a.1).2)
def kz(rs:List Int)(q:da):da×List fH:=rs.foldl nZ (q,[])
def avj(q:da)(d:iE):da:=⟨d,q.cO,q.pre,q.bS,q.q,q.cE⟩
end Go.Proofs.YtimbpmnbbfeogaaGreatDoor
abbrev Go.Rep.da.iN:=@Go.Proofs.YtimbpmnbbfeogaaGreatDoor.avj
namespace Go.Proofs.YtimbpmnbbfeogaaGreatDoor
open Go Go.RowKit Go.Sy Go.Rep
def gC(bs:List Int)(q:da):da×List fH:=kz (gz bs q.d).2 (q.iN (gz bs q.d).1)
theorem Xs{rs:List Int}{q:da}{j:Nat}{r:Int}(h:rs[j]? =some r):kz (rs.take (j+1)) q=nZ (kz (rs.take j) q) r:=by
 rw[ny,h];simp[kz,xf]
theorem ah4:∀(rs:List Int) (a:da×List fH),kF a.1->kF (rs.foldl nZ a).1/\(rs.foldl nZ a).2.length<=a.2.length+2*rs.length
 |[],a,h=>⟨h,cL _⟩
 |r::rs,a,h=>by
  obtain⟨h1,h2⟩:=ah4 rs (nZ a r) (awg h);refine⟨h1,?_⟩;have aw:=ahc r a.1;have aZ:(nZ a r).2.length=a.2.length+(l6 r a.1).2.length:=gh;simp only[XZ,ko];omega
theorem ah5{q:da}(h:kF q)(rs:List Int):kF (kz rs q).1/\(kz rs q).2.length<=2*rs.length:=by
 obtain⟨h1,h2⟩:=ah4 rs (q,[]) h;exact⟨h1,ek h2 aS⟩
theorem U.dT{F:Nat->Prop}{w w':World}(hk:U (λi=>F i∨w.heap.size<=i) w w'):U F w w':=⟨hk.os,hk.tape,hk.output,hk.size,λi h1 h2=>hk.heap i h1 λe=>e.elim h2 λe=>by omega⟩
section
variable{w w':World}{b:Nat}{s:iF}
theorem eh.aA3(h:eh w b s):vR w b 0 G.CT [] ([.int .i64 s.cO, .int .i32 s.pre, .string ⟨s.bS.toArray⟩]++(s.q.cells++[.slice s.tp s.cE.length s.jx])) s.d:=
 ⟨⟨h.aF,rfl,by have:=iF.C2 h.l3;simp[mz.cells,this]⟩,h.row,h.mJ⟩
theorem eh.iN{d:mz}(h:eh w b s)(hk:U (λi=>i=b) w w')(hd:vR w' b 0 G.CT [] ([.int .i64 s.cO, .int .i32 s.pre, .string ⟨s.bS.toArray⟩]++(s.q.cells++[.slice s.tp s.cE.length s.jx])) d)(hq:qS d.q):eh w' b ⟨d,s.cO,s.pre,s.bS,s.q,s.tp,s.jx,s.cE⟩:=
 ⟨hd.lp.aF,hd.row,h.f'.ax hk λa ha e=>h.f_ ⟨a,ha,e⟩,hd.off,h.f_,hq,h.l3,h.lo,h.int,h.iX⟩
theorem atg{p:ao}{n c:Nat}{bs:List Int}(aj:Laid w)(h:eh w b s)(hq:kF s.bz)(hr:Row w p n 1 (eU bs))(hl:bs.length=n)(hn:n<=1048576)(fV:∀a,p=some a->a.block≠b):
  bI Tryz.prog X.Uv #[.pointer (some ⟨b,0,none⟩), .slice p n c] w (λi=>i=b) (λv w'=>gl w (gC bs s.bz).2 v w'/\ja w b s (gC bs s.bz).1 w'):=by
 have hY:=aj.size;have jG:b<w.heap.size:=h.aF.lt;have amL:∀i,(λi=>i=b) i->Y.dZ<=i:=λi e=>by have:=h.lo;omega
 refine ayj _ p n c λw1 hb1=>?_
 have hs1:=hb1.size;have h1:=h.below hb1;refine(auG M h1.aA3 h1.BB (hr.below hb1) hl hn fV).aH λv ad aI ⟨⟨cq,aQ,ah,ho⟩,j2,Ht,LO,Ea⟩=>?_
 subst ah;have tN:=aI.size;have aK:U (λi=>i=b) w ad:=((U.au hb1).mono λ_ e=>e.elim).trans aI;have R4:qS (gz bs s.d.q).1:=(Lk h1.BB bs).1;have hrl:(gz bs s.d.q).2.length<=2*bs.length:=(Lk h1.BB bs).2;have h2:=h1.iN aI LO (by rw[Ht];exact R4);have Mt:gC bs s.bz=kz (gz bs s.d.q).2 ⟨(gz bs s.d.q).1,s.cO,s.pre,s.bS,s.q,s.cE⟩:=rfl;rw[Mt];obtain⟨rs,S8⟩:∃rs,(gz bs s.d.q).2=rs:=⟨_,rfl⟩;obtain⟨q0,qs⟩:∃q0,(⟨(gz bs s.d.q).1,s.cO,s.pre,s.bS,s.q,s.cE⟩:da)=q0:=⟨_,rfl⟩;rw[S8] at ho hrl⊢;rw[qs];have aoO:kF q0:=by subst qs;exact⟨hq.f',hq.int⟩
 have aCs:rs.length<=2097152:=by omega
 refine⟨_,_,_,rfl,aI.kept (λi hi _=>hi) (λi _ _ hm=>by cases hm),λcA cH eO i V=>∃j:Nat,i=j/\j<=rs.length/\cH=(kz (rs.take j) q0).2.length/\U (λi=>i=b) ad V/\∃xs s',xs.map my.q=(kz (rs.take j) q0).2/\oE V ad.heap.size cA cH eO xs/\s'.bz=(kz (rs.take j) q0).1/\eh V b s'/\∀i,rX b s' i->(rX b s i∨w.heap.size<=i)/\¬dk cA i,
  λ_ _ _ i=>((rs.length:Int)-i).toNat,λcR cr=>⟨0,rfl,ef _,rfl,(U.au cr).mono λ_ e=>e.elim,[],_,rfl,⟨bF.nil _ _ _ _,λx hx=>JH,λi ⟨a,ha,_⟩=>F2⟩,?_,h2.below cr,λi hi=>⟨?_,λ⟨a,ha,_⟩=>F2⟩⟩,?_⟩
 ·show da.mk j2.q s.cO s.pre s.bS s.q s.cE=q0
  rw[Ht,<-qs]
 ·rcases hi with u|u|u
  ·exact .inl (.inl u)
  ·rcases Ea i u with v|v
   ·exact .inl (.inr (.inl v))
   ·exact .inr M
  ·exact .inl (.inr (.inr u))
 rintro cA cH eO i bw hk3 ⟨j,rfl,hj,rfl,k3,xs,s',hx,ha,jo,aw,bc⟩;have tO:=k3.size;obtain⟨aoL,qq⟩:=ah5 aoO (rs.take j);rw[kC] at qq;refine⟨λhi=>?_,λqn w' hb _=>?_⟩
 ·obtain⟨a,LG⟩:=(bF.row ho).iP M
  obtain⟨y,hy⟩:∃y,rs[j]? =some y:=⟨_,el M⟩;have wB:bF w1.heap.size bw G.ft 1 cq rs.length aQ (o9 rs):=ho.ax k3 λa ha e=>by have:=(ho.lt a ha).2.1;omega
  have dB:At bw a (j*1) [.int .i32 y]:=Row.at_ wB.row LG _ (cj:=[.int .i32 y]) (by
   show _=((o9 rs).drop (j*1)).take 1;rw[oC,mw (by simp[o9];omega)];have:rs[j]=y:=by rw[el M] at hy;exact h9 hy
   simp[o9,this])
  refine⟨a,LG,⟨by omega,by omega⟩,y,by rw[jN];exact dB,λbP hb5=>?_⟩;have hs5:=hb5.size;have nc:Laid bP:=Laid.below hb5 (aj.ax (aK.trans k3) amL);refine(atf (r:=y) nc (aw.below hb5) (by rw[jo];exact aoL)).aH λv cu dK ⟨⟨fG,c3,ys,ah,Tx,nd⟩,eJ,Ev,dM,D6⟩=>?_
  subst ah;rw[jo] at Tx nd Ev⊢;have Ta:=dK.size;have hsl:=ahc y (kz (rs.take j) q0).1;have lf:oE cu ad.heap.size cA (kz (rs.take j) q0).2.length eO xs:=(ha.ax (U.au hb5) λ_ e=>e.elim).ax dK λi e=>by omega
  have apE:(n9 ys).length=(l6 y (kz (rs.take j) q0).1).2.length*6:=by rw[Zv,<-Tx,gw]
  have SY:∀a,cA=some a->a.block<bP.heap.size:=λa fP=>by have:=(ha.row.lt a fP).1;omega
  refine⟨_,_,_,rfl,dK.kept (λi hi _=>hi) (λi _ _ hm=>by cases hm),_,lf.row.room (λb6 fP=>by simp) (λ_ b6 fP kP=>by have:=(lf.row.lt b6 fP).2.1;omega),n9 ys,⟨apE,Zw _,λe'=>Row.wL nd.row.row e',λb6 fP=>nd.row.row.eI b6 fP⟩,by omega,λw7 ue ie hg=>⟨by unfold ay;omega,λcW lE=>⟨⟨j+1,by omega,by omega,?_,?_,xs++ys,eJ,?_,?_,?_,?_,λi hi=>?_⟩,by dsimp only;omega⟩⟩⟩
  ·rw[Xs hy]
   exact gh.symm
  ·have q1:U (λi=>i=b∨ad.heap.size<=i) cu w7:=hg.ax λ_ a fP=> .inr (ha.row.lt a fP).2.1
   have q2:U (λi=>i=b∨ad.heap.size<=i) ad cu:=((k3.mono λ_ e=> .inl e).trans ((U.au hb5).mono λ_ e=>e.elim)).trans (dK.mono λ_ e=> .inl e);exact U.dT ((q2.trans q1).trans ((U.au lE).mono λ_ e=>e.elim))
  ·rw[l9,hx,Tx,Xs hy]
   rfl
  ·exact(lf.cZ nd SY M M hg).ax (U.au lE) λ_ e=>e.elim
  ·rw[Ev,Xs hy]
   rfl
  ·refine(dM.ax (hg.ax (F:=dk cA) λ_ a fP=>⟨a,fP,rfl⟩) λi hp hi=>?_).below lE
   rcases D6 i hi with u|u
   ·exact(bc i u).2 hp
   ·obtain⟨b6,fP,e⟩:=hp
    have:=SY b6 fP;omega
  ·have hlt:=dM.lt hi
   refine⟨?_,λ⟨b6,fP,e⟩=>?_⟩
   ·rcases D6 i hi with u|u
    ·exact(bc i u).1
    ·exact .inr M
   ·rcases hg.j6 b6 fP with⟨a2,gm,h10,_⟩|u
    ·rcases D6 i hi with u|u
     ·exact(bc i u).2 ⟨a2,gm,by omega⟩
     ·have:=SY a2 gm
      omega
    ·omega
 ·obtain rfl:j=rs.length:=by omega
  rw[jh (cL _)] at hx ha jo⊢;exact⟨⟨cA,eO,xs,rfl,hx,(ha.low M).ax (U.au hb) λ_ e=>e.elim⟩,s',jo,aw.below hb,λi hi=>(bc i hi).1⟩
end
variable{w0:World}{F:Nat->Prop}{Q:Value->World->Prop}
end Go.Proofs.YtimbpmnbbfeogaaGreatDoor
namespace Go.Proofs.YtimbpmnbbfeogaaGreatDoor
open Go Go.RowKit Go.Sy Go.Rep
def w2(m:Md)(k:Nat)(b:Bool):Md:=match k with
 |0=>⟨b,m.fy,m.jL,m.qN,m.gF,m.qB,m.qL,m.ptr,m.gP⟩
 |1=>⟨m.jR,b,m.jL,m.qN,m.gF,m.qB,m.qL,m.ptr,m.gP⟩
 |2=>⟨m.jR,m.fy,b,m.qN,m.gF,m.qB,m.qL,m.ptr,m.gP⟩
 |3=>⟨m.jR,m.fy,m.jL,b,m.gF,m.qB,m.qL,m.ptr,m.gP⟩
 |4=>⟨m.jR,m.fy,m.jL,m.qN,b,m.qB,m.qL,m.ptr,m.gP⟩
 |5=>⟨m.jR,m.fy,m.jL,m.qN,m.gF,b,m.qL,m.ptr,m.gP⟩
 |_=>⟨m.jR,m.fy,m.jL,m.qN,m.gF,m.qB,b,m.ptr,m.gP⟩
def DZ(m:Md)(k:Nat):Bool:=match k with
 |0=>m.jR
 |1=>m.fy
 |2=>m.jL
 |3=>m.qN
 |4=>m.gF
 |5=>m.qB
 |_=>m.qL
def Ar(m:Md)(k:Nat)(n:Int):Md:=if k=7 then⟨m.jR,m.fy,m.jL,m.qN,m.gF,m.qB,m.qL,n,m.gP⟩ else⟨m.jR,m.fy,m.jL,m.qN,m.gF,m.qB,m.qL,m.ptr,n⟩
def xS(m:Md)(k:Nat):Int:=if k=7 then m.ptr else m.gP
def lT(m:Md)(pre n:Int)(on:Bool):Md×Bool:=
 if kU pre n≠9 then(w2 m (kU pre n) on,true) else if gG pre n=9 then(m,false) else if on=true then(Ar m (gG pre n) n,true)
 else if xS m (gG pre n)=n then(Ar m (gG pre n) 0,true) else(m,true)
def zp(m:Md)(pre n:Int):Int:=
 if kU pre n=9/\gG pre n=9 then 0 else if(kU pre n≠9/\DZ m (kU pre n)=true)∨(gG pre n≠9/\xS m (gG pre n)=n) then 1 else 2
theorem afp(pre n:Int):kU pre n<=6∨kU pre n=9:=by unfold kU;repeat' (first|omega|split)
theorem QL(pre n:Int):gG pre n=7∨gG pre n=8∨gG pre n=9:=by unfold gG;repeat' (first|omega|split)
theorem P4(b k:Nat):(⟨b,0,none⟩:Addr).add k=⟨b,k,none⟩:=by
 unfold Addr.add;split
 ·next e=>rw[e]
 ·simp
section
variable{w w':World}{b:Nat}{m:Md}
theorem avK{k:Nat}{x:Bool}(hk:k<=6):m.T.toList.take k++([Value.bool x]++m.T.toList.drop (k+1))=(w2 m k x).T.toList:=by
 have:k=0∨k=1∨k=2∨k=3∨k=4∨k=5∨k=6:=by omega
 rcases this with rfl|rfl|rfl|rfl|rfl|rfl|rfl<;>rfl
theorem avO{k:Nat}{x:Int}(hk:k=7∨k=8):m.T.toList.take k++([Value.int .i64 x]++m.T.toList.drop (k+1))=(Ar m k x).T.toList:=by
 rcases hk with rfl|rfl<;>rfl
theorem amm{k:Nat}(h:Whole w b G.h_ m.T.toList)(hk:k<=6):At w ⟨b,k,none⟩ 0 [.bool (DZ m k)]:=by
 have h1:=h.at_ (show 9<=maxLen by decide)
 have h2:=h1.sub k (cj:=[.bool (DZ m k)]) (by
  have:k=0∨k=1∨k=2∨k=3∨k=4∨k=5∨k=6:=by omega
  rcases this with rfl|rfl|rfl|rfl|rfl|rfl|rfl<;>rfl)
 rw[iR] at h2;exact Go.Proofs.YtimbpmnbbfeogaaGreatDoor.At.base (k:=k) (o:=0) h2
theorem abt{k:Nat}(h:Whole w b G.h_ m.T.toList)(hk:k=7∨k=8):At w ⟨b,k,none⟩ 0 [.int .i64 (xS m k)]:=by
 have h1:=h.at_ (show 9<=maxLen by decide);have h2:=h1.sub k (cj:=[.int .i64 (xS m k)]) (by rcases hk with rfl|rfl<;>rfl);rw[iR] at h2;exact Go.Proofs.YtimbpmnbbfeogaaGreatDoor.At.base (k:=k) (o:=0) h2
theorem atb{pre n:Int}{on:Bool}(aj:Laid w)(h:Whole w b G.h_ m.T.toList)(hb:Y.dZ<=b):bI Tryz.prog X.MR #[.pointer (some ⟨b,0,none⟩), .int .i32 pre, .int .i64 n, .bool on] w (λi=>i=b) (λv w'=>v= .bool (lT m pre n on).2/\Whole w' b G.h_ (lT m pre n on).1.T.toList):=by
 have dJ:cp w.heap.size (λi=>i=b) [] b:=⟨by simp,λ_=>rfl⟩;have ch:∀{V:World} {k:Nat},Whole V b G.h_ m.T.toList->k<=8->ct V ⟨b,k,none⟩ 0 1:=λhw hk=>(hw.ch (o:=_+0) (m:=1) (by show _+0+1<=9;omega)).base
 refine ahy _ pre n on λw1 hb1=>Z5.aH (Laid.below hb1 aj) λad aI hU=>⟨_,rfl,aI.O,?_⟩
 have aK:=(U.au hb1).trans aI;have h2:=h.ax aK λe=>e
 have hp:=afp pre n;refine⟨λe=>?_,λe bw bp=>Z4.aH (Laid.below bp hU) λbD bO kL=>⟨_,rfl,bO.O,?_⟩⟩
 ·by_cases gm:kU pre n=9
  ·exact absurd (by rw[o6,aA gm]) e
  ·refine⟨⟨b,kU pre n,none⟩,by rw[o6,ag gm,P4],⟨ch h2 M,dJ⟩,λhC H4 w' hb _=>?_⟩
   have:=h2.put H4.base (by show kU pre n+0+1<=9;omega);rw[AW] at this;have hq:=avK (m:=m) (k:=kU pre n) (x:=on) M;rw[lT,aA gm];exact⟨rfl,by rw[<-hq];exact this.ax (U.au hb) λe=>e⟩
 ·have gm:kU pre n=9:=by
   by_cases gm:kU pre n=9
   ·exact gm
   ·rw[o6,ag gm] at e
    cases e
  have aZ:=(h2.ax (U.au bp) λe=>e).ax bO λe=>e
  have hc:=QL pre n;have base:lT m pre n on=if gG pre n=9 then(m,false) else if on=true then(Ar m (gG pre n) n,true) else if xS m (gG pre n)=n then(Ar m (gG pre n) 0,true) else(m,true):=by rw[lT,ag (λu=>u gm)]
  refine⟨λe2 w' hb _=>?_,λe2=>?_⟩
  ·have gT:gG pre n=9:=by
    by_cases gT:gG pre n=9
    ·exact gT
    ·rw[o6,ag gT] at e2
     cases e2
   rw[base,aA gT];exact⟨rfl,aZ.ax (U.au hb) λe=>e⟩
  ·by_cases gT:gG pre n=9
   ·exact absurd (by rw[o6,aA gT]) e2
   ·have ab9:gG pre n=7∨gG pre n=8:=by omega
    have mi:o6 ⟨b,0,none⟩ (gG pre n)=some ⟨b,gG pre n,none⟩:=by rw[o6,ag gT,P4]
    have put:∀{x:Int} {V V':World},bH bD [] ⟨b,gG pre n,none⟩ 0 [.int .i64 x] V->Below V.heap.size V V'->Whole V' b G.h_ (Ar m (gG pre n) x).T.toList:=by
     intro x V V' hp hb;have:=aZ.put hp.base (by show gG pre n+0+1<=9;omega);rw[AW] at this;have hq:=avO (m:=m) (k:=gG pre n) (x:=x) ab9;rw[<-hq];exact this.ax (U.au hb) λe=>e
    refine⟨λe3=>⟨_,mi,⟨ch aZ M,dJ⟩,λcW sz w' hb _=>?_⟩,λe3=>⟨_,mi,_,abt aZ ab9,λe4=>⟨_,mi,⟨ch aZ M,dJ⟩,λcu ot w' hb _=>?_⟩,λe4 w' hb _=>?_⟩⟩
    ·rw[base,ag gT,aA e3]
     exact⟨rfl,put sz hb⟩
    ·rw[base,ag gT,ag (by rw[e3];decide),aA e4]
     exact⟨rfl,put ot hb⟩
    ·rw[base,ag gT,ag (by rw[e3];decide),ag e4]
     exact⟨rfl,aZ.ax (U.au hb) λe=>e⟩
theorem aj2{pre n:Int}{on:Bool}(hm:kT m=true):Pure X.T_ #[.agg m.T, .int .i32 pre, .int .i64 n, .bool on] (if(lT m pre n on).2=true then .tuple #[.agg (lT m pre n on).1.T, .int .i64 0] else .tuple #[.agg #[.bool false, .bool false, .bool false, .bool false, .bool false, .bool false, .bool false, .int .i64 0, .int .i64 0], .int .i64 9]):=by
 intro w aj;have hY:=aj.size;refine axX m pre n on λar ec aQ gA w1 hb1 fb=>Z3.aH (Laid.below hb1 aj) λad aI hU=>⟨_,rfl,aI.O,λe=>OS,λ_ bw bp q1 q2 oq=>?_⟩
 have hs1:=hb1.size;have tO:=bp.size;have tN:=aI.size;refine(atb (Laid.below bp hU) q1.2 M).aH λv bD bO ⟨ah,hw⟩=>⟨_,dx Ending.returned ah,bO.kept (λi hi hlt=>by omega) (λi hi _ hm=>?_),_,hw,λe=>bn.of λ_=>by rw[ag AQ],λe=>bn.of λ_=>by rw[aA e]⟩
 rw[gg] at hm;rw[xi] at oq;exact oq.1 (by rw[<-hi,hm];simp)
theorem aj1{pre n:Int}(hm:kT m=true):Pure X.MO #[.agg m.T, .int .i32 pre, .int .i64 n] (.tuple #[.int .i64 (zp m pre n), .int .i64 0]):=by
 intro w aj;refine ahx m pre n λar ec w1 hb1 fb=>Z3.aH (Laid.below hb1 aj) λad aI hU=>⟨_,rfl,aI.O,λe=>OS,λ_ bw bp q1=>?_⟩
 refine Z5.aH (Laid.below bp hU) λbD bO kL=>⟨_,rfl,bO.O,m,q1.2.ax bO (λe=>e),λbP hb5 eB=>?_⟩
 refine Z4.aH (Laid.below hb5 kL) λcu dK sl=>⟨_,rfl,dK.O,m,eB.2.ax dK (λe=>e),?_⟩
 have dM:=eB.2.ax dK λe=>e
 have hp:=afp pre n;have hc:=QL pre n;have jb:¬kU pre n=9->At cu ⟨ar,kU pre n,none⟩ 0 [.bool (DZ m (kU pre n))]:=λe=>amm dM M
 have q4:¬gG pre n=9->At cu ⟨ar,gG pre n,none⟩ 0 [.int .i64 (xS m (gG pre n))]:=λe=>abt dM M
 have yx:∀{k:Nat},k=9->o6 ⟨ar,0,none⟩ k=none:=λe=>by rw[o6,aA e]
 have cq:∀{k:Nat},¬k=9->o6 ⟨ar,0,none⟩ k=some ⟨ar,k,none⟩:=λe=>by rw[o6,ag e,P4]
 unfold zp
 by_cases h1:kU pre n=9<;>by_cases h2:gG pre n=9
 ·rw[yx h1,yx h2,aA ⟨h1,h2⟩]
  exact⟨λ_=>⟨λ_=>aa.of λ_=>rfl,λe=>absurd rfl e⟩,λe=>absurd rfl e⟩
 ·rw[yx h1,cq h2,ag (λu=>h2 u.2)]
  have q:∀x,x=xS m (gG pre n)->((x=n->Sy.aa w bg cu (λu _=>u=Value.tuple #[.int .i64 (if(kU pre n≠9/\DZ m (kU pre n)=true)∨(gG pre n≠9/\xS m (gG pre n)=n) then 1 else 2), .int .i64 0]) (.tuple #[.int .i64 1, .int .i64 0]))/\(x≠n->Sy.aa w bg cu (λu _=>u=Value.tuple #[.int .i64 (if(kU pre n≠9/\DZ m (kU pre n)=true)∨(gG pre n≠9/\xS m (gG pre n)=n) then 1 else 2), .int .i64 0]) (.tuple #[.int .i64 2, .int .i64 0]))):=λx hx=>by
   subst hx;exact⟨λe=>aa.of λ_=>by rw[aA (.inr ⟨h2,e⟩)],λe=>aa.of λ_=>by rw[ag (λu=>u.elim (λv=>v.1 h1) λv=>e v.2)]⟩
  exact⟨λ_=>⟨λe=>mR,λ_=>⟨λe=>absurd rfl e,λ_=>⟨λ_=>⟨_,rfl,_,q4 h2,q _ rfl⟩,λe=>mR⟩⟩⟩,λe=>absurd rfl e⟩
 ·rw[cq h1,yx h2,ag (λu=>h1 u.1)]
  exact⟨λe=>mR,λ_=>⟨λ_=>⟨_,rfl,_,jb h1,λe=>⟨λ_=>aa.of λ_=>by rw[aA (.inl ⟨h1,e⟩)],λe2=>(by rw[e] at e2;cases e2)⟩,λe=>⟨λe2=>absurd rfl e2,λ_=>aa.of λ_=>by rw[ag (λu=>u.elim (λv=>by rw[e] at v;cases v.2) λv=>v.1 h2)]⟩⟩,λe=>mR⟩⟩
 ·rw[cq h1,cq h2,ag (λu=>h1 u.1)]
  exact⟨λe=>mR,λ_=>⟨λ_=>⟨_,rfl,_,jb h1,λe=>⟨λ_=>aa.of λ_=>by rw[aA (.inl ⟨h1,e⟩)],λe2=>(by rw[e] at e2;cases e2)⟩,λe=>⟨λ_=>⟨_,rfl,_,q4 h2,λe2=>aa.of λ_=>by rw[aA (.inr ⟨h2,e2⟩)],λe2=>aa.of λ_=>by rw[ag (λu=>u.elim (λv=>by rw[e] at v;cases v.2) λv=>e2 v.2)]⟩,λe2=>(by cases e2)⟩⟩,λe=>mR⟩⟩
end
variable{w0:World}{F:Nat->Prop}{Q:Value->World->Prop}
theorem ayK(pre:Int)(h:a' pre 0 (aa w0 F w0 Q (.tuple #[.string ⟨[27,91,63,54,50,59,50,50,99].toArray⟩,D 0])) (a' pre 62 (aa w0 F w0 Q (.tuple #[.string ⟨[27,91,62,49,59,49,48,59,48,99].toArray⟩,D 0])) (aa w0 F w0 Q (.tuple #[.string ⟨[].toArray⟩,D 9])))):aO X.NN #[.int .i32 pre] w0 F Q:=bh [.int .i32 pre] h
theorem ayM(n:Int)(a:dy)(c:Cu)(h:aG w0 λb=>aG w0 λd=>a' n 5 (aa w0 F w0 Q (.tuple #[.string ⟨[27,91,48,110].toArray⟩,D 0])) (a' n 6 (cC w0 w0 [(b,G.fI),(d,G.bR)] X.Ue #[.agg a.T, .agg c.T] λe f g=>∃i j k:Int,bW f (.tuple #[D i,D j,D k]) w0 F [b,d] e g ((k≠0->aa w0 F g Q (.tuple #[.string ⟨[].toArray⟩,D k]))/\(k=0->ay (i+1)/\a7 w0 F [b,d] g [(b,G.fI),(d,G.bR)] X.strconv_Itoa #[D (max 1 (i+1))] (λp:List UInt8=> .string ⟨p.toArray⟩) λo p=>(2+p.length)<9223372036854775807/\(([27,91]++p).length+1)<9223372036854775807/\ay (j+1)/\a7 w0 F [b,d] o [(b,G.fI),(d,G.bR)] X.strconv_Itoa #[D (j+1)] (λt:List UInt8=> .string ⟨t.toArray⟩) λs t=>((([27,91]++p)++[59]).length+t.length)<9223372036854775807/\(((([27,91]++p)++[59])++t).length+1)<9223372036854775807/\aa w0 F s Q (.tuple #[.string ⟨(((([27,91]++p)++[59])++t)++[82]).toArray⟩,D 0])))) (aa w0 F w0 Q (.tuple #[.string ⟨[].toArray⟩,D 9])))):aO X.U7 #[D n, .agg a.T, .agg c.T] w0 F Q:=bh [cn n, .agg (dy.bN.enc a), .agg (Cu.bN.enc c)] h
theorem ayL(m:Md)(pre n:Int)(h:aG w0 λa=>cC w0 w0 [(a,G.h_)] X.MO #[.agg m.T, .int .i32 pre,D n] λb c d=>∃e f:Int,bW c (.tuple #[D e,D f]) w0 F [a] b d ((f≠0->aa w0 F d Q (.tuple #[.string ⟨[].toArray⟩,D f]))/\(f=0->bG n 0 (aa w0 F d Q (.tuple #[.string ⟨[].toArray⟩,D 2])) (bG 9999 n (aa w0 F d Q (.tuple #[.string ⟨[].toArray⟩,D 2])) (a' pre 63 (3<9223372036854775807/\a7 w0 F [a] d [(a,G.h_)] X.strconv_Itoa #[D n] (λk:List UInt8=> .string ⟨k.toArray⟩) λj k=>(3+k.length)<9223372036854775807/\((([27,91]++[63])++k).length+1)<9223372036854775807/\a7 w0 F [a] j [(a,G.h_)] X.strconv_Itoa #[D e] (λq:List UInt8=> .string ⟨q.toArray⟩) λp q=>(((([27,91]++[63])++k)++[59]).length+q.length)<9223372036854775807/\((((([27,91]++[63])++k)++[59])++q).length+2)<9223372036854775807/\aa w0 F p Q (.tuple #[.string ⟨((((([27,91]++[63])++k)++[59])++q)++[36,121]).toArray⟩,D 0])) ((pre≠0->aa w0 F d Q (.tuple #[.string ⟨[].toArray⟩,D 2]))/\(pre=0->a7 w0 F [a] d [(a,G.h_)] X.strconv_Itoa #[D n] (λk:List UInt8=> .string ⟨k.toArray⟩) λj k=>(2+k.length)<9223372036854775807/\(([27,91]++k).length+1)<9223372036854775807/\a7 w0 F [a] j [(a,G.h_)] X.strconv_Itoa #[D e] (λq:List UInt8=> .string ⟨q.toArray⟩) λp q=>((([27,91]++k)++[59]).length+q.length)<9223372036854775807/\(((([27,91]++k)++[59])++q).length+2)<9223372036854775807/\aa w0 F p Q (.tuple #[.string ⟨(((([27,91]++k)++[59])++q)++[36,121]).toArray⟩,D 0])))))))):aO X.U6 #[.agg m.T, .int .i32 pre,D n] w0 F Q:=bh [.agg (Md.bN.enc m), .int .i32 pre,cn n] h
theorem ayJ(x:ff)(a:dy)(c:Cu)(m:Md)(h:aG w0 λb=>aG w0 λd=>aG w0 λe=>aG w0 λf=>∃g:World->Prop,a' x.kind 3 ((x.bS=[]->a' x.rune 90 (cC w0 w0 [(b,G.fO),(d,G.fI),(e,G.bR),(f,G.h_)] X.NN #[.int .i32 0] λi j k=>Pt w0 F Q j [b,d,e,f] i k) (bm w0 λi=>g i))/\(¬(x.bS=[])->bm w0 λi=>g i)) (bm w0 λi=>g i)/\∀i:World,U F w0 i->g i->(x.kind≠4->aa w0 F i Q (.tuple #[.string ⟨[].toArray⟩,D 0]))/\(x.kind=4->a7 w0 F [b,d,e,f] i [(b,G.fO),(d,G.fI),(e,G.bR),(f,G.h_)] X.uf #[.slice x.fw.p x.fw.n x.fw.c,D 0,D 0] D λl n=>∃o:World->Prop,((x.bS.length+(kk x.rune).length)<9223372036854775807/\((x.bS++(kk x.rune))=[99]->cC w0 l [(b,G.fO),(d,G.fI),(e,G.bR),(f,G.h_)] X.NN #[.int .i32 x.pre] λp q r=>∃s:List UInt8,∃t,bW q (.tuple #[.string ⟨s.toArray⟩,D t]) w0 F [b,d,e,f] p r (a' t 0 (a' (max 0 n) 0 (aa w0 F r Q (.tuple #[.string ⟨s.toArray⟩,D 0])) (bm r λu=>o u)) (bm r λu=>o u)))/\(¬((x.bS++(kk x.rune))=[99])->((x.bS++(kk x.rune))=[110]->∃p:Bool->World->Prop,a' x.pre 0 (a' (max 0 n) 5 (bm l λq=>p true q) (bm l λq=>a' (max 0 n) 6 (p true q) (p false q))) (bm l λq=>p false q)/\∀q:Bool,∀r:World,U F w0 r->p q r->dQ q (cC w0 r [(b,G.fO),(d,G.fI),(e,G.bR),(f,G.h_)] X.U7 #[D (max 0 n), .agg a.T, .agg c.T] λs t u=>Pt w0 F Q t [b,d,e,f] s u) (bm r λs=>o s))/\(¬((x.bS++(kk x.rune))=[110])->((x.bS++(kk x.rune))=[36,112]->∃p:Bool->World->Prop,a' x.pre 0 (bm l λq=>p true q) (bm l λq=>a' x.pre 63 (p true q) (p false q))/\∀q:Bool,∀r:World,U F w0 r->p q r->dQ q (cC w0 r [(b,G.fO),(d,G.fI),(e,G.bR),(f,G.h_)] X.U6 #[.agg m.T, .int .i32 x.pre,D (max 0 n)] λs t u=>Pt w0 F Q t [b,d,e,f] s u) (bm r λs=>o s))/\(¬((x.bS++(kk x.rune))=[36,112])->bm l λp=>o p))))/\∀p:World,U F w0 p->o p->aa w0 F p Q (.tuple #[.string ⟨[].toArray⟩,D 0]))):aO X.U5 #[.agg x.T, .agg a.T, .agg c.T, .agg m.T] w0 F Q:=eV [] [⟨3,[],[]⟩,⟨17,[],[]⟩,⟨13,[69],[]⟩,⟨16,[85],[]⟩] [.agg (ff.bN.enc x), .agg (dy.bN.enc a), .agg (Cu.bN.enc c), .agg (Md.bN.enc m)] h
end Go.Proofs.YtimbpmnbbfeogaaGreatDoor
namespace Go.Proofs.YtimbpmnbbfeogaaGreatDoor
open Go.Shelf
def Tryz.aqu:Go.Shelf.Ren:=⟨λ|171=>152|243=>208|246=>259|283=>296|284=>297|285=>298|286=>299|129=>326|317=>325|318=>327|319=>328|320=>329|337=>342|338=>343|n=>n,λ|3=>3|9=>9|2=>2|4=>4|171=>367|0=>0|53=>364|37=>24|5=>5|173=>370|212=>395|51=>361|20=>20|213=>396|46=>188|232=>420|233=>421|n=>n,λ|17=>8|18=>13|19=>14|n=>n⟩
theorem Tryz.aqt:Go.Proofs.LaysM.n171 Tryz.prog Tryz.aqu:=qP
open Go.RowKit Go.Sort Go.Lib in
theorem Tryz.strconv_Itoa(n:Int)(aW: -9223372036854775808<=n)(h1:n<=9223372036854775807)(w:World)(aph:Lib.TabIs Tryz.prog w "internal/strconv.uint64pow10" .u64 Lib.pow10Tab):
  Calls Tryz.prog 152 #[.int .i64 n] w λe w'=>e= .returned (.string ⟨(Lib.itoa n).toArray⟩)/\∃k os,w'=grow (w.drewN k) os:=Any.strconv_Itoa Tryz.aqt n aW h1 w aph
end Go.Proofs.YtimbpmnbbfeogaaGreatDoor
namespace Go.Proofs.YtimbpmnbbfeogaaGreatDoor
open Go Go.RowKit Go.Sy Go.Rep
structure A4(x:fH):Prop where
 a8:1<=x.kind
 aK:x.kind<=5
 int:x.bS.length<=3
 fw:∀n∈x.params,-1<=n/\n<=9999
 iX:x.params.length<=16
 f':x.cE.length<=1024
def tu(pre:Int):List UInt8×Int:=if pre=0 then([27,91,63,54,50,59,50,50,99],0) else if pre=62 then([27,91,62,49,59,49,48,59,48,99],0) else([],9)
def Dd(n:Int)(a:dy)(c:Cu):List UInt8:=
 if n=5 then[27,91,48,110] else[27,91]++Lib.itoa (max 1 ((if a.fy=true then c.row-a.aq.bf else c.row)+1))++[59]++Lib.itoa (c.ae+1)++[82]
def CG(m:Md)(pre n:Int):List UInt8:=[27,91]++(if pre=63 then[63] else[])++Lib.itoa n++[59]++Lib.itoa (zp m pre n)++[36,121]
def tl(x:fH)(a:dy)(c:Cu)(m:Md):List UInt8:=
 if x.kind=3/\x.bS=[]/\x.rune=90 then(tu 0).1 else if x.kind≠4 then[]
 else if x.bS++kk x.rune=[99] then(if(tu x.pre).2=0/\max 0 (dp x.params 0 0)=0 then(tu x.pre).1 else[])
 else if x.bS++kk x.rune=[110] then(if x.pre=0/\(max 0 (dp x.params 0 0)=5∨max 0 (dp x.params 0 0)=6) then Dd (max 0 (dp x.params 0 0)) a c else[])
 else if x.bS++kk x.rune=[36,112]/\(x.pre=0∨x.pre=63) then CG m x.pre (max 0 (dp x.params 0 0)) else[]
theorem abv{l:List Int}(h:∀n∈l,-1<=n/\n<=9999)(i d:Int)(hd: -1<=d/\d<=9999): -1<=dp l i d/\dp l i d<=9999:=by
 unfold dp;split
 ·next e=>
  have hi:i.toNat<l.length:=by omega
  rw[kb,el hi];exact h _ (vM hi)
 ·exact hd
theorem abu(m:Md)(pre n:Int):0<=zp m pre n/\zp m pre n<=2:=by
 unfold zp
 repeat' (first|omega|split)
theorem avv(r:Int):(kk r).length<=4:=by
 unfold kk Utf8.encode;simp only[]
 repeat' (first|(show List.length [_,_,_,_]<=4;simp;done)|(show List.length [_,_,_]<=4;simp;done)|(show List.length [_,_]<=4;simp;done)|(show List.length [_]<=4;simp;done)|split)
section
variable{w:World}
theorem DM{n:Int}(aW: -9223372036854775808<=n)(h1:n<=9223372036854775807):Pure X.strconv_Itoa #[.int .i64 n] (.string ⟨(Lib.itoa n).toArray⟩):=by
 intro w aj;have ht:Lib.TabIs Tryz.prog w "internal/strconv.uint64pow10" .u64 Lib.pow10Tab:=by
  obtain⟨ty,lD,e⟩:=aj.pow;unfold Lib.TabIs World.var?;have hg:Tryz.prog.globalNamed "internal/strconv.uint64pow10"=some Y.ahg:=by kernel_rfl
  rw[hg];simp only[Option.bind_some,e]
 refine BT ((Tryz.strconv_Itoa n aW h1 w ht).mono ?_);rintro e w' ⟨rfl,k,os,rfl⟩;exact⟨rfl,Lib.below_grow _ w (cL _) k os⟩
theorem Z'{pre:Int}:Pure X.NN #[.int .i32 pre] (.tuple #[.string ⟨(tu pre).1.toArray⟩, .int .i64 (tu pre).2]):=λw aj=>by
 refine ayK pre ⟨λe=>aa.of λ_=>?_,λe=>⟨λe2=>aa.of λ_=>?_,λe2=>aa.of λ_=>?_⟩⟩
 ·rw[tu,aA e]
 ·rw[tu,ag e,aA e2]
 ·rw[tu,ag e,ag e2]
theorem akb{n:Int}{a:dy}{c:Cu}(ha:a.ok)(hc:c.ok a)(hn:n=5∨n=6):Pure X.U7 #[.int .i64 n, .agg a.T, .agg c.T] (.tuple #[.string ⟨(Dd n a c).toArray⟩, .int .i64 0]):=λw aj=>by
 have rq:=hc.de;have j4:=hc.c1;have sq:=hc.bY;have mg:=hc.c2;have oe:=ha.c1;have iu:=ha.c2;have ht:=ha.t;have Tf:=ha.ur;have hb:=ha.b;refine ayM n a c λar ec aQ gA=>⟨λe=>aa.of λ_=>by rw[Dd,aA e],λe=>⟨λgq ad kN tJ=>?_,λgq=>absurd hn M⟩⟩
 obtain⟨x,hx⟩:∃x,(if a.fy=true then c.row-a.aq.bf else c.row)=x:=⟨_,rfl⟩;have aDi: -1000<=x/\x<=1000:=by rw[<-hx];split<;>omega
 refine(aj8 ha hc).aH (Laid.below kN aj) λbw hk3 pw=>⟨_,_,_,rfl,hk3.O,λe0=>absurd rfl e0,λ_=>?_⟩
 rw[hx];refine⟨by unfold ay;omega,λbD eR zH=>(DM M M).aH (Laid.below eR pw) λbP eH nc=>⟨_,rfl,eH.O,?_,?_,by unfold ay;omega,λcu ep oX=>(DM M M).aH (Laid.below ep nc) λw7 e_ nJ=>⟨_,rfl,e_.O,?_,?_,aa.of λ_=>?_⟩⟩⟩
 all_goals have bM:=Lib.itoa_length_le (max 1 (x+1)) M M
 all_goals have bq:=Lib.itoa_length_le (c.ae+1) M M
 ·omega
 ·simp only[gh,ko,List.length_nil];omega
 ·simp only[gh,ko,List.length_nil];omega
 ·simp only[gh,ko,List.length_nil];omega
 ·rw[Dd,ag e,hx]
theorem aka{m:Md}{pre n:Int}(hm:kT m=true)(hp:pre=0∨pre=63)(aW:0<=n)(h1:n<=9999):Pure X.U6 #[.agg m.T, .int .i32 pre, .int .i64 n] (.tuple #[.string ⟨(CG m pre n).toArray⟩, .int .i64 0]):=λw aj=>by
 have hg:=abu m pre n;have bM:=Lib.itoa_length_le n M M;have bq:=Lib.itoa_length_le (zp m pre n) M M;refine ayL m pre n λar ec w1 hb1 fb=>(aj1 hm).aH (Laid.below hb1 aj) λad aI hU=>⟨_,_,rfl,aI.O,λe=>absurd rfl e,λ_=>⟨λe=>by omega,λ_=>⟨λe=>by omega,λ_=>⟨λe=>⟨by omega,λcR cr dO=>?_⟩,λe=>⟨λe2=>absurd hp M,λe2 bw bp fN=>?_⟩⟩⟩⟩⟩
 ·refine(DM M M).aH (Laid.below cr hU) λbP eH nc=>⟨_,rfl,eH.O,by omega,?_,λcu ep oX=>(DM M M).aH (Laid.below ep nc) λw7 e_ nJ=>⟨_,rfl,e_.O,?_,?_,aa.of λ_=>?_⟩⟩
  ·simp only[gh,ko,List.length_nil];omega
  ·simp only[gh,ko,List.length_nil];omega
  ·simp only[gh,ko,List.length_nil];omega
  ·rw[CG,aA e]
 ·refine(DM M M).aH (Laid.below bp hU) λbP eH nc=>⟨_,rfl,eH.O,by omega,?_,λcu ep oX=>(DM M M).aH (Laid.below ep nc) λw7 e_ nJ=>⟨_,rfl,e_.O,?_,?_,aa.of λ_=>?_⟩⟩
  ·simp only[gh,ko,List.length_nil];omega
  ·simp only[gh,ko,List.length_nil];omega
  ·simp only[gh,ko,List.length_nil];omega
  ·rw[CG,ag e,nx]
theorem atA{x:my}{a:dy}{c:Cu}{m:Md}(aj:Laid w)(hx:A4 x.q)(hr:eK w x.aB x.q.params.length x.q.params)(ha:a.ok)(hc:c.ok a)(hm:kT m=true):
  di X.U5 #[.agg x.ac.T, .agg a.T, .agg c.T, .agg m.T] w (.tuple #[.string ⟨(tl x.q a c m).toArray⟩, .int .i64 0]):=by
 have aCd:=abv hx.fw 0 0 M;have aCP:=hx.int;have hrl:=avv x.q.rune;refine ayJ x.ac a c m λar ec aQ gA cH jJ eO sv=>⟨λV=>U bg w V/\¬(x.q.kind=3/\x.q.bS=[]/\x.q.rune=90),⟨λe=>⟨λe2=>⟨λe3 Jz Hl aog=>Z'.aH (Laid.below Hl aj) λOK HI _=>⟨_,_,rfl,HI.O,aa.of λ_=>by rw[tl,aA ⟨e,e2,e3⟩];rfl⟩,λe3 W9 LJ=>⟨U.au LJ,λu=>e3 u.2.2⟩⟩,λe2 uv xZ=>⟨U.au xZ,λu=>e2 u.2.1⟩⟩,λe w_ am7=>⟨U.au am7,λu=>e u.1⟩⟩,?_⟩
 rintro w1 _ ⟨a8,hn⟩;have hL1:=Laid.O a8 aj;refine⟨λe=>aa.of λ_=>by rw[tl,ag hn,aA (show x.q.kind≠4 from e)],λe ad kN tJ=>?_⟩;have base:tl x.q a c m=if x.q.bS++kk x.q.rune=[99] then(if(tu x.q.pre).2=0/\max 0 (dp x.q.params 0 0)=0 then(tu x.q.pre).1 else[])
   else if x.q.bS++kk x.q.rune=[110] then(if x.q.pre=0/\(max 0 (dp x.q.params 0 0)=5∨max 0 (dp x.q.params 0 0)=6) then Dd (max 0 (dp x.q.params 0 0)) a c else[])
   else if x.q.bS++kk x.q.rune=[36,112]/\(x.q.pre=0∨x.q.pre=63) then CG m x.q.pre (max 0 (dp x.q.params 0 0)) else[]:=by rw[tl,ag hn,ag (λu=>u (show x.q.kind=4 from e))]
 refine(Ny ((hr.O a8).below kN)).aH λbw hk3=>⟨_,rfl,hk3.O,λV=>U bg w V/\tl x.q a c m=[],⟨?_,?_⟩,?_⟩
 ·show x.q.bS.length+(kk x.q.rune).length<_
  omega
 ·have k3:=(a8.trans (U.au kN)).trans hk3
  have pw:=Laid.O k3 aj;refine⟨λe1 uu B4 Sz=>Z'.aH (Laid.below B4 pw) λs4 x6 _=>⟨_,_,rfl,x6.O,?_⟩,λe1=>⟨λe2=>?_,λe2=>⟨λe3=>?_,λe3 cu ep=>⟨k3.trans (U.au ep),by rw[base,ag e1,ag e2,ag (λu=>e3 u.1)]⟩⟩⟩⟩
  ·have yh:=(k3.trans (U.au B4)).trans x6
   exact⟨λf=>⟨λg=>aa.of λ_=>by rw[base,aA e1,aA ⟨f,g⟩],λg V hb=>⟨yh.trans (U.au hb),by rw[base,aA e1,ag (λu=>g u.2)]⟩⟩,λf V hb=>⟨yh.trans (U.au hb),by rw[base,aA e1,ag (λu=>f u.1)]⟩⟩
  ·refine⟨λy V=>U bg w V/\y=decide (x.q.pre=0/\(max 0 (dp x.q.params 0 0)=5∨max 0 (dp x.q.params 0 0)=6)),⟨λf=>⟨λg V hb=>⟨k3.trans (U.au hb),(l8 (p:=_/\_) ⟨f, .inl g⟩).symm⟩,λg V hb=>⟨λg2=>⟨k3.trans (U.au hb),(l8 (p:=_/\_) ⟨f, .inr g2⟩).symm⟩,λg2=>⟨k3.trans (U.au hb),(kp (p:=_/\_) λu=>u.2.elim g g2).symm⟩⟩⟩,λf V hb=>⟨k3.trans (U.au hb),(kp (p:=_/\_) λu=>f u.1).symm⟩⟩,?_⟩
   rintro y k2 _ ⟨ou,hy⟩;refine⟨λf nX oR Ek=>?_,λf V hb=>⟨ou.trans (U.au hb),?_⟩⟩
   ·have qf:x.q.pre=0/\(max 0 (dp x.q.params 0 0)=5∨max 0 (dp x.q.params 0 0)=6):=by rw[hy] at f;exact lu f
    exact(akb ha hc qf.2).aH (Laid.below oR (Laid.O ou aj)) λl7 oT _=>⟨_,_,rfl,oT.O,aa.of λ_=>by rw[base,ag e1,aA e2,aA qf]⟩
   ·have qf:¬(x.q.pre=0/\(max 0 (dp x.q.params 0 0)=5∨max 0 (dp x.q.params 0 0)=6)):=by rw[hy] at f;exact mx f
    rw[base,ag e1,aA e2,ag qf]
  ·refine⟨λy V=>U bg w V/\y=decide (x.q.pre=0∨x.q.pre=63),⟨λf V hb=>⟨k3.trans (U.au hb),(l8 (p:=_∨_) (.inl f)).symm⟩,λf V hb=>⟨λg=>⟨k3.trans (U.au hb),(l8 (p:=_∨_) (.inr g)).symm⟩,λg=>⟨k3.trans (U.au hb),(kp (p:=_∨_) λu=>u.elim f g).symm⟩⟩⟩,?_⟩
   rintro y w7 _ ⟨fe,hy⟩;refine⟨λf cR cr dO=>?_,λf V hb=>⟨fe.trans (U.au hb),?_⟩⟩
   ·have qf:x.q.pre=0∨x.q.pre=63:=by rw[hy] at f;exact lu f
    exact(aka hm qf M M).aH (Laid.below cr (Laid.O fe aj)) λgn jI _=>⟨_,_,rfl,jI.O,aa.of λ_=>by rw[base,ag e1,ag e2,aA ⟨e3,qf⟩]⟩
   ·have qf:¬(x.q.pre=0∨x.q.pre=63):=by rw[hy] at f;exact mx f
    rw[base,ag e1,ag e2,ag (λu=>qf u.2)]
 ·rintro bD _ ⟨k4,aZ⟩
  exact aa.of λ_=>by rw[aZ]
end
variable{w0:World}{F:Nat->Prop}{Q:Value->World->Prop}
theorem azG(s:Addr)(h:∃a:ao,At w0 s 2 [.pointer a]/\aa w0 F w0 Q (.bool (bL.val (.i_ (a=none))))):aO X.vA #[al s] w0 F Q:=bh [.aY s 0] h
theorem azE(s:Addr)(h:∃a:ao,At w0 s 2 [.pointer a]/\b9 w0 F [] w0 X.P9 #[.pointer a] .bool λd e=>pf w0 F Q e d/\(e=false->aa w0 F d Q (D 0))):aO X.wV #[al s] w0 F Q:=bh [.aY s 0] h
theorem azb(s:Addr)(h:aG w0 λa=>∃b,At w0 s 0 [D b]/\∃c,At w0 s 1 [D c]/\∃d:dz,At w0 s 27 d.T.toList/\∃e:Bool,At w0 s 19 [.bool e]/\aa w0 F w0 Q (.agg #[D b,D c,D d.bf,D d.b7, .bool e])):aO X.mN #[al s] w0 F Q:=bh [.aY s 0] h
theorem azp(s:Addr)(aP:ao)(aM ba:Nat)(h:b9 w0 F [] w0 X.wV #[al s] D λc d=>a' d 0 (bG 0 aM (∃e:ao,At c s 3 [.pointer e]/\b9 w0 F [] c X.Se #[.pointer e, .slice aP aM ba] D λi j=>∃k,At i s 72 [D k]/\ay (k+(aM:Int))/\(ct i s 72 1/\cp w0.heap.size F [] s.block)/\∀l:World,bH i [] s 72 [D (k+(aM:Int))] l->aa w0 F l Q (.tuple #[])) (aa w0 F c Q (.tuple #[]))) (aa w0 F c Q (.tuple #[]))):aO X.NZ #[al s, .slice aP aM ba] w0 F Q:=bh [.aY s 0, .cJ aP aM ba] h
theorem aza(s:Addr)(t:List UInt8)(h:∃a:List UInt8,At w0 s 71 [.string ⟨a.toArray⟩]/\ay ((a.length:Int)+(t.length:Int))/\dX ((a.length:Int)+(t.length:Int)) 4096 (∃b:List UInt8,At w0 s 71 [.string ⟨b.toArray⟩]/\(b.length+t.length)<9223372036854775807/\(ct w0 s 71 1/\cp w0.heap.size F [] s.block)/\∀c:World,bH w0 [] s 71 [.string ⟨(b++t).toArray⟩] c->aa w0 F c Q (.tuple #[])) (aa w0 F w0 Q (.tuple #[]))):aO X.VA #[al s, .string ⟨t.toArray⟩] w0 F Q:=bh [.aY s 0, .str t] h
theorem azc(s:Addr)(h:aG w0 λa=>∃b:jO,At w0 s 12 b.T.toList/\aa w0 F w0 Q (.agg #[D 0, .int .u8 0, .int .u8 0, .int .u8 0, .int .u8 0,D b.k, .int .u8 b.i, .int .u8 b.r, .int .u8 b.g, .int .u8 b.b, .int .u8 0])):aO X.qJ #[al s] w0 F Q:=bh [.aY s 0] h
theorem azm(s:Addr)(h:b9 w0 F [] w0 X.mN #[al s] qM λc d=>dt c X.MU #[.agg d.T,D 0,D 0] λe f g=>∃i:Cu,∃j,bW f (.tuple #[.agg i.T,D j]) w0 F [] e g (JZ w0 F Q g s i j)):aO X.Fq #[al s] w0 F Q:=bh [.aY s 0] h
theorem azy(s:Addr)(h:aG w0 λa=>∃b:Cu,At w0 s 4 b.T.toList/\∃c:aT,At w0 s 7 c.T.toList/\∃d:Bool,At w0 s 19 [.bool d]/\∃e:gX,At w0 s 30 e.T.toList/\cC w0 w0 [(a,G.hO)] X.Vn #[.agg b.T, .agg c.T, .bool d, .agg e.T] λf g i=>∃j:eL,∃k,bW g (.tuple #[.agg j.T,D k]) w0 F [a] f i (bn w0 F i [a] Q (.tuple #[.agg j.T,D k]))):aO X.Je #[al s] w0 F Q:=bh [.aY s 0] h
theorem ay3(s:Addr)(a:ff)(h:aG w0 λb=>a7 w0 F [b] w0 [(b,G.fO)] X.vA #[al s] .bool λe f=>dQ f (aa w0 F e Q (.tuple #[D 0,D 1])) (a7 w0 F [b] e [(b,G.fO)] X.Vz #[al s, .agg a.T] D λj k=>∃l,At j s 72 [D l]/\(ct j s 72 1/\cp w0.heap.size F [b] s.block)/\∀m:World,bH j [] s 72 [D 0] m->aa w0 F m Q (.tuple #[D l,D k]))):aO X.NW #[al s, .agg a.T] w0 F Q:=bh [.aY s 0, .agg (ff.bN.enc a)] h
theorem ay5(s:Addr)(h:b9 w0 F [] w0 X.vA #[al s] .bool λc d=>dQ d (aa w0 F c Q (.slice none 0 0)) (∃e:ao,At c s 2 [.pointer e]/\b9 w0 F [] c X.P' #[.pointer e] .pointer λi j=>dt i X.Lu #[.pointer j] λk l m=>uG w0 F Q l [] k m)):aO X.Vu #[al s] w0 F Q:=bh [.aY s 0] h
theorem ay1(s:Addr)(h:dt w0 X.vA #[al s] λa b c=>PB w0 F Q b [] a c s):aO X.Vs #[al s] w0 F Q:=bh [.aY s 0] h
theorem ay2(s:Addr)(h:aG w0 λa=>a7 w0 F [a] w0 [(a,G.bR)] X.vA #[al s] .bool λd e=>dQ e (bn w0 F d [a] Q (.agg #[D 0,D 0, .bool false])) (∃f:Cu,At d s 4 f.T.toList/\bn w0 F d [a] Q (.agg f.T))):aO X.Vt #[al s] w0 F Q:=bh [.aY s 0] h
theorem ay6(s:Addr)(h:aG w0 λa=>a7 w0 F [a] w0 [(a,G.h_)] X.vA #[al s] .bool λd e=>dQ e (bn w0 F d [a] Q (.agg #[.bool false, .bool false, .bool false, .bool false, .bool false, .bool false, .bool false,D 0,D 0])) (∃f:Md,At d s 18 f.T.toList/\bn w0 F d [a] Q (.agg f.T))):aO X.NY #[al s] w0 F Q:=bh [.aY s 0] h
theorem ay8(s:Addr)(h:aG w0 λa=>a7 w0 F [a] w0 [(a,G.b_)] X.vA #[al s] .bool λd e=>dQ e (bn w0 F d [a] Q (.agg #[D 0, .int .u8 0, .int .u8 0, .int .u8 0, .int .u8 0,D 0, .int .u8 0, .int .u8 0, .int .u8 0, .int .u8 0, .int .u8 0])) (∃f:aT,At d s 7 f.T.toList/\bn w0 F d [a] Q (.agg f.T))):aO X.Vw #[al s] w0 F Q:=bh [.aY s 0] h
theorem ay_(s:Addr)(h:b9 w0 F [] w0 X.vA #[al s] .bool λc d=>dQ d (aa w0 F c Q (.string ⟨[].toArray⟩)) (∃e:List UInt8,At c s 69 [.string ⟨e.toArray⟩]/\aa w0 F c Q (.string ⟨e.toArray⟩))):aO X.Vy #[al s] w0 F Q:=bh [.aY s 0] h
theorem ay4(s:Addr)(h:b9 w0 F [] w0 X.vA #[al s] .bool λc d=>dQ d (aa w0 F c Q lk) (∃e:ao,At c s 3 [.pointer e]/\b9 w0 F [] c X.LW #[.pointer e] .pointer λi j=>aa w0 F i Q (.pointer j))):aO X.NX #[al s] w0 F Q:=bh [.aY s 0] h
theorem ay9(s:Addr)(h:b9 w0 F [] w0 X.vA #[al s] .bool λc d=>dQ d (aa w0 F c Q (.string ⟨[].toArray⟩)) (∃e:List UInt8,At c s 71 [.string ⟨e.toArray⟩]/\b9 w0 F [] c X.Wt #[.string ⟨e.toArray⟩] (λj:List UInt8=> .string ⟨j.toArray⟩) λi j=>(ct i s 71 1/\cp w0.heap.size F [] s.block)/\∀k:World,bH i [] s 71 [.string ⟨[].toArray⟩] k->aa w0 F k Q (.string ⟨j.toArray⟩))):aO X.Vx #[al s] w0 F Q:=bh [.aY s 0] h
theorem azn(s:Addr)(h:aG w0 λa=>aG w0 λb=>∃c:ao,At w0 s 2 [.pointer c]/\bm w0 λd=>Gg w0 a d s->w0.heap.size<=b/\Whole d b G.j8 [.slice none 0 0]->List.Nodup [a,b]->ia X.oI #[.pointer c, .func (.func X.C_) #[] #[ij a,ij b]] d λe f=>∃g,bW e (D g) w0 F [] d f (∃i:ao,Whole f a G.ew [.pointer i]/\∃j:ao,∃k l:Nat,Whole f b G.j8 [.slice j k l]/\cC w0 f [(a,G.ew),(b,G.j8)] X.NZ #[.pointer i, .slice j k l] λm n o=>n=(.returned (.tuple #[]))/\Ge w0 F Q [a,b] m o g)):aO X.Ao #[al s] w0 F Q:=bh [.aY s 0] h
theorem azA(s:Addr)(row:Int)(cU:Bool)(h:aG w0 λa=>aG w0 λb=>∃c:ao,At w0 s 2 [.pointer c]/\bm w0 λd=>w0.heap.size<=a/\Whole d a G.int [D row]->w0.heap.size<=b/\Whole d b G.bool [.bool cU]->List.Nodup [a,b]->ia X.oI #[.pointer c, .func (.func X.Fv) #[] #[ij a,ij b]] d λe f=>∃g,bW e (D g) w0 F [] d f (∃i,Whole f a G.int [D i]/\∃j:Bool,Whole f b G.bool [.bool j]/\aa w0 F f Q (D g))):aO X.Ap #[al s,D row, .bool cU] w0 F Q:=bh [.aY s 0,cn row, .bool (bL.ok cU)] h
theorem azi(s g:Addr)(r what:Int)(h:a' r 75 (dX what 2 (∃a:Cu,At w0 s 4 a.T.toList/\b9 w0 F [] w0 X.qJ #[al s] w8 λd e=>At d s 4 a.T.toList/\dt d X.GS #[al g, .agg a.T,D what, .agg e.T] λf i j=>fW w0 F Q i [] f j) (YD w0 F Q r what s [] g)) (YD w0 F Q r what s [] g)):aO X.VF #[al s,al g, .int .i32 r,D what] w0 F Q:=bh [.aY s 0, .aY g 0, .int .i32 r,cn what] h
theorem azg(s:Addr)(t:List UInt8)(h:dt w0 X.WO #[.string ⟨t.toArray⟩] λa b c=>∃d:tj,∃e,bW b (.tuple #[.agg d.T,D e]) w0 F [] a c (aG c λf=>(e≠0->aa w0 F c Q (.tuple #[]))/\(e=0->a' d.kind 1 ((ct c s 69 1/\cp w0.heap.size F [f] s.block)/\∀g:World,bH c [] s 69 [.string ⟨d.cE.toArray⟩] g->aa w0 F g Q (.tuple #[])) (a' d.kind 2 ((ct c s 70 1/\cp w0.heap.size F [f] s.block)/\∀g:World,bH c [] s 70 [.string ⟨d.cE.toArray⟩] g->aa w0 F g Q (.tuple #[])) (a' d.kind 3 ((ct c s 70 1/\cp w0.heap.size F [f] s.block)/\∀g:World,bH c [] s 70 [.string ⟨[].toArray⟩] g->aa w0 F g Q (.tuple #[])) (aa w0 F c Q (.tuple #[]))))))):aO X.VD #[al s, .string ⟨t.toArray⟩] w0 F Q:=bh [.aY s 0, .str t] h
theorem azD(s:Addr)(n:Int)(h:∃a:ao,At w0 s 29 [.pointer a]/\∃b,At w0 s 5 [D b]/\dt w0 X.WE #[.pointer a,D b,D (max n 0)] λc d e=>∃f g:Int,bW d (.tuple #[D f,D g]) w0 F [] c e (bG n 0 (∃i:ao,At e s 29 [.pointer i]/\∃j,At e s 5 [D j]/\ay (0-n)/\dt e X.WG #[.pointer i,D j,D (0-n)] λk l m=>∃o p:Int,bW l (.tuple #[D o,D p]) w0 F [] k m (Yu w0 F Q p m s [] o)) (Yu w0 F Q g e s [] f))):aO X.Jf #[al s,D n] w0 F Q:=bh [.aY s 0,cn n] h
theorem azz(s:Addr)(h:b9 w0 F [] w0 X.MP #[] OE λc d=>aG c λe=>∃f,At c s 26 [D f]/\∃g:Bool,At c s 23 [.bool g]/\∃i,At c s 25 [D i]/\∃j:Bool,At c s 24 [.bool j]/\∃k:Bool,At c s 18 [.bool k]/\(ct c s 18 9/\cp w0.heap.size F [e] s.block)/\∀l:World,bH c [] s 18 [.bool k, .bool d.fy, .bool d.jL, .bool d.qN, .bool d.gF, .bool g, .bool j,D i,D f] l->(ct l s 7 11/\cp w0.heap.size F [e] s.block)/\∀m:World,bH l [] s 7 [D 0, .int .u8 0, .int .u8 0, .int .u8 0, .int .u8 0,D 0, .int .u8 0, .int .u8 0, .int .u8 0, .int .u8 0, .int .u8 0] m->(ct m s 30 3/\cp w0.heap.size F [e] s.block)/\∀n:World,bH m [] s 30 [D 0,D 0,D 0] n->a7 w0 F [e] n [(e,G.h_)] X.wV #[al s] D λq r=>a7 w0 F [e] q [(e,G.h_)] X.Jb #[] WY λv x=>((0:Int)<=r/\r<2)/\(ct v s (33+((Int.toNat r)*18)) 18/\cp w0.heap.size F [e] s.block)/\∀y:World,bH v [] s (33+((Int.toNat r)*18)) x.T.toList y->∃z,At y s 0 [D z]/\cC w0 y [(e,G.h_)] X.I4 #[D z] λA B C=>∃aD:dz,∃E,bW B (.tuple #[.agg aD.T,D E]) w0 F [e] A C ((ct C s 27 2/\cp w0.heap.size F [e] s.block)/\∀bT:World,bH C [] s 27 aD.T.toList bT->aa w0 F bT Q (D E))):aO X.VL #[al s] w0 F Q:=bh [.aY s 0] h
theorem ahB(s:Addr)(h:∃a,At w0 s 0 [D a]/\∃b,At w0 s 1 [D b]/\dt w0 X.P8 #[D a,D b] λc d e=>∃f:ao,∃g,bW d (.tuple #[.pointer f,D g]) w0 F [] c e (A5 w0 F e s/\∀i:World,bH e [] s 2 [.pointer f] i->i' w0 F Q g i/\(g=0->∃j,At i s 1 [D j]/\dt i X.WC #[D j] λk l m=>∃n:ao,∃o,bW l (.tuple #[.pointer n,D o]) w0 F [] k m ((ct m s 29 1/\cp w0.heap.size F [] s.block)/\∀p:World,bH m [] s 29 [.pointer n] p->i' w0 F Q o p/\(o=0->∃q,At p s 0 [D q]/\dt p X.I4 #[D q] λr t u=>∃v:dz,∃x,bW t (.tuple #[.agg v.T,D x]) w0 F [] r u ((ct u s 27 2/\cp w0.heap.size F [] s.block)/\∀y:World,bH u [] s 27 v.T.toList y->b9 w0 F [] y X.MP #[] OE λB C=>Gf w0 F B s/\∀aD:World,bH B [] s 4 [D 0,D 0, .bool false] aD->(ct aD s 7 11/\cp w0.heap.size F [] s.block)/\∀E:World,bH aD [] s 7 [D 0, .int .u8 0, .int .u8 0, .int .u8 0, .int .u8 0,D 0, .int .u8 0, .int .u8 0, .int .u8 0, .int .u8 0, .int .u8 0] E->(ct E s 18 9/\cp w0.heap.size F [] s.block)/\∀bT:World,bH E [] s 18 C.T.toList bT->(ct bT s 30 3/\cp w0.heap.size F [] s.block)/\∀ak:World,bH bT [] s 30 [D 0,D 0,D 0] ak->b9 w0 F [] ak X.Jb #[] WY λK L=>b9 w0 F [] K X.Jb #[] WY λeE P=>(ct eE s 33 36/\cp w0.heap.size F [] s.block)/\∀R:World,bH eE [] s 33 [D L.az.row,D L.az.ae, .bool L.az.dC,D L.p.f.k, .int .u8 L.p.f.i, .int .u8 L.p.f.r, .int .u8 L.p.f.g, .int .u8 L.p.f.b,D L.p.b.k, .int .u8 L.p.b.i, .int .u8 L.p.b.r, .int .u8 L.p.b.g, .int .u8 L.p.b.b, .int .u8 L.p.eo, .bool L.fy,D L.cs.aR,D L.cs.g1,D L.cs.gO,D P.az.row,D P.az.ae, .bool P.az.dC,D P.p.f.k, .int .u8 P.p.f.i, .int .u8 P.p.f.r, .int .u8 P.p.f.g, .int .u8 P.p.f.b,D P.p.b.k, .int .u8 P.p.b.i, .int .u8 P.p.b.r, .int .u8 P.p.b.g, .int .u8 P.p.b.b, .int .u8 P.p.eo, .bool P.fy,D P.cs.aR,D P.cs.g1,D P.cs.gO] R->(ct R s 70 1/\cp w0.heap.size F [] s.block)/\∀S:World,bH R [] s 70 [.string ⟨[].toArray⟩] S->aa w0 F S Q (D x))))))):aO X.Jd #[al s] w0 F Q:=bh [.aY s 0] h
theorem ay7(c:fJ)(h:aG w0 λa=>a7 w0 F [a] w0 [(a,G.im)] X.N1 #[.agg c.T] .bool λe f=>gL f (aa w0 F e Q (.tuple #[lk,D 2])) (cC w0 e [(a,G.im)] X.Sc #[D c.cl] λg i j=>∃k:ao,∃l,bW i (.tuple #[.pointer k,D l]) w0 F [a] g j ((l≠0->aa w0 F j Q (.tuple #[lk,D l]))/\(l=0->aG j λm=>bm j λn=>w0.heap.size<=a/\Whole n a G.im c.T.toList->w0.heap.size<=m/\Whole n m G.fi [D c.an,D c.ai,lk, .pointer k,D 0,D 0, .bool false,D 0, .int .u8 0, .int .u8 0, .int .u8 0, .int .u8 0,D 0, .int .u8 0, .int .u8 0, .int .u8 0, .int .u8 0, .int .u8 0, .bool false, .bool false, .bool false, .bool false, .bool false, .bool false, .bool false,D 0,D 0,D 0,D 0,lk,D 0,D 0,D 0,D 0,D 0, .bool false,D 0, .int .u8 0, .int .u8 0, .int .u8 0, .int .u8 0,D 0, .int .u8 0, .int .u8 0, .int .u8 0, .int .u8 0, .int .u8 0, .bool false,D 0,D 0,D 0,D 0,D 0, .bool false,D 0, .int .u8 0, .int .u8 0, .int .u8 0, .int .u8 0,D 0, .int .u8 0, .int .u8 0, .int .u8 0, .int .u8 0, .int .u8 0, .bool false,D 0,D 0,D 0, .string ⟨[].toArray⟩, .string ⟨[].toArray⟩, .string ⟨[].toArray⟩,D 0]->List.Nodup [a,m]->ia X.Jd #[ij m] n λo p=>∃q,bW o (D q) w0 F [a] n p (∃r s:Int,∃t u:ao,∃v x:Int,∃y:Bool,∃z A B C aD E bT ak bo J K:Int,∃L bj N eE P R S:Bool,∃er V W Y:Int,∃a1:ao,∃gd fq ac aB jE:Int,∃kq:Bool,∃jY mT lz uJ q3 vV xA y_ tn xB Gv:Int,∃kd:Bool,∃Bf Zt jR uM Ku:Int,∃Zx:Bool,∃a0 dd a2 a3 a4 a5 iG nC nD a9 ZC:Int,∃ZD:Bool,∃ZE bd ZG:Int,∃ZJ ZK ZL:List UInt8,∃ZM,Whole p m G.fi [D r,D s, .pointer t, .pointer u,D v,D x, .bool y,D z, .int .u8 A, .int .u8 B, .int .u8 C, .int .u8 aD,D E, .int .u8 bT, .int .u8 ak, .int .u8 bo, .int .u8 J, .int .u8 K, .bool L, .bool bj, .bool N, .bool eE, .bool P, .bool R, .bool S,D er,D V,D W,D Y, .pointer a1,D gd,D fq,D ac,D aB,D jE, .bool kq,D jY, .int .u8 mT, .int .u8 lz, .int .u8 uJ, .int .u8 q3,D vV, .int .u8 xA, .int .u8 y_, .int .u8 tn, .int .u8 xB, .int .u8 Gv, .bool kd,D Bf,D Zt,D jR,D uM,D Ku, .bool Zx,D a0, .int .u8 dd, .int .u8 a2, .int .u8 a3, .int .u8 a4,D a5, .int .u8 iG, .int .u8 nC, .int .u8 nD, .int .u8 a9, .int .u8 ZC, .bool ZD,D ZE,D bd,D ZG, .string ⟨ZJ.toArray⟩, .string ⟨ZK.toArray⟩, .string ⟨ZL.toArray⟩,D ZM]/\bm p λKy=>U F w0 Ky->w0.heap.size<=a/\Whole Ky a G.im c.T.toList->w0.heap.size<=m/\Whole Ky m G.fi [D r,D s, .pointer t, .pointer u,D v,D x, .bool y,D z, .int .u8 A, .int .u8 B, .int .u8 C, .int .u8 aD,D E, .int .u8 bT, .int .u8 ak, .int .u8 bo, .int .u8 J, .int .u8 K, .bool L, .bool bj, .bool N, .bool eE, .bool P, .bool R, .bool S,D er,D V,D W,D Y, .pointer a1,D gd,D fq,D ac,D aB,D jE, .bool kq,D jY, .int .u8 mT, .int .u8 lz, .int .u8 uJ, .int .u8 q3,D vV, .int .u8 xA, .int .u8 y_, .int .u8 tn, .int .u8 xB, .int .u8 Gv, .bool kd,D Bf,D Zt,D jR,D uM,D Ku, .bool Zx,D a0, .int .u8 dd, .int .u8 a2, .int .u8 a3, .int .u8 a4,D a5, .int .u8 iG, .int .u8 nC, .int .u8 nD, .int .u8 a9, .int .u8 ZC, .bool ZD,D ZE,D bd,D ZG, .string ⟨ZJ.toArray⟩, .string ⟨ZK.toArray⟩, .string ⟨ZL.toArray⟩,D ZM]->Q (.tuple #[ij m,D q]) Ky))))):aO X.Vv #[.agg c.T] w0 F Q:=bh [.agg (fJ.bN.enc c)] h
end Go.Proofs.YtimbpmnbbfeogaaGreatDoor
namespace Go.Proofs.YtimbpmnbbfeogaaGreatDoor
open Go Go.RowKit Go.Sy Go.Rep
variable{w0:World}{F:Nat->Prop}{Q:Value->World->Prop}
theorem azr(s:Addr)(r:Int)(aP:ao)(aM ba:Nat)(h:∃a:Int->Int->Int->Int->Int->Bool->Int->Int->Bool->World->Prop,(∃b:Cu,At w0 s 4 b.T.toList/\(b9 w0 F [] w0 X.qA #[.slice aP aM ba,D 0] D λe f=>At e s 4 b.T.toList/\(b9 w0 F [] e X.mN #[al s] qM λj k=>At j s 4 b.T.toList/\(aG j λl=>aG j λm=>bm j λn=>a f k.an k.ai k.aq.bf k.aq.b7 k.fy b.row b.ae b.dC n)/\aG j λl=>aG j λm=>bm j λn=>a f k.an k.ai k.aq.bf k.aq.b7 k.fy b.row b.ae b.dC n)/\(aG e λg=>(a7 w0 F [g] e [(g,G.fI)] X.mN #[al s] qM λk l=>At k s 4 b.T.toList/\aG k λm=>¬(s.block∈[g])/\Dz k [g] a f l b)/\aG e λi=>∀j:World,PD w0 F e j [(g,G.fI),(i,G.bR)] s [g,i] b [g] [i,g] a f)/\aG e λg=>(a7 w0 F [g] e [(g,G.bR)] X.mN #[al s] qM λk l=>At k s 4 b.T.toList/\aG k λm=>Dz k [g] a f l b)/\aG e λi=>∀j:World,Pq w0 F e j [(g,G.bR),(i,G.fI)] s [g,i] b [i] a f)/\(aG w0 λc=>(a7 w0 F [c] w0 [(c,G.fI)] X.qA #[.slice aP aM ba,D 0] D λf g=>At f s 4 b.T.toList/\(a7 w0 F [c] f [(c,G.fI)] X.mN #[al s] qM λk l=>At k s 4 b.T.toList/\aG k λm=>¬(s.block∈[c])/\Dz k [c] a g l b)/\aG f λi=>∀j:World,PD w0 F f j [(c,G.fI),(i,G.bR)] s [c,i] b [c] [i,c] a g)/\aG w0 λd=>a7 w0 F [c,d] w0 [(c,G.fI),(d,G.bR)] X.qA #[.slice aP aM ba,D 0] D λg i=>At g s 4 b.T.toList/\∀j:World,PD w0 F g j [(c,G.fI),(d,G.bR)] s [c,d] b [c] [d,c] a i)/\aG w0 λc=>(a7 w0 F [c] w0 [(c,G.bR)] X.qA #[.slice aP aM ba,D 0] D λf g=>At f s 4 b.T.toList/\(a7 w0 F [c] f [(c,G.bR)] X.mN #[al s] qM λk l=>At k s 4 b.T.toList/\aG k λm=>Dz k [c] a g l b)/\aG f λi=>∀j:World,Pq w0 F f j [(c,G.bR),(i,G.fI)] s [c,i] b [i] a g)/\aG w0 λd=>a7 w0 F [c,d] w0 [(c,G.bR),(d,G.fI)] X.qA #[.slice aP aM ba,D 0] D λg i=>At g s 4 b.T.toList/\∀j:World,Pq w0 F g j [(c,G.bR),(d,G.fI)] s [c,d] b [d] a i)/\∀b c d e f:Int,∀g:Bool,∀i j:Int,∀k:Bool,aG w0 λl=>aG w0 λm=>∀n:World,U F w0 n->a b c d e f g i j k n->∃o:Int->Int->Int->Bool->World->Prop,(∃p:Bool->World->Prop,a' r 65 (bm n λq=>a' r 65 (p true q) (p false q)) (bm n λq=>a' r 70 (p true q) (p false q))/\∀q:Bool,∀t:World,U F w0 t->p q t->dQ q (cC w0 t [(l,G.fI),(m,G.bR)] X.Uc #[.agg #[D c,D d,D e,D f, .bool g], .agg #[D i,D j, .bool k],D b] λu v x=>xl w0 F v [l,m] u x [m] o) (∃u:Bool->World->Prop,a' r 66 (bm t λv=>a' r 66 (u true v) (u false v)) (bm t λv=>a' r 69 (u true v) (u false v))/\∀v:Bool,∀x:World,U F w0 x->u v x->dQ v (cC w0 x [(l,G.fI),(m,G.bR)] X.T' #[.agg #[D c,D d,D e,D f, .bool g], .agg #[D i,D j, .bool k],D b] λy z A=>xl w0 F z [l,m] y A [m] o) (a' r 67 (cC w0 x [(l,G.fI),(m,G.bR)] X.Ua #[.agg #[D c,D d,D e,D f, .bool g], .agg #[D i,D j, .bool k],D b] λy z A=>xl w0 F z [l,m] y A [m] o) (a' r 68 (cC w0 x [(l,G.fI),(m,G.bR)] X.MV #[.agg #[D c,D d,D e,D f, .bool g], .agg #[D i,D j, .bool k],D b] λy z A=>xl w0 F z [l,m] y A [m] o) (a' r 71 (ay (b-1)/\cC w0 x [(l,G.fI),(m,G.bR)] X.IE #[.agg #[D c,D d,D e,D f, .bool g], .agg #[D i,D j, .bool k],D (b-1)] λy z A=>xl w0 F z [l,m] y A [m] o) (a' r 100 (ay (b-1)/\cC w0 x [(l,G.fI),(m,G.bR)] X.Ub #[.agg #[D c,D d,D e,D f, .bool g], .agg #[D i,D j, .bool k],D (b-1)] λy z A=>xl w0 F z [l,m] y A [m] o) (∃y:Bool->World->Prop,a' r 72 (bm x λz=>a' r 72 (y true z) (y false z)) (bm x λz=>a' r 102 (y true z) (y false z))/\∀z:Bool,∀A:World,U F w0 A->y z A->dQ z (ay (b-1)/\a7 w0 F [l,m] A [(l,G.fI),(m,G.bR)] X.qA #[.slice aP aM ba,D 1] D λaD E=>ay (E-1)/\cC w0 aD [(l,G.fI),(m,G.bR)] X.MU #[.agg #[D c,D d,D e,D f, .bool g],D (b-1),D (E-1)] λbT ak bo=>xl w0 F ak [l,m] bT bo [m] o) (a' r 73 (a7 w0 F [l,m] A [(l,G.fI),(m,G.bR)] X.Jf #[al s,D b] D λaD E=>aa w0 F aD Q (.tuple #[.bool true,D E])) (a' r 90 (ay (0-b)/\a7 w0 F [l,m] A [(l,G.fI),(m,G.bR)] X.Jf #[al s,D (0-b)] D λaD E=>aa w0 F aD Q (.tuple #[.bool true,D E])) (aa w0 F A Q (.tuple #[.bool false,D 0])))))))))))/\∀p q t:Int,∀u:Bool,∀v:World,U F w0 v->o p q t u v->∃x:Int->Int->Int->Bool->World->Prop,a' p 0 (a' r 69 (cC w0 v [(l,G.fI),(m,G.bR)] X.yo #[.agg #[D c,D d,D e,D f, .bool g], .agg #[D q,D t, .bool u]] λy z A=>xl w0 F z [l,m] y A [m] x) (a' r 70 (cC w0 v [(l,G.fI),(m,G.bR)] X.yo #[.agg #[D c,D d,D e,D f, .bool g], .agg #[D q,D t, .bool u]] λy z A=>xl w0 F z [l,m] y A [m] x) (bm v λy=>x p q t u y))) (bm v λy=>x p q t u y)/\∀y z A:Int,∀B:Bool,∀C:World,U F w0 C->x y z A B C->a' y 0 ((ct C s 4 3/\cp w0.heap.size F [l,m] s.block)/\∀aD:World,bH C [] s 4 [D z,D A, .bool B] aD->aa w0 F aD Q (.tuple #[.bool true,D y])) (aa w0 F C Q (.tuple #[.bool true,D y]))):aO X.VI #[al s, .int .i32 r, .slice aP aM ba] w0 F Q:=eV [] [⟨2,[8,200009,200010],[]⟩,⟨6,[20],[]⟩,⟨9,[30],[]⟩,⟨20,[78],[]⟩,⟨25,[7],[1]⟩,⟨27,[7],[1]⟩] [.aY s 0, .int .i32 r, .cJ aP aM ba] h
theorem ay'(s:Addr)(a:ff)(h:aG w0 λb=>bG a.kind 1 (aa w0 F w0 Q (D 2)) (bG 5 a.kind (aa w0 F w0 Q (D 2)) (∃c:Cu,At w0 s 4 c.T.toList/\∃d:Md,At w0 s 18 d.T.toList/\a7 w0 F [b] w0 [(b,G.fO)] X.mN #[al s] qM λg i=>At g s 18 d.T.toList/\At g s 4 c.T.toList/\cC w0 g [(b,G.fO)] X.U5 #[.agg a.T, .agg i.T, .agg c.T, .agg d.T] λj k l=>∃m:List UInt8,∃n,bW k (.tuple #[.string ⟨m.toArray⟩,D n]) w0 F [b] j l (i' w0 F Q n l/\(n=0->cC w0 l [(b,G.fO)] X.VA #[al s, .string ⟨m.toArray⟩] λo p q=>bW p (.tuple #[]) w0 F [b] o q (a' a.kind 1 (cC w0 q [(b,G.fO)] X.VK #[al s, .int .i32 a.rune] λr t u=>fW w0 F Q t [b] r u) (a' a.kind 2 (cC w0 q [(b,G.fO)] X.VH #[al s, .int .i32 a.rune] λr t u=>fW w0 F Q t [b] r u) (a' a.kind 3 (cC w0 q [(b,G.fO)] X.VG #[al s, .agg a.T] λr t u=>fW w0 F Q t [b] r u) (a' a.kind 4 (cC w0 q [(b,G.fO)] X.VE #[al s, .agg a.T] λr t u=>fW w0 F Q t [b] r u) (cC w0 q [(b,G.fO)] X.VD #[al s, .string ⟨a.cE.toArray⟩] λr t u=>DB w0 F Q t [b] r u)))))))))):aO X.Vz #[al s, .agg a.T] w0 F Q:=bh [.aY s 0, .agg (ff.bN.enc a)] h
theorem azt(s:Addr)(r:Int)(h:aG w0 λa=>aG w0 λb=>∃c:gX,At w0 s 30 c.T.toList/\a7 w0 F [a,b] w0 [(a,G.ew),(b,G.ft)] X.KS #[.agg c.T, .int .i32 r] (.int .i32) λf g=>∀i:World,dV f [b] i->cB i w0.heap.size [(a,G.ew),(b,G.ft)]->ia X.uw #[.int .i32 g] i λj k=>∃l,bW j (D l) w0 F [a,b] i k (bG l 0 (aa w0 F k Q (D 0)) (a' l 0 (∃m:ao,At k s 2 [.pointer m]/\bm k λn=>Gg w0 a n s->J7 w0 b n g->List.Nodup [a,b]->ia X.oI #[.pointer m, .func (.func X.Fs) #[] #[ij a,ij b]] n λo p=>∃q,bW o (D q) w0 F [] n p (∃t:ao,Whole p a G.ew [.pointer t]/\∃u:Int,Whole p b G.ft [.int .i32 u]/\aa w0 F p Q (D q))) (aG k λm=>∃n:ao,At k s 2 [.pointer n]/\bm k λo=>Gg w0 a o s->J7 w0 b o g->w0.heap.size<=m/\Whole o m G.bool [.bool false]->List.Nodup [a,b,m]->ia X.oI #[.pointer n, .func (.func X.Ft) #[] #[ij a,ij b,ij m]] o λp q=>∃t,bW p (D t) w0 F [] o q (∃u:ao,Whole q a G.ew [.pointer u]/\∃v:Int,Whole q b G.ft [.int .i32 v]/\∃x:Bool,Whole q m G.bool [.bool x]/\a' t 0 (dQ x (a7 w0 F [a,b,m] q [(a,G.ew),(b,G.ft),(m,G.bool)] X.N3 #[.pointer u] D λA B=>Pp w0 F Q B A u a b v m x [m]) (Pp w0 F Q t q u a b v m x [m])) (Pp w0 F Q t q u a b v m x [m])))))):aO X.VK #[al s, .int .i32 r] w0 F Q:=bh [.aY s 0, .int .i32 r] h
theorem azj(s:Addr)(a:ff)(h:aG w0 λb=>aG w0 λc=>(a.bS=[40]->a' a.rune 66 (∀d:World,J1 w0 F Q d [(b,G.ew),(c,G.fO)] a [b,c] s b c) (a' a.rune 48 (∀d:World,J1 w0 F Q d [(b,G.ew),(c,G.fO)] a [b,c] s b c) (Pm w0 F Q a [(b,G.ew),(c,G.fO)] s [b,c] b c [c])))/\(¬(a.bS=[40])->(a.bS=[41]->a' a.rune 66 (∀d:World,J1 w0 F Q d [(b,G.ew),(c,G.fO)] a [b,c] s b c) (a' a.rune 48 (∀d:World,J1 w0 F Q d [(b,G.ew),(c,G.fO)] a [b,c] s b c) (Pm w0 F Q a [(b,G.ew),(c,G.fO)] s [b,c] b c [c])))/\(¬(a.bS=[41])->Pm w0 F Q a [(b,G.ew),(c,G.fO)] s [b,c] b c [c]))):aO X.VG #[al s, .agg a.T] w0 F Q:=eV [] [⟨28,[4],[0]⟩] [.aY s 0, .agg (ff.bN.enc a)] h
theorem azh(s:Addr)(a:ff)(h:aG w0 λb=>(a.bS=[33]->a' a.pre 0 (a' a.rune 112 (cC w0 w0 [(b,G.fO)] X.VL #[al s] λc d e=>fW w0 F Q d [b] c e) (Ps w0 F Q a [(b,G.fO)] s [b])) (Ps w0 F Q a [(b,G.fO)] s [b]))/\(¬(a.bS=[33])->Ps w0 F Q a [(b,G.fO)] s [b])):aO X.VE #[al s, .agg a.T] w0 F Q:=bh [.aY s 0, .agg (ff.bN.enc a)] h
theorem azl(s:Addr)(r:Int)(h:∃a:Int->World->Prop,a' r 8 (∃b:Cu,At w0 s 4 b.T.toList/\b9 w0 F [] w0 X.mN #[al s] qM λe f=>At e s 4 b.T.toList/\dt e X.MV #[.agg f.T, .agg b.T,D 1] λg i j=>∃k:Cu,∃l,bW i (.tuple #[.agg k.T,D l]) w0 F [] g j (Gf w0 F j s/\∀m:World,bH j [] s 4 k.T.toList m->bm m λn=>a l n)) (a' r 9 (b9 w0 F [] w0 X.Jf #[al s,D 1] D λd e=>bm d λf=>a e f) (∃b:Bool->World->Prop,a' r 10 (bm w0 λc=>a' r 10 (b true c) (b false c)) (a' r 11 (bm w0 λc=>a' r 11 (b true c) (b false c)) (bm w0 λc=>a' r 12 (b true c) (b false c)))/\∀c:Bool,∀d:World,U F w0 d->b c d->dQ c (b9 w0 F [] d X.Ao #[al s] D λg i=>bm g λj=>a i j) (a' r 13 (∃e:Cu,At d s 4 e.T.toList/\b9 w0 F [] d X.mN #[al s] qM λi j=>At i s 4 e.T.toList/\dt i X.yo #[.agg j.T, .agg e.T] λk l m=>∃n:Cu,∃o,bW l (.tuple #[.agg n.T,D o]) w0 F [] k m (Gf w0 F m s/\∀p:World,bH m [] s 4 n.T.toList p->bm p λq=>a o q)) (∃e:Bool->World->Prop,a' r 14 (bm d λf=>a' r 14 (e true f) (e false f)) (bm d λf=>a' r 15 (e true f) (e false f))/\∀f:Bool,∀g:World,U F w0 g->e f g->dQ f (∃i:gX,At g s 30 i.T.toList/\ay r/\ay (15-r)/\dt g X.QH #[.agg i.T,D (15-r)] λj k l=>∃m:gX,∃n,bW k (.tuple #[.agg m.T,D n]) w0 F [] j l ((ct l s 30 3/\cp w0.heap.size F [] s.block)/\∀o:World,bH l [] s 30 m.T.toList o->bm o λp=>a n p)) (bm g λi=>a 0 i)))))/\∀b:Int,∀c:World,U F w0 c->a b c->aa w0 F c Q (D b)):aO X.VH #[al s, .int .i32 r] w0 F Q:=eV [] [⟨9,[25],[]⟩,⟨14,[46],[]⟩,⟨15,[4],[]⟩] [.aY s 0, .int .i32 r] h
theorem azq(s:Addr)(pre:Int)(aP:ao)(aM ba:Nat)(on:Bool)(h:∃a:Int->World->Prop,∃b:Int->Nat,(bm w0 λc=>a 0 c)/\∀c:Int,∀d:World,U F w0 d->a c d->bG c aM (∃e:Addr,aP=(some e)/\hG c aM/\∃f,At d e ((Int.toNat c)*1) [D f]/\∃g:Md,At d s 18 g.T.toList/\dt d X.T_ #[.agg g.T, .int .i32 pre,D f, .bool on] λi j k=>∃l:Md,∃m,bW j (.tuple #[.agg l.T,D m]) w0 F [] i k (aG k λn=>(m≠0->ji c k a b)/\(m=0->a' pre 63 (a' f 47 (∀o:World,PG w0 F Q k o [(n,G.h_)] s f on [n] c a b) (a' f 1047 (∀o:World,PG w0 F Q k o [(n,G.h_)] s f on [n] c a b) (a' f 1049 (∀o:World,PG w0 F Q k o [(n,G.h_)] s f on [n] c a b) ((ct k s 18 9/\cp w0.heap.size F [n] s.block)/\∀o:World,bH k [] s 18 l.T.toList o->a' pre 63 (a' f 6 (cC w0 o [(n,G.h_)] X.Fq #[al s] λp q r=>∃t,q=(.returned (D t))/\J' w0 F Q [n] p r t c a b) (ji c o a b)) (ji c o a b))))) ((ct k s 18 9/\cp w0.heap.size F [n] s.block)/\∀o:World,bH k [] s 18 l.T.toList o->a' pre 63 (a' f 6 (cC w0 o [(n,G.h_)] X.Fq #[al s] λp q r=>∃t,q=(.returned (D t))/\J' w0 F Q [n] p r t c a b) (ji c o a b)) (ji c o a b))))) (aa w0 F d Q (D 0))):aO X.N0 #[al s, .int .i32 pre, .slice aP aM ba, .bool on] w0 F Q:=eV [⟨2,[17],[]⟩] [] [.aY s 0, .int .i32 pre, .cJ aP aM ba, .bool (bL.ok on)] h
end Go.Proofs.YtimbpmnbbfeogaaGreatDoor
namespace Go.Proofs.YtimbpmnbbfeogaaGreatDoor
open Go Go.RowKit Go.Sy Go.Rep
variable{w0:World}{F:Nat->Prop}{Q:Value->World->Prop}
theorem azf(s:Addr)(r:Int)(aP:ao)(aM ba:Nat)(h:a' r 109 (∃a:aT,At w0 s 7 a.T.toList/\dt w0 X.VJ #[.slice aP aM ba] λb c d=>∃e:ao,∃f g:Nat,bW c (.slice e f g) w0 F [] b d (At d s 7 a.T.toList/\dt d X.Wu #[.agg a.T, .slice e f g] λi j k=>∃l:aT,∃m,bW j (.tuple #[.agg l.T,D m]) w0 F [] i k ((ct k s 7 11/\cp w0.heap.size F [] s.block)/\∀n:World,bH k [] s 7 l.T.toList n->aa w0 F n Q (D m)))) (a' r 114 (∃a:Int->Int->Int->World->Prop,(∃b,At w0 s 0 [D b]/\(b9 w0 F [] w0 X.uf #[.slice aP aM ba,D 0,D 0] D λe f=>At e s 0 [D b]/\(b9 w0 F [] e X.uf #[.slice aP aM ba,D 1,D 0] D λj k=>At j s 0 [D b]/\(dt j X.I3 #[D b,D f,D k] λl m n=>∃o:dz,∃p,bW m (.tuple #[.agg o.T,D p]) w0 F [] l n (aG n λq=>bm n λt=>a p o.bf o.b7 t))/\aG j λl=>∀m:World,Px w0 F j m [(l,G.Region)] b f k [l] a)/\aG e λg=>a7 w0 F [g] e [(g,G.Region)] X.uf #[.slice aP aM ba,D 1,D 0] D λk l=>At k s 0 [D b]/\∀m:World,Px w0 F k m [(g,G.Region)] b f l [g] a)/\aG w0 λc=>a7 w0 F [c] w0 [(c,G.Region)] X.uf #[.slice aP aM ba,D 0,D 0] D λf g=>At f s 0 [D b]/\a7 w0 F [c] f [(c,G.Region)] X.uf #[.slice aP aM ba,D 1,D 0] D λk l=>At k s 0 [D b]/\∀m:World,Px w0 F k m [(c,G.Region)] b g l [c] a)/\∀b c d:Int,aG w0 λe=>∀f:World,U F w0 f->a b c d f->(b≠0->aa w0 F f Q (D 0))/\(b=0->(ct f s 27 2/\cp w0.heap.size F [e] s.block)/\∀g:World,bH f [] s 27 [D c,D d] g->cC w0 g [(e,G.Region)] X.Fq #[al s] λi j k=>fW w0 F Q j [e] i k)) (a' r 103 (b9 w0 F [] w0 X.uf #[.slice aP aM ba,D 0,D 0] D λc d=>a' d 0 (∃e:ao,At c s 29 [.pointer e]/\∃f,At c s 5 [D f]/\dt c X.WD #[.pointer e,D f] λg i j=>fW w0 F Q i [] g j) (a' d 3 (∃e:ao,At c s 29 [.pointer e]/\dt c X.WH #[.pointer e] λf g i=>fW w0 F Q g [] f i) (aa w0 F c Q (D 0)))) (a' r 115 (b9 w0 F [] w0 X.wV #[al s] D λc d=>dt c X.Je #[al s] λe f g=>∃i:eL,∃j,bW f (.tuple #[.agg i.T,D j]) w0 F [] e g (((0:Int)<=d/\d<2)/\(ct g s (33+((Int.toNat d)*18)) 18/\cp w0.heap.size F [] s.block)/\∀k:World,bH g [] s (33+((Int.toNat d)*18)) i.T.toList k->aa w0 F k Q (D j))) (a' r 117 (b9 w0 F [] w0 X.wV #[al s] D λc d=>((0:Int)<=d/\d<2)/\∃e:eL,At c s (33+((Int.toNat d)*18)) e.T.toList/\dt c X.Fu #[al s, .agg e.T] λf g i=>fW w0 F Q g [] f i) (dt w0 X.VB #[al s, .int .i32 r, .slice aP aM ba] λa b c=>fW w0 F Q b [] a c)))))):aO X.VC #[al s, .int .i32 r, .slice aP aM ba] w0 F Q:=eV [] [⟨7,[8,200007],[]⟩] [.aY s 0, .int .i32 r, .cJ aP aM ba] h
theorem azd(s:Addr)(r:Int)(aP:ao)(aM ba:Nat)(h:aG w0 λa=>aG w0 λb=>aG w0 λc=>∃d:Int->Int->Int->Int->Int->Int->Int->Int->Int->Int->Int->Int->World->Prop,((a7 w0 F [a,b,c] w0 [(a,G.ew),(b,G.ft),(c,G.mo)] X.qA #[.slice aP aM ba,D 0] D λg i=>(a7 w0 F [a,b,c] g [(a,G.ew),(b,G.ft),(c,G.mo)] X.qJ #[al s] w8 λl m=>(aG l λn=>aG l λo=>bm l λp=>d i m.f.k m.f.i m.f.r m.f.g m.f.b m.b.k m.b.i m.b.r m.b.g m.b.b m.eo p)/\aG l λn=>aG l λo=>bm l λp=>d i m.f.k m.f.i m.f.r m.f.g m.f.b m.b.k m.b.i m.b.r m.b.g m.b.b m.eo p)/\(aG g λj=>(∀k:World,J5 w0 F g k [(a,G.ew),(b,G.ft),(c,G.mo),(j,G.int)] s [a,b,c,j] [j] d i)/\aG g λk=>∀l:World,Dy w0 F g l [(a,G.ew),(b,G.ft),(c,G.mo),(j,G.int),(k,G.b_)] s [a,b,c,j,k] [k,j] d i)/\aG g λj=>(∀k:World,J5 w0 F g k [(a,G.ew),(b,G.ft),(c,G.mo),(j,G.b_)] s [a,b,c,j] [j] d i)/\aG g λk=>∀l:World,Dy w0 F g l [(a,G.ew),(b,G.ft),(c,G.mo),(j,G.b_),(k,G.int)] s [a,b,c,j,k] [j,k] d i)/\(aG w0 λe=>(a7 w0 F [a,b,c,e] w0 [(a,G.ew),(b,G.ft),(c,G.mo),(e,G.int)] X.qA #[.slice aP aM ba,D 0] D λi j=>(∀k:World,J5 w0 F i k [(a,G.ew),(b,G.ft),(c,G.mo),(e,G.int)] s [a,b,c,e] [e] d j)/\aG i λk=>∀l:World,Dy w0 F i l [(a,G.ew),(b,G.ft),(c,G.mo),(e,G.int),(k,G.b_)] s [a,b,c,e,k] [k,e] d j)/\aG w0 λf=>a7 w0 F [a,b,c,e,f] w0 [(a,G.ew),(b,G.ft),(c,G.mo),(e,G.int),(f,G.b_)] X.qA #[.slice aP aM ba,D 0] D λj k=>∀l:World,Dy w0 F j l [(a,G.ew),(b,G.ft),(c,G.mo),(e,G.int),(f,G.b_)] s [a,b,c,e,f] [f,e] d k)/\aG w0 λe=>(a7 w0 F [a,b,c,e] w0 [(a,G.ew),(b,G.ft),(c,G.mo),(e,G.b_)] X.qA #[.slice aP aM ba,D 0] D λi j=>(∀k:World,J5 w0 F i k [(a,G.ew),(b,G.ft),(c,G.mo),(e,G.b_)] s [a,b,c,e] [e] d j)/\aG i λk=>∀l:World,Dy w0 F i l [(a,G.ew),(b,G.ft),(c,G.mo),(e,G.b_),(k,G.int)] s [a,b,c,e,k] [e,k] d j)/\aG w0 λf=>a7 w0 F [a,b,c,e,f] w0 [(a,G.ew),(b,G.ft),(c,G.mo),(e,G.b_),(f,G.int)] X.qA #[.slice aP aM ba,D 0] D λj k=>∀l:World,Dy w0 F j l [(a,G.ew),(b,G.ft),(c,G.mo),(e,G.b_),(f,G.int)] s [a,b,c,e,f] [e,f] d k)/\∀e f g i j k l m n o p q:Int,aG w0 λt=>aG w0 λu=>∀v:World,U F w0 v->d e f g i j k l m n o p q v->aG v λx=>∃y:ao,At v s 2 [.pointer y]/\bm v λz=>Gg w0 a z s->J7 w0 b z r->w0.heap.size<=c/\Whole z c G.mo [.slice aP aM ba]->w0.heap.size<=t/\Whole z t G.int [D e]->w0.heap.size<=u/\Whole z u G.b_ [D f, .int .u8 g, .int .u8 i, .int .u8 j, .int .u8 k,D l, .int .u8 m, .int .u8 n, .int .u8 o, .int .u8 p, .int .u8 q]->w0.heap.size<=x/\Whole z x G.j8 [.slice none 0 0]->List.Nodup [a,b,c,t,u,x]->ia X.oI #[.pointer y, .func (.func X.Fo) #[] #[ij b,ij a,ij t,ij u,ij x,ij c]] z λA B=>∃C,bW A (D C) w0 F [] z B (∃aD:Int,Whole B b G.ft [.int .i32 aD]/\∃E:ao,Whole B a G.ew [.pointer E]/\∃bT,Whole B t G.int [D bT]/\∃ak:aT,Whole B u G.b_ ak.T.toList/\∃bo:ao,∃J K:Nat,Whole B x G.j8 [.slice bo J K]/\∃L:ao,∃bj N:Nat,Whole B c G.mo [.slice L bj N]/\cC w0 B [(a,G.ew),(b,G.ft),(c,G.mo),(t,G.int),(u,G.b_),(x,G.j8)] X.NZ #[.pointer E, .slice bo J K] λeE P R=>P=(.returned (.tuple #[]))/\Ge w0 F Q [a,b,c,t,u,x] eE R C)):aO X.VB #[al s, .int .i32 r, .slice aP aM ba] w0 F Q:=eV [] [⟨2,[200007,200008],[]⟩] [.aY s 0, .int .i32 r, .cJ aP aM ba] h
theorem azC(s:Addr)(n:Int)(on:Bool)(h:b9 w0 F [] w0 X.wV #[al s] D λc d=>((bL.val (.ok on))=(bL.val (.eq d 1))->aa w0 F c Q (D 0))/\(¬((bL.val (.ok on))=(bL.val (.eq d 1)))->dQ on (dt c X.Je #[al s] λe f g=>∃i:eL,∃j,bW f (.tuple #[.agg i.T,D j]) w0 F [] e g (aG g λk=>i' w0 F Q j g/\(j=0->(ct g s 26 1/\cp w0.heap.size F [k] s.block)/\∀l:World,bH g [] s 26 [D n] l->∃m:ao,At l s 2 [.pointer m]/\a7 w0 F [k] l [(k,G.hO)] X.qJ #[al s] w8 λq r=>At q s 2 [.pointer m]/\cC w0 q [(k,G.hO)] X.P_ #[.pointer m,D n, .agg i.T, .agg r.T] λt u v=>fW w0 F Q u [k] t v))) (∃e:ao,At c s 2 [.pointer e]/\(b9 w0 F [] c X.qJ #[al s] w8 λi j=>At i s 2 [.pointer e]/\(dt i X.Gt #[.pointer e,D n, .agg j.T] λk l m=>∃o:eL,∃p:Bool,∃q,bW l (.tuple #[.agg o.T, .bool p,D q]) w0 F [] k m (aG m λr=>i' w0 F Q q m/\(q=0->(ct m s 26 1/\cp w0.heap.size F [r] s.block)/\∀t:World,bH m [] s 26 [D 0] t->dQ p (cC w0 t [(r,G.hO)] X.Fu #[al s, .agg o.T] λu v x=>fW w0 F Q v [r] u x) (aa w0 F t Q (D 0)))))/\aG i λk=>∀l:World,YC w0 F Q i l [(k,G.hO)] e n j [k] s k)/\aG c λf=>a7 w0 F [f] c [(f,G.hO)] X.qJ #[al s] w8 λj k=>At j s 2 [.pointer e]/\∀l:World,YC w0 F Q j l [(f,G.hO)] e n k [f] s f))):aO X.N2 #[al s,D n, .bool on] w0 F Q:=bh [.aY s 0,cn n, .bool (bL.ok on)] h
theorem azF(s:Addr)(h:∃a,At w0 s 4 [D a]/\b9 w0 F [] w0 X.Ap #[al s,D a, .bool true] D λd e=>i' w0 F Q e d/\(e=0->b9 w0 F [] d X.Ao #[al s] D λi j=>i' w0 F Q j i/\(j=0->∃k:Cu,At i s 4 k.T.toList/\(b9 w0 F [] i X.mN #[al s] qM λn o=>At n s 4 k.T.toList/\(dt n X.yo #[.agg o.T, .agg k.T] λp q r=>∃t:Cu,∃u,bW q (.tuple #[.agg t.T,D u]) w0 F [] p r (aG r λv=>i' w0 F Q u r/\(u=0->(ct r s 4 3/\cp w0.heap.size F [v] s.block)/\∀x:World,bH r [] s 4 t.T.toList x->YA w0 F Q x s a [(v,G.bR)] [v] t)))/\aG n λp=>∀q:World,YM w0 F Q n q [(p,G.bR)] o k [p] s p a)/\aG i λl=>a7 w0 F [l] i [(l,G.bR)] X.mN #[al s] qM λo p=>At o s 4 k.T.toList/\∀q:World,YM w0 F Q o q [(l,G.bR)] p k [l] s l a))):aO X.N3 #[al s] w0 F Q:=bh [.aY s 0] h
theorem azx(s:Addr)(x:eL)(h:aG w0 λa=>∃b:Int->Int->Int->Bool->Int->Int->Int->Int->Int->Int->Int->Int->Int->Int->Int->Bool->Int->Int->Int->World->Prop,((a7 w0 F [a] w0 [(a,G.hO)] X.mN #[al s] qM λe f=>(cC w0 e [(a,G.hO)] X.C9 #[.agg x.T, .agg f.T] λg i j=>∃k:eL,∃l,bW i (.tuple #[.agg k.T,D l]) w0 F [a] g j (aG j λm=>bm j λn=>b l k.az.row k.az.ae k.az.dC k.p.f.k k.p.f.i k.p.f.r k.p.f.g k.p.f.b k.p.b.k k.p.b.i k.p.b.r k.p.b.g k.p.b.b k.p.eo k.fy k.cs.aR k.cs.g1 k.cs.gO n))/\aG e λg=>cC w0 e [(a,G.hO),(g,G.hO)] X.C9 #[.agg x.T, .agg f.T] λi j k=>∃l:eL,∃m,bW j (.tuple #[.agg l.T,D m]) w0 F [a,g] i k (∀n:World,dV k [g] n->b m l.az.row l.az.ae l.az.dC l.p.f.k l.p.f.i l.p.f.r l.p.f.g l.p.f.b l.p.b.k l.p.b.i l.p.b.r l.p.b.g l.p.b.b l.p.eo l.fy l.cs.aR l.cs.g1 l.cs.gO n))/\aG w0 λc=>a7 w0 F [a,c] w0 [(a,G.hO),(c,G.hO)] X.mN #[al s] qM λf g=>cC w0 f [(a,G.hO),(c,G.hO)] X.C9 #[.agg x.T, .agg g.T] λi j k=>∃l:eL,∃m,bW j (.tuple #[.agg l.T,D m]) w0 F [a,c] i k (∀n:World,dV k [c] n->b m l.az.row l.az.ae l.az.dC l.p.f.k l.p.f.i l.p.f.r l.p.f.g l.p.f.b l.p.b.k l.p.b.i l.p.b.r l.p.b.g l.p.b.b l.p.eo l.fy l.cs.aR l.cs.g1 l.cs.gO n))/\∀c d e:Int,∀f:Bool,∀g i j k l m n o p q r:Int,∀t:Bool,∀u v y:Int,aG w0 λz=>∀A:World,U F w0 A->b c d e f g i j k l m n o p q r t u v y A->i' w0 F Q c A/\(c=0->(ct A s 4 3/\cp w0.heap.size F [a,z] s.block)/\∀B:World,bH A [] s 4 [D d,D e, .bool f] B->(ct B s 7 11/\cp w0.heap.size F [a,z] s.block)/\∀C:World,bH B [] s 7 [D g, .int .u8 i, .int .u8 j, .int .u8 k, .int .u8 l,D m, .int .u8 n, .int .u8 o, .int .u8 p, .int .u8 q, .int .u8 r] C->(ct C s 19 1/\cp w0.heap.size F [a,z] s.block)/\∀aD:World,bH C [] s 19 [.bool t] aD->(ct aD s 30 3/\cp w0.heap.size F [a,z] s.block)/\∀E:World,bH aD [] s 30 [D u,D v,D y] E->aa w0 F E Q (D 0))):aO X.Fu #[al s, .agg x.T] w0 F Q:=eV [] [⟨2,[6,200005],[]⟩] [.aY s 0, .agg (eL.bN.enc x)] h
end Go.Proofs.YtimbpmnbbfeogaaGreatDoor
namespace Go.Sy
open Go.RowKit (Below)
section
variable{w0 w w' w1:World}{F0:Nat->Prop}{bs:List Nat}{o o':I}{l l' bM bq lj:List I}
theorem I.VW(hp:l.Perm l')(h:(I.sep l).P w):(I.sep l').P w:=
 ⟨λo ho=>h.1 o (hp.mem_iff.2 ho),(hp.pairwise_iff (λ{a b} RP i hb ha=>RP i ha hb)).1 h.2⟩
theorem I.Jh(hp:l.Perm l'){i:Nat}(h:(I.sep l').F i):(I.sep l).F i:=by
 obtain⟨o,ho,e⟩:=h;exact⟨o,hp.mem_iff.2 ho,e⟩
theorem I.j9{i:Nat}:(I.sep (bM++bq)).F i↔(I.sep bM).F i∨(I.sep bq).F i:=by
 constructor
 ·rintro⟨x,hx,e⟩
  exact(gi.1 hx).imp (λq=>⟨x,q,e⟩) λq=>⟨x,q,e⟩
 ·rintro(⟨x,q,e⟩|⟨x,q,e⟩)
  ·exact⟨x,pd _ q,e⟩
  ·exact⟨x,vJ _ q,e⟩
theorem I.j_{i:Nat}:(I.sep [o]).F i↔o.F i:=
 ⟨λ⟨x,hx,e⟩=>by rw[gg] at hx;rw[<-hx];exact e,λe=>⟨o,by simp,e⟩⟩
theorem I.mq:(I.sep (bM++bq)).P w↔(I.sep bM).P w/\(I.sep bq).P w/\∀i,(I.sep bM).F i->¬(I.sep bq).F i:=by
 constructor
 ·rintro⟨h1,h2⟩
  obtain⟨cq,cA,fG⟩:=uz.1 h2;exact⟨⟨λo ho=>h1 o (pd _ ho),cq⟩,⟨λo ho=>h1 o (vJ _ ho),cA⟩,λi ⟨x,hx,e⟩ ⟨y,hy,f⟩=>fG x hx y hy i e f⟩
 ·rintro⟨⟨dd,a2⟩,⟨b1,b2⟩,hd⟩
  exact⟨λo ho=>(gi.1 ho).elim (dd o) (b1 o),uz.2 ⟨a2,b2,λx hx y hy i e f=>hd i ⟨x,hx,e⟩ ⟨y,hy,f⟩⟩⟩
theorem I.rK:(I.sep [o]).P w↔o.P w:=
 ⟨λh=>h.1 o aS,λh=>⟨λx hx=>by rw[gg] at hx;rw[hx];exact h,Dr _ _⟩⟩
theorem I.yM:(I.sep (bM++bq)).P w↔(I.sep (bM++[I.sep bq])).P w:=by
 rw[I.mq,I.mq,I.rK];exact⟨λ⟨a,b,c⟩=>⟨a,b,λi hi e=>c i hi (I.j_.1 e)⟩,λ⟨a,b,c⟩=>⟨a,b,λi hi e=>c i hi (I.j_.2 e)⟩⟩
theorem I.wY{i:Nat}:(I.sep (bM++bq)).F i↔(I.sep (bM++[I.sep bq])).F i:=by
 rw[I.j9,I.j9,I.j_]
theorem af.conv(h:af w0 F0 bs o w)(hp:o'.P w)(bc:∀i,o'.F i->o.F i):af w0 F0 bs o' w:=⟨h.laid,h.kept,hp,λi hi=>h.own i (bc i hi)⟩
theorem af.pN(h:af w0 F0 bs (I.sep l) w)(hp:l.Perm l'):af w0 F0 bs (I.sep l') w:=h.conv (I.VW hp h.at_) λi hi=>I.Jh hp hi
theorem af.awd(h:af w0 F0 bs o w)(hm:∀b∈bs,b<w.heap.size)(hk:U o.F w w')(ho:o'.P w')(bc:∀i,o'.F i->o.F i∨w.heap.size<=i):af w0 F0 bs o' w'/\eC w0.heap.size F0 bs w w':=by
 have BZ:∀i,o.F i->i<w0.heap.size->F0 i:=λi hi hlt=>((h.own i hi).1).resolve_right M
 refine⟨⟨h.laid.ax hk λi hi=>o.low h.at_ hi,h.kept.after hk λi hlt hi=>BZ i hi hlt,ho,λi hi=>?_⟩,hk.kept BZ λi hi _=>(h.own i hi).2⟩;rcases bc i hi with q|q
 ·exact h.own i q
 ·exact⟨.inr (ek h.kept.size q),λhb=>by have:=hm i hb;omega⟩
theorem af.P5{n:Nat}{t:TypeId}{cs:List Value}(h:af w0 F0 (n::bs) (I.sep l) w)(hw:Whole w n t cs)(hn:w0.heap.size<=n)(hb:n∉bs)(hY:Go.Proofs.YtimbpmnbbfeogaaGreatDoor.Y.dZ<=w0.heap.size):af w0 F0 bs (I.sep (l++[I.aF n t cs])) w:=by
 refine⟨h.laid,h.kept,I.mq.2 ⟨h.at_,I.rK.2 ⟨hw,by omega⟩,λi hi e=>(h.own i hi).2 ?_⟩,λi hi=>?_⟩
 ·rw[show i=n from I.j_.1 e]
  exact kB ..
 ·rcases I.j9.1 hi with q|q
  ·exact⟨(h.own i q).1,λhm=>(h.own i q).2 (jt _ hm)⟩
  ·rw[show i=n from I.j_.1 q]
   exact⟨.inr hn,hb⟩
theorem af.release{n:Nat}{t:TypeId}{cs:List Value}(h:af w0 F0 bs (I.sep (l++[I.aF n t cs])) w):af w0 F0 (n::bs) (I.sep l) w/\Whole w n t cs:=by
 obtain⟨h1,h2,aw⟩:=I.mq.1 h.at_;refine⟨⟨h.laid,h.kept,h1,λi hi=>⟨(h.own i (I.j9.2 (.inl hi))).1,λhm=>?_⟩⟩,(I.rK.1 h2).1⟩;rcases e7.1 hm with e|hm
 ·exact aw i hi (I.j_.2 e)
 ·exact(h.own i (I.j9.2 (.inl hi))).2 hm
end
end Go.Sy
namespace Go.Rep
open Go Go.Sy
structure cN where
 (b:Nat) (an ai:Int) (aJ:cS) (hi:lx) (az:Cu) (bV:aT) (bA:Md) (aq:dz) (dc:xw) (cs:gX) (aN bX:eL) (jU vm iM:List UInt8) (dq:Int)
structure bl where
 (an ai:Int) (bu:c6) (ah:fp) (az:Cu) (bV:aT) (bA:Md) (aq:dz) (stops:List Int) (cs:gX) (aN bX:eL) (jU vm iM:List UInt8) (dq Ou:Int)
def cN.ptr(s:cN):Value:= .pointer (some ⟨s.b,0,none⟩)
abbrev cN.cells(s:cN):List Value:=
 [.int .i64 s.an, .int .i64 s.ai,s.aJ.ptr,s.hi.ptr]++(s.az.T.toList++(s.bV.T.toList++(s.bA.T.toList++(s.aq.T.toList++([s.dc.ptr]++(s.cs.T.toList++(s.aN.T.toList++(s.bX.T.toList++[.string ⟨s.jU.toArray⟩, .string ⟨s.vm.toArray⟩, .string ⟨s.iM.toArray⟩, .int .i64 s.dq]))))))))
def cN.av(s:cN):bl:=⟨s.an,s.ai,s.aJ.bu,s.hi.r.aq,s.az,s.bV,s.bA,s.aq,s.dc.l,s.cs,s.aN,s.bX,s.jU,s.vm,s.iM,s.dq,s.dc.ai⟩
end Go.Rep
namespace Go.Proofs.YtimbpmnbbfeogaaGreatDoor
open Go Go.RowKit Go.Sy Go.Rep
def I.cl(h:lx):I:=⟨qU h,λw=>jk w h,λh hi=>h.lt hi,λh hi=>h.low hi,λh hk bc=>h.ax hk bc⟩
def I.lines(p:ao)(c:Nat)(xs:List ck):I:=⟨fA p xs,λw=>dE w p xs.length c xs,λh hi=>h.lt hi,λh hi=>h.low hi,λh hk bc=>h.ax hk bc⟩
abbrev Z(s:cN):I:=I.sep [I.cl s.hi,I.stops s.dc,I.aF s.b G.fi s.cells,bE s.aJ]
section
variable{w0 w w' w1:World}{F0:Nat->Prop}{bs:List Nat}{o o':I}{l l' bM bq:List I}{R:Ending->World->Prop}{f:FuncId}{args:Array Value}{s s':cN}
theorem avk{fC:Value->World->List I->Prop}(bM:List I)(h:af w0 F0 bs (I.sep (bM++bq)) w1)(hm:∀b∈bs,b<w1.heap.size)
  (hc:(I.sep bq).P w1->Laid w1->bI Tryz.prog f args w1 (I.sep bq).F (λv ad=>∃lj,fC v ad lj/\(I.sep lj).P ad/\∀i,(I.sep lj).F i->(I.sep bq).F i∨w1.heap.size<=i))
  (hR:∀v ad lj,fC v ad lj->af w0 F0 bs (I.sep (bM++lj)) ad->eC w0.heap.size F0 bs w1 ad->R (.returned v) ad):dH Tryz.prog f args w1 R:=by
 have hg:af w0 F0 bs (I.sep (bM++I.sep bq::[])) w1:=h.conv (I.yM.1 h.at_) λi hi=>I.wY.2 hi
 refine af.call bM [] hg hm hc λv ad ⟨lj,hq,hp,bc⟩ hs=>?_
 obtain⟨q1,q2⟩:=hs (I.sep lj) hp bc;exact hR v ad lj hq (q1.conv (I.yM.2 q1.at_) λi hi=>I.wY.1 hi) q2
end
end Go.Proofs.YtimbpmnbbfeogaaGreatDoor
abbrev Go.Sy.af.GG:=@Go.Proofs.YtimbpmnbbfeogaaGreatDoor.avk
namespace Go.Proofs.YtimbpmnbbfeogaaGreatDoor
open Go Go.RowKit Go.Sy Go.Rep
section
variable{w0 w w' w1:World}{F0:Nat->Prop}{bs:List Nat}{o o':I}{l l' bM bq:List I}{R:Ending->World->Prop}{f:FuncId}{args:Array Value}{s s':cN}
theorem avl{eg:Type}{mI:eg->I}{x:eg}{lP:eg->Prop}{fC:Value->Prop}(h:af w0 F0 bs (mI x) w1)(hm:∀b∈bs,b<w1.heap.size)(hc:(mI x).P w1->Laid w1->bI Tryz.prog f args w1 (mI x).F (λv ad=>fC v/\fK mI w1 x lP ad))
  (hR:∀v ad y,fC v->lP y->af w0 F0 bs (mI y) ad->eC w0.heap.size F0 bs w1 ad->R (.returned v) ad):dH Tryz.prog f args w1 R:=
 (hc h.at_ h.laid).aH λv ad hk ⟨hq,y,hy,hp,bc⟩=>by
  obtain⟨q1,q2⟩:=h.awd hm hk hp bc;exact hR v ad y hq hy q1 q2
end
end Go.Proofs.YtimbpmnbbfeogaaGreatDoor
abbrev Go.Sy.af.Bq:=@Go.Proofs.YtimbpmnbbfeogaaGreatDoor.avl
namespace Go.Proofs.YtimbpmnbbfeogaaGreatDoor
open Go Go.RowKit Go.Sy Go.Rep
section
variable{w0 w w' w1:World}{F0:Nat->Prop}{bs:List Nat}{o o':I}{l l' bM bq:List I}{R:Ending->World->Prop}{f:FuncId}{args:Array Value}{s s':cN}
theorem Z.cell(h:af w0 F0 bs (Z s) w)(k:Nat){cj:List Value}(hu:cj=(s.cells.drop k).take cj.length):At w ⟨s.b,0,none⟩ k cj:=
 af.cells [I.cl s.hi,I.stops s.dc] [bE s.aJ] h (show 73<=maxLen by decide) hu
theorem Z.ch(h:af w0 F0 bs (Z s) w){k n:Nat}(hk:k+n<=73):ct w ⟨s.b,0,none⟩ k n/\cp w0.heap.size F0 bs s.b:=
 af.ch [I.cl s.hi,I.stops s.dc] [bE s.aJ] h (show k+n<=73 from hk)
theorem Z.put(h:af w0 F0 bs (Z s) w){k:Nat}{vs:List Value}(hp:bH w [] ⟨s.b,0,none⟩ k vs w')(hk:k+vs.length<=73)(hb:s'.b=s.b)(h1:s'.hi=s.hi)(h2:s'.dc=s.dc)(aw:s'.aJ=s.aJ)(hc:s.cells.take k++(vs++s.cells.drop (k+vs.length))=s'.cells):af w0 F0 bs (Z s') w':=by
 have:=af.put (n:=0) [I.cl s.hi,I.stops s.dc] [bE s.aJ] h (show k+vs.length<=73 from hk) hp;rw[hc] at this;unfold Z;rw[hb,h1,h2,aw];exact this
theorem Z.Ae(h:af w0 F0 bs (Z s) w){k:Nat}{vs:List Value}{cf:List Nat}(hp:bH w cf ⟨s.b,0,none⟩ k vs w')(hd:∀d∈cf,d∈bs)(fa:∀b∈bs,w0.heap.size<=b)(hY:Y.dZ<=w0.heap.size)(hk:k+vs.length<=73)(hb:s'.b=s.b)(h1:s'.hi=s.hi)(h2:s'.dc=s.dc)(aw:s'.aJ=s.aJ)(hc:s.cells.take k++(vs++s.cells.drop (k+vs.length))=s'.cells):af w0 F0 bs (Z s') w':=by
 have:=af.Ae (n:=0) [I.cl s.hi,I.stops s.dc] [bE s.aJ] h (show k+vs.length<=73 from hk) hd fa hY hp;rw[hc] at this;unfold Z;rw[hb,h1,h2,aw];exact this
theorem Z.pair(h:af w0 F0 bs (Z s) w):(bE s.aJ).P w:=af.get [I.cl s.hi,I.stops s.dc,I.aF s.b G.fi s.cells] [] h
theorem Z.cl(h:af w0 F0 bs (Z s) w):jk w s.hi:=af.get [] [I.stops s.dc,I.aF s.b G.fi s.cells,bE s.aJ] h
theorem Z.stops(h:af w0 F0 bs (Z s) w):(I.stops s.dc).P w:=af.get [I.cl s.hi] [I.aF s.b G.fi s.cells,bE s.aJ] h
theorem yC(aj:Laid w)(h:(Z s).P w):di X.vA #[s.ptr] w (.bool false):=by
 refine azG _ ⟨_,Z.cell (af.start (bs:=[]) aj h aS) 2 rfl,aa.of λ_=>?_⟩;show Value.bool _=_
 rw[show bL.val (.i_ ((some (⟨s.aJ.b,0,none⟩:Addr))=none))=false from by
  have:=bL.yT (.i_ ((some (⟨s.aJ.b,0,none⟩:Addr))=none)) false
  exact this.1 qR]
theorem af5(aj:Laid w)(h:(Z s).P w)(hu:s.aJ.c_<=1):di X.wV #[s.ptr] w (.int .i64 s.aJ.c_):=by
 have aN:=af.start (bs:=[]) aj h aS;refine azE _ ⟨_,Z.cell aN 2 rfl,λw1 hb1=>?_⟩;have bX:=aN.below hb1;refine bX.ret (λa b=>asu b (Z.pair bX) hu) λad aX aI=>⟨_,rfl,aI.O,λe=>aa.of λ_=>?_,λe=>aa.of λ_=>?_⟩
 ·rw[show s.aJ.c_=1 from lu e]
  rfl
 ·rw[show s.aJ.c_=0 by have:=mx e;omega]
  rfl
def gZ(q:bl):dy:=⟨q.an,q.ai,q.aq,q.bA.fy⟩
theorem atT(aj:Laid w)(h:(Z s).P w):di X.mN #[s.ptr] w (.agg (gZ s.av).T):=by
 have aN:=af.start (bs:=[]) aj h aS;exact azb _ λar ec=>⟨_,Z.cell aN 0 rfl,_,Z.cell aN 1 rfl,_,Z.cell aN 27 rfl,_,Z.cell aN 19 rfl,aa.of λ_=>rfl⟩
def dj(q:bl):aT:=⟨⟨0,0,0,0,0⟩,q.bV.b,0⟩
end
def iO(v:c6)(r:cc):c6:=if v.c_=1 then⟨v.aR,r,v.c_,v.mode,v.kept⟩ else⟨r,v.g1,v.c_,v.mode,v.kept⟩
def ik(p:cS)(g:cV):cS:=if p.c_=1 then⟨p.b,p.aR,g,p.c_,p.mode,p.kept⟩ else⟨p.b,g,p.g1,p.c_,p.mode,p.kept⟩
theorem agR(p:cS)(g:cV):(ik p g).bu=iO p.bu g.aC:=by
 unfold ik iO cS.bu;dsimp only;split<;>rfl
theorem N4(p:cS)(g:cV):(ik p g).b=p.b:=by unfold ik;split<;>rfl
def wP(p:cS):cV:=if p.c_=1 then p.aR else p.g1
section
variable{w0 w w' w1:World}{F0:Nat->Prop}{bs:List Nat}{o o':I}{l l' bM bq:List I}{R:Ending->World->Prop}{f:FuncId}{args:Array Value}{s s':cN}
theorem K9{dN:I}{p:cS}{cI:List I}(g:cV)(hg:g=(if p.c_=1 then p.g1 else p.aR)):
  (dN::cI++[I.aF p.b G.ma p.cells,I.aL p.aR,I.aL p.g1,l0 p.kept]).Perm ([I.aF p.b G.ma p.cells,I.aL (wP p),l0 p.kept]++dN::I.aL g::cI):=by
 refine xh.trans ?_;subst hg;unfold wP;split
 ·refine List.Perm.cons _ (List.Perm.cons _ ?_)
  exact(List.perm_middle (l₁:=[l0 p.kept,dN])).symm
 ·refine List.Perm.cons _ ?_
  exact(List.perm_middle (l₁:=[I.aL p.g1,l0 p.kept,dN])).symm
theorem DR{dN:I}{aJ:cS}{cI:List I}{GY:FuncId}{args:Option Addr->Array Value}{lP:I->cc->List I->Prop}(aj:Laid w)(h:(I.sep (dN::bE aJ::cI)).P w)(hu:aJ.c_<=1)
  (hc:∀V,Laid V->(I.sep (dN::I.aL (cS.aL aJ)::cI)).P V->bI Tryz.prog GY (args (some ⟨(cS.aL aJ).b,0,none⟩)) V (I.sep (dN::I.aL (cS.aL aJ)::cI)).F (λv V'=>v= .int .i64 0/\∃dP aU dG,aU.b=(cS.aL aJ).b/\lP dP aU.aC dG/\(I.sep (dP::I.aL aU::dG)).P V'/\∀i,(I.sep (dP::I.aL aU::dG)).F i->(I.sep (dN::I.aL (cS.aL aJ)::cI)).F i∨V.heap.size<=i)):
  ∀w1:World,Below w.heap.size w w1->dH Tryz.prog X.p6 #[.pointer (some ⟨aJ.b,0,none⟩)] w1 (λe1 ad=>∃b1:Bool,e1= .returned (.bool b1)/\(eC w.heap.size (I.sep (dN::bE aJ::cI)).F [] w1 ad/\((b1=true->Sy.aa w (I.sep (dN::bE aJ::cI)).F ad (λv w'=>v= .int .i64 0/\∃dP r' dG dU,dU.b=aJ.b/\dU.bu=iO aJ.bu r'/\lP dP r' dG/\(I.sep (dP::bE dU::dG)).P w'/\∀i,(I.sep (dP::bE dU::dG)).F i->(I.sep (dN::bE aJ::cI)).F i∨w.heap.size<=i) (.int .i64 1))/\
   (b1=false->∃eA:Int,At ad ⟨aJ.b,0,none⟩ 2 [.int .i64 eA]/\(((0:Int)<=eA/\eA<2)/\∃cq:ao,At ad ⟨aJ.b,0,none⟩ (0+((Int.toNat eA)*1)) [.pointer cq]/\∀bw:World,Below ad.heap.size ad bw->dH Tryz.prog GY (args cq) bw (λe2 bD=>∃i2:Int,e2= .returned (.int .i64 i2)/\(eC w.heap.size (I.sep (dN::bE aJ::cI)).F [] bw bD/\Sy.aa w (I.sep (dN::bE aJ::cI)).F bD (λv w'=>v= .int .i64 0/\∃dP r' dG dU,dU.b=aJ.b/\dU.bu=iO aJ.bu r'/\lP dP r' dG/\(I.sep (dP::bE dU::dG)).P w'/\∀i,(I.sep (dP::bE dU::dG)).F i->(I.sep (dN::bE aJ::cI)).F i∨w.heap.size<=i) (.int .i64 i2)))))))):=by
 intro w1 hb1;have bX:=(af.start (bs:=[]) aj h aS).below hb1;have Ci:∀{V:World} {F0:Nat->Prop},af w F0 [] (I.sep (dN::bE aJ::cI)) V->(bE aJ).P V:=λh=>h.at_.1 (bE aJ) aS
 refine bX.ret (λa b=>E5 (Ci bX)) λad aX aI=>⟨_,rfl,aI.O,λe=>(nomatch e),λ_=>⟨_,bE.at_ (Ci aX) 2 rfl,⟨by omega,by omega⟩,_,bE.Qf (Ci aX) hu,λbw bp=>?_⟩⟩
 have eb:=aX.below bp;have f1:af w (I.sep (dN::bE aJ::cI)).F [] (I.sep (dN::cI++[bE aJ])) bw:=eb.pN (List.Perm.cons _ (O_ _ _).symm);have f2:af w (I.sep (dN::bE aJ::cI)).F [] (I.sep (dN::cI++[I.aF aJ.b G.ma aJ.cells,I.aL aJ.aR,I.aL aJ.g1,l0 aJ.kept])) bw:=f1.conv (I.yM.2 f1.at_) λi hi=>I.wY.1 hi
 have lU:=f2.pN (K9 (cS.aL aJ) rfl);refine af.GG (fC:=λv _ lj=>v= .int .i64 0/\∃dP aU dG,lj=dP::I.aL aU::dG/\aU.b=(cS.aL aJ).b/\lP dP aU.aC dG) _ lU aS (λa b=>(hc bw b a).mono (λ_ e=>e) λv V' _ ⟨q1,dP,aU,dG,q2,cz,en,eB⟩=>⟨_,⟨q1,dP,aU,dG,rfl,q2,cz⟩,en,eB⟩) λv bD lj ⟨ah,dP,aU,dG,hl,hb',hR⟩ cg bO=>⟨0,by rw[ah],bO,λw' hb _=>⟨rfl,?_⟩⟩
 subst hl;have ey:=cg.below hb;have hcell:(ik aJ aU).cells=aJ.cells:=by
  unfold ik;have hg:aU.ptr=(cS.aL aJ).ptr:=by unfold cV.ptr;rw[hb']
  unfold cS.aL at hg;split
  ·next e=>rw[aA e] at hg;show[_,aU.ptr,_,_,_]=_;rw[hg]
  ·next e=>rw[ag e] at hg;show[aU.ptr,_,_,_,_]=_;rw[hg]
 have SN:wP (ik aJ aU)=wP aJ:=by unfold wP ik;split<;>(rename_i e;simp[e])
 have hkp:(ik aJ aU).kept=aJ.kept:=by unfold ik;split<;>rfl
 have R':aU=(if(ik aJ aU).c_=1 then(ik aJ aU).g1 else(ik aJ aU).aR):=by unfold ik;split<;>(rename_i e;simp[e])
 have g1:af w (I.sep (dN::bE aJ::cI)).F [] (I.sep ([I.aF (ik aJ aU).b G.ma (ik aJ aU).cells,I.aL (wP (ik aJ aU)),l0 (ik aJ aU).kept]++dP::I.aL aU::dG)) w':=by
  rw[hcell,SN,hkp,N4];exact ey
 have g2:=g1.pN (K9 (dN:=dP) (cI:=dG) aU R').symm;have g3:af w (I.sep (dN::bE aJ::cI)).F [] (I.sep (dP::dG++[bE (ik aJ aU)])) w':=g2.conv (I.yM.1 g2.at_) λi hi=>I.wY.2 hi
 have g4:af w (I.sep (dN::bE aJ::cI)).F [] (I.sep (dP::bE (ik aJ aU)::dG)) w':=g3.pN (List.Perm.cons _ (O_ _ _));exact⟨dP,aU.aC,dG,ik aJ aU,N4 _ _,agR _ _,hR,g4.at_,λi hi=>(g4.own i hi).1⟩
end
end Go.Proofs.YtimbpmnbbfeogaaGreatDoor
namespace Go.Sy
section
variable{w0 w w' w1:World}{F0:Nat->Prop}{bs:List Nat}{o o':I}{l l' bM bq hV:List I}
theorem I.avG(h:(I.sep (bM++I.sep bq::hV)).P w):(I.sep (bM++(bq++hV))).P w:=by
 obtain⟨a,b,d⟩:=I.mq.1 h;obtain⟨b1,b2,j2⟩:=I.mq.1 (show(I.sep ([I.sep bq]++hV)).P w from b);refine I.mq.2 ⟨a,I.mq.2 ⟨I.rK.1 b1,b2,λi hi=>j2 i (I.j_.2 hi)⟩,λi hi e=>d i hi ?_⟩;show(I.sep ([I.sep bq]++hV)).F i;rw[I.j9] at e⊢;exact e.imp I.j_.2 id
theorem I.avF{i:Nat}(h:(I.sep (bM++(bq++hV))).F i):(I.sep (bM++I.sep bq::hV)).F i:=by
 show(I.sep (bM++([I.sep bq]++hV))).F i;rw[I.j9,I.j9] at h⊢;exact h.imp id λq=>q.imp I.j_.2 id
theorem af.dI(bM bq hV:List I)(h:af w0 F0 bs (I.sep (bM++I.sep bq::hV)) w):af w0 F0 bs (I.sep (bM++(bq++hV))) w:=h.conv (I.avG h.at_) λi hi=>I.avF hi
end
end Go.Sy
namespace Go.Proofs.YtimbpmnbbfeogaaGreatDoor
open Go Go.RowKit Go.Sy Go.Rep
structure fS(g:cc)(an ai:Int):Prop where
 c:(g.ai:Int)=ai
 r:(g.ab.length:Int)=an
 ok:∀l∈g.ab,l.cs.length=g.ai/\pK l.cs=true
structure b5(N:Nat)(q:bl):Prop where
 de:1<=q.an
 c1:q.an<=1000
 bY:1<=q.ai
 c2:q.ai<=1000
 aR:fS q.bu.aR q.an q.ai
 g1:fS q.bu.g1 q.an q.ai
 u:q.bu.c_<=1
 k:∀s,q.bu.kept=some s->mK s=true
 mX:0<=q.az.row
 mY:q.az.row<q.an
 mV:0<=q.az.ae
 mW:q.az.ae<q.ai
 d':q.az.dC=true->q.az.ae=q.ai-1
 bV:h0 q.bV=true
 bA:kT q.bA=true
 iB:0<=q.aq.bf
 t2:q.aq.bf<=q.aq.b7
 t3:q.aq.b7<q.an
 cs:o3 q.cs=true
 aN:mK q.aN=true
 bX:mK q.bX=true
 iL:q.ah.next<=N
 sZ:q.iM.length<=4096
 jx:q.Ou=q.ai
theorem b5.aL{N:Nat}{q:bl}(h:b5 N q):fS (c6.aL q.bu) q.an q.ai:=by
 unfold c6.aL;split
 ·exact h.g1
 ·exact h.aR
theorem b5.Bw{N:Nat}{q:bl}(h:b5 N q):gM (c6.aL q.bu) q.az:=⟨h.mX,by rw[h.aL.r];exact h.mY,h.mV,by rw[h.aL.c];exact h.mW,λe=>by rw[h.aL.c];exact h.d' e⟩
theorem b5.NO{N:Nat}{q:bl}(h:b5 N q):nA (c6.aL q.bu) q.aq:=⟨h.iB,h.t2,by rw[h.aL.r];exact h.t3⟩
theorem b5.p7{N:Nat}{q:bl}(h:b5 N q):(gZ q).ok:=⟨h.de,h.c1,h.bY,h.c2,h.iB,h.t2,h.t3⟩
theorem b5.az{N:Nat}{q:bl}(h:b5 N q):q.az.ok (gZ q):=⟨h.mX,h.mY,h.mV,h.mW,h.d'⟩
theorem CP{p:aT}(h:h0 p=true):h0 ⟨⟨0,0,0,0,0⟩,p.b,0⟩=true:=by
 unfold h0 at h⊢;rw[fR] at h⊢;exact⟨rfl,h.2⟩
theorem FN{p:aT}(h:h0 p=true):ea (ed p)=true:=by
 unfold ea ed;simp[h]
theorem b5.zd{N:Nat}{q:bl}(h:b5 N q):ea (ed (dj q))=true:=FN (CP h.bV)
theorem b5.Ja{N:Nat}{q:bl}(h:b5 N q):mK ⟨q.az,q.bV,q.bA.fy,q.cs⟩=true:=by
 have:=h.mX;have:=h.mY;have:=h.mV;have:=h.mW;have:=h.c1;have:=h.c2;unfold mK;simp only[h.bV,h.cs,Bool.and_true,fR,lM];exact⟨⟨⟨by omega,by omega⟩,by omega⟩,by omega⟩
def nQ(ab:List Li)(q:bl):bl:=if q.bu.c_=0/\ab≠[] then{q with ah:=Ad q.ah ab,dq:=q.dq+ab.length} else q
section
variable{w0 w w' w1:World}{F0:Nat->Prop}{bs:List Nat}{o o':I}{l l' bM bq:List I}{R:Ending->World->Prop}{f:FuncId}{args:Array Value}{s s':cN}
theorem uk(h:Whole w s.b G.fi s.cells)(k:Nat){cj:List Value}(hu:cj=(s.cells.drop k).take cj.length):At w ⟨s.b,0,none⟩ k cj:=by
 have:=(h.at_ (show 73<=maxLen by decide)).sub k hu;rwa[iR] at this
theorem NA(h:Whole w s.b G.fi s.cells):di X.qJ #[s.ptr] w (.agg (dj s.av).T):=
 azc _ λar ec=>⟨s.bV.b,uk h 12 rfl,aa.of λ_=>rfl⟩
theorem af4{p:ao}{c:Nat}{xs:List ck}(aj:Laid w)(h:(Z s).P w)(hu:s.aJ.c_<=1)(eF:dE w p xs.length c xs)(hd:∀i,fA p xs i->¬(Z s).F i)(ah:∀x∈xs,pK x.cs=true)(hn:s.hi.r.next+xs.length<=4611686018427387904)(hp:s.dq=0):
  bI Tryz.prog X.NZ #[s.ptr, .slice p xs.length c] w (Z s).F (λv w'=>v= .tuple #[]/\fK Z w s (λs'=>s'.b=s.b/\s'.av=nQ (bJ xs) s.av) w'):=by
 have hlen:xs.length<=4611686018427387904:=by omega
 refine azp _ p xs.length c λw1 hb1=>?_
 have bX:=(af.start (bs:=[]) aj h aS).below hb1;refine bX.ret (λa b=>af5 b a hu) λad aX aI=>⟨_,rfl,aI.O,λe=>⟨λe2=>?_,λe2=>?_⟩,λe=>?_⟩
 ·refine⟨_,Z.cell aX 3 rfl,λbP hb5=>?_⟩
  have ey:=aX.below hb5;have dW:=((U.au hb1).trans aI).trans (U.au hb5);refine af.call (o:=I.cl s.hi) [] [I.stops s.dc,I.aF s.b G.fi s.cells,bE s.aJ] ey aS (λa b=>as5 b a (eF.O dW) ah (λi hi bk=>hd i hi ⟨I.cl s.hi,by simp,bk⟩) hn) λv cu ⟨Tl,dS,q1,q2,cz,en,eB⟩ hs=>?_
  obtain⟨eJ,dK⟩:=hs (I.cl dS) en eB;have mi:dS.ptr=s.hi.ptr:=by unfold lx.ptr;rw[q1]
  have C7:af w (Z s).F [] (Z {s with hi:=dS}) cu:=by
   have e:({s with hi:=dS}:cN).cells=s.cells:=by show _::_::_::dS.ptr::_=_;rw[mi];rfl
   unfold Z;rw[e];exact eJ
  refine⟨0,by rw[Tl],dK,s.dq,Z.cell C7 72 rfl,by unfold ay;omega,Z.ch C7 M,λw7 pC w' hb _=>⟨rfl,?_⟩⟩;have jv:af w (Z s).F [] (Z {s with hi:=dS,dq:=s.dq+(xs.length:Int)}) w7:=Z.put C7 pC (by show 72+1<=73;omega) rfl rfl rfl rfl rfl;refine af.bQ (jv.below hb) ⟨rfl,?_⟩;rw[nQ,aA ⟨show s.aJ.c_=0 by omega,λe0=>by have:=dx List.length e0;simp[bJ] at this;subst this;simp at e2⟩];show bl.mk s.an s.ai s.aJ.bu dS.r.aq s.az s.bV s.bA s.aq s.dc.l s.cs s.aN s.bX s.jU s.vm s.iM (s.dq+(xs.length:Int)) s.dc.ai=_;rw[cz];simp[cN.av,bJ]
 ·intro w' hb _
  refine⟨rfl,af.bQ (aX.below hb) ⟨rfl,?_⟩⟩;have:xs=[]:=n2 M;subst this;rw[nQ,ag (λu=>u.2 rfl)]
 ·intro w' hb _
  refine⟨rfl,af.bQ (aX.below hb) ⟨rfl,?_⟩⟩;rw[nQ,ag (λu=>e (by have:s.aJ.c_=0:=u.1;omega))]
theorem as_{a v:Nat}{g:cV}(aj:Laid w)(h:(I.sep (I.aF s.b G.fi s.cells::I.aL g::[I.aF a G.ew [s.ptr],I.aF v G.j8 [.slice none 0 0]])).P w)(hr:nA g.aC s.aq)(hc:gM g.aC s.az)(hq:ea (ed (dj s.av))=true):
  bI Tryz.prog X.C_ #[.pointer (some ⟨g.b,0,none⟩), .pointer (some ⟨a,0,none⟩), .pointer (some ⟨v,0,none⟩)] w (I.sep (I.aF s.b G.fi s.cells::I.aL g::[I.aF a G.ew [s.ptr],I.aF v G.j8 [.slice none 0 0]])).F
   (λu w'=>u= .int .i64 0/\∃dP aU dG,aU.b=g.b/\(∃p c gs,dP=I.aF s.b G.fi ({s with az:=kR g.aC s.aq s.az}:cN).cells/\aU.aC=sG g.aC s.aq s.az (dj s.av)/\bJ gs=sH g.aC s.aq s.az (dj s.av)/\dG=[I.lines p c gs,I.aF a G.ew [s.ptr],I.aF v G.j8 [.slice p gs.length c]])/\
    (I.sep (dP::I.aL aU::dG)).P w'/\∀i,(I.sep (dP::I.aL aU::dG)).F i->(I.sep (I.aF s.b G.fi s.cells::I.aL g::[I.aF a G.ew [s.ptr],I.aF v G.j8 [.slice none 0 0]])).F i∨w.heap.size<=i):=by
 have aN:=af.start (bs:=[]) aj h aS;have dN:∀{V:World} {bT:Nat->Prop} {cI:List I} {k:Nat} {cj:List Value},af w bT [] (I.sep (I.aF s.b G.fi s.cells::cI)) V->cj=(s.cells.drop k).take cj.length->At V ⟨s.b,0,none⟩ k cj:=λcY hu=>uk (af.get [] _ cY).1 _ hu
 have box:∀{V:World} {bT:Nat->Prop} {i7 jf vq:I},af w bT [] (I.sep [i7,jf,I.aF a G.ew [s.ptr],vq]) V->At V ⟨a,0,none⟩ 0 [s.ptr]:=λcY=>(af.get [_,_] [_] cY).1.at_ (show 1<=maxLen by decide)
 refine azo _ _ _ ⟨_,box aN,_,box aN,_,rfl,_,dN aN rfl,_,box aN,_,rfl,_,dN aN rfl,_,box aN,λw1 hb1=>?_⟩;have bX:=aN.below hb1;refine bX.ret (λ_ _=>NA (af.get [] _ bX).1) λad aX aI=>⟨_,rfl,aI.O,dN aX rfl,box aX,dN aX rfl,box aX,box aX,λbw bp=>?_⟩
 have eb:=aX.below bp;refine af.call (o:=I.aL g) [I.aF s.b G.fi s.cells] [I.aF a G.ew [s.ptr],I.aF v G.j8 [.slice none 0 0]] eb aS (λx y=>aty y x hr hc hq) λu bD ⟨p,c,gs,aU,hu,e1,e2,e3,e4,eu,gq,iW⟩ hs=>?_
 obtain⟨cg,bO⟩:=hs (I.sep [I.aL aU,I.lines p c gs]) ((I.mq (bM:=[I.aL aU]) (bq:=[I.lines p c gs])).2 ⟨I.rK.2 eu,I.rK.2 e2,λi hi bk=>(iW i (I.j_.1 bk)).2 ((I.j_ (o:=I.aL aU)).1 hi)⟩) λi hi=>by
  rcases I.j9.1 (show(I.sep ([I.aL aU]++[I.lines p c gs])).F i from hi) with q|q
  ·exact gq i (I.j_.1 q)
  ·exact(iW i (I.j_.1 q)).1
 have t4:=af.dI [I.aF s.b G.fi s.cells] [I.aL aU,I.lines p c gs] [I.aF a G.ew [s.ptr],I.aF v G.j8 [.slice none 0 0]] cg;subst hu;have ajP:At bD ⟨a,0,none⟩ 0 [s.ptr]:=(af.get [_,_,_] [_] t4).1.at_ (show 1<=maxLen by decide);refine⟨_,_,_,_,_,rfl,bO,ajP,_,rfl,af.ch (n:=3) [] [I.aL aU,I.lines p c gs,I.aF a G.ew [s.ptr],I.aF v G.j8 [.slice none 0 0]] t4 (show 4+3<=73 by omega),λbP iJ=>?_⟩;have t5:af w _ [] (I.sep (I.aF s.b G.fi ({s with az:=kR g.aC s.aq s.az}:cN).cells::[I.aL aU,I.lines p c gs,I.aF a G.ew [s.ptr],I.aF v G.j8 [.slice none 0 0]])) bP:=af.put (n:=0) [] [I.aL aU,I.lines p c gs,I.aF a G.ew [s.ptr],I.aF v G.j8 [.slice none 0 0]] t4 (show 4+3<=73 by omega) iJ;refine⟨af.ch (n:=1) [I.aF s.b G.fi ({s with az:=kR g.aC s.aq s.az}:cN).cells,I.aL aU,I.lines p c gs,I.aF a G.ew [s.ptr]] [] t5 (show 0+1<=1 by omega),λcu ot w' hb _=>⟨rfl,?_⟩⟩;have Df:af w _ [] (I.sep [I.aF s.b G.fi ({s with az:=kR g.aC s.aq s.az}:cN).cells,I.aL aU,I.lines p c gs,I.aF a G.ew [s.ptr],I.aF v G.j8 [.slice p gs.length c]]) cu:=af.put (n:=0) [I.aF s.b G.fi ({s with az:=kR g.aC s.aq s.az}:cN).cells,I.aL aU,I.lines p c gs,I.aF a G.ew [s.ptr]] [] t5 (show 0+1<=1 by omega) ot;have Dg:=Df.below hb;exact⟨_,aU,_,e3,⟨p,c,gs,rfl,e4,e1,rfl⟩,Dg.at_,λi hi=>(Dg.own i hi).1⟩
end
def Ke(w:World)(dN:I)(aJ:cS)(cI:List I)(lP:I->cc->List I->Prop)(v:Value)(w':World):Prop:=
 v= .int .i64 0/\∃dP r' dG dU,dU.b=aJ.b/\dU.bu=iO aJ.bu r'/\lP dP r' dG/\(I.sep (dP::bE dU::dG)).P w'/\∀i,(I.sep (dP::bE dU::dG)).F i->(I.sep (dN::bE aJ::cI)).F i∨w.heap.size<=i
theorem au0(r:cc)(aq:dz)(n:Int)(q:aT):(vw r aq n q).length<=r.ab.length/\∀l∈vw r aq n q,l∈r.ab:=by
 unfold vw;split
 ·unfold ox
  split
  ·exact⟨by simp;omega,λl hl=>ka (kA hl)⟩
  ·exact⟨by simp;omega,λl hl=>ka (kA hl)⟩
 ·exact⟨ef _,λl hl=>by cases hl⟩
theorem aht(r:cc)(aq:dz)(n:Int)(q:aT):(yS r aq n q).length<=r.ab.length/\∀l∈yS r aq n q,l∈r.ab:=by
 unfold yS;split
 ·exact⟨ef _,λl hl=>by cases hl⟩
 ·exact au0 _ _ _ _
theorem TB(r:cc)(aq:dz)(c:Cu)(q:aT):(sH r aq c q).length<=r.ab.length/\∀l∈sH r aq c q,l∈r.ab:=by
 unfold sH;split
 ·exact aht _ _ _ _
 ·exact⟨ef _,λl hl=>by cases hl⟩
def kS(q:bl):bl:=nQ (sH (c6.aL q.bu) q.aq q.az (dj q)) {q with az:=kR (c6.aL q.bu) q.aq q.az,bu:=iO q.bu (sG (c6.aL q.bu) q.aq q.az (dj q))}
theorem VY(v:c6)(r:cc):(iO v r).c_=v.c_:=by unfold iO;split<;>rfl
theorem aet{gs:List ck}{ab:List Li}(h:bJ gs=ab)(ah:∀l∈ab,pK l.cs=true):∀x∈gs,pK x.cs=true:=by
 intro x hx;have:x.jT∈ab:=by rw[<-h];exact lr.2 ⟨x,hx,rfl⟩
 exact ah _ this
section
variable{w0 w w' w1:World}{F0:Nat->Prop}{bs:List Nat}{o o':I}{l l' bM bq:List I}{R:Ending->World->Prop}{f:FuncId}{args:Array Value}{s s':cN}
theorem avb{dN:I}{aJ:cS}{cI:List I}{hi:lx}{dc:xw}{lP:I->cc->List I->Prop}(h:af w0 F0 bs (I.sep (I.cl hi::I.stops dc::dN::bE aJ::cI)) w1)(hm:∀b∈bs,b<w1.heap.size)
  (hc:(I.sep (dN::bE aJ::cI)).P w1->Laid w1->bI Tryz.prog f args w1 (I.sep (dN::bE aJ::cI)).F (Ke w1 dN aJ cI lP))
  (hR:∀ad dP r' dG dU,dU.b=aJ.b->dU.bu=iO aJ.bu r'->lP dP r' dG->af w0 F0 bs (I.sep (I.cl hi::I.stops dc::dP::bE dU::dG)) ad->eC w0.heap.size F0 bs w1 ad->R (.returned (.int .i64 0)) ad):dH Tryz.prog f args w1 R:=
 af.GG (fC:=λv _ lj=>v= .int .i64 0/\∃dP r' dG dU,lj=dP::bE dU::dG/\dU.b=aJ.b/\dU.bu=iO aJ.bu r'/\lP dP r' dG) [I.cl hi,I.stops dc] h hm
  (λa b=>(hc a b).mono (λ_ e=>e) λv ad _ ⟨q0,dP,r',dG,dU,q1,q2,cz,en,eB⟩=>⟨_,⟨q0,dP,r',dG,dU,rfl,q1,q2,cz⟩,en,eB⟩)
  λv ad lj ⟨q0,dP,r',dG,dU,hl,q1,q2,cz⟩ h2 hk=>by subst hl q0;exact hR ad dP r' dG dU q1 q2 cz h2 hk
end
end Go.Proofs.YtimbpmnbbfeogaaGreatDoor
abbrev Go.Sy.af.aaO:=@Go.Proofs.YtimbpmnbbfeogaaGreatDoor.avb
namespace Go.Proofs.YtimbpmnbbfeogaaGreatDoor
open Go Go.RowKit Go.Sy Go.Rep
section
variable{w0 w w' w1:World}{F0:Nat->Prop}{bs:List Nat}{o o':I}{l l' bM bq:List I}{R:Ending->World->Prop}{f:FuncId}{args:Array Value}{s s':cN}
theorem asq{a v:Nat}(aj:Laid w)(h:(I.sep (I.aF s.b G.fi s.cells::bE s.aJ::[I.aF a G.ew [s.ptr],I.aF v G.j8 [.slice none 0 0]])).P w)(hu:s.aJ.c_<=1)(hr:nA (c6.aL s.aJ.bu) s.aq)(hc:gM (c6.aL s.aJ.bu) s.az)(hq:ea (ed (dj s.av))=true):
  bI Tryz.prog X.oI #[.pointer (some ⟨s.aJ.b,0,none⟩), .func (.func X.C_) #[] #[.pointer (some ⟨a,0,none⟩), .pointer (some ⟨v,0,none⟩)]] w (I.sep (I.aF s.b G.fi s.cells::bE s.aJ::[I.aF a G.ew [s.ptr],I.aF v G.j8 [.slice none 0 0]])).F
   (Ke w (I.aF s.b G.fi s.cells) s.aJ [I.aF a G.ew [s.ptr],I.aF v G.j8 [.slice none 0 0]] λdP r' dG=>∃p c gs,dP=I.aF s.b G.fi ({s with az:=kR (c6.aL s.aJ.bu) s.aq s.az}:cN).cells/\r'=sG (c6.aL s.aJ.bu) s.aq s.az (dj s.av)/\bJ gs=sH (c6.aL s.aJ.bu) s.aq s.az (dj s.av)/\dG=[I.lines p c gs,I.aF a G.ew [s.ptr],I.aF v G.j8 [.slice p gs.length c]]):=by
 rw[<-cS.pv] at hr hc⊢;exact awO _ _ _ (DR (args:=λp=>#[.pointer p, .pointer (some ⟨a,0,none⟩), .pointer (some ⟨v,0,none⟩)]) aj h hu λV cY hP=>as_ cY hP hr hc hq)
theorem US{N:Nat}(aj:Laid w)(h:(Z s).P w)(ok:b5 N s.av)(hN:N+1000<=4611686018427387904)(hp:s.dq=0):bI Tryz.prog X.Ao #[s.ptr] w (Z s).F (λv w'=>v= .int .i64 0/\fK Z w s (λs'=>s'.b=s.b/\s'.av=kS s.av) w'):=by
 have hY:=aj.size;have hu:s.aJ.c_<=1:=ok.u;have Mm:((c6.aL s.aJ.bu).ab.length:Int)=s.an:=ok.aL.r;have aoZ:s.an<=1000:=ok.c1;have hnx:s.hi.r.next<=N:=ok.iL;refine azn _ λar ec aQ gA=>?_
 have aN:=af.start (bs:=[ar,aQ]) aj h ej;refine⟨_,Z.cell aN 2 rfl,λw1 hb1 q1 q2 oq=>?_⟩;have bX:=aN.below hb1;have hne:ar∉[aQ]:=(xi.1 oq).1;have dd:=bX.P5 (bs:=[aQ]) q1.2 ec hne hY;have a2:=dd.P5 (bs:=[]) q2.2 gA aS hY;refine af.aaO (cI:=[I.aF ar G.ew [s.ptr],I.aF aQ G.j8 [.slice none 0 0]]) a2 aS (λa b=>asq b a hu ok.NO ok.Bw ok.zd) λad dP r' dG dU hb' Cm amR aX aI=>⟨0,rfl,aI,?_⟩
 obtain⟨p,c,gs,rfl,rfl,qo,rfl⟩:=amR;obtain⟨t2,z2⟩:=af.release (l:=[I.cl s.hi,I.stops s.dc,I.aF s.b G.fi ({s with az:=kR (c6.aL s.aJ.bu) s.aq s.az}:cN).cells,bE dU,I.lines p c gs,I.aF ar G.ew [s.ptr]]) aX;obtain⟨iB,xc⟩:=af.release (l:=[I.cl s.hi,I.stops s.dc,I.aF s.b G.fi ({s with az:=kR (c6.aL s.aJ.bu) s.aq s.az}:cN).cells,bE dU,I.lines p c gs]) t2;refine⟨_,xc,_,_,_,z2,λbw bp fN=>?_⟩;have e:({s with az:=kR (c6.aL s.aJ.bu) s.aq s.az,aJ:=dU}:cN).cells=({s with az:=kR (c6.aL s.aJ.bu) s.aq s.az}:cN).cells:=by
  show _::_::dU.ptr::_=_::_::s.aJ.ptr::_;unfold cS.ptr;rw[hb']
 have t3:af w (Z s).F [ar,aQ] (I.sep ([I.cl s.hi,I.stops s.dc,I.aF s.b G.fi ({s with az:=kR (c6.aL s.aJ.bu) s.aq s.az,aJ:=dU}:cN).cells,bE dU]++[I.lines p c gs])) bw:=by
  rw[e];exact iB.below bp
 obtain⟨nk,gu,s0⟩:=I.mq.1 t3.at_;have t4:af w (Z s).F [ar,aQ] (I.sep ([I.lines p c gs]++[I.sep [I.cl s.hi,I.stops s.dc,I.aF s.b G.fi ({s with az:=kR (c6.aL s.aJ.bu) s.aq s.az,aJ:=dU}:cN).cells,bE dU]])) bw:=by
  have:=t3.pN (xh);exact this.conv (I.yM.1 this.at_) λi hi=>I.wY.2 hi
 have wu:=TB (c6.aL s.aJ.bu) s.aq s.az (dj s.av);have Hz:gs.length=(sH (c6.aL s.aJ.bu) s.aq s.az (dj s.av)).length:=by rw[<-qo];simp[bJ]
 have hm:∀b∈[ar,aQ],b<bw.heap.size:=cB.all fN;refine af.call (o:=Z {s with az:=kR (c6.aL s.aJ.bu) s.aq s.az,aJ:=dU}) [I.lines p c gs] [] t4 hm (λa b=>af4 (s:={s with az:=kR (c6.aL s.aJ.bu) s.aq s.az,aJ:=dU}) b a ?_ (I.rK.1 gu) (λi hi bk=>s0 i bk (I.j_.2 hi)) (aet qo λl hl=>(ok.aL.ok l (wu.2 l hl)).2) ?_ hp) λv bD ⟨ah,cg,⟨eR,aoN⟩,aZ,LA⟩ hs=>?_
 ·have:=dx c6.c_ Cm
  rw[VY] at this;have h1:dU.c_=s.aJ.c_:=this;show dU.c_<=1;omega
 ·show s.hi.r.next+gs.length<=_
  omega
 ·obtain⟨ey,eH⟩:=hs (Z cg) aZ LA
  refine⟨dx Ending.returned ah,eH,λw' hb _=>⟨rfl,?_⟩⟩;have eJ:af w (Z s).F [ar,aQ] (Z cg) bD:=ey.conv (o':=Z cg) (ey.at_.1 _ aS) (λi hi=>⟨Z cg,by simp,hi⟩);refine af.bQ (eJ.below hb) ⟨eR,?_⟩;rw[aoN,qo,kS];congr 1;show bl.mk _ _ dU.bu _ _ _ _ _ _ _ _ _ _ _ _ _ _=_;rw[Cm];rfl
end
end Go.Proofs.YtimbpmnbbfeogaaGreatDoor
namespace Go.Sy
open Go.RowKit (Below)
abbrev gQ(x:Nat×TypeId×List Value):I:=I.aF x.1 x.2.1 x.2.2
section
variable{w0 w w' w1:World}{F0:Nat->Prop}{o o':I}
theorem af.P6:∀(cI:List (Nat×TypeId×List Value)) {bs:List Nat} {l:List I},af w0 F0 (cI.map (·.1)++bs) (I.sep l) w->(∀x∈cI,w0.heap.size<=x.1/\Whole w x.1 x.2.1 x.2.2)->(cI.map (·.1)++bs).Nodup->Go.Proofs.YtimbpmnbbfeogaaGreatDoor.Y.dZ<=w0.heap.size->af w0 F0 bs (I.sep (l++cI.map gQ)) w
 |[],bs,l,h,_,_,_=>by simpa using h
 |x::cI,bs,l,h,hw,hn,hY=>by
  have hx:=hw x (kB ..);have qp:=xi.1 (show(x.1::(cI.map (·.1)++bs)).Nodup from hn);have h1:=af.P5 (bs:=cI.map (·.1)++bs) h hx.2 hx.1 qp.1 hY;have:=af.P6 cI h1 (λy hy=>hw y (jt _ hy)) qp.2 hY;simpa using this
theorem af.U4:∀(cI:List (Nat×TypeId×List Value)) {bs:List Nat} {l:List I},af w0 F0 bs (I.sep (l++cI.map gQ)) w->af w0 F0 (cI.map (·.1)++bs) (I.sep l) w/\∀x∈cI,Whole w x.1 x.2.1 x.2.2
 |[],bs,l,h=>⟨by simpa using h,λx hx=>by cases hx⟩
 |x::cI,bs,l,h=>by
  have h1:af w0 F0 bs (I.sep ((l++[gQ x])++cI.map gQ)) w:=by simpa using h
  obtain⟨h2,aw⟩:=af.U4 cI h1;obtain⟨aZ,ca⟩:=af.release (l:=l) h2;exact⟨aZ,λy hy=>(e7.1 hy).elim (λe=>by rw[e];exact ca) (aw y)⟩
end
end Go.Sy
namespace Go.Proofs.YtimbpmnbbfeogaaGreatDoor
open Go Go.RowKit Go.Sy Go.Rep
abbrev d_(s:cN):I:=I.aF s.b G.fi s.cells
abbrev xo:=List (Nat×TypeId×List Value)
def pY(w:World)(dN:I)(g:cV)(cI:List I)(lP:I->cc->List I->Prop)(v:Value)(w':World):Prop:=
 v= .int .i64 0/\∃dP aU dG,aU.b=g.b/\lP dP aU.aC dG/\(I.sep (dP::I.aL aU::dG)).P w'/\∀i,(I.sep (dP::I.aL aU::dG)).F i->(I.sep (dN::I.aL g::cI)).F i∨w.heap.size<=i
def A7(s:cN)(az:Cu)(r:cc)(cI:xo)(dP:I)(r':cc)(dG:List I):Prop:=dP=d_ {s with az:=az}/\r'=r/\dG=cI.map gQ
section
variable{w0 w w' w1:World}{F0:Nat->Prop}{bs:List Nat}{o o':I}{l l' bM bq:List I}{R:Ending->World->Prop}{f:FuncId}{args:Array Value}{s s':cN}{g:cV}
theorem Rw{g aU:cV}(h:aU.ptr=g.ptr):aU.b=g.b:=by
 unfold cV.ptr at h;injection h with h
 injection h with h
 injection h
theorem pY.of{cI:List I}{az:Cu}{r:cc}{dG:xo}{aU:cV}(h:af w (I.sep (d_ s::I.aL g::cI)).F [] (I.sep (d_ {s with az:=az}::I.aL aU::dG.map gQ)) w')(hp:aU.ptr=g.ptr)(hr:aU.aC=r):pY w (d_ s) g cI (A7 s az r dG) (.int .i64 0) w':=
 ⟨rfl,_,aU,_,Rw hp,⟨rfl,hr,rfl⟩,h.at_,λi hi=>(h.own i hi).1⟩
theorem Z.GL{cI r7:xo}{az:Cu}{r:cc}(h:af w0 F0 (cI.map (·.1)++bs) (Z s) w1)(hw:∀x∈cI,w0.heap.size<=x.1/\Whole w1 x.1 x.2.1 x.2.2)(hn:(cI.map (·.1)++bs).Nodup)(hY:Y.dZ<=w0.heap.size)(hm:∀b∈bs,b<w1.heap.size)(h2:r7.map (·.1)=cI.map (·.1))
  (hc:(I.sep (d_ s::bE s.aJ::cI.map gQ)).P w1->Laid w1->bI Tryz.prog f args w1 (I.sep (d_ s::bE s.aJ::cI.map gQ)).F (Ke w1 (d_ s) s.aJ (cI.map gQ) (A7 s az r r7)))
  (hR:∀ad s',s'.b=s.b->s'.av={s.av with az:=az,bu:=iO s.av.bu r}->s'.aJ.b=s.aJ.b->s'.hi=s.hi->s'.dc=s.dc->af w0 F0 (cI.map (·.1)++bs) (Z s') ad->(∀x∈r7,Whole ad x.1 x.2.1 x.2.2)->eC w0.heap.size F0 bs w1 ad->R (.returned (.int .i64 0)) ad):dH Tryz.prog f args w1 R:=by
 have h1:=h.P6 cI hw hn hY;refine af.aaO (hi:=s.hi) (dc:=s.dc) h1 hm hc λad dP r' dG dU hb Cm ⟨e1,e2,e3⟩ t2 aI=>?_
 subst e1 e2 e3;have e:({s with az:=az,aJ:=dU}:cN).cells=({s with az:=az}:cN).cells:=by
  show _::_::dU.ptr::_=_::_::s.aJ.ptr::_;unfold cS.ptr;rw[hb]
 obtain⟨t3,z3⟩:=af.U4 (l:=[I.cl s.hi,I.stops s.dc,d_ {s with az:=az},bE dU]) r7 t2;rw[h2] at t3;have t4:af w0 F0 (cI.map (·.1)++bs) (Z {s with az:=az,aJ:=dU}) ad:=by
  unfold Z;rw[e];exact t3
 refine hR ad {s with az:=az,aJ:=dU} rfl ?_ hb rfl rfl t4 z3 aI;show bl.mk _ _ dU.bu _ _ _ _ _ _ _ _ _ _ _ _ _ _=_;rw[Cm];rfl
abbrev zf(a b:Nat)(row:Int)(cU:Bool):xo:=[(a,G.int,[.int .i64 row]),(b,G.bool,[.bool cU])]
theorem auk{a b:Nat}{row:Int}{cU:Bool}(aj:Laid w)(h:(I.sep (d_ s::I.aL g::(zf a b row cU).map gQ)).P w)(aW:0<=row)(h1:row<g.aC.ab.length):
  bI Tryz.prog X.Fv #[.pointer (some ⟨g.b,0,none⟩), .pointer (some ⟨a,0,none⟩), .pointer (some ⟨b,0,none⟩)] w (I.sep (d_ s::I.aL g::(zf a b row cU).map gQ)).F (pY w (d_ s) g ((zf a b row cU).map gQ) (A7 s s.az (mO g.aC row cU) (zf a b row cU))):=by
 have aN:=af.start (bs:=[]) aj h aS;refine azB _ _ _ ⟨_,(af.get [_,_] [_] aN).1.at_ (show 1<=maxLen by decide),_,(af.get [_,_,_] [] aN).1.at_ (show 1<=maxLen by decide),λw1 hb1=>?_⟩;have bX:=aN.below hb1;refine af.aL (fC:=λv _=>v= .int .i64 0) [d_ s] ((zf a b row cU).map gQ) bX aS (λx y=>by have:=afJ (row:=row) (b:=cU) y x;rw[show nW g.aC row=0 by unfold nW;rw[ag M]] at this;exact this) λv ad aU ah hp hg aX aI=>⟨_,dx Ending.returned ah,aI,λw' hb _=>pY.of (aX.below hb) hp hg⟩
def pa(row:Int)(cU:Bool)(q:bl):bl:={q with bu:=iO q.bu (mO (c6.aL q.bu) row cU)}
theorem at8{N:Nat}{row:Int}{cU:Bool}(aj:Laid w)(h:(Z s).P w)(ok:b5 N s.av)(aW:0<=row)(h1:row<s.an):bI Tryz.prog X.Ap #[s.ptr, .int .i64 row, .bool cU] w (Z s).F (λv w'=>v= .int .i64 0/\fK Z w s (λs'=>s'.b=s.b/\s'.av=pa row cU s.av) w'):=by
 have hY:=aj.size;have hu:s.aJ.c_<=1:=ok.u;have hrow:row<(cS.aL s.aJ).aC.ab.length:=by have:=ok.aL.r;rw[cS.pv];show row<((c6.aL s.av.bu).ab.length:Int);rw[this];exact h1
 refine azA _ row cU λar ec aQ gA=>?_
 have aN:=af.start (bs:=(zf ar aQ row cU).map (·.1)++[]) aj h ej;refine⟨_,Z.cell aN 2 rfl,λw1 hb1 q1 q2 oq=>?_⟩;refine Z.GL (cI:=zf ar aQ row cU) (r7:=zf ar aQ row cU) (az:=s.az) (r:=mO (cS.aL s.aJ).aC row cU) (aN.below hb1) XI oq hY aS rfl (λa b=>awS _ _ _ (DR (args:=λp=>#[.pointer p, .pointer (some ⟨ar,0,none⟩), .pointer (some ⟨aQ,0,none⟩)]) b a hu λV cY hP=>auk cY hP aW hrow)) λad s' hb' rm _ _ _ aX z2 aI=>⟨0,rfl,aI,_,z2 _ (List.Mem.head _),_,z2 _ (List.Mem.tail _ (List.Mem.head _)),λw' hb _=>⟨rfl,af.bQ (aX.below hb) ⟨hb',?_⟩⟩⟩
 rw[rm,cS.pv];rfl
end
def jB(l:List bC):Prop:=∀j,j<l.length->ea (cP l j)=true/\((cP l j).w=0↔0<j/\(cP l (j-1)).w=2)/\(0<j->(cP l (j-1)).w=2->(cP l j).p=(cP l (j-1)).p)/\((cP l j).w=2->j+1<l.length)
theorem au6(l:List bC)(j:Nat):rI l j=true↔ea (cP l j)=true/\((cP l j).w=0↔0<j/\(cP l (j-1)).w=2)/\(0<j->(cP l (j-1)).w=2->(cP l j).p=(cP l (j-1)).p)/\¬((cP l j).w=2/\(j:Int)=l.length-1):=by
 unfold rI zc;have e:((j:Int)-1).toNat=j-1:=by omega
 simp only[fR,jN,e,beq_iff_eq,vK,XT,F_,JK,lM];constructor
 ·rintro⟨⟨⟨h1,h2⟩,aw⟩,aZ⟩
  refine⟨h1,?_,λa b=>?_,λu=>aZ.elim (λv=>v u.1) λv=>v u.2⟩
  ·have:decide ((cP l j).w=0)=true↔(decide ((0:Int)<j)&&decide ((cP l (j-1)).w=2))=true:=by rw[h2]
   simpa using this
  ·rcases aw with(aw|aw)|aw
   ·omega
   ·exact absurd b aw
   ·exact aw
 ·rintro⟨h1,h2,aw,aZ⟩
  refine⟨⟨⟨h1,?_⟩,?_⟩,?_⟩
  ·by_cases q:(cP l j).w=0
   ·have:=h2.1 q
    simp[q,this.1,this.2]
   ·simp only[q,decide_false]
    by_cases q1:0<j
    ·have:¬(cP l (j-1)).w=2:=λu=>q (h2.2 ⟨q1,u⟩)
     simp[this]
    ·simp[q1]
  ·by_cases q1:0<j
   ·by_cases q2:(cP l (j-1)).w=2
    ·exact .inr (aw q1 q2)
    ·exact .inl (.inr q2)
   ·exact .inl (.inl M)
  ·by_cases q:(cP l j).w=2
   ·exact .inr λu=>aZ ⟨q,u⟩
   ·exact .inl q
theorem agm(l:List bC):vx l=true↔jB l:=by
 have key:∀k,sU l k=true↔∀j,j<k->rI l j=true:=by
  intro k
  induction k with
  |zero=>exact⟨λ_ j hj=>by omega,λ_=>rfl⟩
  |succ k ih=>
   rw[sU,fR,ih];exact⟨λ⟨a,b⟩ j hj=>by rcases X8.1 hj with q|q;exact a j q;rw[q];exact b,λa=>⟨λj hj=>a j M,a k M⟩⟩
 unfold vx jB;rw[key];refine forall_congr' λj=>forall_congr' λhj=>?_
 rw[au6];refine XU λ_=>XU λ_=>XU λ_=>⟨λh e=>?_,λh u=>?_⟩
 ·have:¬(j:Int)=l.length-1:=λu=>h ⟨e,u⟩
  omega
 ·have:=h u.1
  omega
theorem ZV{n j:Nat}{c:bC}(h:j<n):cP (List.replicate n c) j=c:=by simp[cP,h]
theorem KA{n:Nat}{q:aT}(hq:h0 q=true):jB (List.replicate n (ed q)):=by
 intro j hj;rw[n3] at hj;rw[ZV hj];have h1:∀i,i<n->cP (List.replicate n (ed q)) i=ed q:=λi hi=>ZV hi
 refine⟨FN hq,⟨λe=>mR,λ⟨a,b⟩=>?_⟩,λa b=>?_,λe=>mR⟩
 ·rw[h1 _ M] at b
  cases b
 ·rw[h1 _ M] at b
  cases b
theorem CO(cs:List bC):pK cs=true↔cs.length<=1000/\jB cs:=by
 unfold pK;rw[fR,lM,agm]
section
variable{P:List bC->Prop}{ab:List Li}
theorem MG{j:Nat}(h:j<ab.length):hX ab j∈ab:=by
 unfold hX;rw[kb,el h];exact vM h
theorem V_(h:∀l∈ab,P l.cs)(j:Nat):∀l∈sV ab j,P l.cs:=by
 intro l hl;unfold sV at hl
 by_cases hj:j<ab.length
 ·rcases vI hl with q|q
  ·exact h l q
  ·rw[q]
   exact h (hX ab j) (MG hj)
 ·rw[F6 M] at hl
  exact h l hl
theorem ag1(ab:List Li)(j:Nat):(sV ab j).length=ab.length:=by simp[sV]
theorem FG{IA:List Li}(h:∀l∈ab,P l.cs)(hs:∀l∈IA,l∈ab):∀l∈IA,P l.cs:=λl hl=>h l (hs l hl)
theorem r1{IA:List Li}(h:∀l∈ab,P l.cs)(h':∀l∈IA,P l.cs):∀l∈ab++IA,P l.cs:=λl hl=>(gi.1 hl).elim (h l) (h' l)
theorem auX{t L k:Nat}{n:Int}{uO:Li}(h:∀l∈ab,P l.cs)(hb:P uO.cs):∀l∈yF ab t L k n uO,P l.cs:=by
 have mid:∀{a b:Nat},∀l∈(ab.drop a).take b,l∈ab:=λl hl=>ka (kA hl)
 have dJ:∀l∈mm sV ab t L k n,P l.cs:=by
  unfold mm;have q1:∀l∈ab.take t++(ab.drop (t+k)).take (L-k),P l.cs:=r1 (FG h λl hl=>kA hl) (FG h mid);split
  ·split
   ·exact V_ q1 _
   ·exact q1
  ·exact FG h λl hl=>kA hl
 have hR:∀l∈o8 sV ab t L k n,P l.cs:=by
  unfold o8;have q1:∀l∈(ab.drop t).take (L-k)++ab.drop (t+L),P l.cs:=r1 (FG h mid) (FG h λl hl=>ka hl);split
  ·exact FG h λl hl=>ka hl
  ·split
   ·exact V_ q1 _
   ·exact q1
 have hY:∀l∈Fh ab t L k n uO,P l.cs:=r1 (r1 dJ λl hl=>by rw[JV hl];exact hb) hR;unfold yF;split
 ·exact V_ hY _
 ·exact hY
theorem auY{t L k:Nat}{n:Int}{uO:Li}(h:t+L<=ab.length)(hk:k<=L):(yF ab t L k n uO).length=ab.length:=by
 have hY:(Fh ab t L k n uO).length=ab.length:=by
  unfold Fh mm o8;split<;>split<;>simp[ag1]<;>omega
 unfold yF;split
 ·rw[ag1,hY]
 ·exact hY
end
theorem Fg{r:cc}{aq:dz}{n:Int}{q:aT}{an ai:Int}(h:fS r an ai)(hq:h0 q=true)(h2:ai<=1000):fS (kW r aq n q) an ai:=by
 unfold kW;split
 ·next e=>
  have he:=e.1;unfold qG at he;have kO:¬(aq.bf<0∨aq.b7<aq.bf∨(r.ab.length:Int)<=aq.b7):=λu=>by rw[aA u] at he;cases he
  refine⟨h.c,?_,?_⟩
  ·have:=h.r
   show((yF _ _ _ _ _ _).length:Int)=an;rw[auY M (ad' e.2 M).2];exact this
  ·refine auX (P:=λcs=>cs.length=r.ai/\pK cs=true) (λl hl=>h.ok l hl) ⟨n3,?_⟩
   rw[CO,n3];exact⟨by have:=h.c;omega,KA hq⟩
 ·exact h
theorem av8{r:cc}{k:Nat}{b:Bool}{an ai:Int}(h:fS r an ai):fS (FB r k b) an ai:=by
 refine⟨h.c,by rw[<-h.r];simp[FB],λl hl=>?_⟩;unfold FB at hl;dsimp only at hl
 by_cases hk:k<r.ab.length
 ·rcases vI hl with q|q
  ·exact h.ok l q
  ·rw[q]
   exact h.ok (hX r.ab k) (MG hk)
 ·rw[F6 M] at hl
  exact h.ok l hl
theorem N7{r:cc}{row:Int}{b:Bool}{an ai:Int}(h:fS r an ai):fS (mO r row b) an ai:=by
 unfold mO;split
 ·exact av8 h
 ·exact h
theorem adH{r:cc}{aq:dz}{c:Cu}{q:aT}{an ai:Int}(h:fS r an ai)(hq:h0 q=true)(h2:ai<=1000):fS (sG r aq c q) an ai:=by
 unfold sG;split
 ·exact Fg h hq h2
 ·exact h
theorem avM{v:c6}{r:cc}{an ai:Int}(aW:fS v.aR an ai)(h1:fS v.g1 an ai)(h:fS r an ai):fS (iO v r).aR an ai/\fS (iO v r).g1 an ai:=by
 unfold iO;split
 ·exact⟨aW,h⟩
 ·exact⟨h,h1⟩
theorem avL(v:c6)(r:cc):(iO v r).kept=v.kept:=by unfold iO;split<;>rfl
theorem afv:∀(ab:List Li) (q:fp),(Ad q ab).next=q.next+ab.length
 |[],q=>rfl
 |l::ab,q=>by
  have:=afv ab (IZ q l);show(Ad (IZ q l) ab).next=_;rw[this];show q.next+1+ab.length=q.next+(ab.length+1);omega
theorem aeb{N:Nat}{q:bl}{ab:List Li}(h:b5 N q):b5 (N+ab.length) (nQ ab q):=by
 unfold nQ;have hn:=h.iL;split
 ·exact{h with iL:=by show(Ad q.ah ab).next<=_;rw[afv];omega}
 ·exact{h with iL:=by omega}
theorem aec{q:bl}{ab:List Li}:(nQ ab q).dq<=q.dq+ab.length/\q.dq<=(nQ ab q).dq:=by
 unfold nQ;split
 ·exact⟨n4 _,by show q.dq<=q.dq+(ab.length:Int);omega⟩
 ·exact⟨by omega,n4 _⟩
theorem Fx{N:Nat}{q:bl}{az:Cu}{r:cc}(h:b5 N q)(hr:fS r q.an q.ai)(hc:gM r az):b5 N {q with az:=az,bu:=iO q.bu r}:=by
 obtain⟨a,b⟩:=avM h.aR h.g1 hr;have e1:=hr.r;have e2:=hr.c;obtain⟨bY,c2,c3,c4,c5⟩:=hc;exact{h with aR:=a,g1:=b,u:=by show(iO q.bu r).c_<=1;rw[VY];exact h.u,k:=by show ∀s,(iO q.bu r).kept=some s->_;rw[avL];exact h.k,mX:=bY,mY:=by show az.row<q.an;omega,mV:=c3,mW:=by show az.ae<q.ai;omega,d':=λe=>by show az.ae=q.ai-1;have:=c5 e;omega}
theorem apH{r:cc}{aq:dz}{c:Cu}{p:aT}(h:gM r c)(hg:fS (sG r aq c p) r.ab.length r.ai):gM (sG r aq c p) (kR r aq c):=by
 obtain⟨bY,c2,c3,c4,c5⟩:=h;have e1:=hg.r;have e2:=hg.c;unfold gM kR;split
 ·exact⟨bY,by dsimp only;omega,c3,by dsimp only;omega,λe=>by cases e⟩
 ·exact⟨by dsimp only;omega,by dsimp only;omega,c3,by dsimp only;omega,λe=>by cases e⟩
theorem fS.self{r:cc}{an ai:Int}(h:fS r an ai):fS r r.ab.length r.ai:=⟨rfl,rfl,h.ok⟩
theorem ye{N:Nat}{q:bl}(h:b5 N q):b5 (N+1000) (kS q):=by
 have hg:=h.aL;have hi:=adH (aq:=q.aq) (c:=q.az) (q:=dj q) hg (CP h.bV) h.c2;have wu:=TB (c6.aL q.bu) q.aq q.az (dj q);have e1:=hg.r;have e2:=hg.c;have h2:=h.c1;have hk:=aeb (ab:=sH (c6.aL q.bu) q.aq q.az (dj q)) (Fx (az:=kR (c6.aL q.bu) q.aq q.az) h hi (apH h.Bw (adH hg.self (CP h.bV) (by have:=h.c2;omega))));unfold kS;exact{hk with iL:=ek hk.iL M}
theorem FE{N:Nat}{q:bl}{row:Int}{b:Bool}(h:b5 N q):b5 N (pa row b q):=
 Fx (az:=q.az) h (N7 h.aL) (by
  have hi:=h.Bw;have e:(mO (c6.aL q.bu) row b).ab.length=(c6.aL q.bu).ab.length:=V5;have e2:(mO (c6.aL q.bu) row b).ai=(c6.aL q.bu).ai:=by unfold mO;split<;>rfl
  unfold gM at hi⊢;rw[e,e2]
  exact hi)
def l4(c:Cu)(q:bl):bl:={q with az:=c}
def kD(q:bl):Cu:=⟨q.az.row,max 0 (min 0 (q.ai-1)),false⟩
def k5(dT:Int)(q:bl):bl:=if dT=q.aq.b7/\q.aq.bf<dT then pa (dT-1) true q else if dT≠q.aq.b7/\q.az.row=dT then pa dT false q else q
def nY(q:bl):bl:=k5 q.az.row (l4 (kD (kS (pa q.az.row true q))) (kS (pa q.az.row true q)))
theorem ap8{q:bl}{ab:List Li}:(nQ ab q).an=q.an/\(nQ ab q).ai=q.ai/\(nQ ab q).aq=q.aq/\(nQ ab q).az=q.az/\(nQ ab q).bA=q.bA:=by
 unfold nQ;split<;>exact⟨rfl,rfl,rfl,rfl,rfl⟩
theorem apM(q:bl):(kS q).an=q.an/\(kS q).ai=q.ai/\(kS q).aq=q.aq/\(kS q).bA=q.bA:=by
 have:=ap8 (q:={q with az:=kR (c6.aL q.bu) q.aq q.az,bu:=iO q.bu (sG (c6.aL q.bu) q.aq q.az (dj q))}) (ab:=sH (c6.aL q.bu) q.aq q.az (dj q));exact⟨this.1,this.2.1,this.2.2.1,this.2.2.2.2⟩
theorem yN{N:Nat}{q:bl}{c:Cu}(h:b5 N q)(hc:c.ok (gZ q)):b5 N (l4 c q):={h with mX:=hc.de,mY:=hc.c1,mV:=hc.bY,mW:=hc.c2,d':=hc.p}
theorem JW{N:Nat}{q:bl}(h:b5 N q):(kD q).ok (gZ q):=⟨h.mX,h.mY,by show 0<=max 0 (min 0 (q.ai-1));omega,by have:=h.bY;show max 0 (min 0 (q.ai-1))<q.ai;omega,λe=>by cases e⟩
theorem aBf{N:Nat}{q:bl}{dT:Int}(h:b5 N q):b5 N (k5 dT q):=by
 unfold k5
 repeat' (first|exact FE h|exact h|split)
theorem Xn{N:Nat}{q:bl}(h:b5 N q):b5 (N+1000) (nY q):=aBf (yN (ye (FE h)) (JW (ye (FE h))))
section
variable{w0 w w' w1:World}{F0:Nat->Prop}{bs:List Nat}{o o':I}{l l' bM bq:List I}{R:Ending->World->Prop}{f:FuncId}{args:Array Value}{s s':cN}
theorem Z.Wr{N:Nat}{row:Int}{cU:Bool}{b:Nat}(h:af w0 F0 bs (Z s) w1)(hb:s.b=b)(ok:b5 N s.av)(hm:∀b∈bs,b<w1.heap.size)(aW:0<=row)(h1:row<s.av.an)
  (hR:∀ad s',s'.b=b->s'.av=pa row cU s.av->af w0 F0 bs (Z s') ad->eC w0.heap.size F0 bs w1 ad->R (.returned (.int .i64 0)) ad):dH Tryz.prog X.Ap #[.pointer (some ⟨b,0,none⟩), .int .i64 row, .bool cU] w1 R:=by
 subst hb;exact af.Bq (mI:=Z) (fC:=λv=>v= .int .i64 0) h hm (λa b=>at8 b a ok aW h1) λv ad y ah ⟨e1,e2⟩ h2 hk=>by subst ah;exact hR ad y e1 e2 h2 hk
theorem Z.apL{N:Nat}{b:Nat}(h:af w0 F0 bs (Z s) w1)(hb:s.b=b)(ok:b5 N s.av)(hm:∀b∈bs,b<w1.heap.size)(hN:N+1000<=4611686018427387904)(hp:s.av.dq=0)
  (hR:∀ad s',s'.b=b->s'.av=kS s.av->af w0 F0 bs (Z s') ad->eC w0.heap.size F0 bs w1 ad->R (.returned (.int .i64 0)) ad):dH Tryz.prog X.Ao #[.pointer (some ⟨b,0,none⟩)] w1 R:=by
 subst hb;exact af.Bq (mI:=Z) (fC:=λv=>v= .int .i64 0) h hm (λa b=>US b a ok hN hp) λv ad y ah ⟨e1,e2⟩ h2 hk=>by subst ah;exact hR ad y e1 e2 h2 hk
theorem Z.tq{b:Nat}(h:af w0 F0 bs (Z s) w1)(hb:s.b=b)(hR:∀ad,af w0 F0 bs (Z s) ad->U bg w1 ad->R (.returned (.agg (gZ s.av).T)) ad):dH Tryz.prog X.mN #[.pointer (some ⟨b,0,none⟩)] w1 R:=by
 subst hb;exact h.ret (λa b=>atT b a) hR
theorem Z.q9{b:Nat}(h:af w0 F0 bs (Z s) w)(hb:s.b=b)(k:Nat){cj:List Value}(hu:cj=(s.cells.drop k).take cj.length):At w ⟨b,0,none⟩ k cj:=by subst hb;exact Z.cell h k hu
theorem Z.tx{b:Nat}(h:af w0 F0 bs (Z s) w)(hb:s.b=b){k n:Nat}(hk:k+n<=73):ct w ⟨b,0,none⟩ k n/\cp w0.heap.size F0 bs b:=by subst hb;exact Z.ch h hk
theorem Z.yB{c:Cu}{cf:List Nat}{b:Nat}(h:af w0 F0 bs (Z s) w)(hb:s.b=b)(hp:bH w cf ⟨b,0,none⟩ 4 c.T.toList w')(hd:∀d∈cf,d∈bs)(fa:∀b∈bs,w0.heap.size<=b)(hY:Y.dZ<=w0.heap.size):af w0 F0 bs (Z {s with az:=c}) w':=by
 subst hb;exact Z.Ae h hp hd fa hY OX rfl rfl rfl rfl rfl
theorem aua{N:Nat}(aj:Laid w)(h:(Z s).P w)(ok:b5 N s.av)(hN:N+1000<=4611686018427387904)(hp:s.dq=0):bI Tryz.prog X.N3 #[s.ptr] w (Z s).F (λv w'=>v= .int .i64 0/\fK Z w s (λs'=>s'.b=s.b/\s'.av=nY s.av) w'):=by
 have hY:=aj.size;have aN:=af.start (bs:=[]) aj h aS;obtain⟨q0,qs⟩:∃q0,s.av=q0:=⟨_,rfl⟩;have hrow:s.az.row=q0.az.row:=by rw[<-qs];rfl
 have Cl:q0.dq=0:=by rw[<-qs];exact hp
 rw[qs] at ok⊢;refine azF _ ⟨q0.az.row,by rw[<-hrow];exact Z.cell aN 4 rfl,λw1 hb1=>?_⟩;refine Z.Wr (N:=N) (aN.below hb1) rfl (by rw[qs];exact ok) aS ok.mX (by rw[qs];exact ok.mY) λad yL ana Mk aX aI=>⟨0,rfl,aI,λe=>absurd rfl e,λ_ bw bp=>?_⟩
 rw[qs] at Mk;have yv:b5 N (pa q0.az.row true q0):=FE ok;refine Z.apL (N:=N) (aX.below bp) ana (by rw[Mk];exact yv) aS hN (by rw[Mk];exact Cl) λbD bZ gH zN cg bO=>⟨0,rfl,bO,λe=>absurd rfl e,λ_=>?_⟩
 rw[Mk] at zN;obtain⟨q2,Mh⟩:∃q2,kS (pa q0.az.row true q0)=q2:=⟨_,rfl⟩;have sM:b5 (N+1000) q2:=by rw[<-Mh];exact ye yv
 have S8:q2.an=q0.an:=by rw[<-Mh];exact(apM _).1
 have Mt:nY q0=k5 q0.az.row (l4 (kD q2) q2):=by rw[nY,Mh]
 rw[Mh] at zN;have ank:bZ.az=q2.az:=by rw[<-zN];rfl
 have am4:gZ bZ.av=gZ q2:=by rw[zN]
 have S6:∀{V:World},Laid V->di X.yo #[.agg (gZ bZ.av).T, .agg bZ.az.T] V (.tuple #[.agg (kD q2).T, .int .i64 0]):=λcY=>by
  rw[ank,am4];exact KK sM.p7 sM.az _ cY
 have aCk:=cg.kept.size;refine⟨bZ.az,Z.q9 cg gH 4 rfl,⟨λky zx=>Z.tq (cg.below zx) gH λAA Am Sj=>⟨_,rfl,Sj.O,Z.q9 Am gH 4 rfl,λXc Ho=>(Am.below Ho).ret (λ_ b=>S6 b) λahM kZ vc=>⟨_,_,rfl,vc.O,λn hn=>⟨λe=>absurd rfl e,λ_=>⟨Z.tx (kZ.cZ hn) gH M,?_⟩⟩⟩,λn hn rQ tE aoe=>((Am.cZ hn).below tE).ret (λ_ b=>S6 b) λahM kZ vc=>⟨_,_,rfl,vc.O,λe=>absurd rfl e,λ_=>⟨Z.tx kZ gH M,?_⟩⟩⟩,λn hn rQ tE aoe=>Z.tq ((cg.cZ hn).below tE) gH λAA Am Sj=>⟨_,rfl,Sj.O,Z.q9 Am gH 4 rfl,λXc Ho aCv=>(Am.below Ho).ret (λ_ b=>S6 b) λahM kZ vc=>⟨_,_,rfl,vc.O,λe=>absurd rfl e,λ_=>⟨Z.tx kZ gH M,?_⟩⟩⟩⟩⟩
 ·replace kZ:=kZ.cZ hn
  intro V Ch;have x_:w.heap.size<=n:=by first|(have:=cg.kept.size;omega)|(have:=Am.kept.size;omega)|(have:=kZ.kept.size;omega)
  have gW:af w (Z s).F ([]++[n]) (Z {bZ with az:=kD q2}) V:=Z.yB kZ gH Ch aS OY hY;have nO:({bZ with az:=kD q2}:cN).av=l4 (kD q2) q2:=by rw[<-zN];rfl
  have Ul:b5 (N+1000) (l4 (kD q2) q2):=yN sM (JW sM);have mj:bZ.aq=q2.aq:=by rw[<-zN];rfl
  have bQ:∀{jC:World} {eb:cN},af w (Z s).F ([]++[n]) (Z eb) jC->eb.b=s.b->eb.av=k5 q0.az.row (l4 (kD q2) q2)->Sy.aa w (Z s).F jC (λv w'=>v= .int .i64 0/\fK Z w s (λs'=>s'.b=s.b/\s'.av=nY q0) w') (.int .i64 0):=λh1 h2 aw w' hb _=>⟨rfl,af.bQ (h1.below hb) ⟨h2,by rw[aw,Mt]⟩⟩
  have Eu:=ok.mY;have rq:=ok.mX;have cU:∀{jC:World} {row:Int} {x:Bool},Below V.heap.size V jC->(∀b∈[n],b<jC.heap.size)->0<=row->row<q0.an->pa row x (l4 (kD q2) q2)=k5 q0.az.row (l4 (kD q2) q2)->dH Tryz.prog X.Ap #[.pointer (some ⟨s.b,0,none⟩), .int .i64 row, .bool x] jC (λe1 ad=>∃i:Int,e1= .returned (.int .i64 i)/\(eC w.heap.size (Z s).F [n] jC ad/\Sy.aa w (Z s).F ad (λv w'=>v= .int .i64 0/\fK Z w s (λs'=>s'.b=s.b/\s'.av=nY q0) w') (.int .i64 i))):=λhb hm aW h1 he=>
   Z.Wr (N:=N+1000) (gW.below hb) gH (by rw[nO];exact Ul) hm aW (by rw[nO];show _<q2.an;omega) λad s' e1 e2 h2 hk=>⟨0,rfl,hk,bQ h2 e1 (by rw[e2,nO,he])⟩
  have Bn:At V ⟨s.b,0,none⟩ 28 [.int .i64 q2.aq.b7]:=by rw[<-mj];exact Z.q9 gW gH 28 rfl
  have c27:At V ⟨s.b,0,none⟩ 27 [.int .i64 q2.aq.bf]:=by rw[<-mj];exact Z.q9 gW gH 27 rfl
  have Tb:=sM.iB;refine⟨_,Bn,λe1=>⟨_,c27,λe2=>⟨by unfold ay;have:=ok.c1;omega,λjC hb hm=>cU hb (cB.all hm) M M (by rw[k5,aA ⟨e1,e2⟩])⟩,λe2=>⟨_,Bn,λe3=>absurd e1 e3,λ_=>bQ gW gH ?_⟩⟩,λe1=>⟨_,Bn,λ_=>⟨λe3 jC hb hm=>cU hb (cB.all hm) rq Eu ?_,λe3=>bQ gW gH ?_⟩,λe3=>absurd e3 e1⟩⟩
  ·rw[nO,k5,ag (λu=>by have h2:q2.aq.bf<q0.az.row:=u.2;omega),ag (λu=>u.1 e1)]
  ·rw[k5,ag (λu=>e1 u.1),aA ⟨e1,e3⟩]
  ·rw[nO,k5,ag (λu=>e1 u.1),ag (λu=>e3 u.2)]
 all_goals
  intro V Ch;have x_:w.heap.size<=n:=by first|(have:=cg.kept.size;omega)|(have:=Am.kept.size;omega)|(have:=kZ.kept.size;omega)
  have gW:af w (Z s).F ([]++[n]) (Z {bZ with az:=kD q2}) V:=Z.yB kZ gH Ch aS OY hY;have nO:({bZ with az:=kD q2}:cN).av=l4 (kD q2) q2:=by rw[<-zN];rfl
  have Ul:b5 (N+1000) (l4 (kD q2) q2):=yN sM (JW sM);have mj:bZ.aq=q2.aq:=by rw[<-zN];rfl
  have bQ:∀{jC:World} {eb:cN},af w (Z s).F ([]++[n]) (Z eb) jC->eb.b=s.b->eb.av=k5 q0.az.row (l4 (kD q2) q2)->Sy.aa w (Z s).F jC (λv w'=>v= .int .i64 0/\fK Z w s (λs'=>s'.b=s.b/\s'.av=nY q0) w') (.int .i64 0):=λh1 h2 aw w' hb _=>⟨rfl,af.bQ (h1.below hb) ⟨h2,by rw[aw,Mt]⟩⟩
  have Eu:=ok.mY;have rq:=ok.mX;have cU:∀{jC:World} {row:Int} {x:Bool},Below V.heap.size V jC->(∀b∈[n],b<jC.heap.size)->0<=row->row<q0.an->pa row x (l4 (kD q2) q2)=k5 q0.az.row (l4 (kD q2) q2)->dH Tryz.prog X.Ap #[.pointer (some ⟨s.b,0,none⟩), .int .i64 row, .bool x] jC (λe1 ad=>∃i:Int,e1= .returned (.int .i64 i)/\(eC w.heap.size (Z s).F [n] jC ad/\Sy.aa w (Z s).F ad (λv w'=>v= .int .i64 0/\fK Z w s (λs'=>s'.b=s.b/\s'.av=nY q0) w') (.int .i64 i))):=λhb hm aW h1 he=>
   Z.Wr (N:=N+1000) (gW.below hb) gH (by rw[nO];exact Ul) hm aW (by rw[nO];show _<q2.an;omega) λad s' e1 e2 h2 hk=>⟨0,rfl,hk,bQ h2 e1 (by rw[e2,nO,he])⟩
  have Bn:At V ⟨s.b,0,none⟩ 28 [.int .i64 q2.aq.b7]:=by rw[<-mj];exact Z.q9 gW gH 28 rfl
  have c27:At V ⟨s.b,0,none⟩ 27 [.int .i64 q2.aq.bf]:=by rw[<-mj];exact Z.q9 gW gH 27 rfl
  have Tb:=sM.iB;refine⟨_,Bn,λe1=>⟨_,c27,λe2=>⟨by unfold ay;have:=ok.c1;omega,λjC hb hm=>cU hb (cB.all hm) M M (by rw[k5,aA ⟨e1,e2⟩])⟩,λe2=>⟨_,Bn,λe3=>absurd e1 e3,λ_=>bQ gW gH ?_⟩⟩,λe1=>⟨_,Bn,λ_=>⟨λe3 jC hb hm=>cU hb (cB.all hm) rq Eu ?_,λe3=>bQ gW gH ?_⟩,λe3=>absurd e3 e1⟩⟩
  ·rw[nO,k5,ag (λu=>by have h2:q2.aq.bf<q0.az.row:=u.2;omega),ag (λu=>u.1 e1)]
  ·rw[k5,ag (λu=>e1 u.1),aA ⟨e1,e3⟩]
  ·rw[nO,k5,ag (λu=>e1 u.1),ag (λu=>e3 u.2)]
end
abbrev oK(a b:Nat)(s:cN)(aV:Int):xo:=[(a,G.ew,[s.ptr]),(b,G.ft,[.int .i32 aV])]
abbrev xE(a b c:Nat)(s:cN)(aV:Int)(x:Bool):xo:=[(a,G.ew,[s.ptr]),(b,G.ft,[.int .i32 aV]),(c,G.bool,[.bool x])]
theorem aqz{r:cc}{an ai:Int}(h:fS r an ai){k:Nat}(hk:k<r.ab.length):vx (hX r.ab k).cs=true/\(hX r.ab k).cs.length=r.ai:=by
 obtain⟨h1,h2⟩:=h.ok _ (MG hk);exact⟨(agm _).2 ((CO _).1 h2).2,h1⟩
section
variable{w0 w w' w1:World}{F0:Nat->Prop}{bs:List Nat}{o o':I}{l l' bM bq:List I}{R:Ending->World->Prop}{f:FuncId}{args:Array Value}{s s':cN}{g:cV}
theorem atk{a b:Nat}{aV:Int}(aj:Laid w)(h:(I.sep (d_ s::I.aL g::(oK a b s aV).map gQ)).P w)(hc:gM g.aC s.az)(h1:fx aV=0)(hg:fS g.aC g.aC.ab.length g.aC.ai):
  bI Tryz.prog X.Fs #[.pointer (some ⟨g.b,0,none⟩), .pointer (some ⟨a,0,none⟩), .pointer (some ⟨b,0,none⟩)] w (I.sep (d_ s::I.aL g::(oK a b s aV).map gQ)).F (pY w (d_ s) g ((oK a b s aV).map gQ) (A7 s s.az (CF g.aC s.az aV) (oK a b s aV))):=by
 have aN:=af.start (bs:=[]) aj h aS;obtain⟨q1,q2⟩:=aqz hg (k:=s.az.row.toNat) (by have:=hc.1;have:=hc.2.1;omega);refine azu _ _ _ ⟨_,(af.get [_,_] [_] aN).1.at_ (show 1<=maxLen by decide),_,rfl,_,uk (af.get [] _ aN).1 4 rfl,_,(af.get [_,_,_] [] aN).1.at_ (show 1<=maxLen by decide),λw1 hb1=>?_⟩;refine af.aL (fC:=λv _=>v= .tuple #[.bool (tZ (hX g.aC.ab s.az.row.toNat).cs s.az), .int .i64 0]) [d_ s] ((oK a b s aV).map gQ) (aN.below hb1) aS (λx y=>atn y x hc h1 q1 q2) λv ad aU ah hp hg aX aI=>⟨_,_,dx Ending.returned ah,aI,λw' hb _=>pY.of (aX.below hb) hp hg⟩
theorem atl{a b c:Nat}{aV:Int}(aj:Laid w)(h:(I.sep (d_ s::I.aL g::(xE a b c s aV false).map gQ)).P w)(hc:gM g.aC s.az)(h1:1<=fx aV):
  bI Tryz.prog X.Ft #[.pointer (some ⟨g.b,0,none⟩), .pointer (some ⟨a,0,none⟩), .pointer (some ⟨b,0,none⟩), .pointer (some ⟨c,0,none⟩)] w (I.sep (d_ s::I.aL g::(xE a b c s aV false).map gQ)).F (pY w (d_ s) g ((xE a b c s aV false).map gQ) (A7 s s.az g.aC (xE a b c s aV (pc g.aC s.az (fx aV) s.bA.jR)))):=by
 have aN:=af.start (bs:=[]) aj h aS;refine azv _ _ _ _ ⟨_,(af.get [_,_] [_,_] aN).1.at_ (show 1<=maxLen by decide),_,rfl,_,uk (af.get [] _ aN).1 4 rfl,_,(af.get [_,_,_] [_] aN).1.at_ (show 1<=maxLen by decide),_,(af.get [_,_] [_,_] aN).1.at_ (show 1<=maxLen by decide),_,rfl,_,uk (af.get [] _ aN).1 18 rfl,λw1 hb1=>?_⟩;have bX:=aN.below hb1;refine bX.ret (λ_ y=>atp y (af.get [d_ s] ((xE a b c s aV false).map gQ) bX) hc h1) λad aX aI=>⟨_,_,rfl,aI.O,af.ch (n:=1) [d_ s,I.aL g,gQ (a,G.ew,[s.ptr]),gQ (b,G.ft,[.int .i32 aV])] [] aX (show 0+1<=1 by omega),λbw iw w' hb _=>?_⟩
 have eb:af w _ [] (I.sep (d_ s::I.aL g::(xE a b c s aV (pc g.aC s.az (fx aV) s.bA.jR)).map gQ)) bw:=af.put (n:=0) [d_ s,I.aL g,gQ (a,G.ew,[s.ptr]),gQ (b,G.ft,[.int .i32 aV])] [] aX (show 0+1<=1 by omega) iw;exact pY.of (eb.below hb) rfl rfl
theorem atm{a b:Nat}{aV:Int}(aj:Laid w)(h:(I.sep (d_ s::I.aL g::(oK a b s aV).map gQ)).P w)(hc:gM g.aC s.az)(h1:1<=fx aV)(hp:ea (ed s.bV)=true)(hw:pc g.aC s.az (fx aV) s.bA.jR=false):
  bI Tryz.prog X.C' #[.pointer (some ⟨g.b,0,none⟩), .pointer (some ⟨a,0,none⟩), .pointer (some ⟨b,0,none⟩)] w (I.sep (d_ s::I.aL g::(oK a b s aV).map gQ)).F (pY w (d_ s) g ((oK a b s aV).map gQ) (A7 s (vt g.aC s.az aV s.bV s.bA.jR) (Ac g.aC s.az aV s.bV s.bA.jL) (oK a b s aV))):=by
 have aN:=af.start (bs:=[]) aj h aS;have box:∀{V:World} {bT:Nat->Prop} {i7 jf vq:I},af w bT [] (I.sep [i7,jf,gQ (a,G.ew,[s.ptr]),vq]) V->At V ⟨a,0,none⟩ 0 [s.ptr]:=λcY=>(af.get [_,_] [_] cY).1.at_ (show 1<=maxLen by decide)
 refine azw _ _ _ ⟨_,box aN,_,box aN,_,rfl,_,uk (af.get [] _ aN).1 4 rfl,_,(af.get [_,_,_] [] aN).1.at_ (show 1<=maxLen by decide),_,box aN,_,rfl,s.bV,uk (af.get [] _ aN).1 7 rfl,_,box aN,_,rfl,_,uk (af.get [] _ aN).1 18 rfl,_,box aN,_,rfl,_,uk (af.get [] _ aN).1 20 rfl,λw1 hb1=>?_⟩;refine af.aL (fC:=λv _=>v= .tuple #[.agg (vt g.aC s.az aV s.bV s.bA.jR).T, .int .i64 0]) [d_ s] ((oK a b s aV).map gQ) (aN.below hb1) aS (λx y=>ato y x hc h1 hp hw) λv ad aU ah hp hg aX aI=>⟨_,_,dx Ending.returned ah,aI,box aX,_,rfl,af.ch (n:=3) [] (I.aL aU::(oK a b s aV).map gQ) aX (show 4+3<=73 by omega),λbw iw w' hb _=>?_⟩
 have eb:af w _ [] (I.sep (d_ {s with az:=vt g.aC s.az aV s.bV s.bA.jR}::I.aL aU::(oK a b s aV).map gQ)) bw:=af.put (n:=0) [] (I.aL aU::(oK a b s aV).map gQ) aX (show 4+3<=73 by omega) iw;exact pY.of (eb.below hb) hp hg
def T5(aV:Int)(q:bl):bl:={q with az:=q.az,bu:=iO q.bu (CF (c6.aL q.bu) q.az aV)}
def Ns(aV:Int)(q:bl):bl:={q with az:=vt (c6.aL q.bu) q.az aV q.bV q.bA.jR,bu:=iO q.bu (Ac (c6.aL q.bu) q.az aV q.bV q.bA.jL)}
def FR(aV:Int)(q:bl):Bool:=pc (c6.aL q.bu) q.az (fx aV) q.bA.jR
def vu(r:Int)(q:bl):bl:=
 if fx (ym q.cs r)<0 then q else if fx (ym q.cs r)=0 then T5 (ym q.cs r) q
 else Ns (ym q.cs r) (if FR (ym q.cs r) q=true then nY q else q)
theorem avN(v:c6):iO v (c6.aL v)=v:=by unfold iO c6.aL;split<;>rfl
theorem aBe(dT:Int)(q:bl):(k5 dT q).az=q.az/\(k5 dT q).an=q.an/\(k5 dT q).ai=q.ai/\(k5 dT q).bA=q.bA:=by
 unfold k5
 repeat' (first|exact⟨rfl,rfl,rfl,rfl⟩|split)
theorem aBk{N:Nat}{q:bl}{aV:Int}(h:b5 N q):FR aV (nY q)=false:=by
 obtain⟨e1,_,e3,_⟩:=aBe q.az.row (l4 (kD (kS (pa q.az.row true q))) (kS (pa q.az.row true q)));have fc:=Xn h;have aB_:=fc.aL.c;have hc:(nY q).az=kD (kS (pa q.az.row true q)):=e1;unfold FR pc;rw[hc];have h1:(kD (kS (pa q.az.row true q))).dC=false:=rfl;have h2:(kD (kS (pa q.az.row true q))).ae=0:=by show max 0 (min 0 (_-1))=(0:Int);have:=(ye (FE (row:=q.az.row) (b:=true) h)).bY;omega
 rw[h1,h2,Bool.false_or];rw[F_];right;rw[F_];right
 by_cases hh:1<(c6.aL (nY q).bu).ai
 ·rw[F_]
  right;rw[JK];omega
 ·rw[F_]
  left;rw[JK];exact hh
end
section
variable{w0 w w' w1:World}{F0:Nat->Prop}{bs:List Nat}{o o':I}{l l' bM bq:List I}{R:Ending->World->Prop}{f:FuncId}{args:Array Value}{s s':cN}{g:cV}
theorem Z.aBd{N:Nat}{b:Nat}(h:af w0 F0 bs (Z s) w1)(hb:s.b=b)(ok:b5 N s.av)(hm:∀b∈bs,b<w1.heap.size)(hN:N+1000<=4611686018427387904)(hp:s.av.dq=0)
  (hR:∀ad s',s'.b=b->s'.av=nY s.av->af w0 F0 bs (Z s') ad->eC w0.heap.size F0 bs w1 ad->R (.returned (.int .i64 0)) ad):dH Tryz.prog X.N3 #[.pointer (some ⟨b,0,none⟩)] w1 R:=by
 subst hb;exact af.Bq (mI:=Z) (fC:=λv=>v= .int .i64 0) h hm (λa b=>aua b a ok hN hp) λv ad y ah ⟨e1,e2⟩ h2 hk=>by subst ah;exact hR ad y e1 e2 h2 hk
theorem Rx{N:Nat}(ok:b5 N s.av):gM (cS.aL s.aJ).aC s.az/\fS (cS.aL s.aJ).aC (cS.aL s.aJ).aC.ab.length (cS.aL s.aJ).aC.ai/\nA (cS.aL s.aJ).aC s.aq:=by
 rw[cS.pv];exact⟨ok.Bw,ok.aL.self,ok.NO⟩
theorem at4{N:Nat}{r:Int}(aj:Laid w)(h:(Z s).P w)(ok:b5 N s.av)(hN:N+1000<=4611686018427387904)(hp:s.dq=0)(rn: -1000<=r)(rq:r<=1114111):bI Tryz.prog X.VK #[s.ptr, .int .i32 r] w (Z s).F (λv w'=>v= .int .i64 0/\fK Z w s (λs'=>s'.b=s.b/\s'.av=vu r s.av) w'):=by
 have hY:=aj.size;have hu:s.aJ.c_<=1:=ok.u;obtain⟨aV,ab'⟩:∃aV,ym s.cs r=aV:=⟨_,rfl⟩;have Mg:vu r s.av=if fx aV<0 then s.av else if fx aV=0 then T5 aV s.av else Ns aV (if FR aV s.av=true then nY s.av else s.av):=by
  rw[<-ab'];rfl
 refine azt _ r λar ec aQ gA=>?_
 have aN:=af.start (bs:=[ar,aQ]) aj h ej;refine⟨s.cs,Z.cell aN 30 rfl,λw1 hb1 fb=>af.pure (ajW rn rq) (aN.below hb1) λad aX aI=>⟨_,rfl,aI.O,λbw anu fN=>?_⟩⟩;rw[ab'];have eb:=aX.ext anu aS ej hY;refine af.pure Bp eb λbD cg bO=>⟨_,rfl,bO.O,λe w' hb _=>⟨rfl,af.bQ (cg.below hb) ⟨rfl,by rw[Mg,aA e]⟩⟩,λe=>⟨λe0=>⟨_,Z.cell cg 2 rfl,λln oS q1 q2 oq=>?_⟩,λe0 cH jJ=>⟨_,Z.cell cg 2 rfl,λbP hb5 q1 q2 cz oq=>?_⟩⟩⟩
 ·obtain⟨g1,g2,_⟩:=Rx ok
  refine Z.GL (cI:=oK ar aQ s aV) (r7:=oK ar aQ s aV) (bs:=[]) (az:=s.az) (r:=CF (cS.aL s.aJ).aC s.az aV) (cg.below oS) XI oq hY aS rfl (λa b=>awP _ _ _ (DR (args:=λp=>#[.pointer p, .pointer (some ⟨ar,0,none⟩), .pointer (some ⟨aQ,0,none⟩)]) b a hu λV cY hP=>atk cY hP g1 e0 g2)) λuu s' hb' rm _ _ _ Al z hk=>⟨0,rfl,hk,_,z _ (List.Mem.head _),_,z _ (List.Mem.tail _ (List.Mem.head _)),λw' hb _=>⟨rfl,af.bQ (Al.below hb) ⟨hb',?_⟩⟩⟩
  rw[rm,Mg,ag M,aA e0,cS.pv];rfl
 ·have adr:1<=fx aV:=by omega
  obtain⟨g1,g2,_⟩:=Rx ok;have fG:∀{V:World} {mn:cN} {Ki:Nat},af w (Z s).F [ar,aQ,cH] (Z mn) V->mn.b=s.b->b5 Ki mn.av->FR aV mn.av=false->vu r s.av=Ns aV mn.av->(w.heap.size<=ar/\Whole V ar G.ew [.pointer (some ⟨s.b,0,none⟩)])->(w.heap.size<=aQ/\Whole V aQ G.ft [.int .i32 aV])->[ar,aQ,cH].Nodup->(∀b∈[cH],b<V.heap.size)->
    dH Tryz.prog X.oI #[.pointer (some ⟨mn.aJ.b,0,none⟩), .func (.func X.C') #[] #[.pointer (some ⟨ar,0,none⟩), .pointer (some ⟨aQ,0,none⟩)]] V (λe lK=>∃i:Int,e= .returned (.int .i64 i)/\(eC w.heap.size (Z s).F [cH] V lK/\∃CS:ao,Whole lK ar G.ew [.pointer CS]/\∃nP:Int,Whole lK aQ G.ft [.int .i32 nP]/\Sy.aa w (Z s).F lK (λv w'=>v= .int .i64 0/\fK Z w s (λs'=>s'.b=s.b/\s'.av=vu r s.av) w') (.int .i64 i))):=by
   intro V mn Ki avC ab7 Un apy oZ q1 q2 oq hm;obtain⟨g1,g2,_⟩:=Rx Un;have mi:(.pointer (some ⟨s.b,0,none⟩):Value)=mn.ptr:=by unfold cN.ptr;rw[ab7]
   rw[mi] at q1;have aoJ:ea (ed mn.bV)=true:=FN Un.bV;have hwr:pc (cS.aL mn.aJ).aC mn.az (fx aV) mn.bA.jR=false:=by rw[cS.pv];exact apy
   refine Z.GL (cI:=oK ar aQ mn aV) (r7:=oK ar aQ mn aV) (bs:=[cH]) (az:=vt (cS.aL mn.aJ).aC mn.az aV mn.bV mn.bA.jR) (r:=Ac (cS.aL mn.aJ).aC mn.az aV mn.bV mn.bA.jL) avC XI oq hY hm rfl (λa b=>awR _ _ _ (DR (args:=λp=>#[.pointer p, .pointer (some ⟨ar,0,none⟩), .pointer (some ⟨aQ,0,none⟩)]) b a Un.u λV cY hP=>atm cY hP g1 adr aoJ hwr)) λuu s' hb' rm _ _ _ Al z hk=>⟨0,rfl,hk,_,z _ (List.Mem.head _),_,z _ (List.Mem.tail _ (List.Mem.head _)),λw' hb _=>⟨rfl,af.bQ (Al.below hb) ⟨hb'.trans ab7,?_⟩⟩⟩
   rw[rm,oZ,cS.pv];rfl
  have ey:af w (Z s).F ((xE ar aQ cH s aV false).map (·.1)++[]) (Z s) bP:=(cg.cZ jJ).below hb5;refine Z.GL (cI:=xE ar aQ cH s aV false) (r7:=xE ar aQ cH s aV (pc (cS.aL s.aJ).aC s.az (fx aV) s.bA.jR)) (bs:=[]) (az:=s.az) (r:=(cS.aL s.aJ).aC) ey (by simp;exact⟨q1,q2,cz⟩) oq hY aS rfl (λa b=>awQ _ _ _ _ (DR (args:=λp=>#[.pointer p, .pointer (some ⟨ar,0,none⟩), .pointer (some ⟨aQ,0,none⟩), .pointer (some ⟨cH,0,none⟩)]) b a hu λV cY hP=>atl cY hP g1 adr)) λcu s' hb' rm _ _ _ eJ z hk=>⟨0,rfl,hk,some ⟨s.b,0,none⟩,z _ (List.Mem.head _),aV,z _ (List.Mem.tail _ (List.Mem.head _)),_,z _ (List.Mem.tail _ (List.Mem.tail _ (List.Mem.head _))),?_⟩
  have Ey:s'.av=s.av:=by
   rw[rm,cS.pv];show{s.av with az:=s.az,bu:=iO s.av.bu (c6.aL s.av.bu)}=s.av;rw[avN];rfl
  have apA:pc (cS.aL s.aJ).aC s.az (fx aV) s.bA.jR=FR aV s.av:=by rw[cS.pv];rfl
  rw[apA];refine⟨λ_=>⟨λLe oz ks B9=>?_,λLe=>⟨λe1=>absurd rfl e1,λ_=>⟨_,rfl,_,Z.q9 eJ hb' 2 rfl,λhC fs q1 q2 cz HW=>fG (eJ.below fs) hb' (by rw[Ey];exact ok) (by rw[Ey];exact Le) (by rw[Mg,ag M,ag e0,ag (by rw[Le];decide),Ey]) q1 q2 HW (by simp;exact cz.2.lt)⟩⟩⟩,λe1=>absurd rfl e1⟩;refine Z.aBd (N:=N) (eJ.below ks) hb' (by rw[Ey];exact ok) (cB.all B9) hN (by rw[Ey];exact hp) λnX aDL LL Mj j7 su=>⟨0,rfl,su,λe1=>absurd rfl e1,λ_=>⟨_,rfl,_,Z.q9 j7 LL 2 rfl,λl7 xY q1 q2 cz HW=>?_⟩⟩
  rw[Ey] at Mj;exact fG (j7.below xY) LL (by rw[Mj];exact Xn ok) (by rw[Mj];exact aBk ok) (by rw[Mg,ag M,ag e0,aA Le,Mj]) q1 q2 HW (by simp;exact cz.2.lt)
end
end Go.Proofs.YtimbpmnbbfeogaaGreatDoor
namespace Go.Sy
section
variable{w0 w w' w1:World}{F0:Nat->Prop}{bs:List Nat}{o o':I}{l l' bM bq hV:List I}
theorem af.Fa{n_:List Nat}(h:af w0 F0 bs o w)(bc:∀i,o.F i->i<w0.heap.size)(hb:∀b∈n_,w0.heap.size<=b):af w0 F0 n_ o w:=
 ⟨h.laid,h.kept,h.at_,λi hi=>⟨(h.own i hi).1,λhm=>by have:=bc i hi;have:=hb i hm;omega⟩⟩
theorem af.Oo(bM bq:List I){m:Nat}(h:af w0 F0 bs (I.sep (bM++o::bq)) w)(hm:∀i,(I.sep (bM++o::bq)).F i->i<m)(ho:o'.P w)(bc:∀i,o'.F i->m<=i)(hw:w0.heap.size<=m)(hb:∀b∈bs,b<m):af w0 F0 bs (I.sep (bM++o'::bq)) w:=by
 obtain⟨dd,a2,a3⟩:=I.mq.1 h.at_;obtain⟨b1,b2,b3⟩:=(I.mq (bM:=[o]) (bq:=bq)).1 a2;have oU:∀i,(I.sep bM).F i->i<m:=λi hi=>hm i (I.j9.2 (.inl hi))
 have oV:∀i,(I.sep bq).F i->i<m:=λi hi=>hm i (I.j9.2 (.inr ((I.j9 (bM:=[o]) (bq:=bq)).2 (.inr hi))))
 have hP:(I.sep (bM++([o']++bq))).P w:=I.mq.2 ⟨dd,I.mq.2 ⟨I.rK.2 ho,b2,λi hi e=>by have:=bc i (I.j_.1 hi);have:=oV i e;omega⟩,λi hi e=>by
  rcases I.j9.1 e with q|q
  ·have:=bc i (I.j_.1 q);have:=oU i hi;omega
  ·exact a3 i hi ((I.j9 (bM:=[o]) (bq:=bq)).2 (.inr q))⟩
 refine⟨h.laid,h.kept,hP,λi hi=>?_⟩;rcases I.j9.1 (show(I.sep (bM++([o']++bq))).F i from hi) with q|q
 ·exact h.own i (I.j9.2 (.inl q))
 ·rcases I.j9.1 q with q|q
  ·have:=bc i (I.j_.1 q)
   exact⟨.inr M,λzA=>by have:=hb i zA;omega⟩
  ·exact h.own i (I.j9.2 (.inr ((I.j9 (bM:=[o]) (bq:=bq)).2 (.inr q))))
end
end Go.Sy
namespace Go.Proofs.YtimbpmnbbfeogaaGreatDoor
open Go Go.RowKit Go.Sy Go.Rep
def H3(q:bl):bl:=l4 ⟨nS (gZ q) 0,max 0 (min 0 (q.ai-1)),false⟩ q
def An(q:bl):eL:=⟨q.az,q.bV,q.bA.fy,q.cs⟩
def Fb(x:eL)(q:bl):bl:={q with az:=(sT x (gZ q)).az,bV:=(sT x (gZ q)).p,bA:={q.bA with fy:=(sT x (gZ q)).fy},cs:=(sT x (gZ q)).cs}
def uK(t:List UInt8)(q:bl):bl:=if q.iM.length+t.length<=4096 then{q with iM:=q.iM++t} else q
def Dh(n:Int)(q:bl):bl:=l4 ⟨q.az.row,max 0 (min (if n<0 then s5 q.stops (-1) 0 q.az.ae.toNat q.az.ae (0-n) else s5 q.stops 1 (q.ai-1) (q.ai-1-q.az.ae).toNat q.az.ae (max n 0)) (q.ai-1)),false⟩ q
def nR:Md:=⟨true,false,false,true,false,false,false,0,0⟩
def qK(k:Nat)(x:eL)(q:bl):bl:=if k=1 then{q with bX:=x} else{q with aN:=x}
def uo(m:Md):Md:=⟨m.jR,false,false,true,false,m.qB,m.qL,m.ptr,m.gP⟩
def FD(q:bl):bl:={qK q.bu.c_ h7 {q with bA:=uo q.bA,bV:=jg,cs:=lL} with aq:=⟨0,q.an-1⟩}
def U9(q:bl):bl:={q with bu:=IJ q.an.toNat q.ai.toNat,stops:=zn q.ai 0 [],aq:=⟨0,q.an-1⟩,az:=np,bV:=jg,bA:=nR,cs:=lL,aN:=h7,bX:=h7,vm:=[]}
section
variable{w0 w w' w1:World}{F0:Nat->Prop}{bs:List Nat}{o o':I}{l l' bM bq:List I}{R:Ending->World->Prop}{f:FuncId}{args:Array Value}{s s':cN}{g:cV}
theorem af3{N:Nat}(aj:Laid w)(h:(Z s).P w)(ok:b5 N s.av):bI Tryz.prog X.Fq #[s.ptr] w (Z s).F (λv w'=>v= .int .i64 0/\fK Z w s (λs'=>s'.b=s.b/\s'.av=H3 s.av) w'):=by
 have hY:=aj.size;have aN:=af.start (bs:=[]) aj h aS;refine azm _ λw1 hb1=>Z.tq (aN.below hb1) rfl λad aX aI=>⟨_,rfl,aI.O,λbw bp=>af.pure (Z6 ok.p7) (aX.below bp) λbD cg bO=>⟨_,_,rfl,bO.O,Z.ch cg M,λbP iJ w' hb _=>⟨rfl,?_⟩⟩⟩
 have ey:=Z.yB (c:=⟨nS (gZ s.av) 0,max 0 (min 0 ((gZ s.av).ai-1)),false⟩) cg rfl iJ aS aS hY;exact af.bQ (ey.below hb) ⟨rfl,rfl⟩
theorem UT{N:Nat}(aj:Laid w)(h:(Z s).P w)(ok:b5 N s.av):di X.Je #[s.ptr] w (.tuple #[.agg (An s.av).T, .int .i64 0]):=by
 refine azy _ λar ec=>?_
 have aN:=af.start (bs:=[ar]) aj h ej;exact⟨s.az,Z.cell aN 4 rfl,s.bV,Z.cell aN 7 rfl,_,Z.cell aN 19 rfl,s.cs,Z.cell aN 30 rfl,λw1 hb1 fb=>af.pure (ake ok.Ja) (aN.below hb1) λad aX aI=>⟨_,_,rfl,aI.O,bn.of λ_=>rfl⟩⟩
theorem atS{t:List UInt8}(aj:Laid w)(h:(Z s).P w)(ht:t.length<=100000)(hr:s.iM.length<=4096):bI Tryz.prog X.VA #[s.ptr, .string ⟨t.toArray⟩] w (Z s).F (λv w'=>v= .tuple #[]/\fK Z w s (λs'=>s'.b=s.b/\s'.av=uK t s.av) w'):=by
 have aN:=af.start (bs:=[]) aj h aS;refine aza _ t ⟨_,Z.cell aN 71 rfl,by unfold ay;omega,λe=>⟨_,Z.cell aN 71 rfl,by omega,Z.ch aN M,λad hp w' hb _=>⟨rfl,?_⟩⟩,λe w' hb _=>⟨rfl,af.bQ (aN.below hb) ⟨rfl,?_⟩⟩⟩
 ·have aX:af w (Z s).F [] (Z {s with iM:=s.iM++t}) ad:=Z.put aN hp (by show 71+1<=73;omega) rfl rfl rfl rfl rfl
  refine af.bQ (aX.below hb) ⟨rfl,?_⟩;rw[uK,aA (show s.av.iM.length+t.length<=4096 by show s.iM.length+t.length<=4096;omega)];rfl
 ·rw[uK,ag (show ¬s.av.iM.length+t.length<=4096 by show ¬s.iM.length+t.length<=4096;omega)]
theorem NB{N:Nat}{x:eL}(aj:Laid w)(h:(Z s).P w)(ok:b5 N s.av)(hx:mK x=true):bI Tryz.prog X.Fu #[s.ptr, .agg x.T] w (Z s).F (λv w'=>v= .int .i64 0/\fK Z w s (λs'=>s'.b=s.b/\s'.av=Fb x s.av) w'):=by
 have hY:=aj.size;have hold:∀i,(Z s).F i->i<w.heap.size:=λi hi=>(Z s).lt h hi
 obtain⟨y,hy⟩:∃y,sT x (gZ s.av)=y:=⟨_,rfl⟩;have zO:∀{V:World},Laid V->di X.C9 #[.agg x.T, .agg (gZ s.av).T] V (.tuple #[.agg y.T, .int .i64 0]):=λcY=>by
  rw[<-hy];exact akd hx ok.p7 _ cY
 refine azx _ x λar ec=>?_
 have aN:=af.start (bs:=[ar]) aj h ej;refine⟨λe a b p bY c2 c3 c4 c5 d1 j2 Bz tA ob eo M8 aR g1 ac V=>e=0/\eL.mk ⟨a,b,p⟩ ⟨⟨bY,c2,c3,c4,c5⟩,⟨d1,j2,Bz,tA,ob⟩,eo⟩ M8 ⟨aR,g1,ac⟩=y/\af w (Z s).F [ar] (Z s) V,⟨λjy kM Ej=>Z.tq (aN.below kM) rfl λk2 kY oi=>⟨_,rfl,oi.O,λlK B3 aCu=>(kY.below B3).ret (λ_ b=>zO b) λqO yJ HE=>⟨_,_,rfl,HE.O,λfv zK km qk=>⟨rfl,rfl,yJ.below qk⟩⟩,λeO sv oz ks B9=>((kY.cZ sv).below ks).ret (λ_ b=>zO b) λnX j7 su=>⟨_,_,rfl,su.O,λl7 he=>⟨rfl,rfl,?_⟩⟩⟩,λcH jJ cW lE aoj=>Z.tq ((aN.cZ jJ).below lE) rfl λcR fl pz=>⟨_,rfl,pz.O,λgn iY Sw=>(fl.below iY).ret (λ_ b=>zO b) λhC wT lF=>⟨_,_,rfl,lF.O,λkl he=>⟨rfl,rfl,?_⟩⟩⟩⟩,?_⟩
 ·have:=kY.kept.size
  exact(j7.ext he aS ej hY).Fa hold ej
 ·exact(wT.ext he aS ej hY).Fa hold ej
 ·rintro e a b p bY c2 c3 c4 c5 d1 j2 Bz tA ob eo M8 aR g1 ac aQ gA w1 hk1 ⟨rfl,rfl,bX⟩
  have kZ:af w (Z s).F [ar,aQ] (Z s) w1:=bX.Fa hold ej;refine⟨λe=>absurd rfl e,λ_=>⟨Z.ch kZ M,λad nM=>?_⟩⟩;have aX:af w (Z s).F [ar,aQ] (Z {s with az:=⟨a,b,p⟩}) ad:=Z.put kZ nM OX rfl rfl rfl rfl rfl;refine⟨Z.ch aX M,λbw iw=>?_⟩;have eb:af w (Z s).F [ar,aQ] (Z {s with az:=⟨a,b,p⟩,bV:=⟨⟨bY,c2,c3,c4,c5⟩,⟨d1,j2,Bz,tA,ob⟩,eo⟩}) bw:=Z.put aX iw JE rfl rfl rfl rfl rfl;refine⟨Z.ch eb M,λbD sy=>?_⟩;have cg:af w (Z s).F [ar,aQ] (Z {s with az:=⟨a,b,p⟩,bV:=⟨⟨bY,c2,c3,c4,c5⟩,⟨d1,j2,Bz,tA,ob⟩,eo⟩,bA:={s.bA with fy:=M8}}) bD:=Z.put eb sy (by show 19+1<=73;omega) rfl rfl rfl rfl rfl;refine⟨Z.ch cg M,λbP iJ w' hb _=>⟨rfl,?_⟩⟩;have ey:af w (Z s).F [ar,aQ] (Z {s with az:=⟨a,b,p⟩,bV:=⟨⟨bY,c2,c3,c4,c5⟩,⟨d1,j2,Bz,tA,ob⟩,eo⟩,bA:={s.bA with fy:=M8},cs:=⟨aR,g1,ac⟩}) bP:=Z.put cg iJ FW rfl rfl rfl rfl rfl;refine af.bQ (ey.below hb) ⟨rfl,?_⟩;rw[Fb,hy];rfl
theorem UU{N:Nat}{n:Int}(aj:Laid w)(h:(Z s).P w)(ok:b5 N s.av)(hn: -1000000<=n/\n<=1000000):bI Tryz.prog X.Jf #[s.ptr, .int .i64 n] w (Z s).F (λv w'=>v= .int .i64 0/\fK Z w s (λs'=>s'.b=s.b/\s'.av=Dh n s.av) w'):=by
 have hY:=aj.size;have aN:=af.start (bs:=[]) aj h aS;have ht:s.dc.ai=s.ai:=ok.jx;have bY:1<=s.dc.ai:=by rw[ht];exact ok.bY
 have c2:s.dc.ai<=1000:=by rw[ht];exact ok.c2
 have mV:0<=s.az.ae:=ok.mV;have mW:s.az.ae<s.dc.ai:=by rw[ht];exact ok.mW
 refine azD _ n ⟨_,Z.cell aN 29 rfl,_,Z.cell aN 5 rfl,λw1 hb1=>?_⟩;have bX:=aN.below hb1;refine bX.ret (λ_ _=>aut (Z.stops bX) bY c2 mV mW M M) λad aX aI=>⟨_,_,rfl,aI.O,λe=>⟨_,Z.cell aX 29 rfl,_,Z.cell aX 5 rfl,by unfold ay;omega,λgn iY=>?_⟩,λe=>⟨λe0=>absurd rfl e0,λ_=>⟨s.az,Z.cell aX 4 rfl,λbw bp=>Z.tq (aX.below bp) rfl λbD cg bO=>⟨_,rfl,bO.O,Z.cell cg 4 rfl,λbP hb5=>af.pure (KJ ok.p7 ok.az) (cg.below hb5) λcu eJ dK=>⟨_,_,rfl,dK.O,Z.ch eJ M,λw7 pC w' hb _=>⟨rfl,?_⟩⟩⟩⟩⟩⟩
 ·have lH:=aX.below iY
  refine lH.ret (λ_ _=>auu (Z.stops lH) bY c2 mV mW M M) λhC wT lF=>⟨_,_,rfl,lF.O,λe0=>absurd rfl e0,λ_=>⟨s.az,Z.cell wT 4 rfl,λbw bp=>Z.tq (wT.below bp) rfl λbD cg bO=>⟨_,rfl,bO.O,Z.cell cg 4 rfl,λbP hb5=>af.pure (KJ ok.p7 ok.az) (cg.below hb5) λcu eJ dK=>⟨_,_,rfl,dK.O,Z.ch eJ M,λw7 pC w' hb _=>⟨rfl,?_⟩⟩⟩⟩⟩
  have jv:=Z.yB eJ rfl pC aS aS hY;refine af.bQ (jv.below hb) ⟨rfl,?_⟩;rw[Dh,aA e];rfl
 ·have jv:=Z.yB eJ rfl pC aS aS hY
  refine af.bQ (jv.below hb) ⟨rfl,?_⟩;have hw:s5 s.dc.l 1 (s.dc.ai-1) (s.dc.ai-1-s.az.ae).toNat s.az.ae (max n 0)=s5 s.dc.l 1 (s.ai-1) (s.ai-1-s.az.ae).toNat s.az.ae (max n 0):=by rw[ht]
  rw[hw,Dh,ag M];rfl
end
section
variable{w0 w w' w1:World}{F0:Nat->Prop}{bs:List Nat}{o o':I}{l l' bM bq:List I}{R:Ending->World->Prop}{f:FuncId}{args:Array Value}{s s':cN}{g:cV}
def ug(k:Nat)(x:eL)(s:cN):cN:=if k=1 then{s with bX:=x} else{s with aN:=x}
theorem UI(k:Nat)(x:eL)(s:cN):(ug k x s).av=qK k x s.av:=by unfold ug qK;split<;>rfl
theorem UH(k:Nat)(x:eL)(s:cN):(ug k x s).b=s.b:=by unfold ug;split<;>rfl
theorem Kg{bM bq:List I}{b i:Nat}{t:TypeId}{cs fD:List Value}(h:(I.sep (bM++I.aF b t fD::bq)).F i):(I.sep (bM++I.aF b t cs::bq)).F i:=by
 obtain⟨x,hx,e⟩:=h;rcases gi.1 hx with q|q
 ·exact⟨x,pd _ q,e⟩
 ·rcases e7.1 q with rfl|q
  ·exact⟨I.aF b t cs,by simp,e⟩
  ·exact⟨x,by simp[q],e⟩
theorem Z.UG{k:Nat}{x:eL}{cf:List Nat}(h:af w0 F0 bs (Z s) w)(hk:k<=1)(hp:bH w cf ⟨s.b,0,none⟩ (33+k*18) x.T.toList w')(hd:∀d∈cf,d∈bs)(fa:∀b∈bs,w0.heap.size<=b)(hY:Y.dZ<=w0.heap.size):af w0 F0 bs (Z (ug k x s)) w':=by
 have:k=0∨k=1:=by omega
 rcases this with rfl|rfl
 ·exact Z.Ae (s':=ug 0 x s) h hp hd fa hY (by show 33+18<=73;omega) rfl rfl rfl rfl rfl
 ·exact Z.Ae (s':=ug 1 x s) h hp hd fa hY (by show 51+18<=73;omega) rfl rfl rfl rfl rfl
theorem Z.FM{b:Nat}(h:af w0 F0 bs (Z s) w1)(hb:s.b=b)(hu:s.aJ.c_<=1)(hR:∀ad,af w0 F0 bs (Z s) ad->U bg w1 ad->R (.returned (.int .i64 s.aJ.c_)) ad):dH Tryz.prog X.wV #[.pointer (some ⟨b,0,none⟩)] w1 R:=by
 subst hb;exact h.ret (λa b=>af5 b a hu) hR
theorem at7{N:Nat}(aj:Laid w)(h:(Z s).P w)(ok:b5 N s.av):bI Tryz.prog X.VL #[s.ptr] w (Z s).F (λv w'=>v= .int .i64 0/\fK Z w s (λs'=>s'.b=s.b/\s'.av=FD s.av) w'):=by
 have hY:=aj.size;have hu:s.aJ.c_<=1:=ok.u;have aN:=af.start (bs:=[]) aj h aS;refine azz _ λw1 hb1=>af.pure Qt (aN.below hb1) λad aX aI=>⟨nR,rfl,aI.O,λar ec=>?_⟩
 have fa:∀b∈[ar],w.heap.size<=b:=by have:=aX.kept.size;simp;omega
 have t2:af w (Z s).F [ar] (Z s) ad:=aX.cZ ec;refine⟨_,Z.cell t2 26 rfl,_,Z.cell t2 23 rfl,_,Z.cell t2 25 rfl,_,Z.cell t2 24 rfl,_,Z.cell t2 18 rfl,Z.ch t2 M,λbw iw=>?_⟩;have t3:af w (Z s).F [ar] (Z {s with bA:=uo s.bA}) bw:=Z.put t2 iw OU rfl rfl rfl rfl rfl;refine⟨Z.ch t3 M,λbD sy=>?_⟩;have t4:af w (Z s).F [ar] (Z {s with bA:=uo s.bA,bV:=jg}) bD:=Z.put t3 sy JE rfl rfl rfl rfl rfl;refine⟨Z.ch t4 M,λbP iJ=>?_⟩;have t5:af w (Z s).F [ar] (Z {s with bA:=uo s.bA,bV:=jg,cs:=lL}) bP:=Z.put t4 iJ FW rfl rfl rfl rfl rfl;refine λcu ep oX=>Z.FM (t5.below ep) rfl hu λw7 Dg e_=>⟨_,rfl,e_.O,λcW lE aoj=>af.pure GF (Dg.below lE) λcR t9 pz=>⟨h7,rfl,pz.O,⟨by omega,by show(s.aJ.c_:Int)<2;omega⟩,Z.ch t9 XM,λgn Mb=>?_⟩⟩
 have ahm:=Z.UG (k:=s.aJ.c_) (x:=h7) t9 hu Mb aS fa hY;have iY:=UH s.aJ.c_ h7 {s with bA:=uo s.bA,bV:=jg,cs:=lL};have hro:(ug s.aJ.c_ h7 {s with bA:=uo s.bA,bV:=jg,cs:=lL}).an=s.an:=by unfold ug;split<;>rfl
 refine⟨_,Z.q9 ahm iY 0 rfl,λhC fs rl=>?_⟩;rw[hro];refine af.pure (KM ok.de ok.c1) (ahm.below fs) λkl De iZ=>⟨⟨0,s.an-1⟩,_,rfl,iZ.O,Z.tx De iY M,λjy pB w' hb _=>⟨rfl,?_⟩⟩
 have awq:af w (Z s).F [ar] (Z {ug s.aJ.c_ h7 {s with bA:=uo s.bA,bV:=jg,cs:=lL} with aq:=⟨0,s.an-1⟩}) jy:=Z.put De (by rw[iY];exact pB) OV rfl rfl rfl rfl rfl;refine af.bQ (awq.below hb) ⟨iY,?_⟩;have:=UI s.aJ.c_ h7 {s with bA:=uo s.bA,bV:=jg,cs:=lL};show{(ug s.aJ.c_ h7 {s with bA:=uo s.bA,bV:=jg,cs:=lL}).av with aq:=⟨0,s.an-1⟩}=FD s.av;rw[this];rfl
theorem at5{an ai:Nat}(aj:Laid w)(h:(Z s).P w)(hr:s.an=an)(hc:s.ai=ai)(de:1<=an)(c1:an<=1000)(bY:1<=ai)(c2:ai<=1000):bI Tryz.prog X.Jd #[s.ptr] w (Z s).F (λv w'=>v= .int .i64 0/\fK Z w s (λs'=>s'.b=s.b/\s'.av={U9 s.av with Ou:=ai}) w'):=by
 have hY:=aj.size;have aN:=af.start (bs:=[]) aj h aS;refine ahB _ ⟨an,by rw[<-hr];exact Z.cell aN 0 rfl,ai,by rw[<-hc];exact Z.cell aN 1 rfl,λw1 hb1=>?_⟩;have bX:=aN.below hb1;have IB:∀i,(Z s).F i->i<w1.heap.size:=λi hi=>(Z s).lt bX.at_ hi
 refine af.z7 bX (λ_ b=>afF b de c1 bY c2) λv ad ⟨q,ah,S5,S4,H6⟩ aX aI=>⟨_,_,dx Ending.returned ah,aI.O,Z.ch aX M,λbw iw=>⟨λe=>absurd rfl e,λ_=>?_⟩⟩
 have hs1:=bX.kept.size;have fG:af w (Z s).F [] (I.sep [I.cl s.hi,I.stops s.dc,I.aF s.b G.fi ({s with aJ:=q}:cN).cells,bE s.aJ]) bw:=af.put (n:=0) [I.cl s.hi,I.stops s.dc] [bE s.aJ] aX (show 2+1<=73 by omega) iw;have Es:(bE q).P bw:=(bE q).ax S4 (iw.ax (F:=λi=>i=s.b) rfl) λi hi bk=>by have:=H6 i bk;have:=IB s.b ⟨d_ s,List.Mem.tail _ (List.Mem.tail _ (List.Mem.head _)),rfl⟩;omega
 have eb:af w (Z s).F [] (Z {s with aJ:=q}) bw:=af.Oo [I.cl s.hi,I.stops s.dc,I.aF s.b G.fi ({s with aJ:=q}:cN).cells] [] fG (λi hi=>IB i (Kg (bM:=[I.cl s.hi,I.stops s.dc]) (bq:=[bE s.aJ]) hi)) Es H6 hs1 aS;refine⟨ai,by rw[<-hc];exact Z.cell eb 1 rfl,λbD eR=>?_⟩;have cg:=eb.below eR;have IC:∀i,(Z {s with aJ:=q}).F i->i<bD.heap.size:=λi hi=>(Z {s with aJ:=q}).lt cg.at_ hi
 refine af.z7 cg (λ_ b=>af_ b M M) λv bP ⟨t,ah,Ez,pE,Td,Ia⟩ ey eH=>⟨_,_,dx Ending.returned ah,eH.O,Z.ch ey M,λcu ot=>⟨λe=>absurd rfl e,λ_=>?_⟩⟩
 have pD:=cg.kept.size;have sP:af w (Z s).F [] (I.sep [I.cl s.hi,I.stops s.dc,I.aF s.b G.fi ({s with aJ:=q,dc:=t}:cN).cells,bE q]) cu:=af.put (n:=0) [I.cl s.hi,I.stops s.dc] [bE q] ey (show 29+1<=73 by omega) ot;have Tc:(I.stops t).P cu:=(I.stops t).ax Td (ot.ax (F:=λi=>i=s.b) rfl) λi hi bk=>by have:=Ia i bk;have:=IC s.b ⟨d_ {s with aJ:=q},List.Mem.tail _ (List.Mem.tail _ (List.Mem.head _)),rfl⟩;omega
 have eJ:af w (Z s).F [] (Z {s with aJ:=q,dc:=t}) cu:=af.Oo [I.cl s.hi] [I.aF s.b G.fi ({s with aJ:=q,dc:=t}:cN).cells,bE q] sP (λi hi=>IC i (Kg (bM:=[I.cl s.hi,I.stops s.dc]) (bq:=[bE q]) hi)) Tc Ia pD aS;refine⟨an,by rw[<-hr];exact Z.cell eJ 0 rfl,λw7 c8=>af.pure (KM M M) (eJ.below c8) λcW eP br=>⟨⟨0,(an:Int)-1⟩,_,rfl,br.O,Z.ch eP M,λcR mF gn iY=>?_⟩⟩;have fl:af w (Z s).F [] (Z {s with aJ:=q,dc:=t,aq:=⟨0,(an:Int)-1⟩}) cR:=Z.put eP mF OV rfl rfl rfl rfl rfl;refine af.pure Qt (fl.below iY) λhC wT lF=>⟨nR,rfl,lF.O,Z.ch wT M,λkl Cf=>?_⟩
 have nT:af w (Z s).F [] (Z {s with aJ:=q,dc:=t,aq:=⟨0,(an:Int)-1⟩,az:=np}) kl:=Z.put wT Cf OX rfl rfl rfl rfl rfl;refine⟨Z.ch nT M,λjy pB=>?_⟩;have yI:af w (Z s).F [] (Z {s with aJ:=q,dc:=t,aq:=⟨0,(an:Int)-1⟩,az:=np,bV:=jg}) jy:=Z.put nT pB JE rfl rfl rfl rfl rfl;refine⟨Z.ch yI M,λk2 SR=>?_⟩;have kY:af w (Z s).F [] (Z {s with aJ:=q,dc:=t,aq:=⟨0,(an:Int)-1⟩,az:=np,bV:=jg,bA:=nR}) k2:=Z.put yI SR OU rfl rfl rfl rfl rfl;refine⟨Z.ch kY M,λoz SS nX oR=>?_⟩;have vy:af w (Z s).F [] (Z {s with aJ:=q,dc:=t,aq:=⟨0,(an:Int)-1⟩,az:=np,bV:=jg,bA:=nR,cs:=lL}) oz:=Z.put kY SS FW rfl rfl rfl rfl rfl;refine af.pure GF (vy.below oR) λl7 rJ oT=>⟨h7,rfl,oT.O,λlK B3=>af.pure GF (rJ.below B3) λqO yJ HE=>⟨h7,rfl,HE.O,Z.ch yJ M,λkm Er=>?_⟩⟩
 have qI:af w (Z s).F [] (Z {s with aJ:=q,dc:=t,aq:=⟨0,(an:Int)-1⟩,az:=np,bV:=jg,bA:=nR,cs:=lL,aN:=h7,bX:=h7}) km:=Z.put yJ Er (by show 33+36<=73;omega) rfl rfl rfl rfl rfl;refine⟨Z.ch qI M,λln SW w' hb _=>⟨rfl,?_⟩⟩;have Fk:af w (Z s).F [] (Z {s with aJ:=q,dc:=t,aq:=⟨0,(an:Int)-1⟩,az:=np,bV:=jg,bA:=nR,cs:=lL,aN:=h7,bX:=h7,vm:=[]}) ln:=Z.put qI SW OW rfl rfl rfl rfl rfl;refine af.bQ (Fk.below hb) ⟨rfl,?_⟩;show bl.mk s.an s.ai q.bu s.hi.r.aq np jg nR ⟨0,(an:Int)-1⟩ t.l lL h7 h7 s.jU [] s.iM s.dq t.ai=bl.mk s.an s.ai (IJ s.an.toNat s.ai.toNat) s.hi.r.aq np jg nR ⟨0,s.an-1⟩ (zn s.ai 0 []) lL h7 h7 s.jU [] s.iM s.dq ai;rw[S5,pE,Ez,hr,hc];rfl
end
def ag6(g:Int)(q:bl):bl:={q with cs:=⟨q.cs.aR,q.cs.g1,g⟩}
def qe(r:Int)(q:bl):bl:=
 if r=8 then l4 ⟨q.az.row,q.az.ae-min 1 q.az.ae,false⟩ q else if r=9 then Dh 1 q else if r=10∨r=11∨r=12 then kS q
 else if r=13 then l4 (kD q) q else if r=14∨r=15 then ag6 (15-r) q else q
section
variable{w0 w w' w1:World}{F0:Nat->Prop}{bs:List Nat}{o o':I}{l l' bM bq:List I}{R:Ending->World->Prop}{f:FuncId}{args:Array Value}{s s':cN}{g:cV}
theorem Z.r9{b:Nat}{q:bl}{V:Value}(h:af w0 F0 bs (Z s) w1)(hb:s.b=b)(hm:∀b∈bs,b<w1.heap.size)(hc:(Z s).P w1->Laid w1->bI Tryz.prog f args w1 (Z s).F (λv ad=>v=V/\fK Z w1 s (λs'=>s'.b=s.b/\s'.av=q) ad))
  (hR:∀ad s',s'.b=b->s'.av=q->af w0 F0 bs (Z s') ad->eC w0.heap.size F0 bs w1 ad->R (.returned V) ad):dH Tryz.prog f args w1 R:=by
 subst hb;exact af.Bq (mI:=Z) (fC:=λv=>v=V) h hm hc λv ad y ah ⟨e1,e2⟩ h2 hk=>by subst ah;exact hR ad y e1 e2 h2 hk
theorem at0{N:Nat}{r:Int}(aj:Laid w)(h:(Z s).P w)(ok:b5 N s.av)(hN:N+1000<=4611686018427387904)(hp:s.dq=0)(hr: -1000<=r/\r<=2000000):bI Tryz.prog X.VH #[s.ptr, .int .i32 r] w (Z s).F (λv w'=>v= .int .i64 0/\fK Z w s (λs'=>s'.b=s.b/\s'.av=qe r s.av) w'):=by
 have hY:=aj.size;have aN:=af.start (bs:=[]) aj h aS;refine azl _ r ⟨λe V=>e=0/\∃s',s'.b=s.b/\s'.av=qe r s.av/\af w (Z s).F [] (Z s') V,⟨λuV=>?_,λqy=>⟨λDT ky zx=>?_,λj5=>?_⟩⟩,?_⟩
 ·refine⟨s.az,Z.cell aN 4 rfl,λvC zy=>Z.tq (aN.below zy) rfl λw_ C6 HH=>⟨_,rfl,HH.O,Z.cell C6 4 rfl,λuv xZ=>af.pure (Z7 ok.p7 ok.az M) (C6.below xZ) λW9 I_ Sk=>⟨_,_,rfl,Sk.O,Z.ch I_ M,λJz SZ OK RS=>⟨rfl,_,?_,?_,(Z.yB I_ rfl SZ aS aS hY).below RS⟩⟩⟩⟩
  ·rfl
  ·rw[qe,aA uV]
   rfl
 ·exact Z.r9 (aN.below zx) rfl aS (λa b=>UU b a ok M) λAA s' e1 e2 h2 hk=>⟨_,rfl,hk,λrQ tE=>⟨rfl,s',e1,by rw[e2,qe,ag qy,aA DT],h2.below tE⟩⟩
 ·refine⟨λx V=>x=decide (r=10∨r=11∨r=12)/\af w (Z s).F [] (Z s) V,⟨λu V hb=>⟨λ_=>⟨by simp[u],aN.below hb⟩,λv=>absurd u v⟩,λu=>⟨λgu V hb=>⟨λ_=>⟨by simp[gu],aN.below hb⟩,λv=>absurd gu v⟩,λgu V hb=>⟨λs0=>⟨by simp[s0],aN.below hb⟩,λs0=>⟨by simp[u,gu,s0],aN.below hb⟩⟩⟩⟩,?_⟩
  rintro x bw _ ⟨hx,eb⟩;refine⟨λfU lK B3=>?_,λfU=>⟨λalr=>?_,λMY=>?_⟩⟩
  ·have yd:r=10∨r=11∨r=12:=by rw[hx] at fU;exact lu fU
   exact Z.r9 (eb.below B3) rfl aS (λa b=>US b a ok hN hp) λAA s' e1 e2 h2 hk=>⟨_,rfl,hk,λrQ tE=>⟨rfl,s',e1,by rw[e2,qe,ag qy,ag j5,aA yd],h2.below tE⟩⟩
  all_goals have yd:¬(r=10∨r=11∨r=12):=by rw[hx] at fU;exact mx fU
  ·refine⟨s.az,Z.cell eb 4 rfl,λvC zy=>Z.tq (eb.below zy) rfl λw_ C6 HH=>⟨_,rfl,HH.O,Z.cell C6 4 rfl,λuv xZ=>af.pure (KK ok.p7 ok.az) (C6.below xZ) λW9 I_ Sk=>⟨_,_,rfl,Sk.O,Z.ch I_ M,λJz SZ OK RS=>⟨rfl,_,?_,?_,(Z.yB I_ rfl SZ aS aS hY).below RS⟩⟩⟩⟩
   ·rfl
   ·rw[qe,ag qy,ag j5,ag yd,aA alr]
    rfl
  ·refine⟨λx V=>x=decide (r=14∨r=15)/\af w (Z s).F [] (Z s) V,⟨λu V hb=>⟨λ_=>⟨by simp[u],eb.below hb⟩,λv=>absurd u v⟩,λu V hb=>⟨λgu=>⟨by simp[gu],eb.below hb⟩,λgu=>⟨by simp[u,gu],eb.below hb⟩⟩⟩,?_⟩
   rintro y bD _ ⟨hy,cg⟩;refine⟨λxP=>?_,λxP bP hb5=>⟨rfl,s,rfl,?_,cg.below hb5⟩⟩
   ·have Tt:r=14∨r=15:=by rw[hy] at xP;exact lu xP
    refine⟨s.cs,Z.cell cg 30 rfl,by unfold ay;omega,by unfold ay;omega,λcu ep=>af.pure (ajY ok.cs M M) (cg.below ep) λw7 jv e_=>⟨_,_,rfl,e_.O,Z.ch jv M,λcW sz cR cr=>⟨rfl,{s with cs:=⟨s.cs.aR,s.cs.g1,15-r⟩},rfl,?_,(Z.put jv sz FW rfl rfl rfl rfl rfl:af w (Z s).F [] (Z {s with cs:=⟨s.cs.aR,s.cs.g1,15-r⟩}) cW).below cr⟩⟩⟩;rw[qe,ag qy,ag j5,ag yd,ag MY,aA Tt];rfl
   ·have Tt:¬(r=14∨r=15):=by rw[hy] at xP;exact mx xP
    rw[qe,ag qy,ag j5,ag yd,ag MY,ag Tt]
 ·rintro i w1 _ ⟨rfl,s',e1,e2,h1⟩ w' hb _
  exact⟨rfl,af.bQ (h1.below hb) ⟨e1,e2⟩⟩
end
def oG(l:List bC)(c:Nat):Prop:=1<=c->c<l.length->(cP l (c-1)).w≠2
theorem DK{l:List bC}{i j:Nat}{c:bC}(hj:j<l.length):cP (l.set i c) j=if i=j then c else cP l j:=by
 by_cases e:i=j
 ·subst e
  simp[cP,hj]
 ·simp[cP,e,F9]
theorem Qs{l:List bC}{k m j:Nat}{q:aT}(h:k+m<=l.length)(hj:j<l.length):cP (lq l k m q) j=if k<=j/\j<k+m then ed q else cP l j:=by
 have hl:(l.take k).length=k:=by simp;omega
 simp only[cP,lq,kb]
 by_cases h1:j<k
 ·rw[ag M,ju,nr M,XQ h1]
 ·by_cases h2:j<k+m
  ·rw[aA ⟨by omega,h2⟩,nr ej,mu M]
   simp only[hl,List.getElem?_replicate];rw[aA M];rfl
  ·rw[ag M,mu ej]
   simp only[gh,hl,n3,s9];rw[show k+m+(j-(k+m))=j by omega]
theorem Uo{c:bC}(h:ea c=true):h0 c.p=true:=by
 unfold ea at h;rw[fR] at h;exact h.1
theorem Av{l:List bC}(h:jB l)(c:Int):jB (fo l c):=by
 unfold fo;split
 ·next e=>
  obtain⟨e1,e2,e3⟩:=e;obtain⟨k,rfl⟩:∃k:Nat,c=(k:Int)+1:=⟨(c-1).toNat,by omega⟩;have iB:((k:Int)+1-1).toNat=k:=by omega
  have t2:((k:Int)+1).toNat=k+1:=by omega
  rw[iB] at e3⊢;rw[t2];have hk:k+1<l.length:=by omega
  have at_:∀j,j<l.length->cP ((l.set k (ed (cP l k).p)).set (k+1) (ed (cP l (k+1)).p)) j=if j=k+1 then ed (cP l (k+1)).p else if j=k then ed (cP l k).p else cP l j:=by
   intro j hj;rw[DK (by simpa using hj),DK hj]
   by_cases q1:j=k+1
   ·rw[aA q1.symm,aA q1]
   ·rw[ag (xe q1),ag q1]
    by_cases q2:j=k
    ·rw[aA q2.symm,aA q2]
    ·rw[ag (xe q2),ag q2]
  have hlen:((l.set k (ed (cP l k).p)).set (k+1) (ed (cP l (k+1)).p)).length=l.length:=by simp
  obtain⟨dd,a2,a3,a4⟩:=h k M;obtain⟨b1,b2,b3,p8⟩:=h (k+1) hk;have iv:(cP l (k+1)).w=0:=b2.2 ⟨by omega,by simpa using e3⟩;intro j hj;rw[hlen] at hj⊢;rw[at_ j hj]
  by_cases q1:j=k+1
  ·subst q1
   rw[aA rfl,at_ (k+1-1) M,show k+1-1=k by omega,ag M,aA rfl];exact⟨FN (Uo b1),⟨λu=>yW,λu=>(by cases u.2)⟩,λ_ u=>yW,λu=>yW⟩
  ·rw[ag q1]
   by_cases q2:j=k
   ·subst q2
    rw[aA rfl];refine⟨FN (Uo dd),⟨λu=>yW,λu=>?_⟩,λu v=>?_,λu=>yW⟩
    ·obtain⟨nk,gu⟩:=u
     rw[at_ (j-1) M,ag M,ag M] at gu;have:=a2.2 ⟨nk,gu⟩;omega
    ·rw[at_ (j-1) M,ag M,ag M] at v
     have:=a2.2 ⟨u,v⟩;omega
   ·rw[ag q2]
    obtain⟨bY,c2,c3,c4⟩:=h j hj
    by_cases cz:j=k+2
    ·subst cz
     rw[at_ (k+2-1) M,show k+2-1=k+1 by omega,aA rfl];rw[show k+2-1=k+1 by omega] at c2 c3;refine⟨bY,⟨λu=>?_,λu=>(by cases u.2)⟩,λ_ u=>yW,c4⟩;have:=(c2.1 u).2;omega
    ·by_cases en:j=0
     ·subst en
      exact⟨bY,⟨λu=>absurd (c2.1 u).1 M,λu=>absurd u.1 M⟩,λu=>absurd u M,c4⟩
     ·rw[at_ (j-1) M,ag M,ag M]
      exact⟨bY,c2,c3,c4⟩
 ·exact h
theorem Au{l:List bC}{c:Int}{k:Nat}(hk:c=k):oG (fo l c) k:=by
 intro h1 h2;rw[pQ] at h2;subst hk;unfold fo;split
 ·next e=>
  rw[DK ej,DK M,ag M,aA M];show(1:Int)≠2;omega
 ·next e=>
  intro u;exact e ⟨by omega,by omega,by rw[show((k:Int)-1).toNat=k-1 by omega];exact u⟩
theorem Oi{l:List bC}{c:Int}{k:Nat}(h:oG l k):oG (fo l c) k:=by
 intro h1 h2;rw[pQ] at h2;have aw:=h h1 h2;unfold fo;split
 ·next e=>
  rw[DK ej,DK M];split
  ·show(1:Int)≠2
   omega
  ·split
   ·show(1:Int)≠2
    omega
   ·exact aw
 ·exact aw
theorem aA6{l:List bC}{k m:Nat}{q:aT}(h:jB l)(hq:h0 q=true)(hm:k+m<=l.length)(h1:oG l k)(h2:oG l (k+m)):jB (lq l k m q):=by
 by_cases oW:m=0
 ·subst oW
  have:lq l k 0 q=l:=by simp[lq]
  rw[this];exact h
 have hlen:=ahU l q hm;intro j hj;rw[hlen] at hj⊢;rw[Qs hm hj]
 by_cases bY:k<=j/\j<k+m
 ·rw[aA bY]
  refine⟨FN hq,⟨λu=>yW,λ⟨nk,gu⟩=>?_⟩,λnk gu=>?_,λu=>yW⟩<;>
  ·rw[Qs hm M] at gu
   split at gu
   ·cases gu
   ·next cz=>
    have LZ:j=k:=by omega
    subst LZ;exact absurd gu (h1 M M)
 ·rw[ag bY]
  obtain⟨c2,c3,c4,c5⟩:=h j hj
  by_cases q0:j=0
  ·subst q0
   exact⟨c2,⟨λu=>absurd (c3.1 u).1 M,λu=>absurd u.1 M⟩,λu=>absurd u M,c5⟩
  ·rw[Qs hm M]
   by_cases q1:k<=j-1/\j-1<k+m
   ·rw[aA q1]
    have LY:j=k+m:=by omega
    have:=h2 M M;rw[<-LY] at this;exact⟨c2,⟨λu=>absurd (c3.1 u).2 this,λu=>(by cases u.2)⟩,λ_ u=>yW,c5⟩
   ·rw[ag q1]
    exact⟨c2,c3,c4,c5⟩
theorem akH{l:List bC}{cQ w6:Int}{q:aT}(h:jB l)(hq:h0 q=true)(aW:0<=cQ)(h1:cQ<=w6)(h2:w6<=l.length):jB (KX l cQ w6 q):=by
 unfold KX;refine aA6 (Av (Av h _) _) hq (by rw[pQ,pQ];omega) (Oi (Au M)) (Au M)
theorem Q_{r:cc}{k:Nat}{cs:List bC}{an ai:Int}(h:fS r an ai)(h2:ai<=1000)(hc:k<r.ab.length->jB (hX r.ab k).cs->(hX r.ab k).cs.length=r.ai->cs.length=r.ai/\jB cs):fS (wh r k cs) an ai:=by
 refine⟨h.c,by rw[<-h.r];simp[wh],λl hl=>?_⟩;unfold wh at hl;dsimp only at hl
 by_cases hk:k<r.ab.length
 ·rcases vI hl with q|q
  ·exact h.ok l q
  ·obtain⟨dd,a2⟩:=h.ok _ (MG hk)
   obtain⟨b1,b2⟩:=hc hk ((CO _).1 a2).2 dd;rw[q];exact⟨b1,(CO _).2 ⟨by show cs.length<=1000;have:=h.c;omega,b2⟩⟩
 ·rw[F6 M] at hl
  exact h.ok l hl
theorem QR{r:cc}{row cQ w6:Int}{q:aT}{an ai:Int}(h:fS r an ai)(hq:h0 q=true)(h2:ai<=1000):fS (oN r row cQ w6 q) an ai:=by
 unfold oN;split
 ·next e=>
  have he:=e.1;unfold ra at he;split at he
  ·next q=>exact absurd he q
  ·split at he
   ·cases he
   ·next q2=>
    refine Q_ h h2 λhk hr hl=>⟨?_,akH hr hq M M M⟩
    unfold KX;rw[ahU _ _ (by rw[pQ,pQ];omega),pQ,pQ];exact hl
 ·exact h
theorem Xj{r:cc}{q:aT}{an ai:Int}(h:fS r an ai)(hq:h0 q=true)(h2:ai<=1000):∀k,fS (rR r q k) an ai
 |0=>h
 |k+1=>N7 (QR (Xj h hq h2 k) hq h2)
def zZ(n:Int)(q:bl):bl:={q with bu:=yk q.bu n (dj q),bA:={q.bA with gP:=0}}
def Rf(n:Int)(q:bl):bl:={q with bA:={q.bA with gP:=n},bu:=DW q.bu n (An q) (dj q)}
def rM(n:Int)(on:Bool)(q:bl):bl:=
 if on=decide (q.bu.c_=1) then q else if on=true then Rf n q
 else if wI q.bu n=true then Fb (ru q.bu n) (zZ n q) else zZ n q
theorem CQ:mK h7=true:=by decide
theorem aeo{v:c6}{n:Int}(h:∀s,v.kept=some s->mK s=true):mK (ru v n)=true:=by
 unfold ru;split
 ·cases hk:v.kept with
  |none=>exact CQ
  |some s=>exact h s hk
 ·exact CQ
theorem MF{N:Nat}{n:Int}{q:bl}(h:b5 N q):b5 N (zZ n q):=by
 have hq:=CP h.bV;have hw:=Xj h.g1 hq h.c2 q.bu.g1.ab.length;have wA:kT {q.bA with gP:=0}=true:=by
  have:=h.bA;unfold kT at this⊢;rw[fR] at this⊢;exact⟨this.1,by simp⟩
 unfold zZ yk;split
 ·exact{h with g1:=hw,u:=ef _,bA:=wA}
 ·split
  ·exact{h with u:=ef _,bA:=wA,k:=λs e=>by cases e}
  ·exact{h with u:=ef _,bA:=wA}
theorem adK{n:Int}(h:n=47∨n=1047∨n=1049):ED n=true/\zV n=true:=by
 rcases h with rfl|rfl|rfl<;>exact⟨by decide,by decide⟩
theorem alA{N:Nat}{n:Int}{q:bl}(h:b5 N q)(hn:n=47∨n=1047∨n=1049):b5 N (Rf n q):=by
 have hq:=CP h.bV;have hw:=Xj h.g1 hq h.c2 q.bu.g1.ab.length;have wA:kT {q.bA with gP:=n}=true:=by
  have:=h.bA;unfold kT at this⊢;rw[fR] at this⊢;exact⟨this.1,by show(decide (n=0)||zV n)=true;rw[(adK hn).2];simp⟩
 unfold Rf DW;split
 ·exact{h with g1:=hw,u:=cL _,bA:=wA,k:=λs e=>by cases e;exact h.Ja}
 ·exact{h with u:=cL _,bA:=wA}
theorem auT{x:eL}{a:dy}(hx:mK x=true)(ha:a.ok):(sT x a).az.ok a/\h0 (sT x a).p=true/\o3 (sT x a).cs=true:=by
 unfold mK at hx;simp only[fR,lM] at hx;obtain⟨⟨⟨⟨⟨hE,iQ⟩,vE⟩,xa⟩,n0⟩,nn⟩:=hx;have h1:=ha.de;have h2:=ha.bY;have aw:=ha.t;have aZ:=ha.ur;have ca:=ha.b;refine⟨⟨?_,?_,?_,?_,?_⟩,n0,nn⟩
 ·unfold sT
  dsimp only;split<;>omega
 ·unfold sT
  dsimp only;split<;>omega
 ·show 0<=min x.az.ae (a.ai-1)
  omega
 ·show min x.az.ae (a.ai-1)<a.ai
  omega
 ·intro e
  have e':(x.az.dC&&decide (min x.az.ae (a.ai-1)=a.ai-1))=true:=e;rw[fR,lM] at e';exact e'.2
theorem ary{m:Md}{b:Bool}(h:kT m=true):kT {m with fy:=b}=true:=h
theorem U_{N:Nat}{x:eL}{q:bl}(h:b5 N q)(hx:mK x=true):b5 N (Fb x q):=by
 obtain⟨a,b,c⟩:=auT hx h.p7;exact{h with mX:=a.de,mY:=a.c1,mV:=a.bY,mW:=a.c2,d':=a.p,bV:=b,bA:=ary h.bA,cs:=c}
theorem awn{N:Nat}{n:Int}{on:Bool}{q:bl}(h:b5 N q)(hn:n=47∨n=1047∨n=1049):b5 N (rM n on q):=by
 unfold rM;split
 ·exact h
 ·split
  ·exact alA h hn
  ·split
   ·exact U_ (MF h) (aeo h.k)
   ·exact MF h
section
variable{w0 w w' w1:World}{F0:Nat->Prop}{bs:List Nat}{o o':I}{l l' bM bq:List I}{R:Ending->World->Prop}{f:FuncId}{args:Array Value}{s s':cN}{g:cV}
theorem Z.zh{b:Nat}{q:bl}{V:Value}{kd:Nat->Array Value}(h:af w0 F0 bs (Z s) w1)(hb:s.b=b)(hm:∀b∈bs,b<w1.heap.size)(hc:(Z s).P w1->Laid w1->bI Tryz.prog f (kd s.b) w1 (Z s).F (λv ad=>v=V/\fK Z w1 s (λs'=>s'.b=s.b/\s'.av=q) ad))
  (hR:∀ad s',s'.b=b->s'.av=q->af w0 F0 bs (Z s') ad->eC w0.heap.size F0 bs w1 ad->R (.returned V) ad):dH Tryz.prog f (kd b) w1 R:=by
 subst hb;exact af.Bq (mI:=Z) (fC:=λv=>v=V) h hm hc λv ad y ah ⟨e1,e2⟩ h2 hk=>by subst ah;exact hR ad y e1 e2 h2 hk
theorem Z.Kz{b:Nat}(h:af w0 F0 bs (Z s) w1)(hb:s.b=b)(hR:∀ad,af w0 F0 bs (Z s) ad->U bg w1 ad->R (.returned (.agg (dj s.av).T)) ad):dH Tryz.prog X.qJ #[.pointer (some ⟨b,0,none⟩)] w1 R:=by
 subst hb;exact h.ret (λa b=>NA (af.get [I.cl s.hi,I.stops s.dc] [bE s.aJ] h).1) hR
theorem Z.Nd{V:Value}{bu:c6}(h:af w0 F0 bs (Z s) w1)(hm:∀b∈bs,b<w1.heap.size)(hc:(bE s.aJ).P w1->Laid w1->bI Tryz.prog f args w1 (bE s.aJ).F (λv ad=>v=V/\fK bE w1 s.aJ (λq=>q.b=s.aJ.b/\q.bu=bu) ad))
  (hR:∀ad s',s'.b=s.b->s'.av={s.av with bu:=bu}->af w0 F0 bs (Z s') ad->eC w0.heap.size F0 bs w1 ad->R (.returned V) ad):dH Tryz.prog f args w1 R:=by
 refine af.call (o:=bE s.aJ) [I.cl s.hi,I.stops s.dc,d_ s] [] h hm hc λv ad ⟨ah,q,⟨e1,e2⟩,hp,bc⟩ hs=>?_
 subst ah;obtain⟨t2,aI⟩:=hs (bE q) hp bc;have e:({s with aJ:=q}:cN).cells=s.cells:=by
  show _::_::q.ptr::_=_::_::s.aJ.ptr::_;unfold cS.ptr;rw[e1]
 refine hR ad {s with aJ:=q} rfl ?_ ?_ aI
 ·show bl.mk _ _ q.bu _ _ _ _ _ _ _ _ _ _ _ _ _ _=_
  rw[e2];rfl
 ·unfold Z
  rw[e];exact t2
theorem at9{N:Nat}{n:Int}{on:Bool}(aj:Laid w)(h:(Z s).P w)(ok:b5 N s.av)(hn:n=47∨n=1047∨n=1049):bI Tryz.prog X.N2 #[s.ptr, .int .i64 n, .bool on] w (Z s).F (λv w'=>v= .int .i64 0/\fK Z w s (λs'=>s'.b=s.b/\s'.av=rM n on s.av) w'):=by
 have hY:=aj.size;have hu:s.aJ.c_<=1:=ok.u;have kO:=(adK hn).1;have aN:=af.start (bs:=[]) aj h aS;refine azC _ n on λw1 hb1=>Z.FM (aN.below hb1) rfl hu λad aX aI=>⟨_,rfl,aI.O,?_⟩
 show _/\_;rw[cv,cb,show decide ((s.aJ.c_:Int)=1)=decide (s.av.bu.c_=1) from O8.2 ⟨λe=>by have e':(s.aJ.c_:Int)=1:=e;show s.aJ.c_=1;omega,λe=>by have e':s.aJ.c_=1:=e;omega⟩];refine⟨λe w' hb _=>⟨rfl,af.bQ (aX.below hb) ⟨rfl,by rw[rM,aA e]⟩⟩,λe=>⟨λBH Jz Hl=>?_,λBH=>?_⟩⟩
 ·have apm:s.aJ.c_=0:=by
   rw[BH] at e;have:¬s.aJ.c_=1:=λu=>e (l8 (p:=s.av.bu.c_=1) u).symm
   omega
  have avz:=aX.below Hl;refine avz.ret (λa b=>UT b a ok) λOK I' HI=>⟨An s.av,_,rfl,HI.O,λeO sv=>⟨λe0=>absurd rfl e0,λ_=>⟨Z.ch (I'.cZ sv) M,λW_ aoF=>?_⟩⟩⟩
  have agD:af w (Z s).F ([]++[eO]) (Z {s with bA:={s.bA with gP:=n}}) W_:=Z.put (I'.cZ sv) aoF XH rfl rfl rfl rfl rfl;refine⟨_,Z.cell agD 2 rfl,λXa Hm aoh=>Z.Kz (agD.below Hm) rfl λahJ NV B7=>⟨_,rfl,B7.O,Z.cell NV 2 rfl,λahK am9 aoi=>?_⟩⟩;refine Z.Nd (NV.below am9) (cB.all aoi) (λa b=>asv b a kO (λ_=>ok.Ja) ok.zd apm) λXb s' e1 e2 h2 hk=>⟨_,rfl,hk,λw' hb _=>⟨rfl,af.bQ (h2.below hb) ⟨e1,?_⟩⟩⟩
  rw[e2,rM,ag e,aA BH];rfl
 ·have apn:s.aJ.c_=1:=by
   rw[BH] at e;exact XX λu=>e (kp (p:=s.av.bu.c_=1) u).symm
  have adz:mK (ru s.aJ.bu n)=true:=aeo (v:=s.aJ.bu) ok.k;have Sq:∀{V:World},(bE s.aJ).P V->Laid V->bI Tryz.prog X.Gt #[s.aJ.ptr, .int .i64 n, .agg (dj s.av).T] V (bE s.aJ).F (λv w'=>v= .tuple #[.agg (ru s.aJ.bu n).T, .bool (wI s.aJ.bu n), .int .i64 0]/\fK bE V s.aJ (λq=>q.b=s.aJ.b/\q.bu=yk s.aJ.bu n (dj s.av)) w'):=λa b=>asx b a kO ok.zd apn
  refine⟨_,Z.cell aX 2 rfl,⟨λjy kM=>Z.Kz (aX.below kM) rfl λk2 kY oi=>⟨_,rfl,oi.O,Z.cell kY 2 rfl,λs4 so=>Z.Nd (kY.below so) aS Sq λOL b8 e1 e2 kZ vc=>⟨_,_,_,rfl,vc,λcH jJ=>⟨λe0=>absurd rfl e0,λ_=>⟨Z.tx (kZ.cZ jJ) e1 M,?_⟩⟩⟩,λcH jJ oz ks B9=>Z.Nd ((kY.cZ jJ).below ks) (cB.all B9) Sq λOL b8 e1 e2 kZ vc=>⟨_,_,_,rfl,vc,λe0=>absurd rfl e0,λ_=>⟨Z.tx kZ e1 M,?_⟩⟩⟩,λcH jJ bw bp fN=>Z.Kz ((aX.cZ jJ).below bp) rfl λbD cg bO=>⟨_,rfl,bO.O,Z.cell cg 2 rfl,λbP hb5 om=>Z.Nd (cg.below hb5) (cB.all om) Sq λOL b8 e1 e2 kZ vc=>⟨_,_,_,rfl,vc,λe0=>absurd rfl e0,λ_=>⟨Z.tx kZ e1 M,?_⟩⟩⟩⟩⟩
  ·replace kZ:=kZ.cZ jJ
   intro V Ch;have x_:w.heap.size<=cH:=by first|(have:=aX.kept.size;omega)|(have:=kY.kept.size;omega)|(have:=kZ.kept.size;omega)
   have gW:af w (Z s).F ([]++[cH]) (Z {b8 with bA:={b8.bA with gP:=0}}) V:=Z.Ae kZ (by rw[e1];exact Ch) aS OY hY XH rfl rfl rfl rfl rfl;have nO:({b8 with bA:={b8.bA with gP:=0}}:cN).av=zZ n s.av:=by
    have wA:b8.bA=s.bA:=dx bl.bA e2;show{b8.av with bA:={b8.bA with gP:=0}}=zZ n s.av;rw[e2,wA];rfl
   have SM:b5 N ({b8 with bA:={b8.bA with gP:=0}}:cN).av:=by rw[nO];exact MF ok
   refine⟨λDU jC kN tJ=>?_,λDU w' hb _=>⟨rfl,af.bQ (gW.below hb) ⟨e1,?_⟩⟩⟩
   ·refine Z.zh (kd:=λb=>#[.pointer (some ⟨b,0,none⟩), .agg (ru s.aJ.bu n).T]) (gW.below kN) e1 (cB.all tJ) (λa b=>NB (N:=N) (x:=ru s.aJ.bu n) b a SM adz) λw_ s' f1 f2 h2 hk=>⟨_,rfl,hk,λw' hb _=>⟨rfl,af.bQ (h2.below hb) ⟨f1,?_⟩⟩⟩
    rw[f2,nO,rM,ag e,ag O2,aA (show wI s.av.bu n=true from DU)];rfl
   ·rw[nO,rM,ag e,ag O2,ag aic]
  all_goals
   intro V Ch;have x_:w.heap.size<=cH:=by first|(have:=aX.kept.size;omega)|(have:=kY.kept.size;omega)|(have:=kZ.kept.size;omega)
   have gW:af w (Z s).F ([]++[cH]) (Z {b8 with bA:={b8.bA with gP:=0}}) V:=Z.Ae kZ (by rw[e1];exact Ch) aS OY hY XH rfl rfl rfl rfl rfl;have nO:({b8 with bA:={b8.bA with gP:=0}}:cN).av=zZ n s.av:=by
    have wA:b8.bA=s.bA:=dx bl.bA e2;show{b8.av with bA:={b8.bA with gP:=0}}=zZ n s.av;rw[e2,wA];rfl
   have SM:b5 N ({b8 with bA:={b8.bA with gP:=0}}:cN).av:=by rw[nO];exact MF ok
   refine⟨λDU jC kN tJ=>?_,λDU w' hb _=>⟨rfl,af.bQ (gW.below hb) ⟨e1,?_⟩⟩⟩
   ·refine Z.zh (kd:=λb=>#[.pointer (some ⟨b,0,none⟩), .agg (ru s.aJ.bu n).T]) (gW.below kN) e1 (cB.all tJ) (λa b=>NB (N:=N) (x:=ru s.aJ.bu n) b a SM adz) λw_ s' f1 f2 h2 hk=>⟨_,rfl,hk,λw' hb _=>⟨rfl,af.bQ (h2.below hb) ⟨f1,?_⟩⟩⟩
    rw[f2,nO,rM,ag e,ag O2,aA (show wI s.av.bu n=true from DU)];rfl
   ·rw[nO,rM,ag e,ag O2,ag aic]
end
def tC(r:Int)(l:List Int)(a:dy)(c:Cu):Cu:=
 if r=65∨r=70 then⟨max (Dj a c) (c.row-min (e5 l 0) c.row),c.ae,false⟩
 else if r=66∨r=69 then⟨min (Bk a c) (c.row+min (e5 l 0) a.an),c.ae,false⟩
 else if r=67 then⟨c.row,c.ae+min (e5 l 0) (a.ai-1-c.ae),false⟩
 else if r=68 then⟨c.row,c.ae-min (e5 l 0) c.ae,false⟩
 else if r=71 then⟨c.row,max 0 (min (e5 l 0-1) (a.ai-1)),false⟩
 else if r=100 then⟨nS a (e5 l 0-1),c.ae,false⟩
 else⟨nS a (e5 l 0-1),max 0 (min (e5 l 1-1) (a.ai-1)),false⟩
def goes(r:Int):Bool:=decide (r=65∨r=70∨r=66∨r=69∨r=67∨r=68∨r=71∨r=100∨r=72∨r=102)
def BU(r:Int)(l:List Int)(a:dy)(c:Cu):Cu:=if r=69∨r=70 then⟨(tC r l a c).row,max 0 (min 0 (a.ai-1)),false⟩ else tC r l a c
def mH(r:Int)(l:List Int)(q:bl):Bool×bl:=
 if goes r=true then(true,l4 (BU r l (gZ q) q.az) q) else if r=73 then(true,Dh (e5 l 0) q) else if r=90 then(true,Dh (0-e5 l 0) q) else(false,q)
theorem M'{l:List Int}(h:∀n∈l,-1<=n/\n<=9999)(i:Int):1<=e5 l i/\e5 l i<=9999:=by
 have key:0<=dp l i 0/\dp l i 0<=9999:=by
  unfold dp;split
  ·next e=>
   refine⟨e.2.2,?_⟩;rw[kb,el (show i.toNat<l.length by omega)];exact(h _ (vM _)).2
  ·omega
 unfold e5;split<;>omega
theorem agn{a:dy}(h:a.ok)(r:Int):0<=nS a r/\nS a r<a.an:=by
 have h1:=h.de;have aw:=h.t;have aZ:=h.ur;have ca:=h.b;unfold nS;split<;>omega
theorem awz{a:dy}{c:Cu}(h:a.ok)(hc:c.ok a):0<=Dj a c/\Dj a c<=c.row:=by
 have h1:=hc.de;have aw:=h.t;unfold Dj;split<;>omega
theorem ajO{a:dy}{c:Cu}(h:a.ok)(hc:c.ok a):Bk a c<a.an/\c.row<=Bk a c:=by
 have h1:=hc.c1;have aw:=h.b;unfold Bk;split<;>omega
theorem abw{r:Int}{l:List Int}{a:dy}{c:Cu}(h:a.ok)(hc:c.ok a)(hl:∀n∈l,-1<=n/\n<=9999):(tC r l a c).ok a:=by
 have aW:=M' hl 0;have ht:=awz h hc;have hb:=ajO h hc;have hr:=agn h (e5 l 0-1);have h1:=h.de;have h2:=h.bY;obtain⟨a8,aK,k3,k4,dW⟩:=hc;unfold tC
 repeat' split
 all_goals exact⟨by dsimp only;omega,by dsimp only;omega,by dsimp only;omega,by dsimp only;omega,λe=>by cases e⟩
theorem amr{r:Int}{l:List Int}{a:dy}{c:Cu}(h:a.ok)(hc:c.ok a)(hl:∀n∈l,-1<=n/\n<=9999):(BU r l a c).ok a:=by
 have hg:=abw (r:=r) h hc hl;have h2:=h.bY;unfold BU;split
 ·exact⟨hg.de,hg.c1,by show 0<=max 0 (min 0 (a.ai-1));omega,by show max 0 (min 0 (a.ai-1))<a.ai;omega,λe=>by cases e⟩
 ·exact hg
section
variable{w0 w w' w1:World}{F0:Nat->Prop}{bs:List Nat}{o o':I}{bM bq:List I}{R:Ending->World->Prop}{f:FuncId}{args:Array Value}{s s':cN}{g:cV}
theorem at2{N:Nat}{r:Int}{aP:ao}{aM ba:Nat}{l:List Int}(aj:Laid w)(h:(Z s).P w)(ok:b5 N s.av)(hr:eK w aP aM l)(hd:∀a,aP=some a->¬(Z s).F a.block)(hl:∀n∈l,-1<=n/\n<=9999):
  bI Tryz.prog X.VI #[s.ptr, .int .i32 r, .slice aP aM ba] w (Z s).F (λv w'=>v= .tuple #[.bool (mH r l s.av).1, .int .i64 0]/\fK Z w s (λs'=>s'.b=s.b/\s'.av=(mH r l s.av).2) w'):=by
 have hY:=aj.size;have h1:=M' hl 0;have h2:=M' hl 1;have hlt:∀i,(Z s).F i->i<w.heap.size:=λi hi=>(Z s).lt h hi
 have aN:=af.start (bs:=[]) aj h aS;have hb:s.b<w.heap.size:=(af.get [I.cl s.hi,I.stops s.dc] [bE s.aJ] aN).1.lt;have hrow:∀{V:World},U (Z s).F w V->eK V aP aM l:=λhk=>Row.ax hr hk hd
 have oo:∀n,w.heap.size<=n->¬s.b∈[n]:=λn hn hm=>by rw[gg] at hm;omega
 have uP:∀{bs:List Nat} {V V':World} {R:Ending->World->Prop},af w (Z s).F bs (Z s) V->Below V.heap.size V V'->(∀ad,af w (Z s).F bs (Z s) ad->U bg V' ad->R (.returned (.agg (gZ s.av).T)) ad)->dH Tryz.prog X.mN #[.pointer (some ⟨s.b,0,none⟩)] V' R:=λa b c=>Z.tq (a.below b) rfl c
 have tw:∀{bs:List Nat} {i:Int} {V V':World} {R:Ending->World->Prop},af w (Z s).F bs (Z s) V->Below V.heap.size V V'->(∀ad,af w (Z s).F bs (Z s) ad->U bg V' ad->R (.returned (.int .i64 (e5 l i))) ad)->dH Tryz.prog X.qA #[.slice aP aM ba, .int .i64 i] V' R:=λa b c=>(a.below b).ret (λ_ _=>afQ (hrow (a.below b).kept)) c
 have gB:∀{bs:List Nat} {V:World},af w (Z s).F bs (Z s) V->w.heap.size<=V.heap.size:=λa=>a.kept.size
 have qF:∀{bs n_:List Nat} {V:World},af w (Z s).F bs (Z s) V->(∀b∈n_,w.heap.size<=b)->af w (Z s).F n_ (Z s) V:=λa hb=>a.Fa hlt hb
 have sg:∀{n:Nat} {V V':World},af w (Z s).F [] (Z s) V->w.heap.size<=n->dV V [n] V'->af w (Z s).F [] (Z s) V':=λ{n V V'} a hn he=>qF ((qF (n_:=[n]) a FX).ext he aS FX hY) aS
 have sh:∀{n m:Nat} {V V':World},af w (Z s).F [] (Z s) V->w.heap.size<=n->w.heap.size<=m->dV V [n,m] V'->af w (Z s).F [] (Z s) V':=λ{n m V V'} a hn hm he=>qF ((qF (n_:=[n,m]) a ej).ext he aS ej hY) aS
 have jP:∀V,af w (Z s).F [] (Z s) V->e5 l 0=e5 l 0/\(dy.mk s.an s.ai s.aq s.bA.fy)=gZ s.av/\(Cu.mk s.az.row s.az.ae s.az.dC)=s.az/\af w (Z s).F [] (Z s) V:=λV cY=>⟨rfl,rfl,rfl,cY⟩
 refine azr _ r aP aM ba ⟨λeA i2 i3 i4 i5 b1 zT zU b2 V=>eA=e5 l 0/\(dy.mk i2 i3 ⟨i4,i5⟩ b1)=gZ s.av/\(Cu.mk zT zU b2)=s.az/\af w (Z s).F [] (Z s) V,⟨s.az,Z.cell aN 4 rfl,λe6 ha=>tw aN ha λb4 bZ dv=>⟨_,rfl,dv.O,Z.cell bZ 4 rfl,?_,?_,?_⟩,?_,?_⟩,?_⟩
 ·exact λwc hc=>uP bZ hc λiC dr ee=>⟨gZ s.av,rfl,ee.O,Z.cell dr 4 rfl,λar g1 aQ g2 h4 he=>jP _ (dr.below he),λar g1 aQ g2 h4 he=>jP _ (dr.below he)⟩
 ·exact λar g1=>⟨λwc hc hm=>uP bZ hc λiC dr ee=>⟨gZ s.av,rfl,ee.O,Z.cell dr 4 rfl,λaQ g2=>⟨oo ar (ek (gB bZ) g1),λh4 he=>jP _ (sg dr (ek (gB bZ) g1) he)⟩⟩,λaQ g2 wc hc hm=>uP bZ hc λiC dr ee=>⟨gZ s.av,rfl,ee.O,Z.cell dr 4 rfl,oo ar (ek (gB bZ) g1),λh4 he=>jP _ (sh dr (ek (gB bZ) g2) (ek (gB bZ) g1) he)⟩⟩
 ·exact λar g1=>⟨λwc hc hm=>uP bZ hc λiC dr ee=>⟨gZ s.av,rfl,ee.O,Z.cell dr 4 rfl,λaQ g2 h4 he=>jP _ (sg dr (ek (gB bZ) g1) he)⟩,λaQ g2 wc hc hm=>uP bZ hc λiC dr ee=>⟨gZ s.av,rfl,ee.O,Z.cell dr 4 rfl,oo aQ (ek (gB bZ) g2),λh4 he=>jP _ (sh dr (ek (gB bZ) g1) (ek (gB bZ) g2) he)⟩⟩
 ·refine λar g1=>⟨λe6 ha hm=>tw aN ha λb4 bZ dv=>⟨_,rfl,dv.O,Z.cell bZ 4 rfl,λwc hc hm=>uP bZ hc λiC dr ee=>⟨gZ s.av,rfl,ee.O,Z.cell dr 4 rfl,λaQ g2=>⟨oo ar g1,λh4 he=>jP _ (sg dr g1 he)⟩⟩,λaQ g2 wc hc hm=>uP bZ hc λiC dr ee=>⟨gZ s.av,rfl,ee.O,Z.cell dr 4 rfl,oo ar g1,λh4 he=>jP _ (sh dr (ek (gB bZ) g2) g1 he)⟩⟩,λaQ g2 e6 ha hm=>tw aN ha λb4 bZ dv=>⟨_,rfl,dv.O,Z.cell bZ 4 rfl,λwc hc hm=>uP bZ hc λiC dr ee=>⟨gZ s.av,rfl,ee.O,Z.cell dr 4 rfl,oo ar g1,λh4 he=>jP _ (sh dr g2 g1 he)⟩⟩⟩
 ·refine λar g1=>⟨λe6 ha hm=>tw aN ha λb4 bZ dv=>⟨_,rfl,dv.O,Z.cell bZ 4 rfl,λwc hc hm=>uP bZ hc λiC dr ee=>⟨gZ s.av,rfl,ee.O,Z.cell dr 4 rfl,λaQ g2 h4 he=>jP _ (sg dr g1 he)⟩,λaQ g2 wc hc hm=>uP bZ hc λiC dr ee=>⟨gZ s.av,rfl,ee.O,Z.cell dr 4 rfl,oo aQ (ek (gB bZ) g2),λh4 he=>jP _ (sh dr g1 (ek (gB bZ) g2) he)⟩⟩,λaQ g2 e6 ha hm=>tw aN ha λb4 bZ dv=>⟨_,rfl,dv.O,Z.cell bZ 4 rfl,λwc hc hm=>uP bZ hc λiC dr ee=>⟨gZ s.av,rfl,ee.O,Z.cell dr 4 rfl,oo aQ g2,λh4 he=>jP _ (sh dr g1 g2 he)⟩⟩⟩
 ·rintro eA i2 i3 i4 i5 b1 zT zU b2 ar g1 aQ g2 w1 _ ⟨rfl,tB,zk,bX⟩
  have ic:∀b∈[ar,aQ],w.heap.size<=b:=by simp;omega
  have dJ:(dy.mk i2 i3 ⟨i4,i5⟩ b1).ok:=by rw[tB];exact ok.p7
  have qi:(Cu.mk zT zU b2).ok (dy.mk i2 i3 ⟨i4,i5⟩ b1):=by rw[tB,zk];exact ok.az
  have iB:=qF (n_:=[ar,aQ]) bX ic;have aqX:=aj6 (n:=e5 l 0) dJ qi M;have aqT:=aj3 (n:=e5 l 0) dJ qi M;have aqW:=aj4 (n:=e5 l 0) dJ qi M;have aqV:=Z7 (n:=e5 l 0) dJ qi M;have aqS:=KJ (ae:=e5 l 0-1) dJ qi;have aqY:=aj5 (row:=e5 l 0-1) dJ qi;have aqU:=Z6 (row:=e5 l 0-1) (ae:=e5 l 1-1) dJ;have uX:∀{V V':World},af w (Z s).F [ar,aQ] (Z s) V->dV V [aQ] V'->af w (Z s).F [ar,aQ] (Z s) V':=λa he=>a.ext he aS ic hY
  refine⟨λe row ae dC V=>e=0/\goes r=true/\(Cu.mk row ae dC)=tC r l (gZ s.av) s.az/\af w (Z s).F [ar,aQ] (Z s) V,⟨λx V=>x=decide (r=65∨r=70)/\af w (Z s).F [ar,aQ] (Z s) V,⟨λu V hb=>⟨λ_=>⟨by simp[u],iB.below hb⟩,λv=>absurd u v⟩,λu V hb=>⟨λgu=>⟨by simp[gu],iB.below hb⟩,λgu=>⟨by simp[u,gu],iB.below hb⟩⟩⟩,?_⟩,?_⟩
  ·rintro xC oz _ ⟨hb5,vy⟩
   refine⟨λn0 e6 ha hm=>af.pure aqX (vy.below ha) λb4 bZ dv=>⟨_,_,rfl,dv.O,λwc hc=>⟨rfl,?_,?_,uX bZ hc⟩⟩,λn0=>?_⟩
   ·rw[hb5] at n0;have x:=lu n0;unfold goes;simp only[lM];omega
   ·rw[hb5] at n0;have x:=lu n0;rw[<-tB,<-zk,tC,aA x]
   have pT:¬(r=65∨r=70):=by rw[hb5] at n0;exact mx n0
   refine⟨λx V=>x=decide (r=66∨r=69)/\af w (Z s).F [ar,aQ] (Z s) V,⟨λu V hb=>⟨λ_=>⟨by simp[u],vy.below hb⟩,λv=>absurd u v⟩,λu V hb=>⟨λgu=>⟨by simp[gu],vy.below hb⟩,λgu=>⟨by simp[u,gu],vy.below hb⟩⟩⟩,?_⟩;rintro zb nX _ ⟨ep,j7⟩;refine⟨λnn e6 ha hm=>af.pure aqT (j7.below ha) λb4 bZ dv=>⟨_,_,rfl,dv.O,λwc hc=>⟨rfl,?_,?_,uX bZ hc⟩⟩,λnn=>?_⟩
   ·rw[ep] at nn;have x:=lu nn;unfold goes;simp only[lM];omega
   ·rw[ep] at nn;have x:=lu nn;rw[<-tB,<-zk,tC,ag pT,aA x]
   have uy:¬(r=66∨r=69):=by rw[ep] at nn;exact mx nn
   refine⟨λx e6 ha hm=>af.pure aqW (j7.below ha) λb4 bZ dv=>⟨_,_,rfl,dv.O,λwc hc=>⟨rfl,?_,?_,uX bZ hc⟩⟩,λAO=>⟨λx e6 ha hm=>af.pure aqV (j7.below ha) λb4 bZ dv=>⟨_,_,rfl,dv.O,λwc hc=>⟨rfl,?_,?_,uX bZ hc⟩⟩,λJC=>⟨λx=>⟨by unfold ay;omega,λe6 ha hm=>af.pure aqS (j7.below ha) λb4 bZ dv=>⟨_,_,rfl,dv.O,λwc hc=>⟨rfl,?_,?_,uX bZ hc⟩⟩⟩,λaia=>⟨λx=>⟨by unfold ay;omega,λe6 ha hm=>af.pure aqY (j7.below ha) λb4 bZ dv=>⟨_,_,rfl,dv.O,λwc hc=>⟨rfl,?_,?_,uX bZ hc⟩⟩⟩,λaBr=>?_⟩⟩⟩⟩
   ·unfold goes;simp only[lM];omega
   ·rw[<-tB,<-zk,tC,ag pT,ag uy,aA x]
   ·unfold goes;simp only[lM];omega
   ·rw[<-tB,<-zk,tC,ag pT,ag uy,ag AO,aA x]
   ·unfold goes;simp only[lM];omega
   ·rw[<-tB,<-zk,tC,ag pT,ag uy,ag AO,ag JC,aA x]
   ·unfold goes;simp only[lM];omega
   ·rw[<-tB,<-zk,tC,ag pT,ag uy,ag AO,ag JC,ag aia,aA x]
   refine⟨λx V=>x=decide (r=72∨r=102)/\af w (Z s).F [ar,aQ] (Z s) V,⟨λu V hb=>⟨λ_=>⟨by simp[u],j7.below hb⟩,λv=>absurd u v⟩,λu V hb=>⟨λgu=>⟨by simp[gu],j7.below hb⟩,λgu=>⟨by simp[u,gu],j7.below hb⟩⟩⟩,?_⟩;rintro nF l7 _ ⟨c8,rJ⟩;refine⟨λs6=>⟨by unfold ay;omega,λe6 ha hm=>tw rJ ha λb4 bZ dv=>⟨_,rfl,dv.O,by unfold ay;omega,λwc hc hm=>af.pure aqU (bZ.below hc) λiC dr ee=>⟨_,_,rfl,ee.O,λh4 he=>⟨rfl,?_,?_,uX dr he⟩⟩⟩⟩,λs6=>?_⟩
   ·rw[c8] at s6;have x:=lu s6;unfold goes;simp only[lM];omega
   ·rw[<-tB,<-zk,tC,ag pT,ag uy,ag AO,ag JC,ag aia,ag aBr]
   have aD9:¬(r=72∨r=102):=by rw[c8] at s6;exact mx s6
   have FU:¬goes r=true:=by unfold goes;simp only[lM];omega
   refine⟨λx e6 ha hm=>Z.r9 (rJ.below ha) rfl (cB.all hm) (λa b=>UU b a ok M) λb4 s' e1 e2 bZ dv=>⟨_,rfl,dv,λV hb _=>⟨?_,af.bQ (bZ.below hb) ⟨e1,?_⟩⟩⟩,λOP=>⟨λx=>⟨by unfold ay;omega,λe6 ha hm=>Z.r9 (rJ.below ha) rfl (cB.all hm) (λa b=>UU b a ok M) λb4 s' e1 e2 bZ dv=>⟨_,rfl,dv,λV hb _=>⟨?_,af.bQ (bZ.below hb) ⟨e1,?_⟩⟩⟩⟩,λah' V hb _=>⟨?_,af.bQ (rJ.below hb) ⟨rfl,?_⟩⟩⟩⟩
   ·rw[mH,ag FU,aA x]
   ·rw[e2,mH,ag FU,aA x]
   ·rw[mH,ag FU,ag OP,aA x]
   ·rw[e2,mH,ag FU,ag OP,aA x]
   ·rw[mH,ag FU,ag OP,ag ah']
   ·rw[mH,ag FU,ag OP,ag ah']
  ·rintro i8 i9 tQ b3 ad _ ⟨rfl,hg,La,aX⟩
   have zu:(Cu.mk i9 tQ b3).ok (dy.mk i2 i3 ⟨i4,i5⟩ b1):=by rw[tB,La];exact abw ok.p7 ok.az hl
   have aeC:=KK dJ zu;refine⟨λe row ae dC V=>e=0/\(Cu.mk row ae dC)=BU r l (gZ s.av) s.az/\af w (Z s).F [ar,aQ] (Z s) V,⟨λ_=>⟨λx e6 ha hm=>af.pure aeC (aX.below ha) λb4 bZ dv=>⟨_,_,rfl,dv.O,λwc hc=>⟨rfl,?_,uX bZ hc⟩⟩,λy=>⟨λx e6 ha hm=>af.pure aeC (aX.below ha) λb4 bZ dv=>⟨_,_,rfl,dv.O,λwc hc=>⟨rfl,?_,uX bZ hc⟩⟩,λh6 e6 ha=>⟨rfl,?_,aX.below ha⟩⟩⟩,λe=>absurd rfl e⟩,?_⟩
   ·rw[BU,aA (.inl x),<-La,<-tB]
   ·rw[BU,aA (.inr x),<-La,<-tB]
   ·rw[BU,ag M,<-La]
   ·rintro nP sF adF p8 bw _ ⟨rfl,alv,eb⟩
    refine⟨λ_=>⟨Z.ch eb M,λbP hp V hb _=>⟨?_,af.bQ ((Z.yB (c:=⟨sF,adF,p8⟩) eb rfl hp aS ic hY).below hb) ⟨rfl,?_⟩⟩⟩,λe=>absurd rfl e⟩
    ·rw[mH,aA hg]
    ·rw[mH,aA hg]
     show l4 _ s.av=l4 _ s.av;rw[alv];rfl
end
def V1(m:Md)(q:bl):bl:={q with bA:=m}
def pJ(pre n:Int)(on:Bool)(q:bl):bl:=
 if(lT q.bA pre n on).2=false then q else if pre=63/\(n=47∨n=1047∨n=1049) then rM n on q
 else if pre=63/\n=6 then H3 (V1 (lT q.bA pre n on).1 q) else V1 (lT q.bA pre n on).1 q
def t_(pre:Int)(on:Bool)(l:List Int)(q:bl):bl:=l.foldl (λq n=>pJ pre n on q) q
theorem agQ{m:Md}{k:Nat}{b:Bool}:(w2 m k b).gP=m.gP/\(w2 m k b).ptr=m.ptr:=by
 unfold w2;split<;>exact⟨rfl,rfl⟩
theorem aak{m:Md}{pre n:Int}{on:Bool}(h:kT m=true):kT (lT m pre n on).1=true:=by
 have h':=h;unfold kT at h';rw[fR,vK,vK,lM,lM] at h';have key:∀k x,k=7∨k=8->(k=7->x=0∨EE x=true)->(k=8->x=0∨zV x=true)->kT (Ar m k x)=true:=by
  intro k x hk fM gT;unfold kT Ar;rw[fR,vK,vK,lM,lM];split
  ·next e=>exact⟨fM e,h'.2⟩
  ·next e=>exact⟨h'.1,gT M⟩
 have c7:gG pre n=7->EE n=true:=by unfold gG;repeat' split<;>simp_all
 have ZT:gG pre n=8->zV n=true:=by unfold gG;repeat' split<;>simp_all
 have hc:=QL pre n;unfold lT
 repeat' split
 ·show kT (w2 m (kU pre n) on)=true
  unfold kT;rw[agQ.1,agQ.2];exact h
 ·exact h
 ·exact key _ _ M (λe=> .inr (c7 e)) (λe=> .inr (ZT e))
 ·exact key _ _ M (λ_=> .inl rfl) (λ_=> .inl rfl)
 ·exact h
theorem agU{N:Nat}{q:bl}{m:Md}(h:b5 N q)(hm:kT m=true):b5 N (V1 m q):={h with bA:=hm}
theorem acW{N:Nat}{q:bl}(h:b5 N q):b5 N (H3 q):=by
 have:=agn h.p7 0;have:=h.bY;exact yN h ⟨by dsimp only;omega,by dsimp only;omega,by show 0<=max 0 (min 0 (q.ai-1));omega,by show max 0 (min 0 (q.ai-1))<q.ai;omega,λe=>by cases e⟩
theorem aq6{N:Nat}{q:bl}{pre n:Int}{on:Bool}(h:b5 N q):b5 N (pJ pre n on q):=by
 have hm:=agU h (aak (pre:=pre) (n:=n) (on:=on) h.bA);unfold pJ;split
 ·exact h
 ·split
  ·next e=>exact awn h e.2
  ·split
   ·exact acW hm
   ·exact hm
theorem aeN{N:Nat}{pre:Int}{on:Bool}{l:List Int}:∀{q:bl},b5 N q->b5 N (t_ pre on l q):=by
 induction l with
 |nil=>exact λh=>h
 |cons n l ih=>exact λh=>ih (aq6 h)
theorem aq9{pre:Int}{on:Bool}{l:List Int}{q:bl}{i:Nat}(h:i<l.length):t_ pre on (l.take (i+1)) q=pJ pre (l.getD i 0) on (t_ pre on (l.take i) q):=by
 rw[air h,t_,xf,kb,el h];rfl
section
variable{w0 w w' w1:World}{F0:Nat->Prop}{bs:List Nat}{o o':I}{bM bq:List I}{R:Ending->World->Prop}{f:FuncId}{args:Array Value}{s s':cN}{g:cV}
theorem avc(h:af w0 F0 bs o w):af w0 F0 [] o w:=⟨h.laid,h.kept,h.at_,λi hi=>⟨(h.own i hi).1,by simp⟩⟩
end
end Go.Proofs.YtimbpmnbbfeogaaGreatDoor
abbrev Go.Sy.af.free:=@Go.Proofs.YtimbpmnbbfeogaaGreatDoor.avc
namespace Go.Proofs.YtimbpmnbbfeogaaGreatDoor
open Go Go.RowKit Go.Sy Go.Rep
section
variable{w0 w w' w1:World}{F0:Nat->Prop}{bs:List Nat}{o o':I}{bM bq:List I}{R:Ending->World->Prop}{f:FuncId}{args:Array Value}{s s':cN}{g:cV}
theorem at1{N:Nat}{pre:Int}{on:Bool}{aP:ao}{aM ba:Nat}{l:List Int}(aj:Laid w)(h:(Z s).P w)(ok:b5 N s.av)(hr:eK w aP aM l)(hd:∀a,aP=some a->¬(Z s).F a.block)(hn:aM<=1000):
  bI Tryz.prog X.N0 #[s.ptr, .int .i32 pre, .slice aP aM ba, .bool on] w (Z s).F (λv w'=>v= .int .i64 0/\fK Z w s (λs'=>s'.b=s.b/\s'.av=t_ pre on l s.av) w'):=by
 have hY:=aj.size;have aN:=af.start (bs:=[]) aj h aS;have hlen:=hr.len;refine azq _ pre aP aM ba on ⟨λi V=>0<=i/\i<=aM/\∃s',s'.b=s.b/\s'.av=t_ pre on (l.take i.toNat) s.av/\af w (Z s).F [] (Z s') V,λi=>(aM-i).toNat,λV hb=>⟨by omega,by omega,s,rfl,rfl,aN.below hb⟩,?_⟩;rintro i w1 _ ⟨i0,eA,bX,m_,eq,iB⟩;refine⟨λhi=>?_,λhi V hb _=>⟨rfl,af.bQ (iB.below hb) ⟨m_,?_⟩⟩⟩
 ·have yv:b5 N bX.av:=by rw[eq];exact aeN ok
  have RZ:=aak (pre:=pre) (n:=l.getD i.toNat 0) (on:=on) yv.bA;have Co:∀{bs:List Nat} {gW:cN} {V V':World},gW.b=s.b->gW.av=pJ pre (l.getD i.toNat 0) on bX.av->af w (Z s).F bs (Z gW) V->Below V.heap.size V V'->(0<=i+1/\i+1<=(aM:Int)/\∃s',s'.b=s.b/\s'.av=t_ pre on (l.take (i+1).toNat) s.av/\af w (Z s).F [] (Z s') V')/\((aM:Int)-(i+1)).toNat<((aM:Int)-i).toNat:=by
   intro bs gW V V' e1 e2 cY hb;refine⟨⟨by omega,by omega,gW,e1,?_,(cY.below hb).free⟩,by omega⟩;rw[e2,show(i+1).toNat=i.toNat+1 by omega,aq9 M,eq]
  refine eK.fU (show eK w1 aP aM l from Row.ax hr iB.kept hd) i0 hi λaB xM=>?_
  have hI:ay (i+1):=by unfold ay;omega
  refine⟨bX.bA,Z.q9 iB m_ 18 rfl,λbw bp=>af.pure (aj2 (pre:=pre) (n:=l.getD i.toNat 0) (on:=on) yv.bA) (iB.below bp) λbD t4 k4=>?_⟩
  by_cases hc:(lT bX.bA pre (l.getD i.toNat 0) on).2=true
  ·rw[aA hc]
   have hc':¬(lT bX.av.bA pre (l.getD i.toNat 0) on).2=false:=by rw[show(lT bX.av.bA pre (l.getD i.toNat 0) on).2=true from hc];decide
   have S':∀{n:Nat} {V:World} {R:Ending->World->Prop},pre=63->(l.getD i.toNat 0=47∨l.getD i.toNat 0=1047∨l.getD i.toNat 0=1049)->af w (Z s).F ([]++[n]) (Z bX) V->n<V.heap.size->(∀ad gW,gW.b=s.b->gW.av=pJ pre (l.getD i.toNat 0) on bX.av->af w (Z s).F ([]++[n]) (Z gW) ad->eC w.heap.size (Z s).F ([]++[n]) V ad->R (.returned (.int .i64 0)) ad)->dH Tryz.prog X.N2 #[.pointer (some ⟨s.b,0,none⟩), .int .i64 (l.getD i.toNat 0), .bool on] V R:=by
    intro n V R hp hn cY SD hR;refine Z.zh (kd:=λb=>#[.pointer (some ⟨b,0,none⟩), .int .i64 (l.getD i.toNat 0), .bool on]) cY m_ (by simpa using SD) (λa b=>at9 b a yv hn) λad gW e1 e2 h2 hk=>hR ad gW e1 ?_ h2 hk
    rw[e2,pJ,ag hc',aA ⟨hp,hn⟩]
   have zM:∀{n:Nat} {V V':World},af w (Z s).F ([]++[n]) (Z bX) V->bH V [] ⟨s.b,0,none⟩ 18 (lT bX.bA pre (l.getD i.toNat 0) on).1.T.toList V'->af w (Z s).F ([]++[n]) (Z {bX with bA:=(lT bX.bA pre (l.getD i.toNat 0) on).1}) V':=by
    intro n V V' cY hp;rw[<-m_] at hp;exact Z.put cY hp OU rfl rfl rfl rfl rfl
   have ud:b5 N ({bX with bA:=(lT bX.bA pre (l.getD i.toNat 0) on).1}:cN).av:=agU (q:=bX.av) yv RZ;have anR:∀{n:Nat} {V V':World} {R:Ending->World->Prop},¬(pre=63/\(l.getD i.toNat 0=47∨l.getD i.toNat 0=1047∨l.getD i.toNat 0=1049))->pre=63->l.getD i.toNat 0=6->af w (Z s).F ([]++[n]) (Z {bX with bA:=(lT bX.bA pre (l.getD i.toNat 0) on).1}) V->n<V.heap.size->(∀ad gW,gW.b=s.b->gW.av=pJ pre (l.getD i.toNat 0) on bX.av->af w (Z s).F ([]++[n]) (Z gW) ad->eC w.heap.size (Z s).F ([]++[n]) V ad->R (.returned (.int .i64 0)) ad)->dH Tryz.prog X.Fq #[.pointer (some ⟨s.b,0,none⟩)] V R:=by
    intro n V V' R Cb hp hn cY SD hR;refine Z.zh (kd:=λb=>#[.pointer (some ⟨b,0,none⟩)]) cY m_ (by simpa using SD) (λa b=>af3 b a ud) λad gW e1 e2 h2 hk=>hR ad gW e1 ?_ h2 hk
    rw[e2,pJ,ag hc',ag Cb,aA ⟨hp,hn⟩];rfl
   have tM:¬(pre=63/\(l.getD i.toNat 0=47∨l.getD i.toNat 0=1047∨l.getD i.toNat 0=1049))->¬(pre=63/\l.getD i.toNat 0=6)->({bX with bA:=(lT bX.bA pre (l.getD i.toNat 0) on).1}:cN).av=pJ pre (l.getD i.toNat 0) on bX.av:=by
    intro h1 h2;rw[pJ,ag hc',ag h1,ag h2];rfl
   refine⟨_,_,rfl,k4.O,λar g1=>⟨λe=>absurd rfl e,λ_=>⟨λEW=>⟨λx e6 ha hm=>S' EW (.inl x) ((t4.cZ g1).below ha) (cB.all hm _ aS) λb4 gW e1 e2 ur dv=>⟨_,rfl,dv,λe=>absurd rfl e,λ_=>⟨hI,λwc hc=>Co e1 e2 ur hc⟩⟩,λh5=>⟨λx e6 ha hm=>S' EW (.inr (.inl x)) ((t4.cZ g1).below ha) (cB.all hm _ aS) λb4 gW e1 e2 ur dv=>⟨_,rfl,dv,λe=>absurd rfl e,λ_=>⟨hI,λwc hc=>Co e1 e2 ur hc⟩⟩,λh6=>⟨λx e6 ha hm=>S' EW (.inr (.inr x)) ((t4.cZ g1).below ha) (cB.all hm _ aS) λb4 gW e1 e2 ur dv=>⟨_,rfl,dv,λe=>absurd rfl e,λ_=>⟨hI,λwc hc=>Co e1 e2 ur hc⟩⟩,λoB=>⟨Z.tx (t4.cZ g1) m_ M,λkl Cf=>?_⟩⟩⟩⟩,λEW=>⟨Z.tx (t4.cZ g1) m_ M,λkl Cf=>?_⟩⟩⟩⟩
   ·have De:=zM (t4.cZ g1) Cf
    exact⟨λp=>⟨λnn e6 ha hm=>anR (V':=e6) M p nn (De.below ha) (cB.all hm _ aS) λb4 gW e1 e2 ur dv=>⟨_,rfl,dv,λe=>absurd rfl e,λ_=>⟨hI,λwc hc=>Co e1 e2 ur hc⟩⟩,λnn=>⟨hI,λwc hc=>Co (gW:={bX with bA:=(lT bX.bA pre (l.getD i.toNat 0) on).1}) m_ (tM M M) De hc⟩⟩,λp=>absurd EW p⟩
   ·have De:=zM (t4.cZ g1) Cf
    exact⟨λp=>absurd p EW,λp=>⟨hI,λwc hc=>Co (gW:={bX with bA:=(lT bX.bA pre (l.getD i.toNat 0) on).1}) m_ (tM M M) De hc⟩⟩
  ·rw[ag hc]
   refine⟨⟨false,false,false,false,false,false,false,0,0⟩,_,rfl,k4.O,λar g1=>⟨λ_=>⟨hI,λV hb=>Co m_ ?_ t4 hb⟩,λe=>by omega⟩⟩;rw[pJ,aA (show(lT bX.av.bA pre (l.getD i.toNat 0) on).2=false from Bool.eq_false_iff.2 hc)]
 ·rw[eq,jh M]
end
def BS(k:Nat)(q:bl):eL:=if k=1 then q.bX else q.aN
def Jk(l:List Int)(q:bl):bl:={q with stops:=l}
def agL(g k:Int)(q:bl):bl:={q with cs:=if g=0 then⟨k,q.cs.g1,q.cs.gO⟩ else⟨q.cs.aR,k,q.cs.gO⟩}
def agi(q:bl):bl:={q with az:=yE q.aq q.az,bu:=iO q.bu (Ah (c6.aL q.bu) q.aq q.az (dj q))}
def M0(q:bl):bl:={q with ah:=KY q.ah}
def M1(q:bl):bl:={q with jU:=[]}
def sf(r:Int)(q:bl):bl:=
 if r=55 then qK q.bu.c_ (An q) q else if r=56 then Fb (BS q.bu.c_ q) q
 else if r=68 then kS q else if r=69 then l4 (kD (kS q)) (kS q) else if r=72 then Jk (Aq q.az.ae q.stops) q
 else if r=77 then agi q else if r=99 then U9 (M1 (M0 q)) else q
def nI(r:Int)(bS:List UInt8)(q:bl):bl:=
 if bS=[40]∨bS=[41] then(if r=66∨r=48 then agL (if bS=[40] then 0 else 1) (max 0 (lG u2 r 0)) q else q)
 else if bS≠[] then q else sf r q
theorem Lr{N:Nat}{q:bl}{k:Nat}(h:b5 N q):mK (BS k q)=true:=by
 unfold BS;split
 ·exact h.bX
 ·exact h.aN
section
variable{w0 w w' w1:World}{F0:Nat->Prop}{bs:List Nat}{o o':I}{bM bq:List I}{R:Ending->World->Prop}{f:FuncId}{args:Array Value}{s s':cN}{g:cV}
theorem Z.agH(h:af w0 F0 bs (Z s) w){k:Nat}(hk:k<=1):At w ⟨s.b,0,none⟩ (33+k*18) (BS k s.av).T.toList:=by
 have:k=0∨k=1:=by omega
 rcases this with rfl|rfl
 ·exact Z.cell h 33 rfl
 ·exact Z.cell h 51 rfl
theorem Z.anU(h:af w0 F0 bs (Z s) w1)(hm:∀b∈bs,b<w1.heap.size)
  (hR:∀ad s',s'.b=s.b->s'.av=M0 s.av->s'.hi.b=s.hi.b->s'.aJ=s.aJ->s'.dc=s.dc->af w0 F0 bs (Z s') ad->eC w0.heap.size F0 bs w1 ad->R (.returned (.tuple #[])) ad):dH Tryz.prog X.Ef #[s.hi.ptr] w1 R:=by
 refine af.call (o:=I.cl s.hi) [] [I.stops s.dc,I.aF s.b G.fi s.cells,bE s.aJ] h hm (λa b=>afL b a) λv ad ⟨ah,dS,q1,q2,cz,en,eB⟩ hs=>?_
 obtain⟨t2,aI⟩:=hs (I.cl dS) en eB;have mi:dS.ptr=s.hi.ptr:=by unfold lx.ptr;rw[q1]
 subst ah;refine hR ad {s with hi:=dS} rfl ?_ q1 rfl rfl ?_ aI
 ·show bl.mk _ _ _ dS.r.aq _ _ _ _ _ _ _ _ _ _ _ _ _=_
  rw[cz];rfl
 ·have e:({s with hi:=dS}:cN).cells=s.cells:=by show _::_::_::dS.ptr::_=_;rw[mi];rfl
  unfold Z;rw[e];exact t2
theorem Z.WB{l:List Int}(h:af w0 F0 bs (Z s) w1)(hm:∀b∈bs,b<w1.heap.size)(hc:(I.stops s.dc).P w1->bI Tryz.prog f args w1 (I.stops s.dc).F (λv ad=>v= .int .i64 0/\(I.stops ⟨s.dc.b,s.dc.m,s.dc.ai,l⟩).P ad))
  (hR:∀ad s',s'.b=s.b->s'.av=Jk l s.av->af w0 F0 bs (Z s') ad->eC w0.heap.size F0 bs w1 ad->R (.returned (.int .i64 0)) ad):dH Tryz.prog f args w1 R:=by
 refine af.call (o:=I.stops s.dc) [I.cl s.hi] [I.aF s.b G.fi s.cells,bE s.aJ] h hm (λa b=>hc a) λv ad ⟨ah,hp⟩ hs=>?_
 obtain⟨t2,aI⟩:=hs (I.stops ⟨s.dc.b,s.dc.m,s.dc.ai,l⟩) hp λi hi=> .inl hi
 subst ah;exact hR ad {s with dc:=⟨s.dc.b,s.dc.m,s.dc.ai,l⟩} rfl rfl t2 aI
abbrev ze(a:Nat)(s:cN):xo:=[(a,G.ew,[s.ptr])]
theorem asR{a:Nat}(aj:Laid w)(h:(I.sep (d_ s::I.aL g::(ze a s).map gQ)).P w)(hr:nA g.aC s.aq)(hc:gM g.aC s.az)(hq:ea (ed (dj s.av))=true):
  bI Tryz.prog X.Fp #[.pointer (some ⟨g.b,0,none⟩), .pointer (some ⟨a,0,none⟩)] w (I.sep (d_ s::I.aL g::(ze a s).map gQ)).F (pY w (d_ s) g ((ze a s).map gQ) (A7 s (yE s.aq s.az) (Ah g.aC s.aq s.az (dj s.av)) (ze a s))):=by
 have aN:=af.start (bs:=[]) aj h aS;have dN:∀{V:World} {bT:Nat->Prop} {cI:List I} {k:Nat} {cj:List Value},af w bT [] (I.sep (I.aF s.b G.fi s.cells::cI)) V->cj=(s.cells.drop k).take cj.length->At V ⟨s.b,0,none⟩ k cj:=λcY hu=>uk (af.get [] _ cY).1 _ hu
 have box:∀{V:World} {bT:Nat->Prop} {i7 jf:I},af w bT [] (I.sep [i7,jf,I.aF a G.ew [s.ptr]]) V->At V ⟨a,0,none⟩ 0 [s.ptr]:=λcY=>(af.get [_,_] [] cY).1.at_ (show 1<=maxLen by decide)
 refine azk _ _ ⟨_,box aN,_,box aN,_,rfl,_,dN aN rfl,_,box aN,_,rfl,_,dN aN rfl,_,box aN,λw1 hb1=>?_⟩;have bX:=aN.below hb1;refine bX.ret (λ_ _=>NA (af.get [] _ bX).1) λad aX aI=>⟨_,rfl,aI.O,dN aX rfl,box aX,dN aX rfl,box aX,box aX,λbw bp=>?_⟩
 have eb:=aX.below bp;refine af.aL (fC:=λv _=>v= .tuple #[.agg (yE s.aq s.az).T, .int .i64 0]) [d_ s] ((ze a s).map gQ) eb aS (λx y=>atz y x hr hc hq) λv bD aU ah hp hg cg bO=>?_
 subst ah;refine⟨_,_,rfl,bO,box cg,_,rfl,af.ch (n:=3) [] _ cg (show 4+3<=73 by omega),λbP iJ w' hb _=>?_⟩;have ey:af w _ [] (I.sep (d_ {s with az:=yE s.aq s.az}::I.aL aU::(ze a s).map gQ)) bP:=af.put (n:=0) [] _ cg (show 4+3<=73 by omega) iJ;exact pY.of (ey.below hb) hp hg
end
section
variable{w0 w w' w1:World}{F0:Nat->Prop}{bs:List Nat}{o o':I}{bM bq:List I}{R:Ending->World->Prop}{f:FuncId}{args:Array Value}{s s':cN}{g:cV}
theorem Rq{r:Int}(h:r=66∨r=48):uc (max 0 (lG u2 r 0))=true/\¬lG u2 r 0<0:=by rcases h with rfl|rfl<;>exact⟨by decide,by decide⟩
theorem atZ{N:Nat}{a:ff}(aj:Laid w)(h:(Z s).P w)(ok:b5 N s.av)(hN:N+1000<=4611686018427387904)(hp:s.dq=0):bI Tryz.prog X.VG #[s.ptr, .agg a.T] w (Z s).F (λv w'=>v= .int .i64 0/\fK Z w s (λs'=>s'.b=s.b/\s'.av=nI a.rune a.bS s.av) w'):=by
 have hY:=aj.size;have hu:s.aJ.c_<=1:=ok.u;refine azj _ a λar g1 aQ g2=>?_
 have ic:∀b∈[ar,aQ],w.heap.size<=b:=by simp;omega
 have aN:=af.start (bs:=[ar,aQ]) aj h ic;have cs:∀{k:Int} {V:World},a.bS=[40+k.toNat.toUInt8]->(k=0∨k=1)->a.rune=66∨a.rune=48->Below w.heap.size w V->dH Tryz.prog X.KR #[.int .i32 a.rune] V (λals Jy=>∃i46 Mv:Int,(als=(.returned (.tuple #[(.int .i64 i46),(.int .i64 Mv)])))/\((eC w.heap.size (Z s).F [ar,aQ] V Jy)/\(((Mv≠0)->Sy.aa w (Z s).F Jy (λv w'=>v= .int .i64 0/\fK Z w s (λs'=>s'.b=s.b/\s'.av=nI a.rune a.bS s.av) w') (.int .i64 Mv))/\((Mv=0)->∃aau:gX,(At Jy ⟨s.b,0,none⟩ 30 aau.T.toList)/\((((0:Int)<=0)/\((0:Int)<((a.bS.length):Int)))/\((ay (IntKind.wrap .u8 ((ir a.bS 0)-40)))/\∀OJ,(Below Jy.heap.size Jy OJ)->(cB OJ w.heap.size [(ar,G.ew),(aQ,G.fO)])->dH Tryz.prog X.KT #[(.agg aau.T),(.int .i64 (IntKind.wrap .u8 ((ir a.bS 0)-40))),(.int .i64 i46)] OJ (λalu W8=>∃aav:gX,∃adG:Int,(alu=(.returned (.tuple #[(.agg aav.T),(.int .i64 adG)])))/\((eC w.heap.size (Z s).F [ar,aQ] OJ W8)/\(((ct W8 ⟨s.b,0,none⟩ 30 3)/\(cp w.heap.size (Z s).F [ar,aQ] s.b))/\∀ahI,(bH W8 [] ⟨s.b,0,none⟩ 30 aav.T.toList ahI)->Sy.aa w (Z s).F ahI (λv w'=>v= .int .i64 0/\fK Z w s (λs'=>s'.b=s.b/\s'.av=nI a.rune a.bS s.av) w') (.int .i64 adG)))))))))):=by
  intro k V hi hk hr cY;obtain⟨f1,f2⟩:=Rq hr;have zA:a.bS=[40]∨a.bS=[41]:=by rcases hk with rfl|rfl;exact .inl hi;exact .inr hi
  have hw:IntKind.wrap .u8 (ir a.bS 0-40)=k:=by rcases hk with rfl|rfl<;>rw[hi]<;>decide
  have aI:(if a.bS=[40] then(0:Int) else 1)=k:=by rcases hk with rfl|rfl<;>rw[hi]<;>decide
  refine af.pure ajV (aN.below cY) λad aX aK=>⟨_,_,rfl,aK.O,λe=>absurd (ag f2) e,λ_=>⟨s.cs,Z.cell aX 30 rfl,⟨by omega,by rw[hi];exact Int.zero_lt_one⟩,by rw[hw];unfold ay;omega,λbw bp fN=>?_⟩⟩
  rw[hw];refine af.pure (ajX (c:=s.cs) ok.cs M M f1) (aX.below bp) λbD cg k4=>⟨if k=0 then⟨max 0 (lG u2 a.rune 0),s.cs.g1,s.cs.gO⟩ else⟨s.cs.aR,max 0 (lG u2 a.rune 0),s.cs.gO⟩,0,?_,k4.O,Z.ch cg M,λbP iJ w' hb _=>⟨rfl,?_⟩⟩
  ·rcases hk with rfl|rfl<;>rfl
  ·have ey:af w (Z s).F [ar,aQ] (Z {s with cs:=if k=0 then⟨max 0 (lG u2 a.rune 0),s.cs.g1,s.cs.gO⟩ else⟨s.cs.aR,max 0 (lG u2 a.rune 0),s.cs.gO⟩}) bP:=Z.put cg iJ FW rfl rfl rfl rfl rfl
   refine af.bQ (ey.below hb) ⟨rfl,?_⟩;rw[nI,aA zA,aA hr,aI];rfl
 have nothing:∀{V:World},nI a.rune a.bS s.av=s.av->af w (Z s).F [ar,aQ] (Z s) V->Sy.aa w (Z s).F V (λv w'=>v= .int .i64 0/\fK Z w s (λs'=>s'.b=s.b/\s'.av=nI a.rune a.bS s.av) w') (.int .i64 0):=λe cY w' hb _=>⟨rfl,af.bQ (cY.below hb) ⟨rfl,e.symm⟩⟩
 refine⟨λCt=>⟨λx V cY _=>cs (k:=0) Ct (.inl rfl) (.inl x) cY,λh5=>⟨λx V cY _=>cs (k:=0) Ct (.inl rfl) (.inr x) cY,λh6=>⟨λ_=>nothing ?_ aN,λe=>by rw[Ct] at e;cases e⟩⟩⟩,λCt=>⟨λCv=>⟨λx V cY _=>cs (k:=1) Cv (.inr rfl) (.inl x) cY,λh5=>⟨λx V cY _=>cs (k:=1) Cv (.inr rfl) (.inr x) cY,λh6=>⟨λ_=>nothing ?_ aN,λe=>by rw[Cv] at e;cases e⟩⟩⟩,λCv=>⟨λe=>nothing ?_ aN,λe=>?_⟩⟩⟩
 ·rw[nI,aA (.inl Ct),ag M]
 ·rw[nI,aA (.inr Cv),ag M]
 ·rw[nI,ag (λu=>u.elim Ct Cv),aA e]
 have ib:nI a.rune a.bS s.av=sf a.rune s.av:=by rw[nI,ag (λu=>u.elim Ct Cv),ag (λu=>u e)]
 have adQ:∀{V:World} {R:Ending->World->Prop},Below w.heap.size w V->cB V w.heap.size [(ar,G.ew),(aQ,G.fO)]->(∀ad s',s'.b=s.b->s'.av=kS s.av->af w (Z s).F [ar,aQ] (Z s') ad->eC w.heap.size (Z s).F [ar,aQ] V ad->R (.returned (.int .i64 0)) ad)->dH Tryz.prog X.Ao #[.pointer (some ⟨s.b,0,none⟩)] V R:=λcY hm hR=>Z.r9 (aN.below cY) rfl (cB.all hm) (λa b=>US b a ok hN hp) hR
 refine⟨λi p V=>i=0/\∃s',s'.b=s.b/\s'.av=nI a.rune a.bS s.av/\af w (Z s).F [] (Z s') V,⟨λx e6 ha hm=>Z.FM (aN.below ha) rfl hu λb4 bZ dv=>⟨_,rfl,dv.O,λwc hc hm=>(bZ.below hc).ret (λa b=>UT b a ok) λiC dr ee=>⟨An s.av,_,rfl,ee.O,⟨by omega,by show(s.aJ.c_:Int)<2;omega⟩,Z.ch dr XM,λh4 hp aD7 bk=>⟨rfl,ug s.aJ.c_ (An s.av) s,UH _ _ _,?_,((Z.UG (k:=s.aJ.c_) dr hu hp aS ic hY).below bk).free⟩⟩⟩,λh5=>⟨λx e6 ha hm=>Z.FM (aN.below ha) rfl hu λb4 bZ dv=>⟨_,rfl,dv.O,⟨by omega,by show(s.aJ.c_:Int)<2;omega⟩,BS s.aJ.c_ s.av,Z.agH bZ hu,λwc hc hm=>Z.r9 (bZ.below hc) rfl (cB.all hm) (λa b=>NB b a ok (Lr ok)) λiC s' e1 e2 dr ee=>⟨_,rfl,ee,λh4 he=>⟨rfl,s',e1,?_,(dr.below he).free⟩⟩⟩,λh6=>⟨λx e6 ha hm=>adQ ha hm λb4 s' e1 e2 bZ dv=>⟨_,rfl,dv,λh4 he=>⟨rfl,s',e1,?_,(bZ.below he).free⟩⟩,λoB=>⟨λx e6 ha hm=>adQ ha hm λb4 s' e1 e2 bZ dv=>⟨_,rfl,dv,λ_=>?_,λe=>absurd rfl e⟩,λux=>⟨λx=>⟨_,Z.cell aN 29 rfl,_,Z.cell aN 5 rfl,λe6 ha hm=>Z.WB (aN.below ha) (cB.all hm) (λa=>auw a (by have h1:s.dc.ai=s.ai:=ok.jx;have:=ok.bY;rw[h1];exact this) ok.mV (by have h1:s.dc.ai=s.ai:=ok.jx;rw[h1];exact ok.mW)) λb4 s' e1 e2 bZ dv=>⟨_,rfl,dv,λh4 he=>⟨rfl,s',e1,?_,(bZ.below he).free⟩⟩⟩,λpT=>⟨λx=>⟨_,Z.cell aN 2 rfl,λe6 ha q1 q2 oq=>?_⟩,λuy=>⟨λx=>⟨_,Z.cell aN 3 rfl,λe6 ha hm=>Z.anU (aN.below ha) (cB.all hm) λb4 s' e1 e2 e3 e4 eu bZ dv=>⟨rfl,dv,Z.tx bZ e1 M,λwc S0 iC hd hm=>?_⟩⟩,λAO e6 ha=>⟨rfl,s,rfl,?_,(aN.below ha).free⟩⟩⟩⟩⟩⟩⟩⟩,?_⟩
 ·rw[UI,ib,sf,aA x]
  rfl
 ·rw[e2,ib,sf,ag h5,aA x]
  rfl
 ·rw[e2,ib,sf,ag h5,ag h6,aA x]
 ·have sM:b5 (N+1000) s'.av:=by rw[e2];exact ye ok
  refine⟨s'.az,Z.q9 bZ e1 4 rfl,λwc hc hm=>Z.tq (bZ.below hc) e1 λiC dr ee=>⟨_,rfl,ee.O,Z.q9 dr e1 4 rfl,λh4 he hm=>af.pure (KK sM.p7 sM.az) (dr.below he) λwf eQ vi=>⟨_,_,rfl,vi.O,Z.tx eQ e1 M,λyU aoK aD8 hh=>⟨rfl,{s' with az:=kD s'.av},e1,?_,((Z.yB (c:=kD s'.av) eQ e1 aoK aS ic hY).below hh).free⟩⟩⟩⟩;show l4 (kD s'.av) s'.av=_;rw[e2,ib,sf,ag h5,ag h6,ag oB,aA x]
 ·rw[e2,ib,sf,ag h5,ag h6,ag oB,ag ux,aA x]
  rfl
 ·refine Z.GL (cI:=ze ar s) (r7:=ze ar s) (bs:=[aQ]) (az:=yE s.aq s.az) (r:=Ah (cS.aL s.aJ).aC s.aq s.az (dj s.av)) (aN.below ha) (by simp;exact q1) oq hY (by simpa using q2.2.lt) rfl (λc d=>awN _ _ (DR (args:=λp=>#[.pointer p, .pointer (some ⟨ar,0,none⟩)]) d c hu λV cY hP=>asR cY hP (by rw[cS.pv];exact ok.NO) (by rw[cS.pv];exact ok.Bw) ok.zd)) λad s' hb' rm _ _ _ aX z2 aI=>⟨0,rfl,aI,_,z2 _ (List.Mem.head _),λh4 he=>⟨rfl,s',hb',?_,(aX.below he).free⟩⟩
  rw[rm,ib,sf,ag h5,ag h6,ag oB,ag ux,ag pT,aA x,cS.pv];rfl
 ·have wU:af w (Z s).F [ar,aQ] (Z {s' with jU:=[]}) wc:=Z.put bZ (by rw[e1];exact S0) (by show 69+1<=73;omega) rfl rfl rfl rfl rfl
  have Mm:s'.an=s.an:=dx bl.an e2;have ani:s'.ai=s.ai:=dx bl.ai e2;have jo:({s' with jU:=[]}:cN).av=M1 (M0 s.av):=by show M1 s'.av=_;rw[e2]
  have de:1<=s.an:=ok.de;have c1:s.an<=1000:=ok.c1;have bY:1<=s.ai:=ok.bY;have c2:s.ai<=1000:=ok.c2;have Ez:s.av.Ou=s.ai:=ok.jx;refine Z.zh (kd:=λb=>#[.pointer (some ⟨b,0,none⟩)]) (wU.below hd) e1 (cB.all hm) (λc d=>at5 (an:=s.an.toNat) (ai:=s.ai.toNat) d c (by show s'.an=_;omega) (by show s'.ai=_;omega) M M M M) λh4 b8 f1 f2 VV ap7=>⟨_,rfl,ap7,λwf bk=>⟨rfl,b8,f1,?_,(VV.below bk).free⟩⟩
  rw[f2,jo,ib,sf,ag h5,ag h6,ag oB,ag ux,ag pT,ag uy,aA x,show((s.ai.toNat:Nat):Int)=s.av.Ou by omega];rfl
 ·rw[ib,sf,ag h5,ag h6,ag oB,ag ux,ag pT,ag uy,ag AO]
 ·rintro i p ad _ ⟨rfl,s',e1,e2,aX⟩ w' hb _
  exact⟨rfl,af.bQ (aX.below hb) ⟨e1,e2⟩⟩
end
end Go.Proofs.YtimbpmnbbfeogaaGreatDoor
namespace Go.Sy
open Go.RowKit (Below)
section
variable{w0 w w' w1:World}{F0:Nat->Prop}{bs:List Nat}{o o':I}{l l' bM bq hV:List I}
theorem I.avI(bM bq hV:List I)(h:(I.sep (bM++(bq++hV))).P w):(I.sep (bM++I.sep bq::hV)).P w:=by
 have cq:(bM++(bq++hV)).Perm ((bM++hV)++bq):=by
  rw[ju];exact A0 _ xh
 have cA:((bM++hV)++[I.sep bq]).Perm (bM++I.sep bq::hV):=by
  rw[ju];exact A0 _ (xh (l₁:=hV) (l₂:=[I.sep bq]))
 exact I.VW cA (I.yM.1 (I.VW cq h))
theorem I.avH(bM bq hV:List I){i:Nat}:(I.sep (bM++I.sep bq::hV)).F i↔(I.sep (bM++(bq++hV))).F i:=by
 have cq:(bM++(bq++hV)).Perm ((bM++hV)++bq):=by
  rw[ju];exact A0 _ xh
 have cA:((bM++hV)++[I.sep bq]).Perm (bM++I.sep bq::hV):=by
  rw[ju];exact A0 _ (xh (l₁:=hV) (l₂:=[I.sep bq]))
 exact⟨λh=>I.Jh cq (I.wY.2 (I.Jh cA h)),λh=>I.Jh cA.symm (I.wY.1 (I.Jh cq.symm h))⟩
theorem af.mid(bM bq hV:List I)(h:af w0 F0 bs (I.sep (bM++(bq++hV))) w):af w0 F0 bs (I.sep (bM++I.sep bq::hV)) w:=h.conv (I.avI bM bq hV h.at_) λi hi=>(I.avH bM bq hV).1 hi
end
end Go.Sy
namespace Go.Proofs.YtimbpmnbbfeogaaGreatDoor
open Go Go.RowKit Go.Sy Go.Rep
def u0(r what:Int)(g:cc)(c:Cu)(p:aT):cc:=if what<=2 then(if r=75 then vk g c what p else if r=74 then Vr g c what p else g) else g
def na(r what:Int)(v:fp):fp:=if r=74/\what=3 then KY v else v
abbrev nH(s:cN)(hi:lx)(g:cV):I:=I.sep [d_ s,I.cl hi,I.aL g]
def Y5(w:World)(s:cN)(g:cV)(r':cc)(tP:fp)(v:Value)(w':World):Prop:=
 v= .int .i64 0/\∃aU dS,aU.b=g.b/\aU.aC=r'/\dS.b=s.hi.b/\dS.r.aq=tP/\(nH s dS aU).P w'/\∀i,(nH s dS aU).F i->(nH s s.hi g).F i∨w.heap.size<=i
section
variable{w0 w w' w1:World}{F0:Nat->Prop}{bs:List Nat}{o o':I}{bM bq:List I}{R:Ending->World->Prop}{f:FuncId}{args:Array Value}{s s':cN}{g:cV}
theorem atY{r what:Int}(aj:Laid w)(h:(nH s s.hi g).P w)(hc:gM g.aC s.az)(hq:ea (ed (dj s.av))=true)(aW:0<=what):
  bI Tryz.prog X.VF #[s.ptr, .pointer (some ⟨g.b,0,none⟩), .int .i32 r, .int .i64 what] w (nH s s.hi g).F (Y5 w s g (u0 r what g.aC s.az (dj s.av)) (na r what s.hi.r.aq)):=by
 have aN:=af.start (bs:=[]) aj h aS;have bQ:∀{V:World} {aU:cV} {dS:lx} {e:cc} {v':fp},af w (nH s s.hi g).F [] (nH s dS aU) V->aU.ptr=g.ptr->aU.aC=e->dS.b=s.hi.b->dS.r.aq=v'->Sy.aa w (nH s s.hi g).F V (Y5 w s g e v') (.int .i64 0):=λ{V aU dS e v'} cY hp hg hb ah w' hbw _=>⟨rfl,aU,dS,Rw hp,hg,hb,ah,(cY.below hbw).at_,λi hi=>(cY.own i hi).1⟩
 have dN:∀{V:World} {bT:Nat->Prop} {cI:List I} {k:Nat} {cj:List Value},af w bT [] (I.sep (I.aF s.b G.fi s.cells::cI)) V->cj=(s.cells.drop k).take cj.length->At V ⟨s.b,0,none⟩ k cj:=λcY hu=>uk (af.get [] _ cY).1 _ hu
 have zd:∀{V V':World} {R:Ending->World->Prop},af w (nH s s.hi g).F [] (nH s s.hi g) V->Below V.heap.size V V'->(∀ad,af w (nH s s.hi g).F [] (nH s s.hi g) ad->U bg V' ad->R (.returned (.agg (dj s.av).T)) ad)->dH Tryz.prog X.qJ #[.pointer (some ⟨s.b,0,none⟩)] V' R:=λa b c=>(a.below b).ret (λ_ _=>NA (af.get [] _ (a.below b)).1) c
 have akK:∀{V:World} {R:Ending->World->Prop},af w (nH s s.hi g).F [] (nH s s.hi g) V->(∀ad dS,dS.b=s.hi.b->dS.r.aq=KY s.hi.r.aq->af w (nH s s.hi g).F [] (nH s dS g) ad->eC w.heap.size (nH s s.hi g).F [] V ad->R (.returned (.tuple #[])) ad)->dH Tryz.prog X.Ef #[s.hi.ptr] V R:=by
  intro V R cY hR;refine af.call (o:=I.cl s.hi) [d_ s] [I.aL g] cY aS (λa b=>afL b a) λv ad ⟨ah,dS,q1,q2,cz,en,eB⟩ hs=>?_
  obtain⟨t2,aI⟩:=hs (I.cl dS) en eB;subst ah;exact hR ad dS q1 cz t2 aI
 refine azi _ _ r what ⟨λx=>⟨λiQ=>⟨s.az,dN aN rfl,λe6 ha=>zd aN ha λb4 bZ dv=>⟨_,rfl,dv.O,dN bZ rfl,λwc mg=>?_⟩⟩,λiQ=>⟨λe=>by omega,λ_=>⟨λe=>by omega,λ_=>bQ aN rfl ?_ rfl ?_⟩⟩⟩,λy=>⟨λx=>⟨λiQ=>⟨s.az,dN aN rfl,λe6 ha=>zd aN ha λb4 bZ dv=>⟨_,rfl,dv.O,dN bZ rfl,λwc mg=>?_⟩⟩,λiQ=>⟨λ_=>⟨λe=>⟨_,dN aN rfl,λe6 ha=>akK (aN.below ha) λb4 dS e1 e2 bZ dv=>⟨rfl,dv,bQ bZ rfl ?_ e1 ?_⟩⟩,λe=>bQ aN rfl ?_ rfl ?_⟩,λe=>absurd x e⟩⟩,λh6=>⟨λe=>absurd e h6,λ_=>bQ aN rfl ?_ rfl ?_⟩⟩⟩
 ·refine af.aL (fC:=λv _=>v= .int .i64 0) [d_ s,I.cl s.hi] [] (bZ.below mg) aS (λx y=>afH y x hc aW iQ hq) λv ad aU ah hp hg aX aI=>⟨_,dx Ending.returned ah,aI,bQ aX hp ?_ rfl ?_⟩
  ·rw[hg,u0,aA iQ,aA x]
  ·rw[na,ag M]
 ·rw[u0,ag M]
 ·rw[na,ag M]
 ·refine af.aL (fC:=λv _=>v= .int .i64 0) [d_ s,I.cl s.hi] [] (bZ.below mg) aS (λx y=>asN y x hc aW iQ hq) λv ad aU ah hp hg aX aI=>⟨_,dx Ending.returned ah,aI,bQ aX hp ?_ rfl ?_⟩
  ·rw[hg,u0,aA iQ,ag y,aA x]
  ·rw[na,ag M]
 ·rw[u0,ag M]
 ·rw[e2,na,aA ⟨x,e⟩]
 ·rw[u0,ag M]
 ·rw[na,ag M]
 ·by_cases e:what<=2
  ·rw[u0,aA e,ag y,ag h6]
  ·rw[u0,ag e]
 ·rw[na,ag M]
theorem alk{dN:I}{aJ:cS}{cI:List I}{GY:FuncId}{args:Option Addr->Array Value}{lP:I->cc->List I->Prop}(aj:Laid w)(h:(I.sep (dN::bE aJ::cI)).P w)(hu:aJ.c_<=1)
  (hc:∀V,Laid V->U (I.sep (dN::bE aJ::cI)).F w V->(I.sep (dN::I.aL (cS.aL aJ)::cI)).P V->bI Tryz.prog GY (args (some ⟨(cS.aL aJ).b,0,none⟩)) V (I.sep (dN::I.aL (cS.aL aJ)::cI)).F (λv V'=>v= .int .i64 0/\∃dP aU dG,aU.b=(cS.aL aJ).b/\lP dP aU.aC dG/\(I.sep (dP::I.aL aU::dG)).P V'/\∀i,(I.sep (dP::I.aL aU::dG)).F i->(I.sep (dN::I.aL (cS.aL aJ)::cI)).F i∨V.heap.size<=i)):
  ∀w1:World,Below w.heap.size w w1->dH Tryz.prog X.p6 #[.pointer (some ⟨aJ.b,0,none⟩)] w1 (λe1 ad=>∃b1:Bool,e1= .returned (.bool b1)/\(eC w.heap.size (I.sep (dN::bE aJ::cI)).F [] w1 ad/\((b1=true->Sy.aa w (I.sep (dN::bE aJ::cI)).F ad (λv w'=>v= .int .i64 0/\∃dP r' dG dU,dU.b=aJ.b/\dU.bu=iO aJ.bu r'/\lP dP r' dG/\(I.sep (dP::bE dU::dG)).P w'/\∀i,(I.sep (dP::bE dU::dG)).F i->(I.sep (dN::bE aJ::cI)).F i∨w.heap.size<=i) (.int .i64 1))/\
   (b1=false->∃eA:Int,At ad ⟨aJ.b,0,none⟩ 2 [.int .i64 eA]/\(((0:Int)<=eA/\eA<2)/\∃cq:ao,At ad ⟨aJ.b,0,none⟩ (0+((Int.toNat eA)*1)) [.pointer cq]/\∀bw:World,Below ad.heap.size ad bw->dH Tryz.prog GY (args cq) bw (λe2 bD=>∃i2:Int,e2= .returned (.int .i64 i2)/\(eC w.heap.size (I.sep (dN::bE aJ::cI)).F [] bw bD/\Sy.aa w (I.sep (dN::bE aJ::cI)).F bD (λv w'=>v= .int .i64 0/\∃dP r' dG dU,dU.b=aJ.b/\dU.bu=iO aJ.bu r'/\lP dP r' dG/\(I.sep (dP::bE dU::dG)).P w'/\∀i,(I.sep (dP::bE dU::dG)).F i->(I.sep (dN::bE aJ::cI)).F i∨w.heap.size<=i) (.int .i64 i2)))))))):=by
 intro w1 hb1;have bX:=(af.start (bs:=[]) aj h aS).below hb1;have Ci:∀{V:World} {F0:Nat->Prop},af w F0 [] (I.sep (dN::bE aJ::cI)) V->(bE aJ).P V:=λh=>h.at_.1 (bE aJ) aS
 refine bX.ret (λa b=>E5 (Ci bX)) λad aX aI=>⟨_,rfl,aI.O,λe=>(nomatch e),λ_=>⟨_,bE.at_ (Ci aX) 2 rfl,⟨by omega,by omega⟩,_,bE.Qf (Ci aX) hu,λbw bp=>?_⟩⟩
 have eb:=aX.below bp;have f1:af w (I.sep (dN::bE aJ::cI)).F [] (I.sep (dN::cI++[bE aJ])) bw:=eb.pN (List.Perm.cons _ (O_ _ _).symm);have f2:af w (I.sep (dN::bE aJ::cI)).F [] (I.sep (dN::cI++[I.aF aJ.b G.ma aJ.cells,I.aL aJ.aR,I.aL aJ.g1,l0 aJ.kept])) bw:=f1.conv (I.yM.2 f1.at_) λi hi=>I.wY.1 hi
 have lU:=f2.pN (K9 (cS.aL aJ) rfl);refine af.GG (fC:=λv _ lj=>v= .int .i64 0/\∃dP aU dG,lj=dP::I.aL aU::dG/\aU.b=(cS.aL aJ).b/\lP dP aU.aC dG) _ lU aS (λa b=>(hc bw b eb.kept a).mono (λ_ e=>e) λv V' _ ⟨q1,dP,aU,dG,q2,cz,en,eB⟩=>⟨_,⟨q1,dP,aU,dG,rfl,q2,cz⟩,en,eB⟩) λv bD lj ⟨ah,dP,aU,dG,hl,hb',hR⟩ cg bO=>⟨0,by rw[ah],bO,λw' hb _=>⟨rfl,?_⟩⟩
 subst hl;have ey:=cg.below hb;have hcell:(ik aJ aU).cells=aJ.cells:=by
  unfold ik;have hg:aU.ptr=(cS.aL aJ).ptr:=by unfold cV.ptr;rw[hb']
  unfold cS.aL at hg;split
  ·next e=>rw[aA e] at hg;show[_,aU.ptr,_,_,_]=_;rw[hg]
  ·next e=>rw[ag e] at hg;show[aU.ptr,_,_,_,_]=_;rw[hg]
 have SN:wP (ik aJ aU)=wP aJ:=by unfold wP ik;split<;>(rename_i e;simp[e])
 have hkp:(ik aJ aU).kept=aJ.kept:=by unfold ik;split<;>rfl
 have R':aU=(if(ik aJ aU).c_=1 then(ik aJ aU).g1 else(ik aJ aU).aR):=by unfold ik;split<;>(rename_i e;simp[e])
 have g1:af w (I.sep (dN::bE aJ::cI)).F [] (I.sep ([I.aF (ik aJ aU).b G.ma (ik aJ aU).cells,I.aL (wP (ik aJ aU)),l0 (ik aJ aU).kept]++dP::I.aL aU::dG)) w':=by
  rw[hcell,SN,hkp,N4];exact ey
 have g2:=g1.pN (K9 (dN:=dP) (cI:=dG) aU R').symm;have g3:af w (I.sep (dN::bE aJ::cI)).F [] (I.sep (dP::dG++[bE (ik aJ aU)])) w':=g2.conv (I.yM.1 g2.at_) λi hi=>I.wY.2 hi
 have g4:af w (I.sep (dN::bE aJ::cI)).F [] (I.sep (dP::bE (ik aJ aU)::dG)) w':=g3.pN (List.Perm.cons _ (O_ _ _));exact⟨dP,aU.aC,dG,ik aJ aU,N4 _ _,agR _ _,hR,g4.at_,λi hi=>(g4.own i hi).1⟩
end
def la(r n what:Int)(g:cc)(c:Cu)(aq:dz)(p:aT):cc:=
 if r=64 then mP g c.row c.ae n p
 else if r=80 then(if n=0 then g else mO (mP g c.row c.ae (0-n) p) c.row false)
 else if r=76 then(if aq.bf<=c.row/\c.row<=aq.b7 then kW g ⟨c.row,aq.b7⟩ (0-n) p else g)
 else if r=77 then(if aq.bf<=c.row/\c.row<=aq.b7 then kW g ⟨c.row,aq.b7⟩ n p else g)
 else if r=88 then p_ g c.row c.ae (c.ae+min n (g.ai-c.ae)) p
 else if r=83 then kW g aq n p else if r=84 then kW g aq (0-n) p else u0 r what g c p
def uR(r n:Int)(g:cc)(aq:dz)(p:aT):List Li:=if r=83 then yS g aq n p else[]
abbrev jS(a b c d:Nat)(s:cN)(r n:Int):List I:=[I.aF a G.ft [.int .i32 r],I.aF b G.ew [s.ptr],I.aF c G.int [.int .i64 n],I.aF d G.b_ (dj s.av).T.toList]
abbrev kI(e l:Nat)(v:Value)(aP:ao)(aM ba:Nat):List I:=[I.aF e G.j8 [v],I.aF l G.mo [.slice aP aM ba]]
def Gm(s:cN)(a b c d e l:Nat)(r n:Int)(aP:ao)(aM ba:Nat)(aC:cc)(x:List Li)(ah:fp)(dP:I)(r':cc)(dG:List I):Prop:=
 ∃p k gs dS,dS.b=s.hi.b/\dS.r.aq=ah/\dP=I.sep [d_ s,I.cl dS]/\r'=aC/\bJ gs=x/\dG=I.lines p k gs::(jS a b c d s r n++kI e l (.slice p gs.length k) aP aM ba)
section
variable{w0 w w' w1:World}{F0:Nat->Prop}{bs:List Nat}{o o':I}{bM bq:List I}{R:Ending->World->Prop}{f:FuncId}{args:Array Value}{s s':cN}{g:cV}
theorem asD{a b c d e l:Nat}{r n:Int}{aP:ao}{aM ba:Nat}{a_:List Int}(aj:Laid w)(h:(I.sep (I.sep [d_ s,I.cl s.hi]::I.aL g::(jS a b c d s r n++kI e l (.slice none 0 0) aP aM ba))).P w)
  (hr:nA g.aC s.aq) (hc:gM g.aC s.az) (hq:ea (ed (dj s.av))=true) (hn:1<=n/\n<=9999) (hrow:eK w aP aM a_) (nN:∀n∈a_,-1<=n/\n<=9999):
  bI Tryz.prog X.Fo #[.pointer (some ⟨g.b,0,none⟩), .pointer (some ⟨a,0,none⟩), .pointer (some ⟨b,0,none⟩), .pointer (some ⟨c,0,none⟩), .pointer (some ⟨d,0,none⟩), .pointer (some ⟨e,0,none⟩), .pointer (some ⟨l,0,none⟩)] w (I.sep (I.sep [d_ s,I.cl s.hi]::I.aL g::(jS a b c d s r n++kI e l (.slice none 0 0) aP aM ba))).F
   (pY w (I.sep [d_ s,I.cl s.hi]) g (jS a b c d s r n++kI e l (.slice none 0 0) aP aM ba) (Gm s a b c d e l r n aP aM ba (la r n (dp a_ 0 0) g.aC s.az s.aq (dj s.av)) (uR r n g.aC s.aq (dj s.av)) (na r (dp a_ 0 0) s.hi.r.aq))):=by
 have xW:=af.start (bs:=[]) aj h aS;generalize bc:(I.sep (I.sep [d_ s,I.cl s.hi]::I.aL g::(jS a b c d s r n++kI e l (.slice none 0 0) aP aM ba))).F=F at*;have aN:af w F [] (I.sep ([d_ s,I.cl s.hi]++I.aL g::(jS a b c d s r n++kI e l (.slice none 0 0) aP aM ba))) w:=af.dI [] [d_ s,I.cl s.hi] _ xW;have abb:∀{V:World} {aU:cV} {dS:lx} {se:cc} {v':fp} {x:List Li} {p:ao} {k:Nat} {gs:List ck},af w F [] (I.sep ([d_ s,I.cl dS]++I.aL aU::(I.lines p k gs::(jS a b c d s r n++kI e l (.slice p gs.length k) aP aM ba)))) V->aU.ptr=g.ptr->aU.aC=se->dS.b=s.hi.b->dS.r.aq=v'->bJ gs=x->Sy.aa w F V (pY w (I.sep [d_ s,I.cl s.hi]) g (jS a b c d s r n++kI e l (.slice none 0 0) aP aM ba) (Gm s a b c d e l r n aP aM ba se x v')) (.int .i64 0):=by
  intro V aU dS se v' x p k gs cY hp hg hb ah hx w' hbw _;have h2:=af.mid [] [d_ s,I.cl dS] _ (cY.below hbw);exact⟨rfl,_,aU,_,Rw hp,⟨p,k,gs,dS,hb,ah,rfl,hg,hx,rfl⟩,h2.at_,λi hi=>by rw[bc];exact(h2.own i hi).1⟩
 have bQ:∀{V:World} {aU:cV} {dS:lx} {se:cc} {v':fp},af w F [] (I.sep ([d_ s,I.cl dS]++I.aL aU::(jS a b c d s r n++kI e l (.slice none 0 0) aP aM ba))) V->aU.ptr=g.ptr->aU.aC=se->dS.b=s.hi.b->dS.r.aq=v'->Sy.aa w F V (pY w (I.sep [d_ s,I.cl s.hi]) g (jS a b c d s r n++kI e l (.slice none 0 0) aP aM ba) (Gm s a b c d e l r n aP aM ba se [] v')) (.int .i64 0):=by
  intro V aU dS se v' cY hp hg hb ah;refine abb (p:=none) (k:=0) (gs:=[]) ?_ hp hg hb ah rfl;have e1:(I.sep ([d_ s,I.cl dS,I.aL aU]++([I.lines none 0 []]++(jS a b c d s r n++kI e l (.slice none 0 0) aP aM ba)))).P V:=by
   obtain⟨cq,cA,fG⟩:=I.mq.1 (show(I.sep ([d_ s,I.cl dS,I.aL aU]++(jS a b c d s r n++kI e l (.slice none 0 0) aP aM ba))).P V from cY.at_);refine I.mq.2 ⟨cq,I.mq.2 ⟨I.rK.2 dE.nil,cA,λi hi=>absurd (I.j_.1 hi) fA.nil⟩,λi hi bk=>?_⟩;rcases I.j9.1 bk with q|q
   ·exact fA.nil (I.j_.1 q)
   ·exact fG i hi q
  refine cY.conv e1 λi hi=>?_
  show(I.sep ([d_ s,I.cl dS,I.aL aU]++(jS a b c d s r n++kI e l (.slice none 0 0) aP aM ba))).F i;rcases I.j9.1 (show(I.sep ([d_ s,I.cl dS,I.aL aU]++([I.lines none 0 []]++(jS a b c d s r n++kI e l (.slice none 0 0) aP aM ba)))).F i from hi) with q|q
  ·exact I.j9.2 (.inl q)
  ·rcases I.j9.1 q with q|q
   ·exact absurd (I.j_.1 q) fA.nil
   ·exact I.j9.2 (.inr q)
 have dN:∀{V:World} {bT:Nat->Prop} {cI:List I} {k:Nat} {cj:List Value},af w bT [] (I.sep (I.aF s.b G.fi s.cells::cI)) V->cj=(s.cells.drop k).take cj.length->At V ⟨s.b,0,none⟩ k cj:=λcY hu=>uk (af.get [] _ cY).1 _ hu
 have Qi:∀{V:World} {i7 jf vq:I} {cI:List I},af w F [] (I.sep (i7::jf::vq::(jS a b c d s r n++cI))) V->At V ⟨a,0,none⟩ 0 [.int .i32 r]:=λcY=>(af.get [_,_,_] _ cY).1.at_ (show 1<=maxLen by decide)
 have uN:∀{V:World} {i7 jf vq:I} {cI:List I},af w F [] (I.sep (i7::jf::vq::(jS a b c d s r n++cI))) V->At V ⟨b,0,none⟩ 0 [s.ptr]:=λcY=>(af.get [_,_,_,_] _ cY).1.at_ (show 1<=maxLen by decide)
 have Bh:∀{V:World} {i7 jf vq:I} {cI:List I},af w F [] (I.sep (i7::jf::vq::(jS a b c d s r n++cI))) V->At V ⟨c,0,none⟩ 0 [.int .i64 n]:=λcY=>(af.get [_,_,_,_,_] _ cY).1.at_ (show 1<=maxLen by decide)
 have Bi:∀{V:World} {i7 jf vq:I} {cI:List I},af w F [] (I.sep (i7::jf::vq::(jS a b c d s r n++cI))) V->At V ⟨d,0,none⟩ 0 (dj s.av).T.toList:=λcY=>(af.get [_,_,_,_,_,_] _ cY).1.at_ (show 11<=maxLen by decide)
 have ajG:At w ⟨l,0,none⟩ 0 [.slice aP aM ba]:=(af.get [d_ s,I.cl s.hi,I.aL g,_,_,_,_,_] [] aN).1.at_ (show 1<=maxLen by decide);have Em:∀{V V':World} {R:Ending->World->Prop} {f:FuncId} {args:Array Value} {r':cc},af w F [] (I.sep ([d_ s,I.cl s.hi]++I.aL g::(jS a b c d s r n++kI e l (.slice none 0 0) aP aM ba))) V->Below V.heap.size V V'->(∀{V:World},dA V g->Laid V->bI Tryz.prog f args V (dY g) (λv w'=>v= .int .i64 0/\iS V g r' w'))->(∀ad aU,aU.ptr=g.ptr->aU.aC=r'->af w F [] (I.sep ([d_ s,I.cl s.hi]++I.aL aU::(jS a b c d s r n++kI e l (.slice none 0 0) aP aM ba))) ad->eC w.heap.size F [] V' ad->R (.returned (.int .i64 0)) ad)->dH Tryz.prog f args V' R:=by
  intro V V' R f args r' cY hb RW hR;exact af.aL (fC:=λv _=>v= .int .i64 0) [d_ s,I.cl s.hi] _ (cY.below hb) aS (λx y=>RW x y) λv ad aU ah hp hg aX aI=>by subst ah;exact hR ad aU hp hg aX aI
 have BD:¬r=74->na r (dp a_ 0 0) s.hi.r.aq=s.hi.r.aq:=λu=>ag λv=>u v.1
 have BE:¬r=83->uR r n g.aC s.aq (dj s.av)=[]:=λu=>ag u
 have aQ:0<=n:=by omega
 have cH:n<=1000000:=by omega
 refine aze _ _ _ _ _ _ _ ⟨r,Qi aN,λx=>⟨_,uN aN,_,rfl,s.az,dN aN rfl,_,Bh aN,dj s.av,Bi aN,λe6 ha=>Em aN ha (λx y=>asI y x hc aQ cH hq) λad aU hp hg aX aI=>⟨_,rfl,aI,?_⟩⟩,λh5=>⟨λx=>⟨_,uN aN,_,rfl,s.az,dN aN rfl,_,Bh aN,dj s.av,Bi aN,λe6 ha=>Em aN ha (λx y=>asG y x hc aQ cH hq) λad aU hp hg aX aI=>⟨_,rfl,aI,?_⟩⟩,
  λh6=>⟨λx=>⟨_,uN aN,_,rfl,s.az,dN aN rfl,_,uN aN,_,rfl,s.aq,dN aN rfl,_,Bh aN,dj s.av,Bi aN,λe6 ha=>Em aN ha (λx y=>asJ y x hc hr aQ cH hq) λad aU hp hg aX aI=>⟨_,rfl,aI,?_⟩⟩,λoB=>⟨λx=>⟨_,uN aN,_,rfl,s.az,dN aN rfl,_,uN aN,_,rfl,s.aq,dN aN rfl,_,Bh aN,dj s.av,Bi aN,λe6 ha=>Em aN ha (λx y=>asH y x hc hr aQ cH hq) λad aU hp hg aX aI=>⟨_,rfl,aI,?_⟩⟩,
  λux=>⟨λx=>⟨_,uN aN,_,rfl,s.az,dN aN rfl,_,Bh aN,dj s.av,Bi aN,λe6 ha=>Em aN ha (λx y=>asM y x hc aQ cH hq) λad aU hp hg aX aI=>⟨_,rfl,aI,?_⟩⟩,λpT=>⟨λx=>⟨_,uN aN,_,rfl,s.aq,dN aN rfl,_,Bh aN,dj s.av,Bi aN,λe6 ha=>?_⟩,λuy=>⟨λx=>⟨_,uN aN,_,rfl,s.aq,dN aN rfl,_,Bh aN,dj s.av,Bi aN,λe6 ha=>Em aN ha (λx y=>afX y x hr hq aQ cH) λad aU hp hg aX aI=>⟨_,rfl,aI,?_⟩⟩,
  λAO=>⟨_,uN aN,r,Qi aN,aP,aM,ba,ajG,λe6 ha=>(aN.below ha).ret (λ_ _=>Ny (hrow.below ha)) λb4 bZ dv=>⟨_,rfl,dv.O,Qi bZ,uN bZ,λwc Hs=>?_⟩⟩⟩⟩⟩⟩⟩⟩⟩
 ·have e1:la r n (dp a_ 0 0) g.aC s.az s.aq (dj s.av)=aU.aC:=by rw[hg,la,aA x]
  rw[e1,BE M,BD M];exact bQ aX hp rfl rfl rfl
 ·have e1:la r n (dp a_ 0 0) g.aC s.az s.aq (dj s.av)=aU.aC:=by rw[hg,la,ag h5,aA x]
  rw[e1,BE M,BD M];exact bQ aX hp rfl rfl rfl
 ·have e1:la r n (dp a_ 0 0) g.aC s.az s.aq (dj s.av)=aU.aC:=by rw[hg,la,ag h5,ag h6,aA x]
  rw[e1,BE M,BD M];exact bQ aX hp rfl rfl rfl
 ·have e1:la r n (dp a_ 0 0) g.aC s.az s.aq (dj s.av)=aU.aC:=by rw[hg,la,ag h5,ag h6,ag oB,aA x]
  rw[e1,BE M,BD M];exact bQ aX hp rfl rfl rfl
 ·have e1:la r n (dp a_ 0 0) g.aC s.az s.aq (dj s.av)=aU.aC:=by rw[hg,la,ag h5,ag h6,ag oB,ag ux,aA x]
  rw[e1,BE M,BD M];exact bQ aX hp rfl rfl rfl
 ·refine af.call (o:=I.aL g) [d_ s,I.cl s.hi] (jS a b c d s r n++kI e l (.slice none 0 0) aP aM ba) (aN.below ha) aS (λx y=>afY y x hr hq aQ cH) λu bD ⟨p,k,gs,aU,hu,e1,e2,e3,e4,eu,gq,iW⟩ hs=>?_
  obtain⟨cg,bO⟩:=hs (I.sep [I.aL aU,I.lines p k gs]) ((I.mq (bM:=[I.aL aU]) (bq:=[I.lines p k gs])).2 ⟨I.rK.2 eu,I.rK.2 e2,λi hi bk=>(iW i (I.j_.1 bk)).2 ((I.j_ (o:=I.aL aU)).1 hi)⟩) λi hi=>by
   rcases I.j9.1 (show(I.sep ([I.aL aU]++[I.lines p k gs])).F i from hi) with q|q
   ·exact gq i (I.j_.1 q)
   ·exact(iW i (I.j_.1 q)).1
  have t4:=af.dI [d_ s,I.cl s.hi] [I.aL aU,I.lines p k gs] (jS a b c d s r n++kI e l (.slice none 0 0) aP aM ba) cg;subst hu;refine⟨_,_,_,_,rfl,bO,af.ch (n:=1) [d_ s,I.cl s.hi,I.aL aU,I.lines p k gs,_,_,_,_] _ t4 (show 0+1<=1 by omega),λbP iJ=>?_⟩;have t5:af w F [] (I.sep ([d_ s,I.cl s.hi]++I.aL aU::(I.lines p k gs::(jS a b c d s r n++kI e l (.slice p gs.length k) aP aM ba)))) bP:=af.put (n:=0) [d_ s,I.cl s.hi,I.aL aU,I.lines p k gs,_,_,_,_] _ t4 (show 0+1<=1 by omega) iJ;have uV:la r n (dp a_ 0 0) g.aC s.az s.aq (dj s.av)=aU.aC:=by rw[e4,la,ag h5,ag h6,ag oB,ag ux,ag pT,aA x]
  rw[uV,uR,aA x,BD M];exact abb t5 (by unfold cV.ptr;rw[e3]) rfl rfl rfl e1
 ·have e1:la r n (dp a_ 0 0) g.aC s.az s.aq (dj s.av)=aU.aC:=by rw[hg,la,ag h5,ag h6,ag oB,ag ux,ag pT,ag uy,aA x]
  rw[e1,BE M,BD M];exact bQ aX hp rfl rfl rfl
 ·have nf:0<=dp a_ 0 0:=by unfold dp;split<;>omega
  have t0:af w F [] (I.sep ([]++I.sep [d_ s,I.cl s.hi,I.aL g]::(jS a b c d s r n++kI e l (.slice none 0 0) aP aM ba))) wc:=af.mid [] [d_ s,I.cl s.hi,I.aL g] _ (bZ.below Hs);refine af.call (o:=nH s s.hi g) [] _ t0 aS (λx y=>atY (r:=r) (what:=dp a_ 0 0) y x hc hq nf) λu bD ⟨hu,aU,dS,e1,e2,e3,e4,eu,gq⟩ hs=>?_
  obtain⟨cg,bO⟩:=hs (nH s dS aU) eu gq;have t4:=af.dI [] [d_ s,I.cl dS,I.aL aU] _ cg;subst hu;refine⟨_,rfl,bO,?_⟩;have uV:la r n (dp a_ 0 0) g.aC s.az s.aq (dj s.av)=aU.aC:=by rw[e2,la,ag h5,ag h6,ag oB,ag ux,ag pT,ag uy,ag AO]
  rw[uV,BE uy];exact bQ t4 (by unfold cV.ptr;rw[e1]) rfl e3 e4
end
end Go.Proofs.YtimbpmnbbfeogaaGreatDoor
