/- A part of the proof of ChunksHolds. -/
import Derived.Test.YtimbpmnbbfeogaaGreatDoorZB
import Derived.Shelf.RegionOpen
import Derived.LoopIn
import Derived.Deep.Light
set_option linter.unusedVariables false
set_option linter.unusedSimpArgs false
set_option linter.unusedSectionVars false
set_option maxHeartbeats 16000000
set_option maxRecDepth 100000
namespace Go.Proofs.YtimbpmnbbfeogaaGreatDoor
open Go Go.RowKit Go.Sy Go.Rep
variable{w0:World}{F:Nat->Prop}{Q:Value->World->Prop}
theorem ayQ(r:Addr)(h:b9 w0 F [] w0 X.Fe #[al r] D λc d=>b9 w0 F [] c X.Vb #[al r] D λg i=>ay (d-i)/\aa w0 F g Q (D (d-i))):aO X.NP #[al r] w0 F Q:=bh [.aY r 0] h
theorem ayR(cy ei:Int)(h:bG cy 0 (aa w0 F w0 Q (.tuple #[lk,D 2])) (bG 1048576 cy (aa w0 F w0 Q (.tuple #[lk,D 2])) (DC w0 F Q ei/\((1:Int)<=ei->bG 1024 ei (aa w0 F w0 Q (.tuple #[lk,D 2])) (aG w0 λa=>bm w0 λb=>U F w0 b->w0.heap.size<=a/\Whole b a G.Ai [D cy,D ei,D 0,D 0, .slice none 0 0]->Q (.tuple #[ij a,D 0]) b))))):aO X.Vc #[D cy,D ei] w0 F Q:=bh [cn cy,cn ei] h
theorem ayP(r:Addr)(h:b9 w0 F [] w0 X.Aj #[al r] .bool λc d=>y0 w0 F Q d c/\(d=false->∃e,At c r 2 [D e]/\aa w0 F c Q (D e))):aO X.Vb #[al r] w0 F Q:=bh [.aY r 0] h
theorem ayS(r:Addr)(h:b9 w0 F [] w0 X.Aj #[al r] .bool λc d=>y0 w0 F Q d c/\(d=false->∃e,At c r 3 [D e]/\aa w0 F c Q (D e))):aO X.Fe #[al r] w0 F Q:=bh [.aY r 0] h
theorem ayW(r:Addr)(h:∃a,At w0 r 1 [D a]/\aa w0 F w0 Q (.bool (bL.val (.eq a 0)))):aO X.Aj #[al r] w0 F Q:=bh [.aY r 0] h
theorem azS(s:Addr)(h:b9 w0 F [] w0 X.w3 #[al s] .bool λc d=>dQ d (aa w0 F c Q lk) (∃e,At c s 0 [D e]/\∃f,At c s 1 [D f]/\dt c X.Wf #[al s] λg i j=>∃k:ao,∃l m:Nat,bW i (.slice k l m) w0 F [] g j (At j s 1 [D f]/\At j s 0 [D e]/\aG j λn=>bm j λo=>U F w0 o->w0.heap.size<=n/\Whole o n G.N' [D e,D f, .slice k l m]->Q (ij n) o))):aO X.Wb #[al s] w0 F Q:=bh [.aY s 0] h
theorem azW(s:Addr)(h:b9 w0 F [] w0 X.w3 #[al s] .bool λc d=>y0 w0 F Q d c/\(d=false->∃e:ao,∃f g:Nat,At c s 2 [.slice e f g]/\aa w0 F c Q (D (f:Int)))):aO X.FA #[al s] w0 F Q:=bh [.aY s 0] h
theorem azU(s:Addr)(i:Int)(h:aG w0 λa=>a7 w0 F [a] w0 [(a,G.fg)] X.w3 #[al s] .bool λd e=>dQ e (bn w0 F d [a] Q (.tuple #[.agg #[.slice none 0 0, .bool false],D 1])) (bG i 0 (bn w0 F d [a] Q (.tuple #[.agg #[.slice none 0 0, .bool false],D 3])) (∃f:ao,∃g j:Nat,At d s 2 [.slice f g j]/\dX g i (bn w0 F d [a] Q (.tuple #[.agg #[.slice none 0 0, .bool false],D 3])) (∃k:ao,∃l m:Nat,At d s 2 [.slice k l m]/\∃n:Addr,k=(some n)/\hG i l/\∃o:gx,At d n ((Int.toNat i)*2) o.T.toList/\a7 w0 F [a] d [(a,G.fg)] X.Is #[.agg o.T] Jw λr t=>bn w0 F r [a] Q (.tuple #[.agg t.T,D 0]))))):aO X.Wd #[al s,D i] w0 F Q:=bh [.aY s 0,cn i] h
theorem az1(s:Addr)(h:Pz w0 F Q s):aO X.w3 #[al s] w0 F Q:=bh [.aY s 0] h
theorem azX(s:Addr)(h:b9 w0 F [] w0 X.w3 #[al s] .bool λc d=>dQ d (aa w0 F c Q (.slice none 0 0)) (∃e:ao,∃f g:Nat,At c s 2 [.slice e f g]/\X' w0 F Q c f e [])):aO X.Wf #[al s] w0 F Q:=eV [⟨5,[3,13],[]⟩] [] [.aY s 0] h
theorem ayN(r:Addr)(h:b9 w0 F [] w0 X.Aj #[al r] .bool λc d=>gL d (∃e,At c r 3 [D e]/\A5 w0 F c r/\∀f:World,bH c [] r 2 [D e] f->vN w0 F f r/\∀g:World,bH f [] r 4 [.slice none 0 0] g->aa w0 F g Q (.tuple #[])) (aa w0 F c Q (.tuple #[]))):aO X.U' #[al r] w0 F Q:=bh [.aY r 0] h
theorem az0(s:Addr)(h:b9 w0 F [] w0 X.Wa #[al s] D λc d=>b9 w0 F [] c X.We #[al s] D λg i=>ay (d-i)/\b9 w0 F [] g X.FA #[al s] D λl m=>ay ((d-i)-m)/\aa w0 F l Q (D ((d-i)-m))):aO X.N_ #[al s] w0 F Q:=bh [.aY s 0] h
theorem azY(lines:Int)(h:DC w0 F Q lines/\((1:Int)<=lines->bG 1024 lines (aa w0 F w0 Q (.tuple #[lk,D 2])) (aG w0 λa=>bm w0 λb=>U F w0 b->w0.heap.size<=a/\Whole b a G.N' [D lines,D 0, .slice none 0 0]->Q (.tuple #[ij a,D 0]) b))):aO X.Wg #[D lines] w0 F Q:=bh [cn lines] h
theorem azZ(s:Addr)(l:gx)(h:aG w0 λa=>a7 w0 F [a] w0 [(a,G.fg)] X.w3 #[al s] .bool λd e=>pf w0 F Q e d/\(e=false->a7 w0 F [a] d [(a,G.fg)] X.It #[.agg l.T] .bool λi j=>vO w0 F Q j i/\(j=true->a7 w0 F [a] i [(a,G.fg)] X.N_ #[al s] D λn o=>a' o 0 (aa w0 F n Q (D 7)) (∃p:ao,∃q r:Nat,At n s 2 [.slice p q r]/\a7 w0 F [a] n [(a,G.fg)] X.Is #[.agg l.T] Jw λv x=>At v s 2 [.slice p q r]/\aG v λy=>∃z:List Value,gy w0.heap.size F [a,y] v G.fg 2 p q r z 1/\((q+1)*32)<=140737488355328/\∀A:World,∀B:ao,∀C:Nat,gk v [] p q r G.fg 2 (q+1) (z++x.T.toList) A B C->pX B [a,y]->(ct A s 2 1/\cp w0.heap.size F [a,y] s.block)/\∀aD:World,bH A [] s 2 [.slice B (q+1) C] aD->aa w0 F aD Q (D 0))))):aO X.Wh #[al s, .agg l.T] w0 F Q:=bh [.aY s 0, .agg (gx.bN.enc l)] h
theorem azR(s:Addr)(h:b9 w0 F [] w0 X.w3 #[al s] .bool λc d=>y0 w0 F Q d c/\(d=false->∃e,At c s 0 [D e]/\aa w0 F c Q (D e))):aO X.Wa #[al s] w0 F Q:=bh [.aY s 0] h
theorem azV(s:Addr)(h:dt w0 X.w3 #[al s] λa b c=>PB w0 F Q b [] a c s):aO X.We #[al s] w0 F Q:=bh [.aY s 0] h
theorem azT(s:Addr)(n:Int)(h:b9 w0 F [] w0 X.w3 #[al s] .bool λc d=>pf w0 F Q d c/\(d=false->bG n 0 (aa w0 F c Q (D 3)) (∃e:ao,∃f g:Nat,At c s 2 [.slice e f g]/\bG f n (aa w0 F c Q (D 3)) (∃i:ao,∃j k:Nat,At c s 2 [.slice i j k]/\J_ n j k/\∃l:List Value,gy w0.heap.size F [] c G.fg 2 none 0 0 l (Int.toNat ((j:Int)-n))/\∃m:List Value,(m.length=((Int.toNat ((j:Int)-n))*2)/\yZ m/\((cM i k (Int.toNat n) 2)=none->(Int.toNat ((j:Int)-n))=0)/\∀o:Addr,(cM i k (Int.toNat n) 2)=(some o)->At c o 0 m)/\((0+(Int.toNat ((j:Int)-n)))*32)<=140737488355328/\∀o:World,∀p:ao,∀q:Nat,gk c [] none 0 0 G.fg 2 (0+(Int.toNat ((j:Int)-n))) (l++m) o p q->A5 w0 F o s/\∀r:World,bH o [] s 2 [.slice p (0+(Int.toNat ((j:Int)-n))) q] r->∃t,At r s 1 [D t]/\ay (t+n)/\A3 w0 F r s/\∀u:World,bH r [] s 1 [D (t+n)] u->aa w0 F u Q (D 0))))):aO X.Wc #[al s,D n] w0 F Q:=bh [.aY s 0,cn n] h
end Go.Proofs.YtimbpmnbbfeogaaGreatDoor
namespace Go.Sy
theorem Whole.put{w w':World}{b o:Nat}{t:TypeId}{cs vs:List Value}(h:Whole w b t cs)(hp:bH w [] ⟨b,0,none⟩ o vs w')(ho:o+vs.length<=cs.length):Whole w' b t (cs.take o++(vs++cs.drop (o+vs.length))):=by
 obtain⟨fD,h1,h2,aw⟩:=hp.u7 _ _ h;unfold Whole;rw[h1];have:fD=(cs.take o++(vs++cs.drop (o+vs.length))).toArray:=by
  apply Array.ext_getElem?;intro j;have e:(cs.take o++(vs++cs.drop (o+vs.length))).toArray[j]? =(cs.take o++(vs++cs.drop (o+vs.length)))[j]? :=by simp
  rw[e,T0 cs vs o ho,aw j];simp
 rw[this]
theorem Whole.ch{w:World}{b o m:Nat}{t:TypeId}{cs:List Value}(h:Whole w b t cs)(ho:o+m<=cs.length):ct w ⟨b,0,none⟩ o m:=⟨rfl,_,_,h,by simpa using ho⟩
end Go.Sy
namespace Go.Rep
open Go Go.Sy
structure cT where
 (b:Nat) (cy gone:Nat) (p:ao) (c:Nat) (xs:List ck)
structure kE where
 (cy gone:Nat) (ab:List Li)
def cT.cK(s:cT):kE:=⟨s.cy,s.gone,bJ s.xs⟩
def cT.ptr(s:cT):Value:= .pointer (some ⟨s.b,0,none⟩)
end Go.Rep
namespace Go.Proofs.YtimbpmnbbfeogaaGreatDoor
open Go Go.RowKit Go.Sy Go.Rep
def iU(s:cT)(i:Nat):Prop:=i=s.b∨fA s.p s.xs i
structure hQ(w:World)(s:cT):Prop where
 aF:Whole w s.b G.N' [.int .i64 s.cy, .int .i64 s.gone, .slice s.p s.xs.length s.c]
 lines:dE w s.p s.xs.length s.c s.xs
 off:¬fA s.p s.xs s.b
 lo:Y.dZ<=s.b
 fE:1<=s.cy
 fQ:s.cy<=1024
 room:s.gone+s.xs.length<=s.cy
 oA:∀x∈s.xs,x.cs.length<=1000
section
variable{w w':World}{s:cT}
theorem hQ.lt(h:hQ w s){i:Nat}(hi:iU s i):i<w.heap.size:=by
 rcases hi with rfl|hi
 ·exact h.aF.lt
 ·exact h.lines.lt hi
theorem hQ.low(h:hQ w s){i:Nat}(hi:iU s i):Y.dZ<=i:=by
 rcases hi with rfl|hi
 ·exact h.lo
 ·exact h.lines.low hi
theorem hQ.ax{F:Nat->Prop}(h:hQ w s)(hk:U F w w')(bc:∀i,F i->¬iU s i):hQ w' s:=
 ⟨h.aF.ax hk λbk=>bc _ bk (.inl rfl),h.lines.ax hk λi bk hl=>bc i bk (.inr hl),h.off,h.lo,h.fE,h.fQ,h.room,h.oA⟩
theorem hQ.O(h:hQ w s)(hk:U bg w w'):hQ w' s:=h.ax hk λ_ e=>e.elim
theorem hQ.below(h:hQ w s)(hb:Below w.heap.size w w'):hQ w' s:=h.O (U.au hb)
theorem hQ.iV(h:hQ w s):At w ⟨s.b,0,none⟩ 0 [.int .i64 s.cy]:=(h.aF.at_ (show 3<=maxLen by decide)).cw 0 rfl
theorem hQ.jb(h:hQ w s):At w ⟨s.b,0,none⟩ 1 [.int .i64 s.gone]:=(h.aF.at_ (show 3<=maxLen by decide)).cw 1 rfl
theorem hQ.q4(h:hQ w s):At w ⟨s.b,0,none⟩ 2 [.slice s.p s.xs.length s.c]:=(h.aF.at_ (show 3<=maxLen by decide)).cw 2 rfl
theorem Ag(h:hQ w s):di X.w3 #[s.ptr] w (.bool false):=
 az1 _ ⟨_,h.iV,aa.of λ_=>by
  have:=h.fE
  rw[cb,kp M]⟩
theorem NC(h:hQ w s):di X.FA #[s.ptr] w (.int .i64 s.xs.length):=
 azW _ λw1 hb1=>(Ag (h.below hb1)).aH λad aI=>⟨_,rfl,aI.O,λe=>(nomatch e),λ_=>⟨_,_,_,((h.below hb1).O aI).q4,aa.of λ_=>rfl⟩⟩
theorem aub(h:hQ w s):di X.Wa #[s.ptr] w (.int .i64 s.cy):=
 azR _ λw1 hb1=>(Ag (h.below hb1)).aH λad aI=>⟨_,rfl,aI.O,λe=>(nomatch e),λ_=>⟨_,((h.below hb1).O aI).iV,aa.of λ_=>rfl⟩⟩
theorem auf(h:hQ w s):di X.We #[s.ptr] w (.int .i64 s.gone):=
 azV _ λw1 hb1=>(Ag (h.below hb1)).aH λad aI=>⟨_,rfl,aI.O,λe=>(nomatch e),λ_=>⟨_,((h.below hb1).O aI).jb,aa.of λ_=>rfl⟩⟩
theorem af7(h:hQ w s):di X.N_ #[s.ptr] w (.int .i64 (s.cy-s.gone-s.xs.length)):=by
 have:=h.fQ;have:=h.room;exact az0 _ λw1 hb1=>(aub (h.below hb1)).aH λad aI=>⟨_,rfl,aI.O,λbw bp=>(auf (((h.below hb1).O aI).below bp)).aH λbD bO=>⟨_,rfl,bO.O,by unfold ay;omega,λbP hb5=>(NC (((((h.below hb1).O aI).below bp).O bO).below hb5)).aH λcu dK=>⟨_,rfl,dK.O,by unfold ay;omega,aa.of λ_=>rfl⟩⟩⟩
def PQ(w0:World)(r:kE)(s:cT)(w:World):Prop:=s.cK=r/\hQ w s/\∀i,iU s i->w0.heap.size<=i
def aiN(w0:World)(s:cT)(r:kE)(w:World):Prop:=∃s':cT,s'.b=s.b/\s'.cK=r/\hQ w s'/\∀i,iU s' i->iU s i∨w0.heap.size<=i
theorem af6{n:Nat}(aj:Laid w)(h1:1<=n)(h2:n<=1024):bI Tryz.prog X.Wg #[.int .i64 n] w bg (λv w'=>∃s:cT,v= .tuple #[s.ptr, .int .i64 0]/\PQ w ⟨n,0,[]⟩ s w'):=
 azY n ⟨λe=>by omega,λ_=>⟨λe=>by omega,λ_ ar ec w1 hb hk hw=>⟨⟨ar,n,0,none,0,[]⟩,rfl,rfl,⟨hw.2,dE.nil,fA.nil,ek aj.size hw.1,h1,h2,by simp,λx hx=>JH⟩,λi hi=>(by
  rcases hi with rfl|hi
  ·exact hw.1
  ·exact absurd hi fA.nil)⟩⟩⟩
theorem auh{l:gx}{cs:List bC}(aj:Laid w)(h:hQ w s)(hl:nz w l cs)(ah:pK cs=true)(hr:s.gone+s.xs.length<s.cy):bI Tryz.prog X.Wh #[s.ptr, .agg l.T] w (iU s) (λv w'=>v= .int .i64 0/\aiN w s ⟨s.cy,s.gone,bJ s.xs++[⟨cs,l.cU⟩]⟩ w'):=by
 have tJ:=h.fQ;have hlen:cs.length<=1000:=by unfold pK at ah;simp at ah;exact ah.1
 have j3:cs.length=l.cells.n:=ga.len hl;refine azZ _ l λar ec w1 hb1 fb=>(Ag (h.below hb1)).aH λad aI=>⟨_,rfl,aI.O,λe=>(nomatch e),λ_ bw bp fN=>?_⟩
 have hk3:=((U.au hb1).trans aI).trans (U.au bp);refine(UQ (Laid.O hk3 aj) (hl.O hk3)).aH λbD bO=>⟨_,rfl,bO.O,λe=>(by rw[ah] at e;cases e),λ_ bP hb5 om=>?_⟩
 have eH:=(hk3.trans bO).trans (U.au hb5);refine(af7 (h.O eH)).aH λcu dK=>⟨_,rfl,dK.O,λe=>by omega,λ_=>⟨_,_,_,((h.O eH).O dK).q4,λw7 c8 mh=>?_⟩⟩
 have e_:=(eH.trans dK).trans (U.au c8);refine(Nx (hl.O e_) M).aH λv cW br hq=>?_
 obtain⟨q,d,rfl,ho⟩:=hq;obtain⟨hx,sC,lZ⟩:=fB.EP (cU:=l.cU) (Laid.O e_ aj) ho;have anZ:=e_.trans br;have gT:=h.O anZ;have hs7:=e_.size;have H8:=br.size;have hY:=aj.size;refine⟨_,rfl,br.O,gT.q4,λeO sv=>⟨dR s.xs,gT.lines.row.room (λa ha hm=>?_) (λ_ a ha hlt=>?_),by omega,λcR cA fv hg fV=>?_⟩⟩
 ·have:=h.lt (.inr (.inl ⟨a,ha,rfl⟩))
  simp at hm;omega
 ·exact .inr (.inl ⟨a,ha,rfl⟩)
 obtain⟨q1,q2,cz⟩:=gT.lines.push M sC (λi h1 h2=>by have:=lZ i h1;have:=h.lt (.inr h2);omega) hg;have cr:Whole cR s.b G.N' _:=gT.aF.ax cz h.off;refine⟨⟨cr.ch (show 3<=3 by omega),⟨λhm=>by have:=h.aF.lt;simp at hm;omega,λ_=> .inl rfl⟩⟩,λgn Mb w' hb _=>⟨rfl,?_⟩⟩;have iY:=cr.put Mb (show 3<=3 by omega);have oo:¬fA cA (s.xs++[⟨q,d,cs,l.cU⟩]) s.b:=λhi=>by
  have hlt:=h.aF.lt;rcases q2 _ hi with r|r|r
  ·exact h.off r
  ·have:=lZ _ r;omega
  ·omega
 have an6:=q1.ax (Mb.ax (F:=λi=>i=s.b) rfl) λi hi hl=>oo XJ
 refine⟨⟨s.b,s.cy,s.gone,cA,fv,s.xs++[⟨q,d,cs,l.cU⟩]⟩,rfl,?_,⟨?_,?_,oo,h.lo,h.fE,h.fQ,?_,?_⟩,?_⟩
 ·show kE.mk _ _ _=_
  rw[EM,hx]
 ·show Whole _ _ _ [_,_, .slice _ (s.xs++[_]).length _]
  rw[gh];exact iY.ax (U.au hb) λe=>e
 ·show dE _ _ (s.xs++[_]).length _ _
  rw[gh];exact an6.O (U.au hb)
 ·show s.gone+(s.xs++[_]).length<=s.cy
  rw[gh];simp;omega
 ·intro x hx
  rcases gi.1 hx with r|r
  ·exact h.oA x r
  ·rw[gg] at r
   subst r;exact hlen
 ·rintro i (rfl|hi)
  ·exact .inl (.inl rfl)
  ·rcases q2 _ hi with r|r|r
   ·exact .inl (.inr r)
   ·have:=lZ _ r;exact .inr M
   ·exact .inr M
end
end Go.Proofs.YtimbpmnbbfeogaaGreatDoor
namespace Go.Sy
end Go.Sy
namespace Go.Proofs.YtimbpmnbbfeogaaGreatDoor
open Go Go.RowKit Go.Sy Go.Rep
section
variable{w w':World}{s:cT}
theorem aue(aj:Laid w)(h:hQ w s){i:Nat}(hi:i<s.xs.length):bI Tryz.prog X.Wd #[s.ptr, .int .i64 i] w bg (λv w'=>∃x,v= .tuple #[.agg x.iK.T, .int .i64 0]/\PN w (hX (bJ s.xs) i) x w'):=by
 refine azU _ i λar ec w1 hb1 fb=>(Ag (h.below hb1)).aH λad aI=>⟨_,rfl,aI.O,λe=>(nomatch e),λ_=>?_⟩
 have h2:=(h.below hb1).O aI;refine⟨λe=>by omega,λ_=>⟨_,_,_,h2.q4,λe=>by omega,λ_=>⟨_,_,_,h2.q4,h2.lines.fU M M λa ha hown ev bw bp fN=>?_⟩⟩⟩;rw[jN] at hown ev⊢;have hk3:=((U.au hb1).trans aI).trans (U.au bp);have hw:=h.oA _ ev;refine(Nx (cs:=(bb s.xs i).cs) (nz.O hown.wJ (U.au bp)) (by show(bb s.xs i).cs.length<=_;omega)).aH λv bD bO hq=>?_
 obtain⟨q,d,rfl,ho⟩:=hq;refine⟨_,rfl,bO.O,λw' he _=>⟨⟨q,d,(bb s.xs i).cs,(bb s.xs i).cU⟩,rfl,?_⟩⟩;rw[z1];exact fB.EP aj (bF.low (bF.ext ho he λd hd=>fN.lt (by simp at hd⊢;exact hd)) hk3.size)
theorem aug(aj:Laid w)(h:hQ w s):bI Tryz.prog X.Wf #[s.ptr] w bg (PO w (bJ s.xs)):=by
 refine azX _ λw1 hb1=>(Ag (h.below hb1)).aH λad aI=>⟨_,rfl,aI.O,λe=>(nomatch e),λ_=>⟨_,_,_,((h.below hb1).O aI).q4,?_⟩⟩
 have j4:=h.room;have tJ:=h.fQ;refine⟨λp n c i w'=>i=n/\n<=s.xs.length/\∃xs,dE w' p n c xs/\bJ xs=(bJ s.xs).take n/\∀i,fA p xs i->w.heap.size<=i,λ_ _ _ i=>((s.xs.length:Int)-i).toNat,λw' _=>⟨rfl,by omega,[],dE.nil,rfl,λi hi=>absurd hi fA.nil⟩,?_⟩;rintro p n c i bw hk3 ⟨rfl,hn,xs,eF,iI,bc⟩;refine⟨λhi=>(h.O hk3).lines.fU M hi λa ha hown ev fv ca bP hb5 om=>?_,λhi w' hb hk=>?_⟩
 ·rw[jN] at hown ev⊢
  have eH:=hk3.trans (U.au hb5);have wE:=h.oA _ ev;refine(Nx (cs:=(bb s.xs n).cs) (nz.O hown.wJ (U.au hb5)) (by show(bb s.xs n).cs.length<=_;omega)).aH λv cu dK hq=>?_
  obtain⟨q,d,rfl,ho⟩:=hq;obtain⟨hx,sC,lZ⟩:=fB.EP (cU:=(bb s.xs n).iK.cU) (Laid.O eH aj) ho;have Cs:=(eF.O (U.au hb5)).O dK;have zK:fv<bP.heap.size:=om.lt aS;have hs5:=eH.size;have am_:=hb5.size;have Ev:=dK.size;refine⟨_,rfl,dK.O,λi1 dM=>⟨dR xs,Cs.row.room (λa ha hm=>?_) (λ_ a ha hlt=>?_),by omega,λw7 fG ie hg fV=>⟨by unfold ay;omega,λcW lE=>⟨⟨by omega,by omega,xs++[⟨q,d,(bb s.xs n).cs,(bb s.xs n).cU⟩],?_,?_,?_⟩,by dsimp only;omega⟩⟩⟩⟩
  ·have h1:=eF.lt (.inl ⟨a,ha,rfl⟩)
   have h2:=Cs.lt (.inl ⟨a,ha,rfl⟩);simp at hm;omega
  ·have:=bc _ (.inl ⟨a,ha,rfl⟩)
   omega
  all_goals obtain⟨q1,q2,cz⟩:=Cs.push XG sC (λi h1 h2=>by have:=lZ i h1;have:=eF.lt h2;omega) hg
  ·exact q1.O (U.au lE)
  ·rw[EM,iI,TY M];rfl
  ·intro i hi
   rcases q2 i hi with r|r|r
   ·exact bc i r
   ·have:=lZ _ r;omega
   ·omega
 ·have:n=s.xs.length:=by omega
  subst this;have hl:(bJ s.xs).length=s.xs.length:=by simp[bJ]
  refine⟨p,c,xs,by rw[hl],?_,by rw[hl];exact eF.O (U.au hb),bc⟩;rw[iI,jh (by simp[bJ])]
theorem auc(aj:Laid w)(h:hQ w s):bI Tryz.prog X.Wb #[s.ptr] w bg (λv w'=>∃s':cT,v=s'.ptr/\PQ w s.cK s' w'):=by
 refine azS _ λw1 hb1=>(Ag (h.below hb1)).aH λad aI=>⟨_,rfl,aI.O,λe=>(nomatch e),λ_=>⟨_,((h.below hb1).O aI).iV,_,((h.below hb1).O aI).jb,λbw bp=>?_⟩⟩
 have aw:=((h.below hb1).O aI).below bp;have hk3:=((U.au hb1).trans aI).trans (U.au bp);refine(aug (Laid.O hk3 aj) aw).aH λv bD bO hq=>?_
 obtain⟨p,c,xs,rfl,iI,eF,bc⟩:=hq;have hl:(bJ s.xs).length=s.xs.length:=by simp[bJ]
 rw[hl] at eF⊢;have hlen:=eF.len;have pD:=bO.size;have tO:=hk3.size;refine⟨p,_,c,rfl,bO.O,(aw.O bO).jb,(aw.O bO).iV,λcH jJ bP hb5 eH hw=>⟨⟨cH,s.cy,s.gone,p,c,xs⟩,rfl,?_,⟨?_,?_,?_,ek aj.size hw.1,h.fE,h.fQ,?_,?_⟩,?_⟩⟩
 ·show kE.mk _ _ _=_
  rw[iI];rfl
 ·show Whole _ _ _ [_,_, .slice p xs.length c]
  rw[hlen];exact hw.2
 ·show dE _ _ xs.length _ _
  rw[hlen];exact eF.O (U.au hb5)
 ·intro hl
  have:cH<bD.heap.size:=eF.lt hl;omega
 ·show s.gone+xs.length<=s.cy
  rw[hlen];exact h.room
 ·intro x hx
  have:x.jT∈bJ xs:=lr.2 ⟨x,hx,rfl⟩;rw[iI] at this;obtain⟨y,hy,e⟩:=lr.1 this;have:y.cs=x.cs:=dx Li.cs e;rw[<-this];exact h.oA y hy
 ·rintro i (rfl|hl)
  ·exact hw.1
  ·have:=bc i hl;omega
end
end Go.Proofs.YtimbpmnbbfeogaaGreatDoor
namespace Go.Sy
theorem bF.tail{B:Nat}{w:World}{e:TypeId}{s n c j:Nat}{p:ao}{xs:List Value}(h:bF B w e s p n c xs)(hs:0<s)(hj:j<=n):(cM p c j s=none->n-j=0)/\∀a,cM p c j s=some a->At w a 0 (xs.drop (j*s)):=by
 have hl:=h.len;have hc:=h.cap;rcases h.j6 with⟨rfl,h1,h2⟩|⟨g,rfl,_⟩
 ·subst h1;subst h2
  refine⟨λ_=>by omega,λa ha=>?_⟩;unfold cM at ha;split at ha<;>cases ha
 ·rcases h8 j c with q|q
  ·rw[Go.Proofs.YtimbpmnbbfeogaaGreatDoor.sa q]
   refine⟨λe=>mR,λa ha=>?_⟩;cases ha;have:=Row.at_ h.row (a:=⟨g,0,none⟩) rfl (j*s) (cj:=xs.drop (j*s)) (by rw[jh (cL _)]);have:=At.shift this;unfold Addr.add at this;split at this
   ·rename_i q2;rw[show j*s=0 from q2] at this⊢;exact this
   ·simpa using this
  ·refine⟨λ_=>by omega,λa ha=>?_⟩
   have:xs.drop (j*s)=[]:=by
    rw[show j=n by omega];exact XP M
   rw[this];intro i v ah;simp at ah
end Go.Sy
namespace Go.Proofs.YtimbpmnbbfeogaaGreatDoor
open Go Go.RowKit Go.Sy Go.Rep
section
variable{w w':World}{s:cT}
theorem aud(aj:Laid w)(h:hQ w s){n:Nat}(hn:n<=s.xs.length):bI Tryz.prog X.Wc #[s.ptr, .int .i64 n] w (λi=>i=s.b) (λv w'=>v= .int .i64 0/\∃p c,hQ w' ⟨s.b,s.cy,s.gone+n,p,c,s.xs.drop n⟩/\∀a,p=some a->w.heap.size<=a.block):=by
 have hr:=h.room;have tJ:=h.fQ;have hlen:=h.lines.len;refine azT _ n λw1 hb1=>(Ag (h.below hb1)).aH λad aI=>⟨_,rfl,aI.O,λe=>(nomatch e),λ_=>?_⟩
 have HF:=(U.au hb1).trans aI;have h2:=h.O HF;have kg:=bF.cap h.lines.row;have Cq:=bF.tail h2.lines.row du hn;rw[Hx] at Cq;have Hu:(s.xs.drop n).length=s.xs.length-n:=mv;refine⟨λe=>by omega,λ_=>⟨_,_,_,h2.q4,λe=>by omega,λ_=>⟨_,_,_,h2.q4,⟨by omega,by omega,by omega⟩,[],gy.none,dR (s.xs.drop n),⟨by rw[wv,Hu];omega,R6 _,λe=>by have:=Cq.1 e;omega,λa ha=>Cq.2 a ha⟩,by omega,λbw fG fv hg=>?_⟩⟩⟩;rw[iR,pW,show((s.xs.length:Int)-(n:Int)).toNat=s.xs.length-n by omega] at hg;rw[iR,show((s.xs.length:Int)-(n:Int)).toNat=s.xs.length-n by omega];have hk3:U bg ad bw:=hg.ax λe=>absurd e M
 have wB:bF ad.heap.size bw G.fg 2 fG (s.xs.length-n) fv (dR (s.xs.drop n)):=hg.own (cL _) λa ha=>nomatch ha
 have aw:=h2.O hk3;have dJ:cp w.heap.size (λi=>i=s.b) [] s.b:=⟨by simp,λ_=>rfl⟩;refine⟨⟨aw.aF.ch (show 3<=3 by omega),dJ⟩,λbD sy=>?_⟩;have eR:=aw.aF.put sy (show 3<=3 by omega);refine⟨_,(eR.at_ (show 3<=maxLen by decide)).cw 1 rfl,by unfold ay;omega,⟨eR.ch (show 2<=3 by omega),dJ⟩,λbP iJ w' hb _=>⟨rfl,fG,fv,⟨?_,⟨?_,?_,?_⟩,?_,h.lo,h.fE,h.fQ,?_,λx hx=>h.oA x (ka hx)⟩,?_⟩⟩
 all_goals have tN:=HF.size
 all_goals have jG:=h.aF.lt
 all_goals have x7:U (λi=>i=s.b) bw w':=((sy.ax (F:=λi=>i=s.b) rfl).trans (iJ.ax rfl)).trans ((U.au hb).mono λ_ e=>e.elim)
 ·have hb5:=eR.put iJ (show 2<=3 by omega)
  show Whole _ _ _ [_, .int .i64 ((s.gone+n:Nat):Int), .slice _ (s.xs.drop n).length _];rw[Hu,show((s.gone+n:Nat):Int)=(s.gone:Int)+n by omega];exact hb5.ax (U.au hb) λe=>e
 ·show bF _ _ _ _ _ (s.xs.drop n).length _ _
  rw[Hu];exact(wB.ax x7 λa ha e=>by have:=(wB.lt a ha).2.1;omega).low (by have:=h.low (.inl rfl);have:=aj.size;omega)
 ·intro a ha hi
  have:=(wB.lt a ha).2.1;have:=h.lt (.inr (.inr (hi.sub λx hx=>ka hx)));omega
 ·exact(aw.lines.eG.ax x7 λi hi hl=>h.off (.inr XJ)).sub (List.drop_sublist _ _)
 ·rintro(⟨a,ha,e⟩|r)
  ·have:=(wB.lt a ha).2.1
   change a.block=s.b at e;omega
  ·exact h.off (.inr (r.sub λx hx=>ka hx))
 ·show s.gone+n+(s.xs.drop n).length<=s.cy
  omega
 ·intro a ha
  have:=(wB.lt a ha).2.1;omega
end
end Go.Proofs.YtimbpmnbbfeogaaGreatDoor
namespace Go.Rep
open Go Go.Sy
structure kc where
 (b:Nat) (cy ei first next:Nat) (p:ao) (c:Nat) (ss:List cT)
structure fp where
 (cy ei first next:Nat) (a_:List kE)
def kc.aq(r:kc):fp:=⟨r.cy,r.ei,r.first,r.next,r.ss.map cT.cK⟩
def kc.ptr(r:kc):Value:= .pointer (some ⟨r.b,0,none⟩)
end Go.Rep
namespace Go.Proofs.YtimbpmnbbfeogaaGreatDoor
open Go Go.RowKit Go.Sy Go.Rep
def fL(ss:List cT)(i:Nat):Prop:=∃s∈ss,iU s i
def gY(r:kc)(i:Nat):Prop:=i=r.b∨dk r.p i∨fL r.ss i
def eS(ss:List cT):Nat:=(ss.map λs=>s.xs.length).sum
structure fT(w:World)(r:kc):Prop where
 aF:Whole w r.b G.Ai [.int .i64 r.cy, .int .i64 r.ei, .int .i64 r.first, .int .i64 r.next, .slice r.p r.ss.length r.c]
 row:bF Y.dZ w G.qz 1 r.p r.ss.length r.c (r.ss.map cT.ptr)
 eG:∀s∈r.ss,hQ w s/\s.cy=r.ei/\0<s.xs.length
 sep:r.ss.Pairwise λs t=>∀i,iU s i->¬iU t i
 mJ:∀i,dk r.p i->¬fL r.ss i
 f_:¬dk r.p r.b/\¬fL r.ss r.b
 lo:Y.dZ<=r.b
 m:r.cy<=1048576
 cq:1<=r.ei
 cA:r.ei<=1024
 num:r.next=r.first+eS r.ss
 sX:r.next<=4611686018427387904
 iX:eS r.ss<=1048577
section
variable{w w':World}{r:kc}
theorem fL.nil{i:Nat}:¬fL [] i:=λ⟨_,h,_⟩=>by cases h
theorem fT.lt(h:fT w r){i:Nat}(hi:gY r i):i<w.heap.size:=by
 rcases hi with rfl|⟨a,ha,rfl⟩|⟨s,hs,hi⟩
 ·exact h.aF.lt
 ·exact(h.row.lt a ha).1
 ·exact(h.eG s hs).1.lt hi
theorem fT.low(h:fT w r){i:Nat}(hi:gY r i):Y.dZ<=i:=by
 rcases hi with rfl|⟨a,ha,rfl⟩|⟨s,hs,hi⟩
 ·exact h.lo
 ·exact(h.row.lt a ha).2.1
 ·exact(h.eG s hs).1.low hi
theorem fT.ax{F:Nat->Prop}(h:fT w r)(hk:U F w w')(bc:∀i,F i->¬gY r i):fT w' r:=
 ⟨h.aF.ax hk λbk=>bc _ bk (.inl rfl),h.row.ax hk λa ha bk=>bc _ bk (.inr (.inl ⟨a,ha,rfl⟩)),λs hs=>⟨(h.eG s hs).1.ax hk λi bk hi=>bc i bk (.inr (.inr ⟨s,hs,hi⟩)),(h.eG s hs).2⟩,h.sep,h.mJ,h.f_,h.lo,h.m,h.cq,h.cA,h.num,h.sX,h.iX⟩
theorem fT.O(h:fT w r)(hk:U bg w w'):fT w' r:=h.ax hk λ_ e=>e.elim
theorem fT.below(h:fT w r)(hb:Below w.heap.size w w'):fT w' r:=h.O (U.au hb)
theorem fT.at_(h:fT w r):At w ⟨r.b,0,none⟩ 0 [.int .i64 r.cy, .int .i64 r.ei, .int .i64 r.first, .int .i64 r.next, .slice r.p r.ss.length r.c]:=h.aF.at_ (show 5<=maxLen by decide)
theorem E8(h:fT w r):di X.Aj #[r.ptr] w (.bool false):=
 ayW _ ⟨_,h.at_.cw 1 rfl,aa.of λ_=>by
  have:=h.cq
  rw[cb,kp M]⟩
theorem atD(h:fT w r):di X.Vb #[r.ptr] w (.int .i64 r.first):=
 ayP _ λw1 hb1=>(E8 (h.below hb1)).aH λad aI=>⟨_,rfl,aI.O,λe=>(nomatch e),λ_=>⟨_,((h.below hb1).O aI).at_.cw 2 rfl,aa.of λ_=>rfl⟩⟩
theorem Nz(h:fT w r):di X.Fe #[r.ptr] w (.int .i64 r.next):=
 ayS _ λw1 hb1=>(E8 (h.below hb1)).aH λad aI=>⟨_,rfl,aI.O,λe=>(nomatch e),λ_=>⟨_,((h.below hb1).O aI).at_.cw 3 rfl,aa.of λ_=>rfl⟩⟩
theorem af0(h:fT w r):di X.NP #[r.ptr] w (.int .i64 ((r.next:Int)-r.first)):=by
 have:=h.sX;have:=h.num;exact ayQ _ λw1 hb1=>(Nz (h.below hb1)).aH λad aI=>⟨_,rfl,aI.O,λbw bp=>(atD (((h.below hb1).O aI).below bp)).aH λbD bO=>⟨_,rfl,bO.O,by unfold ay;omega,aa.of λ_=>rfl⟩⟩
def Zb(w0:World)(q:fp)(r:kc)(w:World):Prop:=r.aq=q/\fT w r/\∀i,gY r i->w0.heap.size<=i
def PK(w0:World)(r:kc)(q:fp)(w:World):Prop:=∃r':kc,r'.b=r.b/\r'.aq=q/\fT w r'/\∀i,gY r' i->gY r i∨w0.heap.size<=i
theorem atE{n m:Nat}(aj:Laid w)(hn:n<=1048576)(h1:1<=m)(h2:m<=1024):bI Tryz.prog X.Vc #[.int .i64 n, .int .i64 m] w bg (λv w'=>∃r:kc,v= .tuple #[r.ptr, .int .i64 0]/\Zb w ⟨n,m,0,0,[]⟩ r w'):=
 ayR n m ⟨λe=>by omega,λ_=>⟨λe=>by omega,λ_=>⟨λe=>by omega,λ_=>⟨λe=>by omega,λ_ ar ec w1 hb hk hw=>⟨⟨ar,n,m,0,0,none,0,[]⟩,rfl,rfl,⟨hw.2,bF.nil _ _ _ _,λs hs=>(by cases hs),List.Pairwise.nil,λi hi hs=>fL.nil hs,⟨λ⟨a,ha,_⟩=>F2,fL.nil⟩,ek aj.size hw.1,hn,h1,h2,rfl,ef _,ef _⟩,λi hi=>(by
  rcases hi with rfl|⟨a,ha,_⟩|hi
  ·exact hw.1
  ·cases ha
  ·exact absurd hi fL.nil)⟩⟩⟩⟩⟩
theorem atB(aj:Laid w)(h:fT w r):bI Tryz.prog X.U' #[r.ptr] w (λi=>i=r.b) (λv w'=>v= .tuple #[]/\PK w r ⟨r.cy,r.ei,r.next,r.next,[]⟩ w'):=by
 refine ayN _ λw1 hb1=>(E8 (h.below hb1)).aH λad aI=>⟨_,rfl,aI.O,λ_=>?_,λe=>(nomatch e)⟩
 have h2:=(h.below hb1).O aI;have dJ:cp w.heap.size (λi=>i=r.b) [] r.b:=⟨by simp,λ_=>rfl⟩;refine⟨_,h2.at_.cw 3 rfl,⟨h2.aF.ch (show 3<=5 by omega),dJ⟩,λbD sy=>?_⟩;have eR:=h2.aF.put sy (show 3<=5 by omega);refine⟨⟨eR.ch (show 5<=5 by omega),dJ⟩,λbP iJ w' hb _=>⟨rfl,⟨r.b,r.cy,r.ei,r.next,r.next,none,0,[]⟩,rfl,rfl,⟨?_,bF.nil _ _ _ _,λs hs=>(by cases hs),List.Pairwise.nil,λi hi hs=>fL.nil hs,⟨λ⟨a,ha,_⟩=>F2,fL.nil⟩,h.lo,h.m,h.cq,h.cA,rfl,h.sX,ef _⟩,λi hi=>?_⟩⟩
 ·exact(eR.put iJ (show 5<=5 by omega)).ax (U.au hb) λe=>e
 ·rcases hi with rfl|⟨a,ha,_⟩|hi
  ·exact .inl (.inl rfl)
  ·cases ha
  ·exact absurd hi fL.nil
end
variable{w0:World}{F:Nat->Prop}{Q:Value->World->Prop}
theorem ayV(r:Addr)(h:∃a:Int->World->Prop,∃b:Int->Nat,(∃c:Int,bm w0 λd=>a c d)/\∀c:Int,∀d:World,U F w0 d->a c d->∃e,At d r 3 [D e]/\∃f,At d r 2 [D f]/\ay (e-f)/\∃g,At d r 0 [D g]/\bG g (e-f) (∃i:ao,∃j k:Nat,At d r 4 [.slice i j k]/\bG 0 j (∃l,At d r 3 [D l]/\∃m,At d r 2 [D m]/\ay (l-m)/\∃n,At d r 0 [D n]/\ay ((l-m)-n)/\∃o:ao,∃p q:Nat,At d r 4 [.slice o p q]/\∃s:Addr,o=(some s)/\xn p/\∃t:ao,At d s 0 [.pointer t]/\b9 w0 F [] d X.FA #[.pointer t] D λx y=>At x r 0 [D n]/\At x r 2 [D m]/\At x r 3 [D l]/\∃z:ao,∃A B:Nat,At x r 4 [.slice z A B]/\∃C:Addr,z=(some C)/\xn A/\∃aD:ao,At x C 0 [.pointer aD]/\b9 w0 F [] x X.Wc #[.pointer aD,D (min ((l-m)-n) y)] D λak bo=>∃J,At ak r 2 [D J]/\ay (J+(min ((l-m)-n) y))/\A5 w0 F ak r/\∀K:World,bH ak [] r 2 [D (J+(min ((l-m)-n) y))] K->∃L:ao,∃bj N:Nat,At K r 4 [.slice L bj N]/\∃eE:Addr,L=(some eE)/\xn bj/\∃P:ao,At K eE 0 [.pointer P]/\b9 w0 F [] K X.FA #[.pointer P] D λer V=>a' V 0 (∃W:ao,∃Y a1:Nat,At er r 4 [.slice W Y a1]/\Y2 Y a1/\∃gd:List Value,gy w0.heap.size F [] er G.qz 1 none 0 0 gd (Int.toNat ((Y:Int)-1))/\∃fq:List Value,(fq.length=((Int.toNat ((Y:Int)-1))*1)/\yZ fq/\((cM W a1 1 1)=none->(Int.toNat ((Y:Int)-1))=0)/\∀ac:Addr,(cM W a1 1 1)=(some ac)->At er ac 0 fq)/\((0+(Int.toNat ((Y:Int)-1)))*8)<=140737488355328/\∀ac:World,∀aB:ao,∀jE:Nat,gk er [] none 0 0 G.qz 1 (0+(Int.toNat ((Y:Int)-1))) (gd++fq) ac aB jE->vN w0 F ac r/\∀kq:World,bH ac [] r 4 [.slice aB (0+(Int.toNat ((Y:Int)-1))) jE] kq->∃jY:Int,bm kq λmT=>a jY mT/\b jY<b c) (∃W:Int,bm er λY=>a W Y/\b W<b c)) (aa w0 F d Q (.tuple #[]))) (aa w0 F d Q (.tuple #[]))):aO X.Vf #[al r] w0 F Q:=eV [⟨0,[100000],[]⟩] [] [.aY r 0] h
end Go.Proofs.YtimbpmnbbfeogaaGreatDoor
namespace Go.Proofs.YtimbpmnbbfeogaaGreatDoor
open Go Go.RowKit Go.Sy Go.Rep
def we:List kE->Nat->List kE
 |[],_=>[]
 |p::a_,k=>if k=0 then p::a_ else if k<p.ab.length then⟨p.cy,p.gone+k,p.ab.drop k⟩::a_ else we a_ (k-p.ab.length)
theorem aaR(a_:List kE):we a_ 0=a_:=by cases a_<;>simp[we]
theorem alo{p:kE}{a_:List kE}{k:Nat}(h:k<p.ab.length):we (p::a_) k=⟨p.cy,p.gone+k,p.ab.drop k⟩::a_:=by
 by_cases e:k=0
 ·subst e
  simp[we]
 ·rw[we,ag e,aA h]
theorem aln{p:kE}{a_:List kE}{k:Nat}(aW:0<p.ab.length)(h:p.ab.length<=k):we (p::a_) k=we a_ (k-p.ab.length):=by
 rw[we,ag M,ag M]
theorem vl(s:cT)(ss:List cT):eS (s::ss)=s.xs.length+eS ss:=by simp[eS]
theorem fL.cons{s:cT}{ss:List cT}{i:Nat}:fL (s::ss) i↔iU s i∨fL ss i:=by
 constructor
 ·rintro⟨t,ht,hi⟩
  rcases e7.1 ht with rfl|q
  ·exact .inl hi
  ·exact .inr ⟨t,q,hi⟩
 ·rintro(h|⟨t,ht,hi⟩)
  ·exact⟨s,kB,h⟩
  ·exact⟨t,jt _ ht,hi⟩
section
variable{w w':World}{r:kc}{s:cT}{ss:List cT}
theorem fT.head(h:fT w r)(hs:r.ss=s::ss):∃a,r.p=some a/\At w a 0 [s.ptr]:=by
 obtain⟨a,ha⟩:=h.row.row.iP (by rw[hs];simp:0<r.ss.length)
 exact⟨a,ha,by
  have:=Row.at_ h.row.row ha 0 (cj:=[s.ptr]) (by rw[hs];rfl)
  exact this⟩
theorem fT.cut(h:fT w r)(hs:r.ss=s::ss){s':cT}{first':Nat}(jo:hQ w' s')(hm:s'.cy=r.ei)(aW:0<s'.xs.length)(hb:s'.b=s.b)
  (bc:∀i,iU s' i->iU s i∨w.heap.size<=i) (hk:U (λi=>i=r.b∨iU s i) w w')
  (tF:Whole w' r.b G.Ai [.int .i64 r.cy, .int .i64 r.ei, .int .i64 first', .int .i64 r.next, .slice r.p r.ss.length r.c]) (hn:r.next=first'+(s'.xs.length+eS ss)) (hle:r.first<=first'):fT w' ⟨r.b,r.cy,r.ei,first',r.next,r.p,r.c,s'::ss⟩:=by
 have ev:s∈r.ss:=by rw[hs];exact kB
 have sB:=h.sep;rw[hs] at sB;have Ex:=xd.1 sB;have lg:∀t∈ss,t∈r.ss:=λt ht=>by rw[hs];exact jt _ ht
 have hlt:∀{i},gY r i->i<w.heap.size:=λhi=>h.lt hi
 refine⟨?_,?_,λt ht=>?_,?_,λi hi hl=>?_,⟨h.f_.1,λhl=>?_⟩,h.lo,h.m,h.cq,h.cA,by rw[vl];exact hn,h.sX,by have:=h.num;have:=h.iX;rw[vl];show s'.xs.length+eS ss<=_;omega⟩
 ·show Whole _ _ _ [_,_,_,_, .slice _ (s'::ss).length _]
  have:(s'::ss).length=r.ss.length:=by rw[hs];rfl
  rw[this];exact tF
 ·have:(s'::ss).map cT.ptr=r.ss.map cT.ptr:=by rw[hs];simp[cT.ptr,hb]
  show bF _ _ _ _ _ (s'::ss).length _ ((s'::ss).map cT.ptr);rw[this,show(s'::ss).length=r.ss.length by rw[hs];rfl];refine h.row.ax hk λa ha bk=>?_
  rcases bk with q|q
  ·exact h.f_.1 ⟨a,ha,q⟩
  ·exact h.mJ _ ⟨a,ha,rfl⟩ ⟨s,ev,q⟩
 ·rcases e7.1 ht with rfl|q
  ·exact⟨jo,hm,aW⟩
  ·have:=h.eG t (lg t q)
   refine⟨this.1.ax hk λi hi hl=>?_,this.2⟩;rcases hi with rfl|hi
   ·exact h.f_.2 ⟨t,lg t q,hl⟩
   ·exact Ex.1 t q i hi hl
 ·refine xd.2 ⟨λt ht i hi hl=>?_,Ex.2⟩
  rcases bc i hi with q|q
  ·exact Ex.1 t ht i q hl
  ·have:=hlt (.inr (.inr ⟨t,lg t ht,hl⟩))
   omega
 ·rcases fL.cons.1 hl with q|⟨t,ht,q⟩
  ·rcases bc i q with q|q
   ·exact h.mJ i hi ⟨s,ev,q⟩
   ·have:=hlt (.inr (.inl hi))
    omega
  ·exact h.mJ i hi ⟨t,lg t ht,q⟩
 ·change fL (s'::ss) r.b at hl
  rcases fL.cons.1 hl with q|⟨t,ht,q⟩
  ·rcases bc _ q with q|q
   ·exact h.f_.2 ⟨s,ev,q⟩
   ·have:=hlt (.inl rfl)
    omega
  ·exact h.f_.2 ⟨t,lg t ht,q⟩
theorem fT.shift(h:fT w r)(hs:r.ss=s::ss){first' c':Nat}{p':ao}(hk:U (λi=>i=r.b∨iU s i) w w')
  (tF:Whole w' r.b G.Ai [.int .i64 r.cy, .int .i64 r.ei, .int .i64 first', .int .i64 r.next, .slice p' ss.length c']) (hrow:bF Y.dZ w' G.qz 1 p' ss.length c' (ss.map cT.ptr))
  (ng:∀a,p'=some a->w.heap.size<=a.block) (hn:r.next=first'+eS ss) (hle:r.first<=first'):fT w' ⟨r.b,r.cy,r.ei,first',r.next,p',c',ss⟩:=by
 have sB:=h.sep;rw[hs] at sB;have Ex:=xd.1 sB;have lg:∀t∈ss,t∈r.ss:=λt ht=>by rw[hs];exact jt _ ht
 have hlt:∀{i},gY r i->i<w.heap.size:=λhi=>h.lt hi
 refine⟨tF,hrow,λt ht=>?_,Ex.2,λi hi hl=>?_,⟨λhi=>?_,λhl=>?_⟩,h.lo,h.m,h.cq,h.cA,hn,h.sX,by have:=h.num;have:=h.iX;show eS ss<=_;omega⟩
 ·have:=h.eG t (lg t ht)
  refine⟨this.1.ax hk λi hi hl=>?_,this.2⟩;rcases hi with rfl|hi
  ·exact h.f_.2 ⟨t,lg t ht,hl⟩
  ·exact Ex.1 t ht i hi hl
 ·obtain⟨a,ha,rfl⟩:=hi
  obtain⟨t,ht,q⟩:=hl;have:=hlt (.inr (.inr ⟨t,lg t ht,q⟩));have:=ng a ha;omega
 ·obtain⟨a,ha,e⟩:=hi
  have:=hlt (i:=r.b) (.inl rfl);have:=ng a ha;change a.block=r.b at e;omega
 ·obtain⟨t,ht,q⟩:=hl
  exact h.f_.2 ⟨t,lg t ht,q⟩
end
theorem bF.GB{B:Nat}{w:World}{e:TypeId}{s n c:Nat}{p:ao}{xs:List Value}(h:bF B w e s p n c xs):n<=maxLen:=by
 rcases h.2 with⟨_,hn⟩|⟨g,cap,cur,ah,hB,hg,hc,hx,_⟩
 ·omega
 ·omega
def Di(q:fp):Nat:=q.next-q.first-q.cy
def GW(q:fp):fp:=⟨q.cy,q.ei,q.first+Di q,q.next,we q.a_ (Di q)⟩
section
variable{w w':World}{r:kc}
theorem atH(aj:Laid w)(h:fT w r):bI Tryz.prog X.Vf #[r.ptr] w (gY r) (λv w'=>v= .tuple #[]/\PK w r (GW r.aq) w'):=by
 refine ayV _ ⟨λg w'=>Laid w'/\∃r':kc,r'.b=r.b/\r'.cy=r.cy/\r'.ei=r.ei/\r'.next=r.next/\(eS r'.ss:Int)=g/\fT w' r'/\(∀i,gY r' i->gY r i∨w.heap.size<=i)/\GW r'.aq=GW r.aq,λg=>g.toNat,⟨eS r.ss,λw' hb=>⟨Laid.below hb aj,r,rfl,rfl,rfl,rfl,rfl,h.below hb,λi hi=> .inl hi,rfl⟩⟩,?_⟩;rintro g w1 hk1 ⟨hL1,r',iv,oW,acX,zJ,rfl,h1,bc,he⟩;have zL:=h1.num;have ve:=h1.sX;have zI:=h1.m;have dB:∀{v:World},fT v r'->At v ⟨r.b,0,none⟩ 0 _:=λah=>by rw[<-iv];exact ah.at_
 refine⟨_,(dB h1).cw 3 rfl,_,(dB h1).cw 2 rfl,by unfold ay;omega,_,(dB h1).cw 0 rfl,λe1=>⟨_,_,_,(dB h1).cw 4 rfl,λe2=>?_,λe2=>?_⟩,λe1 w' hb _=>⟨rfl,r',iv,?_,h1.below hb,bc⟩⟩
 ·obtain⟨s,ss,jK⟩:∃s ss,r'.ss=s::ss:=by
   cases hq:r'.ss with
   |nil=>rw[hq] at e2;simp at e2
   |cons s ss=>exact⟨s,ss,rfl⟩
  obtain⟨dd,oe,ab2⟩:=h1.head jK;have ev:s∈r'.ss:=by rw[jK];exact kB
  obtain⟨hs1,apc,hs0⟩:=h1.eG s ev;have hsz:=hk1.size;refine⟨_,(dB h1).cw 3 rfl,_,(dB h1).cw 2 rfl,by unfold ay;omega,_,(dB h1).cw 0 rfl,by unfold ay;omega,_,_,_,(dB h1).cw 4 rfl,dd,oe,⟨by omega,by omega⟩,_,ab2,λbD eR=>(NC (hs1.below eR)).aH λbP eH=>?_⟩;have Sm:=(U.au eR).trans eH;have ca:=h1.O Sm;refine⟨_,rfl,eH.O,(dB ca).cw 0 rfl,(dB ca).cw 2 rfl,(dB ca).cw 3 rfl,_,_,_,(dB ca).cw 4 rfl,dd,oe,⟨by omega,by omega⟩,_,ab2.O Sm,λcu ep=>?_⟩;have Ei:=Sm.trans (U.au ep);have dM:=h1.O Ei;obtain⟨m,hm⟩:∃m:Nat,m=min (r'.next-r'.first-r'.cy) s.xs.length:=⟨_,rfl⟩;rw[show min ((r'.next:Int)-(r'.first:Int)-(r'.cy:Int)) (s.xs.length:Int)=(m:Int) by omega];have ao8:gY r' s.b:= .inr (.inr ⟨s,ev, .inl rfl⟩);refine(aud (n:=m) (Laid.O Ei hL1) (hs1.O Ei) M).aH λv w7 e_ ⟨ah,p,c,hs7,pC⟩=>⟨0,by rw[ah],e_.ap9 λi hi hlt=>(bc i (by rw[hi];exact ao8)).elim id λq=>by omega,?_⟩
  have adh:=Ei.size;have su:U (λi=>i=r'.b∨iU s i) w1 w7:=(Ei.mono λ_ e=>e.elim).trans (e_.mono λi hi=> .inr (.inl hi));have nF:=dM.aF.ax e_ λe=>h1.f_.2 ⟨s,ev, .inl e⟩
  have dJ:cp w.heap.size (gY r) [] r.b:=⟨by simp,λ_=> .inl rfl⟩;refine⟨_,by rw[<-iv];exact(nF.at_ (show 5<=maxLen by decide)).cw 2 rfl,by unfold ay;omega,⟨by rw[<-iv];exact nF.ch (show 3<=5 by omega),dJ⟩,λcW sz=>?_⟩;rw[<-iv] at sz;have Bg:=nF.put sz (show 3<=5 by omega);have Eh:U (λi=>i=r'.b∨iU s i) w1 cW:=su.trans (sz.ax (.inl rfl));have ac_:=h1.row.ax Eh λa ha bk=>by
   rcases bk with q|q
   ·exact h1.f_.1 ⟨a,ha,q⟩
   ·exact h1.mJ _ ⟨a,ha,rfl⟩ ⟨s,ev,q⟩
  have am6:At cW dd 0 [s.ptr]:=Row.at_ ac_.row oe 0 (cj:=[s.ptr]) (by rw[jK];rfl);have H8:=hs7.ax (sz.ax (F:=λi=>i=r'.b) rfl) λi hi hl=>by
   rcases hl with q|⟨a,ha,e⟩|q
   ·exact h1.f_.2 ⟨s,ev, .inl (by rw[<-hi];exact q)⟩
   ·have:=pC a ha
    have:=dM.aF.lt;omega
   ·exact h1.f_.2 ⟨s,ev, .inr (.inr (by rw[<-hi];exact q.sub λx hx=>ka hx))⟩
  have D7:Laid cW:=hL1.ax Eh λi hi=>hi.elim (λq=>by rw[q];exact h1.lo) λq=>hs1.low q
  refine⟨_,_,_,by rw[<-iv];exact(Bg.at_ (show 5<=maxLen by decide)).cw 4 rfl,dd,oe,⟨by omega,by omega⟩,_,am6,λcR cr=>(NC (H8.below cr)).aH λgn jI=>⟨_,rfl,jI.O,λe3=>?_,λe3=>?_⟩⟩
  ·have Hu:(s.xs.drop m).length=s.xs.length-m:=mv
   change ((s.xs.drop m).length:Int)=0 at e3;have zG:m=s.xs.length:=by omega
   have L3:=(Eh.trans ((U.au cr).mono λ_ e=>e.elim)).trans (jI.mono λ_ e=>e.elim);have L5:U bg cW gn:=(U.au cr).trans jI;have ac7:=ac_.O L5;have iY:=Bg.ax L5 λe=>e
   have kg:=bF.cap ac7;have Cq:=bF.tail ac7 (j:=1) du M;have ano:(r'.ss.map cT.ptr).drop (1*1)=ss.map cT.ptr:=by rw[jK];rfl
   rw[ano] at Cq;have hsl:r'.ss.length=ss.length+1:=by rw[jK];rfl
   have adj:((r'.ss.length:Int)-1).toNat=ss.length:=by omega
   refine⟨_,_,_,by rw[<-iv];exact(iY.at_ (show 5<=maxLen by decide)).cw 4 rfl,⟨by omega,by omega,by omega⟩,[],gy.none,ss.map cT.ptr,⟨by rw[gw];omega,λu hu=>?_,λe=>by have:=Cq.1 e;omega,λa ha=>Cq.2 a ha⟩,?_,λkl IV CH hg=>?_⟩
   ·obtain⟨aX,_,rfl⟩:=lr.1 hu
    rfl
   ·have h11:=h1.sX
    have:∀ss:List cT,(∀s∈ss,0<s.xs.length)->ss.length<=eS ss:=by
     intro ss h
     induction ss with
     |nil=>exact cL _
     |cons s ss ih=>
      rw[vl];have:=h s kB;have:=ih λt ht=>h t (jt _ ht)
      simp only[ko];omega
    have q1:=this r'.ss λt ht=>(h1.eG t ht).2.2
    have:=h1.iX;omega
   rw[iR,pW,adj] at hg;rw[iR,adj];have iZ:U bg gn kl:=hg.ax λe=>absurd e M
   have Cc:bF gn.heap.size kl G.qz 1 IV ss.length CH (ss.map cT.ptr):=hg.own (cL _) λa ha=>nomatch ha
   have B2:=iY.ax iZ λe=>e
   refine⟨⟨by rw[<-iv];exact B2.ch (show 5<=5 by omega),dJ⟩,λjy pB=>⟨eS ss,λk2 py=>?_⟩⟩;rw[<-iv] at pB;have kM:=B2.put pB (show 5<=5 by omega);have acv:U (λi=>i=r'.b) kl k2:=(pB.ax (F:=λi=>i=r'.b) rfl).trans ((U.au py).mono λ_ e=>e.elim);have acu:U (λi=>i=r'.b∨iU s i) w1 k2:=(L3.trans (iZ.mono λ_ e=>e.elim)).trans (acv.mono λ_ e=> .inl e);have aC9:=L3.size;have aCt:=h1.lt (.inl rfl)
   have hR:=h1.shift jK (first':=r'.first+m) (c':=CH) (p':=IV) acu (by
     have:=kM.ax (U.au py) λe=>e
     rw[show((r'.first+m:Nat):Int)=(r'.first:Int)+m by omega]
     exact this) ((Cc.ax acv λa ha e=>by have:=(Cc.lt a ha).2.1;omega).low (by have:=hL1.size;omega)) (λa ha=>by have:=(Cc.lt a ha).2.1;omega) (by rw[jK,vl] at zL;omega) (JR _ _)
   refine⟨⟨hL1.ax acu λi hi=>hi.elim (λq=>by rw[q];exact h1.lo) λq=>hs1.low q,⟨r'.b,r'.cy,r'.ei,r'.first+m,r'.next,IV,CH,ss⟩,iv,oW,acX,zJ,rfl,hR,λi hi=>?_,?_⟩,?_⟩
   ·rcases hi with rfl|⟨a,ha,rfl⟩|⟨t,ht,hi⟩
    ·exact bc _ (.inl rfl)
    ·have:=(Cc.lt a ha).2.1
     exact .inr M
    ·exact bc i (.inr (.inr ⟨t,by rw[jK];exact jt _ ht,hi⟩))
   ·rw[<-he]
    have hl:(cT.cK s).ab.length=s.xs.length:=by simp[cT.cK,bJ]
    have hk:s.xs.length<=r'.next-r'.first-r'.cy:=by omega
    show fp.mk _ _ _ _ _=fp.mk _ _ _ _ _;have e1:Di r'.aq=r'.next-r'.first-r'.cy:=rfl;have e2:Di (kc.aq ⟨r'.b,r'.cy,r'.ei,r'.first+m,r'.next,IV,CH,ss⟩)=r'.next-r'.first-r'.cy-s.xs.length:=by show r'.next-(r'.first+m)-r'.cy=_;omega
    have e3:r'.aq.a_=cT.cK s::ss.map cT.cK:=by show r'.ss.map cT.cK=_;rw[jK];rfl
    rw[e1,e2,e3,aln M M,hl];show fp.mk _ _ (r'.first+m+_) _ _=fp.mk _ _ (r'.first+_) _ _;congr 1;omega
   ·rw[jK,vl]
    dsimp only;omega
  ·have Hu:(s.xs.drop m).length=s.xs.length-m:=mv
   change ¬((s.xs.drop m).length:Int)=0 at e3;have aCw:m<s.xs.length:=by omega
   have aoo:m=r'.next-r'.first-r'.cy:=by omega
   have L3:=(Eh.trans ((U.au cr).mono λ_ e=>e.elim)).trans (jI.mono λ_ e=>e.elim);have L5:U bg cW gn:=(U.au cr).trans jI;refine⟨eS (⟨s.b,s.cy,s.gone+m,p,c,s.xs.drop m⟩::ss),λhC fs=>?_⟩;have acz:=L5.trans (U.au fs);have acs:=L3.trans ((U.au fs).mono λ_ e=>e.elim);have zt:∀i,iU ⟨s.b,s.cy,s.gone+m,p,c,s.xs.drop m⟩ i->iU s i∨w1.heap.size<=i:=λi hi=>by
    rcases hi with q|⟨a,ha,rfl⟩|q
    ·exact .inl (.inl q)
    ·have:=pC a ha
     have:=Ei.size;exact .inr M
    ·exact .inl (.inr (.inr (q.sub λx hx=>ka hx)))
   have hR:=h1.cut jK (first':=r'.first+m) (H8.O acz) apc (by show 0<(s.xs.drop m).length;omega) rfl zt acs (by
     have:=Bg.ax acz λe=>e
     rw[show((r'.first+m:Nat):Int)=(r'.first:Int)+m by omega]
     exact this) (by show r'.next=r'.first+m+((s.xs.drop m).length+eS ss);rw[jK,vl] at zL;omega) (JR _ _)
   refine⟨⟨hL1.ax acs λi hi=>hi.elim (λq=>by rw[q];exact h1.lo) λq=>hs1.low q,⟨r'.b,r'.cy,r'.ei,r'.first+m,r'.next,r'.p,r'.c,⟨s.b,s.cy,s.gone+m,p,c,s.xs.drop m⟩::ss⟩,iv,oW,acX,zJ,rfl,hR,λi hi=>?_,?_⟩,?_⟩
   ·rcases hi with rfl|hi|hi
    ·exact bc _ (.inl rfl)
    ·exact bc _ (.inr (.inl hi))
    ·rcases fL.cons.1 hi with q|⟨t,ht,q⟩
     ·rcases zt i q with q|q
      ·exact bc i (.inr (.inr ⟨s,ev,q⟩))
      ·exact .inr M
     ·exact bc i (.inr (.inr ⟨t,by rw[jK];exact jt _ ht,q⟩))
   ·rw[<-he]
    have hl:(cT.cK s).ab.length=s.xs.length:=by simp[cT.cK,bJ]
    have e1:Di r'.aq=m:=aoo.symm;have e2:Di (kc.aq ⟨r'.b,r'.cy,r'.ei,r'.first+m,r'.next,r'.p,r'.c,⟨s.b,s.cy,s.gone+m,p,c,s.xs.drop m⟩::ss⟩)=0:=by show r'.next-(r'.first+m)-r'.cy=_;omega
    have e3:r'.aq.a_=cT.cK s::ss.map cT.cK:=by show r'.ss.map cT.cK=_;rw[jK];rfl
    show fp.mk _ _ _ _ _=fp.mk _ _ _ _ _;rw[e1,e2,e3,aaR,alo M];have:bJ (s.xs.drop m)=(bJ s.xs).drop m:=by simp[bJ]
    show fp.mk _ _ _ _ (cT.cK ⟨s.b,s.cy,s.gone+m,p,c,s.xs.drop m⟩::ss.map cT.cK)=fp.mk _ _ _ _ (⟨_,_,(bJ s.xs).drop m⟩::ss.map cT.cK);rw[<-this];rfl
   ·rw[jK,vl,vl]
    dsimp only;omega
 ·exfalso
  have:r'.ss=[]:=n2 M;rw[this] at zL;simp[eS] at zL;omega
 ·rw[<-he]
  have:Di r'.aq=0:=by show r'.next-r'.first-r'.cy=0;omega
  rw[GW,this,aaR];rfl
end
variable{w0:World}{F:Nat->Prop}{Q:Value->World->Prop}
theorem ayI(g:Addr)(r:dz)(h:aG w0 λa=>a7 w0 F [a] w0 [(a,G.Region)] X.oQ #[al g] D λd e=>a' e 0 (aa w0 F d Q (D 1)) (a7 w0 F [a] d [(a,G.Region)] X.oQ #[al g] D λj k=>cC w0 j [(a,G.Region)] X.U3 #[D k, .agg r.T] λl m n=>Yh w0 F Q m [a] l n)):aO X.I5 #[al g, .agg r.T] w0 F Q:=bh [.aY g 0, .agg (dz.bN.enc r)] h
theorem ayH(g:Addr)(r:dz)(c:Cu)(p:aT)(h:aG w0 λa=>aG w0 λb=>aG w0 λd=>a7 w0 F [a,b,d] w0 [(a,G.Region),(b,G.bR),(d,G.b_)] X.I5 #[al g, .agg r.T] D λi j=>i' w0 F Q j i/\(j=0->bG c.row 0 (aa w0 F i Q (D 2)) (a7 w0 F [a,b,d] i [(a,G.Region),(b,G.bR),(d,G.b_)] X.oQ #[al g] D λm n=>dX n c.row (aa w0 F m Q (D 2)) (bG c.ae 0 (aa w0 F m Q (D 2)) (a7 w0 F [a,b,d] m [(a,G.Region),(b,G.bR),(d,G.b_)] X.mf #[al g] D λs t=>dX t c.ae (aa w0 F s Q (D 2)) (dQ c.dC (a7 w0 F [a,b,d] s [(a,G.Region),(b,G.bR),(d,G.b_)] X.mf #[al g] D λx y=>ay (y-1)/\(c.ae≠(y-1)->aa w0 F x Q (D 2))/\(c.ae=(y-1)->cC w0 x [(a,G.Region),(b,G.bR),(d,G.b_)] X.zq #[al g, .agg r.T,D 0, .agg p.T] λz A B=>J9 w0 F Q A [a,b,d] z B)) (cC w0 s [(a,G.Region),(b,G.bR),(d,G.b_)] X.zq #[al g, .agg r.T,D 0, .agg p.T] λu v x=>J9 w0 F Q v [a,b,d] u x))))))):aO X.NL #[al g, .agg r.T, .agg c.T, .agg p.T] w0 F Q:=bh [.aY g 0, .agg (dz.bN.enc r), .agg (Cu.bN.enc c), .agg (aT.bN.enc p)] h
theorem ayF(g:Addr)(r:dz)(n:Int)(p:aT)(h:aG w0 λa=>aG w0 λb=>a7 w0 F [a,b] w0 [(a,G.Region),(b,G.b_)] X.I5 #[al g, .agg r.T] D λe f=>(f≠0->aa w0 F e Q (.tuple #[.slice none 0 0,D f]))/\(f=0->bG n 0 (aa w0 F e Q (.tuple #[.slice none 0 0,D 2])) (cC w0 e [(a,G.Region),(b,G.b_)] X.zq #[al g, .agg r.T,D n, .agg p.T] λi j k=>∃l:ao,∃m o:Nat,∃q,bW j (.tuple #[.slice l m o,D q]) w0 F [a,b] i k ((q≠0->aa w0 F k Q (.tuple #[.slice none 0 0,D q]))/\(q=0->bG 0 r.bf (aa w0 F k Q (.tuple #[.slice none 0 0,D q])) (aa w0 F k Q (.tuple #[.slice l m o,D 0]))))))):aO X.NK #[al g, .agg r.T,D n, .agg p.T] w0 F Q:=bh [.aY g 0, .agg (dz.bN.enc r),cn n, .agg (aT.bN.enc p)] h
theorem ayB(g:Addr)(r:dz)(n:Int)(p:aT)(h:aG w0 λa=>aG w0 λb=>a7 w0 F [a,b] w0 [(a,G.Region),(b,G.b_)] X.I5 #[al g, .agg r.T] D λe f=>i' w0 F Q f e/\(f=0->bG n 0 (aa w0 F e Q (D 2)) (ay (0-n)/\cC w0 e [(a,G.Region),(b,G.b_)] X.zq #[al g, .agg r.T,D (0-n), .agg p.T] λi j k=>J9 w0 F Q j [a,b] i k))):aO X.NJ #[al g, .agg r.T,D n, .agg p.T] w0 F Q:=bh [.aY g 0, .agg (dz.bN.enc r),cn n, .agg (aT.bN.enc p)] h
theorem ayC(g:Addr)(r:dz)(c:Cu)(p:aT)(h:aG w0 λa=>aG w0 λb=>aG w0 λd=>aG w0 λe=>a7 w0 F [a,b,d,e] w0 [(a,G.Region),(b,G.bR),(d,G.b_),(e,G.bR)] X.NL #[al g, .agg r.T, .agg c.T, .agg p.T] D λj k=>(k≠0->bn w0 F j [e] Q (.tuple #[.agg #[D 0,D 0, .bool false], .slice none 0 0,D k]))/\(k=0->aG j λl=>a' c.row r.b7 (cC w0 j [(a,G.Region),(b,G.bR),(d,G.b_),(e,G.bR),(l,G.bR)] X.NK #[al g, .agg r.T,D 1, .agg p.T] λm n o=>∃q:ao,∃s t:Nat,∃u,bW n (.tuple #[.slice q s t,D u]) w0 F [a,b,d,e,l] m o (bn w0 F o [e] Q (.tuple #[.agg #[D c.row,D c.ae, .bool false], .slice q s t,D u]))) (ay (c.row+1)/\a7 w0 F [a,b,d,e,l] j [(a,G.Region),(b,G.bR),(d,G.b_),(e,G.bR),(l,G.bR)] X.oQ #[al g] D λo q=>ay (q-1)/\bn w0 F o [e,l] Q (.tuple #[.agg #[D (min (c.row+1) (q-1)),D c.ae, .bool false], .slice none 0 0,D 0])))):aO X.U1 #[al g, .agg r.T, .agg c.T, .agg p.T] w0 F Q:=bh [.aY g 0, .agg (dz.bN.enc r), .agg (Cu.bN.enc c), .agg (aT.bN.enc p)] h
theorem ayD(g:Addr)(r:dz)(c:Cu)(p:aT)(h:aG w0 λa=>aG w0 λb=>aG w0 λd=>aG w0 λe=>a7 w0 F [a,b,d,e] w0 [(a,G.Region),(b,G.bR),(d,G.b_),(e,G.bR)] X.NL #[al g, .agg r.T, .agg c.T, .agg p.T] D λj k=>uF w0 F Q k j [e]/\(k=0->aG j λl=>a' c.row r.bf (a7 w0 F [a,b,d,e,l] j [(a,G.Region),(b,G.bR),(d,G.b_),(e,G.bR),(l,G.bR)] X.NJ #[al g, .agg r.T,D 1, .agg p.T] D λo q=>bn w0 F o [e] Q (.tuple #[.agg #[D c.row,D c.ae, .bool false],D q])) (ay (c.row-1)/\bn w0 F j [e] Q (.tuple #[.agg #[D (max 0 (c.row-1)),D c.ae, .bool false],D 0])))):aO X.U2 #[al g, .agg r.T, .agg c.T, .agg p.T] w0 F Q:=bh [.aY g 0, .agg (dz.bN.enc r), .agg (Cu.bN.enc c), .agg (aT.bN.enc p)] h
theorem axk(jM:Addr)(hE iQ:Int)(vE:Bool)(xa n0:Int)(nn:Bool)(s6 AM AN AD AE AF AG AH AI AJ AK AL:Int)(h:aG w0 λa=>∃b:Int->Int->Bool->Int->Int->World->Prop,((aG w0 λc=>aG w0 λd=>bm w0 λe=>b hE iQ vE xa n0 e)/\aG w0 λc=>aG w0 λd=>bm w0 λe=>b hE iQ vE xa n0 e)/\∀c d:Int,∀e:Bool,∀f g:Int,aG w0 λi=>aG w0 λj=>∀k:World,U F w0 k->b c d e f g k->a7 w0 F [a,i,j] k [(a,G.qd),(i,G.bR),(j,G.Region)] X.mf #[al jM] D λn o=>ay (o-1)/\a7 w0 F [a,i,j] n [(a,G.qd),(i,G.bR),(j,G.Region)] X.oQ #[al jM] D λr s=>a' s 0 (aa w0 F r Q (D 1)) (bG c 0 (aa w0 F r Q (D 2)) (a7 w0 F [a,i,j] r [(a,G.qd),(i,G.bR),(j,G.Region)] X.oQ #[al jM] D λv x=>dX x c (aa w0 F v Q (D 2)) (bG d 0 (aa w0 F v Q (D 2)) (bG (o-1) d (aa w0 F v Q (D 2)) (dQ e ((d≠(o-1)->aa w0 F v Q (D 2))/\(d=(o-1)->Yi w0 F Q nn f g v s6 [(a,G.qd),(i,G.bR),(j,G.Region)] AM AN AD AE AF AG AH AI AJ AK AL [a,i,j] jM)) (Yi w0 F Q nn f g v s6 [(a,G.qd),(i,G.bR),(j,G.Region)] AM AN AD AE AF AG AH AI AJ AK AL [a,i,j] jM))))))):aO X.BG #[.agg #[al jM,D hE,D iQ, .bool vE,D xa,D n0, .bool nn,D s6,D AM, .int .u8 AN, .int .u8 AD, .int .u8 AE, .int .u8 AF,D AG, .int .u8 AH, .int .u8 AI, .int .u8 AJ, .int .u8 AK, .int .u8 AL]] w0 F Q:=eV [] [⟨2,[200003,200004],[]⟩] [.agg
  [.aY jM 0,cn hE,cn iQ, .bool (bL.ok vE),cn xa,
   cn n0, .bool (bL.ok nn),cn s6,cn AM, .int .u8 AN,
   .int .u8 AD, .int .u8 AE, .int .u8 AF,cn AG,
   .int .u8 AH, .int .u8 AI, .int .u8 AJ, .int .u8 AK,
   .int .u8 AL]] h
theorem axl(jM:Addr)(hE iQ:Int)(vE:Bool)(xa n0:Int)(nn:Bool)(s6 AM AN AD AE AF AG AH AI AJ AK AL n:Int)(h:aG w0 λa=>bG hE xa (aa w0 F w0 Q (D 0)) (bG n0 hE (aa w0 F w0 Q (D 0)) (cC w0 w0 [(a,G.qd)] X.zq #[al jM, .agg #[D hE,D n0],D n, .agg #[D AM, .int .u8 AN, .int .u8 AD, .int .u8 AE, .int .u8 AF,D AG, .int .u8 AH, .int .u8 AI, .int .u8 AJ, .int .u8 AK, .int .u8 AL]] λb c d=>J9 w0 F Q c [a] b d))):aO X.GP #[.agg #[al jM,D hE,D iQ, .bool vE,D xa,D n0, .bool nn,D s6,D AM, .int .u8 AN, .int .u8 AD, .int .u8 AE, .int .u8 AF,D AG, .int .u8 AH, .int .u8 AI, .int .u8 AJ, .int .u8 AK, .int .u8 AL],D n] w0 F Q:=bh [.agg
  [.aY jM 0,cn hE,cn iQ, .bool (bL.ok vE),cn xa,
   cn n0, .bool (bL.ok nn),cn s6,cn AM, .int .u8 AN,
   .int .u8 AD, .int .u8 AE, .int .u8 AF,cn AG,
   .int .u8 AH, .int .u8 AI, .int .u8 AJ, .int .u8 AK,
   .int .u8 AL],
 cn n] h
theorem axi(g:Addr)(c:Cu)(n:Int)(p:aT)(h:aG w0 λa=>aG w0 λb=>aG w0 λd=>a7 w0 F [a,b,d] w0 [(a,G.bR),(b,G.b_),(d,G.qd)] X.BG #[.agg #[al g,D c.row,D c.ae, .bool c.dC,D 0,D 0, .bool false,D n,D p.f.k, .int .u8 p.f.i, .int .u8 p.f.r, .int .u8 p.f.g, .int .u8 p.f.b,D p.b.k, .int .u8 p.b.i, .int .u8 p.b.r, .int .u8 p.b.g, .int .u8 p.b.b, .int .u8 p.eo]] D λi j=>i' w0 F Q j i/\(j=0->cC w0 i [(a,G.bR),(b,G.b_),(d,G.qd)] X.D2 #[al g,D c.row,D c.ae,D n, .agg p.T] λk l m=>fW w0 F Q l [a,b,d] k m)):aO X.Rb #[al g, .agg c.T,D n, .agg p.T] w0 F Q:=bh [.aY g 0, .agg (Cu.bN.enc c),cn n, .agg (aT.bN.enc p)] h
theorem axg(g:Addr)(c:Cu)(n:Int)(p:aT)(h:aG w0 λa=>aG w0 λb=>aG w0 λd=>a7 w0 F [a,b,d] w0 [(a,G.bR),(b,G.b_),(d,G.qd)] X.BG #[.agg #[al g,D c.row,D c.ae, .bool c.dC,D 0,D 0, .bool false,D n,D p.f.k, .int .u8 p.f.i, .int .u8 p.f.r, .int .u8 p.f.g, .int .u8 p.f.b,D p.b.k, .int .u8 p.b.i, .int .u8 p.b.r, .int .u8 p.b.g, .int .u8 p.b.b, .int .u8 p.eo]] D λi j=>i' w0 F Q j i/\(j=0->a' n 0 (aa w0 F i Q (D j)) (ay (0-n)/\a7 w0 F [a,b,d] i [(a,G.bR),(b,G.b_),(d,G.qd)] X.D2 #[al g,D c.row,D c.ae,D (0-n), .agg p.T] D λm o=>i' w0 F Q o m/\(o=0->cC w0 m [(a,G.bR),(b,G.b_),(d,G.qd)] X.BV #[al g,D c.row, .bool false] λq r s=>fW w0 F Q r [a,b,d] q s)))):aO X.Q' #[al g, .agg c.T,D n, .agg p.T] w0 F Q:=bh [.aY g 0, .agg (Cu.bN.enc c),cn n, .agg (aT.bN.enc p)] h
theorem axj(g:Addr)(c:Cu)(r:dz)(n:Int)(p:aT)(h:aG w0 λa=>aG w0 λb=>aG w0 λd=>aG w0 λe=>a7 w0 F [a,b,d,e] w0 [(a,G.bR),(b,G.Region),(d,G.b_),(e,G.qd)] X.BG #[.agg #[al g,D c.row,D c.ae, .bool c.dC,D r.bf,D r.b7, .bool true,D n,D p.f.k, .int .u8 p.f.i, .int .u8 p.f.r, .int .u8 p.f.g, .int .u8 p.f.b,D p.b.k, .int .u8 p.b.i, .int .u8 p.b.r, .int .u8 p.b.g, .int .u8 p.b.b, .int .u8 p.eo]] D λj k=>i' w0 F Q k j/\(k=0->ay (0-n)/\cC w0 j [(a,G.bR),(b,G.Region),(d,G.b_),(e,G.qd)] X.GP #[.agg #[al g,D c.row,D c.ae, .bool c.dC,D r.bf,D r.b7, .bool true,D n,D p.f.k, .int .u8 p.f.i, .int .u8 p.f.r, .int .u8 p.f.g, .int .u8 p.f.b,D p.b.k, .int .u8 p.b.i, .int .u8 p.b.r, .int .u8 p.b.g, .int .u8 p.b.b, .int .u8 p.eo],D (0-n)] λl m o=>fW w0 F Q m [a,b,d,e] l o)):aO X.Rc #[al g, .agg c.T, .agg r.T,D n, .agg p.T] w0 F Q:=bh [.aY g 0, .agg (Cu.bN.enc c), .agg (dz.bN.enc r),cn n, .agg (aT.bN.enc p)] h
theorem axh(g:Addr)(c:Cu)(r:dz)(n:Int)(p:aT)(h:aG w0 λa=>aG w0 λb=>aG w0 λd=>aG w0 λe=>a7 w0 F [a,b,d,e] w0 [(a,G.bR),(b,G.Region),(d,G.b_),(e,G.qd)] X.BG #[.agg #[al g,D c.row,D c.ae, .bool c.dC,D r.bf,D r.b7, .bool true,D n,D p.f.k, .int .u8 p.f.i, .int .u8 p.f.r, .int .u8 p.f.g, .int .u8 p.f.b,D p.b.k, .int .u8 p.b.i, .int .u8 p.b.r, .int .u8 p.b.g, .int .u8 p.b.b, .int .u8 p.eo]] D λj k=>i' w0 F Q k j/\(k=0->cC w0 j [(a,G.bR),(b,G.Region),(d,G.b_),(e,G.qd)] X.GP #[.agg #[al g,D c.row,D c.ae, .bool c.dC,D r.bf,D r.b7, .bool true,D n,D p.f.k, .int .u8 p.f.i, .int .u8 p.f.r, .int .u8 p.f.g, .int .u8 p.f.b,D p.b.k, .int .u8 p.b.i, .int .u8 p.b.r, .int .u8 p.b.g, .int .u8 p.b.b, .int .u8 p.eo],D n] λl m o=>fW w0 F Q m [a,b,d,e] l o)):aO X.Ra #[al g, .agg c.T, .agg r.T,D n, .agg p.T] w0 F Q:=bh [.aY g 0, .agg (Cu.bN.enc c), .agg (dz.bN.enc r),cn n, .agg (aT.bN.enc p)] h
end Go.Proofs.YtimbpmnbbfeogaaGreatDoor
namespace Go.Sy
theorem U.after{F pZ:Nat->Prop}{a b c:World}(h:U F a b)(k:U pZ b c)(bc:∀i,i<a.heap.size->pZ i->F i):U F a c:=
 ⟨k.os.trans h.os,k.tape.trans h.tape,k.output.trans h.output,ek h.size k.size,λi h1 h2=>(k.heap i (gp h1 h.size) λe=>h2 (bc i h1 e)).trans (h.heap i h1 h2)⟩
end Go.Sy
namespace Go.Proofs.YtimbpmnbbfeogaaGreatDoor
open Go Go.RowKit Go.Sy Go.Rep
def bB(w0:World)(aR:cV)(bs:List Nat)(r:cc)(w:World):Prop:=Laid w/\U (dY aR) w0 w/\∃g:cV,g.b=aR.b/\g.aC=r/\dA w g/\∀i,dY g i->(dY aR i∨w0.heap.size<=i)/\i∉bs
section
variable{w0 w w' w1:World}{aR:cV}{bs:List Nat}{r r':cc}
theorem bB.start(aj:Laid w0)(h:dA w0 aR)(hb:∀b∈bs,w0.heap.size<=b):bB w0 aR bs aR.aC w0:=
 ⟨aj,U.refl _ _,aR,rfl,rfl,h,λi hi=>⟨.inl hi,λhm=>by have:=h.lt hi;have:=hb i hm;omega⟩⟩
theorem bB.O(h:bB w0 aR bs r w)(hk:U bg w w'):bB w0 aR bs r w':=by
 obtain⟨h1,h2,g,aw,aZ,ca,dM⟩:=h;exact⟨Laid.O hk h1,h2.trans (hk.mono λ_ e=>e.elim),g,aw,aZ,ca.O hk,dM⟩
theorem bB.below(h:bB w0 aR bs r w)(hb:Below w.heap.size w w'):bB w0 aR bs r w':=h.O (U.au hb)
theorem bB.cZ(h:bB w0 aR bs r w){n:Nat}(hn:w.heap.size<=n):bB w0 aR (bs++[n]) r w:=by
 obtain⟨h1,h2,g,aw,aZ,ca,dM⟩:=h
 exact⟨h1,h2,g,aw,aZ,ca,λi hi=>⟨(dM i hi).1,λhm=>by
  rcases gi.1 hm with q|q
  ·exact(dM i hi).2 q
  ·rw[gg] at q
   have:=ca.lt hi
   omega⟩⟩
theorem bB.bQ(h:bB w0 aR bs r w)(hb:Below w.heap.size w w'):iS w0 aR r w':=by
 obtain⟨h1,h2,g,aw,aZ,ca,dM⟩:=h;exact⟨g,aw,aZ,ca.below hb,λi hi=>(dM i hi).1⟩
theorem bB.ret{f:FuncId}{args:Array Value}{v:Value}{R:Ending->World->Prop}(h:bB w0 aR bs r w1)(hc:∀g:cV,dA w1 g->g.ptr=aR.ptr->g.aC=r->Laid w1->di f args w1 v)
  (hR:∀ad,bB w0 aR bs r ad->U bg w1 ad->R (.returned v) ad):dH Tryz.prog f args w1 R:=by
 have h':=h;obtain⟨h1,h2,g,aw,aZ,ca,dM⟩:=h';exact(hc g ca XE aZ h1).aH λad hk=>hR ad (h.O hk) hk
theorem bB.call{f:FuncId}{args:Array Value}{fC:Value->World->Prop}{R:Ending->World->Prop}(h:bB w0 aR bs r w1)(hm:∀b∈bs,b<w1.heap.size)
  (hc:∀g:cV,dA w1 g->g.ptr=aR.ptr->g.aC=r->Laid w1->bI Tryz.prog f args w1 (dY g) (λv ad=>fC v ad/\iS w1 g r' ad))
  (hR:∀v ad,fC v ad->bB w0 aR bs r' ad->eC w0.heap.size (dY aR) bs w1 ad->R (.returned v) ad):dH Tryz.prog f args w1 R:=by
 obtain⟨h1,h2,g,aw,aZ,ca,dM⟩:=h;refine(hc g ca XE aZ h1).aH λv ad hk ⟨hq,aU,q1,q2,cz,en⟩=>hR v ad hq ⟨?_,h2.after hk (λi hlt hi=>((dM i hi).1).resolve_right M),aU,q1.trans aw,q2,cz,λi hi=>?_⟩ ?_
 ·exact h1.ax hk λi hi=>ca.low hi
 ·rcases en i hi with q|q
  ·exact dM i q
  ·exact⟨.inr (ek h2.size q),λhb=>by have:=hm i hb;omega⟩
 ·exact hk.kept (λi hi hlt=>((dM i hi).1).resolve_right M) λi hi _=>(dM i hi).2
variable{R:Ending->World->Prop}
theorem xU(h:bB w0 aR bs r w1)(hR:∀ad,bB w0 aR bs r ad->U bg w1 ad->R (.returned (.int .i64 r.ab.length)) ad):dH Tryz.prog X.oQ #[aR.ptr] w1 R:=
 h.ret (λg hg hp hr aj=>by subst hr;rw[<-hp];simpa[cV.aC,bJ] using asZ hg) hR
theorem qg(h:bB w0 aR bs r w1)(hR:∀ad,bB w0 aR bs r ad->U bg w1 ad->R (.returned (.int .i64 r.ai)) ad):dH Tryz.prog X.mf #[aR.ptr] w1 R:=
 h.ret (λg hg hp hr aj=>by subst hr;rw[<-hp];exact asU hg) hR
theorem abx{row ae:Int}(h:bB w0 aR bs r w1)(hR:∀ad,bB w0 aR bs r ad->U bg w1 ad->R (.returned (.tuple #[.agg (DO r row ae).T, .int .i64 (nE r row ae)])) ad):dH Tryz.prog X.G5 #[aR.ptr, .int .i64 row, .int .i64 ae] w1 R:=
 h.ret (λg hg hp hr aj=>by subst hr;rw[<-hp];exact asS hg) hR
theorem abz{row ae:Int}{c:bC}(h:bB w0 aR bs r w1)(hm:∀b∈bs,b<w1.heap.size)(hR:∀ad,bB w0 aR bs (nj r row ae c) ad->eC w0.heap.size (dY aR) bs w1 ad->R (.returned (.int .i64 (o7 r row ae c))) ad):dH Tryz.prog X.G7 #[aR.ptr, .int .i64 row, .int .i64 ae, .agg c.T] w1 R:=
 h.call (r':=nj r row ae c) hm (fC:=λv _=>v= .int .i64 (o7 r row ae c)) (λg hg hp hr aj=>by subst hr;rw[<-hp];exact asX aj hg) λv ad ah=>by subst ah;exact hR ad
theorem aby{row cQ to:Int}{q:aT}(h:bB w0 aR bs r w1)(hm:∀b∈bs,b<w1.heap.size)(hR:∀ad,bB w0 aR bs (oN r row cQ to q) ad->eC w0.heap.size (dY aR) bs w1 ad->R (.returned (.int .i64 (ra r row cQ to q))) ad):dH Tryz.prog X.G6 #[aR.ptr, .int .i64 row, .int .i64 cQ, .int .i64 to, .agg q.T] w1 R:=
 h.call (r':=oN r row cQ to q) hm (fC:=λv _=>v= .int .i64 (ra r row cQ to q)) (λg hg hp hr aj=>by subst hr;rw[<-hp];exact asT aj hg) λv ad ah=>by subst ah;exact hR ad
theorem RB{row:Int}{b:Bool}(h:bB w0 aR bs r w1)(hm:∀b∈bs,b<w1.heap.size)(hR:∀ad,bB w0 aR bs (mO r row b) ad->eC w0.heap.size (dY aR) bs w1 ad->R (.returned (.int .i64 (nW r row))) ad):dH Tryz.prog X.BV #[aR.ptr, .int .i64 row, .bool b] w1 R:=
 h.call (r':=mO r row b) hm (fC:=λv _=>v= .int .i64 (nW r row)) (λg hg hp hr aj=>by subst hr;rw[<-hp];exact afJ aj hg) λv ad ah=>by subst ah;exact hR ad
theorem RC{row ae n:Int}{q:aT}(h:bB w0 aR bs r w1)(hm:∀b∈bs,b<w1.heap.size)(hn: -1000000<=n/\n<=1000000)(hR:∀ad,bB w0 aR bs (mP r row ae n q) ad->eC w0.heap.size (dY aR) bs w1 ad->R (.returned (.int .i64 (pP r row ae n q))) ad):dH Tryz.prog X.D2 #[aR.ptr, .int .i64 row, .int .i64 ae, .int .i64 n, .agg q.T] w1 R:=
 h.call (r':=mP r row ae n q) hm (fC:=λv _=>v= .int .i64 (pP r row ae n q)) (λg hg hp hr aj=>by subst hr;rw[<-hp];exact as0 aj hg hn) λv ad ah=>by subst ah;exact hR ad
end
def gM(r:cc)(c:Cu):Prop:=0<=c.row/\c.row<r.ab.length/\0<=c.ae/\c.ae<r.ai/\(c.dC=true->c.ae=r.ai-1)
def nA(r:cc)(g:dz):Prop:=0<=g.bf/\g.bf<=g.b7/\g.b7<r.ab.length
section
variable{w0 w w' w1:World}{g aR:cV}{bs:List Nat}{r r':cc}{R:Ending->World->Prop}
theorem dA.ld(h:dA w g):1<=g.aC.ai/\g.aC.ai<=1000/\1<=g.aC.ab.length/\g.aC.ab.length<=1000:=⟨h.bY,h.c2,by simpa[cV.aC,bJ] using h.de,by simpa[cV.aC,bJ] using h.c1⟩
theorem bB.ld(h:bB w0 aR bs r w):1<=r.ai/\r.ai<=1000/\1<=r.ab.length/\r.ab.length<=1000:=by
 obtain⟨_,_,g,_,rfl,ca,_⟩:=h;exact ca.ld
theorem bB.pure{f:FuncId}{args:Array Value}{v:Value}(hp:Pure f args v)(h:bB w0 aR bs r w1)(hR:∀ad,bB w0 aR bs r ad->U bg w1 ad->R (.returned v) ad):dH Tryz.prog f args w1 R:=
 hp.aH h.1 λad hk _=>hR ad (h.O hk) hk
theorem cB.all{w:World}{lo:Nat}{ab:List (Nat×TypeId)}(h:cB w lo ab):∀b∈ab.map (·.1),b<w.heap.size:=λb hb=>h.lt hb
theorem UR{aq:dz}(aj:Laid w)(h:dA w g)(hr:nA g.aC aq):di X.I5 #[g.ptr, .agg aq.T] w (.int .i64 0):=by
 obtain⟨h1,h2,aw⟩:=hr;obtain⟨d1,j2,Bz,tA⟩:=h.ld;refine ayI _ aq λar ec w1 hb1 fb=>?_
 have bX:=(bB.start (bs:=[ar]) aj h (by simpa using ec)).below hb1;refine xU bX λad aX aI=>⟨_,rfl,aI.O,λe=>by omega,λ_ bw bp fN=>xU (aX.below bp) λbD cg bO=>⟨_,rfl,bO.O,λbP hb5 om=>bB.pure (aj' M M h1 h2 aw) (cg.below hb5) λcu eJ dK=>⟨_,rfl,dK.O,λe=>(nomatch e),λ_=>aa.of λ_=>rfl⟩⟩⟩
def p0(w0:World)(aR:cV)(bs:List Nat)(r:cc)(p:ao)(gs:List ck)(c:Nat)(w:World):Prop:=Laid w/\U (dY aR) w0 w/\∃g:cV,g.b=aR.b/\g.aC=r/\dA w g/\(∀i,dY g i->(dY aR i∨w0.heap.size<=i)/\i∉bs)/\dE w p gs.length c gs/\∀i,fA p gs i->(dY aR i∨w0.heap.size<=i)/\¬dY g i/\i∉bs
theorem p0.gs{p:ao}{gs:List ck}{c:Nat}(h:p0 w0 aR bs r p gs c w):bB w0 aR bs r w:=by
 obtain⟨h1,h2,g,aw,aZ,ca,dM,_⟩:=h;exact⟨h1,h2,g,aw,aZ,ca,dM⟩
theorem p0.O{p:ao}{gs:List ck}{c:Nat}(h:p0 w0 aR bs r p gs c w)(hk:U bg w w'):p0 w0 aR bs r p gs c w':=by
 obtain⟨h1,h2,g,aw,aZ,ca,dM,fM,gT⟩:=h;exact⟨Laid.O hk h1,h2.trans (hk.mono λ_ e=>e.elim),g,aw,aZ,ca.O hk,dM,fM.O hk,gT⟩
theorem p0.bQ{p:ao}{gs:List ck}{c:Nat}{e:Int}(h:p0 w0 aR bs r p gs c w)(hb:Below w.heap.size w w'):A_ w0 aR r (bJ gs) e (.tuple #[.slice p gs.length c, .int .i64 e]) w':=by
 obtain⟨h1,h2,g,aw,aZ,ca,dM,fM,gT⟩:=h.O (U.au hb);exact⟨p,c,gs,g,rfl,rfl,fM,aw,aZ,ca,λi hi=>(dM i hi).1,λi hi=>⟨(gT i hi).1,(gT i hi).2.1⟩⟩
theorem bB.none(h:bB w0 aR bs r w):p0 w0 aR bs r none [] 0 w:=by
 obtain⟨h1,h2,g,aw,aZ,ca,dM⟩:=h;exact⟨h1,h2,g,aw,aZ,ca,dM,dE.nil,λi hi=>absurd hi fA.nil⟩
theorem abD{f:FuncId}{args:Array Value}{gone:List Li}{e:Int}(h:bB w0 aR bs r w1)(hm:∀b∈bs,b<w1.heap.size)
  (hc:∀g:cV,dA w1 g->g.ptr=aR.ptr->g.aC=r->Laid w1->bI Tryz.prog f args w1 (dY g) (A_ w1 g r' gone e))
  (hR:∀p gs c ad,bJ gs=gone->p0 w0 aR bs r' p gs c ad->eC w0.heap.size (dY aR) bs w1 ad->R (.returned (.tuple #[.slice p gs.length c, .int .i64 e])) ad):dH Tryz.prog f args w1 R:=by
 obtain⟨h1,h2,g,aw,aZ,ca,dM⟩:=h;refine(hc g ca XE aZ h1).aH λv ad hk ⟨p,c,gs,aU,q0,q1,q2,cz,en,eB,qE,q7⟩=>?_
 subst q0;refine hR p gs c ad q1 ⟨?_,h2.after hk (λi hlt hi=>((dM i hi).1).resolve_right M),aU,cz.trans aw,en,eB,λi hi=>?_,q2,λi hi=>?_⟩ ?_
 ·exact h1.ax hk λi hi=>ca.low hi
 ·rcases qE i hi with q|q
  ·exact dM i q
  ·exact⟨.inr (ek h2.size q),λhb=>by have:=hm i hb;omega⟩
 ·obtain⟨a8,aK⟩:=q7 i hi
  rcases a8 with q|q
  ·exact⟨(dM i q).1,aK,(dM i q).2⟩
  ·exact⟨.inr (ek h2.size q),aK,λhb=>by have:=hm i hb;omega⟩
 ·exact hk.kept (λi hi hlt=>((dM i hi).1).resolve_right M) λi hi _=>(dM i hi).2
theorem G'{aq:dz}{n:Int}{q:aT}(h:bB w0 aR bs r w1)(hm:∀b∈bs,b<w1.heap.size)(hn: -1000000<=n/\n<=1000000)(hR:∀p gs c ad,bJ gs=vw r aq n q->p0 w0 aR bs (kW r aq n q) p gs c ad->eC w0.heap.size (dY aR) bs w1 ad->R (.returned (.tuple #[.slice p gs.length c, .int .i64 (qG r aq q)])) ad):dH Tryz.prog X.zq #[aR.ptr, .agg aq.T, .int .i64 n, .agg q.T] w1 R:=
 abD (r':=kW r aq n q) (gone:=vw r aq n q) (e:=qG r aq q) h hm (λg hg hp hr aj=>by subst hr;rw[<-hp];exact asY aj hg hn) hR
theorem Ff{aq:dz}{q:aT}(hr:nA r aq)(hq:ea (ed q)=true):qG r aq q=0:=by
 obtain⟨h1,h2,aw⟩:=hr;unfold qG;rw[ag M,ag (by rw[hq];simp)]
theorem agk{aq:dz}{q:aT}:kW r aq 0 q=r:=by simp[kW]
def yS(r:cc)(aq:dz)(n:Int)(q:aT):List Li:=if 0<aq.bf then[] else vw r aq n q
theorem afY{aq:dz}{n:Int}{p:aT}(aj:Laid w)(h:dA w g)(hr:nA g.aC aq)(hq:ea (ed p)=true)(aW:0<=n)(hn:n<=1000000):bI Tryz.prog X.NK #[g.ptr, .agg aq.T, .int .i64 n, .agg p.T] w (dY g) (A_ w g (kW g.aC aq n p) (yS g.aC aq n p) 0):=by
 refine ayF _ aq n p λar ec aQ gA w1 hb1 fb=>?_
 have bX:=(bB.start (bs:=[ar,aQ]) aj h ej).below hb1;refine bX.ret (λaU a b c d=>by have:=UR (aq:=aq) d a Dn;rw[b] at this;exact this) λad aX aI=>⟨_,rfl,aI.O,λe=>absurd rfl e,λ_=>⟨λe=>by omega,λ_ bw bp fN=>?_⟩⟩
 refine G' (aX.below bp) (cB.all fN) M λcq gs c bD hl cg bO=>⟨_,_,_,_,rfl,bO,λe=>absurd (Ff hr hq) e,λ_=>⟨λht w' hb _=>?_,λht w' hb _=>?_⟩⟩
 ·rw[Ff hr hq]
  have:=cg.gs.none.bQ (e:=0) hb;unfold yS;rw[aA ht];exact this
 ·have:=cg.bQ (e:=0) hb
  unfold yS;rw[ag M,<-hl];exact this
theorem afX{aq:dz}{n:Int}{p:aT}(aj:Laid w)(h:dA w g)(hr:nA g.aC aq)(hq:ea (ed p)=true)(aW:0<=n)(hn:n<=1000000):bI Tryz.prog X.NJ #[g.ptr, .agg aq.T, .int .i64 n, .agg p.T] w (dY g) (λv w'=>v= .int .i64 0/\iS w g (kW g.aC aq (0-n) p) w'):=by
 refine ayB _ aq n p λar ec aQ gA w1 hb1 fb=>?_
 have bX:=(bB.start (bs:=[ar,aQ]) aj h ej).below hb1;refine bX.ret (λaU a b c d=>by have:=UR (aq:=aq) d a Dn;rw[b] at this;exact this) λad aX aI=>⟨_,rfl,aI.O,λe=>absurd rfl e,λ_=>⟨λe=>by omega,λ_=>⟨by unfold ay;omega,λbw bp fN=>?_⟩⟩⟩
 refine G' (aX.below bp) (cB.all fN) M λcq gs c bD hl cg bO=>⟨_,_,_,_,rfl,bO,λw' hb _=>⟨by rw[Ff hr hq],cg.gs.bQ hb⟩⟩
theorem afZ{aq:dz}{c:Cu}{p:aT}(aj:Laid w)(h:dA w g)(hr:nA g.aC aq)(hc:gM g.aC c)(hq:ea (ed p)=true):bI Tryz.prog X.NL #[g.ptr, .agg aq.T, .agg c.T, .agg p.T] w (dY g) (λv w'=>v= .int .i64 0/\iS w g g.aC w'):=by
 obtain⟨bY,c2,c3,c4,c5⟩:=hc;obtain⟨d1,j2,Bz,tA⟩:=h.ld;refine ayH _ aq c p λar ec aQ gA cH jJ w1 hb1 fb=>?_
 have bX:=(bB.start (bs:=[ar,aQ,cH]) aj h ej).below hb1;refine bX.ret (λaU a b c d=>by have:=UR (aq:=aq) d a Dn;rw[b] at this;exact this) λad aX aI=>⟨_,rfl,aI.O,λe=>absurd rfl e,λ_=>⟨λe=>by omega,λ_ bw bp fN=>?_⟩⟩
 refine xU (aX.below bp) λbD cg bO=>⟨_,rfl,bO.O,λe=>by omega,λ_=>⟨λe=>by omega,λ_ bP hb5 om=>?_⟩⟩
 refine qg (cg.below hb5) λcu eJ dK=>⟨_,rfl,dK.O,λe=>by omega,λ_=>⟨λe w7 c8 mh=>?_,λe w7 c8 mh=>?_⟩⟩
 ·refine qg (eJ.below c8) λcW eP br=>⟨_,rfl,br.O,by unfold ay;omega,λe2=>absurd (c5 e) e2,λ_ cR cr dO=>?_⟩
  refine G' (eP.below cr) (cB.all dO) M λcq gs c bD hl cg bO=>⟨_,_,_,_,rfl,bO,λw' hb _=>⟨by rw[Ff hr hq],by have:=cg.gs.bQ hb;rwa[agk] at this⟩⟩
 ·refine G' (eJ.below c8) (cB.all mh) M λcq gs c bD hl cg bO=>⟨_,_,_,_,rfl,bO,λw' hb _=>⟨by rw[Ff hr hq],by have:=cg.gs.bQ hb;rwa[agk] at this⟩⟩
end
section
variable{w0 w w' w1:World}{g aR:cV}{bs:List Nat}{r r':cc}{R:Ending->World->Prop}
def Zf(w:World)(g:cV)(r:cc)(gone:List Li)(mk:Option Addr->Nat->Nat->Value)(u:Value)(v:World):Prop:=∃fG c3 gs,∃aU:cV,u=mk fG gs.length c3/\bJ gs=gone/\dE v fG gs.length c3 gs/\aU.b=g.b/\aU.aC=r/\dA v aU/\(∀i,dY aU i->dY g i∨w.heap.size<=i)/\∀i,fA fG gs i->(dY g i∨w.heap.size<=i)/\¬dY aU i
theorem p0.agr{p:ao}{gs:List ck}{c:Nat}{mk:Option Addr->Nat->Nat->Value}(h:p0 w0 aR bs r p gs c w)(hb:U bg w w'):Zf w0 aR r (bJ gs) mk (mk p gs.length c) w':=by
 obtain⟨h1,h2,g,aw,aZ,ca,dM,fM,gT⟩:=h.O hb;exact⟨p,c,gs,g,rfl,rfl,fM,aw,aZ,ca,λi hi=>(dM i hi).1,λi hi=>⟨(gT i hi).1,(gT i hi).2.1⟩⟩
theorem p0.ext{p:ao}{gs:List ck}{c:Nat}(h:p0 w0 aR bs r p gs c w){cf:List Nat}(he:dV w cf w')(hd:∀d∈cf,d∈bs)(fa:∀b∈bs,w0.heap.size<=b)(hY:Y.dZ<=w0.heap.size):p0 w0 aR bs r p gs c w':=by
 obtain⟨h1,h2,g,aw,aZ,ca,dM,fM,gT⟩:=h;have hk:=dV.ax he;have u6:∀i,i∈cf->w0.heap.size<=i:=λi hi=>fa i (hd i hi)
 exact⟨h1.ax hk λi hi=>ek hY (u6 i hi),h2.after hk λi hlt hi=>by have:=u6 i hi;omega,g,aw,aZ,ca.ax hk λi hi bk=>(dM i bk).2 (hd i hi),dM,fM.ax hk λi hi bk=>(gT i bk).2.2 (hd i hi),gT⟩
def kR(r:cc)(aq:dz)(c:Cu):Cu:=if c.row=aq.b7 then⟨c.row,c.ae,false⟩ else⟨min (c.row+1) (r.ab.length-1),c.ae,false⟩
def sG(r:cc)(aq:dz)(c:Cu)(p:aT):cc:=if c.row=aq.b7 then kW r aq 1 p else r
def sH(r:cc)(aq:dz)(c:Cu)(p:aT):List Li:=if c.row=aq.b7 then yS r aq 1 p else[]
theorem aty{aq:dz}{c:Cu}{p:aT}(aj:Laid w)(h:dA w g)(hr:nA g.aC aq)(hc:gM g.aC c)(hq:ea (ed p)=true):bI Tryz.prog X.U1 #[g.ptr, .agg aq.T, .agg c.T, .agg p.T] w (dY g)
  (Zf w g (sG g.aC aq c p) (sH g.aC aq c p) λq n k=> .tuple #[.agg (kR g.aC aq c).T, .slice q n k, .int .i64 0]):=by
 have hd:=h.ld;have hc':=hc;obtain⟨bY,c2,c3,c4,c5⟩:=hc';refine ayC _ aq c p λar ec aQ gA cH jJ eO sv w1 hb1 fb=>?_
 have bX:=(bB.start (bs:=[ar,aQ,cH,eO]) aj h ej).below hb1;refine bX.call (fC:=λv _=>v= .int .i64 0) (r':=g.aC) (cB.all fb) (λaU a b c d=>by have:=afZ (aq:=aq) d a Dn (by rw[c];exact hc) hq;rw[b,c] at this;exact this) λv ad ah aX aI=>⟨0,by rw[ah],aI,λe=>absurd rfl e,λ_ fv zK=>?_⟩
 have I9:=aX.cZ zK;have ic:∀b∈[ar,aQ,cH,eO,fv],w.heap.size<=b:=by have:=aX.2.1.size;simp;omega
 refine⟨λe cu ep oX=>?_,λe=>⟨by unfold ay;omega,λbw bp fN=>?_⟩⟩
 ·refine abD (r':=kW g.aC aq 1 p) (gone:=yS g.aC aq 1 p) (e:=0) (bs:=[ar,aQ,cH,eO,fv]) (I9.below ep) (cB.all oX) (λaU a b c d=>by have:=afY (aq:=aq) (n:=1) (p:=p) d a Dn hq M M;rw[b,c] at this;exact this) λcq gs k w7 hl jv e_=>⟨_,_,_,_,rfl,e_,λw' he _=>?_⟩
  have:=(jv.ext he aS ic aj.size).agr (mk:=λq n k=> .tuple #[.agg (kR g.aC aq c).T, .slice q n k, .int .i64 0]) (U.refl _ _);rw[hl] at this;unfold sG sH;rw[aA e,aA e];have e2:kR g.aC aq c=⟨c.row,c.ae,false⟩:=aA e;rw[e2] at this⊢;exact this
 ·refine xU (bs:=[ar,aQ,cH,eO,fv]) (I9.below bp) λbD cg bO=>⟨_,rfl,bO.O,by unfold ay;omega,λw' he _=>?_⟩
  have:=(cg.none.ext he aS ic aj.size).agr (mk:=λq n k=> .tuple #[.agg (kR g.aC aq c).T, .slice q n k, .int .i64 0]) (U.refl _ _);unfold sG sH;rw[ag e,ag e];have e2:kR g.aC aq c=⟨min (c.row+1) (g.aC.ab.length-1),c.ae,false⟩:=ag e;rw[e2] at this⊢;exact this
def yE(aq:dz)(c:Cu):Cu:=if c.row=aq.bf then⟨c.row,c.ae,false⟩ else⟨max 0 (c.row-1),c.ae,false⟩
def Ah(r:cc)(aq:dz)(c:Cu)(p:aT):cc:=if c.row=aq.bf then kW r aq (0-1) p else r
theorem atz{aq:dz}{c:Cu}{p:aT}(aj:Laid w)(h:dA w g)(hr:nA g.aC aq)(hc:gM g.aC c)(hq:ea (ed p)=true):bI Tryz.prog X.U2 #[g.ptr, .agg aq.T, .agg c.T, .agg p.T] w (dY g)
  (λv w'=>v= .tuple #[.agg (yE aq c).T, .int .i64 0]/\iS w g (Ah g.aC aq c p) w'):=by
 have hd:=h.ld;have hc':=hc;obtain⟨bY,c2,c3,c4,c5⟩:=hc';refine ayD _ aq c p λar ec aQ gA cH jJ eO sv w1 hb1 fb=>?_
 have bX:=(bB.start (bs:=[ar,aQ,cH,eO]) aj h ej).below hb1;refine bX.call (fC:=λv _=>v= .int .i64 0) (r':=g.aC) (cB.all fb) (λaU a b c d=>by have:=afZ (aq:=aq) d a Dn (by rw[c];exact hc) hq;rw[b,c] at this;exact this) λv ad ah aX aI=>⟨0,by rw[ah],aI,λe=>absurd rfl e,λ_ fv zK=>?_⟩
 have I9:=aX.cZ zK;have ic:∀b∈[ar,aQ,cH,eO,fv],w.heap.size<=b:=by have:=aX.2.1.size;simp;omega
 refine⟨λe cu ep oX=>?_,λe=>⟨by unfold ay;omega,λw' he _=>?_⟩⟩
 ·refine bB.call (r':=kW g.aC aq (0-1) p) (fC:=λv _=>v= .int .i64 0) (bs:=[ar,aQ,cH,eO,fv]) (I9.below ep) (cB.all oX) (λaU a b c d=>by have:=afX (aq:=aq) (n:=1) (p:=p) d a Dn hq M M;rw[b,c] at this;exact this) λv w7 ah jv e_=>⟨0,by rw[ah],e_,λw' he _=>⟨?_,?_⟩⟩
  ·rw[yE,aA e]
  ·have:=(jv.none.ext he aS ic aj.size).gs.bQ (Below.refl _ _)
   rwa[Ah,aA e]
 ·refine⟨?_,?_⟩
  ·rw[yE,ag e]
  ·have:=(I9.none.ext he aS ic aj.size).gs.bQ (Below.refl _ _)
   rwa[Ah,ag e]
end
variable{w0:World}{F:Nat->Prop}{Q:Value->World->Prop}
theorem axq(g:Addr)(c:Cu)(p:aT)(h:aG w0 λa=>aG w0 λb=>a7 w0 F [a,b] w0 [(a,G.bR),(b,G.b_)] X.oQ #[al g] D λf i=>a' i 0 (aa w0 F f Q (D 1)) (bG c.row 0 (aa w0 F f Q (D 2)) (a7 w0 F [a,b] f [(a,G.bR),(b,G.b_)] X.oQ #[al g] D λl m=>dX m c.row (aa w0 F l Q (D 2)) (bG c.ae 0 (aa w0 F l Q (D 2)) (a7 w0 F [a,b] l [(a,G.bR),(b,G.b_)] X.mf #[al g] D λq r=>dX r c.ae (aa w0 F q Q (D 2)) (dQ c.dC (a7 w0 F [a,b] q [(a,G.bR),(b,G.b_)] X.mf #[al g] D λu v=>ay (v-1)/\(c.ae≠(v-1)->aa w0 F u Q (D 2))/\(c.ae=(v-1)->∀x:World,YS w0 F Q u x [(a,G.bR),(b,G.b_)] p [a,b])) (∀s:World,YS w0 F Q q s [(a,G.bR),(b,G.b_)] p [a,b]))))))):aO X.GU #[al g, .agg c.T, .agg p.T] w0 F Q:=bh [.aY g 0, .agg (Cu.bN.enc c), .agg (aT.bN.enc p)] h
theorem axp(g:Addr)(row cQ to:Int)(p:aT)(h:aG w0 λa=>a7 w0 F [a] w0 [(a,G.b_)] X.G6 #[al g,D row,D cQ,D to, .agg p.T] D λd e=>i' w0 F Q e d/\(e=0->bG cQ to (a7 w0 F [a] d [(a,G.b_)] X.mf #[al g] D λj k=>a' to k (cC w0 j [(a,G.b_)] X.BV #[al g,D row, .bool false] λl m n=>fW w0 F Q m [a] l n) (aa w0 F j Q (D 0))) (aa w0 F d Q (D 0)))):aO X.BI #[al g,D row,D cQ,D to, .agg p.T] w0 F Q:=bh [.aY g 0,cn row,cn cQ,cn to, .agg (aT.bN.enc p)] h
theorem axr(g:Addr)(c:Cu)(what:Int)(h:aG w0 λa=>a' what 0 (a7 w0 F [a] w0 [(a,G.bR)] X.mf #[al g] D λe f=>aa w0 F e Q (.tuple #[D c.ae,D f, .bool false, .bool true])) (a' what 1 (ay (c.ae+1)/\aa w0 F w0 Q (.tuple #[D 0,D (c.ae+1), .bool true, .bool false])) (a7 w0 F [a] w0 [(a,G.bR)] X.mf #[al g] D λe f=>aa w0 F e Q (.tuple #[D 0,D f, .bool true, .bool true])))):aO X.GV #[al g, .agg c.T,D what] w0 F Q:=bh [.aY g 0, .agg (Cu.bN.enc c),cn what] h
theorem axn(g:Addr)(c:Cu)(what:Int)(p:aT)(h:aG w0 λa=>aG w0 λb=>a7 w0 F [a,b] w0 [(a,G.bR),(b,G.b_)] X.GU #[al g, .agg c.T, .agg p.T] D λf i=>i' w0 F Q i f/\(i=0->bG what 0 (aa w0 F f Q (D 2)) (bG 2 what (aa w0 F f Q (D 2)) (cC w0 f [(a,G.bR),(b,G.b_)] X.GV #[al g, .agg c.T,D what] λj k l=>∃m n:Int,∃o q:Bool,bW k (.tuple #[D m,D n, .bool o, .bool q]) w0 F [a,b] j l (cC w0 l [(a,G.bR),(b,G.b_)] X.BI #[al g,D c.row,D m,D n, .agg p.T] λr s t=>fW w0 F Q s [a,b] r t))))):aO X.GS #[al g, .agg c.T,D what, .agg p.T] w0 F Q:=bh [.aY g 0, .agg (Cu.bN.enc c),cn what, .agg (aT.bN.enc p)] h
theorem axo(g:Addr)(c:Cu)(what:Int)(p:aT)(h:aG w0 λa=>aG w0 λb=>a7 w0 F [a,b] w0 [(a,G.bR),(b,G.b_)] X.GS #[al g, .agg c.T,D what, .agg p.T] D λf i=>i' w0 F Q i f/\(i=0->cC w0 f [(a,G.bR),(b,G.b_)] X.GV #[al g, .agg c.T,D what] λj k l=>∃m n:Int,∃o q:Bool,bW k (.tuple #[D m,D n, .bool o, .bool q]) w0 F [a,b] j l (a7 w0 F [a,b] l [(a,G.bR),(b,G.b_)] X.oQ #[al g] D λt u=>∃v:Int->World->Prop,∃x:Int->Nat,(bm t λy=>v 0 y)/\∀y:Int,∀z:World,U F w0 z->v y z->bG y u (bG y c.row (dQ o (∀A:World,Pv w0 F Q z A [(a,G.bR),(b,G.b_)] g [a,b] y p v x) (bG c.row y (dQ q (∀A:World,Pv w0 F Q z A [(a,G.bR),(b,G.b_)] g [a,b] y p v x) (ji y z v x)) (ji y z v x))) (bG c.row y (dQ q (∀A:World,Pv w0 F Q z A [(a,G.bR),(b,G.b_)] g [a,b] y p v x) (ji y z v x)) (ji y z v x))) (aa w0 F z Q (D 0))))):aO X.Rl #[al g, .agg c.T,D what, .agg p.T] w0 F Q:=eV [⟨6,[35],[]⟩] [] [.aY g 0, .agg (Cu.bN.enc c),cn what, .agg (aT.bN.enc p)] h
theorem axm(g:Addr)(c:Cu)(n:Int)(p:aT)(h:aG w0 λa=>aG w0 λb=>a7 w0 F [a,b] w0 [(a,G.bR),(b,G.b_)] X.GU #[al g, .agg c.T, .agg p.T] D λf i=>i' w0 F Q i f/\(i=0->bG n 0 (aa w0 F f Q (D 2)) (a7 w0 F [a,b] f [(a,G.bR),(b,G.b_)] X.mf #[al g] D λl m=>ay (m-c.ae)/\ay (c.ae+(min n (m-c.ae)))/\cC w0 l [(a,G.bR),(b,G.b_)] X.BI #[al g,D c.row,D c.ae,D (c.ae+(min n (m-c.ae))), .agg p.T] λo q r=>fW w0 F Q q [a,b] o r))):aO X.Rk #[al g, .agg c.T,D n, .agg p.T] w0 F Q:=bh [.aY g 0, .agg (Cu.bN.enc c),cn n, .agg (aT.bN.enc p)] h
theorem ayz(g:Addr)(c:Cu)(h:aG w0 λa=>a7 w0 F [a] w0 [(a,G.bR)] X.oQ #[al g] D λe f=>a' f 0 (aa w0 F e Q (D 1)) (bG c.row 0 (aa w0 F e Q (D 2)) (a7 w0 F [a] e [(a,G.bR)] X.oQ #[al g] D λk l=>dX l c.row (aa w0 F k Q (D 2)) (bG c.ae 0 (aa w0 F k Q (D 2)) (a7 w0 F [a] k [(a,G.bR)] X.mf #[al g] D λo p=>dX p c.ae (aa w0 F o Q (D 2)) (dQ c.dC (a7 w0 F [a] o [(a,G.bR)] X.mf #[al g] D λs t=>ay (t-1)/\(c.ae≠(t-1)->aa w0 F s Q (D 2))/\(c.ae=(t-1)->aa w0 F s Q (D 0))) (aa w0 F o Q (D 0)))))))):aO X.E0 #[al g, .agg c.T] w0 F Q:=bh [.aY g 0, .agg (Cu.bN.enc c)] h
theorem ayA(g:Addr)(c:Cu)(QV:Int)(auto:Bool)(h:aG w0 λa=>a7 w0 F [a] w0 [(a,G.bR)] X.mf #[al g] D λe f=>ay (f-1)/\(auto=true->dQ c.dC (aa w0 F e Q (.bool true)) (a' QV 2 (bG 0 (f-1) (aa w0 F e Q (.bool (bL.val (.eq c.ae (f-1))))) (aa w0 F e Q (.bool false))) (aa w0 F e Q (.bool false))))/\jW w0 F Q auto e):aO X.IY #[al g, .agg c.T,D QV, .bool auto] w0 F Q:=bh [.aY g 0, .agg (Cu.bN.enc c),cn QV, .bool (bL.ok auto)] h
theorem ayy(g:Addr)(c:Cu)(r:Int)(auto:Bool)(h:aG w0 λa=>a7 w0 F [a] w0 [(a,G.bR)] X.E0 #[al g, .agg c.T] D λe f=>DA w0 F Q f e/\(f=0->a7 w0 F [a] e [(a,G.bR)] X.uw #[.int .i32 r] D λk l=>bG l 1 (aa w0 F k Q (.tuple #[.bool false,D 2])) (a7 w0 F [a] k [(a,G.bR)] X.IY #[al g, .agg c.T,D l, .bool auto] .bool λo p=>aa w0 F o Q (.tuple #[.bool p,D 0])))):aO X.UD #[al g, .agg c.T, .int .i32 r, .bool auto] w0 F Q:=bh [.aY g 0, .agg (Cu.bN.enc c), .int .i32 r, .bool (bL.ok auto)] h
theorem ahx(m:Md)(pre n:Int)(h:Yn w0 F Q m pre n []):aO X.MO #[.agg m.T, .int .i32 pre,D n] w0 F Q:=bh [.agg (Md.bN.enc m), .int .i32 pre,cn n] h
theorem axX(m:Md)(pre n:Int)(on:Bool)(h:aG w0 λa=>aG w0 λb=>a7 w0 F [a,b] w0 [(a,G.h_),(b,G.h_)] X.MQ #[.agg m.T] .bool λe f=>gL f (bn w0 F e [b] Q (.tuple #[.agg #[.bool false, .bool false, .bool false, .bool false, .bool false, .bool false, .bool false,D 0,D 0],D 2])) (bm e λg=>Py w0 a g m->w0.heap.size<=b/\Whole g b G.h_ [.bool false, .bool false, .bool false, .bool false, .bool false, .bool false, .bool false,D 0,D 0]->List.Nodup [a,b]->ia X.MR #[ij a, .int .i32 pre,D n, .bool on] g λi j=>∃k:Bool,bW i (.bool k) w0 F [b] g j (∃l:Md,Whole j a G.h_ l.T.toList/\gL k (bn w0 F j [b] Q (.tuple #[.agg #[.bool false, .bool false, .bool false, .bool false, .bool false, .bool false, .bool false,D 0,D 0],D 9])) (bn w0 F j [b] Q (.tuple #[.agg l.T,D 0]))))):aO X.T_ #[.agg m.T, .int .i32 pre,D n, .bool on] w0 F Q:=bh [.agg (Md.bN.enc m), .int .i32 pre,cn n, .bool (bL.ok on)] h
end Go.Proofs.YtimbpmnbbfeogaaGreatDoor
namespace Go.Proofs.YtimbpmnbbfeogaaGreatDoor
open Go Go.RowKit Go.Sy Go.Rep
section
variable{w0 w w' w1:World}{g aR:cV}{bs:List Nat}{r r':cc}{R:Ending->World->Prop}
theorem bB.q5(hb:Below w.heap.size w w')(h:bB w0 aR bs r w):bB w0 aR bs r w':=h.below hb
theorem bB.iy{n:Nat}(hn:w.heap.size<=n)(h:bB w0 aR bs r w):bB w0 aR (bs++[n]) r w:=h.cZ hn
theorem bB.oP{cf:List Nat}(he:dV w cf w')(h:bB w0 aR bs r w)(hd:∀d∈cf,d∈bs)(fa:∀b∈bs,w0.heap.size<=b)(hY:Y.dZ<=w0.heap.size):bB w0 aR bs r w':=(h.none.ext he hd fa hY).gs
theorem QQ{row cQ to:Int}{q:aT}:(oN r row cQ to q).ai=r.ai:=by unfold oN;split<;>rfl
theorem KW{row cQ to:Int}{q:aT}:(oN r row cQ to q).ab.length=r.ab.length:=by unfold oN;split<;>simp[wh]
theorem agY{row:Int}{b:Bool}:(mO r row b).ai=r.ai:=by unfold mO;split<;>rfl
theorem V5{row:Int}{b:Bool}:(mO r row b).ab.length=r.ab.length:=by unfold mO;split<;>simp[FB]
theorem ar'{row ae:Int}{c:bC}:(nj r row ae c).ai=r.ai:=by unfold nj;split<;>rfl
theorem av1{row ae n:Int}{q:aT}:(mP r row ae n q).ai=r.ai:=by unfold mP;split<;>rfl
theorem ag7{row ae n:Int}{q:aT}:(mP r row ae n q).ab.length=r.ab.length:=by unfold mP;split<;>simp[wh]
theorem Jq{row:Int}(h1:0<=row)(h2:row<r.ab.length):nW r row=0:=by unfold nW;rw[ag M]
theorem Qd{row ae:Int}(h1:0<=row)(h2:row<r.ab.length)(aw:0<=ae)(aZ:ae<r.ai):nE r row ae=0:=by unfold nE;rw[Jq h1 h2,ag M]
theorem aam{row cQ to:Int}{q:aT}(h1:0<=row)(h2:row<r.ab.length)(aw:0<=cQ)(aZ:cQ<=to)(ca:to<=r.ai)(hq:ea (ed q)=true):ra r row cQ to q=0:=by
 unfold ra;rw[Jq h1 h2,ag aS,ag M,ag (by rw[hq];simp)]
def p_(r:cc)(row cQ to:Int)(p:aT):cc:=if cQ<to/\to=r.ai then mO (oN r row cQ to p) row false else oN r row cQ to p
theorem aag{row cQ to:Int}{q:aT}:(p_ r row cQ to q).ai=r.ai:=by unfold p_;split<;>simp[agY,QQ]
theorem aah{row cQ to:Int}{q:aT}:(p_ r row cQ to q).ab.length=r.ab.length:=by unfold p_;split<;>simp[V5,KW]
theorem asP{c:Cu}{p:aT}(aj:Laid w)(h:dA w g)(hc:gM g.aC c)(hp:ea (ed p)=true):di X.GU #[g.ptr, .agg c.T, .agg p.T] w (.int .i64 0):=by
 have hd:=h.ld;obtain⟨bY,c2,c3,c4,c5⟩:=hc;refine axq _ c p ?_;intro ar ec;intro aQ gA;have aN:=bB.start (bs:=[ar,aQ]) aj h s7;have hY:=aj.size;have fa:∀b∈[ar,aQ],w.heap.size<=b:=by simp;try omega
 repeat' (first|(with_reducible refine And.intro ?_ ?_)|(intro cR cr dO;have fl:=bB.q5 cr cx;have ku:=cB.all dO)|(intro cR cr dO;have fl:=bB.oP cr cx aS rT hY;have ku:=cB.all dO)|(intro j5 jc;have fl:=bB.iy jc cx)|(refine xU cx (λcW eP br=>?_);first|refine⟨_,rfl,br.O,?_⟩|refine⟨_,_,rfl,br.O,?_⟩|refine⟨_,_,_,_,rfl,br.O,?_⟩)|(refine qg cx (λcW eP br=>?_);first|refine⟨_,rfl,br.O,?_⟩|refine⟨_,_,rfl,br.O,?_⟩|refine⟨_,_,_,_,rfl,br.O,?_⟩)|(refine bB.pure v_ cx (λcW eP br=>?_);first|refine⟨_,rfl,br.O,?_⟩|refine⟨_,_,rfl,br.O,?_⟩|refine⟨_,_,_,_,rfl,br.O,?_⟩)|(refine bB.pure zg cx (λcW eP br=>?_);first|refine⟨_,rfl,br.O,?_⟩|refine⟨_,_,rfl,br.O,?_⟩|refine⟨_,_,_,_,rfl,br.O,?_⟩)|(refine aa.of λ_=>?_)|(with_reducible intro _))
 all_goals first|(unfold ay;omega)|omega|(exfalso;first|omega|contradiction)|rfl|(exfalso;(simp_all;done))|(first|rfl|(simp[cF,cD,cb,cv,cG, *];done)|grind [cF,cD,cb,cv,cG])
theorem abB{c:Cu}{p:aT}(h:bB w0 aR bs r w1)(hc:gM r c)(hp:ea (ed p)=true)(hR:∀ad,bB w0 aR bs r ad->U bg w1 ad->R (.returned (.int .i64 0)) ad):dH Tryz.prog X.GU #[aR.ptr, .agg c.T, .agg p.T] w1 R:=
 h.ret (λg qm oZ qt qj=>by subst qt;rw[<-oZ];exact asP qj qm hc hp) hR
theorem asO{row cQ to:Int}{p:aT}(aj:Laid w)(h:dA w g)(h1:0<=row)(h2:row<g.aC.ab.length)(aw:0<=cQ)(aZ:cQ<=to)(ca:to<=g.aC.ai)(hp:ea (ed p)=true):bI Tryz.prog X.BI #[g.ptr, .int .i64 row, .int .i64 cQ, .int .i64 to, .agg p.T] w (dY g) (λv w'=>v= .int .i64 0/\iS w g (p_ g.aC row cQ to p) w'):=by
 have hd:=h.ld;have e0:=aam h1 h2 aw aZ ca hp;have e1:nW (oN g.aC row cQ to p) row=0:=Jq h1 (by rw[KW];exact h2);have e2:(oN g.aC row cQ to p).ai=g.aC.ai:=QQ;refine axp _ row cQ to p ?_;intro ar ec;have aN:=bB.start (bs:=[ar]) aj h s7;have hY:=aj.size;have fa:∀b∈[ar],w.heap.size<=b:=by simp;try omega
 repeat' (first|(with_reducible refine And.intro ?_ ?_)|(intro cR cr dO;have fl:=bB.q5 cr cx;have ku:=cB.all dO)|(intro cR cr dO;have fl:=bB.oP cr cx aS rT hY;have ku:=cB.all dO)|(intro j5 jc;have fl:=bB.iy jc cx)|(refine aby cx cx (λcW eP br=>?_);first|refine⟨_,rfl,br,?_⟩|refine⟨_,_,rfl,br,?_⟩|refine⟨_,_,_,_,rfl,br,?_⟩)|(refine qg cx (λcW eP br=>?_);first|refine⟨_,rfl,br.O,?_⟩|refine⟨_,_,rfl,br.O,?_⟩|refine⟨_,_,_,_,rfl,br.O,?_⟩)|(refine RB cx cx (λcW eP br=>?_);first|refine⟨_,rfl,br,?_⟩|refine⟨_,_,rfl,br,?_⟩|refine⟨_,_,_,_,rfl,br,?_⟩)|(with_reducible intro _))
 all_goals first|(unfold ay;omega)|omega|(exfalso;first|omega|contradiction)|(intro w7 c8 _;refine⟨by first|rfl|(simp only[e0,e1];done),?_⟩;have q:=bB.bQ cx c8;unfold p_;first|rw[aA M];exact q|rw[ag M];exact q)|rfl|(exfalso;(simp_all;done))|(intro w7 c8 _;refine⟨?_,?_⟩<;>first|rfl|(have q:=bB.bQ cx c8;exact q)|(have q:=bB.bQ cx c8;simpa[*] using q)|(simp[*];done)|grind)
theorem RD{row cQ to:Int}{p:aT}(h:bB w0 aR bs r w1)(hm:∀b∈bs,b<w1.heap.size)(h1:0<=row)(h2:row<r.ab.length)(aw:0<=cQ)(aZ:cQ<=to)(ca:to<=r.ai)(hp:ea (ed p)=true)(hR:∀ad,bB w0 aR bs (p_ r row cQ to p) ad->eC w0.heap.size (dY aR) bs w1 ad->R (.returned (.int .i64 0)) ad):dH Tryz.prog X.BI #[aR.ptr, .int .i64 row, .int .i64 cQ, .int .i64 to, .agg p.T] w1 R:=
 h.call (r':=p_ r row cQ to p) hm (fC:=λv _=>v= .int .i64 0) (λg qm oZ qt qj=>by subst qt;rw[<-oZ];exact asO qj qm h1 h2 aw aZ ca hp) λv ad ah=>by subst ah;exact hR ad
theorem asQ{c:Cu}{what:Int}(aj:Laid w)(h:dA w g)(hc:gM g.aC c):di X.GV #[g.ptr, .agg c.T, .int .i64 what] w (.tuple #[.int .i64 (if what=0 then c.ae else 0), .int .i64 (if what=1 then c.ae+1 else g.aC.ai), .bool (decide (what≠0)), .bool (decide (what≠1))]):=by
 have hd:=h.ld;obtain⟨bY,c2,c3,c4,c5⟩:=hc;refine axr _ c what ?_;intro ar ec;have aN:=bB.start (bs:=[ar]) aj h s7;have hY:=aj.size;have fa:∀b∈[ar],w.heap.size<=b:=by simp;try omega
 repeat' (first|(with_reducible refine And.intro ?_ ?_)|(intro cR cr dO;have fl:=bB.q5 cr cx;have ku:=cB.all dO)|(intro cR cr dO;have fl:=bB.oP cr cx aS rT hY;have ku:=cB.all dO)|(intro j5 jc;have fl:=bB.iy jc cx)|(refine qg cx (λcW eP br=>?_);first|refine⟨_,rfl,br.O,?_⟩|refine⟨_,_,rfl,br.O,?_⟩|refine⟨_,_,_,_,rfl,br.O,?_⟩)|(refine aa.of λ_=>?_)|(with_reducible intro _))
 all_goals first|(unfold ay;omega)|omega|(exfalso;first|omega|contradiction)|rfl|(exfalso;(simp_all;done))|(first|rfl|(simp[cF,cD,cb,cv,cG, *];done)|grind [cF,cD,cb,cv,cG])
theorem abC{c:Cu}{what:Int}(h:bB w0 aR bs r w1)(hc:gM r c)(hR:∀ad,bB w0 aR bs r ad->U bg w1 ad->R (.returned (.tuple #[.int .i64 (if what=0 then c.ae else 0), .int .i64 (if what=1 then c.ae+1 else r.ai), .bool (decide (what≠0)), .bool (decide (what≠1))])) ad):dH Tryz.prog X.GV #[aR.ptr, .agg c.T, .int .i64 what] w1 R:=
 h.ret (λg qm oZ qt qj=>by subst qt;rw[<-oZ];exact asQ qj qm hc) hR
end
section
variable{w0 w w' w1:World}{g aR:cV}{bs:List Nat}{r r':cc}{R:Ending->World->Prop}
def arS(c:Cu)(what:Int):Int:=if what=0 then c.ae else 0
def arT(r:cc)(c:Cu)(what:Int):Int:=if what=1 then c.ae+1 else r.ai
def vk(r:cc)(c:Cu)(what:Int)(p:aT):cc:=p_ r c.row (arS c what) (arT r c what) p
theorem aqB{c:Cu}{what:Int}{p:aT}:(vk r c what p).ai=r.ai:=aag
theorem TU{c:Cu}{what:Int}{p:aT}:(vk r c what p).ab.length=r.ab.length:=aah
def nU(r:cc)(c:Cu)(what:Int)(p:aT):Nat->cc
 |0=>r
 |k+1=>if((k:Int)<c.row/\what≠0)∨(c.row<(k:Int)/\what≠1) then p_ (nU r c what p k) k 0 (nU r c what p k).ai p else nU r c what p k
theorem Vp{c:Cu}{what:Int}{p:aT}:∀k,(nU r c what p k).ai=r.ai
 |0=>rfl
 |k+1=>by rw[nU];split<;>simp[aag,Vp k]
theorem agJ{c:Cu}{what:Int}{p:aT}:∀k,(nU r c what p k).ab.length=r.ab.length
 |0=>rfl
 |k+1=>by rw[nU];split<;>simp[aah,agJ k]
def Vr(r:cc)(c:Cu)(what:Int)(p:aT):cc:=nU (vk r c what p) c what p r.ab.length
theorem afH{c:Cu}{what:Int}{p:aT}(aj:Laid w)(h:dA w g)(hc:gM g.aC c)(aW:0<=what)(h2:what<=2)(hp:ea (ed p)=true):bI Tryz.prog X.GS #[g.ptr, .agg c.T, .int .i64 what, .agg p.T] w (dY g) (λv w'=>v= .int .i64 0/\iS w g (vk g.aC c what p) w'):=by
 have hd:=h.ld;have hc':=hc;obtain⟨bY,c2,c3,c4,c5⟩:=hc';refine axn _ c what p ?_;intro ar ec;intro aQ gA;have aN:=bB.start (bs:=[ar,aQ]) aj h s7;have hY:=aj.size;have fa:∀b∈[ar,aQ],w.heap.size<=b:=by simp;try omega
 repeat' (first|(with_reducible refine And.intro ?_ ?_)|(intro cR cr dO;have fl:=bB.q5 cr cx;have ku:=cB.all dO)|(intro cR cr dO;have fl:=bB.oP cr cx aS rT hY;have ku:=cB.all dO)|(intro j5 jc;have fl:=bB.iy jc cx)|(refine(λa b=>abB a hc hp b) cx (λcW eP br=>?_);first|refine⟨_,rfl,br.O,?_⟩|refine⟨_,_,rfl,br.O,?_⟩|refine⟨_,_,_,_,rfl,br.O,?_⟩)|(refine(λa b=>abC a hc b) cx (λcW eP br=>?_);first|refine⟨_,rfl,br.O,?_⟩|refine⟨_,_,rfl,br.O,?_⟩|refine⟨_,_,_,_,rfl,br.O,?_⟩)|(refine(λa m b=>RD a m bY c2 O1 (by split<;>split<;>omega) O1 hp b) cx cx (λcW eP br=>?_);first|refine⟨_,rfl,br,?_⟩|refine⟨_,_,rfl,br,?_⟩|refine⟨_,_,_,_,rfl,br,?_⟩)|(with_reducible intro _))
 all_goals first|(unfold ay;omega)|omega|(exfalso;first|omega|contradiction)|rfl|(exfalso;(simp_all;done))|(intro w7 c8 _;refine⟨?_,?_⟩<;>first|rfl|(have q:=bB.bQ cx c8;exact q)|(have q:=bB.bQ cx c8;simpa[*] using q)|(simp[*];done)|grind)
theorem amy{c:Cu}{what:Int}{p:aT}(h:bB w0 aR bs r w1)(hm:∀b∈bs,b<w1.heap.size)(hc:gM r c)(aW:0<=what)(h2:what<=2)(hp:ea (ed p)=true)(hR:∀ad,bB w0 aR bs (vk r c what p) ad->eC w0.heap.size (dY aR) bs w1 ad->R (.returned (.int .i64 0)) ad):dH Tryz.prog X.GS #[aR.ptr, .agg c.T, .int .i64 what, .agg p.T] w1 R:=
 h.call (r':=vk r c what p) hm (fC:=λv _=>v= .int .i64 0) (λg qm oZ qt qj=>by subst qt;rw[<-oZ];exact afH qj qm hc aW h2 hp) λv ad ah=>by subst ah;exact hR ad
theorem asM{c:Cu}{n:Int}{p:aT}(aj:Laid w)(h:dA w g)(hc:gM g.aC c)(aW:0<=n)(hn:n<=1000000)(hp:ea (ed p)=true):bI Tryz.prog X.Rk #[g.ptr, .agg c.T, .int .i64 n, .agg p.T] w (dY g) (λv w'=>v= .int .i64 0/\iS w g (p_ g.aC c.row c.ae (c.ae+min n (g.aC.ai-c.ae)) p) w'):=by
 have hd:=h.ld;have hc':=hc;obtain⟨bY,c2,c3,c4,c5⟩:=hc';refine axm _ c n p ?_;intro ar ec;intro aQ gA;have aN:=bB.start (bs:=[ar,aQ]) aj h s7;have hY:=aj.size;have fa:∀b∈[ar,aQ],w.heap.size<=b:=by simp;try omega
 repeat' (first|(with_reducible refine And.intro ?_ ?_)|(intro cR cr dO;have fl:=bB.q5 cr cx;have ku:=cB.all dO)|(intro cR cr dO;have fl:=bB.oP cr cx aS rT hY;have ku:=cB.all dO)|(intro j5 jc;have fl:=bB.iy jc cx)|(refine(λa b=>abB a hc hp b) cx (λcW eP br=>?_);first|refine⟨_,rfl,br.O,?_⟩|refine⟨_,_,rfl,br.O,?_⟩|refine⟨_,_,_,_,rfl,br.O,?_⟩)|(refine qg cx (λcW eP br=>?_);first|refine⟨_,rfl,br.O,?_⟩|refine⟨_,_,rfl,br.O,?_⟩|refine⟨_,_,_,_,rfl,br.O,?_⟩)|(refine(λa m b=>RD a m bY c2 c3 M M hp b) cx cx (λcW eP br=>?_);first|refine⟨_,rfl,br,?_⟩|refine⟨_,_,rfl,br,?_⟩|refine⟨_,_,_,_,rfl,br,?_⟩)|(with_reducible intro _))
 all_goals first|(unfold ay;omega)|omega|(exfalso;first|omega|contradiction)|rfl|(exfalso;(simp_all;done))|(intro w7 c8 _;refine⟨?_,?_⟩<;>first|rfl|(have q:=bB.bQ cx c8;exact q)|(have q:=bB.bQ cx c8;simpa[*] using q)|(simp[*];done)|grind)
theorem avE{c:Cu}{what:Int}{p:aT}{k:Nat}(h:((k:Int)<c.row/\what≠0)∨(c.row<(k:Int)/\what≠1)):nU r c what p (k+1)=p_ (nU r c what p k) k 0 r.ai p:=by rw[nU,aA h,Vp]
theorem avD{c:Cu}{what:Int}{p:aT}{k:Nat}(h:¬(((k:Int)<c.row/\what≠0)∨(c.row<(k:Int)/\what≠1))):nU r c what p (k+1)=nU r c what p k:=by rw[nU,ag h]
theorem asN{c:Cu}{what:Int}{p:aT}(aj:Laid w)(h:dA w g)(hc:gM g.aC c)(aW:0<=what)(h2:what<=2)(hp:ea (ed p)=true):bI Tryz.prog X.Rl #[g.ptr, .agg c.T, .int .i64 what, .agg p.T] w (dY g) (λv w'=>v= .int .i64 0/\iS w g (Vr g.aC c what p) w'):=by
 have hc':=hc;obtain⟨bY,c2,c3,c4,c5⟩:=hc';have hd:=h.ld;have oj:gM (vk g.aC c what p) c:=by unfold gM;rw[aqB,TU];exact hc
 refine axo _ c what p λar ec aQ gA w1 hb1 fb=>?_
 have bX:=(bB.start (bs:=[ar,aQ]) aj h ej).below hb1;refine amy bX (cB.all fb) hc aW h2 hp λad aX aI=>⟨_,rfl,aI,λe=>absurd rfl e,λ_ bw bp fN=>?_⟩
 refine abC (aX.below bp) oj λbD cg bO=>⟨_,_,_,_,rfl,bO.O,λbP hb5 om=>xU (cg.below hb5) λcu eJ dK=>⟨_,rfl,dK.O,?_⟩⟩
 rw[TU];have aCb:∀b:Bool,∀q:Prop,[Decidable q]->decide q=b->(b=true↔q):=λb q _ e=>by rw[<-e];simp
 refine⟨λi w'=>∃k:Nat,i=k/\k<=g.aC.ab.length/\bB w g [ar,aQ] (nU (vk g.aC c what p) c what p k) w',λi=>((g.aC.ab.length:Int)-i).toNat,λw7 c8=>⟨0,rfl,ef _,eJ.below c8⟩,?_⟩;rintro i w7 e_ ⟨k,rfl,hk,jv⟩;have next:∀{cR:World},((k:Int)<g.aC.ab.length)->(((k:Int)<c.row/\what≠0)∨(c.row<(k:Int)/\what≠1))->Below w7.heap.size w7 cR->cB cR w.heap.size [(ar,G.bR),(aQ,G.b_)]->dH Tryz.prog X.mf #[g.ptr] cR (λuV rQ=>∃tQ:Int,uV= .returned (.int .i64 tQ)/\eC w.heap.size (dY g) [ar,aQ] cR rQ/\∀vC:World,Below rQ.heap.size rQ vC->cB vC w.heap.size [(ar,G.bR),(aQ,G.b_)]->dH Tryz.prog X.BI #[g.ptr, .int .i64 k, .int .i64 0, .int .i64 tQ, .agg p.T] vC (λDT w_=>∃nP:Int,DT= .returned (.int .i64 nP)/\eC w.heap.size (dY g) [ar,aQ] vC w_/\(nP≠0->aa w (dY g) w_ (λv w'=>v= .int .i64 0/\iS w g (Vr g.aC c what p) w') (.int .i64 nP))/\(nP=0->ay ((k:Int)+1)/\∀uv:World,Below w_.heap.size w_ uv->(∃j:Nat,(k:Int)+1=j/\j<=g.aC.ab.length/\bB w g [ar,aQ] (nU (vk g.aC c what p) c what p j) uv)/\((g.aC.ab.length:Int)-((k:Int)+1)).toNat<((g.aC.ab.length:Int)-(k:Int)).toNat))):=by
  intro cR hlt R1 cr dO;refine qg (jv.below cr) λgn lH jI=>⟨_,rfl,jI.O,λhC fs rl=>?_⟩
  refine RD (lH.below fs) (cB.all rl) M (by rw[agJ,TU];exact hlt) (n4 0) M (n4 _) hp λkl nT iZ=>⟨_,rfl,iZ,λe=>absurd rfl e,λ_=>⟨by unfold ay;omega,λjy kM=>⟨⟨k+1,by omega,by omega,?_⟩,by omega⟩⟩⟩
  have:=nT.below kM;rw[Vp] at this;rw[avE R1];exact this
 have skip:((k:Int)<g.aC.ab.length)->¬(((k:Int)<c.row/\what≠0)∨(c.row<(k:Int)/\what≠1))->ay ((k:Int)+1)/\∀uv:World,Below w7.heap.size w7 uv->(∃j:Nat,(k:Int)+1=j/\j<=g.aC.ab.length/\bB w g [ar,aQ] (nU (vk g.aC c what p) c what p j) uv)/\((g.aC.ab.length:Int)-((k:Int)+1)).toNat<((g.aC.ab.length:Int)-(k:Int)).toNat:=by
  intro hlt R1;refine⟨by unfold ay;omega,λuv xZ=>⟨⟨k+1,by omega,by omega,?_⟩,by omega⟩⟩;rw[avD R1];exact jv.below xZ
 simp only[dQ,lM,JK];refine⟨λhlt=>⟨λaw=>⟨λaZ cR cr dO=>next hlt (.inl ⟨aw,aZ⟩) cr dO,λaZ=>⟨λca=>by omega,λca=>skip hlt M⟩⟩,λaw=>⟨λaZ=>⟨λca cR cr dO=>next hlt (.inr ⟨aZ,ca⟩) cr dO,λca=>skip hlt M⟩,λaZ=>skip hlt M⟩⟩,λhle w' hb _=>⟨rfl,?_⟩⟩;have:k=g.aC.ab.length:=by omega
 subst this;exact jv.bQ hb
end
theorem alH(a b:dz)(w:World):(Op.equal G.Region (.agg a.T) (.agg b.T)).run Tryz.prog w= .ok (decide (a.bf=b.bf)&&decide (a.b7=b.b7)) w:=by
 obtain⟨dd,a2⟩:=a;obtain⟨b1,b2⟩:=b;simp[Op.equal,Op.maxDepth,go_sem]
 repeat' split
 all_goals simp[*]
section
variable{w0 w w' w1:World}{g aR:cV}{bs:List Nat}{r r':cc}{R:Ending->World->Prop}
theorem Wi{row ae n:Int}{q:aT}(h1:0<=row)(h2:row<r.ab.length)(aw:0<=ae)(aZ:ae<r.ai)(hq:ea (ed q)=true):pP r row ae n q=0:=by
 unfold pP;rw[Qd h1 h2 aw aZ,ag aS,ag (by rw[hq];simp)]
abbrev KU(amt:Value)(c:Cu)(aq:dz)(an:Bool)(n:Int)(p:aT):Value:= .agg #[amt, .int .i64 c.row, .int .i64 c.ae, .bool c.dC, .int .i64 aq.bf, .int .i64 aq.b7, .bool an, .int .i64 n, .int .i64 p.f.k, .int .u8 p.f.i, .int .u8 p.f.r, .int .u8 p.f.g, .int .u8 p.f.b, .int .i64 p.b.k, .int .u8 p.b.i, .int .u8 p.b.r, .int .u8 p.b.g, .int .u8 p.b.b, .int .u8 p.eo]
theorem asK{c:Cu}{aq:dz}{an:Bool}{n:Int}{p:aT}(aj:Laid w)(h:dA w g)(hc:gM g.aC c)(hr:nA g.aC aq)(hz:an=false->aq=⟨0,0⟩)(aW:0<=n)(hp:ea (ed p)=true):di X.BG #[KU g.ptr c aq an n p] w (.int .i64 0):=by
 have hd:=h.ld;obtain⟨bY,c2,c3,c4,c5⟩:=hc;obtain⟨de,c1,r3⟩:=hr;have hq:an=false->∀Xe:World,(Op.equal G.Region (.agg #[.int .i64 aq.bf, .int .i64 aq.b7]) (.agg #[.int .i64 0, .int .i64 0])).run Tryz.prog Xe= .ok true Xe:=λe Xe=>by
  rw[alH aq ⟨0,0⟩,hz e];rfl
 refine axk _ c.row c.ae c.dC aq.bf aq.b7 an n p.f.k p.f.i p.f.r p.f.g p.f.b p.b.k p.b.i p.b.r p.b.g p.b.b p.eo λar ec=>⟨λeA i2 b1 i3 i4 w'=>eA=c.row/\i2=c.ae/\b1=c.dC/\i3=aq.bf/\i4=aq.b7/\U bg w w',⟨λi1 _ ie _ aAW hb=>⟨rfl,rfl,rfl,rfl,rfl,U.au hb⟩,λi1 _ ie _ aAW hb=>⟨rfl,rfl,rfl,rfl,rfl,U.au hb⟩⟩,?_⟩
 rintro eA i2 b1 i3 i4 aQ gA cH jJ w1 hk1 ⟨rfl,rfl,rfl,rfl,rfl,hk⟩;have hY:=aj.size;have fa:∀b∈[ar,aQ,cH],w.heap.size<=b:=by simp;omega
 have aN:=(bB.start (bs:=[ar,aQ,cH]) aj h fa).O hk
 repeat' (first|(with_reducible refine And.intro ?_ ?_)|(intro cR cr dO;have fl:=bB.q5 cr cx;have ku:=cB.all dO)|(intro cR cr dO;have fl:=bB.oP cr cx aS rT hY;have ku:=cB.all dO)|(intro j5 jc;have fl:=bB.iy jc cx)|(refine xU cx (λcW eP br=>?_);first|refine⟨_,rfl,br.O,?_⟩|refine⟨_,_,rfl,br.O,?_⟩|refine⟨_,_,_,_,rfl,br.O,?_⟩)|(refine qg cx (λcW eP br=>?_);first|refine⟨_,rfl,br.O,?_⟩|refine⟨_,_,rfl,br.O,?_⟩|refine⟨_,_,_,_,rfl,br.O,?_⟩)|(refine bB.pure (v_ (p:=p)) cx (λcW eP br=>?_);first|refine⟨_,rfl,br.O,?_⟩|refine⟨_,_,rfl,br.O,?_⟩|refine⟨_,_,_,_,rfl,br.O,?_⟩)|(refine bB.pure zg cx (λcW eP br=>?_);first|refine⟨_,rfl,br.O,?_⟩|refine⟨_,_,rfl,br.O,?_⟩|refine⟨_,_,_,_,rfl,br.O,?_⟩)|(refine⟨_,hq cx,?_⟩)|(refine aa.of λ_=>?_)|(with_reducible intro _))
 all_goals first|(unfold ay;omega)|omega|(exfalso;first|omega|contradiction)|rfl|(exfalso;(simp_all;done))|(first|rfl|(simp[cF,cD,cb,cv,cG, *];done)|grind [cF,cD,cb,cv,cG])
theorem Lw{c:Cu}{aq:dz}{an:Bool}{n:Int}{p:aT}(h:bB w0 aR bs r w1)(hc:gM r c)(hr:nA r aq)(hz:an=false->aq=⟨0,0⟩)(aW:0<=n)(hp:ea (ed p)=true)(hR:∀ad,bB w0 aR bs r ad->U bg w1 ad->R (.returned (.int .i64 0)) ad):dH Tryz.prog X.BG #[KU aR.ptr c aq an n p] w1 R:=
 h.ret (λg qm oZ qt qj=>by subst qt;rw[<-oZ];exact asK qj qm hc hr hz aW hp) hR
theorem asL{c:Cu}{aq:dz}{an:Bool}{m n:Int}{p:aT}(aj:Laid w)(h:dA w g)(hc:gM g.aC c)(hr:nA g.aC aq)(hn: -1000000<=n/\n<=1000000)(hp:ea (ed p)=true):bI Tryz.prog X.GP #[KU g.ptr c aq an m p, .int .i64 n] w (dY g) (λv w'=>v= .int .i64 0/\iS w g (if aq.bf<=c.row/\c.row<=aq.b7 then kW g.aC ⟨c.row,aq.b7⟩ n p else g.aC) w'):=by
 have hd:=h.ld;obtain⟨bY,c2,c3,c4,c5⟩:=hc;obtain⟨de,c1,r3⟩:=hr;refine axl _ c.row c.ae c.dC aq.bf aq.b7 an m p.f.k p.f.i p.f.r p.f.g p.f.b p.b.k p.b.i p.b.r p.b.g p.b.b p.eo n ?_;intro ar ec;have aN:=bB.start (bs:=[ar]) aj h s7;have hY:=aj.size;have fa:∀b∈[ar],w.heap.size<=b:=by simp;try omega
 repeat' (first|(with_reducible refine And.intro ?_ ?_)|(intro cR cr dO;have fl:=bB.q5 cr cx;have ku:=cB.all dO)|(intro cR cr dO;have fl:=bB.oP cr cx aS rT hY;have ku:=cB.all dO)|(intro j5 jc;have fl:=bB.iy jc cx)|(refine G' (aq:=⟨c.row,aq.b7⟩) (q:=p) cx cx hn (λCS aBO ZT cW aCo eP br=>?_);have aDK:=eP.gs;refine⟨_,_,_,_,rfl,br,?_⟩)|(with_reducible intro _))
 all_goals first|(unfold ay;omega)|omega|(exfalso;first|omega|contradiction)|(intro w7 c8 _;refine⟨by first|rfl|rw[Ff ⟨by dsimp;omega,by dsimp;omega,by dsimp;omega⟩ hp],?_⟩;have q:=bB.bQ cx c8;first|rw[aA M];exact q|rw[ag M];exact q)|rfl|(exfalso;(simp_all;done))|(intro w7 c8 _;refine⟨?_,?_⟩<;>first|rfl|(have q:=bB.bQ cx c8;exact q)|(have q:=bB.bQ cx c8;simpa[*] using q)|(simp[*];done)|grind)
theorem abA{c:Cu}{aq:dz}{an:Bool}{m n:Int}{p:aT}(h:bB w0 aR bs r w1)(hm:∀b∈bs,b<w1.heap.size)(hc:gM r c)(hr:nA r aq)(hn: -1000000<=n/\n<=1000000)(hp:ea (ed p)=true)(hR:∀ad,bB w0 aR bs (if aq.bf<=c.row/\c.row<=aq.b7 then kW r ⟨c.row,aq.b7⟩ n p else r) ad->eC w0.heap.size (dY aR) bs w1 ad->R (.returned (.int .i64 0)) ad):dH Tryz.prog X.GP #[KU aR.ptr c aq an m p, .int .i64 n] w1 R:=
 h.call (r':=if aq.bf<=c.row/\c.row<=aq.b7 then kW r ⟨c.row,aq.b7⟩ n p else r) hm (fC:=λv _=>v= .int .i64 0) (λg qm oZ qt qj=>by subst qt;rw[<-oZ];exact asL qj qm hc hr hn hp) λv ad ah=>by subst ah;exact hR ad
theorem asI{c:Cu}{n:Int}{p:aT}(aj:Laid w)(h:dA w g)(hc:gM g.aC c)(aW:0<=n)(hn:n<=1000000)(hp:ea (ed p)=true):bI Tryz.prog X.Rb #[g.ptr, .agg c.T, .int .i64 n, .agg p.T] w (dY g) (λv w'=>v= .int .i64 0/\iS w g (mP g.aC c.row c.ae n p) w'):=by
 have hd:=h.ld;have hc':=hc;obtain⟨bY,c2,c3,c4,c5⟩:=hc';have e0:pP g.aC c.row c.ae n p=0:=Wi bY c2 c3 c4 hp;refine axi _ c n p ?_;intro ar ec;intro aQ gA;intro cH jJ;have aN:=bB.start (bs:=[ar,aQ,cH]) aj h s7;have hY:=aj.size;have fa:∀b∈[ar,aQ,cH],w.heap.size<=b:=by simp;try omega
 repeat' (first|(with_reducible refine And.intro ?_ ?_)|(intro cR cr dO;have fl:=bB.q5 cr cx;have ku:=cB.all dO)|(intro cR cr dO;have fl:=bB.oP cr cx aS rT hY;have ku:=cB.all dO)|(intro j5 jc;have fl:=bB.iy jc cx)|(refine(λa b=>Lw (aq:=⟨0,0⟩) (an:=false) a hc ⟨by dsimp;omega,by dsimp;omega,by dsimp;omega⟩ (λ_=>rfl) aW hp b) cx (λcW eP br=>?_);first|refine⟨_,rfl,br.O,?_⟩|refine⟨_,_,rfl,br.O,?_⟩|refine⟨_,_,_,_,rfl,br.O,?_⟩)|(refine(λa m b=>RC a m M b) cx cx (λcW eP br=>?_);first|refine⟨_,rfl,br,?_⟩|refine⟨_,_,rfl,br,?_⟩|refine⟨_,_,_,_,rfl,br,?_⟩)|(with_reducible intro _))
 all_goals first|(unfold ay;omega)|omega|(exfalso;first|omega|contradiction)|(intro w7 c8 _;exact⟨by rw[e0],bB.bQ cx c8⟩)|rfl|(exfalso;(simp_all;done))|(intro w7 c8 _;refine⟨?_,?_⟩<;>first|rfl|(have q:=bB.bQ cx c8;exact q)|(have q:=bB.bQ cx c8;simpa[*] using q)|(simp[*];done)|grind)
theorem asG{c:Cu}{n:Int}{p:aT}(aj:Laid w)(h:dA w g)(hc:gM g.aC c)(aW:0<=n)(hn:n<=1000000)(hp:ea (ed p)=true):bI Tryz.prog X.Q' #[g.ptr, .agg c.T, .int .i64 n, .agg p.T] w (dY g) (λv w'=>v= .int .i64 0/\iS w g (if n=0 then g.aC else mO (mP g.aC c.row c.ae (0-n) p) c.row false) w'):=by
 have hd:=h.ld;have hc':=hc;obtain⟨bY,c2,c3,c4,c5⟩:=hc';have e0:pP g.aC c.row c.ae (0-n) p=0:=Wi bY c2 c3 c4 hp;have e1:nW (mP g.aC c.row c.ae (0-n) p) c.row=0:=Jq bY (by rw[ag7];exact c2);refine axg _ c n p ?_;intro ar ec;intro aQ gA;intro cH jJ;have aN:=bB.start (bs:=[ar,aQ,cH]) aj h s7;have hY:=aj.size;have fa:∀b∈[ar,aQ,cH],w.heap.size<=b:=by simp;try omega
 repeat' (first|(with_reducible refine And.intro ?_ ?_)|(intro cR cr dO;have fl:=bB.q5 cr cx;have ku:=cB.all dO)|(intro cR cr dO;have fl:=bB.oP cr cx aS rT hY;have ku:=cB.all dO)|(intro j5 jc;have fl:=bB.iy jc cx)|(refine(λa b=>Lw (aq:=⟨0,0⟩) (an:=false) a hc ⟨by dsimp;omega,by dsimp;omega,by dsimp;omega⟩ (λ_=>rfl) aW hp b) cx (λcW eP br=>?_);first|refine⟨_,rfl,br.O,?_⟩|refine⟨_,_,rfl,br.O,?_⟩|refine⟨_,_,_,_,rfl,br.O,?_⟩)|(refine(λa m b=>RC a m M b) cx cx (λcW eP br=>?_);first|refine⟨_,rfl,br,?_⟩|refine⟨_,_,rfl,br,?_⟩|refine⟨_,_,_,_,rfl,br,?_⟩)|(refine RB cx cx (λcW eP br=>?_);first|refine⟨_,rfl,br,?_⟩|refine⟨_,_,rfl,br,?_⟩|refine⟨_,_,_,_,rfl,br,?_⟩)|(with_reducible intro _))
 all_goals first|(unfold ay;omega)|omega|(exfalso;first|omega|contradiction)|(intro w7 c8 _;refine⟨by first|rfl|rw[e1],?_⟩;have q:=bB.bQ cx c8;first|rw[ag cx];exact q|rw[aA cx];exact q)|rfl|(exfalso;(simp_all;done))|(intro w7 c8 _;refine⟨?_,?_⟩<;>first|rfl|(have q:=bB.bQ cx c8;exact q)|(have q:=bB.bQ cx c8;simpa[*] using q)|(simp[*];done)|grind)
theorem asJ{c:Cu}{aq:dz}{n:Int}{p:aT}(aj:Laid w)(h:dA w g)(hc:gM g.aC c)(hr:nA g.aC aq)(aW:0<=n)(hn:n<=1000000)(hp:ea (ed p)=true):bI Tryz.prog X.Rc #[g.ptr, .agg c.T, .agg aq.T, .int .i64 n, .agg p.T] w (dY g) (λv w'=>v= .int .i64 0/\iS w g (if aq.bf<=c.row/\c.row<=aq.b7 then kW g.aC ⟨c.row,aq.b7⟩ (0-n) p else g.aC) w'):=by
 have hd:=h.ld;refine axj _ c aq n p ?_;intro ar ec;intro aQ gA;intro cH jJ;intro eO sv;have aN:=bB.start (bs:=[ar,aQ,cH,eO]) aj h s7;have hY:=aj.size;have fa:∀b∈[ar,aQ,cH,eO],w.heap.size<=b:=by simp;try omega
 repeat' (first|(with_reducible refine And.intro ?_ ?_)|(intro cR cr dO;have fl:=bB.q5 cr cx;have ku:=cB.all dO)|(intro cR cr dO;have fl:=bB.oP cr cx aS rT hY;have ku:=cB.all dO)|(intro j5 jc;have fl:=bB.iy jc cx)|(refine(λa b=>Lw (aq:=aq) (an:=true) a hc hr (λe=>nomatch e) aW hp b) cx (λcW eP br=>?_);first|refine⟨_,rfl,br.O,?_⟩|refine⟨_,_,rfl,br.O,?_⟩|refine⟨_,_,_,_,rfl,br.O,?_⟩)|(refine(λa m b=>abA (aq:=aq) (an:=true) (m:=n) a m hc hr M hp b) cx cx (λcW eP br=>?_);first|refine⟨_,rfl,br,?_⟩|refine⟨_,_,rfl,br,?_⟩|refine⟨_,_,_,_,rfl,br,?_⟩)|(with_reducible intro _))
 all_goals first|(unfold ay;omega)|omega|(exfalso;first|omega|contradiction)|rfl|(exfalso;(simp_all;done))|(intro w7 c8 _;refine⟨?_,?_⟩<;>first|rfl|(have q:=bB.bQ cx c8;exact q)|(have q:=bB.bQ cx c8;simpa[*] using q)|(simp[*];done)|grind)
theorem asH{c:Cu}{aq:dz}{n:Int}{p:aT}(aj:Laid w)(h:dA w g)(hc:gM g.aC c)(hr:nA g.aC aq)(aW:0<=n)(hn:n<=1000000)(hp:ea (ed p)=true):bI Tryz.prog X.Ra #[g.ptr, .agg c.T, .agg aq.T, .int .i64 n, .agg p.T] w (dY g) (λv w'=>v= .int .i64 0/\iS w g (if aq.bf<=c.row/\c.row<=aq.b7 then kW g.aC ⟨c.row,aq.b7⟩ n p else g.aC) w'):=by
 have hd:=h.ld;refine axh _ c aq n p ?_;intro ar ec;intro aQ gA;intro cH jJ;intro eO sv;have aN:=bB.start (bs:=[ar,aQ,cH,eO]) aj h s7;have hY:=aj.size;have fa:∀b∈[ar,aQ,cH,eO],w.heap.size<=b:=by simp;try omega
 repeat' (first|(with_reducible refine And.intro ?_ ?_)|(intro cR cr dO;have fl:=bB.q5 cr cx;have ku:=cB.all dO)|(intro cR cr dO;have fl:=bB.oP cr cx aS rT hY;have ku:=cB.all dO)|(intro j5 jc;have fl:=bB.iy jc cx)|(refine(λa b=>Lw (aq:=aq) (an:=true) a hc hr (λe=>nomatch e) aW hp b) cx (λcW eP br=>?_);first|refine⟨_,rfl,br.O,?_⟩|refine⟨_,_,rfl,br.O,?_⟩|refine⟨_,_,_,_,rfl,br.O,?_⟩)|(refine(λa m b=>abA (aq:=aq) (an:=true) (m:=n) a m hc hr M hp b) cx cx (λcW eP br=>?_);first|refine⟨_,rfl,br,?_⟩|refine⟨_,_,rfl,br,?_⟩|refine⟨_,_,_,_,rfl,br,?_⟩)|(with_reducible intro _))
 all_goals first|(unfold ay;omega)|omega|(exfalso;first|omega|contradiction)|rfl|(exfalso;(simp_all;done))|(intro w7 c8 _;refine⟨?_,?_⟩<;>first|rfl|(have q:=bB.bQ cx c8;exact q)|(have q:=bB.bQ cx c8;simpa[*] using q)|(simp[*];done)|grind)
end
section
variable{w0 w w' w1:World}{g aR:cV}{bs:List Nat}{r r':cc}{R:Ending->World->Prop}
def rD(r:Int)(p:aT):List bC:=if fx r=2 then[⟨r,0,0,0,2,p⟩,C8 p] else[⟨r,0,0,0,fx r,p⟩]
theorem asB{r:Int}{p:aT}(aj:Laid w)(h1:1<=fx r)(hp:h0 p=true):bI Tryz.prog X.QF #[.int .i32 r, .agg p.T] w bg (λv w'=>∃q c,v= .tuple #[.slice q (rD r p).length c, .int .i64 0]/\fB w.heap.size w' q (rD r p).length c (rD r p)):=by
 refine aw7 r p λar ec w1 hb1 fb=>Bp.aH (Laid.below hb1 aj) λad aI hU=>⟨_,rfl,aI.O,λe=>by omega,λ_ bw bp fN=>KL.aH (Laid.below bp hU) λbD bO kL=>⟨_,rfl,bO.O,λe=>XF,λ_ bP aQ zF hn=>?_⟩⟩
 have oi:U bg w bD:=(((U.au hb1).trans aI).trans (U.au bp)).trans bO;have ho:=cX.own (n:=1) (s:=16) zF rfl du;have eH:=zF.ax rfl;refine⟨λe w7 c8 mh=>ZZ.aH (Laid.below c8 (Laid.O eH kL)) λcW br D7=>⟨_,rfl,br.O,λcH jJ=>⟨gR [⟨r,0,0,0,fx r,p⟩],?_,by omega,λcR cq eO hg fV w' hb _=>?_⟩⟩,λe w' hb _=>?_⟩
 ·have BY:U bg bP cW:=(U.au c8).trans br
  have:=zF.size;have:=BY.size;exact(ho.O BY).room (λa ha=>by cases ha;simp at hn⊢;exact⟨hn,by omega⟩) λh=>by omega
 ·have BY:U bg bP cW:=(U.au c8).trans br
  have hl:rD r p=[⟨r,0,0,0,fx r,p⟩,C8 p]:=by unfold rD;rw[aA e,e]
  rw[hl];have:=gk.own (B:=w.heap.size) hg (ek oi.size (ek eH.size BY.size)) λa ha=>by cases ha;exact ek oi.size zF.new
  exact⟨cq,eO,rfl,(this.O (U.au hb))⟩
 ·have hl:rD r p=[⟨r,0,0,0,fx r,p⟩]:=by unfold rD;rw[ag e]
  rw[hl];exact⟨_,_,rfl,(ho.O (U.au hb)).low oi.size⟩
theorem arv{q:ao}{c:Nat}{aV:Int}{p:aT}{B:Nat}(h:fB B w q (rD aV p).length c (rD aV p)):(0:Int)<((rD aV p).length:Int)/\∃a,q=some a/\At w a 0 (bC.T ⟨aV,0,0,0,fx aV,p⟩).toList:=by
 have hl:0<(rD aV p).length:=by unfold rD;split<;>simp
 obtain⟨a,ha,dB⟩:=ga.get (i:=0) (fB.qc h) M M;refine⟨by omega,a,ha,?_⟩;have e:cP (rD aV p) 0=⟨aV,0,0,0,fx aV,p⟩:=by
  unfold rD;split
  ·rename_i h2;simp[cP,h2]
  ·simp[cP]
 simpa[e] using dB
theorem bB.get{f:FuncId}{args:Array Value}{fC:Value->World->Prop}(h:bB w0 aR bs r w1)(hc:Laid w1->bI Tryz.prog f args w1 bg fC)(hR:∀v ad,fC v ad->bB w0 aR bs r ad->U bg w1 ad->R (.returned v) ad):dH Tryz.prog f args w1 R:=
 (hc h.1).aH λv ad hk hq=>hR v ad hq (h.O hk) hk
def pc(r:cc)(c:Cu)(n:Int)(auto:Bool):Bool:=auto&&(c.dC||(decide (n=2)&&(decide (1<r.ai)&&decide (c.ae=r.ai-1))))
theorem atq{c:Cu}(aj:Laid w)(h:dA w g)(hc:gM g.aC c):di X.E0 #[g.ptr, .agg c.T] w (.int .i64 0):=by
 have hd:=h.ld;obtain⟨bY,c2,c3,c4,c5⟩:=hc;refine ayz _ c ?_;intro ar ec;have aN:=bB.start (bs:=[ar]) aj h s7;have hY:=aj.size;have fa:∀b∈[ar],w.heap.size<=b:=by simp;try omega
 repeat' (first|(with_reducible refine And.intro ?_ ?_)|(intro cR cr dO;have fl:=bB.q5 cr cx;have ku:=cB.all dO)|(intro cR cr dO;have fl:=bB.oP cr cx aS rT hY;have ku:=cB.all dO)|(intro j5 jc;have fl:=bB.iy jc cx)|(refine xU cx (λcW eP br=>?_);first|refine⟨_,rfl,br.O,?_⟩|refine⟨_,_,rfl,br.O,?_⟩|refine⟨_,_,_,_,rfl,br.O,?_⟩)|(refine qg cx (λcW eP br=>?_);first|refine⟨_,rfl,br.O,?_⟩|refine⟨_,_,rfl,br.O,?_⟩|refine⟨_,_,_,_,rfl,br.O,?_⟩)|(refine aa.of λ_=>?_)|(with_reducible intro _))
 all_goals first|(unfold ay;omega)|omega|(exfalso;first|omega|contradiction)|rfl|(exfalso;(simp_all;done))|(first|rfl|(simp[cF,cD,cb,cv,cG, *];done)|grind [cF,cD,cb,cv,cG])
theorem RE{c:Cu}(h:bB w0 aR bs r w1)(hc:gM r c)(hR:∀ad,bB w0 aR bs r ad->U bg w1 ad->R (.returned (.int .i64 0)) ad):dH Tryz.prog X.E0 #[aR.ptr, .agg c.T] w1 R:=
 h.ret (λg qm oZ qt qj=>by subst qt;rw[<-oZ];exact atq qj qm hc) hR
theorem atr{c:Cu}{n:Int}{auto:Bool}(aj:Laid w)(h:dA w g):di X.IY #[g.ptr, .agg c.T, .int .i64 n, .bool auto] w (.bool (pc g.aC c n auto)):=by
 have hd:=h.ld;refine ayA _ c n auto ?_;intro ar ec;have aN:=bB.start (bs:=[ar]) aj h s7;have hY:=aj.size;have fa:∀b∈[ar],w.heap.size<=b:=by simp;try omega
 repeat' (first|(with_reducible refine And.intro ?_ ?_)|(intro cR cr dO;have fl:=bB.q5 cr cx;have ku:=cB.all dO)|(intro cR cr dO;have fl:=bB.oP cr cx aS rT hY;have ku:=cB.all dO)|(intro j5 jc;have fl:=bB.iy jc cx)|(refine qg cx (λcW eP br=>?_);first|refine⟨_,rfl,br.O,?_⟩|refine⟨_,_,rfl,br.O,?_⟩|refine⟨_,_,_,_,rfl,br.O,?_⟩)|(refine aa.of λ_=>?_)|(with_reducible intro _))
 all_goals first|(unfold ay;omega)|omega|(exfalso;first|omega|contradiction)|(refine dx Value.bool ?_;first|(simp[pc,cb, *];done)|(simp[pc,cb, *];omega)|(unfold pc;rw[show decide (1<g.aC.ai)=true from l8 M];simp[cb, *]))|rfl|(exfalso;(simp_all;done))|(first|rfl|(simp[cF,cD,cb,cv,cG, *,pc];done)|grind [cF,cD,cb,cv,cG,pc])
theorem abE{c:Cu}{n:Int}{auto:Bool}(h:bB w0 aR bs r w1)(hR:∀ad,bB w0 aR bs r ad->U bg w1 ad->R (.returned (.bool (pc r c n auto))) ad):dH Tryz.prog X.IY #[aR.ptr, .agg c.T, .int .i64 n, .bool auto] w1 R:=
 h.ret (λg qm oZ qt qj=>by subst qt;rw[<-oZ];exact atr qj qm) hR
theorem atp{c:Cu}{aV:Int}{auto:Bool}(aj:Laid w)(h:dA w g)(hc:gM g.aC c)(h1:1<=fx aV):di X.UD #[g.ptr, .agg c.T, .int .i32 aV, .bool auto] w (.tuple #[.bool (pc g.aC c (fx aV) auto), .int .i64 0]):=by
 have hd:=h.ld;refine ayy _ c aV auto ?_;intro ar ec;have aN:=bB.start (bs:=[ar]) aj h s7;have hY:=aj.size;have fa:∀b∈[ar],w.heap.size<=b:=by simp;try omega
 repeat' (first|(with_reducible refine And.intro ?_ ?_)|(intro cR cr dO;have fl:=bB.q5 cr cx;have ku:=cB.all dO)|(intro cR cr dO;have fl:=bB.oP cr cx aS rT hY;have ku:=cB.all dO)|(intro j5 jc;have fl:=bB.iy jc cx)|(refine(λa b=>RE a hc b) cx (λcW eP br=>?_);first|refine⟨_,rfl,br.O,?_⟩|refine⟨_,_,rfl,br.O,?_⟩|refine⟨_,_,_,_,rfl,br.O,?_⟩)|(refine bB.pure Bp cx (λcW eP br=>?_);first|refine⟨_,rfl,br.O,?_⟩|refine⟨_,_,rfl,br.O,?_⟩|refine⟨_,_,_,_,rfl,br.O,?_⟩)|(refine abE cx (λcW eP br=>?_);first|refine⟨_,rfl,br.O,?_⟩|refine⟨_,_,rfl,br.O,?_⟩|refine⟨_,_,_,_,rfl,br.O,?_⟩)|(refine aa.of λ_=>?_)|(with_reducible intro _))
 all_goals first|(unfold ay;omega)|omega|(exfalso;first|omega|contradiction)|rfl|(exfalso;(simp_all;done))|(first|rfl|(simp[cF,cD,cb,cv,cG, *];done)|grind [cF,cD,cb,cv,cG])
end
variable{w0:World}{F:Nat->Prop}{Q:Value->World->Prop}
theorem ayx(g:Addr)(c:Cu)(r:Int)(p:aT)(auto insert:Bool)(h:aG w0 λa=>aG w0 λb=>aG w0 λd=>a7 w0 F [a,b,d] w0 [(a,G.bR),(b,G.b_),(d,G.bR)] X.E0 #[al g, .agg c.T] D λi j=>uF w0 F Q j i [d]/\(j=0->a7 w0 F [a,b,d] i [(a,G.bR),(b,G.b_),(d,G.bR)] X.uw #[.int .i32 r] D λm n=>bG n 1 (bn w0 F m [d] Q (.tuple #[.agg #[D 0,D 0, .bool false],D 2])) (a7 w0 F [a,b,d] m [(a,G.bR),(b,G.b_),(d,G.bR)] X.uS #[.agg p.T] Ay λs t=>a7 w0 F [a,b,d] s [(a,G.bR),(b,G.b_),(d,G.bR)] X.wa #[.agg t.T] .bool λx y=>gL y (bn w0 F x [d] Q (.tuple #[.agg #[D 0,D 0, .bool false],D 2])) (a7 w0 F [a,b,d] x [(a,G.bR),(b,G.b_),(d,G.bR)] X.IY #[al g, .agg c.T,D n, .bool auto] .bool λB C=>dQ C (bn w0 F B [d] Q (.tuple #[.agg #[D 0,D 0, .bool false],D 8])) (cC w0 B [(a,G.bR),(b,G.b_),(d,G.bR)] X.QF #[.int .i32 r, .agg p.T] λaD E bT=>∃ak:ao,∃bo J:Nat,∃K,bW E (.tuple #[.slice ak bo J,D K]) w0 F [a,b,d] aD bT (uF w0 F Q K bT [d]/\(K=0->∃L:Addr,ak=(some L)/\xn bo/\∃bj:bC,At bT L 0 bj.T.toList/\aG bT λN=>∃eE:Int->Int->Int->Int->Int->Int->Int->Int->Int->Int->Int->Int->Int->Int->Int->Int->World->Prop,(a7 w0 F [a,b,d,N] bT [(a,G.bR),(b,G.b_),(d,G.bR),(N,G.Cell)] X.mf #[al g] D λS er=>bG er bj.w (a7 w0 F [a,b,d,N] S [(a,G.bR),(b,G.b_),(d,G.bR),(N,G.Cell)] X.uS #[.agg p.T] Ay λY a1=>∀gd:World,dV Y [N] gd->eE a1.r a1.hZ a1.fE a1.fQ a1.w a1.p.f.k a1.p.f.i a1.p.f.r a1.p.f.g a1.p.f.b a1.p.b.k a1.p.b.i a1.p.b.r a1.p.b.g a1.p.b.b a1.p.eo gd) (bm S λV=>eE bj.r bj.hZ bj.fE bj.fQ bj.w bj.p.f.k bj.p.f.i bj.p.f.r bj.p.f.g bj.p.f.b bj.p.b.k bj.p.b.i bj.p.b.r bj.p.b.g bj.p.b.b bj.p.eo V))/\∀P R S er V W Y a1 gd fq ac aB jE kq jY mT:Int,∀lz:World,U F w0 lz->eE P R S er V W Y a1 gd fq ac aB jE kq jY mT lz->a7 w0 F [a,b,d,N] lz [(a,G.bR),(b,G.b_),(d,G.bR),(N,G.Cell)] X.mf #[al g] D λvV xA=>ay (xA-V)/\∃y_:World->Prop,dQ insert (a7 w0 F [a,b,d,N] vV [(a,G.bR),(b,G.b_),(d,G.bR),(N,G.Cell)] X.D2 #[al g,D c.row,D (min c.ae (xA-V)),D V, .agg p.T] D λGv kd=>uF w0 F Q kd Gv [d]/\(kd=0->bm Gv λBf=>y_ Bf)) (bm vV λtn=>y_ tn)/\∀tn:World,U F w0 tn->y_ tn->a7 w0 F [a,b,d,N] tn [(a,G.bR),(b,G.b_),(d,G.bR),(N,G.Cell)] X.G7 #[al g,D c.row,D (min c.ae (xA-V)), .agg #[.int .i32 P, .int .i32 R, .int .i32 S, .int .i32 er,D V,D W, .int .u8 Y, .int .u8 a1, .int .u8 gd, .int .u8 fq,D ac, .int .u8 aB, .int .u8 jE, .int .u8 kq, .int .u8 jY, .int .u8 mT]] D λkd Bf=>uF w0 F Q Bf kd [d]/\(Bf=0->ay ((min c.ae (xA-V))+V)/\a7 w0 F [a,b,d,N] kd [(a,G.bR),(b,G.b_),(d,G.bR),(N,G.Cell)] X.mf #[al g] D λuM Ku=>bG ((min c.ae (xA-V))+V) Ku (bn w0 F uM [d] Q (.tuple #[.agg #[D c.row,D ((min c.ae (xA-V))+V), .bool false],D 0])) (a7 w0 F [a,b,d,N] uM [(a,G.bR),(b,G.b_),(d,G.bR),(N,G.Cell)] X.mf #[al g] D λdd a2=>ay (a2-1)/\bn w0 F dd [d] Q (.tuple #[.agg #[D c.row,D (a2-1), .bool auto],D 0])))))))))):aO X.UC #[al g, .agg c.T, .int .i32 r, .agg p.T, .bool auto, .bool insert] w0 F Q:=eV [] [⟨15,[],[3]⟩,⟨20,[],[]⟩] [.aY g 0, .agg (Cu.bN.enc c), .int .i32 r, .agg (aT.bN.enc p), .bool (bL.ok auto),
 .bool (bL.ok insert)] h
theorem ayw(g:Addr)(c:Cu)(r:Int)(h:aG w0 λa=>a7 w0 F [a] w0 [(a,G.bR)] X.E0 #[al g, .agg c.T] D λe f=>DA w0 F Q f e/\(f=0->a7 w0 F [a] e [(a,G.bR)] X.uw #[.int .i32 r] D λk l=>(l≠0->aa w0 F k Q (.tuple #[.bool false,D 2]))/\(l=0->∃m:Int->World->Prop,gL c.dC (ay (c.ae-1)/\bm k λn=>m (c.ae-1) n) (bm k λn=>m c.ae n)/\∀n:Int,∀o:World,U F w0 o->m n o->bG n 0 (aa w0 F o Q (.tuple #[.bool false,D 0])) (cC w0 o [(a,G.bR)] X.G5 #[al g,D c.row,D n] λp q s=>∃t:bC,∃u,bW q (.tuple #[.agg t.T,D u]) w0 F [a] p s (aG s λv=>∃x:Int->Int->Int->Int->Int->Int->Int->Int->Int->Int->Int->Int->Int->Int->Int->Int->Int->Int->World->Prop,a' u 0 (a' t.w 0 (ay (n-1)/\cC w0 s [(a,G.bR),(v,G.Cell)] X.G5 #[al g,D c.row,D (n-1)] λy z A=>∃B:bC,∃C,bW z (.tuple #[.agg B.T,D C]) w0 F [a,v] y A (∀aD:World,dV A [v] aD->x (n-1) C B.r B.hZ B.fE B.fQ B.w B.p.f.k B.p.f.i B.p.f.r B.p.f.g B.p.f.b B.p.b.k B.p.b.i B.p.b.r B.p.b.g B.p.b.b B.p.eo aD)) (bm s λy=>x n u t.r t.hZ t.fE t.fQ t.w t.p.f.k t.p.f.i t.p.f.r t.p.f.g t.p.f.b t.p.b.k t.p.b.i t.p.b.r t.p.b.g t.p.b.b t.p.eo y)) (bm s λy=>x n u t.r t.hZ t.fE t.fQ t.w t.p.f.k t.p.f.i t.p.f.r t.p.f.g t.p.f.b t.p.b.k t.p.b.i t.p.b.r t.p.b.g t.p.b.b t.p.eo y)/\∀y z A B C aD E bT ak bo J K L bj N eE P R:Int,∀S:World,U F w0 S->x y z A B C aD E bT ak bo J K L bj N eE P R S->DA w0 F Q z S/\(z=0->a7 w0 F [a,v] S [(a,G.bR),(v,G.Cell)] X.KP #[.agg #[.int .i32 A, .int .i32 B, .int .i32 C, .int .i32 aD,D E,D bT, .int .u8 ak, .int .u8 bo, .int .u8 J, .int .u8 K,D L, .int .u8 bj, .int .u8 N, .int .u8 eE, .int .u8 P, .int .u8 R]] .bool λW Y=>gL Y (aa w0 F W Q (.tuple #[.bool false,D 0])) (cC w0 W [(a,G.bR),(v,G.Cell)] X.QE #[.agg #[.int .i32 A, .int .i32 B, .int .i32 C, .int .i32 aD,D E,D bT, .int .u8 ak, .int .u8 bo, .int .u8 J, .int .u8 K,D L, .int .u8 bj, .int .u8 N, .int .u8 eE, .int .u8 P, .int .u8 R], .int .i32 r] λa1 gd fq=>∃ac:bC,∃aB,bW gd (.tuple #[.agg ac.T,D aB]) w0 F [a,v] a1 fq (aG fq λjE=>(aB≠0->aa w0 F fq Q (.tuple #[.bool false,D 0]))/\(aB=0->a7 w0 F [a,v,jE] fq [(a,G.bR),(v,G.Cell),(jE,G.Cell)] X.G7 #[al g,D c.row,D y, .agg ac.T] D λmT lz=>aa w0 F mT Q (.tuple #[.bool true,D lz])))))))))):aO X.UB #[al g, .agg c.T, .int .i32 r] w0 F Q:=eV [] [⟨9,[9],[]⟩,⟨15,[9,11],[1]⟩] [.aY g 0, .agg (Cu.bN.enc c), .int .i32 r] h
end Go.Proofs.YtimbpmnbbfeogaaGreatDoor
namespace Go.Proofs.YtimbpmnbbfeogaaGreatDoor
open Go Go.RowKit Go.Sy Go.Rep
section
variable{w0 w w' w1:World}{g aR:cV}{bs:List Nat}{r r':cc}{R:Ending->World->Prop}
theorem aAZ{x:Int}(h:1<=fx x):x≠0:=by rintro rfl;revert h;decide
theorem ahR{x:Int}:fx x<=2:=by
 unfold fx
 repeat' split
 all_goals decide
theorem aAR{aV:Int}{p:aT}(h:1<=fx aV)(hp:h0 p=true):ea ⟨aV,0,0,0,fx aV,p⟩=true:=by
 have aW:=aAZ h;have hw:decide (0<fx aV)=true:=l8 M;simp[ea,hp,aW,IS,ud,hw]
theorem ahF{p:aT}:ea (ed p)=h0 p:=by simp[ea,ed]
def kV(r:cc)(aV:Int)(p:aT):bC:=if(r.ai:Int)<fx aV then ed p else⟨aV,0,0,0,fx aV,p⟩
def CY(r:cc)(c:Cu)(aV:Int)(p:aT):Int:=min c.ae (r.ai-(kV r aV p).w)
def Ac(r:cc)(c:Cu)(aV:Int)(p:aT)(jL:Bool):cc:=nj (if jL=true then mP r c.row (CY r c aV p) (kV r aV p).w p else r) c.row (CY r c aV p) (kV r aV p)
def vt(r:cc)(c:Cu)(aV:Int)(p:aT)(auto:Bool):Cu:=if CY r c aV p+(kV r aV p).w<r.ai then⟨c.row,CY r c aV p+(kV r aV p).w,false⟩ else⟨c.row,r.ai-1,auto⟩
theorem ar4{aV:Int}{p:aT}(h1:1<=fx aV)(hc:1<=r.ai)(hp:ea (ed p)=true):ea (kV r aV p)=true/\1<=(kV r aV p).w/\(kV r aV p).w<=2/\(kV r aV p).w<=r.ai:=by
 have h2:=ahR (x:=aV);unfold kV;split
 ·exact⟨hp,n4 1,show(1:Int)<=2 by decide,by show(1:Int)<=r.ai;omega⟩
 ·exact⟨aAR h1 (by rw[<-ahF];exact hp),h1,h2,by dsimp;omega⟩
theorem afw{row ae:Int}{c:bC}(h1:0<=row)(h2:row<r.ab.length)(aw:0<=ae)(aZ:ae+c.w<=r.ai)(ca:1<=c.w)(ah:ea c=true):o7 r row ae c=0:=by
 unfold o7;rw[Qd h1 h2 aw M,ag aS,ag (by rw[ah];simp;omega)]
theorem ato{c:Cu}{aV:Int}{p:aT}{auto jL:Bool}(aj:Laid w)(h:dA w g)(hc:gM g.aC c)(h1:1<=fx aV)(hp:ea (ed p)=true)(hw:pc g.aC c (fx aV) auto=false):bI Tryz.prog X.UC #[g.ptr, .agg c.T, .int .i32 aV, .agg p.T, .bool auto, .bool jL] w (dY g) (λv w'=>v= .tuple #[.agg (vt g.aC c aV p auto).T, .int .i64 0]/\iS w g (Ac g.aC c aV p jL) w'):=by
 have hd:=h.ld;have hc':=hc;obtain⟨bY,c2,c3,c4,c5⟩:=hc';have vd:h0 p=true:=by rw[<-ahF];exact hp
 obtain⟨hE,iQ,vE,xa⟩:=ar4 (r:=g.aC) (aV:=aV) h1 M hp;obtain⟨ae,ri⟩:∃ae,ae=CY g.aC c aV p:=⟨_,rfl⟩;have a8:0<=ae/\ae+(kV g.aC aV p).w<=g.aC.ai/\ae<g.aC.ai:=by subst ri;unfold CY;omega
 have alx:pP g.aC c.row ae (kV g.aC aV p).w p=0:=Wi bY c2 a8.1 a8.2.2 hp;have amc:∀x:Int,x=(kV g.aC aV p).w->min c.ae ((g.aC.ai:Int)-x)=ae:=λx e=>by rw[ri,e];rfl
 have aF:(g.aC.ai:Int)<fx aV->ed p=kV g.aC aV p:=λe=>by rw[kV,aA e]
 have arh:fx aV<=(g.aC.ai:Int)->(⟨aV,0,0,0,fx aV,p⟩:bC)=kV g.aC aV p:=λe=>by rw[kV,ag M]
 have hY:=aj.size;obtain⟨c1,j4⟩:∃c1,c1=(if jL=true then mP g.aC c.row ae (kV g.aC aV p).w p else g.aC):=⟨_,rfl⟩;have ac5:c1.ai=g.aC.ai:=by rw[j4];split<;>simp[av1]
 have aoQ:c1.ab.length=g.aC.ab.length:=by rw[j4];split<;>simp[ag7]
 have Q8:=afw (r:=c1) (row:=c.row) (ae:=ae) bY (by rw[aoQ];exact c2) a8.1 (by rw[ac5];exact a8.2.1) iQ hE;have zu:Ac g.aC c aV p jL=nj c1 c.row ae (kV g.aC aV p):=by rw[j4,ri];rfl
 refine ayx _ c aV p auto jL λar ec aQ gA cH jJ w1 hb1 fb=>?_
 have bX:=(bB.start (bs:=[ar,aQ,cH]) aj h ej).below hb1;refine RE bX hc λad aX aI=>⟨_,rfl,aI.O,λe=>absurd rfl e,λ_ bw bp fN=>?_⟩
 refine bB.pure Bp (aX.below bp) λbD cg bO=>⟨_,rfl,bO.O,λe=>M,λ_ bP hb5 om=>?_⟩
 refine bB.pure v_ (cg.below hb5) λcu eJ dK=>⟨_,rfl,dK.O,λw7 c8 mh=>?_⟩
 refine bB.pure zg (eJ.below c8) λcW eP br=>⟨_,rfl,br.O,λe=>XF,λ_ cR cr dO=>?_⟩
 refine abE (eP.below cr) λgn lH jI=>⟨_,rfl,jI.O,λe=>(by rw[hw] at e;cases e),λ_ hC fs rl=>?_⟩
 refine bB.get (lH.below fs) (λtD=>asB tD h1 vd) λv kl hq nT iZ=>?_
 obtain⟨q,k,rfl,ho⟩:=hq;obtain⟨xc,a,ha,dB⟩:=arv ho;refine⟨_,_,_,_,rfl,iZ.O,λe=>absurd rfl e,λ_=>⟨a,ha,⟨by omega,xc⟩,⟨aV,0,0,0,fx aV,p⟩,dB,λi1 acK=>?_⟩⟩;have Vl:bB w g [ar,aQ,cH,i1] g.aC kl:=nT.cZ acK;have acF:∀b∈[ar,aQ,cH,i1],w.heap.size<=b:=by have:=nT.2.1.size;simp;omega
 refine⟨λa0 dd a2 a3 a4 a8 aK k3 k4 dW fj fe fu gI fZ jd w'=>(⟨a0,dd,a2,a3,a4,⟨⟨a8,aK,k3,k4,dW⟩,⟨fj,fe,fu,gI,fZ⟩,jd⟩⟩:bC)=kV g.aC aV p/\bB w g [ar,aQ,cH,i1] g.aC w',λJz Hl aog=>?_,?_⟩
 ·refine qg (Vl.below Hl) λOK I' HI=>⟨_,rfl,HI.O,λe Xa Hm aoh=>?_,λe W_ am8=>⟨arh e,I'.below am8⟩⟩
  exact bB.pure v_ (I'.below Hm) λahJ NV B7=>⟨_,rfl,B7.O,λahK anv=>⟨aF e,bB.oP anv NV aS acF hY⟩⟩
 ·rintro a0 dd a2 a3 a4 a8 aK k3 k4 dW fj fe fu gI fZ jd jy HD ⟨hx,yI⟩ k2 py aob
  have zw:a4=(kV g.aC aV p).w:=by rw[<-hx]
  refine qg (yI.below py) λoz vy L4=>⟨_,rfl,L4.O,by unfold ay;omega,?_⟩
  rw[amc a4 zw];refine⟨λw'=>bB w g [ar,aQ,cH,i1] c1 w',⟨λe vC zy aof=>?_,λe rQ tE=>(by rw[j4,e];exact vy.below tE)⟩,?_⟩
  ·refine RC (vy.below zy) (cB.all aof) M λw_ C6 HH=>⟨_,rfl,HH,λe2=>absurd (by rw[zw];exact alx) e2,λ_ uv xZ=>?_⟩
   rw[j4,aA e,<-zw];exact C6.below xZ
  ·intro nX su j7 l7 xY Sx
   refine abz (c:=⟨a0,dd,a2,a3,a4,⟨⟨a8,aK,k3,k4,dW⟩,⟨fj,fe,fu,gI,fZ⟩,jd⟩⟩) (j7.below xY) (cB.all Sx) λlK ui Eh=>⟨_,rfl,Eh,λe=>absurd (by rw[hx];exact Q8) e,λ_=>⟨by unfold ay;omega,λqO sn aoc=>?_⟩⟩
   rw[hx] at ui;have x1:(nj c1 c.row ae (kV g.aC aV p)).ai=g.aC.ai:=by rw[ar',ac5]
   have bQ:∀{v:World} {az:Cu},bB w g [ar,aQ,cH,i1] (nj c1 c.row ae (kV g.aC aV p)) v->az=vt g.aC c aV p auto->bn w (dY g) v [cH] (λv w'=>v= .tuple #[.agg (vt g.aC c aV p auto).T, .int .i64 0]/\iS w g (Ac g.aC c aV p jL) w') (.tuple #[.agg az.T, .int .i64 0]):=λs e w' he _=>⟨by rw[e],by rw[zu];exact(bB.oP he s aS acF hY).bQ (Below.refl _ _)⟩
   refine qg (ui.below sn) λkm qI zD=>⟨_,rfl,zD.O,λe=>?_,λe ln oS acI=>?_⟩
   ·rw[x1] at e
    refine bQ (az:=⟨c.row,ae+a4,false⟩) qI ?_;rw[vt,<-ri,<-zw,aA e]
   ·rw[x1] at e
    refine qg (qI.below oS) λuu Al HG=>⟨_,rfl,HG.O,by unfold ay;rw[x1];omega,?_⟩
    rw[x1];refine bQ (az:=⟨c.row,(g.aC.ai:Int)-1,auto⟩) Al ?_;rw[vt,<-ri,<-zw,ag M]
end
section
variable{w0 w w' w1:World}{g aR:cV}{bs:List Nat}{r r':cc}{R:Ending->World->Prop}
theorem agp{l:List bC}:∀{k:Nat} {i:Nat},sU l k=true->i<k->rI l i=true
 |0,i,_,h=>by omega
 |k+1,i,h,hi=>by
  rw[sU,fR] at h
  by_cases e:i=k
  ·subst e;exact h.2
  ·exact agp h.1 M
theorem au7{l:List bC}(h:vx l=true){j:Nat}(hj:j<l.length):ea (cP l j)=true/\((cP l j).w=0↔0<j/\(cP l (j-1)).w=2)/\((cP l j).w=2->j+1<l.length):=by
 have:=agp h hj;unfold rI zc at this;simp only[fR,jN,beq_iff_eq] at this;obtain⟨⟨⟨h1,h2⟩,_⟩,aZ⟩:=this;have e:((j:Int)-1).toNat=j-1:=by omega
 rw[e] at h2;refine⟨h1,?_,?_⟩
 ·have:decide ((cP l j).w=0)=true↔(decide ((0:Int)<j)&&decide ((cP l (j-1)).w=2))=true:=by rw[h2]
  simpa using this
 ·intro ca
  simp[ca] at aZ;omega
theorem ahG{c:bC}(h:ea c=true):0<=c.w/\c.w<=2/\(c.r≠0->1<=c.w/\c.w=fx c.r):=by
 unfold ea at h;rw[fR] at h;obtain⟨_,h⟩:=h;split at h
 ·rename_i aW
  simp at h;refine⟨?_,?_,λe=>absurd aW e⟩<;>omega
 ·simp at h
  have:=ahR (x:=c.r);refine⟨?_,?_,λ_=>⟨?_,h.2.2⟩⟩<;>omega
theorem aq3{c:bC}{aV:Int}(h:ea c=true)(hw:fx aV=0)(hr:c.r≠0)(bk:wo c=false):ea (yn c aV)=true/\(yn c aV).w=c.w:=by
 have hz:aV≠0:=by rintro rfl;revert hw;decide
 have hn:¬(c.hZ≠0/\c.fE≠0/\c.fQ≠0):=by
  intro ⟨a,b,d⟩;simp[wo,a,b,d] at bk
 unfold ea at h⊢;rw[fR,ag hr] at h;obtain⟨h1,h2⟩:=h;simp only[IS,ud] at h2⊢;unfold yn
 by_cases e0:c.hZ=0
 ·rw[aA e0]
  refine⟨?_,rfl⟩;simp[h1,hr];simp[e0] at h2;simp[h2,hw];obtain⟨⟨q1,q2⟩,cz,en⟩:=h2;rw[<-en];exact⟨q2.resolve_right λq=>q.2 q1,cz⟩
 ·rw[ag e0]
  by_cases e1:c.fE=0
  ·rw[aA e1]
   refine⟨?_,rfl⟩;simp[h1,hr];simp[e0,e1] at h2;simp[h2,hw,e0];have:=h2.2;omega
  ·rw[ag e1]
   by_cases e2:c.fQ=0
   ·rw[aA e2]
    refine⟨?_,rfl⟩;simp[h1,hr];simp[e0,e1,e2] at h2;simp[h2,hw,e0,e1];have:=h2.2;omega
   ·exact absurd ⟨e0,e1,e2⟩ hn
def sK(c:Cu):Int:=if c.dC=true then c.ae else c.ae-1
def kv(cs:List bC)(c:Cu):Int:=if(cP cs (sK c).toNat).w=0 then sK c-1 else sK c
def tZ(cs:List bC)(c:Cu):Bool:=decide (0<=sK c)&&(decide ((cP cs (kv cs c).toNat).r≠0)&& !wo (cP cs (kv cs c).toNat))
def CF(r:cc)(c:Cu)(aV:Int):cc:=if tZ (hX r.ab c.row.toNat).cs c=true then nj r c.row (kv (hX r.ab c.row.toNat).cs c) (yn (cP (hX r.ab c.row.toNat).cs (kv (hX r.ab c.row.toNat).cs c).toNat) aV) else r
theorem atn{c:Cu}{aV:Int}(aj:Laid w)(h:dA w g)(hc:gM g.aC c)(h1:fx aV=0)(ah:vx (hX g.aC.ab c.row.toNat).cs=true)(hl:(hX g.aC.ab c.row.toNat).cs.length=g.aC.ai):bI Tryz.prog X.UB #[g.ptr, .agg c.T, .int .i32 aV] w (dY g) (λv w'=>v= .tuple #[.bool (tZ (hX g.aC.ab c.row.toNat).cs c), .int .i64 0]/\iS w g (CF g.aC c aV) w'):=by
 have hd:=h.ld;have hc':=hc;obtain⟨bY,c2,c3,c4,c5⟩:=hc';have hY:=aj.size;obtain⟨cs,jH⟩:∃cs,cs=(hX g.aC.ab c.row.toNat).cs:=⟨_,rfl⟩;rw[<-jH] at ah hl;have xV:CF g.aC c aV=if tZ cs c=true then nj g.aC c.row (kv cs c) (yn (cP cs (kv cs c).toNat) aV) else g.aC:=by rw[jH];rfl
 rw[<-jH,xV];have dB:∀ae:Int,0<=ae->ae<g.aC.ai->DO g.aC c.row ae=cP cs ae.toNat/\nE g.aC c.row ae=0:=λae a b=>by
  have:=Qd bY c2 a b;exact⟨by unfold DO;rw[aA this,jH],this⟩
 have hcell:∀ae:Int,0<=ae->ae<g.aC.ai->ea (cP cs ae.toNat)=true/\((cP cs ae.toNat).w=0↔0<ae/\(cP cs (ae-1).toNat).w=2)/\((cP cs ae.toNat).w=2->ae+1<g.aC.ai):=λae a b=>by
  obtain⟨q1,q2,cz⟩:=au7 ah (j:=ae.toNat) M;rw[show ae.toNat-1=(ae-1).toNat by omega] at q2;exact⟨q1,by rw[q2];constructor<;>intro ⟨x,y⟩<;>exact⟨by omega,y⟩,λe=>by have:=cz e;omega⟩
 refine ayw _ c aV λar ec w1 hb1 fb=>?_
 have bX:=(bB.start (bs:=[ar]) aj h ej).below hb1;have bQ:∀{v:World} {bs:List Nat},bB w g bs g.aC v->tZ cs c=false->aa w (dY g) v (λv w'=>v= .tuple #[.bool (tZ cs c), .int .i64 0]/\iS w g (if tZ cs c=true then nj g.aC c.row (kv cs c) (yn (cP cs (kv cs c).toNat) aV) else g.aC) w') (.tuple #[.bool false, .int .i64 0]):=λs e w' hb _=>⟨by rw[e],by rw[e];exact s.bQ hb⟩
 refine RE bX hc λad aX aI=>⟨_,rfl,aI.O,λe=>absurd rfl e,λ_ bw bp fN=>?_⟩
 refine bB.pure Bp (aX.below bp) λbD cg bO=>⟨_,rfl,bO.O,λe=>absurd h1 e,λ_=>⟨λi w'=>i=sK c/\bB w g [ar] g.aC w',⟨λe=>⟨by unfold ay;omega,λrQ hb=>⟨by rw[sK,ag (by rw[e];simp)],cg.below hb⟩⟩,λe AA hb=>⟨by rw[sK,aA e],cg.below hb⟩⟩,?_⟩⟩
 rintro i bP eH ⟨rfl,ey⟩;have hlt:sK c<g.aC.ai:=by unfold sK;split<;>omega
 refine⟨λe=>bQ ey ?_,λaW cu ep oX=>?_⟩
 ·rw[tZ,kp M,Gb]
 obtain⟨dd,a2⟩:=dB _ aW hlt;obtain⟨b1,b2,b3⟩:=hcell _ aW hlt;refine abx (ey.below ep) λw7 jv e_=>⟨_,_,rfl,e_.O,λaQ gA=>?_⟩
 have agE:bB w g [ar,aQ] g.aC w7:=jv.cZ gA;have aoa:∀b∈[ar,aQ],w.heap.size<=b:=by have:=jv.2.1.size;simp;omega
 have oW:(cP cs (sK c).toNat).w=0->0<=sK c-1:=λe=>by have:=(b2.1 e).1;omega
 have hmc:0<=kv cs c/\kv cs c<g.aC.ai:=by
  unfold kv;split
  ·rename_i e
   have:=oW e;omega
  ·omega
 rw[dd,a2];refine⟨λj e2 a0 dd a2 a3 a4 a8 aK k3 k4 dW fj fe fu gI fZ jd w'=>j=kv cs c/\e2=0/\(⟨a0,dd,a2,a3,a4,⟨⟨a8,aK,k3,k4,dW⟩,⟨fj,fe,fu,gI,fZ⟩,jd⟩⟩:bC)=cP cs (kv cs c).toNat/\bB w g [ar,aQ] g.aC w',⟨λ_=>⟨λe=>⟨by unfold ay;omega,λln oS acI=>?_⟩,λe km qk=>?_⟩,λe=>absurd rfl e⟩,?_⟩
 ·obtain⟨d1,j2⟩:=dB _ (oW e) M
  refine abx (agE.below oS) λuu Al HG=>⟨_,_,rfl,HG.O,λs4 ant=>?_⟩
  have em:kv cs c=sK c-1:=by rw[kv,aA e]
  rw[d1,j2,em];exact⟨rfl,rfl,rfl,bB.oP ant Al aS aoa hY⟩
 ·have em:kv cs c=sK c:=by rw[kv,ag e]
  rw[em];exact⟨rfl,rfl,rfl,agE.below qk⟩
 rintro j e2 a0 dd a2 a3 a4 a8 aK k3 k4 dW fj fe fu gI fZ jd cW br ⟨rfl,rfl,hx,eP⟩;obtain⟨hE,iQ,vE⟩:=hcell _ hmc.1 hmc.2;have hz:(cP cs (kv cs c).toNat).w≠0:=by
  unfold kv;split
  ·rename_i e
   rw[(b2.1 e).2];decide
  ·rename_i e;exact e
 refine⟨λe=>absurd rfl e,λ_ cR cr dO=>?_⟩;refine bB.pure (Z0 (c:=⟨a0,dd,a2,a3,a4,⟨⟨a8,aK,k3,k4,dW⟩,⟨fj,fe,fu,gI,fZ⟩,jd⟩⟩)) (eP.below cr) λgn lH jI=>⟨_,rfl,jI.O,?_⟩
 rw[hx];refine⟨λe=>bQ lH ?_,λe hC fs rl=>?_⟩
 ·rw[tZ,e];simp
 have hr:(cP cs (kv cs c).toNat).r≠0:=by simpa using e
 refine bB.pure (ajU (c:=⟨a0,dd,a2,a3,a4,⟨⟨a8,aK,k3,k4,dW⟩,⟨fj,fe,fu,gI,fZ⟩,jd⟩⟩) (by rw[hx];exact hE) h1 (by rw[hx];exact hr)) (lH.below fs) λkl nT iZ=>⟨_,_,rfl,iZ.O,λcH jJ=>?_⟩
 rw[hx];have Vl:bB w g [ar,aQ,cH] g.aC kl:=nT.cZ jJ;refine⟨λe2=>bQ nT ?_,λe2 jy kM Ej=>?_⟩
 ·have bk:wo (cP cs (kv cs c).toNat)=true:=by
   cases hq:wo (cP cs (kv cs c).toNat) with
   |true=>rfl
   |false=>rw[hq] at e2;exact absurd rfl e2
  rw[tZ,bk];simp
 have bk:wo (cP cs (kv cs c).toNat)=false:=by
  cases hq:wo (cP cs (kv cs c).toNat) with
  |false=>rfl
  |true=>rw[hq] at e2;exact absurd e2 du
 have LQ:tZ cs c=true:=by rw[tZ,e,bk,l8 aW];rfl
 obtain⟨h5,h6⟩:=aq3 hE h1 hr bk;obtain⟨nk,gu,s0⟩:=ahG hE;have ri:kv cs c+(cP cs (kv cs c).toNat).w<=g.aC.ai:=by
  by_cases q:(cP cs (kv cs c).toNat).w=2
  ·have:=vE q
   omega
  ·omega
 refine abz (Vl.below kM) (cB.all Ej) λk2 kY oi=>⟨_,rfl,oi,λw' hb _=>⟨?_,?_⟩⟩
 ·rw[afw bY c2 hmc.1 (by rw[h6];exact ri) (by rw[h6];omega) h5,LQ]
 ·rw[aA LQ]
  exact kY.bQ hb
end
end Go.Proofs.YtimbpmnbbfeogaaGreatDoor
namespace Go.Sy
open Go.RowKit (Below)
structure I where
 F:Nat->Prop
 P:World->Prop
 lt:∀{w:World} {i:Nat},P w->F i->i<w.heap.size
 low:∀{w:World} {i:Nat},P w->F i->Go.Proofs.YtimbpmnbbfeogaaGreatDoor.Y.dZ<=i
 ax:∀{w w':World} {bT:Nat->Prop},P w->U bT w w'->(∀i,bT i->¬F i)->P w'
theorem I.O(o:I){w w':World}(h:o.P w)(hk:U bg w w'):o.P w':=o.ax h hk λ_ e=>e.elim
def I.aF(b:Nat)(t:TypeId)(cs:List Value):I:=
 ⟨λi=>i=b,λw=>Whole w b t cs/\Go.Proofs.YtimbpmnbbfeogaaGreatDoor.Y.dZ<=b,λh e=>by rw[e];exact h.1.lt,λh e=>by rw[e];exact h.2,λh hk bc=>⟨h.1.ax hk λe=>bc _ e rfl,h.2⟩⟩
def I.none:I:=⟨λ_=>False,λ_=>True,λ_ e=>e.elim,λ_ e=>e.elim,λ_ _ _=>trivial⟩
def I.sep(os:List I):I:=
 ⟨λi=>∃o∈os,o.F i,λw=>(∀o∈os,o.P w)/\os.Pairwise λa b=>∀i,a.F i->¬b.F i,λh ⟨o,ho,e⟩=>o.lt (h.1 o ho) e,λh ⟨o,ho,e⟩=>o.low (h.1 o ho) e,
  λh hk bc=>⟨λo ho=>o.ax (h.1 o ho) hk λi hi e=>bc i hi ⟨o,ho,e⟩,h.2⟩⟩
theorem I.agO{bM bq:List I}{o o':I}{w w':World}(h:(I.sep (bM++o::bq)).P w)(hk:U o.F w w')(ho:o'.P w')(bc:∀i,o'.F i->o.F i∨w.heap.size<=i):
  (I.sep (bM++o'::bq)).P w'/\∀i,(I.sep (bM++o'::bq)).F i->(I.sep (bM++o::bq)).F i∨w.heap.size<=i:=by
 obtain⟨h1,h2⟩:=h;have hp:=uz.1 h2;have hq:=xd.1 hp.2.1;have oU:∀x∈bM,x.P w/\∀i,o.F i->¬x.F i:=λx hx=>⟨h1 x yV,λi hi e=>hp.2.2 x hx o aS i e hi⟩
 have oV:∀x∈bq,x.P w/\∀i,o.F i->¬x.F i:=λx hx=>⟨h1 x yV,λi hi e=>hq.1 x hx i hi e⟩
 refine⟨⟨λx hx=>?_,uz.2 ⟨hp.1,xd.2 ⟨λx hx i hi e=>?_,hq.2⟩,λx hx y hy i hi e=>?_⟩⟩,?_⟩
 ·rcases gi.1 hx with q|q
  ·exact x.ax (oU x q).1 hk (oU x q).2
  ·rcases e7.1 q with rfl|q
   ·exact ho
   ·exact x.ax (oV x q).1 hk (oV x q).2
 ·rcases bc i hi with q|q
  ·exact(oV x hx).2 i q e
  ·have:=x.lt (oV x hx).1 e
   omega
 ·rcases e7.1 hy with rfl|hy
  ·rcases bc i e with q|q
   ·exact(oU x hx).2 i q hi
   ·have:=x.lt (oU x hx).1 hi
    omega
  ·exact hp.2.2 x hx y (by simp[hy]) i hi e
 ·rintro i ⟨x,hx,e⟩
  rcases gi.1 hx with q|q
  ·exact .inl ⟨x,by simp[q],e⟩
  ·rcases e7.1 q with rfl|q
   ·exact(bc i e).imp (λe=>⟨o,by simp,e⟩) id
   ·exact .inl ⟨x,by simp[q],e⟩
structure af(w0:World)(F0:Nat->Prop)(bs:List Nat)(o:I)(w:World):Prop where
 laid:Go.Proofs.YtimbpmnbbfeogaaGreatDoor.Laid w
 kept:U F0 w0 w
 at_:o.P w
 own:∀i,o.F i->(F0 i∨w0.heap.size<=i)/\i∉bs
section
variable{w0 w w':World}{F0:Nat->Prop}{bs:List Nat}{o o':I}{bM bq:List I}
theorem af.start(aj:Go.Proofs.YtimbpmnbbfeogaaGreatDoor.Laid w0)(h:o.P w0)(hb:∀b∈bs,w0.heap.size<=b):af w0 o.F bs o w0:=
 ⟨aj,U.refl _ _,h,λi hi=>⟨.inl hi,λhm=>by have:=o.lt h hi;have:=hb i hm;omega⟩⟩
theorem af.O(h:af w0 F0 bs o w)(hk:U bg w w'):af w0 F0 bs o w':=⟨Go.Proofs.YtimbpmnbbfeogaaGreatDoor.Laid.O hk h.laid,h.kept.trans (hk.mono λ_ e=>e.elim),o.O h.at_ hk,h.own⟩
theorem af.below(h:af w0 F0 bs o w)(hb:Below w.heap.size w w'):af w0 F0 bs o w':=h.O (U.au hb)
theorem af.cZ(h:af w0 F0 bs o w){n:Nat}(hn:w.heap.size<=n):af w0 F0 (bs++[n]) o w:=⟨h.laid,h.kept,h.at_,λi hi=>⟨(h.own i hi).1,λhm=>by
 rcases gi.1 hm with q|q
 ·exact(h.own i hi).2 q
 ·rw[gg] at q
  have:=o.lt h.at_ hi
  omega⟩⟩
theorem af.ext(h:af w0 F0 bs o w){cf:List Nat}(he:dV w cf w')(hd:∀d∈cf,d∈bs)(fa:∀b∈bs,w0.heap.size<=b)(hY:Go.Proofs.YtimbpmnbbfeogaaGreatDoor.Y.dZ<=w0.heap.size):af w0 F0 bs o w':=by
 have hk:=Go.Proofs.YtimbpmnbbfeogaaGreatDoor.dV.ax he;have u6:∀i,i∈cf->w0.heap.size<=i:=λi hi=>fa i (hd i hi)
 exact⟨h.laid.ax hk λi hi=>ek hY (u6 i hi),h.kept.after hk λi hlt hi=>by have:=u6 i hi;omega,o.ax h.at_ hk λi hi bk=>(h.own i bk).2 (hd i hi),h.own⟩
theorem af.step(bM bq:List I)(h:af w0 F0 bs (I.sep (bM++o::bq)) w)(hm:∀b∈bs,b<w.heap.size)(hk:U o.F w w')(ho:o'.P w')(bc:∀i,o'.F i->o.F i∨w.heap.size<=i):af w0 F0 bs (I.sep (bM++o'::bq)) w'/\eC w0.heap.size F0 bs w w':=by
 obtain⟨q1,q2⟩:=I.agO h.at_ hk ho bc;have ev:∀i,o.F i->(I.sep (bM++o::bq)).F i:=λi hi=>⟨o,by simp,hi⟩
 have BZ:∀i,o.F i->i<w0.heap.size->F0 i:=λi hi hlt=>((h.own i (ev i hi)).1).resolve_right M
 refine⟨⟨h.laid.ax hk λi hi=>(I.sep _).low h.at_ (ev i hi),h.kept.after hk λi hlt hi=>BZ i hi hlt,q1,λi hi=>?_⟩,hk.kept BZ λi hi _=>(h.own i (ev i hi)).2⟩;rcases q2 i hi with q|q
 ·exact h.own i q
 ·exact⟨.inr (ek h.kept.size q),λhb=>by have:=hm i hb;omega⟩
theorem af.get(bM bq:List I)(h:af w0 F0 bs (I.sep (bM++o::bq)) w):o.P w:=h.at_.1 o aS
theorem af.put{b o n:Nat}{t:TypeId}{cs vs:List Value}(bM bq:List I)(h:af w0 F0 bs (I.sep (bM++I.aF b t cs::bq)) w)(ho:o+vs.length<=cs.length)(hp:bH w [] ⟨b,0,none⟩ o vs w'):af w0 F0 bs (I.sep (bM++I.aF b t (cs.take o++(vs++cs.drop (o+vs.length)))::bq)) w':=by
 have hw:=af.get bM bq h;have hk:U (I.aF b t cs).F w w':=hp.ax rfl;obtain⟨q1,q2⟩:=I.agO (o':=I.aF b t (cs.take o++(vs++cs.drop (o+vs.length)))) h.at_ hk ⟨hw.1.put hp ho,hw.2⟩ λi hi=> .inl hi
 have ev:(I.sep (bM++I.aF b t cs::bq)).F b:=⟨I.aF b t cs,by simp,rfl⟩;refine⟨h.laid.ax hk λi hi=>by rw[show i=b from hi];exact hw.2,h.kept.after hk λi hlt hi=>by rw[show i=b from hi] at hlt⊢;exact((h.own b ev).1).resolve_right M,q1,λi hi=>?_⟩;obtain⟨x,hx,e⟩:=hi;rcases gi.1 hx with q|q
 ·exact h.own i ⟨x,by simp[q],e⟩
 ·rcases e7.1 q with rfl|q
  ·exact h.own i ⟨I.aF b t cs,by simp,e⟩
  ·exact h.own i ⟨x,by simp[q],e⟩
theorem af.Ae{b o n:Nat}{t:TypeId}{cs vs:List Value}{cf:List Nat}(bM bq:List I)(h:af w0 F0 bs (I.sep (bM++I.aF b t cs::bq)) w)(ho:o+vs.length<=cs.length)(hd:∀d∈cf,d∈bs)(fa:∀b∈bs,w0.heap.size<=b)(hY:Go.Proofs.YtimbpmnbbfeogaaGreatDoor.Y.dZ<=w0.heap.size)(hp:bH w cf ⟨b,0,none⟩ o vs w'):af w0 F0 bs (I.sep (bM++I.aF b t (cs.take o++(vs++cs.drop (o+vs.length)))::bq)) w':=by
 obtain⟨Xk,fb,tJ⟩:∃Xk,dV w cf Xk/\bH Xk [] ⟨b,0,none⟩ o vs w':=by
  obtain⟨akY,sq,mg,Hs⟩:=hp.u7 _ _ (af.get bM bq h).1;have jG:=(af.get bM bq h).1.lt;refine⟨{w' with heap:=w'.heap.setIfInBounds b (.cells cs.toArray t (0,0))},⟨hp.os,hp.tape,hp.output,by simpa using hp.size,λi hi hn=>?_⟩,⟨rfl,rfl,rfl,by simp,λi hi _ hne=>?_,λxG t2 h2=>?_⟩⟩
  ·by_cases e:i=b
   ·subst e
    have:=(af.get bM bq h).1;unfold Whole at this;rw[this];simp[gp jG hp.size]
   ·rw[Dq (xe e)]
    exact hp.heap i hi hn e
  ·rw[Dq (xe hne)]
  ·simp[gp jG hp.size] at h2
   obtain⟨rfl,rfl⟩:=h2;exact⟨akY,sq,mg,Hs⟩
 exact af.put (n:=n) bM bq (af.ext h fb hd fa hY) ho tJ
theorem af.drop{l l':List I}(h:af w0 F0 bs (I.sep l) w)(hs:List.Sublist l' l):af w0 F0 bs (I.sep l') w:=
 ⟨h.laid,h.kept,⟨λo ho=>h.at_.1 o (hs.subset ho),h.at_.2.sublist hs⟩,λi ⟨o,ho,e⟩=>h.own i ⟨o,hs.subset ho,e⟩⟩
theorem I.agP{l:List I}{o:I}{w:World}(h:(I.sep l).P w)(ho:o.P w)(hd:∀i,(I.sep l).F i->¬o.F i):(I.sep (l++[o])).P w:=
 ⟨λx hx=>by
  rcases gi.1 hx with q|q
  ·exact h.1 x q
  ·rw[gg] at q;subst q;exact ho,uz.2 ⟨h.2,Dr _ _,λx hx y hy i hi e=>by rw[gg] at hy;subst hy;exact hd i ⟨x,hx,hi⟩ e⟩⟩
theorem I.agN{l:List I}{o:I}{i:Nat}:(I.sep (l++[o])).F i↔(I.sep l).F i∨o.F i:=by
 constructor
 ·rintro⟨x,hx,e⟩
  rcases gi.1 hx with q|q
  ·exact .inl ⟨x,q,e⟩
  ·rw[gg] at q;subst q;exact .inr e
 ·rintro(⟨x,hx,e⟩|e)
  ·exact⟨x,pd _ hx,e⟩
  ·exact⟨o,by simp,e⟩
theorem af.ch{b o n:Nat}{t:TypeId}{cs:List Value}(bM bq:List I)(h:af w0 F0 bs (I.sep (bM++I.aF b t cs::bq)) w)(ho:o+n<=cs.length):ct w ⟨b,0,none⟩ o n/\cp w0.heap.size F0 bs b:=by
 have ev:(I.sep (bM++I.aF b t cs::bq)).F b:=⟨I.aF b t cs,by simp,rfl⟩;exact⟨(af.get bM bq h).1.ch ho,(h.own b ev).2,λhlt=>((h.own b ev).1).resolve_right M⟩
theorem af.cells{b o:Nat}{t:TypeId}{cs cj:List Value}(bM bq:List I)(h:af w0 F0 bs (I.sep (bM++I.aF b t cs::bq)) w)(hl:cs.length<=maxLen)(hu:cj=(cs.drop o).take cj.length):At w ⟨b,0,none⟩ o cj:=by
 have:=((af.get bM bq h).1.at_ hl).sub o hu;rwa[iR] at this
end
end Go.Sy
namespace Go.Proofs.YtimbpmnbbfeogaaGreatDoor
open Go Go.RowKit Go.Sy Go.Rep
variable{w0:World}{F:Nat->Prop}{Q:Value->World->Prop}
theorem awZ(p:Addr)(h:∃a:ao,At w0 p 0 [.pointer a]/\aa w0 F w0 Q (.bool (bL.val (.i_ (a=none))))):aO X.p6 #[al p] w0 F Q:=bh [.aY p 0] h
theorem awU(an ai:Int)(h:aG w0 λa=>∃b:Int->Option Addr->Option Addr->Int->Int->Option Addr->World->Prop,∃c:Int->Option Addr->Option Addr->Int->Int->Option Addr->Nat,(bm w0 λd=>b 0 none none 0 0 none d)/\∀d:Int,∀e f:ao,∀g i:Int,∀j:ao,∀k:World,U F w0 k->b d e f g i j k->bG d 2 (cC w0 k [(a,G.ma)] X.Rz #[D an,D ai] λl m n=>∃o:ao,∃p,bW m (.tuple #[.pointer o,D p]) w0 F [a] l n ((p≠0->aa w0 F n Q (.tuple #[lk,D p]))/\(p=0->((0:Int)<=d/\d<2)/\(d=0->ay (d+1)/\∀q:World,dV n [a] q->b (d+1) o f g i j q/\c (d+1) o f g i j<c d e f g i j)/\(d=1->ay (d+1)/\∀q:World,dV n [a] q->b (d+1) e o g i j q/\c (d+1) e o g i j<c d e f g i j)/\True))) (bm k λl=>U F w0 l->w0.heap.size<=a/\Whole l a G.ma [.pointer e, .pointer f,D g,D i, .pointer j]->Q (.tuple #[ij a,D 0]) l)):aO X.P8 #[D an,D ai] w0 F Q:=eV [⟨3,[12],[0]⟩] [] [cn an,cn ai] h
theorem awV(p:Addr)(h:b9 w0 F [] w0 X.p6 #[al p] .bool λc d=>gL d (∃e,At c p 2 [D e]/\aa w0 F c Q (.bool (bL.val (.eq e 1)))) (aa w0 F c Q (.bool false))):aO X.P9 #[al p] w0 F Q:=bh [.aY p 0] h
theorem awX(p:Addr)(h:b9 w0 F [] w0 X.p6 #[al p] .bool λc d=>dQ d (aa w0 F c Q lk) (∃e,At c p 2 [D e]/\((0:Int)<=e/\e<2)/\∃f:ao,At c p (0+((Int.toNat e)*1)) [.pointer f]/\b9 w0 F [] c X.Ry #[.pointer f] .pointer λj k=>aa w0 F j Q (.pointer k))):aO X.P' #[al p] w0 F Q:=bh [.aY p 0] h
theorem aw0(p:Addr)(bV:aT)(h:aG w0 λa=>∃b:ao,At w0 p 1 [.pointer b]/\a7 w0 F [a] w0 [(a,G.b_)] X.oQ #[.pointer b] D λe f=>∃g:Int->World->Prop,∃i:Int->Nat,(bm e λj=>g 0 j)/\∀j:Int,∀k:World,U F w0 k->g j k->bG j f (a7 w0 F [a] k [(a,G.b_)] X.mf #[.pointer b] D λn o=>a7 w0 F [a] n [(a,G.b_)] X.G6 #[.pointer b,D j,D 0,D o, .agg bV.T] D λs t=>i' w0 F Q t s/\(t=0->cC w0 s [(a,G.b_)] X.BV #[.pointer b,D j, .bool false] λu v x=>∃y,v=(.returned (D y))/\J' w0 F Q [a] u x y j g i)) (aa w0 F k Q (D 0))):aO X.Kq #[al p, .agg bV.T] w0 F Q:=eV [⟨3,[16],[]⟩] [] [.aY p 0, .agg (aT.bN.enc bV)] h
theorem awW(p:Addr)(mode:Int)(s:eL)(bV:aT)(h:aG w0 λa=>aG w0 λb=>a7 w0 F [a,b] w0 [(a,G.hO),(b,G.b_)] X.p6 #[al p] .bool λe f=>pf w0 F Q f e/\(f=false->a7 w0 F [a,b] e [(a,G.hO),(b,G.b_)] X.Ks #[D mode] .bool λj k=>vO w0 F Q k j/\(k=true->a' mode 1049 (a7 w0 F [a,b] j [(a,G.hO),(b,G.b_)] X.Jc #[.agg s.T] .bool λn o=>vO w0 F Q o n/\(o=true->a7 w0 F [a,b] n [(a,G.hO),(b,G.b_)] X.Kr #[.agg bV.T] .bool λt u=>vO w0 F Q u t/\(u=true->YB w0 F Q t p a b mode s bV [(a,G.hO),(b,G.b_)] [a,b]))) (YB w0 F Q j p a b mode s bV [(a,G.hO),(b,G.b_)] [a,b])))):aO X.P_ #[al p,D mode, .agg s.T, .agg bV.T] w0 F Q:=bh [.aY p 0,cn mode, .agg (eL.bN.enc s), .agg (aT.bN.enc bV)] h
theorem awY(p:Addr)(mode:Int)(bV:aT)(h:aG w0 λa=>aG w0 λb=>a7 w0 F [a,b] w0 [(a,G.b_),(b,G.hO)] X.p6 #[al p] .bool λe f=>dQ f (bn w0 F e [b] Q (.tuple #[.agg #[D 0,D 0, .bool false,D 0, .int .u8 0, .int .u8 0, .int .u8 0, .int .u8 0,D 0, .int .u8 0, .int .u8 0, .int .u8 0, .int .u8 0, .int .u8 0, .bool false,D 0,D 0,D 0], .bool false,D 1])) (a7 w0 F [a,b] e [(a,G.b_),(b,G.hO)] X.Ks #[D mode] .bool λj k=>Yz w0 F Q k j [b]/\(k=true->a' mode 1047 (a7 w0 F [a,b] j [(a,G.b_),(b,G.hO)] X.Kr #[.agg bV.T] .bool λn o=>Yz w0 F Q o n [b]/\(o=true->Yo w0 F Q n p [b] a b mode [(a,G.b_),(b,G.hO)] bV [a,b])) (Yo w0 F Q j p [b] a b mode [(a,G.b_),(b,G.hO)] bV [a,b])))):aO X.Gt #[al p,D mode, .agg bV.T] w0 F Q:=bh [.aY p 0,cn mode, .agg (aT.bN.enc bV)] h
end Go.Proofs.YtimbpmnbbfeogaaGreatDoor
namespace Go.Rep
open Go Go.Sy
structure cS where
 (b:Nat) (aR g1:cV) (c_:Nat) (mode:Int) (kept:Option (Nat×eL))
structure c6 where
 (aR g1:cc) (c_:Nat) (mode:Int) (kept:Option eL)
def cS.bu(p:cS):c6:=⟨p.aR.aC,p.g1.aC,p.c_,p.mode,p.kept.map (·.2)⟩
def aef:Option (Nat×eL)->Option Addr
 |none=>none
 |some q=>some ⟨q.1,0,none⟩
def cS.ptr(p:cS):Value:= .pointer (some ⟨p.b,0,none⟩)
abbrev cS.cells(p:cS):List Value:=[p.aR.ptr,p.g1.ptr, .int .i64 p.c_, .int .i64 p.mode, .pointer (aef p.kept)]
end Go.Rep
namespace Go.Proofs.YtimbpmnbbfeogaaGreatDoor
open Go Go.RowKit Go.Sy Go.Rep
def I.aL(g:cV):I:=⟨dY g,λw=>dA w g,λh hi=>h.lt hi,λh hi=>h.low hi,λh hk bc=>h.ax hk bc⟩
def l0:Option (Nat×eL)->I
 |none=>I.none
 |some q=>I.aF q.1 G.hO q.2.T.toList
abbrev bE(p:cS):I:=I.sep [I.aF p.b G.ma p.cells,I.aL p.aR,I.aL p.g1,l0 p.kept]
def fK{eg:Type}(mI:eg->I)(w0:World)(jM:eg)(R:eg->Prop)(w:World):Prop:=∃x,R x/\(mI x).P w/\∀i,(mI x).F i->(mI jM).F i∨w0.heap.size<=i
section
variable{w0 w w' w1:World}{F0:Nat->Prop}{bs:List Nat}{g:cV}{r':cc}{R:Ending->World->Prop}{o:I}{f:FuncId}{args:Array Value}
theorem avd{eg:Type}{mI:eg->I}{jM x:eg}{lP:eg->Prop}(h:af w0 (mI jM).F bs (mI x) w)(hR:lP x):fK mI w0 jM lP w:=⟨x,hR,h.at_,λi hi=>(h.own i hi).1⟩
end
end Go.Proofs.YtimbpmnbbfeogaaGreatDoor
abbrev Go.Sy.af.bQ:=@Go.Proofs.YtimbpmnbbfeogaaGreatDoor.avd
namespace Go.Proofs.YtimbpmnbbfeogaaGreatDoor
open Go Go.RowKit Go.Sy Go.Rep
section
variable{w0 w w' w1:World}{F0:Nat->Prop}{bs:List Nat}{g:cV}{r':cc}{R:Ending->World->Prop}{o:I}{f:FuncId}{args:Array Value}
theorem ave{v:Value}(h:af w0 F0 bs o w1)(hc:o.P w1->Laid w1->di f args w1 v)(hR:∀ad,af w0 F0 bs o ad->U bg w1 ad->R (.returned v) ad):dH Tryz.prog f args w1 R:=
 (hc h.at_ h.laid).aH λad hk=>hR ad (h.O hk) hk
end
end Go.Proofs.YtimbpmnbbfeogaaGreatDoor
abbrev Go.Sy.af.ret:=@Go.Proofs.YtimbpmnbbfeogaaGreatDoor.ave
namespace Go.Proofs.YtimbpmnbbfeogaaGreatDoor
open Go Go.RowKit Go.Sy Go.Rep
section
variable{w0 w w' w1:World}{F0:Nat->Prop}{bs:List Nat}{g:cV}{r':cc}{R:Ending->World->Prop}{o:I}{f:FuncId}{args:Array Value}
theorem avf{v:Value}(hp:Pure f args v)(h:af w0 F0 bs o w1)(hR:∀ad,af w0 F0 bs o ad->U bg w1 ad->R (.returned v) ad):dH Tryz.prog f args w1 R:=
 h.ret (λ_ aj=>hp w1 aj) hR
end
end Go.Proofs.YtimbpmnbbfeogaaGreatDoor
abbrev Go.Sy.af.pure:=@Go.Proofs.YtimbpmnbbfeogaaGreatDoor.avf
namespace Go.Proofs.YtimbpmnbbfeogaaGreatDoor
open Go Go.RowKit Go.Sy Go.Rep
section
variable{w0 w w' w1:World}{F0:Nat->Prop}{bs:List Nat}{g:cV}{r':cc}{R:Ending->World->Prop}{o:I}{f:FuncId}{args:Array Value}
theorem avg{fC:Value->World->Prop}(h:af w0 F0 bs o w1)(hc:o.P w1->Laid w1->bI Tryz.prog f args w1 bg fC)(hR:∀v ad,fC v ad->af w0 F0 bs o ad->U bg w1 ad->R (.returned v) ad):dH Tryz.prog f args w1 R:=
 (hc h.at_ h.laid).aH λv ad hk hq=>hR v ad hq (h.O hk) hk
end
end Go.Proofs.YtimbpmnbbfeogaaGreatDoor
abbrev Go.Sy.af.z7:=@Go.Proofs.YtimbpmnbbfeogaaGreatDoor.avg
namespace Go.Proofs.YtimbpmnbbfeogaaGreatDoor
open Go Go.RowKit Go.Sy Go.Rep
section
variable{w0 w w' w1:World}{F0:Nat->Prop}{bs:List Nat}{g:cV}{r':cc}{R:Ending->World->Prop}{o:I}{f:FuncId}{args:Array Value}
theorem avh{fC:Value->World->Prop}(bM bq:List I)(h:af w0 F0 bs (I.sep (bM++o::bq)) w1)(hm:∀b∈bs,b<w1.heap.size)(hc:o.P w1->Laid w1->bI Tryz.prog f args w1 o.F fC)
  (hR:∀v ad,fC v ad->(∀o':I,o'.P ad->(∀i,o'.F i->o.F i∨w1.heap.size<=i)->af w0 F0 bs (I.sep (bM++o'::bq)) ad/\eC w0.heap.size F0 bs w1 ad)->R (.returned v) ad):dH Tryz.prog f args w1 R:=
 (hc (af.get bM bq h) h.laid).aH λv ad hk hq=>hR v ad hq λo' ho bc=>af.step bM bq h hm hk ho bc
end
end Go.Proofs.YtimbpmnbbfeogaaGreatDoor
abbrev Go.Sy.af.call:=@Go.Proofs.YtimbpmnbbfeogaaGreatDoor.avh
namespace Go.Proofs.YtimbpmnbbfeogaaGreatDoor
open Go Go.RowKit Go.Sy Go.Rep
section
variable{w0 w w' w1:World}{F0:Nat->Prop}{bs:List Nat}{g:cV}{r':cc}{R:Ending->World->Prop}{o:I}{f:FuncId}{args:Array Value}
theorem avi{fC:Value->World->Prop}(bM bq:List I)(h:af w0 F0 bs (I.sep (bM++I.aL g::bq)) w1)(hm:∀b∈bs,b<w1.heap.size)(hc:dA w1 g->Laid w1->bI Tryz.prog f args w1 (dY g) (λv ad=>fC v ad/\iS w1 g r' ad))
  (hR:∀v ad aU,fC v ad->aU.ptr=g.ptr->aU.aC=r'->af w0 F0 bs (I.sep (bM++I.aL aU::bq)) ad->eC w0.heap.size F0 bs w1 ad->R (.returned v) ad):dH Tryz.prog f args w1 R:=
 af.call bM bq h hm hc λv ad ⟨hq,aU,h1,h2,aw,aZ⟩ hs=>by
  obtain⟨q1,q2⟩:=hs (I.aL aU) aw aZ;exact hR v ad aU hq (by unfold cV.ptr;rw[h1]) h2 q1 q2
end
end Go.Proofs.YtimbpmnbbfeogaaGreatDoor
abbrev Go.Sy.af.aL:=@Go.Proofs.YtimbpmnbbfeogaaGreatDoor.avi
namespace Go.Proofs.YtimbpmnbbfeogaaGreatDoor
open Go Go.RowKit Go.Sy Go.Rep
section
variable{w0 w w' w1:World}{F0:Nat->Prop}{bs:List Nat}{g:cV}{r':cc}{R:Ending->World->Prop}{o:I}{f:FuncId}{args:Array Value}
variable{p:cS}
theorem bE.at_(h:(bE p).P w)(o:Nat){cj:List Value}(hu:cj=(p.cells.drop o).take cj.length):At w ⟨p.b,0,none⟩ o cj:=by
 have h1:=h.1 (I.aF p.b G.ma p.cells) aS;have:=(h1.1.at_ (show 5<=maxLen by decide)).sub o hu;rwa[iR] at this
theorem bE.amu(h:(bE p).P w):dA w p.aR:=h.1 (I.aL p.aR) aS
theorem bE.amv(h:(bE p).P w):dA w p.g1:=h.1 (I.aL p.g1) aS
theorem E5(h:(bE p).P w):di X.p6 #[p.ptr] w (.bool false):=
 awZ _ ⟨_,bE.at_ h 0 rfl,aa.of λ_=>by
  show Value.bool _=_
  rw[show bL.val (.i_ ((some (⟨p.aR.b,0,none⟩:Addr))=none))=false from by
   have:=bL.yT (.i_ ((some (⟨p.aR.b,0,none⟩:Addr))=none)) false
   exact this.1 qR]⟩
theorem asu(aj:Laid w)(h:(bE p).P w)(hu:p.c_<=1):di X.P9 #[p.ptr] w (.bool (decide (p.c_=1))):=by
 refine awV _ λw1 hb1=>?_
 have bX:=(af.start (bs:=[]) aj h aS).below hb1;refine bX.ret (λa _=>E5 a) λad aX aI=>⟨_,rfl,aI.O,λ_=>⟨_,bE.at_ aX.at_ 2 rfl,aa.of λ_=>?_⟩,λe=>nomatch e⟩
 rw[cb];congr 1;exact O8.2 M
def rR(g:cc)(p:aT):Nat->cc
 |0=>g
 |k+1=>mO (oN (rR g p k) k 0 g.ai p) k false
theorem ahV{g:cc}{p:aT}:∀k,(rR g p k).ai=g.ai
 |0=>rfl
 |k+1=>by rw[rR,agY,QQ,ahV k]
theorem ahW{g:cc}{p:aT}:∀k,(rR g p k).ab.length=g.ab.length
 |0=>rfl
 |k+1=>by rw[rR,V5,KW,ahW k]
theorem afG{b:Nat}{bV:aT}(aj:Laid w)(dB:At w ⟨b,0,none⟩ 1 [g.ptr])(h:dA w g)(hp:ea (ed bV)=true):bI Tryz.prog X.Kq #[.pointer (some ⟨b,0,none⟩), .agg bV.T] w (dY g) (λv w'=>v= .int .i64 0/\iS w g (rR g.aC bV g.aC.ab.length) w'):=by
 have hd:=h.ld;refine aw0 _ bV λar ec=>⟨_,dB,λw1 hb1 fb=>?_⟩
 have bX:=(bB.start (bs:=[ar]) aj h (by simpa using ec)).below hb1;refine xU bX λad aX aI=>⟨_,rfl,aI.O,?_⟩
 refine⟨λi w'=>∃k:Nat,i=k/\k<=g.aC.ab.length/\bB w g [ar] (rR g.aC bV k) w',λi=>((g.aC.ab.length:Int)-i).toNat,λbw bp=>⟨0,rfl,ef _,aX.below bp⟩,?_⟩;rintro i bw hk3 ⟨k,rfl,hk,eb⟩;refine⟨λhlt bP hb5 om=>?_,λhle w' hb _=>⟨rfl,?_⟩⟩
 ·have hkl:(k:Int)<(rR g.aC bV k).ab.length:=by rw[ahW];exact hlt
  have aCa:=eb.ld;refine qg (eb.below hb5) λcu eJ dK=>⟨_,rfl,dK.O,λw7 c8 mh=>?_⟩
  refine aby (eJ.below c8) (cB.all mh) λcW eP br=>⟨_,rfl,br,λe=>absurd (aam M hkl (n4 0) M (n4 _) hp) e,λ_ cR cr dO=>?_⟩
  refine RB (eP.below cr) (cB.all dO) λgn lH jI=>⟨_,rfl,jI,λe=>absurd (Jq M (by rw[KW];exact hkl)) e,λ_=>⟨by unfold ay;omega,λhC fs=>⟨⟨k+1,by omega,by omega,?_⟩,by dsimp only;omega⟩⟩⟩
  have:=lH.below fs;rw[ahV] at this;rw[rR];exact this
 ·have Sh:k=g.aC.ab.length:=by omega
  rw[<-Sh];exact eb.bQ hb
end
variable{w0:World}{F:Nat->Prop}{Q:Value->World->Prop}
theorem awP(a b p:Addr)(h:b9 w0 F [] w0 X.p6 #[al p] .bool λe f=>pf w0 F Q f e/\(f=false->∃g,At e p 2 [D g]/\((0:Int)<=g/\g<2)/\∃i:ao,At e p (0+((Int.toNat g)*1)) [.pointer i]/\dt e X.Fs #[.pointer i,al a,al b] λj k l=>fW w0 F Q k [] j l)):aO X.oI #[al p, .func (.func X.Fs) #[] #[al a,al b]] w0 F Q:=bh [.aY p 0, .fn X.Fs [] [.aY a 0, .aY b 0]] h
theorem awQ(a b c p:Addr)(h:b9 w0 F [] w0 X.p6 #[al p] .bool λf g=>pf w0 F Q g f/\(g=false->∃i,At f p 2 [D i]/\((0:Int)<=i/\i<2)/\∃j:ao,At f p (0+((Int.toNat i)*1)) [.pointer j]/\dt f X.Ft #[.pointer j,al a,al b,al c] λk l m=>fW w0 F Q l [] k m)):aO X.oI #[al p, .func (.func X.Ft) #[] #[al a,al b,al c]] w0 F Q:=bh [.aY p 0, .fn X.Ft [] [.aY a 0, .aY b 0, .aY c 0]] h
theorem awR(a b p:Addr)(h:b9 w0 F [] w0 X.p6 #[al p] .bool λe f=>pf w0 F Q f e/\(f=false->∃g,At e p 2 [D g]/\((0:Int)<=g/\g<2)/\∃i:ao,At e p (0+((Int.toNat g)*1)) [.pointer i]/\dt e X.C' #[.pointer i,al a,al b] λj k l=>fW w0 F Q k [] j l)):aO X.oI #[al p, .func (.func X.C') #[] #[al a,al b]] w0 F Q:=bh [.aY p 0, .fn X.C' [] [.aY a 0, .aY b 0]] h
theorem awN(a p:Addr)(h:b9 w0 F [] w0 X.p6 #[al p] .bool λd e=>pf w0 F Q e d/\(e=false->∃f,At d p 2 [D f]/\((0:Int)<=f/\f<2)/\∃g:ao,At d p (0+((Int.toNat f)*1)) [.pointer g]/\dt d X.Fp #[.pointer g,al a] λi j k=>fW w0 F Q j [] i k)):aO X.oI #[al p, .func (.func X.Fp) #[] #[al a]] w0 F Q:=bh [.aY p 0, .fn X.Fp [] [.aY a 0]] h
theorem awO(a b p:Addr)(h:b9 w0 F [] w0 X.p6 #[al p] .bool λe f=>pf w0 F Q f e/\(f=false->∃g,At e p 2 [D g]/\((0:Int)<=g/\g<2)/\∃i:ao,At e p (0+((Int.toNat g)*1)) [.pointer i]/\dt e X.C_ #[.pointer i,al a,al b] λj k l=>fW w0 F Q k [] j l)):aO X.oI #[al p, .func (.func X.C_) #[] #[al a,al b]] w0 F Q:=bh [.aY p 0, .fn X.C_ [] [.aY a 0, .aY b 0]] h
theorem awS(a b p:Addr)(h:b9 w0 F [] w0 X.p6 #[al p] .bool λe f=>pf w0 F Q f e/\(f=false->∃g,At e p 2 [D g]/\((0:Int)<=g/\g<2)/\∃i:ao,At e p (0+((Int.toNat g)*1)) [.pointer i]/\dt e X.Fv #[.pointer i,al a,al b] λj k l=>fW w0 F Q k [] j l)):aO X.oI #[al p, .func (.func X.Fv) #[] #[al a,al b]] w0 F Q:=bh [.aY p 0, .fn X.Fv [] [.aY a 0, .aY b 0]] h
theorem awM(a b c d e l p:Addr)(h:b9 w0 F [] w0 X.p6 #[al p] .bool λi j=>pf w0 F Q j i/\(j=false->∃k,At i p 2 [D k]/\((0:Int)<=k/\k<2)/\∃m:ao,At i p (0+((Int.toNat k)*1)) [.pointer m]/\dt i X.Fo #[.pointer m,al a,al b,al c,al d,al e,al l] λn o q=>fW w0 F Q o [] n q)):aO X.oI #[al p, .func (.func X.Fo) #[] #[al a,al b,al c,al d,al e,al l]] w0 F Q:=bh [.aY p 0, .fn X.Fo [] [.aY a 0, .aY b 0, .aY c 0, .aY d 0, .aY e 0, .aY l 0]] h
theorem azu(a b g:Addr)(h:∃c:ao,At w0 a 0 [.pointer c]/\∃d:Addr,c=(some d)/\∃e:Cu,At w0 d 4 e.T.toList/\∃f:Int,At w0 b 0 [.int .i32 f]/\dt w0 X.UB #[al g, .agg e.T, .int .i32 f] λi j k=>∃l:Bool,∃m,j=(.returned (.tuple #[.bool l,D m]))/\Ge w0 F Q [] i k m):aO X.Fs #[al g,al a,al b] w0 F Q:=bh [.aY g 0, .aY a 0, .aY b 0] h
theorem azv(a b c g:Addr)(h:∃d:ao,At w0 a 0 [.pointer d]/\∃e:Addr,d=(some e)/\∃f:Cu,At w0 e 4 f.T.toList/\∃i:Int,At w0 b 0 [.int .i32 i]/\∃j:ao,At w0 a 0 [.pointer j]/\∃k:Addr,j=(some k)/\∃l:Bool,At w0 k 18 [.bool l]/\dt w0 X.UD #[al g, .agg f.T, .int .i32 i, .bool l] λm n o=>∃p:Bool,∃q,bW n (.tuple #[.bool p,D q]) w0 F [] m o (J0 w0 F o c/\∀r:World,bH o [] c 0 [.bool p] r->aa w0 F r Q (D q))):aO X.Ft #[al g,al a,al b,al c] w0 F Q:=bh [.aY g 0, .aY a 0, .aY b 0, .aY c 0] h
theorem azw(a b g:Addr)(h:∃c:ao,At w0 a 0 [.pointer c]/\∃d:ao,At w0 a 0 [.pointer d]/\∃e:Addr,d=(some e)/\∃f:Cu,At w0 e 4 f.T.toList/\∃i:Int,At w0 b 0 [.int .i32 i]/\∃j:ao,At w0 a 0 [.pointer j]/\∃k:Addr,j=(some k)/\∃l:aT,At w0 k 7 l.T.toList/\∃m:ao,At w0 a 0 [.pointer m]/\∃n:Addr,m=(some n)/\∃o:Bool,At w0 n 18 [.bool o]/\∃p:ao,At w0 a 0 [.pointer p]/\∃q:Addr,p=(some q)/\∃r:Bool,At w0 q 20 [.bool r]/\dt w0 X.UC #[al g, .agg f.T, .int .i32 i, .agg l.T, .bool o, .bool r] λs t u=>∃v:Cu,∃x,bW t (.tuple #[.agg v.T,D x]) w0 F [] s u (At u a 0 [.pointer c]/\∃y:Addr,c=(some y)/\JZ w0 F Q u y v x)):aO X.C' #[al g,al a,al b] w0 F Q:=bh [.aY g 0, .aY a 0, .aY b 0] h
theorem azk(a g:Addr)(h:∃b:ao,At w0 a 0 [.pointer b]/\∃c:ao,At w0 a 0 [.pointer c]/\∃d:Addr,c=(some d)/\∃e:dz,At w0 d 27 e.T.toList/\∃f:ao,At w0 a 0 [.pointer f]/\∃i:Addr,f=(some i)/\∃j:Cu,At w0 i 4 j.T.toList/\∃k:ao,At w0 a 0 [.pointer k]/\b9 w0 F [] w0 X.qJ #[.pointer k] w8 λn o=>At n i 4 j.T.toList/\At n a 0 [.pointer f]/\At n d 27 e.T.toList/\At n a 0 [.pointer c]/\At n a 0 [.pointer b]/\dt n X.U2 #[al g, .agg e.T, .agg j.T, .agg o.T] λp q r=>∃s:Cu,∃t,bW q (.tuple #[.agg s.T,D t]) w0 F [] p r (At r a 0 [.pointer b]/\∃u:Addr,b=(some u)/\JZ w0 F Q r u s t)):aO X.Fp #[al g,al a] w0 F Q:=bh [.aY g 0, .aY a 0] h
theorem azo(a b g:Addr)(h:∃c:ao,At w0 a 0 [.pointer c]/\∃d:ao,At w0 a 0 [.pointer d]/\∃e:Addr,d=(some e)/\∃f:dz,At w0 e 27 f.T.toList/\∃i:ao,At w0 a 0 [.pointer i]/\∃j:Addr,i=(some j)/\∃k:Cu,At w0 j 4 k.T.toList/\∃l:ao,At w0 a 0 [.pointer l]/\b9 w0 F [] w0 X.qJ #[.pointer l] w8 λo p=>At o j 4 k.T.toList/\At o a 0 [.pointer i]/\At o e 27 f.T.toList/\At o a 0 [.pointer d]/\At o a 0 [.pointer c]/\dt o X.U1 #[al g, .agg f.T, .agg k.T, .agg p.T] λq r s=>∃t:Cu,∃u:ao,∃v x:Nat,∃y,bW r (.tuple #[.agg t.T, .slice u v x,D y]) w0 F [] q s (At s a 0 [.pointer c]/\∃z:Addr,c=(some z)/\Gf w0 F s z/\∀A:World,bH s [] z 4 t.T.toList A->J0 w0 F A b/\∀B:World,bH A [] b 0 [.slice u v x] B->aa w0 F B Q (D y))):aO X.C_ #[al g,al a,al b] w0 F Q:=bh [.aY g 0, .aY a 0, .aY b 0] h
theorem azB(a b g:Addr)(h:∃c,At w0 a 0 [D c]/\∃d:Bool,At w0 b 0 [.bool d]/\dt w0 X.BV #[al g,D c, .bool d] λe f i=>fW w0 F Q f [] e i):aO X.Fv #[al g,al a,al b] w0 F Q:=bh [.aY g 0, .aY a 0, .aY b 0] h
theorem aze(a b c d e l g:Addr)(h:∃f:Int,At w0 a 0 [.int .i32 f]/\a' f 64 (∃i:ao,At w0 b 0 [.pointer i]/\∃j:Addr,i=(some j)/\∃k:Cu,At w0 j 4 k.T.toList/\∃m,At w0 c 0 [D m]/\∃n:aT,At w0 d 0 n.T.toList/\dt w0 X.Rb #[al g, .agg k.T,D m, .agg n.T] λo p q=>fW w0 F Q p [] o q) (a' f 80 (∃i:ao,At w0 b 0 [.pointer i]/\∃j:Addr,i=(some j)/\∃k:Cu,At w0 j 4 k.T.toList/\∃m,At w0 c 0 [D m]/\∃n:aT,At w0 d 0 n.T.toList/\dt w0 X.Q' #[al g, .agg k.T,D m, .agg n.T] λo p q=>fW w0 F Q p [] o q) (a' f 76 (∃i:ao,At w0 b 0 [.pointer i]/\∃j:Addr,i=(some j)/\∃k:Cu,At w0 j 4 k.T.toList/\∃m:ao,At w0 b 0 [.pointer m]/\∃n:Addr,m=(some n)/\∃o:dz,At w0 n 27 o.T.toList/\∃p,At w0 c 0 [D p]/\∃q:aT,At w0 d 0 q.T.toList/\dt w0 X.Rc #[al g, .agg k.T, .agg o.T,D p, .agg q.T] λr s t=>fW w0 F Q s [] r t) (a' f 77 (∃i:ao,At w0 b 0 [.pointer i]/\∃j:Addr,i=(some j)/\∃k:Cu,At w0 j 4 k.T.toList/\∃m:ao,At w0 b 0 [.pointer m]/\∃n:Addr,m=(some n)/\∃o:dz,At w0 n 27 o.T.toList/\∃p,At w0 c 0 [D p]/\∃q:aT,At w0 d 0 q.T.toList/\dt w0 X.Ra #[al g, .agg k.T, .agg o.T,D p, .agg q.T] λr s t=>fW w0 F Q s [] r t) (a' f 88 (∃i:ao,At w0 b 0 [.pointer i]/\∃j:Addr,i=(some j)/\∃k:Cu,At w0 j 4 k.T.toList/\∃m,At w0 c 0 [D m]/\∃n:aT,At w0 d 0 n.T.toList/\dt w0 X.Rk #[al g, .agg k.T,D m, .agg n.T] λo p q=>fW w0 F Q p [] o q) (a' f 83 (∃i:ao,At w0 b 0 [.pointer i]/\∃j:Addr,i=(some j)/\∃k:dz,At w0 j 27 k.T.toList/\∃m,At w0 c 0 [D m]/\∃n:aT,At w0 d 0 n.T.toList/\dt w0 X.NK #[al g, .agg k.T,D m, .agg n.T] λo p q=>∃r:ao,∃s t:Nat,∃u,bW p (.tuple #[.slice r s t,D u]) w0 F [] o q (J0 w0 F q e/\∀v:World,bH q [] e 0 [.slice r s t] v->aa w0 F v Q (D u))) (a' f 84 (∃i:ao,At w0 b 0 [.pointer i]/\∃j:Addr,i=(some j)/\∃k:dz,At w0 j 27 k.T.toList/\∃m,At w0 c 0 [D m]/\∃n:aT,At w0 d 0 n.T.toList/\dt w0 X.NJ #[al g, .agg k.T,D m, .agg n.T] λo p q=>fW w0 F Q p [] o q) (∃i:ao,At w0 b 0 [.pointer i]/\∃j:Int,At w0 a 0 [.int .i32 j]/\∃k:ao,∃m n:Nat,At w0 l 0 [.slice k m n]/\b9 w0 F [] w0 X.uf #[.slice k m n,D 0,D 0] D λq r=>At q a 0 [.int .i32 j]/\At q b 0 [.pointer i]/\dt q X.VF #[.pointer i,al g, .int .i32 j,D r] λs t u=>fW w0 F Q t [] s u)))))))):aO X.Fo #[al g,al a,al b,al c,al d,al e,al l] w0 F Q:=bh [.aY g 0, .aY a 0, .aY b 0, .aY c 0, .aY d 0, .aY e 0, .aY l 0] h
end Go.Proofs.YtimbpmnbbfeogaaGreatDoor
namespace Go.Proofs.YtimbpmnbbfeogaaGreatDoor
open Go Go.RowKit Go.Sy Go.Rep
section
variable{w0 w w' w1:World}{F0:Nat->Prop}{bs:List Nat}{g:cV}{r':cc}{R:Ending->World->Prop}{o:I}{f:FuncId}{args:Array Value}{p:cS}
theorem ZX{q:aT}:Pure X.Kr #[.agg q.T] (.bool (ea (ed q))):=by
 intro w aj;refine aw1 q ?_
 repeat' (first|(refine aa.of λ_=>?_)|(refine Pure.aH v_ aim λ_ hk hl=>⟨_,rfl,hk.O,?_⟩)|(refine Pure.aH zg aim λ_ hk hl=>⟨_,rfl,hk.O,?_⟩)|rfl|intro _)
def IJ(an ai:Nat):c6:=⟨IG an ai,IG an ai,0,0,none⟩
def DW(v:c6)(mode:Int)(s:eL)(bV:aT):c6:=if mode=1049 then⟨v.aR,rR v.g1 bV v.g1.ab.length,1,mode,some s⟩ else⟨v.aR,v.g1,1,mode,v.kept⟩
theorem asv{mode:Int}{s:eL}{bV:aT}(aj:Laid w)(h:(bE p).P w)(hm:ED mode=true)(hs:mode=1049->mK s=true)(hp:ea (ed bV)=true)(hu:p.c_=0):bI Tryz.prog X.P_ #[p.ptr, .int .i64 mode, .agg s.T, .agg bV.T] w (bE p).F (λv w'=>v= .int .i64 0/\fK bE w p (λq=>q.b=p.b/\q.bu=DW p.bu mode s bV) w'):=by
 refine awW _ mode s bV λar ec aQ gA w1 hb1 fb=>?_
 have bX:=(af.start (bs:=[ar,aQ]) aj h ej).below hb1;refine bX.ret (λa _=>E5 a) λad aX aI=>⟨_,rfl,aI.O,λe=>(nomatch e),λ_ bw bp fN=>?_⟩
 refine af.pure ZY (aX.below bp) λbD cg bO=>⟨_,rfl,bO.O,λe=>OS,λ_=>⟨λe jy kM Ej=>?_,λe=>?_⟩⟩
 ·refine af.pure Qw (cg.below kM) λk2 kY oi=>⟨_,rfl,oi.O,λe2=>(by rw[hs e] at e2;cases e2),λ_ oz ks B9=>?_⟩
  refine af.pure ZX (kY.below ks) λnX j7 su=>⟨_,rfl,su.O,λe2=>(by rw[hp] at e2;cases e2),λ_=>?_⟩
  refine⟨_,bE.at_ j7.at_ 2 rfl,λe2=>M,λ_=>⟨af.ch (n:=1) [] [I.aL p.aR,I.aL p.g1,l0 p.kept] j7 (by decide:2+1<=5),λl7 SU=>?_⟩⟩;have rJ:af w (bE p).F [ar,aQ] (bE ⟨p.b,p.aR,p.g1,1,p.mode,p.kept⟩) l7:=af.put (n:=1) [] _ j7 (by decide:2+1<=5) SU;refine⟨af.ch (n:=1) [] [I.aL p.aR,I.aL p.g1,l0 p.kept] rJ (by decide:3+1<=5),λlK Cg=>⟨λe2=>absurd e e2,λ_=>?_⟩⟩;have ui:af w (bE p).F [ar,aQ] (bE ⟨p.b,p.aR,p.g1,1,mode,p.kept⟩) lK:=af.put (n:=1) [] _ rJ (by decide:3+1<=5) Cg;refine⟨af.ch (n:=1) [] [I.aL p.aR,I.aL p.g1,l0 p.kept] ui (by decide:4+1<=5),λqO SV q1 q2 km qk acH=>?_⟩;have yJ:af w (bE p).F [ar,aQ] (I.sep [I.aF p.b G.ma (cS.cells ⟨p.b,p.aR,p.g1,1,mode,some (ar,s)⟩),I.aL p.aR,I.aL p.g1,l0 p.kept]) qO:=af.put (n:=1) [] _ ui (by decide:4+1<=5) SV;have qI:=(yJ.drop (l':=[I.aF p.b G.ma (cS.cells ⟨p.b,p.aR,p.g1,1,mode,some (ar,s)⟩),I.aL p.aR,I.aL p.g1]) aS).below qk;refine af.aL (g:=p.g1) (r':=rR p.g1.aC bV p.g1.aC.ab.length) (fC:=λv _=>v= .int .i64 0) [I.aF p.b G.ma (cS.cells ⟨p.b,p.aR,p.g1,1,mode,some (ar,s)⟩),I.aL p.aR] [] qI (cB.all acH) (λa b=>afG b ?_ a hp) λv ln aU ah mi hgr Fk wz=>⟨0,by rw[ah],wz,λw' hb _=>⟨rfl,?_⟩⟩
  ·have h1:=qI.at_.1 (I.aF p.b G.ma (cS.cells ⟨p.b,p.aR,p.g1,1,mode,some (ar,s)⟩)) aS
   exact(h1.1.at_ (show 5<=maxLen by decide)).cw 1 rfl
  ·have yK:=Fk.below hb
   have hW:Whole w' ar G.hO s.T.toList:=((q1.2.ax (U.au qk) λe=>e).ax (F:=λi=>i≠ar) ⟨wz.os,wz.tape,wz.output,wz.size,λi hi hn=>by
    have kO:i=ar:=XX hn;subst kO
    exact wz.own i aS M hi⟩ (λe=>e rfl)).ax (U.au hb) λe=>e
   have eu:(cS.cells ⟨p.b,p.aR,aU,1,mode,some (ar,s)⟩)=(cS.cells ⟨p.b,p.aR,p.g1,1,mode,some (ar,s)⟩):=by show[_,aU.ptr,_,_,_]=_;rw[mi]
   have hd:∀i,(I.sep [I.aF p.b G.ma (cS.cells ⟨p.b,p.aR,p.g1,1,mode,some (ar,s)⟩),I.aL p.aR,I.aL aU]).F i->¬(I.aF ar G.hO s.T.toList).F i:=λi hi e=>(yK.own i hi).2 (by rw[show i=ar from e];simp)
   have hY:=aj.size;refine⟨⟨p.b,p.aR,aU,1,mode,some (ar,s)⟩,⟨rfl,?_⟩,?_,λi hi=>?_⟩
   ·show c6.mk _ aU.aC _ _ _=DW _ _ _ _
    rw[DW,aA e,hgr];rfl
   ·show(I.sep [I.aF p.b G.ma (cS.cells ⟨p.b,p.aR,aU,1,mode,some (ar,s)⟩),_,_,_]).P w'
    rw[eu];exact I.agP (l:=[I.aF p.b G.ma (cS.cells ⟨p.b,p.aR,p.g1,1,mode,some (ar,s)⟩),I.aL p.aR,I.aL aU]) yK.at_ ⟨hW,by omega⟩ hd
   ·change (I.sep [I.aF p.b G.ma (cS.cells ⟨p.b,p.aR,aU,1,mode,some (ar,s)⟩),_,_,_]).F i at hi
    rw[eu] at hi;rcases(I.agN (l:=[I.aF p.b G.ma (cS.cells ⟨p.b,p.aR,p.g1,1,mode,some (ar,s)⟩),I.aL p.aR,I.aL aU]) (o:=I.aF ar G.hO s.T.toList)).1 hi with q|q
    ·exact(yK.own i q).1
    ·exact .inr (by rw[show i=ar from q];exact ec)
 ·refine⟨_,bE.at_ cg.at_ 2 rfl,λe2=>M,λ_=>⟨af.ch (n:=1) [] [I.aL p.aR,I.aL p.g1,l0 p.kept] cg (by decide:2+1<=5),λbP iJ=>?_⟩⟩
  have ey:af w (bE p).F [ar,aQ] (bE ⟨p.b,p.aR,p.g1,1,p.mode,p.kept⟩) bP:=af.put (n:=1) [] _ cg (by decide:2+1<=5) iJ;refine⟨af.ch (n:=1) [] [I.aL p.aR,I.aL p.g1,l0 p.kept] ey (by decide:3+1<=5),λcu ot=>⟨λ_ w' hb _=>⟨rfl,?_⟩,λe2=>absurd e2 e⟩⟩;have eJ:af w (bE p).F [ar,aQ] (bE ⟨p.b,p.aR,p.g1,1,mode,p.kept⟩) cu:=af.put (n:=1) [] _ ey (by decide:3+1<=5) ot;exact af.bQ (eJ.below hb) ⟨rfl,by rw[DW,ag e];rfl⟩
end
section
variable{w0 w w' w1:World}{F0:Nat->Prop}{bs:List Nat}{g:cV}{r':cc}{R:Ending->World->Prop}{o:I}{f:FuncId}{args:Array Value}{p:cS}
def ru(v:c6)(mode:Int):eL:=if mode=1049 then v.kept.getD h7 else h7
def wI(v:c6)(mode:Int):Bool:=decide (mode=1049)&&v.kept.isSome
def yk(v:c6)(mode:Int)(bV:aT):c6:=if mode=1047 then⟨v.aR,rR v.g1 bV v.g1.ab.length,0,0,v.kept⟩ else if mode=1049 then⟨v.aR,v.g1,0,0,none⟩ else⟨v.aR,v.g1,0,0,v.kept⟩
theorem asx{mode:Int}{bV:aT}(aj:Laid w)(h:(bE p).P w)(hm:ED mode=true)(hp:ea (ed bV)=true)(hu:p.c_=1):bI Tryz.prog X.Gt #[p.ptr, .int .i64 mode, .agg bV.T] w (bE p).F (λv w'=>v= .tuple #[.agg (ru p.bu mode).T, .bool (wI p.bu mode), .int .i64 0]/\fK bE w p (λq=>q.b=p.b/\q.bu=yk p.bu mode bV) w'):=by
 have hY:=aj.size;refine awY _ mode bV λar ec aQ gA w1 hb1 fb=>?_
 have fa:∀b∈[ar,aQ],w.heap.size<=b:=by simp;omega
 have bX:=(af.start (bs:=[ar,aQ]) aj h fa).below hb1;refine bX.ret (λa _=>E5 a) λad aX aI=>⟨_,rfl,aI.O,λe=>(nomatch e),λ_ bw bp fN=>?_⟩
 refine af.pure ZY (aX.below bp) λbD cg bO=>⟨_,rfl,bO.O,λe=>OS,λ_=>⟨λe oz ks B9=>?_,λe=>?_⟩⟩
 ·refine af.pure ZX (cg.below ks) λnX j7 su=>⟨_,rfl,su.O,λe2=>(by rw[hp] at e2;cases e2),λ_=>?_⟩
  refine⟨_,bE.at_ j7.at_ 2 rfl,λe2=>M,λ_=>⟨af.ch (n:=1) [] [I.aL p.aR,I.aL p.g1,l0 p.kept] j7 (by decide:2+1<=5),λl7 SU=>?_⟩⟩;have rJ:af w (bE p).F [ar,aQ] (bE ⟨p.b,p.aR,p.g1,0,p.mode,p.kept⟩) l7:=af.put (n:=1) [] _ j7 (by decide:2+1<=5) SU;refine⟨af.ch (n:=1) [] [I.aL p.aR,I.aL p.g1,l0 p.kept] rJ (by decide:3+1<=5),λlK Cg=>⟨λ_ s4 so aod=>?_,λe2=>absurd e e2⟩⟩;have ui:af w (bE p).F [ar,aQ] (bE ⟨p.b,p.aR,p.g1,0,0,p.kept⟩) lK:=af.put (n:=1) [] _ rJ (by decide:3+1<=5) Cg;have agC:=ui.below so;refine af.aL (g:=p.g1) (r':=rR p.g1.aC bV p.g1.aC.ab.length) (fC:=λv _=>v= .int .i64 0) [I.aF p.b G.ma (cS.cells ⟨p.b,p.aR,p.g1,0,0,p.kept⟩),I.aL p.aR] [l0 p.kept] agC (cB.all aod) (λa b=>afG b (bE.at_ agC.at_ 1 rfl) a hp) λv ky aU ah mi hgr avy Si=>⟨0,by rw[ah],Si,λw' he _=>⟨?_,?_⟩⟩
  ·unfold ru wI
   rw[ag M,kp M];rfl
  ·have eu:(cS.cells ⟨p.b,p.aR,aU,0,0,p.kept⟩)=(cS.cells ⟨p.b,p.aR,p.g1,0,0,p.kept⟩):=by show[_,aU.ptr,_,_,_]=_;rw[mi]
   refine af.bQ (mI:=bE) (x:=⟨p.b,p.aR,aU,0,0,p.kept⟩) (bs:=[ar,aQ]) (by show af w (bE p).F _ (I.sep [I.aF p.b _ (cS.cells ⟨p.b,p.aR,aU,0,0,p.kept⟩),_,_,_]) w';rw[eu];exact avy.ext he aS fa hY) ⟨rfl,?_⟩;show c6.mk _ aU.aC _ _ _=yk _ _ _;rw[yk,aA e,hgr];rfl
 ·refine⟨_,bE.at_ cg.at_ 2 rfl,λe2=>M,λ_=>⟨af.ch (n:=1) [] [I.aL p.aR,I.aL p.g1,l0 p.kept] cg (by decide:2+1<=5),λbP iJ=>?_⟩⟩
  have ey:af w (bE p).F [ar,aQ] (bE ⟨p.b,p.aR,p.g1,0,p.mode,p.kept⟩) bP:=af.put (n:=1) [] _ cg (by decide:2+1<=5) iJ;refine⟨af.ch (n:=1) [] [I.aL p.aR,I.aL p.g1,l0 p.kept] ey (by decide:3+1<=5),λcu ot=>⟨λe2=>absurd e2 e,λ_=>⟨λe3=>?_,λe3 w' he _=>⟨?_,?_⟩⟩⟩⟩
  ·have eJ:af w (bE p).F [ar,aQ] (bE ⟨p.b,p.aR,p.g1,0,0,p.kept⟩) cu:=af.put (n:=1) [] _ ey (by decide:3+1<=5) ot
   refine⟨_,bE.at_ eJ.at_ 4 rfl,?_⟩;have bQ:∀{v w':World} {yi:ao} {o:I},af w (bE p).F [ar,aQ] (I.sep [I.aF p.b G.ma [p.aR.ptr,p.g1.ptr, .int .i64 0, .int .i64 0, .pointer none],I.aL p.aR,I.aL p.g1,o]) v->dV v [aQ] w'->fK bE w p (λq=>q.b=p.b/\q.bu=yk p.bu mode bV) w':=λs he=>by
    have yK:=(s.drop (l':=[I.aF p.b G.ma (cS.cells ⟨p.b,p.aR,p.g1,0,0,none⟩),I.aL p.aR,I.aL p.g1]) (List.sublist_append_left [_,_,_] [_])).ext he aS fa hY;refine⟨⟨p.b,p.aR,p.g1,0,0,none⟩,⟨rfl,?_⟩,I.agP (o:=I.none) yK.at_ trivial λi _ e=>e,λi hi=>?_⟩
    ·rw[yk,ag e,aA e3];rfl
    ·rcases I.agN (l:=[_,_,_]) (o:=I.none)|>.1 hi with q|q
     ·exact(yK.own i q).1
     ·exact q.elim
   cases hk:p.kept with
   |none=>
    refine⟨λe2=>absurd rfl e2,λ_ w' he _=>⟨?_,?_⟩⟩
    ·unfold ru wI
     rw[aA e3,show p.bu.kept=none by show Option.map _ p.kept=none;rw[hk];rfl,show(decide (mode=1049)&&(none:Option eL).isSome)=false from Bool.and_false _];rfl
    ·rw[hk] at eJ
     exact bQ (yi:=none) eJ he
   |some q=>
    have hq:At cu ⟨q.1,0,none⟩ 0 q.2.T.toList:=by
     have h1:=eJ.at_.1 (l0 p.kept) aS;rw[hk] at h1;exact h1.1.at_ (show 18<=maxLen by decide)
    refine⟨λ_=>⟨_,bE.at_ (p:=⟨p.b,p.aR,p.g1,0,0,p.kept⟩) eJ.at_ 4 rfl,⟨q.1,0,none⟩,by show aef p.kept=_;rw[hk];rfl,q.2,hq,af.ch (n:=1) [] [I.aL p.aR,I.aL p.g1,l0 p.kept] eJ (by decide:4+1<=5),λcR mF w' he _=>⟨?_,?_⟩⟩,λe2=>(nomatch e2)⟩
    ·unfold ru wI
     rw[aA e3,show p.bu.kept=some q.2 by show Option.map _ p.kept=_;rw[hk];rfl,l8 e3];rfl
    ·exact bQ (yi:=none) (af.Ae (n:=1) [] [I.aL p.aR,I.aL p.g1,l0 p.kept] eJ (by decide:4+1<=5) aS fa hY mF) he
  ·unfold ru wI
   rw[ag e3,kp e3];rfl
  ·have eJ:af w (bE p).F [ar,aQ] (bE ⟨p.b,p.aR,p.g1,0,0,p.kept⟩) cu:=af.put (n:=1) [] _ ey (by decide:3+1<=5) ot
   exact af.bQ (eJ.ext he aS fa hY) ⟨rfl,by rw[yk,ag e,ag e3];rfl⟩
end
section
variable{w0 w w' w1:World}{F0:Nat->Prop}{bs:List Nat}{g:cV}{r':cc}{R:Ending->World->Prop}{o:I}{f:FuncId}{args:Array Value}{p:cS}
def c6.aL(v:c6):cc:=if v.c_=1 then v.g1 else v.aR
def cS.aL(p:cS):cV:=if p.c_=1 then p.g1 else p.aR
theorem cS.pv(p:cS):(cS.aL p).aC=c6.aL p.bu:=by unfold cS.aL c6.aL cS.bu;dsimp only;split<;>rfl
theorem bE.amw(h:(bE p).P w):dA w (cS.aL p):=by
 unfold cS.aL;split
 ·exact bE.amv h
 ·exact bE.amu h
theorem bE.Qf(h:(bE p).P w)(hu:p.c_<=1):At w ⟨p.b,0,none⟩ (0+((Int.toNat (p.c_:Int))*1)) [(cS.aL p).ptr]:=by
 unfold cS.aL;split
 ·rename_i e
  rw[e];exact bE.at_ h 1 rfl
 ·rename_i e
  rw[show p.c_=0 by omega];exact bE.at_ h 0 rfl
theorem asw(aj:Laid w)(h:(bE p).P w)(hu:p.c_<=1):bI Tryz.prog X.P' #[p.ptr] w bg (λv w'=>∃aU:cV,v=aU.ptr/\PL w (c6.aL p.bu) aU w'):=by
 refine awX _ λw1 hb1=>?_
 have h1:=(bE p).O h (U.au hb1);refine(E5 h1).aH λad aI=>⟨_,rfl,aI.O,λe=>(nomatch e),λ_=>?_⟩
 have h2:=(bE p).O h1 aI;refine⟨_,bE.at_ h2 2 rfl,⟨by omega,by omega⟩,_,bE.Qf h2 hu,λbw bp=>?_⟩;have aw:=(bE p).O h2 (U.au bp);have hk3:=((U.au hb1).trans aI).trans (U.au bp);refine(asV (Laid.O hk3 aj) (bE.amw aw)).aH λv bD bO ⟨aU,ah,q1,q2,cz⟩=>?_
 subst ah;refine⟨_,rfl,bO.O,λw' hb _=>⟨aU,rfl,q1.trans (cS.pv p),q2.below hb,λi hi=>ek hk3.size (cz i hi)⟩⟩
end
section
variable{w0 w w' w1:World}
theorem afF{an ai:Nat}(aj:Laid w)(de:1<=an)(c1:an<=1000)(bY:1<=ai)(c2:ai<=1000):bI Tryz.prog X.P8 #[.int .i64 an, .int .i64 ai] w bg (λv w'=>∃q:cS,v= .tuple #[q.ptr, .int .i64 0]/\q.bu=IJ an ai/\(bE q).P w'/\∀i,(bE q).F i->w.heap.size<=i):=by
 have hY:=aj.size;refine awU an ai λar ec=>?_
 let bT:cV->World->Prop:=λg v=>g.aC=IG an ai/\dA v g/\∀i,dY g i->w.heap.size<=i/\i≠ar
 have D0:∀{g:cV} {v v':World},bT g v->U (λi=>i=ar) v v'->bT g v':=λ⟨a,b,c⟩ hk=>⟨a,b.ax hk λi hi bk=>(c i bk).2 hi,c⟩
 have qw:∀{v v':World},Laid v->U (λi=>i=ar) v v'->Laid v':=λh hk=>h.ax hk λi hi=>by omega
 have Ug:∀{v v':World},U bg v v'->U (λi=>i=ar) v v':=λhk=>hk.mono λ_ e=>e.elim
 have uW:∀{v v':World},dV v [ar] v'->U (λi=>i=ar) v v':=λhe=>(dV.ax he).mono λi hi=>by simpa using hi
 refine⟨λi cq cA i2 i3 fG w'=>Laid w'/\w.heap.size<=w'.heap.size/\i2=0/\i3=0/\fG=none/\((i=0/\cq=none/\cA=none)∨(∃aR:cV,i=1/\cq=some ⟨aR.b,0,none⟩/\cA=none/\bT aR w')∨(∃aR g1:cV,i=2/\cq=some ⟨aR.b,0,none⟩/\cA=some ⟨g1.b,0,none⟩/\bT aR w'/\bT g1 w'/\∀i,dY aR i->¬dY g1 i)),λi _ _ _ _ _=>(2-i).toNat,λcW lE=>⟨Laid.below lE aj,lE.size,rfl,rfl,rfl, .inl ⟨rfl,rfl,rfl⟩⟩,?_⟩;rintro i cq cA i2 i3 fG w1 hk1 ⟨hL1,hsz,rfl,rfl,rfl,hI⟩;refine⟨λhi bw bp fN=>?_,λhi ad kN _ hw=>?_⟩
 ·have pw:=Laid.below bp hL1
  have hn:=fN.lt (d:=ar) aS;refine(asW pw de c1 bY c2).aH λv bD bO ⟨g,ah,g1,g2,g3⟩=>?_
  subst ah;have kL:=Laid.O bO pw;have tO:=bp.size;have pD:=bO.size;have abO:bT g bD:=⟨g1,g2,λi hi=>by have:=g3 i hi;omega⟩;have ou:U (λi=>i=ar) w1 bD:=Ug ((U.au bp).trans bO);refine⟨_,_,rfl,bO.O,λe=>absurd rfl e,λ_=>⟨?_,λe=>⟨by unfold ay;omega,λcu he=>⟨⟨qw kL (uW he),by have:=he.size;omega,rfl,rfl,rfl,?_⟩,by dsimp only;omega⟩⟩,λe=>⟨by unfold ay;omega,λbP he=>⟨⟨qw kL (uW he),by have:=he.size;omega,rfl,rfl,rfl,?_⟩,by dsimp only;omega⟩⟩,trivial⟩⟩
  ·rcases hI with⟨a,_⟩|⟨_,a,_⟩|⟨_,_,a,_⟩<;>omega
  ·rcases hI with⟨a,b,c⟩|⟨_,a,_⟩|⟨_,_,a,_⟩
   ·exact .inr (.inl ⟨g,by omega,rfl,c,D0 abO (uW he)⟩)
   ·omega
   ·omega
  ·rcases hI with⟨a,b,c⟩|⟨aR,a,b,c,d⟩|⟨_,_,a,_⟩
   ·omega
   ·refine .inr (.inr ⟨aR,g,by omega,b,rfl,D0 (D0 d ou) (uW he),D0 abO (uW he),λj h1 h2=>?_⟩)
    have:=d.2.1.lt h1;have:=g3 j h2;omega
   ·omega
 ·rcases hI with⟨a,_⟩|⟨_,a,_⟩|⟨aR,g1,a,b,c,d,e,hd⟩
  ·omega
  ·omega
  ·subst b
   subst c;have j2:=D0 d (Ug (U.au kN));have e2:=D0 e (Ug (U.au kN));refine⟨⟨ar,aR,g1,0,0,none⟩,rfl,?_,⟨λx hx=>?_,?_⟩,λi hi=>?_⟩
   ·show c6.mk aR.aC g1.aC _ _ _=_
    rw[d.1,e.1];rfl
   ·simp only[e7,ns,nt] at hx
    rcases hx with rfl|rfl|rfl|rfl
    ·exact⟨hw.2,by omega⟩
    ·exact j2.2.1
    ·exact e2.2.1
    ·trivial
   ·refine xd.2 ⟨λx hx i hi h2=>?_,xd.2 ⟨λx hx i hi h2=>?_,xd.2 ⟨λx hx i hi h2=>?_,Dr _ _⟩⟩⟩
    ·rw[show i=ar from hi] at h2
     simp only[e7,ns,nt] at hx;rcases hx with rfl|rfl|rfl
     ·exact(d.2.2 _ h2).2 rfl
     ·exact(e.2.2 _ h2).2 rfl
     ·exact h2
    ·simp only[e7,ns,nt] at hx
     rcases hx with rfl|rfl
     ·exact hd i hi h2
     ·exact h2
    ·simp only[e7,ns,nt] at hx
     subst hx;exact h2
   ·obtain⟨x,hx,h2⟩:=hi
    simp only[e7,ns,nt] at hx;rcases hx with rfl|rfl|rfl|rfl
    ·rw[show i=ar from h2];omega
    ·exact(d.2.2 _ h2).1
    ·exact(e.2.2 _ h2).1
    ·exact h2.elim
end
variable{w0:World}{F:Nat->Prop}{Q:Value->World->Prop}
theorem ayT(r:Addr)(l:gx)(h:aG w0 λa=>a7 w0 F [a] w0 [(a,G.fg)] X.Aj #[al r] .bool λd e=>dQ e (aa w0 F d Q (.tuple #[D 0,D 1])) (a7 w0 F [a] d [(a,G.fg)] X.It #[.agg l.T] .bool λi j=>gL j (aa w0 F i Q (.tuple #[D 0,D 2])) (∃k:World->Prop,(∃m:ao,∃n o:Nat,At i r 4 [.slice m n o]/\a' (n:Int) 0 (∃p,At i r 1 [D p]/\∀q:World,Yc w0 F Q i q [(a,G.fg)] p [a] r a [] k) (∃p:ao,∃q s:Nat,At i r 4 [.slice p q s]/\ay ((n:Int)-1)/\∃t:Addr,p=(some t)/\YL n q/\∃u:ao,At i t ((Int.toNat ((n:Int)-1))*1) [.pointer u]/\a7 w0 F [a] i [(a,G.fg)] X.N_ #[.pointer u] D λy z=>a' z 0 (∃A,At y r 1 [D A]/\∀B:World,Yc w0 F Q y B [(a,G.fg)] A [a] r a [] k) (bm y λA=>k A)))/\∀m:World,U F w0 m->k m->∃n:ao,∃o p:Nat,At m r 4 [.slice n o p]/\∃q:ao,∃s t:Nat,At m r 4 [.slice q s t]/\ay ((s:Int)-1)/\∃u:Addr,n=(some u)/\YL s o/\∃v:ao,At m u ((Int.toNat ((s:Int)-1))*1) [.pointer v]/\a7 w0 F [a] m [(a,G.fg)] X.Wh #[.pointer v, .agg l.T] D λz A=>(A≠0->aa w0 F z Q (.tuple #[D 0,D A]))/\(A=0->∃B,At z r 3 [D B]/\ay (B+1)/\(ct z r 3 1/\cp w0.heap.size F [a] r.block)/\∀C:World,bH z [] r 3 [D (B+1)] C->cC w0 C [(a,G.fg)] X.Vf #[al r] λaD E bT=>bW E (.tuple #[]) w0 F [a] aD bT (∃ak,At bT r 3 [D ak]/\ay (ak-1)/\aa w0 F bT Q (.tuple #[D (ak-1),D 0])))))):aO X.Vd #[al r, .agg l.T] w0 F Q:=eV [] [⟨11,[],[]⟩] [.aY r 0, .agg (gx.bN.enc l)] h
end Go.Proofs.YtimbpmnbbfeogaaGreatDoor
namespace Go.Proofs.YtimbpmnbbfeogaaGreatDoor
open Go Go.RowKit Go.Sy Go.Rep
structure kG(w:World)(r:kc):Prop where
 aF:Whole w r.b G.Ai [.int .i64 r.cy, .int .i64 r.ei, .int .i64 r.first, .int .i64 r.next, .slice r.p r.ss.length r.c]
 row:bF Y.dZ w G.qz 1 r.p r.ss.length r.c (r.ss.map cT.ptr)
 eG:∀s∈r.ss,hQ w s/\s.cy=r.ei
 sep:r.ss.Pairwise λs t=>∀i,iU s i->¬iU t i
 mJ:∀i,dk r.p i->¬fL r.ss i
 f_:¬dk r.p r.b/\¬fL r.ss r.b
 lo:Y.dZ<=r.b
section
variable{w w':World}{r:kc}{s:cT}{ss:List cT}
theorem fT.mid(h:fT w r):kG w r:=⟨h.aF,h.row,λs hs=>⟨(h.eG s hs).1,(h.eG s hs).2.1⟩,h.sep,h.mJ,h.f_,h.lo⟩
theorem fL.append{ss w6:List cT}{i:Nat}:fL (ss++w6) i↔fL ss i∨fL w6 i:=by
 constructor
 ·rintro⟨t,ht,hi⟩
  rcases gi.1 ht with q|q
  ·exact .inl ⟨t,q,hi⟩
  ·exact .inr ⟨t,q,hi⟩
 ·rintro(⟨t,q,hi⟩|⟨t,q,hi⟩)
  ·exact⟨t,pd _ q,hi⟩
  ·exact⟨t,vJ _ q,hi⟩
theorem fL.cw{i:Nat}:fL [s] i↔iU s i:=⟨λ⟨t,ht,hi⟩=>by rw[gg] at ht;subst ht;exact hi,λh=>⟨s,gg.2 rfl,h⟩⟩
theorem kG.lt(h:kG w r){i:Nat}(hi:gY r i):i<w.heap.size:=by
 rcases hi with rfl|⟨a,ha,rfl⟩|⟨s,hs,hi⟩
 ·exact h.aF.lt
 ·exact(h.row.lt a ha).1
 ·exact(h.eG s hs).1.lt hi
theorem kG.ax{F:Nat->Prop}(h:kG w r)(hk:U F w w')(bc:∀i,F i->¬gY r i):kG w' r:=
 ⟨h.aF.ax hk λbk=>bc _ bk (.inl rfl),h.row.ax hk λa ha bk=>bc _ bk (.inr (.inl ⟨a,ha,rfl⟩)),λs hs=>⟨(h.eG s hs).1.ax hk λi bk hi=>bc i bk (.inr (.inr ⟨s,hs,hi⟩)),(h.eG s hs).2⟩,h.sep,h.mJ,h.f_,h.lo⟩
theorem kG.O(h:kG w r)(hk:U bg w w'):kG w' r:=h.ax hk λ_ e=>e.elim
theorem kG.below(h:kG w r)(hb:Below w.heap.size w w'):kG w' r:=h.O (U.au hb)
theorem kG.at_(h:kG w r)(o:Nat){cj:List Value}(hu:cj=(([.int .i64 r.cy, .int .i64 r.ei, .int .i64 r.first, .int .i64 r.next, .slice r.p r.ss.length r.c]:List Value).drop o).take cj.length):At w ⟨r.b,0,none⟩ o cj:=by
 have:=(h.aF.at_ (show 5<=maxLen by decide)).sub o hu;rwa[iR] at this
theorem kG.ring(h:kG w r)(aW:∀s∈r.ss,0<s.xs.length)(m:r.cy<=1048576)(cq:1<=r.ei)(cA:r.ei<=1024)(num:r.next=r.first+eS r.ss)(sX:r.next<=4611686018427387904)(iX:eS r.ss<=1048577):fT w r:=
 ⟨h.aF,h.row,λs hs=>⟨(h.eG s hs).1,(h.eG s hs).2,aW s hs⟩,h.sep,h.mJ,h.f_,h.lo,m,cq,cA,num,sX,iX⟩
theorem kG.next(h:kG w r){n:Nat}(hp:bH w [] ⟨r.b,0,none⟩ 3 [.int .i64 n] w'):kG w' ⟨r.b,r.cy,r.ei,r.first,n,r.p,r.c,r.ss⟩/\U (λi=>i=r.b) w w':=by
 have hk:U (λi=>i=r.b) w w':=hp.ax rfl;refine⟨⟨h.aF.put hp (show 4<=5 by omega),h.row.ax hk λa ha e=>h.f_.1 ⟨a,ha,e⟩,λs hs=>⟨(h.eG s hs).1.ax hk λi hi e=>h.f_.2 ⟨s,hs,by rw[<-hi];exact e⟩,(h.eG s hs).2⟩,h.sep,h.mJ,h.f_,h.lo⟩,hk⟩
theorem kG.Wq{w1:World}{p':ao}{c':Nat}(hY:Y.dZ<=w.heap.size)(h:kG w r)(hs:hQ w s)(hm:s.cy=r.ei)(hn:∀i,iU s i->¬gY r i)(hg:gk w [] r.p r.ss.length r.c G.qz 1 (r.ss.length+1) (r.ss.map cT.ptr++[s.ptr]) w1 p' c')
  (hp:bH w1 [] ⟨r.b,0,none⟩ 4 [.slice p' (r.ss.length+1) c'] w'):kG w' ⟨r.b,r.cy,r.ei,r.first,r.next,p',c',r.ss++[s]⟩/\U (gY r) w w'/\∀i,gY ⟨r.b,r.cy,r.ei,r.first,r.next,p',c',r.ss++[s]⟩ i->gY r i∨iU s i∨w.heap.size<=i:=by
 have hk1:U (dk r.p) w w1:=hg.ax λ_ a ha=>⟨a,ha,rfl⟩
 have aI:U (λi=>i=r.b) w1 w':=hp.ax rfl;have hk:U (gY r) w w':=(hk1.mono λi hi=> .inr (.inl hi)).trans (aI.mono λi hi=> .inl hi);have u5:∀i,dk p' i->dk r.p i∨w.heap.size<=i:=λi ⟨a,ha,e⟩=>by
  rcases hg.j6 a ha with⟨b,h1,h2,_⟩|q
  ·exact .inl ⟨b,h1,by rw[<-h2];exact e⟩
  ·exact .inr M
 have hb1:Whole w1 r.b G.Ai _:=h.aF.ax hk1 λe=>h.f_.1 e
 have hlen:(r.ss++[s]).length=r.ss.length+1:=by simp
 have hlt:∀i,fL (r.ss++[s]) i->i<w.heap.size:=λi hi=>by
  rcases fL.append.1 hi with q|q
  ·exact h.lt (.inr (.inr q))
  ·exact hs.lt (fL.cw.1 q)
 refine⟨⟨?_,?_,λt ht=>?_,?_,λi hi hl=>?_,⟨λhi=>?_,λhl=>?_⟩,h.lo⟩,hk,λi hi=>?_⟩
 ·show Whole _ _ _ [_,_,_,_, .slice _ (r.ss++[s]).length _]
  rw[hlen];exact hb1.put hp (show 5<=5 by omega)
 ·show bF _ _ _ _ _ (r.ss++[s]).length _ ((r.ss++[s]).map cT.ptr)
  rw[hlen,l9];exact(hg.own hY λa ha=>(h.row.lt a ha).2.1).ax aI λa ha e=>by
   rcases u5 _ ⟨a,ha,rfl⟩ with q|q
   ·rw[e] at q;exact h.f_.1 q
   ·have:=h.aF.lt;omega
 ·rcases gi.1 ht with q|q
  ·exact⟨(h.eG t q).1.ax ((hk1.mono λi hi=>Or.inl hi).trans (aI.mono λi hi=>Or.inr hi)) λi hi e=>by
    rcases hi with hi|hi
    ·exact h.mJ i hi ⟨t,q,e⟩
    ·exact h.f_.2 ⟨t,q,by rw[<-hi];exact e⟩,(h.eG t q).2⟩
  ·rw[gg] at q
   subst q;exact⟨hs.ax hk λi hi e=>hn i e hi,hm⟩
 ·exact uz.2 ⟨h.sep,Dr _ _,λt ht u hu i hi e=>by rw[gg] at hu;subst hu;exact hn i e (.inr (.inr ⟨t,ht,hi⟩))⟩
 ·rcases u5 i hi with q|q
  ·rcases fL.append.1 hl with u|u
   ·exact h.mJ i q u
   ·exact hn i (fL.cw.1 u) (.inr (.inl q))
  ·have:=hlt i hl
   omega
 ·rcases u5 _ hi with q|q
  ·exact h.f_.1 q
  ·have:=h.aF.lt
   change w.heap.size<=r.b at q;omega
 ·rcases fL.append.1 hl with u|u
  ·exact h.f_.2 u
  ·exact hn _ (fL.cw.1 u) (.inl rfl)
 ·rcases hi with q|q|q
  ·exact .inl (.inl q)
  ·rcases u5 i q with u|u
   ·exact .inl (.inr (.inl u))
   ·exact .inr (.inr u)
  ·rcases fL.append.1 q with u|u
   ·exact .inl (.inr (.inr u))
   ·exact .inr (.inl (fL.cw.1 u))
theorem kG.yj(h:kG w r)(jK:r.ss=ss++[s]){s':cT}(hs:hQ w' s')(hm:s'.cy=r.ei)(hb:s'.b=s.b)(bc:∀i,iU s' i->iU s i∨w.heap.size<=i)(hk:U (iU s) w w'):kG w' ⟨r.b,r.cy,r.ei,r.first,r.next,r.p,r.c,ss++[s']⟩/\∀i,gY ⟨r.b,r.cy,r.ei,r.first,r.next,r.p,r.c,ss++[s']⟩ i->gY r i∨w.heap.size<=i:=by
 have ev:s∈r.ss:=by rw[jK];simp
 have lg:∀t∈ss,t∈r.ss:=λt ht=>by rw[jK];simp[ht]
 have sB:=h.sep;rw[jK] at sB;have hp:=uz.1 sB;have hlen:(ss++[s']).length=r.ss.length:=by rw[jK];simp
 have kO:∀i,fL (ss++[s']) i->fL r.ss i∨w.heap.size<=i:=λi hi=>by
  rcases fL.append.1 hi with⟨t,ht,q⟩|q
  ·exact .inl ⟨t,lg t ht,q⟩
  ·rcases bc i (fL.cw.1 q) with u|u
   ·exact .inl ⟨s,ev,u⟩
   ·exact .inr u
 refine⟨⟨?_,?_,λt ht=>?_,?_,λi hi hl=>?_,⟨h.f_.1,λhl=>?_⟩,h.lo⟩,λi hi=>?_⟩
 ·show Whole _ _ _ [_,_,_,_, .slice _ (ss++[s']).length _]
  rw[hlen];exact h.aF.ax hk λe=>h.f_.2 ⟨s,ev,e⟩
 ·show bF _ _ _ _ _ (ss++[s']).length _ ((ss++[s']).map cT.ptr)
  have:(ss++[s']).map cT.ptr=r.ss.map cT.ptr:=by rw[jK];simp[cT.ptr,hb]
  rw[hlen,this];exact h.row.ax hk λa ha e=>h.mJ _ ⟨a,ha,rfl⟩ ⟨s,ev,e⟩
 ·rcases gi.1 ht with q|q
  ·exact⟨(h.eG t (lg t q)).1.ax hk λi hi e=>hp.2.2 t q s aS i e hi,(h.eG t (lg t q)).2⟩
  ·rw[gg] at q
   subst q;exact⟨hs,hm⟩
 ·refine uz.2 ⟨hp.1,Dr _ _,λt ht u hu i hi e=>?_⟩
  rw[gg] at hu;subst hu;rcases bc i e with q|q
  ·exact hp.2.2 t ht s aS i hi q
  ·have:=(h.eG t (lg t ht)).1.lt hi
   omega
 ·rcases kO i hl with q|q
  ·exact h.mJ i hi q
  ·have:=h.lt (.inr (.inl hi))
   omega
 ·rcases kO _ hl with q|q
  ·exact h.f_.2 q
  ·have:=h.aF.lt
   change w.heap.size<=r.b at q;omega
 ·rcases hi with q|q|q
  ·exact .inl (.inl q)
  ·exact .inl (.inr (.inl q))
  ·rcases kO i q with u|u
   ·exact .inl (.inr (.inr u))
   ·exact .inr u
end
def wR(ei:Nat):List kE->Li->List kE
 |[],x=>[⟨ei,0,[x]⟩]
 |[p],x=>if p.gone+p.ab.length<p.cy then[⟨p.cy,p.gone,p.ab++[x]⟩] else[p,⟨ei,0,[x]⟩]
 |p::q::a_,x=>p::wR ei (q::a_) x
theorem UF{ei:Nat}{x:Li}{p:kE}:∀a_:List kE,wR ei (a_++[p]) x=if p.gone+p.ab.length<p.cy then a_++[⟨p.cy,p.gone,p.ab++[x]⟩] else a_++[p,⟨ei,0,[x]⟩]
 |[]=>rfl
 |[q]=>by
  show q::wR ei [p] x=_;rw[wR];split<;>rfl
 |q::q2::a_=>by
  have:=UF (ei:=ei) (x:=x) (p:=p) (q2::a_);show q::wR ei (q2::(a_++[p])) x=_;rw[show q2::(a_++[p])=(q2::a_)++[p] from rfl,this];split<;>rfl
def IZ(q:fp)(x:Li):fp:=GW ⟨q.cy,q.ei,q.first,q.next+1,wR q.ei q.a_ x⟩
theorem Iu(a b:List cT):eS (a++b)=eS a+eS b:=by simp[eS]
section
variable{w w':World}{r:kc}{l:gx}{cs:List bC}
theorem atF(aj:Laid w)(h:fT w r)(hl:nz w l cs)(ah:pK cs=true)(aoz:∀a,l.cells.p=some a->¬gY r a.block)(aCx:eS r.ss<=r.cy)(hnext:r.next<4611686018427387904):bI Tryz.prog X.Vd #[r.ptr, .agg l.T] w (gY r) (λv w'=>v= .tuple #[.int .i64 r.next, .int .i64 0]/\PK w r (IZ r.aq ⟨cs,l.cU⟩) w'):=by
 have hY:=aj.size;have oW:=h.m;have S1:=h.cq;have S2:=h.cA;refine ayT _ l λar ec w1 hb1 fb=>(E8 (h.below hb1)).aH λad aI=>⟨_,rfl,aI.O,λe=>(nomatch e),λ_ bw bp fN=>?_⟩
 have k3:=((U.au hb1).trans aI).trans (U.au bp);refine(UQ (Laid.O k3 aj) (hl.O k3)).aH λbD bO=>⟨_,rfl,bO.O,λe=>(by rw[ah] at e;cases e),λ_=>?_⟩
 have k4:=k3.trans bO;have aZ:=h.O k4
 let bo:World->Prop:=λv=>U (gY r) w v/\∃(p:ao) (c:Nat) (ss:List cT) (s:cT),kG v ⟨r.b,r.cy,r.ei,r.first,r.next,p,c,ss++[s]⟩/\(∀t∈ss,0<t.xs.length)/\s.gone+s.xs.length<s.cy/\eS (ss++[s])=eS r.ss/\
  (∀i,gY ⟨r.b,r.cy,r.ei,r.first,r.next,p,c,ss++[s]⟩ i->(gY r i∨w.heap.size<=i)/\i≠ar)/\ss.map cT.cK++[⟨s.cy,s.gone,bJ s.xs++[⟨cs,l.cU⟩]⟩]=wR r.ei (r.ss.map cT.cK) ⟨cs,l.cU⟩
 have fresh:∀{v0 v:World} (bs:List Nat),U bg w v0->cB v0 w.heap.size [(ar,G.fg)]->Below v0.heap.size v0 v->wR r.ei (r.ss.map cT.cK) ⟨cs,l.cU⟩=r.ss.map cT.cK++[⟨r.ei,0,[⟨cs,l.cU⟩]⟩]->True:=λ_ _ _ _ _=>trivial
 have hne:∀i,gY r i->i≠ar:=λi hi e=>by have:=h.lt hi;omega
 have mk:∀{v0 s3 v2 v3:World} {s:cT} {p':ao} {c':Nat},U bg w s3->w.heap.size<=s3.heap.size->(∀i,iU s i->w.heap.size<=i/\i≠ar)->PQ v0 ⟨r.ei,0,[]⟩ s s3->wR r.ei (r.ss.map cT.cK) ⟨cs,l.cU⟩=r.ss.map cT.cK++[⟨r.ei,0,[⟨cs,l.cU⟩]⟩]->
   ar<s3.heap.size->gk s3 [] r.p r.ss.length r.c G.qz 1 (r.ss.length+1) (r.ss.map cT.ptr++[s.ptr]) v2 p' c'->bH v2 [] ⟨r.b,0,none⟩ 4 [.slice p' (r.ss.length+1) c'] v3->bo v3:=by
  intro v0 s3 v2 v3 s p' c' yi hsz S_ ⟨lY,Mn,ng⟩ S3 L_ hg hp;have x9:=(h.O yi).mid;have SC:s.cy=r.ei:=dx kE.cy lY;have qo:s.gone=0:=dx kE.gone lY;have HU:bJ s.xs=[]:=dx kE.ab lY;have Sv:s.xs=[]:=by simpa[bJ] using HU
  obtain⟨q1,q2,cz⟩:=x9.Wq M Mn SC (λi hi e=>by have:=h.lt e;have:=(S_ i hi).1;omega) hg hp;refine⟨(yi.mono λ_ e=>e.elim).trans q2,p',c',r.ss,s,q1,λt ht=>(h.eG t ht).2.2,by rw[qo,Sv,SC];simp;omega,by rw[Iu];simp[eS,Sv],λi hi=>?_,?_⟩
  ·rcases cz i hi with u|u|u
   ·exact⟨.inl u,hne i u⟩
   ·exact⟨.inr (S_ i u).1,(S_ i u).2⟩
   ·exact⟨.inr M,by omega⟩
  ·rw[S3,qo,Sv,SC]
   rfl
 have room:∀{v:World} {bs:List Nat} {m:Nat},U bg w v->(∀b∈bs,w.heap.size<=b)->gy w.heap.size (gY r) bs v G.qz 1 r.p r.ss.length r.c (r.ss.map cT.ptr) m:=λyi ic=>by
  refine(h.O yi).row.room (λa ha hm=>?_) (λ_ a ha hlt=> .inr (.inl ⟨a,ha,rfl⟩));have:=h.lt (.inr (.inl ⟨a,ha,rfl⟩));have:=ic _ hm;omega
 have iX:(r.ss.length+1)*8<=140737488355328:=by
  have:∀ss:List cT,(∀s∈ss,0<s.xs.length)->ss.length<=eS ss:=by
   intro ss h
   induction ss with
   |nil=>exact cL _
   |cons s ss ih=>
    rw[vl];have:=h s kB;have:=ih λt ht=>h t (jt _ ht)
    simp only[ko];omega
  have q1:=this r.ss λt ht=>(h.eG t ht).2.2
  omega
 have lS:∀{bs:List Nat},(∀b∈bs,w.heap.size<=b)->cp w.heap.size (gY r) bs r.b:=λic=>⟨λhm=>by have:=ic _ hm;have:=h.lt (.inl rfl);omega,λ_=> .inl rfl⟩
 refine⟨bo,⟨_,_,_,aZ.mid.at_ 4 rfl,λe=>?_,λe=>?_⟩,?_⟩
 ·
  have jK:r.ss=[]:=n2 M;refine⟨_,aZ.mid.at_ 1 rfl,λuu B4 Sz=>?_⟩;have yg:=k4.trans (U.au B4);refine(af6 (n:=r.ei) (Laid.O yg aj) S1 S2).aH λv s4 x6 ⟨s,ah,ng⟩=>?_
  subst ah;have yh:=yg.trans x6;have L_:=Sz.lt (d:=ar) aS;have aCY:=yg.size;have ao4:=x6.size;refine⟨_,_,rfl,x6.O,λe=>absurd rfl e,λ_=>⟨_,_,_,(h.O yh).mid.at_ 4 rfl,λard aor=>⟨r.ss.map cT.ptr,room yh ej,iX,λky IU aeP hg fV=>?_⟩⟩⟩;have aom:=(h.O yh).mid.aF.ax (hg.ax (F:=dk r.p) λ_ a ha=>⟨a,ha,rfl⟩) λe=>h.f_.1 e
  exact⟨⟨aom.ch (show 5<=5 by omega),lS ej⟩,λAA aoE rQ tE=>by
   have:=mk (v0:=uu) yh M (λi hi=>by have:=ng.2.2 i hi;omega) ng (by rw[jK];rfl) M hg aoE;obtain⟨dd,p,c,ss,s',a2,a3,a4,a5,iG,nC⟩:=this
   exact⟨dd.trans ((U.au tE).mono λ_ e=>e.elim),p,c,ss,s',a2.below tE,a3,a4,a5,iG,nC⟩⟩
 ·
  obtain⟨ss,s,jK⟩:∃ss s,r.ss=ss++[s]:=by
   rcases List.eq_nil_or_concat r.ss with q|⟨ss,s,q⟩
   ·rw[q] at e;exact absurd rfl e
   ·exact⟨ss,s,by simpa using q⟩
  have hlen:r.ss.length=ss.length+1:=by rw[jK];simp
  have ev:s∈r.ss:=by rw[jK];simp
  obtain⟨hs,ve,hs0⟩:=h.eG s ev;obtain⟨a,ha⟩:=aZ.row.row.iP (by omega:0<r.ss.length)
  have dB:∀{v:World},fT v r->At v a ((Int.toNat ((r.ss.length:Int)-1))*1) [s.ptr]:=λah=>Row.at_ ah.row.row ha _ (cj:=[s.ptr]) (by
   rw[show((r.ss.length:Int)-1).toNat*1=ss.length by omega,jK,l9,XR aS,rU aS]
   rfl)
  have adb:r.ss.map cT.cK=ss.map cT.cK++[s.cK]:=by rw[jK];simp
  have j3:s.cK.ab.length=s.xs.length:=by simp[cT.cK,bJ]
  refine⟨_,_,_,aZ.mid.at_ 4 rfl,by unfold ay;omega,a,ha,⟨by omega,by omega⟩,_,dB aZ,λjy kM Ej=>?_⟩;have wH:=k4.trans (U.au kM);have zP:=(hs.O wH).room;refine(af7 (hs.O wH)).aH λk2 oi=>⟨_,rfl,oi.O,λe2=>?_,λe2 oz ks=>?_⟩
  ·have ou:=wH.trans oi
   refine⟨_,(h.O ou).mid.at_ 1 rfl,λnX oR Ek=>?_⟩;have sI:=ou.trans (U.au oR);refine(af6 (n:=r.ei) (Laid.O sI aj) S1 S2).aH λv l7 oT ⟨s',ah,ng⟩=>?_
   subst ah;have Im:=sI.trans oT;have L_:=Ek.lt (d:=ar) aS;have ao2:=sI.size;have ao3:=oT.size;refine⟨_,_,rfl,oT.O,λe=>absurd rfl e,λ_=>⟨_,_,_,(h.O Im).mid.at_ 4 rfl,λIF aoq=>⟨r.ss.map cT.ptr,room Im ej,iX,λlK IV MY hg fV=>?_⟩⟩⟩;have aol:=(h.O Im).mid.aF.ax (hg.ax (F:=dk r.p) λ_ a ha=>⟨a,ha,rfl⟩) λe=>h.f_.1 e
   exact⟨⟨aol.ch (show 5<=5 by omega),lS ej⟩,λqO SV km qk=>by
    have:=mk (v0:=nX) Im M (λi hi=>by have:=ng.2.2 i hi;omega) ng (by rw[adb,UF,ag (by rw[j3];show ¬s.gone+s.xs.length<s.cy;omega)];simp) M hg SV;obtain⟨dd,p,c,ss,s',a2,a3,a4,a5,iG,nC⟩:=this
    exact⟨dd.trans ((U.au qk).mono λ_ e=>e.elim),p,c,ss,s',a2.below qk,a3,a4,a5,iG,nC⟩⟩
  ·have rr:=(wH.trans oi).trans (U.au ks)
   have Lx:=(h.O rr).mid;have se:(⟨r.b,r.cy,r.ei,r.first,r.next,r.p,r.c,ss++[s]⟩:kc)=r:=by rw[<-jK]
   refine⟨rr.mono λ_ e=>e.elim,r.p,r.c,ss,s,by rw[se];exact Lx,λt ht=>(h.eG t (by rw[jK];simp[ht])).2.2,by omega,by rw[jK],λi hi=>?_,?_⟩
   ·rw[se] at hi
    exact⟨.inl hi,hne i hi⟩
   ·rw[adb,UF,aA (by rw[j3];show s.gone+s.xs.length<s.cy;omega)]
    rfl
 ·rintro bP eH ⟨Cz,p,c,ss,s,x9,sA,zP,L6,bc,S3⟩
  obtain⟨hs,ve⟩:=x9.eG s aS;have hlen:(ss++[s]).length=ss.length+1:=by simp
  obtain⟨a,ha⟩:=x9.row.row.iP (by simp:0<(ss++[s]).length)
  have dB:At bP a ((Int.toNat (((ss++[s]).length:Int)-1))*1) [s.ptr]:=Row.at_ x9.row.row ha _ (cj:=[s.ptr]) (by
   rw[show(((ss++[s]).length:Int)-1).toNat*1=ss.length by omega,l9,XR aS,rU aS]
   rfl)
  have hbig:ss.length+1<9223372036854775807:=by
   have:=bF.GB x9.row;have e:maxLen=9223372036854775807:=by decide
   have h2:=(ss++[s]).length;rw[hlen,e] at this;have q:∀ss:List cT,(∀s∈ss,0<s.xs.length)->ss.length<=eS ss:=by
    intro ss h
    induction ss with
    |nil=>exact cL _
    |cons s ss ih=>
     rw[vl];have:=h s kB;have:=ih λt ht=>h t (jt _ ht)
     simp only[ko];omega
   have:=q ss sA;rw[Iu] at L6;omega
  refine⟨_,_,_,x9.at_ 4 rfl,_,_,_,x9.at_ 4 rfl,by unfold ay;rw[hlen];omega,a,ha,⟨by rw[hlen];omega,by omega⟩,_,dB,λcu ep oX=>?_⟩;have nc:Laid bP:=aj.ax Cz λi hi=>h.low hi
  have sl:=Laid.below ep nc;have aon:=x9.below ep;have an7:nz cu l cs:=ga.ax hl (Cz.trans ((U.au ep).mono λ_ e=>e.elim)) aoz;refine(auh sl (hs.below ep) an7 ah zP).aH λv w7 e_ ⟨aps,s',hb',H',jo,zt⟩=>?_
  subst aps;obtain⟨q1,q2⟩:=aon.yj (ss:=ss) (s:=s) rfl jo (by have:=dx kE.cy H';exact this.trans ve) hb' zt e_;have L_:=oX.lt (d:=ar) aS;have hsz:=eH.size;have Ta:=ep.size;have adh:=e_.size;have RN:∀i,iU s i->gY ⟨r.b,r.cy,r.ei,r.first,r.next,p,c,ss++[s]⟩ i:=λi hi=> .inr (.inr ⟨s,by simp,hi⟩)
  have RL:∀i,gY ⟨r.b,r.cy,r.ei,r.first,r.next,p,c,ss++[s']⟩ i->(gY r i∨w.heap.size<=i)/\i≠ar:=λi hi=>by
   rcases q2 i hi with u|u
   ·exact bc i u
   ·exact⟨.inr M,by omega⟩
  have ap5:U (gY r) w w7:=(Cz.trans ((U.au ep).mono λ_ e=>e.elim)).after e_ λi hlt hi=>((bc i (RN i hi)).1).resolve_right M
  refine⟨0,rfl,e_.kept (λi hi hlt=>((bc i (RN i hi)).1).resolve_right M) λi hi _ hm=>(bc i (RN i hi)).2 (by simpa using hm),λe=>absurd rfl e,λ_=>⟨(r.next:Int),q1.at_ 3 rfl,by unfold ay;omega,⟨q1.aF.ch (show 4<=5 by omega),lS ej⟩,λcW sz cR cr dO=>?_⟩⟩;have uX:((r.next:Int)+1)=((r.next+1:Nat):Int):=by omega
  rw[uX] at sz;obtain⟨nk,gu⟩:=q1.next sz;have HU:bJ s'.xs=bJ s.xs++[⟨cs,l.cU⟩]:=dx kE.ab H';have adg:s'.xs.length=s.xs.length+1:=by
   have:=dx List.length HU;simpa[bJ] using this
  have aCr:eS (ss++[s'])=eS r.ss+1:=by
   rw[<-L6,Iu,Iu];simp[eS];omega
  have zL:=h.num
  have aoV:=(nk.below cr).ring (λt ht=>by
   rcases gi.1 ht with q|q
   ·exact sA t q
   ·rw[gg] at q;subst q;omega) oW S1 S2 (by show r.next+1=r.first+eS (ss++[s']);omega) (by show r.next+1<=_;omega) (by show eS (ss++[s'])<=_;omega)
  have ad_:U (gY r) w cR:=(ap5.trans (gu.mono λi hi=> .inl hi)).trans ((U.au cr).mono λ_ e=>e.elim);have wt:Laid cR:=aj.ax ad_ λi hi=>h.low hi
  refine(atH wt aoV).aH λv gn jI ⟨apq,r',iY,ac6,ac4,amI⟩=>?_
  subst apq;have aDd:=ad_.size;have aCD:=dO.lt (d:=ar) aS;have alC:r'.next=r.next+1:=dx fp.next ac6;have gH:r'.b=r.b:=iY;refine⟨rfl,jI.kept (λi hi hlt=>((RL i hi).1).resolve_right M) λi hi _ hm=>(RL i hi).2 (by simpa using hm),(r'.next:Int),by have:=ac4.mid.at_ 3 (cj:=[.int .i64 r'.next]) rfl;rw[gH] at this;exact this,by unfold ay;omega,λw' hb _=>⟨?_,r',gH,?_,ac4.below hb,λi hi=>?_⟩⟩
  ·rw[alC,show(((r.next+1:Nat):Int)-1)=(r.next:Int) by omega]
  ·rw[ac6]
   unfold IZ;congr 1;show fp.mk _ _ _ _ ((ss++[s']).map cT.cK)=fp.mk _ _ _ _ (wR r.ei (r.ss.map cT.cK) _);rw[<-S3,l9];show fp.mk _ _ _ _ (_++[s'.cK])=_;rw[H'];rfl
  ·rcases amI i hi with u|u
   ·exact(RL i u).1
   ·exact .inr M
end
variable{w0:World}{F:Nat->Prop}{Q:Value->World->Prop}
theorem aAl(s:Addr)(ae:Int)(h:∃a,At w0 s 0 [D a]/\a' a 0 (aa w0 F w0 Q (D 1)) (bG ae 0 (aa w0 F w0 Q (D 3)) (∃b,At w0 s 0 [D b]/\dX b ae (aa w0 F w0 Q (D 3)) (aa w0 F w0 Q (D 0))))):aO X.FI #[al s,D ae] w0 F Q:=bh [.aY s 0,cn ae] h
theorem aAm(s:Addr)(cQ:Int)(h:∃a:Int->World->Prop,∃b:Int->Nat,(bm w0 λc=>a 8 c)/\∀c:Int,∀d:World,U F w0 d->a c d->∃e,At d s 0 [D e]/\bG c e (dX cQ c (∃f:Value,f.oneCell'=true/\At d s 1 [f]/\bm d λg=>∃i:Nat,f=(.map (some i))/\∃j:List Int,lQ g i j/\(i<w0.heap.size->F i)/\∀k:World,pr g i (Aq c j) k->ay (c+8)/\bm k λl=>a (c+8) l/\b (c+8)<b c) (ay (c+8)/\bm d λf=>a (c+8) f/\b (c+8)<b c)) (aa w0 F d Q (.tuple #[]))):aO X.WJ #[al s,D cQ] w0 F Q:=eV [⟨1,[4],[]⟩] [] [.aY s 0,cn cQ] h
theorem aAf(ai:Int)(h:DC w0 F Q ai/\((1:Int)<=ai->Kd w0 F Q ai/\(ai<=1000->bm w0 λa=>∀b:World,∀c:Nat,Gs a b c->aG b λd=>bm b λe=>w0.heap.size<=d/\Whole e d G.Oq [D ai, .map (some c)]->ia X.WJ #[ij d,D 0] e λf g=>bW f (.tuple #[]) w0 F [] e g (∃i,∃j:Value,j.oneCell'=true/\Whole g d G.Oq [D i,j]/\bm g λk=>U F w0 k->w0.heap.size<=d/\Whole k d G.Oq [D i,j]->Q (.tuple #[ij d,D 0]) k)))):aO X.WC #[D ai] w0 F Q:=bh [cn ai] h
theorem aAk(s:Addr)(ae:Int)(h:b9 w0 F [] w0 X.FI #[al s,D ae] D λc d=>(d=0->∃e:Value,e.oneCell'=true/\At c s 1 [e]/\bm c λf=>∃g:Nat,e=(.map (some g))/\∃i:List Int,lQ f g i/\(g<w0.heap.size->F g)/\∀j:World,pr f g (Aq ae i) j->aa w0 F j Q (D d))/\i' w0 F Q d c):aO X.WI #[al s,D ae] w0 F Q:=bh [.aY s 0,cn ae] h
theorem aAg(s:Addr)(ae:Int)(h:b9 w0 F [] w0 X.FI #[al s,D ae] D λc d=>(d=0->∃e:Value,e.oneCell'=true/\At c s 1 [e]/\bm c λf=>∃g:Nat,e=(.map (some g))/\∃i:List Int,lQ f g i/\(g<w0.heap.size->F g)/\∀j:World,pr f g (i.erase ae) j->aa w0 F j Q (D d))/\i' w0 F Q d c):aO X.WD #[al s,D ae] w0 F Q:=bh [.aY s 0,cn ae] h
theorem aAj(s:Addr)(h:b9 w0 F [] w0 X.FI #[al s,D 0] D λc d=>(d=0->∃e:Value,e.oneCell'=true/\At c s 1 [e]/\bm c λf=>∃g:Nat,e=(.map (some g))/\∃i:List Int,lQ f g i/\(g<w0.heap.size->F g)/\∀j:World,pr f g [] j->aa w0 F j Q (D d))/\i' w0 F Q d c):aO X.WH #[al s] w0 F Q:=bh [.aY s 0] h
theorem aAn(s:Addr)(ae n step end_:Int)(h:b9 w0 F [] w0 X.FI #[al s,D ae] D λc d=>(d≠0->aa w0 F c Q (.tuple #[D 0,D d]))/\(d=0->bG n 0 (aa w0 F c Q (.tuple #[D 0,D 2])) (∃e:Int->Int->World->Prop,∃f:Int->Int->Nat,(bm c λg=>e ae n g)/\∀g i:Int,∀j:World,U F w0 j->e g i j->bG 0 i ((g≠end_->ay (g+step)/\∃k:Value,k.oneCell'=true/\At j s 1 [k]/\bm j λl=>∃m:Nat,k=(.map (some m))/\∃o:List Int,lQ l m o/\∀p:Bool,Zg o (g+step) p->dQ p (ay (i-1)/\bm l λq=>e (g+step) (i-1) q/\f (g+step) (i-1)<f g i) (bm l λq=>e (g+step) i q/\f (g+step) i<f g i))/\(g=end_->aa w0 F j Q (.tuple #[D g,D 0]))) (aa w0 F j Q (.tuple #[D g,D 0]))))):aO X.Ot #[al s,D ae,D n,D step,D end_] w0 F Q:=eV [⟨6,[1,2],[]⟩] [] [.aY s 0,cn ae,cn n,cn step,cn end_] h
theorem aAh(s:Addr)(ae n:Int)(h:∃a,At w0 s 0 [D a]/\ay (a-1)/\dt w0 X.Ot #[al s,D ae,D n,D 1,D (a-1)] λb c d=>∃e f:Int,bW c (.tuple #[D e,D f]) w0 F [] b d (aa w0 F d Q (.tuple #[D e,D f]))):aO X.WE #[al s,D ae,D n] w0 F Q:=bh [.aY s 0,cn ae,cn n] h
theorem aAi(s:Addr)(ae n:Int)(h:dt w0 X.Ot #[al s,D ae,D n,D (-1),D 0] λa b c=>∃d e:Int,bW b (.tuple #[D d,D e]) w0 F [] a c (aa w0 F c Q (.tuple #[D d,D e]))):aO X.WG #[al s,D ae,D n] w0 F Q:=bh [.aY s 0,cn ae,cn n] h
end Go.Proofs.YtimbpmnbbfeogaaGreatDoor
namespace Go.Rep
open Go Go.Sy
structure xw where
 (b m:Nat) (ai:Int) (l:List Int)
def xw.ptr(t:xw):Value:= .pointer (some ⟨t.b,0,none⟩)
end Go.Rep
namespace Go.Sy
theorem pr.ax{w w':World}{b:Nat}{l:List Int}(h:pr w b l w'):U (λi=>i=b) w w':=⟨h.os,h.tape,h.output,by rw[h.size];exact cL _,λi _ hi=>h.heap i hi⟩
theorem Gs.ax{w w':World}{b:Nat}(h:Gs w w' b):U bg w w':=⟨h.os,h.tape,h.output,Pa (JU h.new h.size),λi hi _=>h.heap i hi⟩
theorem lQ.lt{w:World}{b:Nat}{l:List Int}(h:lQ w b l):b<w.heap.size:=by
 obtain⟨e,c,h1,_⟩:=h;exact(oD.1 h1).1
theorem lQ.ax{w w':World}{b:Nat}{l:List Int}{F:Nat->Prop}(h:lQ w b l)(hk:U F w w')(bc:¬F b):lQ w' b l:=by
 have hlt:=h.lt;obtain⟨e,c,h1,h2⟩:=h;exact⟨e,c,by rw[hk.heap b hlt bc];exact h1,h2⟩
theorem lQ.sL{w:World}{b d:Nat}{l:List Int}{t:TypeId}{cs:List Value}(h:lQ w b l)(hw:Whole w d t cs):b≠d:=by
 rintro rfl;obtain⟨e,c,h1,_⟩:=h;unfold Whole at hw;rw[hw] at h1;cases h1
def I.stops(t:Go.Rep.xw):I:=
 ⟨λi=>i=t.b∨i=t.m,λw=>Whole w t.b Go.Proofs.YtimbpmnbbfeogaaGreatDoor.G.Oq [.int .i64 t.ai, .map (some t.m)]/\lQ w t.m t.l/\Go.Proofs.YtimbpmnbbfeogaaGreatDoor.Y.dZ<=t.b/\Go.Proofs.YtimbpmnbbfeogaaGreatDoor.Y.dZ<=t.m,
  λh e=>e.elim (λe=>by rw[e];exact h.1.lt) λe=>by rw[e];exact h.2.1.lt,λh e=>e.elim (λe=>by rw[e];exact h.2.2.1) λe=>by rw[e];exact h.2.2.2,
  λh hk bc=>⟨h.1.ax hk λe=>bc _ e (.inl rfl),h.2.1.ax hk λe=>bc _ e (.inr rfl),h.2.2⟩⟩
end Go.Sy
namespace Go.Proofs.YtimbpmnbbfeogaaGreatDoor
open Go Go.RowKit Go.Sy Go.Rep
def BP(cQ:Int)(l:List Int):Nat->List Int
 |0=>l
 |k+1=>if cQ<=8*(k+1:Nat) then Aq (8*(k+1:Nat)) (BP cQ l k) else BP cQ l k
def zn(ai cQ:Int)(l:List Int):List Int:=BP cQ l ((ai-1)/8).toNat
def s5(l:List Int)(step end_:Int):Nat->Int->Int->Int
 |0,ae,_=>ae
 |k+1,ae,n=>if 0<n/\ae≠end_ then s5 l step end_ k (ae+step) (if l.contains (ae+step) then n-1 else n) else ae
section
variable{w w':World}{t:xw}
theorem yP(h:(I.stops t).P w)(o:Nat){cj:List Value}(hu:cj=([.int .i64 t.ai, .map (some t.m)].drop o).take cj.length):At w ⟨t.b,0,none⟩ o cj:=by
 have:=(h.1.at_ (show 2<=maxLen by decide)).sub o hu;rwa[iR] at this
theorem jw(h:(I.stops t).P w)(hk:U bg w w'):(I.stops t).P w':=(I.stops t).O h hk
theorem Ol{l':List Int}(h:(I.stops t).P w)(hs:pr w t.m l' w'):(I.stops ⟨t.b,t.m,t.ai,l'⟩).P w':=
 ⟨h.1.ax hs.ax λe=>h.2.1.sL h.1 e.symm,hs.row,h.2.2⟩
theorem ND{ae:Int}(h:(I.stops t).P w)(h1:1<=t.ai)(hc:0<=ae)(mg:ae<t.ai):di X.FI #[t.ptr, .int .i64 ae] w (.int .i64 0):=
 aAl _ ae ⟨_,yP h 0 rfl,λe=>by omega,λ_=>⟨λe=>by omega,λ_=>⟨_,yP h 0 rfl,λe=>by omega,λ_=>aa.of λ_=>rfl⟩⟩⟩
theorem auy{cQ:Int}(h:(I.stops t).P w)(h1:1<=t.ai)(h2:t.ai<=1000):bI Tryz.prog X.WJ #[t.ptr, .int .i64 cQ] w (I.stops t).F (λv w'=>v= .tuple #[]/\(I.stops ⟨t.b,t.m,t.ai,zn t.ai cQ t.l⟩).P w'):=by
 refine aAm _ cQ ⟨λi V=>∃j:Nat,i=8*(j+1:Nat)/\j<=((t.ai-1)/8).toNat/\(I.stops ⟨t.b,t.m,t.ai,BP cQ t.l j⟩).P V,λi=>(1008-i).toNat,λw7 c8=>⟨0,rfl,ef _,jw h (U.au c8)⟩,?_⟩;rintro i w1 hk1 ⟨j,rfl,hj,hp⟩;refine⟨t.ai,yP hp 0 rfl,λe=>⟨λe2=>⟨_,rfl,yP hp 1 rfl,λbD eR=>?_⟩,λe2=>⟨by unfold ay;omega,λbw bp=>⟨⟨j+1,by omega,by omega,?_⟩,by dsimp only;omega⟩⟩⟩,λe w' hb _=>⟨rfl,?_⟩⟩
 ·have aZ:=jw hp (U.au eR)
  refine⟨t.m,rfl,_,aZ.2.1,λ_=> .inr rfl,λbP hs=>⟨by unfold ay;omega,λcu ep=>⟨⟨j+1,by omega,by omega,?_⟩,by dsimp only;omega⟩⟩⟩;have:=jw (Ol aZ hs) (U.au ep);rw[BP,aA e2];exact this
 ·rw[BP,ag M]
  exact jw hp (U.au bp)
 ·have:zn t.ai cQ t.l=BP cQ t.l j:=by
   rw[zn,show((t.ai-1)/8).toNat=j by omega]
  rw[this];exact jw hp (U.au hb)
theorem af_{ai:Int}(aj:Laid w)(h1:1<=ai)(h2:ai<=1000):bI Tryz.prog X.WC #[.int .i64 ai] w bg (λv w'=>∃t:xw,v= .tuple #[t.ptr, .int .i64 0]/\t.ai=ai/\t.l=zn ai 0 []/\(I.stops t).P w'/\∀i,(I.stops t).F i->w.heap.size<=i):=by
 have hY:=aj.size;refine aAf ai ⟨λe=>by omega,λ_=>⟨λe=>by omega,λ_ w1 hb1 ad m hn b hb bw bp apx=>?_⟩⟩;have hs1:=hb1.size;have tN:=hn.ax.size;have tO:=bp.size;have hm:=hn.new;have hsz:=hn.size;have hp:(I.stops ⟨b,m,ai,[]⟩).P bw:=⟨apx.2,hn.row.ax (U.au bp) (λe=>e),by show _<=b;omega,by show _<=m;omega⟩;refine(auy (cQ:=0) hp h1 h2).aH λv bD bO ⟨ah,aZ⟩=>⟨by rw[ah],bO.kept (λi hi hlt=>?_) (λi _ _ hm=>by cases hm),ai,_,rfl,aZ.1,λbP hb5 _ ads=>⟨⟨b,m,ai,_⟩,rfl,rfl,rfl,jw aZ (U.au hb5),λi hi=>?_⟩⟩
 ·rcases hi with e|e
  ·have:i=b:=e
   omega
  ·have:i=m:=e
   omega
 ·rcases hi with e|e
  ·have:i=b:=e
   omega
  ·have:i=m:=e
   omega
theorem auw{ae:Int}(h:(I.stops t).P w)(h1:1<=t.ai)(hc:0<=ae)(mg:ae<t.ai):bI Tryz.prog X.WI #[t.ptr, .int .i64 ae] w (I.stops t).F (λv w'=>v= .int .i64 0/\(I.stops ⟨t.b,t.m,t.ai,Aq ae t.l⟩).P w'):=by
 refine aAk _ ae λw1 hb1=>(ND (jw h (U.au hb1)) h1 hc mg).aH λad aI=>⟨_,rfl,aI.O,λ_=>⟨_,rfl,yP (jw (jw h (U.au hb1)) aI) 1 rfl,λbD eR=>?_⟩,λe=>absurd rfl e⟩
 have aZ:=jw (jw (jw h (U.au hb1)) aI) (U.au eR);exact⟨t.m,rfl,_,aZ.2.1,λ_=> .inr rfl,λbP hs w' hb _=>⟨rfl,jw (Ol aZ hs) (U.au hb)⟩⟩
theorem aus{ae:Int}(h:(I.stops t).P w)(h1:1<=t.ai)(hc:0<=ae)(mg:ae<t.ai):bI Tryz.prog X.WD #[t.ptr, .int .i64 ae] w (I.stops t).F (λv w'=>v= .int .i64 0/\(I.stops ⟨t.b,t.m,t.ai,t.l.erase ae⟩).P w'):=by
 refine aAg _ ae λw1 hb1=>(ND (jw h (U.au hb1)) h1 hc mg).aH λad aI=>⟨_,rfl,aI.O,λ_=>⟨_,rfl,yP (jw (jw h (U.au hb1)) aI) 1 rfl,λbD eR=>?_⟩,λe=>absurd rfl e⟩
 have aZ:=jw (jw (jw h (U.au hb1)) aI) (U.au eR);exact⟨t.m,rfl,_,aZ.2.1,λ_=> .inr rfl,λbP hs w' hb _=>⟨rfl,jw (Ol aZ hs) (U.au hb)⟩⟩
theorem auv(h:(I.stops t).P w)(h1:1<=t.ai):bI Tryz.prog X.WH #[t.ptr] w (I.stops t).F (λv w'=>v= .int .i64 0/\(I.stops ⟨t.b,t.m,t.ai,[]⟩).P w'):=by
 refine aAj _ λw1 hb1=>(ND (jw h (U.au hb1)) h1 M M).aH λad aI=>⟨_,rfl,aI.O,λ_=>⟨_,rfl,yP (jw (jw h (U.au hb1)) aI) 1 rfl,λbD eR=>?_⟩,λe=>absurd rfl e⟩
 have aZ:=jw (jw (jw h (U.au hb1)) aI) (U.au eR);exact⟨t.m,rfl,_,aZ.2.1,λ_=> .inr rfl,λbP hs w' hb _=>⟨rfl,jw (Ol aZ hs) (U.au hb)⟩⟩
theorem af'{ae n step end_:Int}{f:Nat}(h:(I.stops t).P w)(h1:1<=t.ai)(h2:t.ai<=1000)(hc:0<=ae)(mg:ae<t.ai)(hn:0<=n)(gA:n<=4611686018427387904)(he:end_=ae+f*step)(hs:step=1∨step= -1)(bk:f<=1000):
  di X.Ot #[t.ptr, .int .i64 ae, .int .i64 n, .int .i64 step, .int .i64 end_] w (.tuple #[.int .i64 (s5 t.l step end_ f ae n), .int .i64 0]):=by
 refine aAn _ ae n step end_ λw1 hb1=>(ND (jw h (U.au hb1)) h1 hc mg).aH λad aI=>⟨_,rfl,aI.O,λe=>absurd rfl e,λ_=>⟨λe=>by omega,λ_=>?_⟩⟩
 have aK:=(U.au hb1).trans aI;refine⟨λc m V=>U bg w V/\∃g:Nat,end_=c+g*step/\g<=f/\0<=m/\m<=n/\c=ae+((f:Int)-g)*step/\s5 t.l step end_ g c m=s5 t.l step end_ f ae n,λc m=>((end_-c)*step).toNat,λcR cr=>⟨aK.trans (U.au cr),f,he,cL _,hn,n4 _,by rw[Int.sub_self,Int.zero_mul,Int.add_zero],rfl⟩,?_⟩;rintro c m bw hk3 ⟨k3,g,hg,vb,hm,HV,sq,hq⟩;have aw:=jw h k3;refine⟨λe=>⟨λe2=>?_,λe2=>aa.of λ_=>?_⟩,λe=>aa.of λ_=>?_⟩
 ·cases g with
  |zero=>exact absurd (by rw[hg];simp) e2
  |succ g=>
   have qo:((g+1:Nat):Int)*step=g*step+step:=by rw[Int.natCast_add,Int.add_mul];simp
   rw[s5,aA ⟨e,e2⟩] at hq;have jH:c+step=ae+((f:Int)-g)*step/\ay (c+step):=by
    unfold ay;rcases hs with rfl|rfl<;>omega
   have acJ:((end_-(c+step))*step).toNat<((end_-c)*step).toNat:=by rcases hs with rfl|rfl<;>omega
   refine⟨jH.2,_,rfl,yP aw 1 rfl,λcu ep=>?_⟩;have dM:=jw aw (U.au ep);refine⟨t.m,rfl,_,dM.2.1,λx hx=>⟨λfU=>⟨by unfold ay;omega,λcW lE=>⟨⟨(k3.trans (U.au ep)).trans (U.au lE),g,by omega,by omega,by omega,by omega,jH.1,?_⟩,acJ⟩⟩,λfU w7 c8=>⟨⟨(k3.trans (U.au ep)).trans (U.au c8),g,by omega,by omega,by omega,by omega,jH.1,?_⟩,acJ⟩⟩⟩
   ·rw[<-hq,<-show x=t.l.contains (c+step) from hx,fU]
    rfl
   ·rw[<-hq,<-show x=t.l.contains (c+step) from hx,fU]
    rfl
 ·rw[<-hq]
  cases g with
  |zero=>rfl
  |succ g=>rw[s5,ag (λu=>u.2 e2)]
 ·rw[<-hq]
  cases g with
  |zero=>rfl
  |succ g=>rw[s5,ag (λu=>by omega)]
theorem aut{ae n:Int}(h:(I.stops t).P w)(h1:1<=t.ai)(h2:t.ai<=1000)(hc:0<=ae)(mg:ae<t.ai)(hn:0<=n)(gA:n<=4611686018427387904):di X.WE #[t.ptr, .int .i64 ae, .int .i64 n] w (.tuple #[.int .i64 (s5 t.l 1 (t.ai-1) (t.ai-1-ae).toNat ae n), .int .i64 0]):=
 aAh _ ae n ⟨_,yP h 0 rfl,by unfold ay;omega,λw1 hb1=>(af' (jw h (U.au hb1)) h1 h2 hc mg hn gA (f:=(t.ai-1-ae).toNat) M (.inl rfl) M).aH λad aI=>⟨_,_,rfl,aI.O,aa.of λ_=>rfl⟩⟩
theorem auu{ae n:Int}(h:(I.stops t).P w)(h1:1<=t.ai)(h2:t.ai<=1000)(hc:0<=ae)(mg:ae<t.ai)(hn:0<=n)(gA:n<=4611686018427387904):di X.WG #[t.ptr, .int .i64 ae, .int .i64 n] w (.tuple #[.int .i64 (s5 t.l (-1) 0 ae.toNat ae n), .int .i64 0]):=
 aAi _ ae n λw1 hb1=>(af' (jw h (U.au hb1)) h1 h2 hc mg hn gA (f:=ae.toNat) M (.inr rfl) M).aH λad aI=>⟨_,_,rfl,aI.O,aa.of λ_=>rfl⟩
end
end Go.Proofs.YtimbpmnbbfeogaaGreatDoor
namespace Go.Proofs.YtimbpmnbbfeogaaGreatDoor
open Go Go.RowKit Go.Sy Go.Rep Go.Shelf
attribute [local go_sem] Oper.semAt_some
theorem arO(rb:Nat)(NQ:Nat)(rp:Option Nat)(vs:List Addr)(p:Option Addr)(c:Nat)(hp:p=none->vs=[])(hbig:vs.length<4611686018427387904):
  DF Tryz.prog X.I6 #[.pointer (some ⟨rb,NQ,rp⟩)] #[] vs λV=>At V ⟨rb,NQ,rp⟩ 4 [.slice p vs.length c]/\∀q,p=some q->At V q 0 (vs.map λx=> .pointer (some x)):=by
 intro l J W hS hN hY aW;have abY:∀i x V,vs[i]? =some x->J i V->∃fn tmps DH body,(Instr.yield l #[.pointer (some x)]).run Tryz.prog V= .ok (.round l fn tmps DH body) V/\∀n,RoundIn (kn none) n Tryz.prog l fn tmps DH body V λe V'=>e= .returned (.bool true)/\J (i+1) V':=hY
 clear hY;refine CallsIn.calls (F:=kn none) (n:=0) ?_ (λk=>(λ_ h=>by cases h));have hro:(kn none).round=none:=rfl;have hfn:(kn none).fn 143:=trivial;have acb:(kn none).depth=none:=rfl;generalize kn none=Fc at abY hro hfn acb⊢;have ann:Fc.depth.isSome=true->1<=0:=λe=>by rw[acb] at e;cases e
 have CL:∀i V,J i V->V.cell? ⟨rb,NQ+4,none⟩=some (.slice p vs.length c)/\∀q (j:Nat) x,p=some q->vs[j]? =some x->V.cell? (q.add j)=some (.pointer (some x)):=by
  intro i V hj;obtain⟨V0,rc,a8,aK,k3,k4⟩:=hN i V hj;have tr:∀(a:Addr) v,V0.cell? a=some v->V.cell? a=some v:=by
   intro a v ah;have hne:a.block≠l:=by
    intro e;unfold World.cell? at ah;rw[e,a8] at ah;cases ah
   have hlt:a.block<V0.heap.size:=by
    rcases h8 a.block V0.heap.size with h|h
    ·exact h
    ·unfold World.cell? at ah
     rw[Dt h] at ah;cases ah
   rw[World.cell?_of_block (aK.heap _ hlt (by simpa using hne))];exact ah
  refine⟨tr _ _ ?_,λq j x hq hx=>tr _ _ ?_⟩
  ·have:=k3 0 _ rfl
   simpa[Addr.add] using this
  ·have:=k4 q hq j (.pointer (some x)) yV
   simpa using this
 have hhd:=(CL 0 W aW).1;refine callsIn_of_wp Tryz.func143 rfl hfn ?_ hro;simp only[Tryz.ntmps143,s_,ko,List.length_nil,Nat.reduceAdd,Nat.reduceSub,Pb,Array.replicate_zero,Pc,Pd,pW,List.cons_append]
 gi_wp2
 gi_loopw [11] (λi wr=>∃k:Nat,i= .int .i64 (k:Int)/\k<=vs.length/\J k wr) (λi _=>vs.length-(intOf i).toNat)
 case atStart=>exact⟨0,rfl,ef _,aW⟩
 case round=>
  obtain⟨k,rfl,hk,hJ⟩:=hrel
  by_cases hlt:k<vs.length
  ·obtain⟨x,hx⟩:∃x,vs[k]? =some x:=⟨_,el hlt⟩
   obtain⟨q,rfl⟩:∃q,p=some q:=by
    cases p with
    |none=>rw[hp rfl] at hlt;simp at hlt
    |some q=>exact⟨q,rfl⟩
   have hcell:=(CL k wr hJ).2 q k x rfl hx;have h1:(k:Int)<(vs.length:Int):=by omega
   have h2:¬((k:Int)<0):=by omega
   gi_wp2
   obtain⟨fn,tm,DH,bd,e1,e2⟩:=abY k x wr hx hJ;rw[e1,Oper.uponIn_round];refine⟨ann,RoundIn.mono (e2 _) ?_⟩;rintro e W' ⟨rfl,hJ'⟩;have aw:ay ((k:Int)+1):=by simp only[ay];omega
   gi_wp2
   have hn:∀W,(Op.unary UnOp.not (Value.bool true)).run Tryz.prog W= .ok (.bool false) W:=λ_=>rfl
   rw[hn];simp only[Result.andThen_ok,Oper.uponIn_value]
   gi_wp2
   go_roundw
   case rel=>exact⟨k+1,by congr 1,by omega,hJ'⟩
   case measure=>go_light;simp[intOf];omega
  ·have h1:¬((k:Int)<(vs.length:Int)):=by omega
   gi_wp2
   obtain rfl:k=vs.length:=by omega
   exact⟨rfl, .tuple #[],results_none rfl _ _ _,⟨_,rfl⟩,hJ⟩
theorem arN(r:Addr)(vs:List Addr)(p:Option Addr)(c:Nat)(hp:p=none->vs=[])(hbig:vs.length<4611686018427387904):
  DF Tryz.prog X.I6 #[.pointer (some r)] #[] vs λV=>At V r 4 [.slice p vs.length c]/\∀q,p=some q->At V q 0 (vs.map λx=> .pointer (some x)):=
 arO r.block r.off r.spot vs p c hp hbig
end Go.Proofs.YtimbpmnbbfeogaaGreatDoor
namespace Go.Proofs.YtimbpmnbbfeogaaGreatDoor
open Go Go.RowKit Go.Sy Go.Rep
variable{w0:World}{F:Nat->Prop}{Q:Value->World->Prop}
theorem ayO(r:Addr)(h:b9 w0 F [] w0 X.Aj #[al r] .bool λc d=>dQ d (aa w0 F c Q lk) (∃e f g i:Int,∃j:ao,∃k l:Nat,At c r 0 [D e,D f,D g,D i, .slice j k l]/\aG c λm=>∀n o:Nat,c.heap.size<=o->o<n->∃p:List Addr,∃q:World->Prop,∃s:Nat->Int->Int->Int->Int->Option Addr->Nat->Nat->World->Prop,DF Tryz.prog X.I6 #[al r] #[] p q/\(bm c λt=>n<t.heap.size->s 0 e f g i none 0 0 t/\q t)/\(∀t:Nat,∀u:Addr,(p[t]?)=(some u)->∀v x y z:Int,∀A:ao,∀B C:Nat,∀aD:World,U F w0 aD->n<aD.heap.size->s t v x y z A B C aD->q aD->a7 w0 F [m,n,o] aD [(m,G.Ai)] X.Wb #[al u] .pointer λak bo=>aG ak λJ=>∃K:List Value,gy w0.heap.size F [m,J] ak G.qz 1 A B C K 1/\((B+1)*8)<=140737488355328/\∀L:World,∀bj:ao,∀N:Nat,gk ak [] A B C G.qz 1 (B+1) (K++[.pointer bo]) L bj N->pX bj [m,J]->∀eE:World,dV L [m] eE->s (t+1) v x y z bj (B+1) N eE/\q eE)/\∀t u v x:Int,∀y:ao,∀z A:Nat,∀B C:World,U F w0 B->n<B.heap.size->s p.length t u v x y z A B->q B->dV B [n] C->U F w0 C->∀aD:World,dV C [o] aD->U F w0 aD->w0.heap.size<=m/\Whole aD m G.Ai [D t,D u,D v,D x, .slice y z A]->Q (ij m) aD)):aO X.Va #[al r] w0 F Q:=eV [⟨7,[],[0]⟩] [] [.aY r 0] h
theorem ayU(r:Addr)(cQ to:Int)(h:aG w0 λa=>aG w0 λb=>aG w0 λc=>aG w0 λd=>a7 w0 F [a,b,c,d] w0 [(a,G.int),(b,G.int),(c,G.j8),(d,G.PH)] X.Aj #[al r] .bool λg i=>dQ i (bn w0 F g [d,c] Q (.tuple #[.slice none 0 0,D 1])) (bG cQ 0 (bn w0 F g [d,c] Q (.tuple #[.slice none 0 0,D 3])) (bG to cQ (bn w0 F g [d,c] Q (.tuple #[.slice none 0 0,D 3])) (∃j,At g r 3 [D j]/\bG j to (bn w0 F g [d,c] Q (.tuple #[.slice none 0 0,D 3])) (∃k,At g r 2 [D k]/\bG cQ k (bn w0 F g [d,c] Q (.tuple #[.slice none 0 0,D 14])) (aG g λl=>∃m,At g r 2 [D m]/\aG g λn=>∀o p:Nat,g.heap.size<=p->p<o->∃q:List Addr,∃s:World->Prop,∃t:Nat->Option Addr->Nat->Nat->Int->World->Prop,DF Tryz.prog X.I6 #[al r] #[] q s/\(bm g λu=>o<u.heap.size->t 0 none 0 0 m u/\s u)/\(∀u:Nat,∀v:Addr,(q[u]?)=(some v)->∀x:ao,∀y z:Nat,∀A:Int,∀B:World,U F w0 B->o<B.heap.size->t u x y z A B->s B->a7 w0 F [a,b,c,d,l,n,o,p] B [(a,G.int),(b,G.int),(c,G.j8),(d,G.PH),(l,G.j8),(n,G.int)] X.FA #[al v] D λE bT=>ay (cQ-A)/\∃ak:Int->Option Addr->Nat->Nat->World->Prop,∃bo:Int->Option Addr->Nat->Nat->Nat,(bm E λJ=>ak (max 0 (cQ-A)) x y z J)/\∀J:Int,∀K:ao,∀L bj:Nat,∀N:World,U F w0 N->ak J K L bj N->ay (to-A)/\bG J (min bT (to-A)) (cC w0 N [(a,G.int),(b,G.int),(c,G.j8),(d,G.PH),(l,G.j8),(n,G.int)] X.Wd #[al v,D J] λeE P R=>∃S:gx,∃er,bW P (.tuple #[.agg S.T,D er]) w0 F [a,b,c,d,l,n,o,p] eE R (aG R λV=>(er≠0->False)/\(er=0->aG R λW=>∃Y:List Value,gy w0.heap.size F [a,b,c,d,l,n,V,W] R G.fg 2 K L bj Y 1/\((L+1)*32)<=140737488355328/\∀a1:World,∀gd:ao,∀fq:Nat,gk R [] K L bj G.fg 2 (L+1) (Y++S.T.toList) a1 gd fq->pX gd [a,b,c,d,l,n,V,W]->ay (J+1)/\∀ac:World,dV a1 [l] ac->ak (J+1) gd (L+1) fq ac/\bo (J+1) gd (L+1) fq<bo J K L bj))) (ay (A+bT)/\∀eE:World,dV N [n] eE->t (u+1) K L bj (A+bT) eE/\s eE))/\∀u:ao,∀v x:Nat,∀y:Int,∀z A:World,U F w0 z->o<z.heap.size->t q.length u v x y z->s z->dV z [o] A->U F w0 A->bn w0 F A [p,d,c] Q (.tuple #[.slice u v x,D 0]))))))):aO X.Ve #[al r,D cQ,D to] w0 F Q:=eV [⟨11,[],[4,5]⟩,⟨13,[12],[4]⟩] [] [.aY r 0,cn cQ,cn to] h
end Go.Proofs.YtimbpmnbbfeogaaGreatDoor
namespace Go.Proofs.YtimbpmnbbfeogaaGreatDoor
open Go Go.RowKit Go.Sy Go.Rep
def vS(p:ao)(ss:List cT)(i:Nat):Prop:=dk p i∨fL ss i
structure rY(w:World)(lo:Nat)(p:ao)(c:Nat)(ss:List cT):Prop where
 row:bF Y.dZ w G.qz 1 p ss.length c (ss.map cT.ptr)
 eG:∀s∈ss,hQ w s
 sep:ss.Pairwise λs t=>∀i,iU s i->¬iU t i
 off:∀i,dk p i->¬fL ss i
 new:∀i,vS p ss i->lo<=i
section
variable{w w':World}{lo:Nat}{p:ao}{c:Nat}{ss:List cT}{s:cT}
theorem rY.nil(w:World)(lo:Nat):rY w lo none 0 []:=⟨bF.nil _ _ _ _,λs hs=>(by cases hs),List.Pairwise.nil,λi hi hs=>fL.nil hs,λi hi=>by
 rcases hi with⟨a,ha,_⟩|hi
 ·cases ha
 ·exact absurd hi fL.nil⟩
theorem rY.ax{F:Nat->Prop}(h:rY w lo p c ss)(hk:U F w w')(bc:∀i,F i->¬vS p ss i):rY w' lo p c ss:=
 ⟨h.row.ax hk λa ha bk=>bc _ bk (.inl ⟨a,ha,rfl⟩),λs hs=>(h.eG s hs).ax hk λi bk hi=>bc i bk (.inr ⟨s,hs,hi⟩),h.sep,h.off,h.new⟩
theorem rY.lt(h:rY w lo p c ss){i:Nat}(hi:vS p ss i):i<w.heap.size:=by
 rcases hi with⟨a,ha,rfl⟩|⟨s,hs,hi⟩
 ·exact(h.row.lt a ha).1
 ·exact(h.eG s hs).lt hi
theorem rY.Wq{p':ao}{c':Nat}(hY:Y.dZ<=w.heap.size)(fa:lo<=w.heap.size)(h:rY w lo p c ss)(hs:hQ w s)(hn:∀i,iU s i->lo<=i/\¬vS p ss i)(hg:gk w [] p ss.length c G.qz 1 (ss.length+1) (ss.map cT.ptr++[s.ptr]) w' p' c'):
  rY w' lo p' c' (ss++[s])/\U (dk p) w w'/\∀i,vS p' (ss++[s]) i->vS p ss i∨iU s i∨w.heap.size<=i:=by
 have hk:U (dk p) w w':=hg.ax λ_ a ha=>⟨a,ha,rfl⟩
 have u5:∀i,dk p' i->dk p i∨w.heap.size<=i:=λi ⟨a,ha,e⟩=>by
  rcases hg.j6 a ha with⟨b,h1,h2,_⟩|q
  ·exact .inl ⟨b,h1,by rw[<-h2];exact e⟩
  ·exact .inr M
 have hlen:(ss++[s]).length=ss.length+1:=by simp
 have bc:∀i,vS p' (ss++[s]) i->vS p ss i∨iU s i∨w.heap.size<=i:=λi hi=>by
  rcases hi with q|q
  ·rcases u5 i q with u|u
   ·exact .inl (.inl u)
   ·exact .inr (.inr u)
  ·rcases fL.append.1 q with u|u
   ·exact .inl (.inr u)
   ·exact .inr (.inl (fL.cw.1 u))
 refine⟨⟨?_,λt ht=>?_,?_,λi hi hl=>?_,λi hi=>?_⟩,hk,bc⟩
 ·rw[hlen,l9]
  exact hg.own hY λa ha=>(h.row.lt a ha).2.1
 ·rcases gi.1 ht with q|q
  ·exact(h.eG t q).ax hk λi hi e=>h.off i hi ⟨t,q,e⟩
  ·rw[gg] at q
   subst q;exact hs.ax hk λi hi e=>(hn i e).2 (.inl hi)
 ·exact uz.2 ⟨h.sep,Dr _ _,λt ht u hu i hi e=>by rw[gg] at hu;subst hu;exact(hn i e).2 (.inr ⟨t,ht,hi⟩)⟩
 ·rcases u5 i hi with q|q
  ·rcases fL.append.1 hl with u|u
   ·exact h.off i q u
   ·exact(hn i (fL.cw.1 u)).2 (.inl q)
  ·rcases fL.append.1 hl with u|u
   ·have:=h.lt (.inr u);omega
   ·have:=hs.lt (fL.cw.1 u);omega
 ·rcases bc i hi with u|u|u
  ·exact h.new i u
  ·exact(hn i u).1
  ·omega
end
section
variable{w w':World}{r:kc}
theorem fT.afj(h:fT w r):r.ss.length<=eS r.ss:=by
 have:∀ss:List cT,(∀s∈ss,0<s.xs.length)->ss.length<=eS ss:=by
  intro ss h
  induction ss with
  |nil=>exact cL _
  |cons s ss ih=>
   rw[vl];have:=h s kB;have:=ih λt ht=>h t (jt _ ht)
   simp only[ko];omega
 exact this r.ss λt ht=>(h.eG t ht).2.2
def Y'(r:kc)(V:World):Prop:=At V ⟨r.b,0,none⟩ 4 [.slice r.p (r.ss.map λs=>(⟨s.b,0,none⟩:Addr)).length r.c]/\∀q,r.p=some q->At V q 0 ((r.ss.map λs=>(⟨s.b,0,none⟩:Addr)).map λx=> .pointer (some x))
theorem fT.CL(h:fT w r):Y' r w:=by
 refine⟨?_,λq hq=>?_⟩
 ·rw[gw]
  exact h.mid.at_ 4 rfl
 ·have:=Row.at_ h.row.row hq 0 (cj:=r.ss.map cT.ptr) (by rw[AX,X1])
  rw[Du];exact this
theorem fT.seq(h:fT w r):DF Tryz.prog X.I6 #[.pointer (some ⟨r.b,0,none⟩)] #[] (r.ss.map λs=>⟨s.b,0,none⟩) (Y' r):=by
 have h1:=h.afj;have h2:=h.iX;refine arN ⟨r.b,0,none⟩ _ r.p r.c (λe=>?_) (by rw[gw];omega);have:r.ss.length=0:=by
  rcases nw r.ss.length with q|q
  ·exact q
  ·obtain⟨a,ha⟩:=h.row.row.iP q
   rw[e] at ha;cases ha
 rw[n2 this];rfl
theorem atC(aj:Laid w)(h:fT w r):bI Tryz.prog X.Va #[r.ptr] w bg (λv w'=>∃r':kc,v=r'.ptr/\Zb w r.aq r' w'):=by
 have hY:=aj.size;refine ayO _ λw1 hb1=>(E8 (h.below hb1)).aH λad aI=>⟨_,rfl,aI.O,λe=>(nomatch e),λ_=>?_⟩
 have aK:=(U.au hb1).trans aI;have h2:=h.O aK;have tN:=aK.size;have aCN:=h.afj;have acm:=h.iX
 refine⟨_,_,_,_,_,_,_,h2.at_,λcH jJ eO fv zK aBV=>⟨_,_,λk m gV f iL p n c V=>m=(r.cy:Int)/\gV=(r.ei:Int)/\f=(r.first:Int)/\iL=(r.next:Int)/\∃ss:List cT,n=ss.length/\rY V w.heap.size p c ss/\ss.map cT.cK=(r.ss.take k).map cT.cK/\∀i,vS p ss i->i≠cH/\i≠eO/\i≠fv,
  h.seq,λhC fs aBS=>⟨⟨rfl,rfl,rfl,rfl,[],rfl,rY.nil _ _,rfl,λi hi=>?_⟩,(h2.below fs).CL⟩,λk a HJ i9 tQ nP sF p n c cu dK aBU hI hN w7 c8 mh=>?_,?_⟩⟩
 ·rcases hi with⟨a,ha,_⟩|hi
  ·cases ha
  ·exact absurd hi fL.nil
 ·obtain⟨rfl,rfl,rfl,rfl,ss,rfl,hS,lY,hne⟩:=hI
  rw[pV,il] at HJ;obtain⟨s,hs,rfl⟩:=HJ;have fe:=dK.trans (U.au c8);have ev:=uE hs;have hlt:=(nv.1 hs).1;have hlen:ss.length=k:=by
   have:=dx List.length lY;simp at this;omega
  refine(auc (Laid.O fe aj) (((h.eG s ev).1).O fe)).aH λv cW br ⟨s',ah,H',jo,zt⟩=>?_
  subst ah;have fu:=fe.trans br;have aCF:=mh.lt (d:=cH) aS;have adh:=fe.size;have aDc:=br.size;have aDb:=c8.size;have Ta:=dK.size;have Hj:rY cW w.heap.size p c ss:=hS.ax ((U.au c8).trans br) λi e=>e.elim
  refine⟨_,rfl,br.O,λCH aCB=>⟨ss.map cT.ptr,Hj.row.room (λa ha hm=>?_) (λ_ a ha hl=>?_),by omega,λcR l2 IF hg fV gn Ig=>?_⟩⟩
  ·have:=(hne _ (.inl ⟨a,ha,rfl⟩)).1
   have:=(Hj.row.lt a ha).1;simp at hm;omega
  ·have:=Hj.new _ (.inl ⟨a,ha,rfl⟩)
   omega
  ·obtain⟨q1,q2,cz⟩:=Hj.Wq M M jo (λi hi=>⟨by have:=zt i hi;omega,λe=>by have:=zt i hi;have:=hS.lt e;omega⟩) hg
   have acM:∀i,vS l2 (ss++[s']) i->i≠cH/\i≠eO/\i≠fv:=λi hi=>by
    rcases cz i hi with u|u|u
    ·exact hne i u
    ·have:=zt i u;omega
    ·omega
   have gI:U bg w cR:=fu.after q2 λi hi hp=>by have:=Hj.new i (.inl hp);omega
   have fZ:U bg w gn:=gI.after (dV.ax Ig) λi hi hp=>by
    rw[gg] at hp;omega
   refine⟨⟨rfl,rfl,rfl,rfl,ss++[s'],by simp,q1.ax (dV.ax Ig) λi hi e=>?_,?_,acM⟩,(h.O fZ).CL⟩
   ·rw[gg] at hi
    exact(acM i e).1 hi
   ·rw[ny,hs,l9,l9,lY]
    show _++[s'.cK]=_++[s.cK];rw[H']
 ·rintro i5 zT zU i8 cA i1 ie bw bD hk3 aBT ⟨rfl,rfl,rfl,rfl,ss,rfl,hS,lY,hne⟩ hN Tn bO bP apD eH ⟨aot,hw⟩
  have amS:=hS.ax (dV.ax Tn) λi hi e=>by rw[gg] at hi;exact(hne i e).2.1 hi
  have D8:=amS.ax (dV.ax apD) λi hi e=>by rw[gg] at hi;exact(hne i e).2.2 hi
  rw[gw,X1] at lY;have L6:eS ss=eS r.ss:=by
   have e:∀ss:List cT,eS ss=((ss.map cT.cK).map λq=>q.ab.length).sum:=λss=>by simp[eS,cT.cK,bJ,Function.comp_def]
   rw[e,e,lY]
  refine⟨⟨cH,r.cy,r.ei,r.first,r.next,cA,ie,ss⟩,rfl,?_,⟨hw,D8.row,λs hs=>?_,D8.sep,D8.off,⟨λe=>(hne _ (.inl e)).1 rfl,λe=>(hne _ (.inr e)).1 rfl⟩,by show Y.dZ<=cH;omega,h.m,h.cq,h.cA,by show r.next=r.first+eS ss;rw[L6];exact h.num,h.sX,by show eS ss<=_;omega⟩,λi hi=>?_⟩
  ·show fp.mk _ _ _ _ (ss.map cT.cK)=_
   rw[lY];rfl
  ·have hm:s.cK∈r.ss.map cT.cK:=by rw[<-lY];exact lr.2 ⟨s,hs,rfl⟩
   obtain⟨t,ht,e⟩:=lr.1 hm;obtain⟨_,iB,t2⟩:=h.eG t ht;have e1:t.cy=s.cy:=dx kE.cy e;have e2:bJ t.xs=bJ s.xs:=dx kE.ab e;have e3:t.xs.length=s.xs.length:=by have:=dx List.length e2;simpa[bJ] using this
   exact⟨D8.eG s hs,by show s.cy=r.ei;omega,by omega⟩
  ·rcases hi with rfl|hi|hi
   ·exact aot
   ·exact D8.new i (.inl hi)
   ·exact D8.new i (.inr hi)
end
theorem aww{eg:Type}(A B:List eg){G aD i lo:Nat}(h:aD<=G)(fa:lo=aD-A.length)(hi:lo<=i)(hc:i=lo∨(i<=B.length/\i+A.length<=G))(he:B.length<=i∨G<=i+A.length):
  ((A++B).take G).drop aD=((A.take G).drop aD)++(B.drop lo).take (i-lo):=by
 rw[xj,vL,List.drop_take,List.drop_take (l:=B)];congr 1;rw[kC];rcases h8 G A.length with q|q
 ·have e1:G-A.length=0:=by omega
  have e2:i-lo=0:=by omega
  rw[e1,e2,Nat.zero_sub];rfl
 ·rw[show aD-min G A.length=lo by omega,List.take_eq_take_iff,mv]
  omega
theorem awv{eg:Type}(B:List eg){i lo:Nat}{x:eg}(h:lo<=i)(hx:B[i]? =some x):(B.drop lo).take (i+1-lo)=(B.drop lo).take (i-lo)++[x]:=by
 rw[show i+1-lo=(i-lo)+1 by omega,ny,s9,show lo+(i-lo)=i by omega,hx];rfl
def wm(ss:List cT):List Li:=ss.flatMap λs=>bJ s.xs
theorem Ru(ss:List cT):(wm ss).length=eS ss:=by simp[wm,eS,bJ,List.length_flatMap]
theorem abg{ss:List cT}{k:Nat}{s:cT}(h:ss[k]? =some s):wm (ss.take (k+1))=wm (ss.take k)++bJ s.xs:=by
 rw[ny,h];simp[wm]
theorem aqD{ss:List cT}{k:Nat}{s:cT}(h:ss[k]? =some s):eS (ss.take (k+1))=eS (ss.take k)+s.xs.length:=by
 rw[<-Ru,<-Ru,abg h,gh];simp[bJ]
theorem aes(ss:List cT)(k:Nat):eS (ss.take k)<=eS ss:=by
 have:=Iu (ss.take k) (ss.drop k);rw[AV] at this;omega
def I2(q:fp)(a b:Nat):List Li:=((q.a_.flatMap kE.ab).take (b-q.first)).drop (a-q.first)
section
variable{w w':World}{r:kc}
theorem atG{a b:Nat}(aj:Laid w)(h:fT w r)(h1:r.first<=a)(h2:a<=b)(aw:b<=r.next):bI Tryz.prog X.Ve #[r.ptr, .int .i64 a, .int .i64 b] w bg (λv w'=>∃p c xs,v= .tuple #[.slice p xs.length c, .int .i64 0]/\dE w' p xs.length c xs/\bJ xs=I2 r.aq a b/\∀i,fA p xs i->w.heap.size<=i):=by
 have hY:=aj.size;have ve:=h.sX;have zL:=h.num;have acm:=h.iX;refine ayU _ a b λar ec aQ gA cH jJ eO sv w1 hb1 fb=>(E8 (h.below hb1)).aH λad aI=>⟨_,rfl,aI.O,λe=>(nomatch e),λ_=>?_⟩
 have aK:=(U.au hb1).trans aI;have g2:=h.O aK;have tN:=aK.size;refine⟨λe=>by omega,λ_=>⟨λe=>by omega,λ_=>⟨_,g2.mid.at_ 3 rfl,λe=>by omega,λ_=>⟨_,g2.mid.at_ 2 rfl,λe=>by omega,λ_ fv zK=>⟨_,g2.mid.at_ 2 rfl,λi1 acK ie qy aCH aB0=>?_⟩⟩⟩⟩⟩
 let PR:Option Addr->List ck->Prop:=λp xs=>∀i,fA p xs i->w.heap.size<=i/\i≠ar/\i≠aQ/\i≠cH/\i≠eO/\i≠fv/\i≠i1/\i≠ie/\i≠qy
 refine⟨_,_,λk p n c at_ V=>at_=((r.first+eS (r.ss.take k):Nat):Int)/\∃xs:List ck,n=xs.length/\dE V p n c xs/\bJ xs=((wm (r.ss.take k)).take (b-r.first)).drop (a-r.first)/\PR p xs,
  h.seq,λnX oR aBW=>⟨⟨by simp[eS],[],rfl,dE.nil,by simp[wm,bJ],λi hi=>absurd hi fA.nil⟩,(g2.below oR).CL⟩,λk aB HJ p n c at_ cu dK aBY hI hN w7 c8 mh=>?_,?_⟩
 ·obtain⟨rfl,xs,rfl,eF,iI,fV⟩:=hI
  rw[pV,il] at HJ;obtain⟨s,hs,rfl⟩:=HJ;have fe:=dK.trans (U.au c8);have ev:=uE hs;have Mn:=(h.eG s ev).1;have hlt:=aqD hs;have hle:=aes r.ss (k+1);refine(NC (Mn.O fe)).aH λcW br=>⟨_,rfl,br.O,by unfold ay;omega,?_⟩
  have fu:=fe.trans br;obtain⟨lo,fa⟩:∃lo,lo=(a-r.first)-(wm (r.ss.take k)).length:=⟨_,rfl⟩;have u_:=Ru (r.ss.take k);have an':max 0 ((a:Int)-((r.first+eS (r.ss.take k):Nat):Int))=(lo:Int):=by omega
  have j3:(bJ s.xs).length=s.xs.length:=by simp[bJ]
  refine⟨λi p n c V=>∃j:Nat,ie<V.heap.size/\i=(j:Int)/\lo<=j/\(j=lo∨(j<=s.xs.length/\j+eS (r.ss.take k)<=b-r.first))/\∃xs:List ck,n=xs.length/\dE V p n c xs/\bJ xs=((wm (r.ss.take k)).take (b-r.first)).drop (a-r.first)++((bJ s.xs).drop lo).take (j-lo)/\PR p xs,λi _ _ _=>((s.xs.length:Int)-i).toNat,
   λoz ks=>⟨lo,(by have:=c8.size;have:=br.size;have:=ks.size;omega),an',cL _, .inl rfl,xs,rfl,eF.O (((U.au c8).trans br).trans (U.au ks)),by rw[iI,AZ];simp,fV⟩,?_⟩
  rintro i p n c cR pz ⟨j,aBZ,rfl,hj,ql,xs,rfl,eF,iI,fV⟩;refine⟨by unfold ay;omega,λSs hC fs rl=>?_,λqn=>⟨by unfold ay;omega,λgn Ig=>?_⟩⟩
  ·have zC:j<s.xs.length:=by omega
   have aCg:j+eS (r.ss.take k)<b-r.first:=by omega
   have jd:=pz.trans (U.au fs);refine(aue (Laid.O jd aj) (Mn.O jd) zC).aH λv kl iZ ⟨x,ah,vg,sC,lZ⟩=>?_
   subst ah;have yf:=jd.trans iZ;have aC_:=jd.size;have aC':=iZ.size;have aDe:=fs.size;have fE:=rl.lt (d:=ar) aS;have fQ:=rl.lt (d:=aQ) aS;have MM:=rl.lt (d:=cH) aS;have aeB:=rl.lt (d:=eO) aS;have aDy:=rl.lt (d:=fv) aS;have aDz:=rl.lt (d:=i1) aS;have aDA:ie<hC.heap.size:=by omega
   have Tq:dE kl p xs.length c xs:=eF.O ((U.au fs).trans iZ);have aDh:xs.length<=eS r.ss+eS r.ss:=by
    have:=dx List.length iI;simp only[bJ,gw,gh,kC,mv] at this;have:=aes r.ss k;have hsl:s.xs.length<=eS r.ss:=by omega
    omega
   refine⟨_,_,rfl,iZ.O,λard aor=>⟨λe=>absurd rfl e,λ_ aeP aos=>⟨dR xs,Tq.row.room (λaB had hm=>?_) (λ_ aB had hl=>?_),by omega,λjy ue aDE hg acS=>⟨by unfold ay;omega,λk2 adx=>?_⟩⟩⟩⟩
   ·have:=fV _ (.inl ⟨aB,had,rfl⟩)
    have:=(Tq.row.lt aB had).1;simp at hm;omega
   ·have:=(fV _ (.inl ⟨aB,had,rfl⟩)).1
    omega
   ·obtain⟨q1,q2,cz⟩:=dE.push M Tq sC (λi hi e=>by have:=lZ i hi;have:=eF.lt e;omega) hg
    have acT:PR ue (xs++[x]):=λi hi=>by
     rcases q2 i hi with u|u|u
     ·exact fV i u
     ·have:=lZ i u;omega
     ·omega
    refine⟨⟨j+1,(by have:=hg.size;have:=adx.size;omega),by omega,by omega, .inr ⟨by omega,by omega⟩,xs++[x],by simp,q1.ax (dV.ax adx) λi hi e=>?_,?_,acT⟩,by dsimp only;omega⟩
    ·rw[gg] at hi
     have:=acT i e;omega
    ·have hg:(bJ s.xs)[j]? =some (hX (bJ s.xs) j):=by
      unfold hX;rw[kb,el M];rfl
     rw[awv _ hj hg,<-ju,<-iI,<-vg];simp[bJ]
  ·have fZ:U bg w gn:=pz.after (dV.ax Ig) λi hi hp=>by
    rw[gg] at hp;omega
   refine⟨⟨by omega,xs,rfl,eF.ax (dV.ax Ig) λi hi e=>?_,?_,fV⟩,(h.O fZ).CL⟩
   ·rw[gg] at hi
    have:=fV i e;omega
   ·rw[iI,abg hs]
    exact(aww _ _ M fa hj M M).symm
 ·rintro p n c at_ bw bD hk3 aBX ⟨rfl,xs,rfl,eF,iI,fV⟩ hN Tn bO w' yd Sh
  rw[gw,X1] at iI;refine⟨p,c,xs,rfl,(eF.ax (dV.ax Tn) λi hi e=>?_).ax (dV.ax yd) λi hi e=>?_,?_,λi hi=>(fV i hi).1⟩
  ·rw[gg] at hi
   have:=fV i e;omega
  ·have:=fV i e
   simp at hi;omega
  ·rw[iI]
   unfold I2 wm;show _=((r.ss.map cT.cK).flatMap kE.ab|>.take _).drop _;rw[List.flatMap_map];rfl
end
variable{w0:World}{F:Nat->Prop}{Q:Value->World->Prop}
theorem axN(cy:Int)(h:dt w0 X.Vc #[D cy,D 64] λa b c=>∃d:ao,∃e,bW b (.tuple #[.pointer d,D e]) w0 F [] a c ((e≠0->aa w0 F c Q (.tuple #[lk,D e]))/\(e=0->aG c λf=>bm c λg=>U F w0 g->w0.heap.size<=f/\Whole g f G.LX [.pointer d]->Q (.tuple #[ij f,D 0]) g))):aO X.Sc #[D cy] w0 F Q:=bh [cn cy] h
theorem axQ(hh:Addr)(h:∃a:ao,At w0 hh 0 [.pointer a]/\aa w0 F w0 Q (.bool (bL.val (.i_ (a=none))))):aO X.zB #[al hh] w0 F Q:=bh [.aY hh 0] h
theorem axS(aP:ao)(aM ba:Nat)(h:∃a:Int->World->Prop,∃b:Int->Nat,(bm w0 λc=>a 0 c)/\∀c:Int,∀d:World,U F w0 d->a c d->(c<(aM:Int)->∃e:Addr,aP=(some e)/\hG c aM/\∃f:gx,At d e ((Int.toNat c)*2) f.T.toList/\aG d λg=>a7 w0 F [g] d [(g,G.fg)] X.It #[.agg f.T] .bool λk l=>jW w0 F Q l k/\(l=true->ji c k a b))/\DD w0 F Q aM c d):aO X.Sg #[.slice aP aM ba] w0 F Q:=eV [⟨2,[7],[]⟩] [] [.cJ aP aM ba] h
theorem axR(hh:Addr)(aP:ao)(aM ba:Nat)(h:∃a:Int->World->Prop,∃b:Int->Nat,(bm w0 λc=>a 0 c)/\∀c:Int,∀d:World,U F w0 d->a c d->bG c aM (∃e:Addr,aP=(some e)/\hG c aM/\∃f:gx,At d e ((Int.toNat c)*2) f.T.toList/\aG d λg=>∃i:ao,At d hh 0 [.pointer i]/\cC w0 d [(g,G.fg)] X.Vd #[.pointer i, .agg f.T] λj k l=>∃m n:Int,bW k (.tuple #[D m,D n]) w0 F [g] j l (ji c l a b)) (aa w0 F d Q (.tuple #[]))):aO X.Sf #[al hh, .slice aP aM ba] w0 F Q:=eV [⟨1,[8],[]⟩] [] [.aY hh 0, .cJ aP aM ba] h
theorem axP(hh:Addr)(aP:ao)(aM ba:Nat)(h:b9 w0 F [] w0 X.zB #[al hh] .bool λc d=>pf w0 F Q d c/\(d=false->b9 w0 F [] c X.Sg #[.slice aP aM ba] .bool λg i=>vO w0 F Q i g/\(i=true->dt g X.Sf #[al hh, .slice aP aM ba] λj k l=>DB w0 F Q k [] j l))):aO X.Se #[al hh, .slice aP aM ba] w0 F Q:=bh [.aY hh 0, .cJ aP aM ba] h
theorem axL(hh:Addr)(n:Int)(h:b9 w0 F [] w0 X.zB #[al hh] .bool λc d=>dQ d (aa w0 F c Q (.slice none 0 0)) (bG n 1 (aa w0 F c Q (.slice none 0 0)) (∃e:ao,At c hh 0 [.pointer e]/\∃f:ao,At c hh 0 [.pointer f]/\∃g:ao,At c hh 0 [.pointer g]/\∃i:ao,At c hh 0 [.pointer i]/\b9 w0 F [] c X.Fe #[.pointer f] D λl m=>At l hh 0 [.pointer i]/\At l hh 0 [.pointer g]/\At l hh 0 [.pointer e]/\b9 w0 F [] l X.NP #[.pointer g] D λq r=>At q hh 0 [.pointer i]/\At q hh 0 [.pointer e]/\ay (m-(min n r))/\b9 w0 F [] q X.Fe #[.pointer i] D λu v=>At u hh 0 [.pointer e]/\dt u X.Ve #[.pointer e,D (m-(min n r)),D v] λx y z=>∃A:ao,∃B C:Nat,∃aD,bW y (.tuple #[.slice A B C,D aD]) w0 F [] x z (aa w0 F z Q (.slice A B C))))):aO X.Sb #[al hh,D n] w0 F Q:=bh [.aY hh 0,cn n] h
theorem axM(hh:Addr)(h:b9 w0 F [] w0 X.zB #[al hh] .bool λc d=>y0 w0 F Q d c/\(d=false->∃e:ao,At c hh 0 [.pointer e]/\dt c X.NP #[.pointer e] λf g i=>fW w0 F Q g [] f i)):aO X.HC #[al hh] w0 F Q:=bh [.aY hh 0] h
theorem axO(hh:Addr)(h:b9 w0 F [] w0 X.zB #[al hh] .bool λc d=>y0 w0 F Q d c/\(d=false->∃e:ao,At c hh 0 [.pointer e]/\dt c X.Fe #[.pointer e] λf g i=>fW w0 F Q g [] f i)):aO X.Sd #[al hh] w0 F Q:=bh [.aY hh 0] h
theorem axJ(hh:Addr)(h:b9 w0 F [] w0 X.zB #[al hh] .bool λc d=>gL d (∃e:ao,At c hh 0 [.pointer e]/\dt c X.U' #[.pointer e] λf g i=>bW g (.tuple #[]) w0 F [] f i (aa w0 F i Q (.tuple #[]))) (aa w0 F c Q (.tuple #[]))):aO X.Ef #[al hh] w0 F Q:=bh [.aY hh 0] h
theorem axK(hh:Addr)(h:b9 w0 F [] w0 X.zB #[al hh] .bool λc d=>dQ d (aa w0 F c Q lk) (∃e:ao,At c hh 0 [.pointer e]/\b9 w0 F [] c X.Va #[.pointer e] .pointer λi j=>aG i λk=>bm i λl=>U F w0 l->w0.heap.size<=k/\Whole l k G.LX [.pointer j]->Q (ij k) l)):aO X.LW #[al hh] w0 F Q:=bh [.aY hh 0] h
end Go.Proofs.YtimbpmnbbfeogaaGreatDoor
namespace Go.Rep
open Go Go.Sy
structure lx where
 (b:Nat) (r:kc)
def lx.ptr(h:lx):Value:= .pointer (some ⟨h.b,0,none⟩)
end Go.Rep
namespace Go.Proofs.YtimbpmnbbfeogaaGreatDoor
open Go Go.RowKit Go.Sy Go.Rep
def qU(h:lx)(i:Nat):Prop:=i=h.b∨gY h.r i
structure jk(w:World)(h:lx):Prop where
 aF:Whole w h.b G.LX [h.r.ptr]
 ring:fT w h.r
 off:¬gY h.r h.b
 lo:Y.dZ<=h.b
 cap:eS h.r.ss<=h.r.cy
def Ad(q:fp)(ab:List Li):fp:=ab.foldl IZ q
def KY(q:fp):fp:=⟨q.cy,q.ei,q.next,q.next,[]⟩
def zY(q:fp)(n:Nat):List Li:=I2 q (q.next-min n (q.next-q.first)) q.next
section
variable{w w':World}{h:lx}
theorem jk.lt(a:jk w h){i:Nat}(hi:qU h i):i<w.heap.size:=by
 rcases hi with rfl|hi
 ·exact a.aF.lt
 ·exact a.ring.lt hi
theorem jk.low(a:jk w h){i:Nat}(hi:qU h i):Y.dZ<=i:=by
 rcases hi with rfl|hi
 ·exact a.lo
 ·exact a.ring.low hi
theorem jk.ax{F:Nat->Prop}(a:jk w h)(hk:U F w w')(bc:∀i,F i->¬qU h i):jk w' h:=
 ⟨a.aF.ax hk λbk=>bc _ bk (.inl rfl),a.ring.ax hk λi bk hi=>bc i bk (.inr hi),a.off,a.lo,a.cap⟩
theorem jk.O(a:jk w h)(hk:U bg w w'):jk w' h:=a.ax hk λ_ e=>e.elim
theorem jk.below(a:jk w h)(hb:Below w.heap.size w w'):jk w' h:=a.O (U.au hb)
theorem jk.at_(a:jk w h):At w ⟨h.b,0,none⟩ 0 [h.r.ptr]:=a.aF.at_ (show 1<=maxLen by decide)
theorem E6(a:jk w h):di X.zB #[h.ptr] w (.bool false):=
 axQ _ ⟨_,a.at_,aa.of λ_=>dx Value.bool (show bL.val _=_ by rw[show bL.val (bL.i_ (some (⟨h.r.b,0,none⟩:Addr)=none))=decide (some (⟨h.r.b,0,none⟩:Addr)=none) from GC _ Iff.rfl];rfl)⟩
theorem Nw(a:jk w h):di X.HC #[h.ptr] w (.int .i64 ((h.r.next:Int)-h.r.first)):=
 axM _ λw1 hb1=>(E6 (a.below hb1)).aH λad aI=>⟨_,rfl,aI.O,λe=>(nomatch e),λ_=>⟨_,((a.below hb1).O aI).at_,λbw bp=>(af0 (((a.below hb1).O aI).below bp).ring).aH λbD bO=>⟨_,rfl,bO.O,aa.of λ_=>rfl⟩⟩⟩
theorem as4(a:jk w h):di X.Sd #[h.ptr] w (.int .i64 h.r.next):=
 axO _ λw1 hb1=>(E6 (a.below hb1)).aH λad aI=>⟨_,rfl,aI.O,λe=>(nomatch e),λ_=>⟨_,((a.below hb1).O aI).at_,λbw bp=>(Nz (((a.below hb1).O aI).below bp).ring).aH λbD bO=>⟨_,rfl,bO.O,aa.of λ_=>rfl⟩⟩⟩
def PM(w0:World)(q:fp)(h:lx)(w:World):Prop:=h.r.aq=q/\jk w h/\∀i,qU h i->w0.heap.size<=i
def PJ(w0:World)(h:lx)(q:fp)(w:World):Prop:=∃h':lx,h'.b=h.b/\h'.r.b=h.r.b/\h'.r.aq=q/\jk w h'/\∀i,qU h' i->qU h i∨w0.heap.size<=i
theorem as3{n:Nat}(aj:Laid w)(hn:n<=1048576):bI Tryz.prog X.Sc #[.int .i64 n] w bg (λv w'=>∃h:lx,v= .tuple #[h.ptr, .int .i64 0]/\PM w ⟨n,64,0,0,[]⟩ h w'):=by
 have hY:=aj.size;refine axN _ λw1 hb1=>(atE (m:=64) (Laid.below hb1 aj) hn M M).aH λv ad aI ⟨r,ah,mj,hr,bc⟩=>?_
 subst ah;have hs1:=hb1.size;have tN:=aI.size;refine⟨_,_,rfl,aI.O,λe=>absurd rfl e,λ_ ar ec bw bp hk3 hw=>⟨⟨ar,r⟩,rfl,mj,⟨hw.2,hr.below bp,λe=>?_,by show Y.dZ<=ar;omega,?_⟩,λi hi=>?_⟩⟩
 ·have:=hr.lt e
  change ar<_ at this;omega
 ·have e1:r.next=0:=dx fp.next mj
  have:=hr.num;show eS r.ss<=r.cy;omega
 ·rcases hi with rfl|hi
  ·exact hw.1
  ·have:=bc i hi;omega
theorem afL(aj:Laid w)(a:jk w h):bI Tryz.prog X.Ef #[h.ptr] w (qU h) (λv w'=>v= .tuple #[]/\PJ w h (KY h.r.aq) w'):=by
 refine axJ _ λw1 hb1=>(E6 (a.below hb1)).aH λad aI=>⟨_,rfl,aI.O,λ_=>⟨_,((a.below hb1).O aI).at_,λbD eR=>?_⟩,λe=>(nomatch e)⟩
 have k4:=((U.au hb1).trans aI).trans (U.au eR);have a4:=a.O k4;refine(atB (Laid.O k4 aj) a4.ring).aH λv bP eH ⟨ah,r',hb',mj,hr,bc⟩=>?_
 subst ah;have pD:=k4.size;refine⟨rfl,eH.kept (λi hi _=>by rw[hi];exact .inr (.inl rfl)) (λi _ _ hm=>by cases hm),λw' hb _=>⟨rfl,⟨h.b,r'⟩,rfl,hb',mj,⟨?_,hr.below hb,λe=>?_,a.lo,?_⟩,λi hi=>?_⟩⟩
 ·have e:r'.ptr=h.r.ptr:=by unfold kc.ptr;rw[hb']
  show Whole _ _ _ [r'.ptr];rw[e];exact(a4.aF.ax eH λe=>a.off (.inl e)).ax (U.au hb) λe=>e
 ·rcases bc _ e with u|u
  ·exact a.off u
  ·have:=a4.aF.lt
   change bD.heap.size<=h.b at u;omega
 ·have e1:r'.next=h.r.next:=dx fp.next mj
  have e2:r'.first=h.r.next:=dx fp.first mj;have:=hr.num;show eS r'.ss<=r'.cy;omega
 ·rcases hi with rfl|hi
  ·exact .inl (.inl rfl)
  ·rcases bc i hi with u|u
   ·exact .inl (.inr u)
   ·exact .inr M
theorem afM(aj:Laid w)(a:jk w h):bI Tryz.prog X.LW #[h.ptr] w bg (λv w'=>∃h':lx,v=h'.ptr/\PM w h.r.aq h' w'):=by
 have hY:=aj.size;refine axK _ λw1 hb1=>(E6 (a.below hb1)).aH λad aI=>⟨_,rfl,aI.O,λe=>(nomatch e),λ_=>⟨_,((a.below hb1).O aI).at_,λbw bp=>?_⟩⟩
 have k3:=((U.au hb1).trans aI).trans (U.au bp);refine(atC (Laid.O k3 aj) (a.O k3).ring).aH λv bD bO ⟨r',ah,mj,hr,bc⟩=>?_
 subst ah;have tO:=k3.size;have pD:=bO.size;refine⟨_,rfl,bO.O,λar ec bP hb5 eH hw=>⟨⟨ar,r'⟩,rfl,mj,⟨hw.2,hr.below hb5,λe=>?_,by show Y.dZ<=ar;omega,?_⟩,λi hi=>?_⟩⟩
 ·have:=hr.lt e
  change ar<_ at this;omega
 ·have e1:r'.next=h.r.next:=dx fp.next mj
  have e2:r'.first=h.r.first:=dx fp.first mj;have e3:r'.cy=h.r.cy:=dx fp.cy mj;have:=hr.num;have:=a.ring.num;have:=a.cap;show eS r'.ss<=r'.cy;omega
 ·rcases hi with rfl|hi
  ·exact hw.1
  ·have:=bc i hi;omega
theorem as2{n:Nat}(aj:Laid w)(a:jk w h):bI Tryz.prog X.Sb #[h.ptr, .int .i64 n] w bg (λv w'=>∃p c xs,v= .slice p xs.length c/\dE w' p xs.length c xs/\bJ xs=zY h.r.aq n/\∀i,fA p xs i->w.heap.size<=i):=by
 have ve:=a.ring.sX;have zL:=a.ring.num;refine axL _ n λw1 hb1=>(E6 (a.below hb1)).aH λad aI=>⟨_,rfl,aI.O,λe=>(nomatch e),λ_=>⟨λe=>aa.of λw'=>?_,λe=>?_⟩⟩
 ·obtain rfl:n=0:=by omega
  refine⟨none,0,[],rfl,dE.nil,?_,λi hi=>absurd hi fA.nil⟩;unfold zY I2;rw[Nat.zero_min,F8,List.drop_take_self];rfl
 ·have aK:=(U.au hb1).trans aI
  have a2:=a.O aK;refine⟨_,a2.at_,_,a2.at_,_,a2.at_,_,a2.at_,λbw bp=>(Nz (a2.below bp).ring).aH λbD bO=>?_⟩;have a4:=(a2.below bp).O bO;have k4:=(aK.trans (U.au bp)).trans bO;refine⟨_,rfl,bO.O,a4.at_,a4.at_,a4.at_,λbP hb5=>(af0 (a4.below hb5).ring).aH λcu dK=>?_⟩;have iG:=(a4.below hb5).O dK;have fj:=(k4.trans (U.au hb5)).trans dK;refine⟨_,rfl,dK.O,iG.at_,iG.at_,by unfold ay;omega,λw7 c8=>(Nz (iG.below c8).ring).aH λcW br=>?_⟩;have nD:=(iG.below c8).O br;have fu:=(fj.trans (U.au c8)).trans br;have e:(h.r.next:Int)-min (n:Int) ((h.r.next:Int)-h.r.first)=((h.r.next-min n (h.r.next-h.r.first):Nat):Int):=by omega
  refine⟨_,rfl,br.O,nD.at_,λcR cr=>?_⟩;have gI:=fu.trans (U.au cr);have zQ:=gI.size;rw[e];refine(atG (Laid.O gI aj) (a.O gI).ring M M (cL _)).aH λv gn jI ⟨p,c,xs,ah,eF,iI,bc⟩=>?_
  subst ah;exact⟨p,xs.length,c,0,rfl,jI.O,λw' hb _=>⟨p,c,xs,rfl,eF.O (U.au hb),iI,λi hi=>by have:=bc i hi;omega⟩⟩
theorem as7{p:ao}{n c:Nat}{xs:List ck}(aj:Laid w)(eF:dE w p n c xs)(ah:∀x∈xs,pK x.cs=true):di X.Sg #[.slice p n c] w (.bool true):=by
 have hlen:=eF.len;have SA:n<=9223372036854775807:=by have:=bF.GB eF.row;have e:maxLen=9223372036854775807:=du;omega
 refine axS p n c ⟨λi _=>∃j:Nat,i=j/\j<=n,λi=>((n:Int)-i).toNat,λw7 _=>⟨0,rfl,ef _⟩,?_⟩;rintro i w1 hk1 ⟨j,rfl,hj⟩;refine⟨λhi=>(eF.O hk1).fU M hi λaB had hown ev ar ec bw bp fN=>?_,λ_=>aa.of λ_=>rfl⟩;have k3:=hk1.trans (U.au bp);refine(UQ (Laid.O k3 aj) (nz.O hown.wJ (U.au bp))).aH λbD bO=>⟨_,rfl,bO.O,λe=>?_,λ_=>⟨by unfold ay;omega,λbP hb5=>⟨⟨j+1,by omega,by omega⟩,by dsimp only;omega⟩⟩⟩
 rw[ah _ ev] at e;cases e
theorem as6{p:ao}{n c:Nat}{xs:List ck}(aj:Laid w)(a:jk w h)(eF:dE w p n c xs)(ah:∀x∈xs,pK x.cs=true)(fV:∀i,fA p xs i->¬qU h i)(hnext:h.r.next+n<=4611686018427387904):
  bI Tryz.prog X.Sf #[h.ptr, .slice p n c] w (qU h) (λv w'=>v= .tuple #[]/\PJ w h (Ad h.r.aq (bJ xs)) w'):=by
 have hlen:=eF.len
 refine axR _ p n c ⟨λi V=>∃j:Nat,i=j/\j<=n/\Whole V h.b G.LX [h.r.ptr]/\∃r':kc,r'.b=h.r.b/\r'.aq=Ad h.r.aq ((bJ xs).take j)/\fT V r'/\eS r'.ss<=r'.cy/\r'.next=h.r.next+j/\∀i,gY r' i->gY h.r i∨w.heap.size<=i,λi=>((n:Int)-i).toNat,
  λcu ep=>⟨0,rfl,ef _,a.aF.ax (U.au ep) (λe=>e),h.r,rfl,rfl,a.ring.below ep,a.cap,rfl,λi hi=> .inl hi⟩,?_⟩
 rintro i w1 hk1 ⟨j,rfl,hj,hbw,r',hb',mj,hr,kg,hnx,bc⟩;have wF:dE w1 p n c xs:=eF.ax hk1 λi hi e=>fV i e hi
 have hL1:Laid w1:=aj.ax hk1 λi hi=>a.low hi
 have acU:¬gY r' h.b:=λe=>by
  rcases bc _ e with u|u
  ·exact a.off u
  ·have:=a.aF.lt;omega
 have ac2:r'.ptr=h.r.ptr:=by unfold kc.ptr;rw[hb']
 have hs1:=hk1.size;refine⟨λhi=>wF.fU M hi λaB had hown ev ar ec=>?_,λqn w' hb _=>?_⟩
 ·have LY:j<n:=by omega
  refine⟨_,hbw.at_ (show 1<=maxLen by decide),λbw bp fN=>?_⟩;have tO:=bp.size;have L_:=fN.lt (d:=ar) aS;have SB:bb xs (j:Int).toNat∈xs:=ev;rw[jN] at SB hown⊢
  have hP:=atF (Laid.below bp hL1) (hr.below bp) (nz.O hown.wJ (U.au bp)) (ah _ SB) (λaB had e=>by
   have hl:fA p xs aB.block:= .inr ⟨_,SB,aB,had,rfl⟩;rcases bc _ e with u|u
   ·exact fV _ hl (.inr u)
   ·have:=eF.lt hl;omega) kg M
  rw[ac2] at hP;refine hP.aH λv bD bO ⟨apr,c1,kN,Ml,j4,amJ⟩=>?_
  ·subst apr
   have pD:=bO.size;have e1:c1.next=r'.next+1:=dx fp.next Ml;have e2:c1.first=r'.first+(r'.next+1-r'.first-r'.cy):=dx fp.first Ml;have e3:c1.cy=r'.cy:=dx fp.cy Ml;have zL:=j4.num;refine⟨_,_,rfl,bO.kept (λi hi hlt=>?_) (λi hi hle hm=>?_),by unfold ay;omega,λbP hb5=>⟨⟨j+1,by omega,by omega,?_,c1,kN.trans hb',?_,j4.below hb5,by omega,by omega,λi hi=>?_⟩,by dsimp only;omega⟩⟩
   ·rcases bc i hi with u|u
    ·exact .inr u
    ·omega
   ·have:i=ar:=by simpa using hm
    have:=hr.lt hi;omega
   ·exact((hbw.ax (U.au bp) λe=>e).ax bO acU).ax (U.au hb5) λe=>e
   ·have anV:(bJ xs)[j]? =some ⟨(bb xs j).cs,(bb xs j).iK.cU⟩:=by
     have:xs[j]? =some (bb xs j):=by
      unfold bb;rw[kb,el M];rfl
     simp[bJ,this];rfl
    rw[Ml,mj,ny,anV];unfold Ad;simp[xf]
   ·rcases amJ i hi with u|u
    ·exact bc i u
    ·exact .inr M
 ·obtain rfl:j=n:=by omega
  refine⟨rfl,⟨h.b,r'⟩,rfl,hb',?_,⟨?_,hr.below hb,acU,a.lo,kg⟩,λi hi=>?_⟩
  ·rw[mj,jh (by simp[bJ];omega)]
  ·show Whole _ _ _ [r'.ptr]
   rw[ac2];exact hbw.ax (U.au hb) λe=>e
  ·rcases hi with rfl|hi
   ·exact .inl (.inl rfl)
   ·exact(bc i hi).imp .inr id
theorem as5{p:ao}{n c:Nat}{xs:List ck}(aj:Laid w)(a:jk w h)(eF:dE w p n c xs)(ah:∀x∈xs,pK x.cs=true)(fV:∀i,fA p xs i->¬qU h i)(hnext:h.r.next+n<=4611686018427387904):
  bI Tryz.prog X.Se #[h.ptr, .slice p n c] w (qU h) (λv w'=>v= .int .i64 0/\PJ w h (Ad h.r.aq (bJ xs)) w'):=by
 refine axP _ p n c λw1 hb1=>(E6 (a.below hb1)).aH λad aI=>⟨_,rfl,aI.O,λe=>(nomatch e),λ_ bw bp=>?_⟩
 have k3:=((U.au hb1).trans aI).trans (U.au bp);refine(as7 (Laid.O k3 aj) (eF.O k3) ah).aH λbD bO=>⟨_,rfl,bO.O,λe=>(nomatch e),λ_ bP hb5=>?_⟩
 have dW:=(k3.trans bO).trans (U.au hb5);have hs5:=dW.size;refine(as6 (Laid.O dW aj) (a.O dW) (eF.O dW) ah fV hnext).aH λv cu dK ⟨Tl,h',hb',ang,mj,ha,bc⟩=>?_
 subst Tl;exact⟨rfl,dK.kept (λi hi _=>hi) (λi _ _ hm=>by cases hm),λw' hb _=>⟨rfl,h',hb',ang,mj,ha.below hb,λi hi=>(bc i hi).imp id λu=>by omega⟩⟩
end
variable{w0:World}{F:Nat->Prop}{Q:Value->World->Prop}
theorem aAI(an:Int)(h:DC w0 F Q an/\((1:Int)<=an->Kd w0 F Q an/\(an<=1000->aG w0 λa=>bm w0 λb=>U F w0 b->w0.heap.size<=a/\Whole b a G.OG [D an,D 0]->Q (.tuple #[ij a,D 0]) b))):aO X.W6 #[D an] w0 F Q:=bh [cn an] h
theorem aAM(v:Addr)(h:Pz w0 F Q v):aO X.FP #[al v] w0 F Q:=bh [.aY v 0] h
theorem aAL(hh:Addr)(h:b9 w0 F [] w0 X.LW #[al hh] .pointer λc d=>aa w0 F c Q (.bool (bL.val (.i_ (d=none))))):aO X.OI #[al hh] w0 F Q:=bh [.aY hh 0] h
theorem aAK(jM hE:Int)(h:aG w0 λa=>bG jM 0 (aa w0 F w0 Q (D 0)) (bG hE jM (aa w0 F w0 Q (D hE)) (aa w0 F w0 Q (D jM)))):aO X.OH #[.agg #[D jM,D hE]] w0 F Q:=bh [.agg [cn jM,cn hE]] h
theorem aAG(v:Addr)(h:b9 w0 F [] w0 X.FP #[al v] .bool λc d=>pf w0 F Q d c/\(d=false->A3 w0 F c v/\∀e:World,bH c [] v 1 [D 0] e->aa w0 F e Q (D 0))):aO X.W4 #[al v] w0 F Q:=bh [.aY v 0] h
theorem aAJ(v:Addr)(n:Int)(hh:Addr)(h:b9 w0 F [] w0 X.FP #[al v] .bool λc d=>pf w0 F Q d c/\(d=false->b9 w0 F [] c X.OI #[al hh] .bool λg i=>pf w0 F Q i g/\(i=false->bG n 0 (aa w0 F g Q (D 2)) (∃j,At g v 1 [D j]/\bG 0 j (∃k,At g v 1 [D k]/\ay (k+(min n 1048576))/\A3 w0 F g v/\∀l:World,bH g [] v 1 [D (k+(min n 1048576))] l->∃m,At l v 1 [D m]/\∀o:World,Yq w0 F Q l o hh [] v m) (∃k,At g v 1 [D k]/\∀l:World,Yq w0 F Q g l hh [] v k))))):aO X.W7 #[al v,D n,al hh] w0 F Q:=bh [.aY v 0,cn n, .aY hh 0] h
theorem aAH(v hh:Addr)(UE:ao)(M5 K0:Nat)(h:b9 w0 F [] w0 X.FP #[al v] .bool λc d=>dQ d (aa w0 F c Q (.tuple #[.slice none 0 0,D 0,D 1])) (b9 w0 F [] c X.OI #[al hh] .bool λg i=>dQ i (aa w0 F g Q (.tuple #[.slice none 0 0,D 0,D 1])) (∃j,At g v 0 [D j]/\((M5:Int)≠j->aa w0 F g Q (.tuple #[.slice none 0 0,D 0,D 2]))/\((M5:Int)=j->∃k,At g v 1 [D k]/\b9 w0 F [] g X.HC #[al hh] D λn o=>At n v 1 [D k]/\b9 w0 F [] n X.OH #[.agg #[D k,D o]] D λr s=>dt r X.Sb #[al hh,D s] λt u x=>∃y:ao,∃z A:Nat,bW u (.slice y z A) w0 F [] t x (∃B:Option Addr->Nat->Nat->Int->World->Prop,∃C:Option Addr->Nat->Nat->Int->Nat,(bm x λaD=>B none 0 0 0 aD)/\∀aD:ao,∀E bT:Nat,∀ak:Int,∀bo:World,U F w0 bo->B aD E bT ak bo->bG ak z (∃J:Addr,y=(some J)/\hG ak z/\∃K:gx,At bo J ((Int.toNat ak)*2) K.T.toList/\aG bo λL=>∃bj,At bo v 0 [D bj]/\bG E bj (aG bo λN=>∃eE:List Value,gy w0.heap.size F [L,N] bo G.fg 2 aD E bT eE 1/\((E+1)*32)<=140737488355328/\∀P:World,∀R:ao,∀S:Nat,gk bo [] aD E bT G.fg 2 (E+1) (eE++K.T.toList) P R S->Gi R [L,N] ak P B E S C aD bT) (ay (ak+1)/\bm bo λN=>B aD E bT (ak+1) N/\C aD E bT (ak+1)<C aD E bT ak)) (∃J,At bo v 0 [D J]/\ay (J-(E:Int))/\((0:Int)<=0/\(0:Int)<=(J-(E:Int))/\(J-(E:Int))<=(K0:Int))/\∃K:Option Addr->Nat->Nat->Int->World->Prop,∃L:Option Addr->Nat->Nat->Int->Nat,(bm bo λbj=>K aD E bT 0 bj)/\∀bj:ao,∀N eE:Nat,∀P:Int,∀R:World,U F w0 R->K bj N eE P R->bG P ((Int.toNat ((J-(E:Int))-0)):Nat) (∃S:Addr,(cM UE K0 0 2)=(some S)/\((0:Int)<=P/\P<(((Int.toNat ((J-(E:Int))-0)):Nat):Int))/\∃er:gx,At R S ((Int.toNat P)*2) er.T.toList/\aG R λV=>cC w0 R [(V,G.fg)] X.Oc #[.slice er.cells.p er.cells.n er.cells.c] λW Y a1=>∃gd:ao,∃fq ac:Nat,bW Y (.slice gd fq ac) w0 F [V] W a1 (aG a1 λaB=>∃jE:List Value,gy w0.heap.size F [V,aB] a1 G.fg 2 bj N eE jE 1/\((N+1)*32)<=140737488355328/\∀kq:World,∀jY:ao,∀mT:Nat,gk a1 [] bj N eE G.fg 2 (N+1) (jE++[.slice gd fq ac, .bool er.cU]) kq jY mT->Gi jY [V,aB] P kq K N mT L bj eE)) (b9 w0 F [] R X.Sd #[al hh] D λV W=>ay (W-s)/\aa w0 F V Q (.tuple #[.slice bj N eE,D (W-s),D 0])))))))):aO X.W5 #[al v,al hh, .slice UE M5 K0] w0 F Q:=eV [⟨8,[10,42],[]⟩,⟨14,[10,68],[]⟩] [] [.aY v 0, .aY hh 0, .cJ UE M5 K0] h
theorem aAF(v:Addr)(h:dt w0 X.FP #[al v] λa b c=>PB w0 F Q b [] a c v):aO X.OF #[al v] w0 F Q:=bh [.aY v 0] h
end Go.Proofs.YtimbpmnbbfeogaaGreatDoor
namespace Go.Rep
open Go Go.Sy
structure rZ where
 (b:Nat) (an dD:Nat)
def rZ.ptr(v:rZ):Value:= .pointer (some ⟨v.b,0,none⟩)
end Go.Rep
namespace Go.Proofs.YtimbpmnbbfeogaaGreatDoor
open Go Go.RowKit Go.Sy Go.Rep
structure jD(w:World)(v:rZ):Prop where
 aF:Whole w v.b G.OG [.int .i64 v.an, .int .i64 v.dD]
 lo:Y.dZ<=v.b
 de:1<=v.an
 c1:v.an<=1000
 k:v.dD<=1048576
def qa(x y:Int):Int:=if x<0 then 0 else if y<x then y else x
section
variable{w w':World}{v:rZ}{h:lx}
theorem jD.ax{F:Nat->Prop}(a:jD w v)(hk:U F w w')(bc:¬F v.b):jD w' v:=⟨a.aF.ax hk bc,a.lo,a.de,a.c1,a.k⟩
theorem jD.O(a:jD w v)(hk:U bg w w'):jD w' v:=a.ax hk λe=>e
theorem jD.below(a:jD w v)(hb:Below w.heap.size w w'):jD w' v:=a.O (U.au hb)
theorem jD.iV(a:jD w v):At w ⟨v.b,0,none⟩ 0 [.int .i64 v.an]:=(a.aF.at_ (show 2<=maxLen by decide)).cw 0 rfl
theorem jD.jb(a:jD w v):At w ⟨v.b,0,none⟩ 1 [.int .i64 v.dD]:=(a.aF.at_ (show 2<=maxLen by decide)).cw 1 rfl
theorem jD.lt(a:jD w v):v.b<w.heap.size:=a.aF.lt
def aiU(w0:World)(an dD:Nat)(v:rZ)(w:World):Prop:=v.an=an/\v.dD=dD/\jD w v/\w0.heap.size<=v.b
theorem auK{n:Nat}(aj:Laid w)(h1:1<=n)(h2:n<=1000):bI Tryz.prog X.W6 #[.int .i64 n] w bg (λu w'=>∃v:rZ,u= .tuple #[v.ptr, .int .i64 0]/\aiU w n 0 v w'):=
 aAI n ⟨λe=>by omega,λ_=>⟨λe=>by omega,λ_ ar ec w1 hb hk hw=>⟨⟨ar,n,0⟩,rfl,rfl,rfl,⟨hw.2,ek aj.size hw.1,h1,h2,ef _⟩,hw.1⟩⟩⟩
theorem NF(a:jD w v):di X.FP #[v.ptr] w (.bool false):=
 aAM _ ⟨_,a.iV,aa.of λ_=>by
  have:=a.de
  rw[cb,kp M]⟩
theorem agb(a:jD w v):di X.OF #[v.ptr] w (.int .i64 v.dD):=
 aAF _ λw1 hb1=>(NF (a.below hb1)).aH λad aI=>⟨_,rfl,aI.O,λe=>(nomatch e),λ_=>⟨_,((a.below hb1).O aI).jb,aa.of λ_=>rfl⟩⟩
theorem agc(aj:Laid w)(a:jk w h):di X.OI #[h.ptr] w (.bool false):=
 aAL _ λw1 hb1=>(afM (Laid.below hb1 aj) (a.below hb1)).aH λu ad aI ⟨h',hu,_⟩=>by
  subst hu;exact⟨_,rfl,aI.O,aa.of λ_=>dx Value.bool (show bL.val _=_ by rw[show bL.val (bL.i_ (some (⟨h'.b,0,none⟩:Addr)=none))=decide (some (⟨h'.b,0,none⟩:Addr)=none) from GC _ Iff.rfl];rfl)⟩
theorem UX(x y:Int):di X.OH #[.agg #[.int .i64 x, .int .i64 y]] w (.int .i64 (qa x y)):=
 aAK x y λar ec=>⟨λe=>aa.of λ_=>by rw[qa,aA e],λe=>⟨λe2=>aa.of λ_=>by rw[qa,ag M,aA e2],λe2=>aa.of λ_=>by rw[qa,ag M,ag M]⟩⟩
theorem jD.put(a:jD w v){n:Nat}(hn:n<=1048576)(hp:bH w [] ⟨v.b,0,none⟩ 1 [.int .i64 n] w'):jD w' ⟨v.b,v.an,n⟩:=⟨a.aF.put hp (show 2<=2 by omega),a.lo,a.de,a.c1,hn⟩
def Y9(w0:World)(v:rZ)(n:Nat)(w:World):Prop:=jD w ⟨v.b,v.an,n⟩
theorem auI(a:jD w v):bI Tryz.prog X.W4 #[v.ptr] w (λi=>i=v.b) (λu w'=>u= .int .i64 0/\Y9 w v 0 w'):=
 aAG _ λw1 hb1=>(NF (a.below hb1)).aH λad aI=>⟨_,rfl,aI.O,λe=>(nomatch e),λ_=>⟨⟨((a.below hb1).O aI).aF.ch (show 2<=2 by omega),⟨by simp,λ_=>rfl⟩⟩,λbw hp w' hb _=>⟨rfl,(((a.below hb1).O aI).put (ef _) hp).below hb⟩⟩⟩
theorem QN{x y:Int}(hy:0<=y)(h2:y<=1048576):∃n:Nat,qa x y=(n:Int)/\n<=1048576:=by
 unfold qa;split
 ·exact⟨0,rfl,by omega⟩
 ·split
  ·exact⟨y.toNat,by omega,by omega⟩
  ·exact⟨x.toNat,by omega,by omega⟩
def E1(dD k len:Int):Int:=qa (if 0<dD then dD+min k 1048576 else dD) len
def sr(q:fp):Int:=(q.next:Int)-q.first
theorem jk.aeq(a:jk w h):0<=sr h.r.aq/\sr h.r.aq<=1048576:=by
 have h1:=a.ring.num;have h2:=a.cap;have aw:=a.ring.m;show 0<=(h.r.next:Int)-h.r.first/\(h.r.next:Int)-h.r.first<=1048576;omega
theorem auL{k:Nat}(aj:Laid w)(a:jD w v)(ha:jk w h)(fV:¬qU h v.b):bI Tryz.prog X.W7 #[v.ptr, .int .i64 k,h.ptr] w (λi=>i=v.b) (λu w'=>u= .int .i64 0/\∃n:Nat,(n:Int)=E1 v.dD k (sr h.r.aq)/\Y9 w v n w'):=by
 have hlen:=ha.aeq;have LM:=a.k;have dJ:cp w.heap.size (λi=>i=v.b) [] v.b:=⟨by simp,λ_=>rfl⟩;refine aAJ _ k _ λw1 hb1=>(NF (a.below hb1)).aH λad aI=>⟨_,rfl,aI.O,λe=>(nomatch e),λ_ bw bp=>?_⟩
 have k3:=((U.au hb1).trans aI).trans (U.au bp);refine(agc (Laid.O k3 aj) (ha.O k3)).aH λbD bO=>⟨_,rfl,bO.O,λe=>(nomatch e),λ_=>⟨λe=>by omega,λ_=>?_⟩⟩
 have k4:=k3.trans bO;have a4:=a.O k4;have zw:=ha.O k4;refine⟨_,a4.jb,λe=>⟨_,a4.jb,by unfold ay;omega,⟨a4.aF.ch (show 2<=2 by omega),dJ⟩,λhC H4=>?_⟩,λe=>⟨_,a4.jb,λbP hb5=>?_⟩⟩
 ·have GN:(v.dD:Int)+min (k:Int) 1048576=((v.dD+min k 1048576:Nat):Int):=by omega
  rw[GN] at H4;have fs:Whole hC v.b G.OG [.int .i64 v.an, .int .i64 ((v.dD+min k 1048576:Nat):Int)]:=a4.aF.put H4 (show 2<=2 by omega);have am1:=zw.ax (F:=λi=>i=v.b) (H4.ax rfl) λi hi e=>fV (by rw[<-hi];exact e)
  have Zr:∀{V:World},Whole V v.b G.OG [.int .i64 v.an, .int .i64 ((v.dD+min k 1048576:Nat):Int)]->At V ⟨v.b,0,none⟩ 1 [.int .i64 ((v.dD+min k 1048576:Nat):Int)]:=λhw=>(hw.at_ (show 2<=maxLen by decide)).cw 1 rfl
  refine⟨_,Zr fs,λkl B2=>(Nw (am1.below B2)).aH λjy HD=>?_⟩;have wH:=(U.au B2).trans HD;refine⟨_,rfl,HD.O,Zr (fs.ax wH λe=>e),λk2 py=>(UX _ _).aH λoz L4=>?_⟩;have rr:=(wH.trans (U.au py)).trans L4;have ks:=fs.ax rr λe=>e
  obtain⟨n,hn,gA⟩:=QN (x:=((v.dD+min k 1048576:Nat):Int)) hlen.1 hlen.2;have qp:qa ((v.dD+min k 1048576:Nat):Int) ((h.r.next:Int)-h.r.first)=(n:Int):=hn;refine⟨_,rfl,L4.O,⟨ks.ch (show 2<=2 by omega),dJ⟩,λnX acY w' hb _=>⟨rfl,n,?_,?_⟩⟩
  ·rw[<-hn,E1,aA M,GN]
  ·rw[qp] at acY
   exact jD.below (⟨ks.put acY (show 2<=2 by omega),a.lo,a.de,a.c1,gA⟩:jD nX ⟨v.b,v.an,n⟩) hb
 ·refine(Nw (zw.below hb5)).aH λcu dK=>?_
  have iG:=(a4.below hb5).O dK;refine⟨_,rfl,dK.O,iG.jb,λw7 c8=>(UX _ _).aH λcW br=>?_⟩;have nD:=(iG.below c8).O br;obtain⟨n,hn,gA⟩:=QN (x:=(v.dD:Int)) hlen.1 hlen.2;have qp:qa (v.dD:Int) ((h.r.next:Int)-h.r.first)=(n:Int):=hn;refine⟨_,rfl,br.O,⟨nD.aF.ch (show 2<=2 by omega),dJ⟩,λcR mF w' hb _=>⟨rfl,n,?_,?_⟩⟩
  ·rw[<-hn,E1,ag M]
  ·rw[qp] at mF
   exact(nD.put gA mF).below hb
end
def Iw(an n:Nat)(q:fp)(dN:List Li):List Li:=(zY q n).take an++dN.take (an-((zY q n).take an).length)
section
variable{w w':World}{v:rZ}{h:lx}
theorem auJ{p:ao}{c:Nat}{xs:List ck}(aj:Laid w)(a:jD w v)(ha:jk w h)(eF:dE w p v.an c xs)(hw:∀x∈xs,x.cs.length<=1000):
  bI Tryz.prog X.W5 #[v.ptr,h.ptr, .slice p v.an c] w bg (λu w'=>∃q d ys,∃n:Nat,(n:Int)=qa v.dD (sr h.r.aq)/\u= .tuple #[.slice q ys.length d, .int .i64 ((h.r.next:Int)-n), .int .i64 0]/\dE w' q ys.length d ys/\bJ ys=Iw v.an n h.r.aq (bJ xs)/\∀i,fA q ys i->w.heap.size<=i):=by
 have hY:=aj.size;have hlen:=ha.aeq;have rq:=a.de;have j4:=a.c1;have LM:=a.k;have ve:=ha.ring.sX;have vg:=eF.len;refine aAH _ _ p v.an c λw1 hb1=>(NF (a.below hb1)).aH λad aI=>⟨_,rfl,aI.O,λe=>(nomatch e),λ_ bw bp=>?_⟩
 have k3:=((U.au hb1).trans aI).trans (U.au bp);refine(agc (Laid.O k3 aj) (ha.O k3)).aH λbD bO=>⟨_,rfl,bO.O,λe=>(nomatch e),λ_=>?_⟩
 have k4:=k3.trans bO;refine⟨_,(a.O k4).iV,λe=>absurd rfl e,λ_=>⟨_,(a.O k4).jb,λbP hb5=>(Nw ((ha.O k4).below hb5)).aH λcu dK=>?_⟩⟩;have fj:=(k4.trans (U.au hb5)).trans dK;refine⟨_,rfl,dK.O,(a.O fj).jb,λw7 c8=>(UX _ _).aH λcW br=>?_⟩;have fu:=(fj.trans (U.au c8)).trans br;obtain⟨rB,zJ,gA⟩:=QN (x:=(v.dD:Int)) hlen.1 hlen.2;have qp:qa (v.dD:Int) ((h.r.next:Int)-h.r.first)=(rB:Int):=zJ;refine⟨_,rfl,br.O,λcR cr=>?_⟩;have gI:=fu.trans (U.au cr);rw[qp];refine(as2 (n:=rB) (Laid.O gI aj) (ha.O gI)).aH λu gn jI ⟨cq,bY,jV,hu,wF,oU,amH⟩=>?_
 subst hu;have fZ:=gI.trans jI;have zQ:=gI.size;have aCQ:=jI.size;have SA:jV.length<=9223372036854775807:=by
  have:=bF.GB wF.row;have e:maxLen=9223372036854775807:=by decide
  omega
 refine⟨cq,jV.length,bY,rfl,jI.O,λq n d i V=>∃j:Nat,i=j/\j<=jV.length/\n=(jV.take (min j v.an)).length/\dE V q n d (jV.take (min j v.an))/\dE V cq jV.length bY jV/\∀i,dk q i->w.heap.size<=i/\¬fA cq jV i,
  λ_ _ _ i=>((jV.length:Int)-i).toNat,λky zx=>⟨0,rfl,ef _,by simp,by simpa using dE.nil,wF.O (U.au zx),λi ⟨aB,had,_⟩=>(nomatch had)⟩,?_⟩
 rintro q n d i hC lF ⟨j,rfl,hj,rfl,qu,Ih,fV⟩;have abQ:=Laid.O lF aj;have pE:(jV.take (min j v.an)).length=min j v.an:=by rw[kC];omega
 rw[pE] at qu⊢;have aCR:=lF.size;refine⟨λhi=>Ih.fU M hi λaB had hown ev IF aoq=>⟨_,(a.O lF).iV,λDT MY aCC=>?_,λDT=>?_⟩,λqn=>?_⟩
 ·rw[jN] at hown ev⊢
  have aCh:j<v.an:=by omega
  have L1:j<jV.length:=by omega
  have Lb:min j v.an=j:=by omega
  rw[Lb] at qu DT⊢;refine⟨dR (jV.take j),qu.row.room (λaB had hm=>?_) (λ_ aB had hl=>?_),by omega,λuu sP aDC hg acS=>⟨by unfold ay;omega,λs4 so=>?_⟩⟩
  ·have:=(qu.row.lt aB had).1
   simp at hm;omega
  ·have:=(fV _ ⟨aB,had,rfl⟩).1
   omega
  ·have R3:∀i,dm [bb jV j] i->¬fA q (jV.take j) i:=λi hi hc=>by
    rcases hc with hc|⟨y,hy,b,hb,aB8⟩
    ·exact(fV i hc).2 (.inr (by obtain⟨b,hb,e⟩:=dm.cw.1 hi;exact⟨_,ev,b,hb,e⟩))
    ·obtain⟨b2,kN,e2⟩:=dm.cw.1 hi
     have ape:jV=jV.take j++bb jV j::jV.drop (j+1):=by
      have:bb jV j=jV[j]:=by simp[bb,L1]
      rw[this,<-mw L1,AV]
     have sB:=Ih.eG.sep;rw[ape] at sB;exact(uz.1 sB).2.2 y hy _ kB b b2 hb kN M
   obtain⟨q1,q2,cz⟩:=dE.push (x:=bb jV j) M qu hown R3 hg;have aa7:jV.take (min (j+1) v.an)=jV.take j++[bb jV j]:=by
    rw[show min (j+1) v.an=j+1 by omega,ny,el L1];simp[bb,L1]
   have u5:∀i,dk sP i->dk q i∨hC.heap.size<=i:=λi ⟨b,hb,e⟩=>by
    rcases hg.j6 b hb with⟨b',h1,h2,_⟩|u
    ·exact .inl ⟨b',h1,by rw[<-h2];exact e⟩
    ·exact .inr M
   have HG:U (dk q) hC uu:=hg.ax λ_ b hb=>⟨b,hb,rfl⟩
   refine⟨⟨j+1,by omega,by omega,?_,?_,(Ih.ax HG λi hi e=>(fV i hi).2 e).O (U.au so),λi hi=>?_⟩,by dsimp only;omega⟩
   ·rw[aa7];simp;omega
   ·rw[aa7];exact q1.O (U.au so)
   ·rcases u5 i hi with u|u
    ·exact fV i u
    ·exact⟨by omega,λe=>by have:=Ih.lt e;omega⟩
 ·have Lb:min (j+1) v.an=min j v.an:=by omega
  exact⟨by unfold ay;omega,λln oS=>⟨⟨j+1,by omega,by omega,by rw[Lb,pE],by rw[Lb];exact qu.O (U.au oS),Ih.O (U.au oS),fV⟩,by dsimp only;omega⟩⟩
 ·obtain rfl:j=jV.length:=by omega
  obtain⟨t,ht⟩:∃t,t=min jV.length v.an:=⟨_,rfl⟩;rw[<-ht] at qu pE⊢;have kg:=bF.cap eF.row;have Rm:((v.an:Int)-(t:Int)-0).toNat=v.an-t:=by omega
  refine⟨_,(a.O lF).iV,by unfold ay;omega,⟨by omega,by omega,by omega⟩,λq n d i V=>∃k:Nat,i=k/\k<=v.an-t/\∃df:List ck,n=df.length/\df.length=t+k/\dE V q n d df/\bJ df=(zY h.r.aq rB).take v.an++(bJ xs).take k/\∀i,fA q df i->w.heap.size<=i,
   λ_ _ _ i=>((v.an:Int)-i).toNat,λkm qk=>⟨0,rfl,ef _,_,pE.symm,pE,qu.O (U.au qk),?_,λi hi=>?_⟩,?_⟩
  ·rw[<-oU,Dw,nx,ht]
   unfold bJ;rw[xk];rcases Nat.le_total jV.length v.an with u|u
   ·rw[AY u,jh aS,jh (by simpa using u)]
   ·rw[Nat.min_eq_right u]
  ·rcases hi with hi|⟨y,hy,b,hb,e⟩
   ·exact(fV i hi).1
   ·have:=amH i (.inr ⟨y,kA hy,b,hb,e⟩)
    omega
  rintro q2 n j2 i kl iZ ⟨k,rfl,hk,df,rfl,vh,sE,adC,Ty⟩;rw[Rm];have adw:=eF.O iZ;have aCS:=iZ.size;refine⟨λhi=>?_,λqn jy kM=>?_⟩
  ·have aCn:k<v.an-t:=by omega
   obtain⟨px,RO⟩:=bF.tail adw.row (j:=0) M M;obtain⟨dd,oe⟩:∃dd,cM p c 0 2=some dd:=by
    cases hc:cM p c 0 2 with
    |some dd=>exact⟨dd,rfl⟩
    |none=>have:=px hc;omega
   have dB:At kl dd (k*2) (bb xs k).iK.T.toList:=by
    have:=RO dd oe;rw[Dv,AX] at this;have h2:=this.sub (k*2) (aci xs k M);rwa[iR] at h2
   have ev:=pG (xs:=xs) (k:=k) M;refine⟨dd,oe,⟨by omega,by omega⟩,(bb xs k).iK,by rw[jN];exact dB,λie B_ nX oR Ek=>?_⟩;have aCG:=Ek.lt (d:=ie) aS;have sI:=iZ.trans (U.au oR);have wE:=hw _ ev;refine(af8 (nz.O (adw.eG.own _ ev).wJ (U.au oR)) (by show(bb xs k).cs.length<=_;omega)).aH λu l7 oT hq=>?_
   obtain⟨eB,ob,hu,ho⟩:=hq;subst hu;obtain⟨hx,sC,lZ⟩:=fB.EP (cU:=(bb xs k).iK.cU) (Laid.O sI aj) ho;have Im:=sI.trans oT;have ao2:=sI.size;have ao3:=oT.size;have Mo:=oR.size;have TA:=(sE.O (U.au oR)).O oT;refine⟨_,_,_,rfl,oT.O,λo2 aCA=>⟨dR df,TA.row.room (λaB had hm=>?_) (λ_ aB had hl=>?_),by omega,λlK l2 CH hg acS=>⟨by unfold ay;omega,λqO sn=>?_⟩⟩⟩
   ·have h1:=sE.lt (.inl ⟨aB,had,rfl⟩)
    have h2:=TA.lt (.inl ⟨aB,had,rfl⟩);simp at hm;omega
   ·have:=Ty _ (.inl ⟨aB,had,rfl⟩)
    omega
   ·obtain⟨q1,q2,cz⟩:=TA.push M sC (λi h1 h2=>by have:=lZ i h1;have:=sE.lt h2;omega) hg
    refine⟨⟨k+1,by omega,by omega,df++[⟨eB,ob,(bb xs k).cs,(bb xs k).iK.cU⟩],by simp,by simp;omega,q1.O (U.au sn),?_,λi hi=>?_⟩,by dsimp only;omega⟩
    ·rw[EM,adC,TY M,ju]
     rfl
    ·rcases q2 i hi with u|u|u
     ·exact Ty i u
     ·have:=lZ i u;omega
     ·omega
  ·obtain rfl:k=v.an-t:=by omega
   refine(as4 ((ha.O iZ).below kM)).aH λk2 oi=>⟨_,rfl,oi.O,by unfold ay;omega,λw' hb _=>⟨q2,j2,df,rB,zJ.symm,rfl,((sE.O (U.au kM)).O oi).O (U.au hb),?_,Ty⟩⟩
   rw[adC];unfold Iw;have e:((zY h.r.aq rB).take v.an).length=t:=by
    rw[<-oU,kC];simp[bJ];omega
   rw[e]
end
variable{w0:World}{F:Nat->Prop}{Q:Value->World->Prop}
theorem aAB(d:Addr)(c:Int)(h:(ct w0 d 0 1/\cp w0.heap.size F [] d.block)/\∀a:World,bH w0 [] d 0 [.slice none 0 0] a->A5 w0 F a d/\∀b:World,bH a [] d 2 [.int .u8 128] b->(ct b d 3 1/\cp w0.heap.size F [] d.block)/\∀e:World,bH b [] d 3 [.int .u8 191] e->∃f:World->Prop,bG c 128 (∀g:World,∀i:Nat,cX e [] G.ft [.int .i32 (IntKind.wrap .i32 c)] g i->aa w0 F g Q (.slice (some ⟨i,0,none⟩) 1 1)) (dX 194 c (dX c 223 (A3 w0 F e d/\∀g:World,bH e [] d 1 [D 1] g->bm g λi=>f i) (dX 224 c (dX c 239 (A3 w0 F e d/\∀g:World,bH e [] d 1 [D 2] g->bm g λi=>f i) (J3 w0 F Q c e d f)) (J3 w0 F Q c e d f))) (dX 224 c (dX c 239 (A3 w0 F e d/\∀g:World,bH e [] d 1 [D 2] g->bm g λi=>f i) (J3 w0 F Q c e d f)) (J3 w0 F Q c e d f)))/\∀g:World,U F w0 g->f g->∃i:World->Prop,a' c 224 (A5 w0 F g d/\∀j:World,bH g [] d 2 [.int .u8 160] j->bm j λk=>i k) (a' c 237 ((ct g d 3 1/\cp w0.heap.size F [] d.block)/\∀j:World,bH g [] d 3 [.int .u8 159] j->bm j λk=>i k) (a' c 240 (A5 w0 F g d/\∀j:World,bH g [] d 2 [.int .u8 144] j->bm j λk=>i k) (a' c 244 ((ct g d 3 1/\cp w0.heap.size F [] d.block)/\∀j:World,bH g [] d 3 [.int .u8 143] j->bm j λk=>i k) (bm g λj=>i j))))/\∀j:World,U F w0 j->i j->∀k:World,∀l:Nat,cX j [] G.eY [.int .u8 c] k l->J0 w0 F k d/\∀m:World,bH k [] d 0 [.slice (some ⟨l,0,none⟩) 1 1] m->aa w0 F m Q (.slice none 0 0)):aO X.Ju #[al d, .int .u8 c] w0 F Q:=eV [] [⟨11,[],[]⟩,⟨20,[],[]⟩] [.aY d 0, .int .u8 c] h
theorem aAA(d:Addr)(c:Int)(h:∃a:ao,∃b e:Nat,At w0 d 0 [.slice a b e]/\a' (b:Int) 0 (dt w0 X.Ju #[al d, .int .u8 c] λf g i=>uG w0 F Q g [] f i) (∃f:Int,At w0 d 2 [.int .u8 f]/\bG c f (Yd w0 F Q d c []) (∃g:Int,At w0 d 3 [.int .u8 g]/\bG g c (Yd w0 F Q d c []) (∃i:ao,∃j k:Nat,At w0 d 0 [.slice i j k]/\∃l:ao,∃m n:Nat,At w0 d 0 [.slice l m n]/\∃o:ao,∃p q:Nat,At w0 d 0 [.slice o p q]/\YR m p k/\aG w0 λr=>∃s:List Value,gy w0.heap.size F [r] w0 G.eY 1 (cM i p 0 1) m p s 1/\((m+1)*1)<=140737488355328/\∀t:World,∀u:ao,∀v:Nat,gk w0 [] (cM i p 0 1) m p G.eY 1 (m+1) (s++[.int .u8 c]) t u v->pX u [r]->(ct t d 0 1/\cp w0.heap.size F [r] d.block)/\∀x:World,bH t [] d 0 [.slice u (m+1) v] x->(ct x d 2 1/\cp w0.heap.size F [r] d.block)/\∀y:World,bH x [] d 2 [.int .u8 128] y->(ct y d 3 1/\cp w0.heap.size F [r] d.block)/\∀z:World,bH y [] d 3 [.int .u8 191] z->∃A,At z d 1 [D A]/\ay (A-1)/\(ct z d 1 1/\cp w0.heap.size F [r] d.block)/\∀B:World,bH z [] d 1 [D (A-1)] B->∃C,At B d 1 [D C]/\bG 0 C (aa w0 F B Q (.slice none 0 0)) (∃aD:ao,∃E bT:Nat,At B d 0 [.slice aD E bT]/\∃ak:Addr,aD=(some ak)/\xn E/\∃bo:Int,At B ak 0 [.int .u8 bo]/\∃J:ao,∃K L:Nat,At B d 0 [.slice J K L]/\ay (7-(K:Int))/\(0:Int)<=(7-(K:Int))/\∃bj:ao,∃N eE:Nat,At B d 0 [.slice bj N eE]/\Y2 N eE/\∃P:Int->Int->World->Prop,∃R:Int->Int->Nat,(bm B λS=>P (bits .and .i32 (IntKind.wrap .i32 bo) (IntKind.wrap .i32 ((yO .i32 1 (7-(K:Int)))-1))) 0 S)/\∀S er:Int,∀V:World,U F w0 V->P S er V->bG er ((Int.toNat ((N:Int)-1)):Nat) (∃W:Addr,(cM bj eE 1 1)=(some W)/\((0:Int)<=er/\er<(((Int.toNat ((N:Int)-1)):Nat):Int))/\∃Y:Int,At V W ((Int.toNat er)*1) [.int .u8 Y]/\(0:Int)<=6/\ay (er+1)/\bm V λa1=>P (bits .or .i32 (yO .i32 S 6) (IntKind.wrap .i32 (bits .and .u8 Y 63))) (er+1) a1/\R (bits .or .i32 (yO .i32 S 6) (IntKind.wrap .i32 (bits .and .u8 Y 63))) (er+1)<R S er) ((ct V d 0 1/\cp w0.heap.size F [r] d.block)/\∀W:World,bH V [] d 0 [.slice none 0 0] W->∀Y:World,∀a1:Nat,cX W [] G.ft [.int .i32 S] Y a1->¬(a1∈[r])->aa w0 F Y Q (.slice (some ⟨a1,0,none⟩) 1 1))))))):aO X.WV #[al d, .int .u8 c] w0 F Q:=eV [⟨13,[5,101],[]⟩] [] [.aY d 0, .int .u8 c] h
theorem aAz(d:Addr)(cm:ao)(nb db:Nat)(h:∃a:Option Addr->Nat->Nat->Int->World->Prop,∃b:Option Addr->Nat->Nat->Int->Nat,(bm w0 λc=>a none 0 0 0 c)/\∀c:ao,∀e f:Nat,∀g:Int,∀i:World,U F w0 i->a c e f g i->bG g nb (∃j:Addr,cm=(some j)/\hG g nb/\∃k:Int,At i j ((Int.toNat g)*1) [.int .u8 k]/\dt i X.WV #[al d, .int .u8 k] λl m n=>∃o:ao,∃p q:Nat,bW m (.slice o p q) w0 F [] l n (∃r:List Value,gy w0.heap.size F [] n G.ft 1 c e f r p/\∃s:List Value,(s.length=(p*1)/\A2 s o p n)/\((e+p)*4)<=140737488355328/\∀t:World,∀u:ao,∀v:Nat,gk n [] c e f G.ft 1 (e+p) (r++s) t u v->ay (g+1)/\bm t λx=>a u (e+p) v (g+1) x/\b u (e+p) v (g+1)<b c e f g)) (aa w0 F i Q (.slice c e f))):aO X.WU #[al d, .slice cm nb db] w0 F Q:=eV [⟨3,[5,10],[]⟩] [] [.aY d 0, .cJ cm nb db] h
theorem aAC(aP:ao)(aM ba:Nat)(h:∃a:Option Addr->Nat->Nat->Int->World->Prop,∃b:Option Addr->Nat->Nat->Int->Nat,(bm w0 λc=>a none 0 0 0 c)/\∀c:ao,∀d e:Nat,∀f:Int,∀g:World,U F w0 g->a c d e f g->bG f aM (∃i:Addr,aP=(some i)/\hG f aM/\∃j:Int,At g i ((Int.toNat f)*1) [.int .i32 j]/\b9 w0 F [] g X.Jv #[.int .i32 j] .bool λm n=>gL n (bG 65533 128 (aG m λo=>∃p:List Value,gy w0.heap.size F [o] m G.eY 1 c d e p 1/\((d+1)*1)<=140737488355328/\∀q:World,∀r:ao,∀s:Nat,gk m [] c d e G.eY 1 (d+1) (p++[.int .u8 253]) q r s->Gi r [o] f q a d s b c e) (bG 65533 2048 ((0:Int)<=6/\b9 w0 F [] m X.rO #[.int .i32 65533] (.int .u8) λq r=>aG q λs=>∃t:List Value,gy w0.heap.size F [s] q G.eY 1 c d e t 2/\((d+2)*1)<=140737488355328/\∀u:World,∀v:ao,∀x:Nat,gk q [] c d e G.eY 1 (d+2) (t++[.int .u8 255, .int .u8 r]) u v x->pX v [s]->ay (f+1)/\bm u λy=>a v (d+2) x (f+1) y/\b v (d+2) x (f+1)<b c d e f) (bG 65533 65536 ((0:Int)<=12/\(0:Int)<=6/\b9 w0 F [] m X.rO #[.int .i32 1023] (.int .u8) λq r=>b9 w0 F [] q X.rO #[.int .i32 65533] (.int .u8) λu v=>aG u λx=>∃y:List Value,gy w0.heap.size F [x] u G.eY 1 c d e y 3/\((d+3)*1)<=140737488355328/\∀z:World,∀A:ao,∀B:Nat,gk u [] c d e G.eY 1 (d+3) (y++[.int .u8 239, .int .u8 r, .int .u8 v]) z A B->pX A [x]->ay (f+1)/\bm z λC=>a A (d+3) B (f+1) C/\b A (d+3) B (f+1)<b c d e f) ((0:Int)<=18/\(0:Int)<=12/\b9 w0 F [] m X.rO #[.int .i32 15] (.int .u8) λq r=>(0:Int)<=6/\b9 w0 F [] q X.rO #[.int .i32 1023] (.int .u8) λu v=>b9 w0 F [] u X.rO #[.int .i32 65533] (.int .u8) λz A=>aG z λB=>∃C:List Value,gy w0.heap.size F [B] z G.eY 1 c d e C 4/\((d+4)*1)<=140737488355328/\∀aD:World,∀E:ao,∀bT:Nat,gk z [] c d e G.eY 1 (d+4) (C++[.int .u8 240, .int .u8 r, .int .u8 v, .int .u8 A]) aD E bT->pX E [B]->ay (f+1)/\bm aD λak=>a E (d+4) bT (f+1) ak/\b E (d+4) bT (f+1)<b c d e f)))) (bG j 128 (aG m λo=>∃p:List Value,gy w0.heap.size F [o] m G.eY 1 c d e p 1/\((d+1)*1)<=140737488355328/\∀q:World,∀r:ao,∀s:Nat,gk m [] c d e G.eY 1 (d+1) (p++[.int .u8 (IntKind.wrap .u8 j)]) q r s->Gi r [o] f q a d s b c e) (bG j 2048 ((0:Int)<=6/\b9 w0 F [] m X.rO #[.int .i32 j] (.int .u8) λq r=>aG q λs=>∃t:List Value,gy w0.heap.size F [s] q G.eY 1 c d e t 2/\((d+2)*1)<=140737488355328/\∀u:World,∀v:ao,∀x:Nat,gk q [] c d e G.eY 1 (d+2) (t++[.int .u8 (bits .or .u8 192 (IntKind.wrap .u8 (iA .i32 j 6))), .int .u8 r]) u v x->pX v [s]->ay (f+1)/\bm u λy=>a v (d+2) x (f+1) y/\b v (d+2) x (f+1)<b c d e f) (bG j 65536 ((0:Int)<=12/\(0:Int)<=6/\b9 w0 F [] m X.rO #[.int .i32 (iA .i32 j 6)] (.int .u8) λq r=>b9 w0 F [] q X.rO #[.int .i32 j] (.int .u8) λu v=>aG u λx=>∃y:List Value,gy w0.heap.size F [x] u G.eY 1 c d e y 3/\((d+3)*1)<=140737488355328/\∀z:World,∀A:ao,∀B:Nat,gk u [] c d e G.eY 1 (d+3) (y++[.int .u8 (bits .or .u8 224 (IntKind.wrap .u8 (iA .i32 j 12))), .int .u8 r, .int .u8 v]) z A B->pX A [x]->ay (f+1)/\bm z λC=>a A (d+3) B (f+1) C/\b A (d+3) B (f+1)<b c d e f) ((0:Int)<=18/\(0:Int)<=12/\b9 w0 F [] m X.rO #[.int .i32 (iA .i32 j 12)] (.int .u8) λq r=>(0:Int)<=6/\b9 w0 F [] q X.rO #[.int .i32 (iA .i32 j 6)] (.int .u8) λu v=>b9 w0 F [] u X.rO #[.int .i32 j] (.int .u8) λz A=>aG z λB=>∃C:List Value,gy w0.heap.size F [B] z G.eY 1 c d e C 4/\((d+4)*1)<=140737488355328/\∀aD:World,∀E:ao,∀bT:Nat,gk z [] c d e G.eY 1 (d+4) (C++[.int .u8 (bits .or .u8 240 (IntKind.wrap .u8 (iA .i32 j 18))), .int .u8 r, .int .u8 v, .int .u8 A]) aD E bT->pX E [B]->ay (f+1)/\bm aD λak=>a E (d+4) bT (f+1) ak/\b E (d+4) bT (f+1)<b c d e f))))) (aa w0 F g Q (.slice c d e))):aO X.WW #[.slice aP aM ba] w0 F Q:=eV [⟨3,[3,8],[]⟩] [] [.cJ aP aM ba] h
theorem aAE(r:Int)(h:aa w0 F w0 Q (.int .u8 (bits .or .u8 128 (IntKind.wrap .u8 (bits .and .i32 r 63))))):aO X.rO #[.int .i32 r] w0 F Q:=bh [.int .i32 r] h
theorem ayg(b:Addr)(h:∃a,At w0 b 16 [D a]/\a' a 16 ((ct w0 b 17 1/\cp w0.heap.size F [] b.block)/\∀c:World,bH w0 [] b 17 [.bool true] c->aa w0 F c Q (.tuple #[])) (∃c,At w0 b 16 [D c]/\((0:Int)<=c/\c<16)/\(ct w0 b (0+((Int.toNat c)*1)) 1/\cp w0.heap.size F [] b.block)/\∀d:World,bH w0 [] b (0+((Int.toNat c)*1)) [D (-1)] d->∃e,At d b 16 [D e]/\ay (e+1)/\(ct d b 16 1/\cp w0.heap.size F [] b.block)/\∀f:World,bH d [] b 16 [D (e+1)] f->aa w0 F f Q (.tuple #[]))):aO X.Ng #[al b] w0 F Q:=bh [.aY b 0] h
theorem ayd(b:Addr)(r:Int)(h:∃a:World->Prop,((r≠59->bG r 48 (aa w0 F w0 Q (.bool false)) (bG 57 r (aa w0 F w0 Q (.bool false)) (bm w0 λc=>a c)))/\(r=59->bm w0 λc=>a c))/\∀c:World,U F w0 c->a c->∃d:World->Prop,(∃e,At c b 16 [D e]/\a' e 0 (dt c X.Ng #[al b] λf g i=>bW g (.tuple #[]) w0 F [] f i (bm i λj=>d j)) (bm c λf=>d f))/\∀e:World,U F w0 e->d e->a' r 59 (dt e X.Ng #[al b] λf g i=>bW g (.tuple #[]) w0 F [] f i (aa w0 F i Q (.bool true))) (∃f:Bool,At e b 17 [.bool f]/\dQ f (aa w0 F e Q (.bool true)) (∃g,At e b 16 [D g]/\ay (g-1)/\((0:Int)<=(g-1)/\(g-1)<16)/\∃i,At e b (0+((Int.toNat (g-1))*1)) [D i]/\ay (10*(max i 0))/\ay (IntKind.wrap .i32 (r-48))/\ay ((10*(max i 0))+(IntKind.wrap .i32 (r-48)))/\(ct e b (0+((Int.toNat (g-1))*1)) 1/\cp w0.heap.size F [] b.block)/\∀j:World,bH e [] b (0+((Int.toNat (g-1))*1)) [D (min ((10*(max i 0))+(IntKind.wrap .i32 (r-48))) 9999)] j->aa w0 F j Q (.bool true)))):aO X.Nf #[al b, .int .i32 r] w0 F Q:=eV [] [⟨3,[],[]⟩,⟨5,[],[]⟩] [.aY b 0, .int .i32 r] h
theorem aye(b:Addr)(h:∃a,At w0 b 16 [D a]/\((0:Int)<=a/\a<=a/\(a*8)<=140737488355328)/\∀c:World,∀d:Nat,Made w0 [] G.int 1 (Int.toNat a) (Int.toNat a) [D 0] c d->((0:Int)<=0/\(0:Int)<=16/\(16:Int)<=16)/\∃e:Addr,(some ⟨d,0,none⟩)=(some e)/\∃f:List Value,(f.length=((min 16 (Int.toNat a))*1)/\yZ f/\((some b)=none->(min 16 (Int.toNat a))=0)/\∀g:Addr,(some b)=(some g)->At c g 0 f)/\(ct c e 0 ((min 16 (Int.toNat a))*1)/\cp w0.heap.size F [] e.block)/\∀g:World,bH c [] e 0 f g->aa w0 F g Q (.slice (some ⟨d,0,none⟩) (Int.toNat a) (Int.toNat a))):aO X.Ut #[al b] w0 F Q:=bh [.aY b 0] h
theorem ayf(b:Addr)(h:(ct w0 b 0 18/\cp w0.heap.size F [] b.block)/\∀a:World,bH w0 [] b 0 [D 0,D 0,D 0,D 0,D 0,D 0,D 0,D 0,D 0,D 0,D 0,D 0,D 0,D 0,D 0,D 0,D 0, .bool false] a->aa w0 F a Q (.tuple #[])):aO X.Uu #[al b] w0 F Q:=bh [.aY b 0] h
end Go.Proofs.YtimbpmnbbfeogaaGreatDoor
namespace Go.Proofs.YtimbpmnbbfeogaaGreatDoor
open Go Go.RowKit Go.Sy Go.Rep
structure hT(w:World)(b o:Nat)(t:TypeId)(pre post xs:List Value):Prop where
 aF:Whole w b t (pre++(xs++post))
 len:pre.length=o
 iX:pre.length+(xs.length+post.length)<=1000
section
variable{w w':World}{b o:Nat}{t:TypeId}{pre post xs:List Value}
theorem At.base{g k o:Nat}{cj:List Value}(h:At w ⟨g,0,none⟩ (k+o) cj):At w ⟨g,k,none⟩ o cj:=by
 intro j v ah;have:=h j v ah;have e:(⟨g,0,none⟩:Addr).add (k+o+j)=(⟨g,k,none⟩:Addr).add (o+j):=by
  unfold Addr.add;split
  ·rename_i q
   rw[aA M];congr 1;omega
  ·split
   ·congr 1;simp;omega
   ·congr 1;simp;omega
 rw[<-e];exact this
theorem hT.at_(h:hT w b o t pre post xs)(i:Nat){cj:List Value}(hu:cj=(xs.drop i).take cj.length)(hi:i+cj.length<=xs.length):At w ⟨b,o,none⟩ i cj:=by
 have h1:=h.aF.at_ (by have:=h.iX;have e:maxLen=9223372036854775807:=du;simp;omega)
 have h2:=h1.sub (o+i) (cj:=cj) (by
  rw[<-h.len,vL,rU (JR _ _),pW,X9,vL,xj,mv,show cj.length-(xs.length-i)=0 by omega,Dw,nx]
  exact hu)
 rw[iR] at h2;exact At.base (cj:=cj) h2
theorem hT.ch(h:hT w b o t pre post xs){i n:Nat}(hi:i+n<=xs.length):ct w ⟨b,o,none⟩ i n:=
 (h.aF.ch (o:=o+i) (m:=n) (by have:=h.len;simp;omega)).base
theorem hT.put(h:hT w b o t pre post xs){i:Nat}{vs:List Value}(hp:bH w [] ⟨b,o,none⟩ i vs w')(hi:i+vs.length<=xs.length):hT w' b o t pre post (xs.take i++(vs++xs.drop (i+vs.length))):=by
 have hl:=h.len;refine⟨?_,hl,by have:=h.iX;simp;omega⟩;have:=h.aF.put hp.base ej;have e1:(pre++(xs++post)).take (o+i)=pre++xs.take i:=by
  rw[<-hl,xj,jh (JR _ _),X9,xj,show i-xs.length=0 by omega,Dw,nx]
 have e2:(pre++(xs++post)).drop (o+i+vs.length)=xs.drop (i+vs.length)++post:=by
  rw[<-hl,vL,rU M,pW,show pre.length+i+vs.length-pre.length=i+vs.length by omega,vL,show i+vs.length-xs.length=0 by omega,AX]
 rw[e1,e2] at this;simpa using this
theorem hT.ax{F:Nat->Prop}(h:hT w b o t pre post xs)(hk:U F w w')(bc:¬F b):hT w' b o t pre post xs:=⟨h.aF.ax hk bc,h.len,h.iX⟩
theorem hT.O(h:hT w b o t pre post xs)(hk:U bg w w'):hT w' b o t pre post xs:=h.ax hk λe=>e
theorem hT.below(h:hT w b o t pre post xs)(hb:Below w.heap.size w w'):hT w' b o t pre post xs:=h.O (U.au hb)
end
end Go.Proofs.YtimbpmnbbfeogaaGreatDoor
namespace Go.Rep
open Go Go.Sy
structure mz where
 (p:ao) (c:Nat) (bs:List Int) (cZ lo hi:Int)
structure iE where
 (bs:List Int) (cZ lo hi:Int)
def mz.q(d:mz):iE:=⟨d.bs,d.cZ,d.lo,d.hi⟩
def mz.cells(d:mz):List Value:=[.slice d.p d.bs.length d.c, .int .i64 d.cZ, .int .u8 d.lo, .int .u8 d.hi]
end Go.Rep
namespace Go.Proofs.YtimbpmnbbfeogaaGreatDoor
open Go Go.RowKit Go.Sy Go.Rep
def eU(bs:List Int):List Value:=bs.map λx=> .int .u8 x
def o9(bs:List Int):List Value:=bs.map λx=> .int .i32 x
structure vR(w:World)(b o:Nat)(t:TypeId)(pre post:List Value)(d:mz):Prop where
 lp:hT w b o t pre post d.cells
 row:bF Y.dZ w G.eY 1 d.p d.bs.length d.c (eU d.bs)
 off:¬dk d.p b
def n5(w0:World)(l:List Int)(v:Value)(w:World):Prop:=∃p c,v= .slice p l.length c/\bF w0.heap.size w G.ft 1 p l.length c (o9 l)
def iy(c:Int):Int:=if 194<=c/\c<=223 then 1 else if 224<=c/\c<=239 then 2 else if 240<=c/\c<=244 then 3 else 0
def tY(c:Int):Int:=if c=224 then 160 else if c=240 then 144 else 128
def tH(c:Int):Int:=if c=237 then 159 else if c=244 then 143 else 191
def lA(c:Int)(q:iE):iE×List Int:=
 if c<128 then(⟨[],q.cZ,128,191⟩,[IntKind.wrap .i32 c]) else if iy c=0 then(⟨[],q.cZ,128,191⟩,[65533]) else(⟨[c],iy c,tY c,tH c⟩,[])
section
variable{w w':World}{b o:Nat}{t:TypeId}{pre post:List Value}{d:mz}
theorem vR.O(h:vR w b o t pre post d)(hk:U bg w w'):vR w' b o t pre post d:=⟨h.lp.O hk,h.row.O hk,h.off⟩
def th(w0:World)(b o:Nat)(t:TypeId)(pre post:List Value)(d:mz)(q:iE)(w:World):Prop:=∃Bx:mz,Bx.q=q/\vR w b o t pre post Bx/\∀i,dk Bx.p i->dk d.p i∨w0.heap.size<=i
theorem n5.lit{w0 w1 ad:World}{x:Int}{n:Nat}(hk:w0.heap.size<=w1.heap.size)(hl:cX w1 [] G.ft [.int .i32 x] ad n){bw:World}(hb:Below ad.heap.size ad bw):n5 w0 [x] (.slice (some ⟨n,0,none⟩) 1 1) bw:=
 ⟨_,_,rfl,((hl.own (n:=1) (s:=1) rfl du).base λa ha=>by cases ha;have:=hl.new;show _<=n;omega).below hb⟩
theorem aga{c:Int}(hY:Y.dZ<=w.heap.size)(h:vR w b o t pre post d):bI Tryz.prog X.Ju #[.pointer (some ⟨b,o,none⟩), .int .u8 c] w (λi=>i=b) (λv w'=>n5 w (lA c d.q).2 v w'/\th w b o t pre post d (lA c d.q).1 w'):=by
 have jG:b<w.heap.size:=h.lp.aF.lt;have dJ:cp w.heap.size (λi=>i=b) [] b:=⟨by simp,λ_=>rfl⟩;refine aAB _ c ⟨⟨h.lp.ch (show 0+1<=4 by omega),dJ⟩,λw1 Ep=>?_⟩;have h1:=h.lp.put Ep (show 0+1<=4 by omega);refine⟨⟨h1.ch (show 2+1<=4 by omega),dJ⟩,λad nM=>?_⟩;have h2:=h1.put nM (show 2+1<=4 by omega);refine⟨⟨h2.ch (show 3+1<=4 by omega),dJ⟩,λbw iw=>?_⟩;have aw:hT bw b o t pre post [.slice none 0 0, .int .i64 d.cZ, .int .u8 128, .int .u8 191]:=h2.put iw (show 3+1<=4 by omega);have k3:U (λi=>i=b) w bw:=((Ep.ax (F:=λi=>i=b) rfl).trans (nM.ax rfl)).trans (iw.ax rfl);have tO:=k3.size;have once:∀{x:Int} {bD bP:World} {n:Nat},cX bw [] G.ft [.int .i32 x] bD n->Below bD.heap.size bD bP->lA c d.q=(⟨[],d.cZ,128,191⟩,[x])->n5 w (lA c d.q).2 (.slice (some ⟨n,0,none⟩) 1 1) bP/\th w b o t pre post d (lA c d.q).1 bP:=by
  intro x bD bP n hl hb e;rw[e];exact⟨n5.lit tO hl hb,⟨none,0,[],d.cZ,128,191⟩,rfl,⟨(aw.O (hl.ax rfl)).below hb,bF.nil _ _ _ _,λ⟨a,ha,_⟩=>by cases ha⟩,λi ⟨a,ha,_⟩=>by cases ha⟩
 have Bj:∀{bD:World} {n:Nat},¬c<128->iy c=0->cX bw [] G.ft [.int .i32 65533] bD n->Sy.aa w (λi=>i=b) bD (λv w'=>n5 w (lA c d.q).2 v w'/\th w b o t pre post d (lA c d.q).1 w') (.slice (some ⟨n,0,none⟩) 1 1):=λaW hm hl w' hb _=>once hl hb (by rw[lA,ag aW,aA hm];rfl)
 have ams:∀{m:Int} {bD bP:World},iy c=m->m≠0->bH bw [] ⟨b,o,none⟩ 1 [.int .i64 m] bD->Below bD.heap.size bD bP->U (λi=>i=b) w bP/\iy c≠0/\hT bP b o t pre post [.slice none 0 0, .int .i64 (iy c), .int .u8 128, .int .u8 191]:=by
  intro m bD bP e1 e2 hp hb;refine⟨(k3.trans (hp.ax rfl)).trans ((U.au hb).mono λ_ e=>e.elim),by omega,?_⟩;rw[e1];exact hT.below (aw.put hp (show 1+1<=4 by omega)) hb
 have RX:ct bw ⟨b,o,none⟩ 1 1/\cp w.heap.size (λi=>i=b) [] b:=⟨aw.ch (show 1+1<=4 by omega),dJ⟩;refine⟨λV=>U (λi=>i=b) w V/\(128<=c/\iy c≠0)/\hT V b o t pre post [.slice none 0 0, .int .i64 (iy c), .int .u8 128, .int .u8 191],⟨λe bD n hl w' hb _=>once hl hb (by rw[lA,aA e];rfl),λe=>?_⟩,?_⟩
 ·have fE:∀m:Int,(if 194<=c/\c<=223 then(1:Int) else if 224<=c/\c<=239 then 2 else if 240<=c/\c<=244 then 3 else 0)=m->iy c=m:=λm e=>e
  have bQ:∀{m:Int} {bD bP:World},iy c=m->m≠0->bH bw [] ⟨b,o,none⟩ 1 [.int .i64 m] bD->Below bD.heap.size bD bP->U (λi=>i=b) w bP/\(128<=c/\iy c≠0)/\hT bP b o t pre post [.slice none 0 0, .int .i64 (iy c), .int .u8 128, .int .u8 191]:=λe1 e2 hp hb=>let⟨dd,a2,a3⟩:=ams e1 e2 hp hb;⟨dd,⟨by omega,a2⟩,a3⟩
  refine⟨λe1=>⟨λe2=>⟨RX,λbD hp bP hb=>bQ (fE _ (aA ⟨e1,e2⟩)) du hp hb⟩,λe2=>⟨λe3=>⟨λe4=>⟨RX,λbD hp bP hb=>bQ (fE _ (by rw[ag M,aA ⟨e3,e4⟩])) du hp hb⟩,λe4=>⟨λeu=>⟨λgq=>⟨RX,λbD hp bP hb=>bQ (fE _ (by rw[ag M,ag M,aA ⟨eu,gq⟩])) du hp hb⟩,λgq bD n hl=>Bj M (fE _ XL) hl⟩,λeu bD n hl=>Bj M (fE _ XL) hl⟩⟩,λe3=>⟨λeu=>⟨λgq=>by omega,λgq=>by omega⟩,λeu=>by omega⟩⟩⟩,λe1=>⟨λe3=>⟨λe4=>by omega,λe4=>⟨λeu=>by omega,λeu=>by omega⟩⟩,λe3=>⟨λeu=>by omega,λeu bD n hl=>Bj M (fE _ XL) hl⟩⟩⟩
 ·rintro bD bO ⟨Cz,⟨aBP,hm⟩,Ie⟩
  have step2:∀{x:Int} {bP cu:World},tY c=x->tH c=191->bH bD [] ⟨b,o,none⟩ 2 [.int .u8 x] bP->Below bP.heap.size bP cu->U (λi=>i=b) w cu/\hT cu b o t pre post [.slice none 0 0, .int .i64 (iy c), .int .u8 (tY c), .int .u8 (tH c)]:=by
   intro x bP cu e1 e2 hp hb;rw[e1,e2];exact⟨(Cz.trans (hp.ax rfl)).trans ((U.au hb).mono λ_ e=>e.elim),hT.below (Ie.put hp (show 2+1<=4 by omega)) hb⟩
  have ahb:∀{x:Int} {bP cu:World},tY c=128->tH c=x->bH bD [] ⟨b,o,none⟩ 3 [.int .u8 x] bP->Below bP.heap.size bP cu->U (λi=>i=b) w cu/\hT cu b o t pre post [.slice none 0 0, .int .i64 (iy c), .int .u8 (tY c), .int .u8 (tH c)]:=by
   intro x bP cu e1 e2 hp hb;rw[e1,e2];exact⟨(Cz.trans (hp.ax rfl)).trans ((U.au hb).mono λ_ e=>e.elim),hT.below (Ie.put hp (show 3+1<=4 by omega)) hb⟩
  have c2:ct bD ⟨b,o,none⟩ 2 1/\cp w.heap.size (λi=>i=b) [] b:=⟨Ie.ch (show 2+1<=4 by omega),dJ⟩;have c3:ct bD ⟨b,o,none⟩ 3 1/\cp w.heap.size (λi=>i=b) [] b:=⟨Ie.ch (show 3+1<=4 by omega),dJ⟩
  refine⟨λV=>U (λi=>i=b) w V/\hT V b o t pre post [.slice none 0 0, .int .i64 (iy c), .int .u8 (tY c), .int .u8 (tH c)],
   ⟨λe=>⟨c2,λbP hp cu hb=>step2 (by rw[tY,aA e]) aid hp hb⟩,λe1=>⟨λe=>⟨c3,λbP hp cu hb=>ahb aie (by rw[tH,aA e]) hp hb⟩,λe2=>⟨λe=>⟨c2,λbP hp cu hb=>step2 (by rw[tY,ag M,aA e]) aid hp hb⟩,λe3=>⟨λe=>⟨c3,λbP hp cu hb=>ahb aie (by rw[tH,ag M,aA e]) hp hb⟩,λe4 cR hb=>⟨Cz.trans ((U.au hb).mono λ_ e=>e.elim),by
    rw[tY,ag e1,ag e3,tH,ag e2,ag e4]
    exact Ie.below hb⟩⟩⟩⟩⟩,?_⟩
  rintro bP eH ⟨ap6,ads⟩ cu ar hl;have adt:=ads.O (hl.ax rfl);refine⟨⟨adt.ch (show 0+1<=4 by omega),dJ⟩,λw7 pC w' hb _=>?_⟩;have e:lA c d.q=(⟨[c],iy c,tY c,tH c⟩,[]):=by rw[lA,ag M,ag hm]
  rw[e];have ng:=hl.new;have hs5:=ap6.size;have aoT:=hl.own (n:=1) (s:=1) rfl du;refine⟨⟨none,0,rfl,bF.nil _ _ _ _⟩,⟨some ⟨ar,0,none⟩,1,[c],iy c,tY c,tH c⟩,rfl,⟨hT.below (adt.put pC (show 0+1<=4 by omega)) hb,?_,λ⟨a,ha,e⟩=>?_⟩,λi ⟨a,ha,e⟩=>?_⟩
  ·exact((aoT.base λa ha=>by cases ha;show Y.dZ<=ar;omega).ax (F:=λi=>i=b) (pC.ax rfl) λa ha e=>by cases ha;change ar=b at e;omega).below hb
  ·cases ha;change ar=b at e;omega
  ·cases ha;change ar=i at e;exact .inr M
end
def Vj(r y:Int):Int:=bits .or .i32 (yO .i32 r 6) (IntKind.wrap .i32 (bits .and .u8 y 63))
def NU:List Int->Int
 |[]=>0
 |x::xs=>xs.foldl Vj (bits .and .i32 (IntKind.wrap .i32 x) (IntKind.wrap .i32 ((yO .i32 1 (7-((xs.length+1:Nat):Int)))-1)))
def mr(c:Int)(q:iE):iE×List Int:=
 if q.bs=[] then lA c q
 else if c<q.lo∨q.hi<c then((lA c q).1,65533::(lA c q).2)
 else if 0<q.cZ-1 then(⟨q.bs++[c],q.cZ-1,128,191⟩,[]) else(⟨[],q.cZ-1,128,191⟩,[NU (q.bs++[c])])
def qS(q:iE):Prop:=q.bs=[]∨(1<=q.bs.length/\1<=q.cZ/\(q.bs.length:Int)+q.cZ<=4)
theorem aq_(c:Int):0<=iy c/\iy c<=3:=by
 unfold iy;split
 ·omega
 ·split
  ·omega
  ·split<;>omega
theorem ZH(c:Int)(q:iE):qS (lA c q).1:=by
 unfold lA;split
 ·exact .inl rfl
 ·split
  ·exact .inl rfl
  ·rename_i h
   have:=aq_ c;exact .inr ⟨cL _,by show 1<=iy c;omega,by show((1:Nat):Int)+iy c<=4;omega⟩
theorem awh{c:Int}{q:iE}(h:qS q):qS (mr c q).1:=by
 unfold mr;split
 ·exact ZH c q
 ·rename_i hne
  split
  ·exact ZH c q
  ·split
   ·rename_i hm
    rcases h with h|⟨h1,h2,aw⟩
    ·exact absurd h hne
    ·exact .inr ⟨by show 1<=(q.bs++[c]).length;simp,by show 1<=q.cZ-1;omega,by show((q.bs++[c]).length:Int)+(q.cZ-1)<=4;simp;omega⟩
   ·exact .inl rfl
section
variable{w w':World}{b o:Nat}{t:TypeId}{pre post:List Value}{d:mz}
theorem n5.base{w0 w1 ad:World}{l:List Int}{v:Value}(h:n5 w1 l v ad)(hs:w0.heap.size<=w1.heap.size):n5 w0 l v ad:=by
 obtain⟨p,c,e,ho⟩:=h;exact⟨p,c,e,ho.low hs⟩
theorem n5.below{w0 w1 ad:World}{l:List Int}{v:Value}(h:n5 w0 l v w1)(hb:Below w1.heap.size w1 ad):n5 w0 l v ad:=by
 obtain⟨p,c,e,ho⟩:=h;exact⟨p,c,e,ho.below hb⟩
theorem th.base{w0 w1 ad:World}{q:iE}(h:th w1 b o t pre post d q ad)(hs:w0.heap.size<=w1.heap.size):th w0 b o t pre post d q ad:=by
 obtain⟨Bx,e,a,bc⟩:=h;exact⟨Bx,e,a,λi hi=>(bc i hi).imp id λu=>by omega⟩
theorem th.O{w0 w1 ad:World}{q:iE}(h:th w0 b o t pre post d q w1)(hk:U bg w1 ad):th w0 b o t pre post d q ad:=by
 obtain⟨Bx,e,a,bc⟩:=h;exact⟨Bx,e,a.O hk,bc⟩
theorem auH{c:Int}(hY:Y.dZ<=w.heap.size)(h:vR w b o t pre post d)(hq:qS d.q):bI Tryz.prog X.WV #[.pointer (some ⟨b,o,none⟩), .int .u8 c] w (λi=>i=b) (λv w'=>n5 w (mr c d.q).2 v w'/\th w b o t pre post d (mr c d.q).1 w'):=by
 have jG:b<w.heap.size:=h.lp.aF.lt;have iV:At w ⟨b,o,none⟩ 0 [.slice d.p d.bs.length d.c]:=h.lp.at_ 0 rfl (show 0+1<=4 by omega);have again:(d.q.bs≠[]/\(c<d.lo∨d.hi<c))->∀(lK:World) (CI:Nat),cX w [] G.ft [.int .i32 65533] lK CI->∀qO:World,Below lK.heap.size lK qO->dH Tryz.prog X.Ju #[.pointer (some ⟨b,o,none⟩), .int .u8 c] qO (λe2 km=>∃Us:ao,∃CJ are:Nat,e2= .returned (.slice Us CJ are)/\(eC w.heap.size (λi=>i=b) [] qO km/\∃cg:List Value,gy w.heap.size (λi=>i=b) [] km G.ft 1 (some ⟨CI,0,none⟩) 1 1 cg CJ/\∃ey:List Value,(ey.length=CJ*1/\((∀v2:Value,v2∈ey->v2.oneCell'=true)/\((Us=none->CJ=0)/\∀a5:Addr,Us=some a5->At km a5 0 ey)))/\(((1+CJ)*4<=140737488355328)/\∀(ln:World) (IU:ao) (MZ:Nat),gk km [] (some ⟨CI,0,none⟩) 1 1 G.ft 1 (1+CJ) (cg++ey) ln IU MZ->Sy.aa w (λi=>i=b) ln (λv w'=>n5 w (mr c d.q).2 v w'/\th w b o t pre post d (mr c d.q).1 w') (.slice IU (1+CJ) MZ)))):=by
  rintro⟨hne,hc⟩ lK CI hl qO sn;have sJ:=hl.ax rfl;have Io:=sJ.trans (U.au sn);have aCW:=Io.size;have aCV:=sJ.size;have hn:=hl.new;refine(aga (c:=c) (d:=d) M (h.O Io)).aH λv km zD ⟨⟨p,jZ,ah,ho⟩,hm⟩=>?_
  subst ah;have aCX:=zD.size;have zF:bF w.heap.size km G.ft 1 (some ⟨CI,0,none⟩) 1 1 [.int .i32 65533]:=(((hl.own (n:=1) (s:=1) rfl du)).below sn).ax zD λa ha e=>by cases ha;change CI=b at e;omega
  have Sr:(lA c d.q).2.length<=1:=by unfold lA;split;exact cL _;split;exact cL _;exact ef _
  have BJ:mr c d.q=((lA c d.q).1,65533::(lA c d.q).2):=by rw[mr,ag hne,aA (show c<d.q.lo∨d.q.hi<c from hc)]
  have hrow:=ho.row;refine⟨_,_,_,rfl,zD.kept (λi hi _=>hi) (λi _ _ hm=>by cases hm),_,zF.room (λa ha=>by simp) (λh=>by omega),o9 (lA c d.q).2,⟨by simp[o9],λv ah=>?_,λe=>Row.wL hrow e,λa ha=>hrow.eI a ha⟩,by omega,λln IU MZ hg w' hb _=>?_⟩
  ·obtain⟨y,_,rfl⟩:=lr.1 ah
   rfl
  ·rw[BJ]
   have anP:=hg.own (B:=w.heap.size) M λa ha=>by cases ha;show w.heap.size<=CI;omega
   have Sa:U bg km ln:=hg.ax λh=>by omega
   refine⟨⟨IU,MZ,by rw[ko,JN],?_⟩,(hm.base M).O (Sa.trans (U.au hb))⟩;rw[ko,JN];exact anP.below hb
 refine aAA _ c ⟨_,_,_,iV,λe s4 so=>?_,λe=>⟨_,h.lp.at_ 2 rfl (show 2+1<=4 by omega),λe1=>?_,λe1=>⟨_,h.lp.at_ 3 rfl (show 3+1<=4 by omega),λe2=>?_,λe2=>?_⟩⟩⟩
 ·have En:d.bs=[]:=n2 M
  have ao4:=so.size;refine(aga (c:=c) (d:=d) M (h.O (U.au so))).aH λv ky Si ⟨⟨p,jZ,ah,ho⟩,hm⟩=>?_
  subst ah;have BJ:mr c d.q=lA c d.q:=by rw[mr,aA (show d.q.bs=[] from En)]
  refine⟨_,_,_,rfl,Si.kept (λi hi _=>hi) (λi _ _ hm=>by cases hm),λw' hb _=>?_⟩;rw[BJ];exact⟨n5.below (n5.base ⟨p,jZ,rfl,ho⟩ M) hb,(hm.base M).O (U.au hb)⟩
 ·have hne:d.q.bs≠[]:=λe'=>by have Q7:d.bs=[]:=e';rw[Q7] at e;simp at e
  exact again ⟨hne, .inl e1⟩
 ·have hne:d.q.bs≠[]:=λe'=>by have Q7:d.bs=[]:=e';rw[Q7] at e;simp at e
  exact again ⟨hne, .inr e2⟩
 ·have hne:d.bs≠[]:=λe'=>by rw[e'] at e;simp at e
  obtain⟨q1,q2,cz⟩:1<=d.bs.length/\1<=d.cZ/\(d.bs.length:Int)+d.cZ<=4:=hq.resolve_left hne;obtain⟨N,hN⟩:∃N,N=d.bs.length:=⟨_,rfl⟩;rw[<-hN] at q1 cz;have kg:=bF.cap h.row;obtain⟨a,ha⟩:=h.row.row.iP M;have hcut:∀n,cM d.p n 0 1=d.p:=λn=>by
   unfold cM;split
   ·rfl
   ·rw[ha];simp[Addr.add]
  have hro:=h.row.lt a ha;have Hf:∀{j5:Nat},w.heap.size<=j5->cp w.heap.size (λi=>i=b) [j5] b:=λgm=>⟨by simp;omega,λ_=>rfl⟩
  refine⟨_,_,_,iV,_,_,_,iV,_,_,_,iV,⟨by omega,by omega,by omega,by omega⟩,λj5 jc=>⟨eU d.bs,?_,by omega,λw1 l2 o2 hg aCL=>?_⟩⟩
  ·rw[hcut,ha]
   exact gy.abo M (by simp[eU]) ej (h.row.row.eI a ha)
  have a8:U bg w w1:=hg.ax λh=>by omega
  have hs1:=a8.size;have iJ:∀a,l2=some a->w.heap.size<=a.block:=λa5 ca=>by
   rcases hg.j6 a5 ca with⟨_,_,_,u|u⟩|u
   ·omega
   ·omega
   ·exact u
  have aoY:bF w.heap.size w1 G.eY 1 l2 (N+1) o2 (eU (d.bs++[c])):=by
   have e':eU d.bs++[Value.int .u8 c]=eU (d.bs++[c]):=by simp[eU]
   rw[<-e',hN];exact bF.base (B:=0) hg.row iJ
  have ab8:∀a,l2=some a->¬a.block=b:=λa5 ca e'=>by have:=iJ a5 ca;omega
  rw[<-hN];refine⟨⟨(h.lp.O a8).ch (show 0+1<=4 by omega),Hf jc⟩,λad nM=>?_⟩;have v2:=(h.lp.O a8).put nM (show 0+1<=4 by omega);refine⟨⟨v2.ch (show 2+1<=4 by omega),Hf jc⟩,λbw iw=>?_⟩;have v3:=v2.put iw (show 2+1<=4 by omega);refine⟨⟨v3.ch (show 3+1<=4 by omega),Hf jc⟩,λbD sy=>?_⟩;have v4:hT bD b o t pre post [.slice l2 (N+1) o2, .int .i64 d.cZ, .int .u8 128, .int .u8 191]:=v3.put sy (show 3+1<=4 by omega);refine⟨_,v4.at_ 1 rfl (show 1+1<=4 by omega),by unfold ay;omega,⟨v4.ch (show 1+1<=4 by omega),Hf jc⟩,λbP ac1=>?_⟩;have v5:hT bP b o t pre post [.slice l2 (N+1) o2, .int .i64 (d.cZ-1), .int .u8 128, .int .u8 191]:=v4.put ac1 (show 1+1<=4 by omega);have dv:U (λi=>i=b) w1 bP:=(((nM.ax (F:=λi=>i=b) rfl).trans (iw.ax rfl)).trans (sy.ax rfl)).trans (ac1.ax rfl);have Et:=aoY.ax dv ab8;have hs5:=dv.size;refine⟨_,v5.at_ 1 rfl (show 1+1<=4 by omega),λe4 w' hb _=>?_,λe4=>?_⟩
  ·have BJ:mr c d.q=(⟨d.bs++[c],d.cZ-1,128,191⟩,[]):=by
    rw[mr,ag (show d.q.bs≠[] from hne),ag (by show ¬(c<d.lo∨d.hi<c);omega),aA (show 0<d.q.cZ-1 from e4)];rfl
   rw[BJ];refine⟨⟨none,0,rfl,bF.nil _ _ _ _⟩,⟨l2,o2,d.bs++[c],d.cZ-1,128,191⟩,rfl,⟨?_,?_,λ⟨a5,ca,eu⟩=>ab8 a5 ca eu⟩,λi ⟨a5,ca,eu⟩=> .inr (by have:=iJ a5 ca;omega)⟩
   ·have hl:(d.bs++[c]).length=N+1:=by simp[hN]
    show hT _ _ _ _ _ _ [.slice l2 (d.bs++[c]).length o2,_,_,_];rw[hl];exact v5.below hb
   ·have hl:(d.bs++[c]).length=N+1:=by simp[hN]
    show bF _ _ _ _ _ (d.bs++[c]).length _ _;rw[hl];exact(Et.low hY).below hb
  ·have BJ:mr c d.q=(⟨[],d.cZ-1,128,191⟩,[NU (d.bs++[c])]):=by
    rw[mr,ag (show d.q.bs≠[] from hne),ag (by show ¬(c<d.lo∨d.hi<c);omega),ag (show ¬0<d.q.cZ-1 from by show ¬0<d.cZ-1;omega)];rfl
   rw[BJ];obtain⟨x,xs,eF⟩:∃x xs,d.bs++[c]=x::xs:=by
    cases hd:d.bs with
    |nil=>exact absurd hd hne
    |cons x xs=>exact⟨x,xs++[c],rfl⟩
   have vg:xs.length=N:=by
    have:=dx List.length eF;simp at this;omega
   rw[eF] at Et⊢;obtain⟨a2,iu⟩:=Et.row.iP M;refine⟨_,_,_,v5.at_ 0 rfl (show 0+1<=4 by omega),a2,iu,⟨by omega,by omega⟩,x,Row.at_ Et.row iu 0 rfl,_,_,_,v5.at_ 0 rfl (show 0+1<=4 by omega),by unfold ay;omega,by omega,_,_,_,v5.at_ 0 rfl (show 0+1<=4 by omega),⟨by omega,by omega,by have:=bF.cap Et;omega⟩,?_⟩;obtain⟨Nu,rn⟩:∃Nu,Nu=bits .and .i32 (IntKind.wrap .i32 x) (IntKind.wrap .i32 ((yO .i32 1 (7-((N+1:Nat):Int)))-1)):=⟨_,rfl⟩;have ao1:NU (x::xs)=xs.foldl Vj Nu:=by rw[NU,rn,vg]
   have Rm:(((N+1:Nat):Int)-1).toNat=N:=by omega
   refine⟨λr i V=>∃j:Nat,i=j/\j<=N/\r=(xs.take j).foldl Vj Nu/\hT V b o t pre post [.slice l2 (N+1) o2, .int .i64 (d.cZ-1), .int .u8 128, .int .u8 191]/\bF w.heap.size V G.eY 1 l2 (N+1) o2 (eU (x::xs)),λ_ i=>((N:Int)-i).toNat,
    λhC fs=>⟨0,rfl,ef _,by rw[rn];rfl,v5.below fs,Et.below fs⟩,?_⟩
   rintro r i cu dK ⟨j,rfl,hj,rfl,WX,ac9⟩;rw[Rm];refine⟨λhi=>?_,λqn=>⟨⟨WX.ch (show 0+1<=4 by omega),Hf jc⟩,λw7 pC cW aeP acC aCJ w' hb _=>?_⟩⟩
   ·obtain⟨px,RO⟩:=bF.tail ac9 (j:=1) M M
    obtain⟨a3,nd⟩:∃a3,cM l2 o2 1 1=some a3:=by
     cases hc:cM l2 o2 1 1 with
     |some a3=>exact⟨a3,rfl⟩
     |none=>have:=px hc;omega
    obtain⟨y,hy⟩:∃y,xs[j]? =some y:=⟨_,el M⟩;have dB:At cu a3 (j*1) [.int .u8 y]:=by
     have h2:=(RO a3 nd).sub (j*1) (cj:=[.int .u8 y]) (by
      show _=((eU xs).drop (j*1)).take 1;rw[oC,mw (by simp[eU];omega)];have:xs[j]=y:=by rw[el M] at hy;exact h9 hy
      simp[eU,this])
     rwa[iR] at h2
    refine⟨a3,nd,⟨by omega,by omega⟩,y,by rw[jN];exact dB,by omega,by unfold ay;omega,λgn iY=>⟨⟨j+1,by omega,by omega,?_,WX.below iY,ac9.below iY⟩,by dsimp only;omega⟩⟩;rw[ny,hy,xf];rfl
   ·obtain rfl:j=N:=by omega
    have v7:hT w7 b o t pre post [.slice none 0 0, .int .i64 (d.cZ-1), .int .u8 128, .int .u8 191]:=WX.put pC (show 0+1<=4 by omega);have Ev:=dK.size;have hs7:=pC.size;refine⟨?_,⟨none,0,[],d.cZ-1,128,191⟩,rfl,⟨(v7.O (acC.ax rfl)).below hb,bF.nil _ _ _ _,λ⟨a5,ca,_⟩=>by cases ca⟩,λi ⟨a5,ca,_⟩=>by cases ca⟩;have:=n5.lit (w0:=w) M acC hb;rw[jh M,<-ao1] at this;exact this
end
def si(a:iE×List Int)(c:Int):iE×List Int:=((mr c a.1).1,a.2++(mr c a.1).2)
def gz(bs:List Int)(q:iE):iE×List Int:=bs.foldl si (q,[])
theorem al8(bs:List Int)(c:Int)(q:iE):gz (bs++[c]) q=si (gz bs q) c:=by simp[gz,xf]
theorem ahd(c:Int)(q:iE):(mr c q).2.length<=2:=by
 have hb:(lA c q).2.length<=1:=by unfold lA;split;exact cL _;split;exact cL _;exact ef _
 unfold mr;split
 ·omega
 ·split
  ·simp;omega
  ·split<;>simp
theorem Rp{bs:List Int}{q:iE}{j:Nat}{c:Int}(h:bs[j]? =some c):gz (bs.take (j+1)) q=si (gz (bs.take j) q) c:=by
 rw[ny,h];exact al8 _ _ _
theorem aba:∀(bs:List Int) (a:iE×List Int),qS a.1->qS (bs.foldl si a).1/\(bs.foldl si a).2.length<=a.2.length+2*bs.length
 |[],a,h=>⟨h,cL _⟩
 |c::bs,a,h=>by
  obtain⟨h1,h2⟩:=aba bs (si a c) (awh h);refine⟨h1,?_⟩;have aw:=ahd c a.1;have aZ:(si a c).2.length=a.2.length+(mr c a.1).2.length:=gh;simp only[XZ,ko];omega
theorem Lk{q:iE}(h:qS q)(bs:List Int):qS (gz bs q).1/\(gz bs q).2.length<=2*bs.length:=by
 obtain⟨h1,h2⟩:=aba bs (q,[]) h;exact⟨h1,ek h2 aS⟩
section
variable{w w':World}{b o:Nat}{t:TypeId}{pre post:List Value}{d:mz}
theorem auG{p:ao}{n c:Nat}{bs:List Int}(hY:Y.dZ<=w.heap.size)(h:vR w b o t pre post d)(hq:qS d.q)(hr:Row w p n 1 (eU bs))(hl:bs.length=n)(hn:n<=1048576)(fV:∀a,p=some a->a.block≠b):
  bI Tryz.prog X.WU #[.pointer (some ⟨b,o,none⟩), .slice p n c] w (λi=>i=b) (λv w'=>n5 w (gz bs d.q).2 v w'/\th w b o t pre post d (gz bs d.q).1 w'):=by
 have jG:b<w.heap.size:=h.lp.aF.lt
 refine aAz _ p n c ⟨λq m e i V=>∃j:Nat,i=j/\j<=n/\m=(gz (bs.take j) d.q).2.length/\bF w.heap.size V G.ft 1 q m e (o9 (gz (bs.take j) d.q).2)/\∃d1:mz,d1.q=(gz (bs.take j) d.q).1/\vR V b o t pre post d1/\∀i,dk d1.p i->(dk d.p i∨w.heap.size<=i)/\¬dk q i,λ_ _ _ i=>((n:Int)-i).toNat,
  λw7 c8=>⟨0,rfl,ef _,rfl,bF.nil _ _ _ _,d,rfl,h.O (U.au c8),λi hi=>⟨.inl hi,λ⟨a,ha,_⟩=>by cases ha⟩⟩,?_⟩
 rintro q m e i w1 hk1 ⟨j,rfl,hj,rfl,ho,d1,hd1,LO,Ea⟩;have hs1:=hk1.size;refine⟨λhi=>?_,λqn w' hb _=>?_⟩
 ·obtain⟨a,ha⟩:=hr.iP M
  obtain⟨y,hy⟩:∃y,bs[j]? =some y:=⟨_,el M⟩;have rq:Row w1 p n 1 (eU bs):=hr.ax hk1 fV
  have dB:At w1 a (j*1) [.int .u8 y]:=Row.at_ rq ha _ (cj:=[.int .u8 y]) (by
   show _=((eU bs).drop (j*1)).take 1;rw[oC,mw (by simp[eU];omega)];have:bs[j]=y:=by rw[el M] at hy;exact h9 hy
   simp[eU,this])
  refine⟨a,ha,⟨by omega,by omega⟩,y,by rw[jN];exact dB,λbw bp=>?_⟩;have tO:=bp.size;obtain⟨fc,hlen⟩:=Lk hq (bs.take j);rw[kC] at hlen;refine(auH (c:=y) (d:=d1) M (LO.O (U.au bp)) (by rw[hd1];exact fc)).aH λv bD bO ⟨⟨cA,c2,ah,acP⟩,j2,Ht,LP,R2⟩=>?_
  subst ah;rw[hd1] at acP Ht⊢;have pD:=bO.size;have hsl:=ahd y (gz (bs.take j) d.q).1;have Cd:=(ho.below bp).ax bO λb6 fP e'=>by have:=(ho.lt b6 fP).2.1;omega
  have ac8:=acP.row;refine⟨_,_,_,rfl,bO.kept (λi hi _=>hi) (λi _ _ hm=>by cases hm),_,Cd.room (λb6 fP=>by simp) (λ_ b6 fP kP=>by have:=(Cd.lt b6 fP).2.1;omega),o9 (mr y (gz (bs.take j) d.q).1).2,⟨by simp[o9],λu hu=>?_,λe'=>Row.wL ac8 e',λb6 fP=>ac8.eI b6 fP⟩,by omega,λbP fG fv hg=>⟨by unfold ay;omega,λcu ep=>⟨⟨j+1,by omega,by omega,?_,?_,?_⟩,by dsimp only;omega⟩⟩⟩
  ·obtain⟨z,_,rfl⟩:=lr.1 hu
   rfl
  ·rw[Rp hy]
   exact gh.symm
  ·rw[Rp hy]
   show bF _ _ _ _ _ _ _ (o9 (_++_));rw[o9,l9];exact(hg.own M λb6 fP=>(Cd.lt b6 fP).2.1).below ep
  ·rw[Rp hy]
   have eH:U (dk q) bD bP:=hg.ax λ_ b6 fP=>⟨b6,fP,rfl⟩
   refine⟨j2,Ht,⟨(LP.lp.ax eH λ⟨b6,fP,e'⟩=>by have:=(Cd.lt b6 fP).2.1;omega).below ep,(LP.row.ax eH λb6 fP ⟨a2,iu,e2⟩=>?_).below ep,LP.off⟩,λi hi=>?_⟩
   ·have gm:=(ho.lt a2 iu).1
    rcases R2 _ ⟨b6,fP,rfl⟩ with u|u
    ·exact(Ea _ u).2 ⟨a2,iu,e2⟩
    ·omega
   ·have aCf:i<bD.heap.size:=by obtain⟨b6,fP,rfl⟩:=hi;exact(LP.row.lt b6 fP).1
    have acO:¬dk q i:=λ⟨a2,iu,e2⟩=>by
     have gm:=(ho.lt a2 iu).1;rcases R2 i hi with u|u
     ·exact(Ea i u).2 ⟨a2,iu,e2⟩
     ·omega
    refine⟨?_,λ⟨a2,iu,e2⟩=>?_⟩
    ·rcases R2 i hi with u|u
     ·exact(Ea i u).1
     ·exact .inr M
    ·rcases hg.j6 a2 iu with⟨b2,h1,h2,_⟩|u
     ·exact acO ⟨b2,h1,by omega⟩
     ·omega
 ·obtain rfl:j=n:=by omega
  rw[jh M] at ho hd1⊢;exact⟨⟨q,e,rfl,ho.below hb⟩,d1,hd1,LO.O (U.au hb),λi hi=>(Ea i hi).1⟩
end
end Go.Proofs.YtimbpmnbbfeogaaGreatDoor
