/- A part of the proof of EvictCounts. -/
import Derived.Test.YtjhhiindeignaaaGreatDoorGD
import Derived.Lib.ItoaLen
import Derived.Lib.AppendIntMem
set_option linter.unusedVariables false
set_option linter.unusedSimpArgs false
set_option linter.unusedSectionVars false
namespace Go.Rep
open Go Go.Sy
structure De where
 (p:Option Addr) (c:Nat) (bs:List Int) (more lo hi:Int)
structure Dq where
 (bs:List Int) (more lo hi:Int)
def De.q (d:De):Dq:=⟨d.bs,d.more,d.lo,d.hi⟩
def De.cells (d:De):List Value:=[.slice d.p d.bs.length d.c, .int .i64 d.more, .int .u8 d.lo, .int .u8 d.hi]
end Go.Rep
namespace Go.Proofs.YtjhhiindeignaaaGreatDoor
open Go Go.RowKit Go.Sy Go.Rep
set_option maxRecDepth 100000
set_option maxHeartbeats 2000000
def bvals (bs:List Int):List Value:=bs.map fun x=> .int .u8 x
def rvals (bs:List Int):List Value:=bs.map fun x=> .int .i32 x
structure DeAt (w:World) (b o:Nat) (t:TypeId) (pre post:List Value) (d:De):Prop where
 win:Win w b o t pre post d.cells
 row:Own Y.count w T.uint8 1 d.p d.bs.length d.c (bvals d.bs)
 off:¬PF d.p b
def NewRs (w0:World) (l:List Int) (v:Value) (w:World):Prop:=∃p c,v= .slice p l.length c∧Own w0.heap.size w T.int32 1 p l.length c (rvals l)
def moreOf (c:Int):Int:=if 194≤c∧c≤223 then 1 else if 224≤c∧c≤239 then 2 else if 240≤c∧c≤244 then 3 else 0
def loOf (c:Int):Int:=if c=224 then 160 else if c=240 then 144 else 128
def hiOf (c:Int):Int:=if c=237 then 159 else if c=244 then 143 else 191
def beginQ (c:Int) (q:Dq):Dq×List Int:=
 if c<128 then(⟨[],q.more,128,191⟩,[IntKind.wrap .i32 c]) else if moreOf c=0 then(⟨[],q.more,128,191⟩,[65533]) else(⟨[c],moreOf c,loOf c,hiOf c⟩,[])
section
variable {w w':World} {b o:Nat} {t:TypeId} {pre post:List Value} {d:De}
theorem DeAt.nix (h:DeAt w b o t pre post d) (hk:Keeps Nix w w'):DeAt w' b o t pre post d:=⟨h.win.nix hk,h.row.nix hk,h.off⟩
def ModD (w0:World) (b o:Nat) (t:TypeId) (pre post:List Value) (d:De) (q:Dq) (w:World):Prop:=∃d':De,d'.q=q∧DeAt w b o t pre post d'∧∀i,PF d'.p i→PF d.p i∨w0.heap.size≤i
theorem NewRs.lit {w0 w1 w2:World} {x:Int} {n:Nat} (hk:w0.heap.size≤w1.heap.size) (hl:Litr w1 [] T.int32 [.int .i32 x] w2 n) {w3:World} (hb:Below w2.heap.size w2 w3):NewRs w0 [x] (.slice (some ⟨n,0,none⟩) 1 1) w3:=
 ⟨_,_,rfl,((hl.own (n:=1) (s:=1) rfl (by decide)).base fun a ha=>by cases ha;have:=hl.new;show _≤n;omega).below hb⟩
theorem r_utf_begin {c:Int} (hY:Y.count≤w.heap.size) (h:DeAt w b o t pre post d):Gets Tryz.prog X.utf_Decoder_begin #[.pointer (some ⟨b,o,none⟩), .int .u8 c] w (fun i=>i=b) (fun v w'=>NewRs w (beginQ c d.q).2 v w'∧ModD w b o t pre post d (beginQ c d.q).1 w'):=by
 have hbl:b<w.heap.size:=h.win.blk.lt
 have hA:Away w.heap.size (fun i=>i=b) [] b:=⟨by simp,fun _=>rfl⟩
 refine v_utf_Decoder_begin _ c ⟨⟨h.win.can (show 0+1≤4 by omega),hA⟩,fun w1 hp1=>?_⟩
 have h1:=h.win.put hp1 (show 0+1≤4 by omega)
 refine⟨⟨h1.can (show 2+1≤4 by omega),hA⟩,fun w2 hp2=>?_⟩
 have h2:=h1.put hp2 (show 2+1≤4 by omega)
 refine⟨⟨h2.can (show 3+1≤4 by omega),hA⟩,fun w3 hp3=>?_⟩
 have h3:Win w3 b o t pre post [.slice none 0 0, .int .i64 d.more, .int .u8 128, .int .u8 191]:=h2.put hp3 (show 3+1≤4 by omega)
 have k3:Keeps (fun i=>i=b) w w3:=((hp1.keeps (F:=fun i=>i=b) rfl).trans (hp2.keeps rfl)).trans (hp3.keeps rfl)
 have hs3:=k3.size
 have once:∀{x:Int} {w4 w5:World} {n:Nat},Litr w3 [] T.int32 [.int .i32 x] w4 n→Below w4.heap.size w4 w5→beginQ c d.q=(⟨[],d.more,128,191⟩,[x])→NewRs w (beginQ c d.q).2 (.slice (some ⟨n,0,none⟩) 1 1) w5∧ModD w b o t pre post d (beginQ c d.q).1 w5:=by
  intro x w4 w5 n hl hb e
  rw[e]
  exact⟨NewRs.lit hs3 hl hb,⟨none,0,[],d.more,128,191⟩,rfl,⟨(h3.nix (hl.keeps rfl)).below hb,Own.nil _ _ _ _,fun⟨a,ha,_⟩=>by cases ha⟩,fun i ⟨a,ha,_⟩=>by cases ha⟩
 have bad:∀{w4:World} {n:Nat},¬c<128→moreOf c=0→Litr w3 [] T.int32 [.int .i32 65533] w4 n→Sy.Fin w (fun i=>i=b) w4 (fun v w'=>NewRs w (beginQ c d.q).2 v w'∧ModD w b o t pre post d (beginQ c d.q).1 w') (.slice (some ⟨n,0,none⟩) 1 1):=fun h0 hm hl w' hb _=>once hl hb (by rw[beginQ,if_neg h0,if_pos hm];rfl)
 have good:∀{m:Int} {w4 w5:World},moreOf c=m→m≠0→Put w3 [] ⟨b,o,none⟩ 1 [.int .i64 m] w4→Below w4.heap.size w4 w5→Keeps (fun i=>i=b) w w5∧moreOf c≠0∧Win w5 b o t pre post [.slice none 0 0, .int .i64 (moreOf c), .int .u8 128, .int .u8 191]:=by
  intro m w4 w5 e1 e2 hp hb
  refine⟨(k3.trans (hp.keeps rfl)).trans ((Keeps.of_below hb).mono fun _ e=>e.elim),by omega,?_⟩
  rw[e1]
  exact Win.below (h3.put hp (show 1+1≤4 by omega)) hb
 have hcan1:CanPut w3 ⟨b,o,none⟩ 1 1∧Away w.heap.size (fun i=>i=b) [] b:=⟨h3.can (show 1+1≤4 by omega),hA⟩
 refine⟨fun V=>Keeps (fun i=>i=b) w V∧(128≤c∧moreOf c≠0)∧Win V b o t pre post [.slice none 0 0, .int .i64 (moreOf c), .int .u8 128, .int .u8 191],⟨fun e w4 n hl w' hb _=>once hl hb (by rw[beginQ,if_pos e];rfl),fun e=>?_⟩,?_⟩
 ·have m1:∀m:Int,(if 194≤c∧c≤223 then(1:Int) else if 224≤c∧c≤239 then 2 else if 240≤c∧c≤244 then 3 else 0)=m→moreOf c=m:=fun m e=>e
  have fin:∀{m:Int} {w4 w5:World},moreOf c=m→m≠0→Put w3 [] ⟨b,o,none⟩ 1 [.int .i64 m] w4→Below w4.heap.size w4 w5→Keeps (fun i=>i=b) w w5∧(128≤c∧moreOf c≠0)∧Win w5 b o t pre post [.slice none 0 0, .int .i64 (moreOf c), .int .u8 128, .int .u8 191]:=fun e1 e2 hp hb=>let⟨a1,a2,a3⟩:=good e1 e2 hp hb;⟨a1,⟨by omega,a2⟩,a3⟩
  refine⟨fun e1=>⟨fun e2=>⟨hcan1,fun w4 hp w5 hb=>fin (m1 _ (if_pos ⟨e1,e2⟩)) (by decide) hp hb⟩,fun e2=>⟨fun e3=>⟨fun e4=>⟨hcan1,fun w4 hp w5 hb=>fin (m1 _ (by rw[if_neg (by omega),if_pos ⟨e3,e4⟩])) (by decide) hp hb⟩,fun e4=>⟨fun e5=>⟨fun e6=>⟨hcan1,fun w4 hp w5 hb=>fin (m1 _ (by rw[if_neg (by omega),if_neg (by omega),if_pos ⟨e5,e6⟩])) (by decide) hp hb⟩,fun e6 w4 n hl=>bad (by omega) (m1 _ (by rw[if_neg (by omega),if_neg (by omega),if_neg (by omega)])) hl⟩,fun e5 w4 n hl=>bad (by omega) (m1 _ (by rw[if_neg (by omega),if_neg (by omega),if_neg (by omega)])) hl⟩⟩,fun e3=>⟨fun e5=>⟨fun e6=>by omega,fun e6=>by omega⟩,fun e5=>by omega⟩⟩⟩,fun e1=>⟨fun e3=>⟨fun e4=>by omega,fun e4=>⟨fun e5=>by omega,fun e5=>by omega⟩⟩,fun e3=>⟨fun e5=>by omega,fun e5 w4 n hl=>bad (by omega) (m1 _ (by rw[if_neg (by omega),if_neg (by omega),if_neg (by omega)])) hl⟩⟩⟩
 ·rintro w4 hk4 ⟨kI,⟨h128,hm⟩,hw4⟩
  have step2:∀{x:Int} {w5 w6:World},loOf c=x→hiOf c=191→Put w4 [] ⟨b,o,none⟩ 2 [.int .u8 x] w5→Below w5.heap.size w5 w6→Keeps (fun i=>i=b) w w6∧Win w6 b o t pre post [.slice none 0 0, .int .i64 (moreOf c), .int .u8 (loOf c), .int .u8 (hiOf c)]:=by
   intro x w5 w6 e1 e2 hp hb
   rw[e1,e2]
   exact⟨(kI.trans (hp.keeps rfl)).trans ((Keeps.of_below hb).mono fun _ e=>e.elim),Win.below (hw4.put hp (show 2+1≤4 by omega)) hb⟩
  have step3:∀{x:Int} {w5 w6:World},loOf c=128→hiOf c=x→Put w4 [] ⟨b,o,none⟩ 3 [.int .u8 x] w5→Below w5.heap.size w5 w6→Keeps (fun i=>i=b) w w6∧Win w6 b o t pre post [.slice none 0 0, .int .i64 (moreOf c), .int .u8 (loOf c), .int .u8 (hiOf c)]:=by
   intro x w5 w6 e1 e2 hp hb
   rw[e1,e2]
   exact⟨(kI.trans (hp.keeps rfl)).trans ((Keeps.of_below hb).mono fun _ e=>e.elim),Win.below (hw4.put hp (show 3+1≤4 by omega)) hb⟩
  have c2:CanPut w4 ⟨b,o,none⟩ 2 1∧Away w.heap.size (fun i=>i=b) [] b:=⟨hw4.can (show 2+1≤4 by omega),hA⟩
  have c3:CanPut w4 ⟨b,o,none⟩ 3 1∧Away w.heap.size (fun i=>i=b) [] b:=⟨hw4.can (show 3+1≤4 by omega),hA⟩
  refine⟨fun V=>Keeps (fun i=>i=b) w V∧Win V b o t pre post [.slice none 0 0, .int .i64 (moreOf c), .int .u8 (loOf c), .int .u8 (hiOf c)],
   ⟨fun e=>⟨c2,fun w5 hp w6 hb=>step2 (by rw[loOf,if_pos e]) (by rw[hiOf,if_neg (by omega),if_neg (by omega)]) hp hb⟩,fun e1=>⟨fun e=>⟨c3,fun w5 hp w6 hb=>step3 (by rw[loOf,if_neg (by omega),if_neg (by omega)]) (by rw[hiOf,if_pos e]) hp hb⟩,fun e2=>⟨fun e=>⟨c2,fun w5 hp w6 hb=>step2 (by rw[loOf,if_neg (by omega),if_pos e]) (by rw[hiOf,if_neg (by omega),if_neg (by omega)]) hp hb⟩,fun e3=>⟨fun e=>⟨c3,fun w5 hp w6 hb=>step3 (by rw[loOf,if_neg (by omega),if_neg (by omega)]) (by rw[hiOf,if_neg (by omega),if_pos e]) hp hb⟩,fun e4 w9 hb=>⟨kI.trans ((Keeps.of_below hb).mono fun _ e=>e.elim),by
    rw[loOf,if_neg e1,if_neg e3,hiOf,if_neg e2,if_neg e4]
    exact hw4.below hb⟩⟩⟩⟩⟩,?_⟩
  rintro w5 hk5 ⟨kJ,hw5⟩ w6 n1 hl
  have hw6:=hw5.nix (hl.keeps rfl)
  refine⟨⟨hw6.can (show 0+1≤4 by omega),hA⟩,fun w7 hp7 w' hb _=>?_⟩
  have e:beginQ c d.q=(⟨[c],moreOf c,loOf c,hiOf c⟩,[]):=by rw[beginQ,if_neg (by omega),if_neg hm]
  rw[e]
  have hnew:=hl.new
  have hs5:=kJ.size
  have hr6:=hl.own (n:=1) (s:=1) rfl (by decide)
  refine⟨⟨none,0,rfl,Own.nil _ _ _ _⟩,⟨some ⟨n1,0,none⟩,1,[c],moreOf c,loOf c,hiOf c⟩,rfl,⟨Win.below (hw6.put hp7 (show 0+1≤4 by omega)) hb,?_,fun⟨a,ha,e⟩=>?_⟩,fun i ⟨a,ha,e⟩=>?_⟩
  ·exact((hr6.base fun a ha=>by cases ha;show Y.count≤n1;omega).keeps (F:=fun i=>i=b) (hp7.keeps rfl) fun a ha e=>by cases ha;change n1=b at e;omega).below hb
  ·cases ha;change n1=b at e;omega
  ·cases ha;change n1=i at e;exact .inr (by omega)
end
end Go.Proofs.YtjhhiindeignaaaGreatDoor
namespace Go.Proofs.YtjhhiindeignaaaGreatDoor
open Go Go.RowKit Go.Sy Go.Rep
set_option maxRecDepth 100000
set_option maxHeartbeats 2000000
def runeStep (r y:Int):Int:=bits .or .i32 (shlI .i32 r 6) (IntKind.wrap .i32 (bits .and .u8 y 63))
def runeOf:List Int→Int
 |[]=>0
 |x::xs=>xs.foldl runeStep (bits .and .i32 (IntKind.wrap .i32 x) (IntKind.wrap .i32 ((shlI .i32 1 (7-((xs.length+1:Nat):Int)))-1)))
def stepQ (c:Int) (q:Dq):Dq×List Int:=
 if q.bs=[] then beginQ c q
 else if c<q.lo∨q.hi<c then((beginQ c q).1,65533::(beginQ c q).2)
 else if 0<q.more-1 then(⟨q.bs++[c],q.more-1,128,191⟩,[]) else(⟨[],q.more-1,128,191⟩,[runeOf (q.bs++[c])])
def DqOk (q:Dq):Prop:=q.bs=[]∨(1≤q.bs.length∧1≤q.more∧(q.bs.length:Int)+q.more≤4)
theorem moreOf_bound (c:Int):0≤moreOf c∧moreOf c≤3:=by
 unfold moreOf
 split
 ·omega
 ·split
  ·omega
  ·split<;>omega
theorem beginQ_ok (c:Int) (q:Dq):DqOk (beginQ c q).1:=by
 unfold beginQ
 split
 ·exact .inl rfl
 ·split
  ·exact .inl rfl
  ·rename_i h
   have:=moreOf_bound c
   exact .inr ⟨Nat.le_refl _,by show 1≤moreOf c;omega,by show((1:Nat):Int)+moreOf c≤4;omega⟩
theorem stepQ_ok {c:Int} {q:Dq} (h:DqOk q):DqOk (stepQ c q).1:=by
 unfold stepQ
 split
 ·exact beginQ_ok c q
 ·rename_i hne
  split
  ·exact beginQ_ok c q
  ·split
   ·rename_i hm
    rcases h with h|⟨h1,h2,h3⟩
    ·exact absurd h hne
    ·exact .inr ⟨by show 1≤(q.bs++[c]).length;simp,by show 1≤q.more-1;omega,by show((q.bs++[c]).length:Int)+(q.more-1)≤4;simp<;>omega⟩
   ·exact .inl rfl
section
variable {w w':World} {b o:Nat} {t:TypeId} {pre post:List Value} {d:De}
theorem NewRs.base {w0 w1 w2:World} {l:List Int} {v:Value} (h:NewRs w1 l v w2) (hs:w0.heap.size≤w1.heap.size):NewRs w0 l v w2:=by
 obtain⟨p,c,e,ho⟩:=h
 exact⟨p,c,e,ho.low hs⟩
theorem NewRs.below {w0 w1 w2:World} {l:List Int} {v:Value} (h:NewRs w0 l v w1) (hb:Below w1.heap.size w1 w2):NewRs w0 l v w2:=by
 obtain⟨p,c,e,ho⟩:=h
 exact⟨p,c,e,ho.below hb⟩
theorem ModD.base {w0 w1 w2:World} {q:Dq} (h:ModD w1 b o t pre post d q w2) (hs:w0.heap.size≤w1.heap.size):ModD w0 b o t pre post d q w2:=by
 obtain⟨d',e,a,hF⟩:=h
 exact⟨d',e,a,fun i hi=>(hF i hi).imp id fun u=>by omega⟩
theorem ModD.nix {w0 w1 w2:World} {q:Dq} (h:ModD w0 b o t pre post d q w1) (hk:Keeps Nix w1 w2):ModD w0 b o t pre post d q w2:=by
 obtain⟨d',e,a,hF⟩:=h
 exact⟨d',e,a.nix hk,hF⟩
theorem r_utf_Step {c:Int} (hY:Y.count≤w.heap.size) (h:DeAt w b o t pre post d) (hq:DqOk d.q):Gets Tryz.prog X.utf_Decoder_Step #[.pointer (some ⟨b,o,none⟩), .int .u8 c] w (fun i=>i=b) (fun v w'=>NewRs w (stepQ c d.q).2 v w'∧ModD w b o t pre post d (stepQ c d.q).1 w'):=by
 have hbl:b<w.heap.size:=h.win.blk.lt
 have at0:At w ⟨b,o,none⟩ 0 [.slice d.p d.bs.length d.c]:=h.win.at_ 0 rfl (show 0+1≤4 by omega)
 have again:(d.q.bs≠[]∧(c<d.lo∨d.hi<c))→∀(w18:World) (n22:Nat),Litr w [] T.int32 [.int .i32 65533] w18 n22→∀w19:World,Below w18.heap.size w18 w19→Runs Tryz.prog X.utf_Decoder_begin #[.pointer (some ⟨b,o,none⟩), .int .u8 c] w19 (fun e2 w20=>∃p11:Option Addr,∃n23 n24:Nat,e2= .returned (.slice p11 n23 n24)∧(Kept w.heap.size (fun i=>i=b) [] w19 w20∧∃s4:List Value,Room w.heap.size (fun i=>i=b) [] w20 T.int32 1 (some ⟨n22,0,none⟩) 1 1 s4 n23∧∃s5:List Value,(s5.length=n23*1∧((∀v2:Value,v2∈s5→v2.oneCell'=true)∧((p11=none→n23=0)∧∀a5:Addr,p11=some a5→At w20 a5 0 s5)))∧(((1+n23)*4≤140737488355328)∧∀(w21:World) (p12:Option Addr) (n25:Nat),Grown w20 [] (some ⟨n22,0,none⟩) 1 1 T.int32 1 (1+n23) (s4++s5) w21 p12 n25→Sy.Fin w (fun i=>i=b) w21 (fun v w'=>NewRs w (stepQ c d.q).2 v w'∧ModD w b o t pre post d (stepQ c d.q).1 w') (.slice p12 (1+n23) n25)))):=by
  rintro⟨hne,hc⟩ w18 n22 hl w19 hb19
  have k18:=hl.keeps rfl
  have k19:=k18.trans (Keeps.of_below hb19)
  have hs19:=k19.size
  have hs18:=k18.size
  have hn:=hl.new
  refine(r_utf_begin (c:=c) (d:=d) (by omega) (h.nix k19)).runs fun v w20 hk20 ⟨⟨p,cc,hv,ho⟩,hm⟩=>?_
  subst hv
  have hs20:=hk20.size
  have hlit:Own w.heap.size w20 T.int32 1 (some ⟨n22,0,none⟩) 1 1 [.int .i32 65533]:=(((hl.own (n:=1) (s:=1) rfl (by decide))).below hb19).keeps hk20 fun a ha e=>by cases ha;change n22=b at e;omega
  have hlen2:(beginQ c d.q).2.length≤1:=by unfold beginQ;split;exact Nat.le_refl _;split;exact Nat.le_refl _;exact Nat.zero_le _
  have est:stepQ c d.q=((beginQ c d.q).1,65533::(beginQ c d.q).2):=by rw[stepQ,if_neg hne,if_pos (show c<d.q.lo∨d.q.hi<c from hc)]
  have hrow:=ho.row
  refine⟨_,_,_,rfl,hk20.kept (fun i hi _=>hi) (fun i _ _ hm=>by cases hm),_,hlit.room (fun a ha=>by simp) (fun h=>by omega),rvals (beginQ c d.q).2,⟨by simp[rvals],fun v hv=>?_,fun e=>Row.none0 hrow e,fun a ha=>hrow.lies a ha⟩,by omega,fun w21 p12 n25 hg w' hb _=>?_⟩
  ·obtain⟨y,_,rfl⟩:=List.mem_map.1 hv
   rfl
  ·rw[est]
   have hgo:=hg.own (B:=w.heap.size) (by omega) fun a ha=>by cases ha;show w.heap.size≤n22;omega
   have hgk:Keeps Nix w20 w21:=hg.keeps fun h=>by omega
   refine⟨⟨p12,n25,by rw[List.length_cons,Nat.add_comm],?_⟩,(hm.base (by omega)).nix (hgk.trans (Keeps.of_below hb))⟩
   rw[List.length_cons,Nat.add_comm]
   exact hgo.below hb
 refine v_utf_Decoder_Step _ c ⟨_,_,_,at0,fun e w23 hb23=>?_,fun e=>⟨_,h.win.at_ 2 rfl (show 2+1≤4 by omega),fun e1=>?_,fun e1=>⟨_,h.win.at_ 3 rfl (show 3+1≤4 by omega),fun e2=>?_,fun e2=>?_⟩⟩⟩
 ·have hnil:d.bs=[]:=List.eq_nil_of_length_eq_zero (by omega)
  have hs23:=hb23.size
  refine(r_utf_begin (c:=c) (d:=d) (by omega) (h.nix (Keeps.of_below hb23))).runs fun v w24 hk24 ⟨⟨p,cc,hv,ho⟩,hm⟩=>?_
  subst hv
  have est:stepQ c d.q=beginQ c d.q:=by rw[stepQ,if_pos (show d.q.bs=[] from hnil)]
  refine⟨_,_,_,rfl,hk24.kept (fun i hi _=>hi) (fun i _ _ hm=>by cases hm),fun w' hb _=>?_⟩
  rw[est]
  exact⟨NewRs.below (NewRs.base ⟨p,cc,rfl,ho⟩ (by omega)) hb,(hm.base (by omega)).nix (Keeps.of_below hb)⟩
 ·have hne:d.q.bs≠[]:=fun e'=>by have e'':d.bs=[]:=e';rw[e''] at e;simp at e
  exact again ⟨hne, .inl e1⟩
 ·have hne:d.q.bs≠[]:=fun e'=>by have e'':d.bs=[]:=e';rw[e''] at e;simp at e
  exact again ⟨hne, .inr e2⟩
 ·have hne:d.bs≠[]:=fun e'=>by rw[e'] at e;simp at e
  obtain⟨q1,q2,q3⟩:1≤d.bs.length∧1≤d.more∧(d.bs.length:Int)+d.more≤4:=hq.resolve_left hne
  obtain⟨N,hN⟩:∃N,N=d.bs.length:=⟨_,rfl⟩
  rw[←hN] at q1 q3
  have hcap:=Own.cap h.row
  obtain⟨a,ha⟩:=h.row.row.some_ (by omega)
  have hcut:∀n,cutP d.p n 0 1=d.p:=fun n=>by
   unfold cutP
   split
   ·rfl
   ·rw[ha];simp[Addr.add]
  have hro:=h.row.lt a ha
  have hA9:∀{n9:Nat},w.heap.size≤n9→Away w.heap.size (fun i=>i=b) [n9] b:=fun h9=>⟨by simp<;>omega,fun _=>rfl⟩
  refine⟨_,_,_,at0,_,_,_,at0,_,_,_,at0,⟨by omega,by omega,by omega,by omega⟩,fun n9 hn9=>⟨bvals d.bs,?_,by omega,fun w1 p5 n10 hg hoff9=>?_⟩⟩
  ·rw[hcut,ha]
   exact Room.full (by omega) (by simp[bvals]) (by simp<;>omega) (h.row.row.lies a ha)
  have k1:Keeps Nix w w1:=hg.keeps fun h=>by omega
  have hs1:=k1.size
  have hp5:∀a,p5=some a→w.heap.size≤a.block:=fun a5 h5=>by
   rcases hg.place a5 h5 with⟨_,_,_,u|u⟩|u
   ·omega
   ·omega
   ·exact u
  have hrow1:Own w.heap.size w1 T.uint8 1 p5 (N+1) n10 (bvals (d.bs++[c])):=by
   have e':bvals d.bs++[Value.int .u8 c]=bvals (d.bs++[c]):=by simp[bvals]
   rw[←e',hN]
   exact Own.base (B:=0) hg.row hp5
  have hbp:∀a,p5=some a→¬a.block=b:=fun a5 h5 e'=>by have:=hp5 a5 h5;omega
  rw[←hN]
  refine⟨⟨(h.win.nix k1).can (show 0+1≤4 by omega),hA9 hn9⟩,fun w2 hp2=>?_⟩
  have v2:=(h.win.nix k1).put hp2 (show 0+1≤4 by omega)
  refine⟨⟨v2.can (show 2+1≤4 by omega),hA9 hn9⟩,fun w3 hp3=>?_⟩
  have v3:=v2.put hp3 (show 2+1≤4 by omega)
  refine⟨⟨v3.can (show 3+1≤4 by omega),hA9 hn9⟩,fun w4 hp4=>?_⟩
  have v4:Win w4 b o t pre post [.slice p5 (N+1) n10, .int .i64 d.more, .int .u8 128, .int .u8 191]:=v3.put hp4 (show 3+1≤4 by omega)
  refine⟨_,v4.at_ 1 rfl (show 1+1≤4 by omega),by unfold I64;omega,⟨v4.can (show 1+1≤4 by omega),hA9 hn9⟩,fun w5 hp5'=>?_⟩
  have v5:Win w5 b o t pre post [.slice p5 (N+1) n10, .int .i64 (d.more-1), .int .u8 128, .int .u8 191]:=v4.put hp5' (show 1+1≤4 by omega)
  have kb:Keeps (fun i=>i=b) w1 w5:=(((hp2.keeps (F:=fun i=>i=b) rfl).trans (hp3.keeps rfl)).trans (hp4.keeps rfl)).trans (hp5'.keeps rfl)
  have hrow5:=hrow1.keeps kb hbp
  have hs5:=kb.size
  refine⟨_,v5.at_ 1 rfl (show 1+1≤4 by omega),fun e4 w' hb _=>?_,fun e4=>?_⟩
  ·have est:stepQ c d.q=(⟨d.bs++[c],d.more-1,128,191⟩,[]):=by
    rw[stepQ,if_neg (show d.q.bs≠[] from hne),if_neg (by show ¬(c<d.lo∨d.hi<c);omega),if_pos (show 0<d.q.more-1 from e4)]
    rfl
   rw[est]
   refine⟨⟨none,0,rfl,Own.nil _ _ _ _⟩,⟨p5,n10,d.bs++[c],d.more-1,128,191⟩,rfl,⟨?_,?_,fun⟨a5,h5,e5⟩=>hbp a5 h5 e5⟩,fun i ⟨a5,h5,e5⟩=> .inr (by have:=hp5 a5 h5;omega)⟩
   ·have hl:(d.bs++[c]).length=N+1:=by simp[hN]
    show Win _ _ _ _ _ _ [.slice p5 (d.bs++[c]).length n10,_,_,_]
    rw[hl]
    exact v5.below hb
   ·have hl:(d.bs++[c]).length=N+1:=by simp[hN]
    show Own _ _ _ _ _ (d.bs++[c]).length _ _
    rw[hl]
    exact(hrow5.low hY).below hb
  ·have est:stepQ c d.q=(⟨[],d.more-1,128,191⟩,[runeOf (d.bs++[c])]):=by
    rw[stepQ,if_neg (show d.q.bs≠[] from hne),if_neg (by show ¬(c<d.lo∨d.hi<c);omega),if_neg (show ¬0<d.q.more-1 from by show ¬0<d.more-1;omega)]
    rfl
   rw[est]
   obtain⟨x,xs,hxs⟩:∃x xs,d.bs++[c]=x::xs:=by
    cases hd:d.bs with
    |nil=>exact absurd hd hne
    |cons x xs=>exact⟨x,xs++[c],rfl⟩
   have hxl:xs.length=N:=by
    have:=congrArg List.length hxs
    simp at this;omega
   rw[hxs] at hrow5⊢
   obtain⟨a2,ha2⟩:=hrow5.row.some_ (by omega)
   refine⟨_,_,_,v5.at_ 0 rfl (show 0+1≤4 by omega),a2,ha2,⟨by omega,by omega⟩,x,Row.at_ hrow5.row ha2 0 rfl,_,_,_,v5.at_ 0 rfl (show 0+1≤4 by omega),by unfold I64;omega,by omega,_,_,_,v5.at_ 0 rfl (show 0+1≤4 by omega),⟨by omega,by omega,by have:=Own.cap hrow5;omega⟩,?_⟩
   obtain⟨r0,hr0⟩:∃r0,r0=bits .and .i32 (IntKind.wrap .i32 x) (IntKind.wrap .i32 ((shlI .i32 1 (7-((N+1:Nat):Int)))-1)):=⟨_,rfl⟩
   have hrune:runeOf (x::xs)=xs.foldl runeStep r0:=by rw[runeOf,hr0,hxl]
   have etn:(((N+1:Nat):Int)-1).toNat=N:=by omega
   refine⟨fun r i V=>∃j:Nat,i=j∧j≤N∧r=(xs.take j).foldl runeStep r0∧Win V b o t pre post [.slice p5 (N+1) n10, .int .i64 (d.more-1), .int .u8 128, .int .u8 191]∧Own w.heap.size V T.uint8 1 p5 (N+1) n10 (bvals (x::xs)),fun _ i=>((N:Int)-i).toNat,
    fun w11 hb11=>⟨0,rfl,Nat.zero_le _,by rw[hr0];rfl,v5.below hb11,hrow5.below hb11⟩,?_⟩
   rintro r i w6 hk6 ⟨j,rfl,hj,rfl,v6,hrow6⟩
   rw[etn]
   refine⟨fun hi=>?_,fun hge=>⟨⟨v6.can (show 0+1≤4 by omega),hA9 hn9⟩,fun w7 hp7 w8 n17 hl17 hne17 w' hb _=>?_⟩⟩
   ·obtain⟨hT1,hT2⟩:=Own.tail hrow6 (j:=1) (by omega) (by omega)
    obtain⟨a3,ha3⟩:∃a3,cutP p5 n10 1 1=some a3:=by
     cases hc:cutP p5 n10 1 1 with
     |some a3=>exact⟨a3,rfl⟩
     |none=>have:=hT1 hc;omega
    obtain⟨y,hy⟩:∃y,xs[j]? =some y:=⟨_,List.getElem?_eq_getElem (by omega)⟩
    have hat:At w6 a3 (j*1) [.int .u8 y]:=by
     have h2:=(hT2 a3 ha3).sub (j*1) (us:=[.int .u8 y]) (by
      show _=((bvals xs).drop (j*1)).take 1
      rw[Nat.mul_one,List.drop_eq_getElem_cons (by simp[bvals];omega)]
      have:xs[j]=y:=by rw[List.getElem?_eq_getElem (by omega)] at hy;exact Option.some.inj hy
      simp[bvals,this])
     rwa[Nat.zero_add] at h2
    refine⟨a3,ha3,⟨by omega,by omega⟩,y,by rw[Int.toNat_natCast];exact hat,by omega,by unfold I64;omega,fun w10 hb10=>⟨⟨j+1,by omega,by omega,?_,v6.below hb10,hrow6.below hb10⟩,by dsimp only;omega⟩⟩
    rw[List.take_add_one,hy,List.foldl_append]
    rfl
   ·obtain rfl:j=N:=by omega
    have v7:Win w7 b o t pre post [.slice none 0 0, .int .i64 (d.more-1), .int .u8 128, .int .u8 191]:=v6.put hp7 (show 0+1≤4 by omega)
    have hs6:=hk6.size
    have hs7:=hp7.size
    refine⟨?_,⟨none,0,[],d.more-1,128,191⟩,rfl,⟨(v7.nix (hl17.keeps rfl)).below hb,Own.nil _ _ _ _,fun⟨a5,h5,_⟩=>by cases h5⟩,fun i ⟨a5,h5,_⟩=>by cases h5⟩
    have:=NewRs.lit (w0:=w) (by omega) hl17 hb
    rw[List.take_of_length_le (by omega),←hrune] at this
    exact this
end
end Go.Proofs.YtjhhiindeignaaaGreatDoor
namespace Go.Proofs.YtjhhiindeignaaaGreatDoor
open Go Go.RowKit Go.Sy Go.Rep
set_option maxRecDepth 100000
set_option maxHeartbeats 2000000
def feedF (a:Dq×List Int) (c:Int):Dq×List Int:=((stepQ c a.1).1,a.2++(stepQ c a.1).2)
def feedQ (bs:List Int) (q:Dq):Dq×List Int:=bs.foldl feedF (q,[])
theorem feedQ_snoc (bs:List Int) (c:Int) (q:Dq):feedQ (bs++[c]) q=feedF (feedQ bs q) c:=by simp[feedQ,List.foldl_append]
theorem stepQ_len (c:Int) (q:Dq):(stepQ c q).2.length≤2:=by
 have hb:(beginQ c q).2.length≤1:=by unfold beginQ;split;exact Nat.le_refl _;split;exact Nat.le_refl _;exact Nat.zero_le _
 unfold stepQ
 split
 ·omega
 ·split
  ·simp<;>omega
  ·split<;>simp
theorem feedQ_take {bs:List Int} {q:Dq} {j:Nat} {c:Int} (h:bs[j]? =some c):feedQ (bs.take (j+1)) q=feedF (feedQ (bs.take j) q) c:=by
 rw[List.take_add_one,h]
 exact feedQ_snoc _ _ _
theorem feed_ok:∀(bs:List Int) (a:Dq×List Int),DqOk a.1→DqOk (bs.foldl feedF a).1∧(bs.foldl feedF a).2.length≤a.2.length+2*bs.length
 |[],a,h=>⟨h,Nat.le_refl _⟩
 |c::bs,a,h=>by
  obtain⟨h1,h2⟩:=feed_ok bs (feedF a c) (stepQ_ok h)
  refine⟨h1,?_⟩
  have h3:=stepQ_len c a.1
  have h4:(feedF a c).2.length=a.2.length+(stepQ c a.1).2.length:=List.length_append
  simp only[List.foldl_cons,List.length_cons]
  omega
theorem feedQ_ok {q:Dq} (h:DqOk q) (bs:List Int):DqOk (feedQ bs q).1∧(feedQ bs q).2.length≤2*bs.length:=by
 obtain⟨h1,h2⟩:=feed_ok bs (q,[]) h
 exact⟨h1,Nat.le_trans h2 (by simp)⟩
section
variable {w w':World} {b o:Nat} {t:TypeId} {pre post:List Value} {d:De}
theorem r_utf_Feed {p:Option Addr} {n c:Nat} {bs:List Int} (hY:Y.count≤w.heap.size) (h:DeAt w b o t pre post d) (hq:DqOk d.q) (hr:Row w p n 1 (bvals bs)) (hl:bs.length=n) (hn:n≤1048576) (hoff:∀a,p=some a→a.block≠b):
  Gets Tryz.prog X.utf_Decoder_Feed #[.pointer (some ⟨b,o,none⟩), .slice p n c] w (fun i=>i=b) (fun v w'=>NewRs w (feedQ bs d.q).2 v w'∧ModD w b o t pre post d (feedQ bs d.q).1 w'):=by
 have hbl:b<w.heap.size:=h.win.blk.lt
 refine v_utf_Decoder_Feed _ p n c ⟨fun q m e i V=>∃j:Nat,i=j∧j≤n∧m=(feedQ (bs.take j) d.q).2.length∧Own w.heap.size V T.int32 1 q m e (rvals (feedQ (bs.take j) d.q).2)∧∃d1:De,d1.q=(feedQ (bs.take j) d.q).1∧DeAt V b o t pre post d1∧∀i,PF d1.p i→(PF d.p i∨w.heap.size≤i)∧¬PF q i,fun _ _ _ i=>((n:Int)-i).toNat,
  fun w7 hb7=>⟨0,rfl,Nat.zero_le _,rfl,Own.nil _ _ _ _,d,rfl,h.nix (Keeps.of_below hb7),fun i hi=>⟨.inl hi,fun⟨a,ha,_⟩=>by cases ha⟩⟩,?_⟩
 rintro q m e i w1 hk1 ⟨j,rfl,hj,rfl,ho,d1,hd1,hda,hdF⟩
 have hs1:=hk1.size
 refine⟨fun hi=>?_,fun hge w' hb _=>?_⟩
 ·obtain⟨a,ha⟩:=hr.some_ (by omega)
  obtain⟨y,hy⟩:∃y,bs[j]? =some y:=⟨_,List.getElem?_eq_getElem (by omega)⟩
  have hr1:Row w1 p n 1 (bvals bs):=hr.keeps hk1 hoff
  have hat:At w1 a (j*1) [.int .u8 y]:=Row.at_ hr1 ha _ (us:=[.int .u8 y]) (by
   show _=((bvals bs).drop (j*1)).take 1
   rw[Nat.mul_one,List.drop_eq_getElem_cons (by simp[bvals];omega)]
   have:bs[j]=y:=by rw[List.getElem?_eq_getElem (by omega)] at hy;exact Option.some.inj hy
   simp[bvals,this])
  refine⟨a,ha,⟨by omega,by omega⟩,y,by rw[Int.toNat_natCast];exact hat,fun w3 hb3=>?_⟩
  have hs3:=hb3.size
  obtain⟨hok,hlen⟩:=feedQ_ok hq (bs.take j)
  rw[List.length_take] at hlen
  refine(r_utf_Step (c:=y) (d:=d1) (by omega) (hda.nix (Keeps.of_below hb3)) (by rw[hd1];exact hok)).runs fun v w4 hk4 ⟨⟨p2,c2,hv,ho2⟩,d2,hd2,hda2,hdF2⟩=>?_
  subst hv
  rw[hd1] at ho2 hd2⊢
  have hs4:=hk4.size
  have hsl:=stepQ_len y (feedQ (bs.take j) d.q).1
  have ho4:=(ho.below hb3).keeps hk4 fun a' ha' e'=>by have:=(ho.lt a' ha').2.1;omega
  have hrow2:=ho2.row
  refine⟨_,_,_,rfl,hk4.kept (fun i hi _=>hi) (fun i _ _ hm=>by cases hm),_,ho4.room (fun a' ha'=>by simp) (fun _ a' ha' hl'=>by have:=(ho4.lt a' ha').2.1;omega),rvals (stepQ y (feedQ (bs.take j) d.q).1).2,⟨by simp[rvals],fun u hu=>?_,fun e'=>Row.none0 hrow2 e',fun a' ha'=>hrow2.lies a' ha'⟩,by omega,fun w5 p3 n5 hg=>⟨by unfold I64;omega,fun w6 hb6=>⟨⟨j+1,by omega,by omega,?_,?_,?_⟩,by dsimp only;omega⟩⟩⟩
  ·obtain⟨z,_,rfl⟩:=List.mem_map.1 hu
   rfl
  ·rw[feedQ_take hy]
   exact List.length_append.symm
  ·rw[feedQ_take hy]
   show Own _ _ _ _ _ _ _ (rvals (_++_))
   rw[rvals,List.map_append]
   exact(hg.own (by omega) fun a' ha'=>(ho4.lt a' ha').2.1).below hb6
  ·rw[feedQ_take hy]
   have hk5:Keeps (PF q) w4 w5:=hg.keeps fun _ a' ha'=>⟨a',ha',rfl⟩
   refine⟨d2,hd2,⟨(hda2.win.keeps hk5 fun⟨a',ha',e'⟩=>by have:=(ho4.lt a' ha').2.1;omega).below hb6,(hda2.row.keeps hk5 fun a' ha' ⟨a2,ha2,e2⟩=>?_).below hb6,hda2.off⟩,fun i hi=>?_⟩
   ·have h9:=(ho.lt a2 ha2).1
    rcases hdF2 _ ⟨a',ha',rfl⟩ with u|u
    ·exact(hdF _ u).2 ⟨a2,ha2,e2⟩
    ·omega
   ·have hi4:i<w4.heap.size:=by obtain⟨a',ha',rfl⟩:=hi;exact(hda2.row.lt a' ha').1
    have hnq:¬PF q i:=fun⟨a2,ha2,e2⟩=>by
     have h9:=(ho.lt a2 ha2).1
     rcases hdF2 i hi with u|u
     ·exact(hdF i u).2 ⟨a2,ha2,e2⟩
     ·omega
    refine⟨?_,fun⟨a2,ha2,e2⟩=>?_⟩
    ·rcases hdF2 i hi with u|u
     ·exact(hdF i u).1
     ·exact .inr (by omega)
    ·rcases hg.place a2 ha2 with⟨b2,h1,h2,_⟩|u
     ·exact hnq ⟨b2,h1,by omega⟩
     ·omega
 ·obtain rfl:j=n:=by omega
  rw[List.take_of_length_le (by omega)] at ho hd1⊢
  exact⟨⟨q,e,rfl,ho.below hb⟩,d1,hd1,hda.nix (Keeps.of_below hb),fun i hi=>(hdF i hi).1⟩
end
end Go.Proofs.YtjhhiindeignaaaGreatDoor
namespace Go.Rep
open Go Go.Sy
structure Bu where
 (l:List Int) (n:Nat) (over:Bool)
def ivals (l:List Int):List Value:=l.map fun x=> .int .i64 x
def Bu.cells (q:Bu):List Value:=ivals q.l++[.int .i64 q.n, .bool q.over]
end Go.Rep
namespace Go.Proofs.YtjhhiindeignaaaGreatDoor
open Go Go.RowKit Go.Sy Go.Rep
set_option maxRecDepth 100000
set_option maxHeartbeats 2000000
structure BuOk (q:Bu):Prop where
 len:q.l.length=16
 n:q.n≤16
 val:∀x∈q.l,-1≤x∧x≤9999
def zeroB:Bu:=⟨List.replicate 16 0,0,false⟩
theorem zeroB_ok:BuOk zeroB:=⟨rfl,Nat.zero_le _,fun x hx=>by have:=List.eq_of_mem_replicate hx;omega⟩
end Go.Proofs.YtjhhiindeignaaaGreatDoor
namespace Go.Rep
open Go Go.Sy
structure Ps where
 (d:De) (st pre:Int) (inter:List UInt8) (q:Bu) (tp:Option Addr) (tc:Nat) (text:List Int)
structure Pq where
 (d:Dq) (st pre:Int) (inter:List UInt8) (q:Bu) (text:List Int)
def Ps.pq (s:Ps):Pq:=⟨s.d.q,s.st,s.pre,s.inter,s.q,s.text⟩
def Ps.cells (s:Ps):List Value:=s.d.cells++([.int .i64 s.st, .int .i32 s.pre, .string ⟨s.inter.toArray⟩]++(s.q.cells++[.slice s.tp s.text.length s.tc]))
end Go.Rep
namespace Go.Proofs.YtjhhiindeignaaaGreatDoor
open Go Go.RowKit Go.Sy Go.Rep
set_option maxRecDepth 100000
set_option maxHeartbeats 2000000
structure PsAt (w:World) (b:Nat) (s:Ps):Prop where
 blk:Whole w b T.parser_Parser s.cells
 row:Own Y.count w T.uint8 1 s.d.p s.d.bs.length s.d.c (bvals s.d.bs)
 txt:Own Y.count w T.uint8 1 s.tp s.text.length s.tc (bvals s.text)
 off1:¬PF s.d.p b
 off2:¬PF s.tp b
 dok:DqOk s.d.q
 qok:BuOk s.q
 lo:Y.count≤b
 int:s.inter.length≤100
 few:s.text.length≤1024
def PsF (b:Nat) (s:Ps) (i:Nat):Prop:=i=b∨PF s.d.p i∨PF s.tp i
section
variable {w w':World} {b:Nat} {s:Ps}
theorem Ps.q18 (h:BuOk s.q):s.q.cells.length=18:=by simp[Bu.cells,ivals,h.len]
theorem PsAt.lt (h:PsAt w b s) {i:Nat} (hi:PsF b s i):i<w.heap.size:=by
 rcases hi with rfl|⟨a,ha,rfl⟩|⟨a,ha,rfl⟩
 ·exact h.blk.lt
 ·exact(h.row.lt a ha).1
 ·exact(h.txt.lt a ha).1
theorem PsAt.keeps {F:Nat→Prop} (h:PsAt w b s) (hk:Keeps F w w') (hF:∀i,F i→¬PsF b s i):PsAt w' b s:=
 ⟨h.blk.keeps hk fun e=>hF _ e (.inl rfl),h.row.keeps hk fun a ha e=>hF _ e (.inr (.inl ⟨a,ha,rfl⟩)),h.txt.keeps hk fun a ha e=>hF _ e (.inr (.inr ⟨a,ha,rfl⟩)),h.off1,h.off2,h.dok,h.qok,h.lo,h.int,h.few⟩
theorem PsAt.nix (h:PsAt w b s) (hk:Keeps Nix w w'):PsAt w' b s:=h.keeps hk fun _ e=>e.elim
theorem PsAt.below (h:PsAt w b s) (hb:Below w.heap.size w w'):PsAt w' b s:=h.nix (Keeps.of_below hb)
theorem PsAt.at_ (h:PsAt w b s) (i:Nat) {us:List Value} (hu:us=(s.cells.drop i).take us.length):At w ⟨b,0,none⟩ i us:=by
 have h1:=h.blk.at_ (by
  have:=Ps.q18 h.qok
  have e:maxLen=9223372036854775807:=by decide
  unfold Ps.cells De.cells
  simp[this]
  omega)
 have:=h1.sub i hu
 rwa[Nat.zero_add] at this
end
end Go.Proofs.YtjhhiindeignaaaGreatDoor
namespace Go.Rep
open Go Go.Sy
structure Aq where
 (kind rune pre:Int) (inter:List UInt8) (params:List Int) (text:List UInt8)
structure Ax where
 (q:Aq) (ad:Option Addr) (c:Nat)
abbrev Ax.ac (x:Ax):Ac:=⟨x.q.kind,x.q.rune,x.q.pre,x.q.inter,⟨x.ad,x.q.params.length,x.c⟩,x.q.text⟩
def avals (xs:List Ax):List Value:=xs.flatMap fun x=>x.ac.arr.toList
end Go.Rep
namespace Go.Proofs.YtjhhiindeignaaaGreatDoor
open Go Go.RowKit Go.Sy Go.Rep
set_option maxRecDepth 100000
set_option maxHeartbeats 2000000
structure Acts (w:World) (lo:Nat) (p:Option Addr) (n c:Nat) (xs:List Ax):Prop where
 row:Own lo w T.Action 6 p n c (avals xs)
 par:∀x∈xs,Own lo w T.int 1 x.ad x.q.params.length x.c (ivals x.q.params)
 off:∀i,PF p i→∀x∈xs,¬PF x.ad i
def NewAs (w0:World) (l:List Aq) (v:Value) (w:World):Prop:=∃p c xs,v= .slice p l.length c∧xs.map Ax.q=l∧Acts w w0.heap.size p l.length c xs
section
variable {w w':World} {b:Nat} {s:Ps}
theorem NewAs.lit {w0 w1 w2 w3:World} {x:Aq} {n:Nat} (hp:x.params=[]) (hs:w0.heap.size≤w1.heap.size) (hl:Litr w1 [] T.Action (⟨x,none,0⟩:Ax).ac.arr.toList w2 n) (hb:Keeps (fun i=>i=b) w2 w3) (hn:b<w1.heap.size):NewAs w0 [x] (.slice (some ⟨n,0,none⟩) 1 1) w3:=by
 have hnew:=hl.new
 refine⟨_,_,[⟨x,none,0⟩],rfl,rfl,⟨?_,fun y hy=>?_,fun i _ y hy ⟨a,ha,_⟩=>?_⟩⟩
 ·have:=hl.own (n:=1) (s:=6) rfl (by decide)
  have h2:=this.base (B':=w0.heap.size) fun a ha=>by cases ha;show _≤n;omega
  have h3:=h2.keeps hb fun a ha e=>by cases ha;change n=b at e;omega
  show Own _ _ _ _ _ _ _ (avals [⟨x,none,0⟩])
  simpa[avals] using h3
 ·rw[List.mem_singleton] at hy
  subst hy
  show Own _ _ _ _ none x.params.length 0 (ivals x.params)
  rw[hp]
  exact Own.nil _ _ _ _
 ·rw[List.mem_singleton] at hy
  subst hy
  cases ha
end
end Go.Proofs.YtjhhiindeignaaaGreatDoor
namespace Go.Proofs.YtjhhiindeignaaaGreatDoor
open Go Go.RowKit Go.Sy Go.Rep
set_option maxRecDepth 100000
set_option maxHeartbeats 2000000
structure PqI (q:Pq):Prop where
 txt:∀x∈q.text,0≤x∧x<256
 int:q.inter.length≤3
def actA (k r:Int):Aq:=⟨k,r,0,[],[],[]⟩
section
variable {w w':World} {b:Nat} {s:Ps} {lo:Nat} {p:Option Addr} {n c:Nat} {xs:List Ax}
theorem Acts.keeps {F:Nat→Prop} (h:Acts w lo p n c xs) (hk:Keeps F w w') (hF:∀i,F i→i<lo):Acts w' lo p n c xs:=
 ⟨h.row.keeps hk fun a ha e=>by have:=(h.row.lt a ha).2.1;have:=hF _ e;omega,fun x hx=>(h.par x hx).keeps hk fun a ha e=>by have:=((h.par x hx).lt a ha).2.1;have:=hF _ e;omega,h.off⟩
theorem Acts.low {lo':Nat} (h:Acts w lo p n c xs) (hB:lo'≤lo):Acts w lo' p n c xs:=⟨h.row.low hB,fun x hx=>(h.par x hx).low hB,h.off⟩
theorem avals_len (xs:List Ax):(avals xs).length=xs.length*6:=by
 induction xs with
 |nil=>rfl
 |cons x xs ih=>
  show(x.ac.arr.toList++avals xs).length=_
  rw[List.length_append,ih]
  show 6+xs.length*6=(xs.length+1)*6
  omega
theorem avals_one (xs:List Ax):∀u∈avals xs,u.oneCell'=true:=by
 intro u hu
 obtain⟨x,_,hx⟩:=List.mem_flatMap.1 hu
 simp only[Ax.ac,List.mem_cons,List.not_mem_nil,or_false] at hx
 rcases hx with rfl|rfl|rfl|rfl|rfl|rfl<;>rfl
theorem Acts.more {w1:World} {lo2:Nat} {p2 p':Option Addr} {m c2 c':Nat} {ys:List Ax} (h:Acts w lo p n c xs) (h2:Acts w lo2 p2 m c2 ys) (hlt:∀a,p=some a→a.block<lo2) (hl:lo≤lo2) (hlo:lo≤w.heap.size)
  (hg:Grown w [] p n c T.Action 6 (n+m) (avals xs++avals ys) w1 p' c'):Acts w1 lo p' (n+m) c' (xs++ys):=by
 have hk:Keeps (PF p) w w1:=hg.keeps fun _ a ha=>⟨a,ha,rfl⟩
 have hys:∀y∈ys,∀a,y.ad=some a→a.block<w.heap.size∧lo2≤a.block:=fun y hy a ha=>⟨((h2.par y hy).lt a ha).1,((h2.par y hy).lt a ha).2.1⟩
 refine⟨?_,fun x hx=>?_,fun i ⟨a,ha,e⟩ x hx ⟨a2,ha2,e2⟩=>?_⟩
 ·have:=hg.own (B:=lo) hlo fun a ha=>(h.row.lt a ha).2.1
  show Own _ _ _ _ _ _ _ (avals (xs++ys))
  rw[avals,List.flatMap_append]
  exact this
 ·rcases List.mem_append.1 hx with hx|hx
  ·exact(h.par x hx).keeps hk fun a ha e=>h.off _ e x hx ⟨a,ha,rfl⟩
  ·exact((h2.par x hx).low hl).keeps hk fun a ha ⟨a1,ha1,e1⟩=>by have:=hlt a1 ha1;have:=(hys x hx a ha).2;omega
 ·have hlt2:a2.block<w.heap.size:=by
   rcases List.mem_append.1 hx with hx|hx
   ·exact((h.par x hx).lt a2 ha2).1
   ·exact(hys x hx a2 ha2).1
  rcases hg.place a ha with⟨a1,ha1,e1,_⟩|u
  ·rcases List.mem_append.1 hx with hx|hx
   ·exact h.off i ⟨a1,ha1,by omega⟩ x hx ⟨a2,ha2,e2⟩
   ·have:=hlt a1 ha1
    have:=(hys x hx a2 ha2).2
    omega
  ·omega
end
end Go.Proofs.YtjhhiindeignaaaGreatDoor
namespace Go.Proofs.YtjhhiindeignaaaGreatDoor
open Go Go.RowKit Go.Sy Go.Rep
set_option maxRecDepth 100000
set_option maxHeartbeats 2000000
theorem Keeps.old {F:Nat→Prop} {w w':World} (hk:Keeps (fun i=>F i∨w.heap.size≤i) w w'):Keeps F w w':=⟨hk.os,hk.tape,hk.output,hk.size,fun i h1 h2=>hk.heap i h1 fun e=>e.elim h2 fun e=>by omega⟩
section
variable {w w':World} {b:Nat} {s:Ps}
theorem PsAt.winD (h:PsAt w b s):DeAt w b 0 T.parser_Parser [] ([.int .i64 s.st, .int .i32 s.pre, .string ⟨s.inter.toArray⟩]++(s.q.cells++[.slice s.tp s.text.length s.tc])) s.d:=
 ⟨⟨h.blk,rfl,by have:=Ps.q18 h.qok;simp[De.cells,this]⟩,h.row,h.off1⟩
theorem PsAt.setD {d:De} (h:PsAt w b s) (hk:Keeps (fun i=>i=b) w w') (hd:DeAt w' b 0 T.parser_Parser [] ([.int .i64 s.st, .int .i32 s.pre, .string ⟨s.inter.toArray⟩]++(s.q.cells++[.slice s.tp s.text.length s.tc])) d) (hq:DqOk d.q):PsAt w' b ⟨d,s.st,s.pre,s.inter,s.q,s.tp,s.tc,s.text⟩:=
 ⟨hd.win.blk,hd.row,h.txt.keeps hk fun a ha e=>h.off2 ⟨a,ha,e⟩,hd.off,h.off2,hq,h.qok,h.lo,h.int,h.few⟩
end
end Go.Proofs.YtjhhiindeignaaaGreatDoor
namespace Go.Proofs.YtjhhiindeignaaaGreatDoor
open Go Go.RowKit Go.Sy Go.Rep
set_option maxRecDepth 100000
theorem v_tabs_Stops_fill {w0:World} {F:Nat→Prop} {Q:Value→World→Prop} (s:Addr) (frm:Int) (h:∃I1:Int→World→Prop,∃I2:Int→Nat,(∀w7:World,(Below w0.heap.size w0 w7)→I1 8 w7)∧∀i1:Int,∀w1:World,(Keeps F w0 w1)→(I1 i1 w1)→∃i2:Int,(At w1 s 0 [(.int .i64 i2)])∧(((i1<i2)→((frm≤i1)→∃v1:Value,((v1.oneCell')=true)∧((At w1 s 1 [v1])∧∀w4:World,(Below w1.heap.size w1 w4)→∃n1:Nat,(v1=(.map (some n1)))∧∃s1:List Int,(SetAt w4 n1 (s1))∧(((n1<w0.heap.size)→F n1)∧∀w5:World,(SetTo w4 n1 (setAdd i1 s1) w5)→(I64 (i1+8))∧∀w6:World,(Below w5.heap.size w5 w6)→(I1 (i1+8) w6)∧(I2 (i1+8)<I2 i1))))∧((i1<frm)→(I64 (i1+8))∧∀w3:World,(Below w1.heap.size w1 w3)→(I1 (i1+8) w3)∧(I2 (i1+8)<I2 i1)))∧((i2≤i1)→Fin w0 F w1 Q (.tuple #[])))):Gets Tryz.prog X.tabs_Stops_fill #[(.pointer (some s)),(.int .i64 frm)] w0 F Q:=
 func_run mixed [⟨1,[4],[]⟩] [] X.tabs_Stops_fill [SV.adr s 0,SV.int IntKind.i64 frm] ⟨by trivial,by trivial,trivial⟩ (by kernel_rfl) (by kernel_rfl) h
theorem v_tabs_New {w0:World} {F:Nat→Prop} {Q:Value→World→Prop} (cols:Int) (h:((cols<1)→Fin w0 F w0 Q (.tuple #[(.pointer none),(.int .i64 2)]))∧(((1:Int)≤cols)→(((1000:Int)<cols)→Fin w0 F w0 Q (.tuple #[(.pointer none),(.int .i64 2)]))∧((cols≤1000)→∀w1:World,(Below w0.heap.size w0 w1)→∀w2:World,∀n1:Nat,(SetNew w1 w2 n1)→∀n2:Nat,(w2.heap.size≤n2)→∀w3:World,(Below w2.heap.size w2 w3)→((w0.heap.size≤n2)∧(Whole w3 n2 T.tabs_Stops [(.int .i64 cols),(.map (some n1))]))→Runs Tryz.prog X.tabs_Stops_fill #[(.pointer (some ⟨n2,0,none⟩)),(.int .i64 0)] w3 (fun e1 w4=>(e1=(.returned (.tuple #[])))∧((Kept w0.heap.size F [] w3 w4)∧∃i1:Int,∃v1:Value,((v1.oneCell')=true)∧((Whole w4 n2 T.tabs_Stops [(.int .i64 i1),v1])∧∀w5:World,(Below w4.heap.size w4 w5)→(Keeps F w0 w5)→((w0.heap.size≤n2)∧(Whole w5 n2 T.tabs_Stops [(.int .i64 i1),v1]))→Q (.tuple #[(.pointer (some ⟨n2,0,none⟩)),(.int .i64 0)]) w5)))))):Gets Tryz.prog X.tabs_New #[(.int .i64 cols)] w0 F Q:=
 func_run mixed [] [] X.tabs_New [SV.int IntKind.i64 cols] ⟨by trivial,trivial⟩ (by kernel_rfl) (by kernel_rfl) h
end Go.Proofs.YtjhhiindeignaaaGreatDoor
namespace Go.Rep
open Go Go.Sy
structure Tz where
 (b m:Nat) (cols:Int) (l:List Int)
def Tz.ptr (t:Tz):Value:= .pointer (some ⟨t.b,0,none⟩)
end Go.Rep
namespace Go.Sy
theorem SetTo.keeps {w w':World} {b:Nat} {l:List Int} (h:SetTo w b l w'):Keeps (fun i=>i=b) w w':=⟨h.os,h.tape,h.output,by rw[h.size];exact Nat.le_refl _,fun i _ hi=>h.heap i hi⟩
theorem SetNew.keeps {w w':World} {b:Nat} (h:SetNew w w' b):Keeps Nix w w':=⟨h.os,h.tape,h.output,Nat.le_of_lt (Nat.lt_of_le_of_lt h.new h.size),fun i hi _=>h.heap i hi⟩
theorem SetAt.lt {w:World} {b:Nat} {l:List Int} (h:SetAt w b l):b<w.heap.size:=by
 obtain⟨e,c,h1,_⟩:=h
 exact(Array.getElem?_eq_some_iff.1 h1).1
theorem SetAt.keeps {w w':World} {b:Nat} {l:List Int} {F:Nat→Prop} (h:SetAt w b l) (hk:Keeps F w w') (hF:¬F b):SetAt w' b l:=by
 have hlt:=h.lt
 obtain⟨e,c,h1,h2⟩:=h
 exact⟨e,c,by rw[hk.heap b hlt hF];exact h1,h2⟩
theorem SetAt.ne {w:World} {b d:Nat} {l:List Int} {t:TypeId} {cs:List Value} (h:SetAt w b l) (hw:Whole w d t cs):b≠d:=by
 rintro rfl
 obtain⟨e,c,h1,_⟩:=h
 unfold Whole at hw
 rw[hw] at h1
 cases h1
def Ob.stops (t:Go.Rep.Tz):Ob:=
 ⟨fun i=>i=t.b∨i=t.m,fun w=>Whole w t.b Go.Proofs.YtjhhiindeignaaaGreatDoor.T.tabs_Stops [.int .i64 t.cols, .map (some t.m)]∧SetAt w t.m t.l∧Go.Proofs.YtjhhiindeignaaaGreatDoor.Y.count≤t.b∧Go.Proofs.YtjhhiindeignaaaGreatDoor.Y.count≤t.m,
  fun h e=>e.elim (fun e=>by rw[e];exact h.1.lt) fun e=>by rw[e];exact h.2.1.lt,fun h e=>e.elim (fun e=>by rw[e];exact h.2.2.1) fun e=>by rw[e];exact h.2.2.2,
  fun h hk hF=>⟨h.1.keeps hk fun e=>hF _ e (.inl rfl),h.2.1.keeps hk fun e=>hF _ e (.inr rfl),h.2.2⟩⟩
end Go.Sy
namespace Go.Proofs.YtjhhiindeignaaaGreatDoor
open Go Go.RowKit Go.Sy Go.Rep
set_option maxRecDepth 100000
set_option maxHeartbeats 2000000
def fillTo (frm:Int) (l:List Int):Nat→List Int
 |0=>l
 |k+1=>if frm≤8*(k+1:Nat) then setAdd (8*(k+1:Nat)) (fillTo frm l k) else fillTo frm l k
def fillQ (cols frm:Int) (l:List Int):List Int:=fillTo frm l ((cols-1)/8).toNat
section
variable {w w':World} {t:Tz}
theorem stops_at (h:(Ob.stops t).P w) (o:Nat) {us:List Value} (hu:us=([.int .i64 t.cols, .map (some t.m)].drop o).take us.length):At w ⟨t.b,0,none⟩ o us:=by
 have:=(h.1.at_ (show 2≤maxLen by decide)).sub o hu
 rwa[Nat.zero_add] at this
theorem stops_nix (h:(Ob.stops t).P w) (hk:Keeps Nix w w'):(Ob.stops t).P w':=(Ob.stops t).nix h hk
theorem stops_to {l':List Int} (h:(Ob.stops t).P w) (hs:SetTo w t.m l' w'):(Ob.stops ⟨t.b,t.m,t.cols,l'⟩).P w':=
 ⟨h.1.keeps hs.keeps fun e=>h.2.1.ne h.1 e.symm,hs.row,h.2.2⟩
theorem r_tabs_fill {frm:Int} (h:(Ob.stops t).P w) (h1:1≤t.cols) (h2:t.cols≤1000):Gets Tryz.prog X.tabs_Stops_fill #[t.ptr, .int .i64 frm] w (Ob.stops t).F (fun v w'=>v= .tuple #[]∧(Ob.stops ⟨t.b,t.m,t.cols,fillQ t.cols frm t.l⟩).P w'):=by
 refine v_tabs_Stops_fill _ frm ⟨fun i V=>∃j:Nat,i=8*(j+1:Nat)∧j≤((t.cols-1)/8).toNat∧(Ob.stops ⟨t.b,t.m,t.cols,fillTo frm t.l j⟩).P V,fun i=>(1008-i).toNat,fun w7 hb7=>⟨0,rfl,Nat.zero_le _,stops_nix h (Keeps.of_below hb7)⟩,?_⟩
 rintro i w1 hk1 ⟨j,rfl,hj,hp⟩
 refine⟨t.cols,stops_at hp 0 rfl,fun e=>⟨fun e2=>⟨_,rfl,stops_at hp 1 rfl,fun w4 hb4=>?_⟩,fun e2=>⟨by unfold I64;omega,fun w3 hb3=>⟨⟨j+1,by omega,by omega,?_⟩,by dsimp only;omega⟩⟩⟩,fun e w' hb _=>⟨rfl,?_⟩⟩
 ·have h4:=stops_nix hp (Keeps.of_below hb4)
  refine⟨t.m,rfl,_,h4.2.1,fun _=> .inr rfl,fun w5 hs=>⟨by unfold I64;omega,fun w6 hb6=>⟨⟨j+1,by omega,by omega,?_⟩,by dsimp only;omega⟩⟩⟩
  have:=stops_nix (stops_to h4 hs) (Keeps.of_below hb6)
  rw[fillTo,if_pos e2]
  exact this
 ·rw[fillTo,if_neg (by omega)]
  exact stops_nix hp (Keeps.of_below hb3)
 ·have:fillQ t.cols frm t.l=fillTo frm t.l j:=by
   rw[fillQ,show((t.cols-1)/8).toNat=j by omega]
  rw[this]
  exact stops_nix hp (Keeps.of_below hb)
theorem r_tabs_New {cols:Int} (hL:Laid w) (h1:1≤cols) (h2:cols≤1000):Gets Tryz.prog X.tabs_New #[.int .i64 cols] w Nix (fun v w'=>∃t:Tz,v= .tuple #[t.ptr, .int .i64 0]∧t.cols=cols∧t.l=fillQ cols 0 []∧(Ob.stops t).P w'∧∀i,(Ob.stops t).F i→w.heap.size≤i):=by
 have hY:=hL.size
 refine v_tabs_New cols ⟨fun e=>by omega,fun _=>⟨fun e=>by omega,fun _ w1 hb1 w2 m hn b hb w3 hb3 hw3=>?_⟩⟩
 have hs1:=hb1.size
 have hs2:=hn.keeps.size
 have hs3:=hb3.size
 have hm:=hn.new
 have hsz:=hn.size
 have hp:(Ob.stops ⟨b,m,cols,[]⟩).P w3:=⟨hw3.2,hn.row.keeps (Keeps.of_below hb3) (fun e=>e),by show _≤b;omega,by show _≤m;omega⟩
 refine(r_tabs_fill (frm:=0) hp h1 h2).runs fun v w4 hk4 ⟨hv,h4⟩=>⟨by rw[hv],hk4.kept (fun i hi hlt=>?_) (fun i _ _ hm=>by cases hm),cols,_,rfl,h4.1,fun w5 hb5 _ hw5=>⟨⟨b,m,cols,_⟩,rfl,rfl,rfl,stops_nix h4 (Keeps.of_below hb5),fun i hi=>?_⟩⟩
 ·rcases hi with e|e
  ·have:i=b:=e
   omega
  ·have:i=m:=e
   omega
 ·rcases hi with e|e
  ·have:i=b:=e
   omega
  ·have:i=m:=e
   omega
end
end Go.Proofs.YtjhhiindeignaaaGreatDoor
namespace Go.Proofs.YtjhhiindeignaaaGreatDoor
open Go Go.RowKit Go.Sy Go.Rep
set_option maxRecDepth 100000
theorem v_reply_Answer {w0:World} {F:Nat→Prop} {Q:Value→World→Prop} (x:Ac) (a:Ar) (c:Cu) (m:Md) (h:∀n1:Nat,(w0.heap.size≤n1)→∀n2:Nat,(w0.heap.size≤n2)→∀n3:Nat,(w0.heap.size≤n3)→∀n4:Nat,(w0.heap.size≤n4)→∃I1:World→Prop,(((x.kind=3)→((x.inter=[])→((x.rune=90)→∀w31:World,(Below w0.heap.size w0 w31)→(Mine w31 w0.heap.size [(n1,T.Action),(n2,T.Area),(n3,T.Cursor),(n4,T.Modes)])→Runs Tryz.prog X.reply_Attributes #[(.int .i32 0)] w31 (fun e5 w32=>∃s4:List UInt8,∃i5:Int,(e5=(.returned (.tuple #[(.string ⟨s4.toArray⟩),(.int .i64 i5)])))∧((Kept w0.heap.size F [n1,n2,n3,n4] w31 w32)∧Fin w0 F w32 Q (.tuple #[(.string ⟨s4.toArray⟩),(.int .i64 i5)]))))∧((x.rune≠90)→∀w30:World,(Below w0.heap.size w0 w30)→I1 w30))∧((¬(x.inter=[]))→∀w29:World,(Below w0.heap.size w0 w29)→I1 w29))∧((x.kind≠3)→∀w28:World,(Below w0.heap.size w0 w28)→I1 w28))∧∀w1:World,(Keeps F w0 w1)→(I1 w1)→((x.kind≠4)→Fin w0 F w1 Q (.tuple #[(.string ⟨[].toArray⟩),(.int .i64 0)]))∧((x.kind=4)→∀w2:World,(Below w1.heap.size w1 w2)→(Mine w2 w0.heap.size [(n1,T.Action),(n2,T.Area),(n3,T.Cursor),(n4,T.Modes)])→Runs Tryz.prog X.params_Get #[(.slice x.par.p x.par.n x.par.c),(.int .i64 0),(.int .i64 0)] w2 (fun e1 w3=>∃i1:Int,(e1=(.returned (.int .i64 i1)))∧((Kept w0.heap.size F [n1,n2,n3,n4] w2 w3)∧∃I2:World→Prop,((((x.inter.length)+((runeStr x.rune).length))<9223372036854775807)∧((((x.inter++(runeStr x.rune))=[99])→∀w22:World,(Below w3.heap.size w3 w22)→(Mine w22 w0.heap.size [(n1,T.Action),(n2,T.Area),(n3,T.Cursor),(n4,T.Modes)])→Runs Tryz.prog X.reply_Attributes #[(.int .i32 x.pre)] w22 (fun e4 w23=>∃s3:List UInt8,∃i4:Int,(e4=(.returned (.tuple #[(.string ⟨s3.toArray⟩),(.int .i64 i4)])))∧((Kept w0.heap.size F [n1,n2,n3,n4] w22 w23)∧(((i4=0)→(((max 0 i1)=0)→Fin w0 F w23 Q (.tuple #[(.string ⟨s3.toArray⟩),(.int .i64 0)]))∧(((max 0 i1)≠0)→∀w25:World,(Below w23.heap.size w23 w25)→I2 w25))∧((i4≠0)→∀w24:World,(Below w23.heap.size w23 w24)→I2 w24)))))∧((¬((x.inter++(runeStr x.rune))=[99]))→(((x.inter++(runeStr x.rune))=[110])→∃I4:Bool→World→Prop,(((x.pre=0)→(((max 0 i1)=5)→∀w21:World,(Below w3.heap.size w3 w21)→I4 true w21)∧(((max 0 i1)≠5)→∀w20:World,(Below w3.heap.size w3 w20)→(((max 0 i1)=6)→I4 true w20)∧(((max 0 i1)≠6)→I4 false w20)))∧((x.pre≠0)→∀w19:World,(Below w3.heap.size w3 w19)→I4 false w19))∧∀b2:Bool,∀w14:World,(Keeps F w0 w14)→(I4 b2 w14)→((b2=true)→∀w16:World,(Below w14.heap.size w14 w16)→(Mine w16 w0.heap.size [(n1,T.Action),(n2,T.Area),(n3,T.Cursor),(n4,T.Modes)])→Runs Tryz.prog X.reply_Status #[(.int .i64 (max 0 i1)),(.agg a.arr),(.agg c.arr)] w16 (fun e3 w17=>∃s2:List UInt8,∃i3:Int,(e3=(.returned (.tuple #[(.string ⟨s2.toArray⟩),(.int .i64 i3)])))∧((Kept w0.heap.size F [n1,n2,n3,n4] w16 w17)∧Fin w0 F w17 Q (.tuple #[(.string ⟨s2.toArray⟩),(.int .i64 i3)]))))∧((b2=false)→∀w15:World,(Below w14.heap.size w14 w15)→I2 w15))∧((¬((x.inter++(runeStr x.rune))=[110]))→(((x.inter++(runeStr x.rune))=[36,112])→∃I3:Bool→World→Prop,(((x.pre=0)→∀w13:World,(Below w3.heap.size w3 w13)→I3 true w13)∧((x.pre≠0)→∀w12:World,(Below w3.heap.size w3 w12)→((x.pre=63)→I3 true w12)∧((x.pre≠63)→I3 false w12)))∧∀b1:Bool,∀w7:World,(Keeps F w0 w7)→(I3 b1 w7)→((b1=true)→∀w9:World,(Below w7.heap.size w7 w9)→(Mine w9 w0.heap.size [(n1,T.Action),(n2,T.Area),(n3,T.Cursor),(n4,T.Modes)])→Runs Tryz.prog X.reply_Mode #[(.agg m.arr),(.int .i32 x.pre),(.int .i64 (max 0 i1))] w9 (fun e2 w10=>∃s1:List UInt8,∃i2:Int,(e2=(.returned (.tuple #[(.string ⟨s1.toArray⟩),(.int .i64 i2)])))∧((Kept w0.heap.size F [n1,n2,n3,n4] w9 w10)∧Fin w0 F w10 Q (.tuple #[(.string ⟨s1.toArray⟩),(.int .i64 i2)]))))∧((b1=false)→∀w8:World,(Below w7.heap.size w7 w8)→I2 w8))∧((¬((x.inter++(runeStr x.rune))=[36,112]))→∀w6:World,(Below w3.heap.size w3 w6)→I2 w6)))))∧∀w4:World,(Keeps F w0 w4)→(I2 w4)→Fin w0 F w4 Q (.tuple #[(.string ⟨[].toArray⟩),(.int .i64 0)]))))):Gets Tryz.prog X.reply_Answer #[(.agg x.arr),(.agg a.arr),(.agg c.arr),(.agg m.arr)] w0 F Q:=
 func_run mixed [] [⟨3,[],[]⟩,⟨17,[],[]⟩,⟨13,[69],[]⟩,⟨16,[85],[]⟩] X.reply_Answer [SV.agg (Ac.cod.enc x),SV.agg (Ar.cod.enc a),SV.agg (Cu.cod.enc c),SV.agg (Md.cod.enc m)] ⟨okA _ _,okA _ _,okA _ _,okA _ _,trivial⟩ (by kernel_rfl) (by kernel_rfl) h
end Go.Proofs.YtjhhiindeignaaaGreatDoor
namespace Go.Proofs.YtjhhiindeignaaaGreatDoor
open Go Go.RowKit Go.Sy Go.Rep
set_option maxRecDepth 100000
theorem v_screen_zero {w0:World} {F:Nat→Prop} {Q:Value→World→Prop} (s:Addr) (h:∃p1:Option Addr,(At w0 s 2 [(.pointer p1)])∧Fin w0 F w0 Q (.bool (BE.val (.pr (p1=none))))):Gets Tryz.prog X.screen_zero #[(.pointer (some s))] w0 F Q:=
 func_run mixed [] [] X.screen_zero [SV.adr s 0] ⟨by trivial,trivial⟩ (by kernel_rfl) (by kernel_rfl) h
theorem v_screen_used {w0:World} {F:Nat→Prop} {Q:Value→World→Prop} (s:Addr) (h:∃p1:Option Addr,(At w0 s 2 [(.pointer p1)])∧∀w1:World,(Below w0.heap.size w0 w1)→Runs Tryz.prog X.alternate_Pair_Alternate #[(.pointer p1)] w1 (fun e1 w2=>∃b1:Bool,(e1=(.returned (.bool b1)))∧((Kept w0.heap.size F [] w1 w2)∧(((b1=true)→Fin w0 F w2 Q (.int .i64 1))∧((b1=false)→Fin w0 F w2 Q (.int .i64 0)))))):Gets Tryz.prog X.screen_used #[(.pointer (some s))] w0 F Q:=
 func_run mixed [] [] X.screen_used [SV.adr s 0] ⟨by trivial,trivial⟩ (by kernel_rfl) (by kernel_rfl) h
theorem v_screen_area {w0:World} {F:Nat→Prop} {Q:Value→World→Prop} (s:Addr) (h:∀n1:Nat,(w0.heap.size≤n1)→∃i1:Int,(At w0 s 0 [(.int .i64 i1)])∧∃i2:Int,(At w0 s 1 [(.int .i64 i2)])∧∃rg1:Rg,(At w0 s 27 rg1.arr.toList)∧∃b1:Bool,(At w0 s 19 [(.bool b1)])∧Fin w0 F w0 Q (.agg #[(.int .i64 i1),(.int .i64 i2),(.int .i64 rg1.top),(.int .i64 rg1.bot),(.bool b1)])):Gets Tryz.prog X.screen_area #[(.pointer (some s))] w0 F Q:=
 func_run mixed [] [] X.screen_area [SV.adr s 0] ⟨by trivial,trivial⟩ (by kernel_rfl) (by kernel_rfl) h
theorem v_screen_keep {w0:World} {F:Nat→Prop} {Q:Value→World→Prop} (s:Addr) (pl:Option Addr) (nl:Nat) (cl:Nat) (h:∀w1:World,(Below w0.heap.size w0 w1)→Runs Tryz.prog X.screen_used #[(.pointer (some s))] w1 (fun e1 w2=>∃i1:Int,(e1=(.returned (.int .i64 i1)))∧((Kept w0.heap.size F [] w1 w2)∧(((i1=0)→(((0:Int)<(nl:Int))→∃p1:Option Addr,(At w2 s 3 [(.pointer p1)])∧∀w5:World,(Below w2.heap.size w2 w5)→Runs Tryz.prog X.history_Push #[(.pointer p1),(.slice pl nl cl)] w5 (fun e2 w6=>∃i2:Int,(e2=(.returned (.int .i64 i2)))∧((Kept w0.heap.size F [] w5 w6)∧∃i3:Int,(At w6 s 72 [(.int .i64 i3)])∧((I64 (i3+(nl:Int)))∧(((CanPut w6 s 72 1)∧(Away w0.heap.size F [] s.block))∧∀w7:World,(Put w6 [] s 72 [(.int .i64 (i3+(nl:Int)))] w7)→Fin w0 F w7 Q (.tuple #[]))))))∧(((nl:Int)≤0)→Fin w0 F w2 Q (.tuple #[])))∧((i1≠0)→Fin w0 F w2 Q (.tuple #[])))))):Gets Tryz.prog X.screen_keep #[(.pointer (some s)),(.slice pl nl cl)] w0 F Q:=
 func_run mixed [] [] X.screen_keep [SV.adr s 0,SV.sl pl nl cl] ⟨by trivial,by trivial,trivial⟩ (by kernel_rfl) (by kernel_rfl) h
theorem v_screen_answer {w0:World} {F:Nat→Prop} {Q:Value→World→Prop} (s:Addr) (t:List UInt8) (h:∃s1:List UInt8,(At w0 s 71 [(.string ⟨s1.toArray⟩)])∧((I64 (((s1.length):Int)+((t.length):Int)))∧((((((s1.length):Int)+((t.length):Int))≤4096)→∃s2:List UInt8,(At w0 s 71 [(.string ⟨s2.toArray⟩)])∧((((s2.length)+(t.length))<9223372036854775807)∧(((CanPut w0 s 71 1)∧(Away w0.heap.size F [] s.block))∧∀w2:World,(Put w0 [] s 71 [(.string ⟨(s2++t).toArray⟩)] w2)→Fin w0 F w2 Q (.tuple #[]))))∧(((4096:Int)<(((s1.length):Int)+((t.length):Int)))→Fin w0 F w0 Q (.tuple #[]))))):Gets Tryz.prog X.screen_answer #[(.pointer (some s)),(.string ⟨t.toArray⟩)] w0 F Q:=
 func_run mixed [] [] X.screen_answer [SV.adr s 0,SV.str t] ⟨by trivial,by trivial,trivial⟩ (by kernel_rfl) (by kernel_rfl) h
theorem v_screen_blank {w0:World} {F:Nat→Prop} {Q:Value→World→Prop} (s:Addr) (h:∀n1:Nat,(w0.heap.size≤n1)→∃col1:Col,(At w0 s 12 col1.arr.toList)∧Fin w0 F w0 Q (.agg #[(.int .i64 0),(.int .u8 0),(.int .u8 0),(.int .u8 0),(.int .u8 0),(.int .i64 col1.k),(.int .u8 col1.i),(.int .u8 col1.r),(.int .u8 col1.g),(.int .u8 col1.b),(.int .u8 0)])):Gets Tryz.prog X.screen_blank #[(.pointer (some s))] w0 F Q:=
 func_run mixed [] [] X.screen_blank [SV.adr s 0] ⟨by trivial,trivial⟩ (by kernel_rfl) (by kernel_rfl) h
theorem v_screen_Do {w0:World} {F:Nat→Prop} {Q:Value→World→Prop} (s:Addr) (a:Ac) (h:∀n1:Nat,(w0.heap.size≤n1)→∀w1:World,(Below w0.heap.size w0 w1)→(Mine w1 w0.heap.size [(n1,T.Action)])→Runs Tryz.prog X.screen_zero #[(.pointer (some s))] w1 (fun e1 w2=>∃b1:Bool,(e1=(.returned (.bool b1)))∧((Kept w0.heap.size F [n1] w1 w2)∧(((b1=true)→Fin w0 F w2 Q (.tuple #[(.int .i64 0),(.int .i64 1)]))∧((b1=false)→∀w3:World,(Below w2.heap.size w2 w3)→(Mine w3 w0.heap.size [(n1,T.Action)])→Runs Tryz.prog X.screen_act #[(.pointer (some s)),(.agg a.arr)] w3 (fun e2 w4=>∃i1:Int,(e2=(.returned (.int .i64 i1)))∧((Kept w0.heap.size F [n1] w3 w4)∧∃i2:Int,(At w4 s 72 [(.int .i64 i2)])∧(((CanPut w4 s 72 1)∧(Away w0.heap.size F [n1] s.block))∧∀w5:World,(Put w4 [] s 72 [(.int .i64 0)] w5)→Fin w0 F w5 Q (.tuple #[(.int .i64 i2),(.int .i64 i1)]))))))))):Gets Tryz.prog X.screen_Do #[(.pointer (some s)),(.agg a.arr)] w0 F Q:=
 func_run mixed [] [] X.screen_Do [SV.adr s 0,SV.agg (Ac.cod.enc a)] ⟨by trivial,okA _ _,trivial⟩ (by kernel_rfl) (by kernel_rfl) h
theorem v_screen_Lines {w0:World} {F:Nat→Prop} {Q:Value→World→Prop} (s:Addr) (h:∀w1:World,(Below w0.heap.size w0 w1)→Runs Tryz.prog X.screen_zero #[(.pointer (some s))] w1 (fun e1 w2=>∃b1:Bool,(e1=(.returned (.bool b1)))∧((Kept w0.heap.size F [] w1 w2)∧(((b1=true)→Fin w0 F w2 Q (.slice none 0 0))∧((b1=false)→∃p1:Option Addr,(At w2 s 2 [(.pointer p1)])∧∀w3:World,(Below w2.heap.size w2 w3)→Runs Tryz.prog X.alternate_Pair_Grid #[(.pointer p1)] w3 (fun e2 w4=>∃p2:Option Addr,(e2=(.returned (.pointer p2)))∧((Kept w0.heap.size F [] w3 w4)∧∀w5:World,(Below w4.heap.size w4 w5)→Runs Tryz.prog X.grid_Lines #[(.pointer p2)] w5 (fun e3 w6=>∃p3:Option Addr,∃n1 n2:Nat,(e3=(.returned (.slice p3 n1 n2)))∧((Kept w0.heap.size F [] w5 w6)∧Fin w0 F w6 Q (.slice p3 n1 n2)))))))))):Gets Tryz.prog X.screen_Lines #[(.pointer (some s))] w0 F Q:=
 func_run mixed [] [] X.screen_Lines [SV.adr s 0] ⟨by trivial,trivial⟩ (by kernel_rfl) (by kernel_rfl) h
theorem v_screen_Cols {w0:World} {F:Nat→Prop} {Q:Value→World→Prop} (s:Addr) (h:∀w1:World,(Below w0.heap.size w0 w1)→Runs Tryz.prog X.screen_zero #[(.pointer (some s))] w1 (fun e1 w2=>∃b1:Bool,(e1=(.returned (.bool b1)))∧((Kept w0.heap.size F [] w1 w2)∧(((b1=true)→Fin w0 F w2 Q (.int .i64 0))∧((b1=false)→∃i1:Int,(At w2 s 1 [(.int .i64 i1)])∧Fin w0 F w2 Q (.int .i64 i1)))))):Gets Tryz.prog X.screen_Cols #[(.pointer (some s))] w0 F Q:=
 func_run mixed [] [] X.screen_Cols [SV.adr s 0] ⟨by trivial,trivial⟩ (by kernel_rfl) (by kernel_rfl) h
theorem v_screen_Cursor {w0:World} {F:Nat→Prop} {Q:Value→World→Prop} (s:Addr) (h:∀n1:Nat,(w0.heap.size≤n1)→∀w1:World,(Below w0.heap.size w0 w1)→(Mine w1 w0.heap.size [(n1,T.Cursor)])→Runs Tryz.prog X.screen_zero #[(.pointer (some s))] w1 (fun e1 w2=>∃b1:Bool,(e1=(.returned (.bool b1)))∧((Kept w0.heap.size F [n1] w1 w2)∧(((b1=true)→FinE w0 F w2 [n1] Q (.agg #[(.int .i64 0),(.int .i64 0),(.bool false)]))∧((b1=false)→∃cu1:Cu,(At w2 s 4 cu1.arr.toList)∧FinE w0 F w2 [n1] Q (.agg cu1.arr)))))):Gets Tryz.prog X.screen_Cursor #[(.pointer (some s))] w0 F Q:=
 func_run mixed [] [] X.screen_Cursor [SV.adr s 0] ⟨by trivial,trivial⟩ (by kernel_rfl) (by kernel_rfl) h
theorem v_screen_Modes {w0:World} {F:Nat→Prop} {Q:Value→World→Prop} (s:Addr) (h:∀n1:Nat,(w0.heap.size≤n1)→∀w1:World,(Below w0.heap.size w0 w1)→(Mine w1 w0.heap.size [(n1,T.Modes)])→Runs Tryz.prog X.screen_zero #[(.pointer (some s))] w1 (fun e1 w2=>∃b1:Bool,(e1=(.returned (.bool b1)))∧((Kept w0.heap.size F [n1] w1 w2)∧(((b1=true)→FinE w0 F w2 [n1] Q (.agg #[(.bool false),(.bool false),(.bool false),(.bool false),(.bool false),(.bool false),(.bool false),(.int .i64 0),(.int .i64 0)]))∧((b1=false)→∃md1:Md,(At w2 s 18 md1.arr.toList)∧FinE w0 F w2 [n1] Q (.agg md1.arr)))))):Gets Tryz.prog X.screen_Modes #[(.pointer (some s))] w0 F Q:=
 func_run mixed [] [] X.screen_Modes [SV.adr s 0] ⟨by trivial,trivial⟩ (by kernel_rfl) (by kernel_rfl) h
theorem v_screen_Pen {w0:World} {F:Nat→Prop} {Q:Value→World→Prop} (s:Addr) (h:∀n1:Nat,(w0.heap.size≤n1)→∀w1:World,(Below w0.heap.size w0 w1)→(Mine w1 w0.heap.size [(n1,T.Pen)])→Runs Tryz.prog X.screen_zero #[(.pointer (some s))] w1 (fun e1 w2=>∃b1:Bool,(e1=(.returned (.bool b1)))∧((Kept w0.heap.size F [n1] w1 w2)∧(((b1=true)→FinE w0 F w2 [n1] Q (.agg #[(.int .i64 0),(.int .u8 0),(.int .u8 0),(.int .u8 0),(.int .u8 0),(.int .i64 0),(.int .u8 0),(.int .u8 0),(.int .u8 0),(.int .u8 0),(.int .u8 0)]))∧((b1=false)→∃pn1:Pn,(At w2 s 7 pn1.arr.toList)∧FinE w0 F w2 [n1] Q (.agg pn1.arr)))))):Gets Tryz.prog X.screen_Pen #[(.pointer (some s))] w0 F Q:=
 func_run mixed [] [] X.screen_Pen [SV.adr s 0] ⟨by trivial,trivial⟩ (by kernel_rfl) (by kernel_rfl) h
theorem v_screen_Title {w0:World} {F:Nat→Prop} {Q:Value→World→Prop} (s:Addr) (h:∀w1:World,(Below w0.heap.size w0 w1)→Runs Tryz.prog X.screen_zero #[(.pointer (some s))] w1 (fun e1 w2=>∃b1:Bool,(e1=(.returned (.bool b1)))∧((Kept w0.heap.size F [] w1 w2)∧(((b1=true)→Fin w0 F w2 Q (.string ⟨[].toArray⟩))∧((b1=false)→∃s1:List UInt8,(At w2 s 69 [(.string ⟨s1.toArray⟩)])∧Fin w0 F w2 Q (.string ⟨s1.toArray⟩)))))):Gets Tryz.prog X.screen_Title #[(.pointer (some s))] w0 F Q:=
 func_run mixed [] [] X.screen_Title [SV.adr s 0] ⟨by trivial,trivial⟩ (by kernel_rfl) (by kernel_rfl) h
theorem v_screen_History {w0:World} {F:Nat→Prop} {Q:Value→World→Prop} (s:Addr) (h:∀w1:World,(Below w0.heap.size w0 w1)→Runs Tryz.prog X.screen_zero #[(.pointer (some s))] w1 (fun e1 w2=>∃b1:Bool,(e1=(.returned (.bool b1)))∧((Kept w0.heap.size F [] w1 w2)∧(((b1=true)→Fin w0 F w2 Q (.pointer none))∧((b1=false)→∃p1:Option Addr,(At w2 s 3 [(.pointer p1)])∧∀w3:World,(Below w2.heap.size w2 w3)→Runs Tryz.prog X.history_Copy #[(.pointer p1)] w3 (fun e2 w4=>∃p2:Option Addr,(e2=(.returned (.pointer p2)))∧((Kept w0.heap.size F [] w3 w4)∧Fin w0 F w4 Q (.pointer p2)))))))):Gets Tryz.prog X.screen_History #[(.pointer (some s))] w0 F Q:=
 func_run mixed [] [] X.screen_History [SV.adr s 0] ⟨by trivial,trivial⟩ (by kernel_rfl) (by kernel_rfl) h
theorem v_screen_index {w0:World} {F:Nat→Prop} {Q:Value→World→Prop} (s:Addr) (h:∀n1:Nat,(w0.heap.size≤n1)→∀n2:Nat,(w0.heap.size≤n2)→∃p1:Option Addr,(At w0 s 2 [(.pointer p1)])∧∀w1:World,(Below w0.heap.size w0 w1)→((w0.heap.size≤n1)∧(Whole w1 n1 T.p_screen_Screen [(.pointer (some s))]))→((w0.heap.size≤n2)∧(Whole w1 n2 T.s_Line [(.slice none 0 0)]))→(List.Nodup [n1,n2])→Runs Tryz.prog X.alternate_Pair_Do #[(.pointer p1),(.func (.func X.screen_index_1) #[] #[(.pointer (some ⟨n1,0,none⟩)),(.pointer (some ⟨n2,0,none⟩))])] w1 (fun e1 w2=>∃i1:Int,(e1=(.returned (.int .i64 i1)))∧((Kept w0.heap.size F [] w1 w2)∧∃p2:Option Addr,(Whole w2 n1 T.p_screen_Screen [(.pointer p2)])∧∃p3:Option Addr,∃n3 n4:Nat,(Whole w2 n2 T.s_Line [(.slice p3 n3 n4)])∧∀w3:World,(Below w2.heap.size w2 w3)→(Mine w3 w0.heap.size [(n1,T.p_screen_Screen),(n2,T.s_Line)])→Runs Tryz.prog X.screen_keep #[(.pointer p2),(.slice p3 n3 n4)] w3 (fun e2 w4=>(e2=(.returned (.tuple #[])))∧((Kept w0.heap.size F [n1,n2] w3 w4)∧Fin w0 F w4 Q (.int .i64 i1)))))):Gets Tryz.prog X.screen_index #[(.pointer (some s))] w0 F Q:=
 func_run mixed [] [] X.screen_index [SV.adr s 0] ⟨by trivial,trivial⟩ (by kernel_rfl) (by kernel_rfl) h
theorem v_screen_soften {w0:World} {F:Nat→Prop} {Q:Value→World→Prop} (s:Addr) (row:Int) (soft:Bool) (h:∀n1:Nat,(w0.heap.size≤n1)→∀n2:Nat,(w0.heap.size≤n2)→∃p1:Option Addr,(At w0 s 2 [(.pointer p1)])∧∀w1:World,(Below w0.heap.size w0 w1)→((w0.heap.size≤n1)∧(Whole w1 n1 T.int [(.int .i64 row)]))→((w0.heap.size≤n2)∧(Whole w1 n2 T.bool [(.bool soft)]))→(List.Nodup [n1,n2])→Runs Tryz.prog X.alternate_Pair_Do #[(.pointer p1),(.func (.func X.screen_soften_1) #[] #[(.pointer (some ⟨n1,0,none⟩)),(.pointer (some ⟨n2,0,none⟩))])] w1 (fun e1 w2=>∃i1:Int,(e1=(.returned (.int .i64 i1)))∧((Kept w0.heap.size F [] w1 w2)∧∃i2:Int,(Whole w2 n1 T.int [(.int .i64 i2)])∧∃b1:Bool,(Whole w2 n2 T.bool [(.bool b1)])∧Fin w0 F w2 Q (.int .i64 i1)))):Gets Tryz.prog X.screen_soften #[(.pointer (some s)),(.int .i64 row),(.bool soft)] w0 F Q:=
 func_run mixed [] [] X.screen_soften [SV.adr s 0,SV.int IntKind.i64 row,SV.bool (BE.ok soft)] ⟨by trivial,by trivial,by trivial,trivial⟩ (by kernel_rfl) (by kernel_rfl) h
theorem v_screen_reset {w0:World} {F:Nat→Prop} {Q:Value→World→Prop} (s:Addr) (h:∃i1:Int,(At w0 s 0 [(.int .i64 i1)])∧∃i2:Int,(At w0 s 1 [(.int .i64 i2)])∧∀w1:World,(Below w0.heap.size w0 w1)→Runs Tryz.prog X.alternate_New #[(.int .i64 i1),(.int .i64 i2)] w1 (fun e1 w2=>∃p1:Option Addr,∃i3:Int,(e1=(.returned (.tuple #[(.pointer p1),(.int .i64 i3)])))∧((Kept w0.heap.size F [] w1 w2)∧(((CanPut w2 s 2 1)∧(Away w0.heap.size F [] s.block))∧∀w3:World,(Put w2 [] s 2 [(.pointer p1)] w3)→((i3≠0)→Fin w0 F w3 Q (.int .i64 i3))∧((i3=0)→∃i4:Int,(At w3 s 1 [(.int .i64 i4)])∧∀w4:World,(Below w3.heap.size w3 w4)→Runs Tryz.prog X.tabs_New #[(.int .i64 i4)] w4 (fun e2 w5=>∃p2:Option Addr,∃i5:Int,(e2=(.returned (.tuple #[(.pointer p2),(.int .i64 i5)])))∧((Kept w0.heap.size F [] w4 w5)∧(((CanPut w5 s 29 1)∧(Away w0.heap.size F [] s.block))∧∀w6:World,(Put w5 [] s 29 [(.pointer p2)] w6)→((i5≠0)→Fin w0 F w6 Q (.int .i64 i5))∧((i5=0)→∃i6:Int,(At w6 s 0 [(.int .i64 i6)])∧∀w7:World,(Below w6.heap.size w6 w7)→Runs Tryz.prog X.region_Whole #[(.int .i64 i6)] w7 (fun e3 w8=>∃rg1:Rg,∃i7:Int,(e3=(.returned (.tuple #[(.agg rg1.arr),(.int .i64 i7)])))∧((Kept w0.heap.size F [] w7 w8)∧(((CanPut w8 s 27 2)∧(Away w0.heap.size F [] s.block))∧∀w9:World,(Put w8 [] s 27 rg1.arr.toList w9)→∀w10:World,(Below w9.heap.size w9 w10)→Runs Tryz.prog X.modes_New #[] w10 (fun e4 w11=>∃md1:Md,(e4=(.returned (.agg md1.arr)))∧((Kept w0.heap.size F [] w10 w11)∧(((CanPut w11 s 4 3)∧(Away w0.heap.size F [] s.block))∧∀w12:World,(Put w11 [] s 4 [(.int .i64 0),(.int .i64 0),(.bool false)] w12)→((CanPut w12 s 7 11)∧(Away w0.heap.size F [] s.block))∧∀w13:World,(Put w12 [] s 7 [(.int .i64 0),(.int .u8 0),(.int .u8 0),(.int .u8 0),(.int .u8 0),(.int .i64 0),(.int .u8 0),(.int .u8 0),(.int .u8 0),(.int .u8 0),(.int .u8 0)] w13)→((CanPut w13 s 18 9)∧(Away w0.heap.size F [] s.block))∧∀w14:World,(Put w13 [] s 18 md1.arr.toList w14)→((CanPut w14 s 30 3)∧(Away w0.heap.size F [] s.block))∧∀w15:World,(Put w14 [] s 30 [(.int .i64 0),(.int .i64 0),(.int .i64 0)] w15)→∀w16:World,(Below w15.heap.size w15 w16)→Runs Tryz.prog X.saved_New #[] w16 (fun e5 w17=>∃sv1:Sv,(e5=(.returned (.agg sv1.arr)))∧((Kept w0.heap.size F [] w16 w17)∧∀w18:World,(Below w17.heap.size w17 w18)→Runs Tryz.prog X.saved_New #[] w18 (fun e6 w19=>∃sv2:Sv,(e6=(.returned (.agg sv2.arr)))∧((Kept w0.heap.size F [] w18 w19)∧(((CanPut w19 s 33 36)∧(Away w0.heap.size F [] s.block))∧∀w20:World,(Put w19 [] s 33 [(.int .i64 sv1.cu.row),(.int .i64 sv1.cu.col),(.bool sv1.cu.pend),(.int .i64 sv1.p.f.k),(.int .u8 sv1.p.f.i),(.int .u8 sv1.p.f.r),(.int .u8 sv1.p.f.g),(.int .u8 sv1.p.f.b),(.int .i64 sv1.p.b.k),(.int .u8 sv1.p.b.i),(.int .u8 sv1.p.b.r),(.int .u8 sv1.p.b.g),(.int .u8 sv1.p.b.b),(.int .u8 sv1.p.fl),(.bool sv1.org),(.int .i64 sv1.cs.g0),(.int .i64 sv1.cs.g1),(.int .i64 sv1.cs.act),(.int .i64 sv2.cu.row),(.int .i64 sv2.cu.col),(.bool sv2.cu.pend),(.int .i64 sv2.p.f.k),(.int .u8 sv2.p.f.i),(.int .u8 sv2.p.f.r),(.int .u8 sv2.p.f.g),(.int .u8 sv2.p.f.b),(.int .i64 sv2.p.b.k),(.int .u8 sv2.p.b.i),(.int .u8 sv2.p.b.r),(.int .u8 sv2.p.b.g),(.int .u8 sv2.p.b.b),(.int .u8 sv2.p.fl),(.bool sv2.org),(.int .i64 sv2.cs.g0),(.int .i64 sv2.cs.g1),(.int .i64 sv2.cs.act)] w20)→((CanPut w20 s 70 1)∧(Away w0.heap.size F [] s.block))∧∀w21:World,(Put w20 [] s 70 [(.string ⟨[].toArray⟩)] w21)→Fin w0 F w21 Q (.int .i64 i7))))))))))))))))))))):Gets Tryz.prog X.screen_reset #[(.pointer (some s))] w0 F Q:=
 func_run mixed [] [] X.screen_reset [SV.adr s 0] ⟨by trivial,trivial⟩ (by kernel_rfl) (by kernel_rfl) h
theorem v_screen_New {w0:World} {F:Nat→Prop} {Q:Value→World→Prop} (c:Cf) (h:∀n1:Nat,(w0.heap.size≤n1)→∀w1:World,(Below w0.heap.size w0 w1)→(Mine w1 w0.heap.size [(n1,T.TermConfig)])→Runs Tryz.prog X.screen_right #[(.agg c.arr)] w1 (fun e1 w2=>∃b1:Bool,(e1=(.returned (.bool b1)))∧((Kept w0.heap.size F [n1] w1 w2)∧(((b1=false)→Fin w0 F w2 Q (.tuple #[(.pointer none),(.int .i64 2)]))∧((b1=true)→∀w3:World,(Below w2.heap.size w2 w3)→(Mine w3 w0.heap.size [(n1,T.TermConfig)])→Runs Tryz.prog X.history_New #[(.int .i64 c.hist)] w3 (fun e2 w4=>∃p1:Option Addr,∃i1:Int,(e2=(.returned (.tuple #[(.pointer p1),(.int .i64 i1)])))∧((Kept w0.heap.size F [n1] w3 w4)∧(((i1≠0)→Fin w0 F w4 Q (.tuple #[(.pointer none),(.int .i64 i1)]))∧((i1=0)→∀n2:Nat,(w4.heap.size≤n2)→∀w5:World,(Below w4.heap.size w4 w5)→((w0.heap.size≤n1)∧(Whole w5 n1 T.TermConfig c.arr.toList))→((w0.heap.size≤n2)∧(Whole w5 n2 T.screen_Screen [(.int .i64 c.rows),(.int .i64 c.cols),(.pointer none),(.pointer p1),(.int .i64 0),(.int .i64 0),(.bool false),(.int .i64 0),(.int .u8 0),(.int .u8 0),(.int .u8 0),(.int .u8 0),(.int .i64 0),(.int .u8 0),(.int .u8 0),(.int .u8 0),(.int .u8 0),(.int .u8 0),(.bool false),(.bool false),(.bool false),(.bool false),(.bool false),(.bool false),(.bool false),(.int .i64 0),(.int .i64 0),(.int .i64 0),(.int .i64 0),(.pointer none),(.int .i64 0),(.int .i64 0),(.int .i64 0),(.int .i64 0),(.int .i64 0),(.bool false),(.int .i64 0),(.int .u8 0),(.int .u8 0),(.int .u8 0),(.int .u8 0),(.int .i64 0),(.int .u8 0),(.int .u8 0),(.int .u8 0),(.int .u8 0),(.int .u8 0),(.bool false),(.int .i64 0),(.int .i64 0),(.int .i64 0),(.int .i64 0),(.int .i64 0),(.bool false),(.int .i64 0),(.int .u8 0),(.int .u8 0),(.int .u8 0),(.int .u8 0),(.int .i64 0),(.int .u8 0),(.int .u8 0),(.int .u8 0),(.int .u8 0),(.int .u8 0),(.bool false),(.int .i64 0),(.int .i64 0),(.int .i64 0),(.string ⟨[].toArray⟩),(.string ⟨[].toArray⟩),(.string ⟨[].toArray⟩),(.int .i64 0)]))→(List.Nodup [n1,n2])→Runs Tryz.prog X.screen_reset #[(.pointer (some ⟨n2,0,none⟩))] w5 (fun e3 w6=>∃i2:Int,(e3=(.returned (.int .i64 i2)))∧((Kept w0.heap.size F [n1] w5 w6)∧∃i3 i4:Int,∃p2 p3:Option Addr,∃i5 i6:Int,∃b2:Bool,∃i7 i8 i9 i10 i11 i12 i13 i14 i15 i16 i17:Int,∃b3 b4 b5 b6 b7 b8 b9:Bool,∃i18 i19 i20 i21:Int,∃p4:Option Addr,∃i22 i23 i24 i25 i26:Int,∃b10:Bool,∃i27 i28 i29 i30 i31 i32 i33 i34 i35 i36 i37:Int,∃b11:Bool,∃i38 i39 i40 i41 i42:Int,∃b12:Bool,∃i43 i44 i45 i46 i47 i48 i49 i50 i51 i52 i53:Int,∃b13:Bool,∃i54 i55 i56:Int,∃s1 s2 s3:List UInt8,∃i57:Int,(Whole w6 n2 T.screen_Screen [(.int .i64 i3),(.int .i64 i4),(.pointer p2),(.pointer p3),(.int .i64 i5),(.int .i64 i6),(.bool b2),(.int .i64 i7),(.int .u8 i8),(.int .u8 i9),(.int .u8 i10),(.int .u8 i11),(.int .i64 i12),(.int .u8 i13),(.int .u8 i14),(.int .u8 i15),(.int .u8 i16),(.int .u8 i17),(.bool b3),(.bool b4),(.bool b5),(.bool b6),(.bool b7),(.bool b8),(.bool b9),(.int .i64 i18),(.int .i64 i19),(.int .i64 i20),(.int .i64 i21),(.pointer p4),(.int .i64 i22),(.int .i64 i23),(.int .i64 i24),(.int .i64 i25),(.int .i64 i26),(.bool b10),(.int .i64 i27),(.int .u8 i28),(.int .u8 i29),(.int .u8 i30),(.int .u8 i31),(.int .i64 i32),(.int .u8 i33),(.int .u8 i34),(.int .u8 i35),(.int .u8 i36),(.int .u8 i37),(.bool b11),(.int .i64 i38),(.int .i64 i39),(.int .i64 i40),(.int .i64 i41),(.int .i64 i42),(.bool b12),(.int .i64 i43),(.int .u8 i44),(.int .u8 i45),(.int .u8 i46),(.int .u8 i47),(.int .i64 i48),(.int .u8 i49),(.int .u8 i50),(.int .u8 i51),(.int .u8 i52),(.int .u8 i53),(.bool b13),(.int .i64 i54),(.int .i64 i55),(.int .i64 i56),(.string ⟨s1.toArray⟩),(.string ⟨s2.toArray⟩),(.string ⟨s3.toArray⟩),(.int .i64 i57)])∧∀w7:World,(Below w6.heap.size w6 w7)→(Keeps F w0 w7)→((w0.heap.size≤n1)∧(Whole w7 n1 T.TermConfig c.arr.toList))→((w0.heap.size≤n2)∧(Whole w7 n2 T.screen_Screen [(.int .i64 i3),(.int .i64 i4),(.pointer p2),(.pointer p3),(.int .i64 i5),(.int .i64 i6),(.bool b2),(.int .i64 i7),(.int .u8 i8),(.int .u8 i9),(.int .u8 i10),(.int .u8 i11),(.int .i64 i12),(.int .u8 i13),(.int .u8 i14),(.int .u8 i15),(.int .u8 i16),(.int .u8 i17),(.bool b3),(.bool b4),(.bool b5),(.bool b6),(.bool b7),(.bool b8),(.bool b9),(.int .i64 i18),(.int .i64 i19),(.int .i64 i20),(.int .i64 i21),(.pointer p4),(.int .i64 i22),(.int .i64 i23),(.int .i64 i24),(.int .i64 i25),(.int .i64 i26),(.bool b10),(.int .i64 i27),(.int .u8 i28),(.int .u8 i29),(.int .u8 i30),(.int .u8 i31),(.int .i64 i32),(.int .u8 i33),(.int .u8 i34),(.int .u8 i35),(.int .u8 i36),(.int .u8 i37),(.bool b11),(.int .i64 i38),(.int .i64 i39),(.int .i64 i40),(.int .i64 i41),(.int .i64 i42),(.bool b12),(.int .i64 i43),(.int .u8 i44),(.int .u8 i45),(.int .u8 i46),(.int .u8 i47),(.int .i64 i48),(.int .u8 i49),(.int .u8 i50),(.int .u8 i51),(.int .u8 i52),(.int .u8 i53),(.bool b13),(.int .i64 i54),(.int .i64 i55),(.int .i64 i56),(.string ⟨s1.toArray⟩),(.string ⟨s2.toArray⟩),(.string ⟨s3.toArray⟩),(.int .i64 i57)]))→Q (.tuple #[(.pointer (some ⟨n2,0,none⟩)),(.int .i64 i2)]) w7))))))))))):Gets Tryz.prog X.screen_New #[(.agg c.arr)] w0 F Q:=
 func_run mixed [] [] X.screen_New [SV.agg (Cf.cod.enc c)] ⟨okA _ _,trivial⟩ (by kernel_rfl) (by kernel_rfl) h
end Go.Proofs.YtjhhiindeignaaaGreatDoor
namespace Go.Proofs.YtjhhiindeignaaaGreatDoor
open Go Go.RowKit Go.Sy Go.Rep
set_option maxRecDepth 100000
theorem v_screen_act {w0:World} {F:Nat→Prop} {Q:Value→World→Prop} (s:Addr) (a:Ac) (h:∀n1:Nat,(w0.heap.size≤n1)→((a.kind<1)→Fin w0 F w0 Q (.int .i64 2))∧(((1:Int)≤a.kind)→(((5:Int)<a.kind)→Fin w0 F w0 Q (.int .i64 2))∧((a.kind≤5)→∃cu1:Cu,(At w0 s 4 cu1.arr.toList)∧∃md1:Md,(At w0 s 18 md1.arr.toList)∧∀w1:World,(Below w0.heap.size w0 w1)→(Mine w1 w0.heap.size [(n1,T.Action)])→Runs Tryz.prog X.screen_area #[(.pointer (some s))] w1 (fun e1 w2=>∃ar1:Ar,(e1=(.returned (.agg ar1.arr)))∧((Kept w0.heap.size F [n1] w1 w2)∧((At w2 s 18 md1.arr.toList)∧((At w2 s 4 cu1.arr.toList)∧∀w3:World,(Below w2.heap.size w2 w3)→(Mine w3 w0.heap.size [(n1,T.Action)])→Runs Tryz.prog X.reply_Answer #[(.agg a.arr),(.agg ar1.arr),(.agg cu1.arr),(.agg md1.arr)] w3 (fun e2 w4=>∃s1:List UInt8,∃i1:Int,(e2=(.returned (.tuple #[(.string ⟨s1.toArray⟩),(.int .i64 i1)])))∧((Kept w0.heap.size F [n1] w3 w4)∧(((i1≠0)→Fin w0 F w4 Q (.int .i64 i1))∧((i1=0)→∀w5:World,(Below w4.heap.size w4 w5)→(Mine w5 w0.heap.size [(n1,T.Action)])→Runs Tryz.prog X.screen_answer #[(.pointer (some s)),(.string ⟨s1.toArray⟩)] w5 (fun e3 w6=>(e3=(.returned (.tuple #[])))∧((Kept w0.heap.size F [n1] w5 w6)∧(((a.kind=1)→∀w19:World,(Below w6.heap.size w6 w19)→(Mine w19 w0.heap.size [(n1,T.Action)])→Runs Tryz.prog X.screen_print #[(.pointer (some s)),(.int .i32 a.rune)] w19 (fun e8 w20=>∃i5:Int,(e8=(.returned (.int .i64 i5)))∧((Kept w0.heap.size F [n1] w19 w20)∧Fin w0 F w20 Q (.int .i64 i5))))∧((a.kind≠1)→((a.kind=2)→∀w16:World,(Below w6.heap.size w6 w16)→(Mine w16 w0.heap.size [(n1,T.Action)])→Runs Tryz.prog X.screen_execute #[(.pointer (some s)),(.int .i32 a.rune)] w16 (fun e7 w17=>∃i4:Int,(e7=(.returned (.int .i64 i4)))∧((Kept w0.heap.size F [n1] w16 w17)∧Fin w0 F w17 Q (.int .i64 i4))))∧((a.kind≠2)→((a.kind=3)→∀w13:World,(Below w6.heap.size w6 w13)→(Mine w13 w0.heap.size [(n1,T.Action)])→Runs Tryz.prog X.screen_escape #[(.pointer (some s)),(.agg a.arr)] w13 (fun e6 w14=>∃i3:Int,(e6=(.returned (.int .i64 i3)))∧((Kept w0.heap.size F [n1] w13 w14)∧Fin w0 F w14 Q (.int .i64 i3))))∧((a.kind≠3)→((a.kind=4)→∀w10:World,(Below w6.heap.size w6 w10)→(Mine w10 w0.heap.size [(n1,T.Action)])→Runs Tryz.prog X.screen_control #[(.pointer (some s)),(.agg a.arr)] w10 (fun e5 w11=>∃i2:Int,(e5=(.returned (.int .i64 i2)))∧((Kept w0.heap.size F [n1] w10 w11)∧Fin w0 F w11 Q (.int .i64 i2))))∧((a.kind≠4)→∀w7:World,(Below w6.heap.size w6 w7)→(Mine w7 w0.heap.size [(n1,T.Action)])→Runs Tryz.prog X.screen_command #[(.pointer (some s)),(.string ⟨a.text.toArray⟩)] w7 (fun e4 w8=>(e4=(.returned (.tuple #[])))∧((Kept w0.heap.size F [n1] w7 w8)∧Fin w0 F w8 Q (.int .i64 0))))))))))))))))))))):Gets Tryz.prog X.screen_act #[(.pointer (some s)),(.agg a.arr)] w0 F Q:=
 func_run mixed [] [] X.screen_act [SV.adr s 0,SV.agg (Ac.cod.enc a)] ⟨by trivial,okA _ _,trivial⟩ (by kernel_rfl) (by kernel_rfl) h
theorem v_screen_print {w0:World} {F:Nat→Prop} {Q:Value→World→Prop} (s:Addr) (r:Int) (h:∀n1:Nat,(w0.heap.size≤n1)→∀n2:Nat,(w0.heap.size≤n2)→∃cs1:Cs,(At w0 s 30 cs1.arr.toList)∧∀w1:World,(Below w0.heap.size w0 w1)→(Mine w1 w0.heap.size [(n1,T.p_screen_Screen),(n2,T.int32)])→Runs Tryz.prog X.charset_Map #[(.agg cs1.arr),(.int .i32 r)] w1 (fun e1 w2=>∃i1:Int,(e1=(.returned (.int .i32 i1)))∧((Kept w0.heap.size F [n1,n2] w1 w2)∧∀w3:World,(Ext w2 [n2] w3)→(Mine w3 w0.heap.size [(n1,T.p_screen_Screen),(n2,T.int32)])→Runs Tryz.prog X.width_Of #[(.int .i32 i1)] w3 (fun e2 w4=>∃i2:Int,(e2=(.returned (.int .i64 i2)))∧((Kept w0.heap.size F [n1,n2] w3 w4)∧(((i2<0)→Fin w0 F w4 Q (.int .i64 0))∧(((0:Int)≤i2)→((i2=0)→∃p9:Option Addr,(At w4 s 2 [(.pointer p9)])∧∀w21:World,(Below w4.heap.size w4 w21)→((w0.heap.size≤n1)∧(Whole w21 n1 T.p_screen_Screen [(.pointer (some s))]))→((w0.heap.size≤n2)∧(Whole w21 n2 T.int32 [(.int .i32 i1)]))→(List.Nodup [n1,n2])→Runs Tryz.prog X.alternate_Pair_Do #[(.pointer p9),(.func (.func X.screen_print_1) #[] #[(.pointer (some ⟨n1,0,none⟩)),(.pointer (some ⟨n2,0,none⟩))])] w21 (fun e8 w22=>∃i12:Int,(e8=(.returned (.int .i64 i12)))∧((Kept w0.heap.size F [] w21 w22)∧∃p10:Option Addr,(Whole w22 n1 T.p_screen_Screen [(.pointer p10)])∧∃i13:Int,(Whole w22 n2 T.int32 [(.int .i32 i13)])∧Fin w0 F w22 Q (.int .i64 i12))))∧((i2≠0)→∀n3:Nat,(w4.heap.size≤n3)→∃p1:Option Addr,(At w4 s 2 [(.pointer p1)])∧∀w5:World,(Below w4.heap.size w4 w5)→((w0.heap.size≤n1)∧(Whole w5 n1 T.p_screen_Screen [(.pointer (some s))]))→((w0.heap.size≤n2)∧(Whole w5 n2 T.int32 [(.int .i32 i1)]))→((w0.heap.size≤n3)∧(Whole w5 n3 T.bool [(.bool false)]))→(List.Nodup [n1,n2,n3])→Runs Tryz.prog X.alternate_Pair_Do #[(.pointer p1),(.func (.func X.screen_print_2) #[] #[(.pointer (some ⟨n1,0,none⟩)),(.pointer (some ⟨n2,0,none⟩)),(.pointer (some ⟨n3,0,none⟩))])] w5 (fun e3 w6=>∃i3:Int,(e3=(.returned (.int .i64 i3)))∧((Kept w0.heap.size F [] w5 w6)∧∃p2:Option Addr,(Whole w6 n1 T.p_screen_Screen [(.pointer p2)])∧∃i4:Int,(Whole w6 n2 T.int32 [(.int .i32 i4)])∧∃b1:Bool,(Whole w6 n3 T.bool [(.bool b1)])∧(((i3=0)→((b1=true)→∀w15:World,(Below w6.heap.size w6 w15)→(Mine w15 w0.heap.size [(n1,T.p_screen_Screen),(n2,T.int32),(n3,T.bool)])→Runs Tryz.prog X.screen_wrap #[(.pointer p2)] w15 (fun e6 w16=>∃i9:Int,(e6=(.returned (.int .i64 i9)))∧((Kept w0.heap.size F [n1,n2,n3] w15 w16)∧(((i9≠0)→Fin w0 F w16 Q (.int .i64 i9))∧((i9=0)→∃a3:Addr,(p2=(some a3))∧∃p7:Option Addr,(At w16 a3 2 [(.pointer p7)])∧∀w17:World,(Below w16.heap.size w16 w17)→((w0.heap.size≤n1)∧(Whole w17 n1 T.p_screen_Screen [(.pointer p2)]))→((w0.heap.size≤n2)∧(Whole w17 n2 T.int32 [(.int .i32 i4)]))→((w0.heap.size≤n3)∧(Whole w17 n3 T.bool [(.bool b1)]))→(List.Nodup [n1,n2,n3])→Runs Tryz.prog X.alternate_Pair_Do #[(.pointer p7),(.func (.func X.screen_print_3) #[] #[(.pointer (some ⟨n1,0,none⟩)),(.pointer (some ⟨n2,0,none⟩))])] w17 (fun e7 w18=>∃i10:Int,(e7=(.returned (.int .i64 i10)))∧((Kept w0.heap.size F [n3] w17 w18)∧∃p8:Option Addr,(Whole w18 n1 T.p_screen_Screen [(.pointer p8)])∧∃i11:Int,(Whole w18 n2 T.int32 [(.int .i32 i11)])∧Fin w0 F w18 Q (.int .i64 i10))))))))∧((b1=false)→((i3≠0)→Fin w0 F w6 Q (.int .i64 i3))∧((i3=0)→∃a2:Addr,(p2=(some a2))∧∃p5:Option Addr,(At w6 a2 2 [(.pointer p5)])∧∀w11:World,(Below w6.heap.size w6 w11)→((w0.heap.size≤n1)∧(Whole w11 n1 T.p_screen_Screen [(.pointer p2)]))→((w0.heap.size≤n2)∧(Whole w11 n2 T.int32 [(.int .i32 i4)]))→((w0.heap.size≤n3)∧(Whole w11 n3 T.bool [(.bool b1)]))→(List.Nodup [n1,n2,n3])→Runs Tryz.prog X.alternate_Pair_Do #[(.pointer p5),(.func (.func X.screen_print_3) #[] #[(.pointer (some ⟨n1,0,none⟩)),(.pointer (some ⟨n2,0,none⟩))])] w11 (fun e5 w12=>∃i7:Int,(e5=(.returned (.int .i64 i7)))∧((Kept w0.heap.size F [n3] w11 w12)∧∃p6:Option Addr,(Whole w12 n1 T.p_screen_Screen [(.pointer p6)])∧∃i8:Int,(Whole w12 n2 T.int32 [(.int .i32 i8)])∧Fin w0 F w12 Q (.int .i64 i7))))))∧((i3≠0)→((i3≠0)→Fin w0 F w6 Q (.int .i64 i3))∧((i3=0)→∃a1:Addr,(p2=(some a1))∧∃p3:Option Addr,(At w6 a1 2 [(.pointer p3)])∧∀w7:World,(Below w6.heap.size w6 w7)→((w0.heap.size≤n1)∧(Whole w7 n1 T.p_screen_Screen [(.pointer p2)]))→((w0.heap.size≤n2)∧(Whole w7 n2 T.int32 [(.int .i32 i4)]))→((w0.heap.size≤n3)∧(Whole w7 n3 T.bool [(.bool b1)]))→(List.Nodup [n1,n2,n3])→Runs Tryz.prog X.alternate_Pair_Do #[(.pointer p3),(.func (.func X.screen_print_3) #[] #[(.pointer (some ⟨n1,0,none⟩)),(.pointer (some ⟨n2,0,none⟩))])] w7 (fun e4 w8=>∃i5:Int,(e4=(.returned (.int .i64 i5)))∧((Kept w0.heap.size F [n3] w7 w8)∧∃p4:Option Addr,(Whole w8 n1 T.p_screen_Screen [(.pointer p4)])∧∃i6:Int,(Whole w8 n2 T.int32 [(.int .i32 i6)])∧Fin w0 F w8 Q (.int .i64 i5)))))))))))))))):Gets Tryz.prog X.screen_print #[(.pointer (some s)),(.int .i32 r)] w0 F Q:=
 func_run mixed [] [] X.screen_print [SV.adr s 0,SV.int IntKind.i32 r] ⟨by trivial,by trivial,trivial⟩ (by kernel_rfl) (by kernel_rfl) h
theorem v_screen_execute {w0:World} {F:Nat→Prop} {Q:Value→World→Prop} (s:Addr) (r:Int) (h:∃I1:Int→World→Prop,(((r=8)→∃cu3:Cu,(At w0 s 4 cu3.arr.toList)∧∀w27:World,(Below w0.heap.size w0 w27)→Runs Tryz.prog X.screen_area #[(.pointer (some s))] w27 (fun e6 w28=>∃ar2:Ar,(e6=(.returned (.agg ar2.arr)))∧((Kept w0.heap.size F [] w27 w28)∧((At w28 s 4 cu3.arr.toList)∧∀w29:World,(Below w28.heap.size w28 w29)→Runs Tryz.prog X.motion_Left #[(.agg ar2.arr),(.agg cu3.arr),(.int .i64 1)] w29 (fun e7 w30=>∃cu4:Cu,∃i6:Int,(e7=(.returned (.tuple #[(.agg cu4.arr),(.int .i64 i6)])))∧((Kept w0.heap.size F [] w29 w30)∧(((CanPut w30 s 4 3)∧(Away w0.heap.size F [] s.block))∧∀w31:World,(Put w30 [] s 4 cu4.arr.toList w31)→∀w32:World,(Below w31.heap.size w31 w32)→I1 i6 w32)))))))∧((r≠8)→((r=9)→∀w24:World,(Below w0.heap.size w0 w24)→Runs Tryz.prog X.screen_tab #[(.pointer (some s)),(.int .i64 1)] w24 (fun e5 w25=>∃i5:Int,(e5=(.returned (.int .i64 i5)))∧((Kept w0.heap.size F [] w24 w25)∧∀w26:World,(Below w25.heap.size w25 w26)→I1 i5 w26)))∧((r≠9)→∃I2:Bool→World→Prop,(((r=10)→∀w23:World,(Below w0.heap.size w0 w23)→((r=10)→I2 true w23)∧((r≠10)→I2 false w23))∧((r≠10)→((r=11)→∀w22:World,(Below w0.heap.size w0 w22)→((r=11)→I2 true w22)∧((r≠11)→I2 false w22))∧((r≠11)→∀w21:World,(Below w0.heap.size w0 w21)→((r=12)→I2 true w21)∧((r≠12)→I2 false w21))))∧∀b1:Bool,∀w3:World,(Keeps F w0 w3)→(I2 b1 w3)→((b1=true)→∀w18:World,(Below w3.heap.size w3 w18)→Runs Tryz.prog X.screen_index #[(.pointer (some s))] w18 (fun e4 w19=>∃i4:Int,(e4=(.returned (.int .i64 i4)))∧((Kept w0.heap.size F [] w18 w19)∧∀w20:World,(Below w19.heap.size w19 w20)→I1 i4 w20)))∧((b1=false)→((r=13)→∃cu1:Cu,(At w3 s 4 cu1.arr.toList)∧∀w12:World,(Below w3.heap.size w3 w12)→Runs Tryz.prog X.screen_area #[(.pointer (some s))] w12 (fun e2 w13=>∃ar1:Ar,(e2=(.returned (.agg ar1.arr)))∧((Kept w0.heap.size F [] w12 w13)∧((At w13 s 4 cu1.arr.toList)∧∀w14:World,(Below w13.heap.size w13 w14)→Runs Tryz.prog X.motion_Return #[(.agg ar1.arr),(.agg cu1.arr)] w14 (fun e3 w15=>∃cu2:Cu,∃i3:Int,(e3=(.returned (.tuple #[(.agg cu2.arr),(.int .i64 i3)])))∧((Kept w0.heap.size F [] w14 w15)∧(((CanPut w15 s 4 3)∧(Away w0.heap.size F [] s.block))∧∀w16:World,(Put w15 [] s 4 cu2.arr.toList w16)→∀w17:World,(Below w16.heap.size w16 w17)→I1 i3 w17)))))))∧((r≠13)→∃I3:Bool→World→Prop,(((r=14)→∀w11:World,(Below w3.heap.size w3 w11)→((r=14)→I3 true w11)∧((r≠14)→I3 false w11))∧((r≠14)→∀w10:World,(Below w3.heap.size w3 w10)→((r=15)→I3 true w10)∧((r≠15)→I3 false w10)))∧∀b2:Bool,∀w4:World,(Keeps F w0 w4)→(I3 b2 w4)→((b2=true)→∃cs1:Cs,(At w4 s 30 cs1.arr.toList)∧((I64 r)∧((I64 (15-r))∧∀w6:World,(Below w4.heap.size w4 w6)→Runs Tryz.prog X.charset_Shift #[(.agg cs1.arr),(.int .i64 (15-r))] w6 (fun e1 w7=>∃cs2:Cs,∃i2:Int,(e1=(.returned (.tuple #[(.agg cs2.arr),(.int .i64 i2)])))∧((Kept w0.heap.size F [] w6 w7)∧(((CanPut w7 s 30 3)∧(Away w0.heap.size F [] s.block))∧∀w8:World,(Put w7 [] s 30 cs2.arr.toList w8)→∀w9:World,(Below w8.heap.size w8 w9)→I1 i2 w9))))))∧((b2=false)→∀w5:World,(Below w4.heap.size w4 w5)→I1 0 w5))))))∧∀i1:Int,∀w1:World,(Keeps F w0 w1)→(I1 i1 w1)→Fin w0 F w1 Q (.int .i64 i1)):Gets Tryz.prog X.screen_execute #[(.pointer (some s)),(.int .i32 r)] w0 F Q:=
 func_run mixed [] [⟨9,[25],[]⟩,⟨14,[46],[]⟩,⟨15,[4],[]⟩] X.screen_execute [SV.adr s 0,SV.int IntKind.i32 r] ⟨by trivial,by trivial,trivial⟩ (by kernel_rfl) (by kernel_rfl) h
end Go.Proofs.YtjhhiindeignaaaGreatDoor
namespace Go.Proofs.YtjhhiindeignaaaGreatDoor
open Go Go.RowKit Go.Sy Go.Rep
set_option maxRecDepth 100000
theorem v_screen_wrap {w0:World} {F:Nat→Prop} {Q:Value→World→Prop} (s:Addr) (h:∃i1:Int,(At w0 s 4 [(.int .i64 i1)])∧∀w1:World,(Below w0.heap.size w0 w1)→Runs Tryz.prog X.screen_soften #[(.pointer (some s)),(.int .i64 i1),(.bool true)] w1 (fun e1 w2=>∃i2:Int,(e1=(.returned (.int .i64 i2)))∧((Kept w0.heap.size F [] w1 w2)∧(((i2≠0)→Fin w0 F w2 Q (.int .i64 i2))∧((i2=0)→∀w3:World,(Below w2.heap.size w2 w3)→Runs Tryz.prog X.screen_index #[(.pointer (some s))] w3 (fun e2 w4=>∃i3:Int,(e2=(.returned (.int .i64 i3)))∧((Kept w0.heap.size F [] w3 w4)∧(((i3≠0)→Fin w0 F w4 Q (.int .i64 i3))∧((i3=0)→∃cu1:Cu,(At w4 s 4 cu1.arr.toList)∧((∀w24:World,(Below w4.heap.size w4 w24)→Runs Tryz.prog X.screen_area #[(.pointer (some s))] w24 (fun e8 w25=>∃ar2:Ar,(e8=(.returned (.agg ar2.arr)))∧((Kept w0.heap.size F [] w24 w25)∧((At w25 s 4 cu1.arr.toList)∧((∀w43:World,(Below w25.heap.size w25 w43)→Runs Tryz.prog X.motion_Return #[(.agg ar2.arr),(.agg cu1.arr)] w43 (fun e13 w44=>∃cu4:Cu,∃i20:Int,(e13=(.returned (.tuple #[(.agg cu4.arr),(.int .i64 i20)])))∧((Kept w0.heap.size F [] w43 w44)∧∀n3:Nat,(w44.heap.size≤n3)→((i20≠0)→Fin w0 F w44 Q (.int .i64 i20))∧((i20=0)→((CanPut w44 s 4 3)∧(Away w0.heap.size F [n3] s.block))∧∀w45:World,(Put w44 [] s 4 cu4.arr.toList w45)→∃i21:Int,(At w45 s 28 [(.int .i64 i21)])∧(((i1=i21)→∃i24:Int,(At w45 s 27 [(.int .i64 i24)])∧(((i24<i1)→(I64 (i1-1))∧∀w56:World,(Below w45.heap.size w45 w56)→(Mine w56 w0.heap.size [(n3,T.Cursor)])→Runs Tryz.prog X.screen_soften #[(.pointer (some s)),(.int .i64 (i1-1)),(.bool true)] w56 (fun e16 w57=>∃i27:Int,(e16=(.returned (.int .i64 i27)))∧((Kept w0.heap.size F [n3] w56 w57)∧Fin w0 F w57 Q (.int .i64 i27))))∧((i1≤i24)→∃i25:Int,(At w45 s 28 [(.int .i64 i25)])∧(((i1≠i25)→((cu4.row=i1)→∀w53:World,(Below w45.heap.size w45 w53)→(Mine w53 w0.heap.size [(n3,T.Cursor)])→Runs Tryz.prog X.screen_soften #[(.pointer (some s)),(.int .i64 i1),(.bool false)] w53 (fun e15 w54=>∃i26:Int,(e15=(.returned (.int .i64 i26)))∧((Kept w0.heap.size F [n3] w53 w54)∧Fin w0 F w54 Q (.int .i64 i26))))∧((cu4.row≠i1)→Fin w0 F w45 Q (.int .i64 0)))∧((i1=i25)→Fin w0 F w45 Q (.int .i64 0))))))∧((i1≠i21)→∃i22:Int,(At w45 s 28 [(.int .i64 i22)])∧(((i1≠i22)→((cu4.row=i1)→∀w48:World,(Below w45.heap.size w45 w48)→(Mine w48 w0.heap.size [(n3,T.Cursor)])→Runs Tryz.prog X.screen_soften #[(.pointer (some s)),(.int .i64 i1),(.bool false)] w48 (fun e14 w49=>∃i23:Int,(e14=(.returned (.int .i64 i23)))∧((Kept w0.heap.size F [n3] w48 w49)∧Fin w0 F w49 Q (.int .i64 i23))))∧((cu4.row≠i1)→Fin w0 F w45 Q (.int .i64 0)))∧((i1=i22)→Fin w0 F w45 Q (.int .i64 0)))))))))∧∀n2:Nat,(w25.heap.size≤n2)→∀w26:World,(Below w25.heap.size w25 w26)→(Mine w26 w0.heap.size [(n2,T.Cursor)])→Runs Tryz.prog X.motion_Return #[(.agg ar2.arr),(.agg cu1.arr)] w26 (fun e9 w27=>∃cu3:Cu,∃i12:Int,(e9=(.returned (.tuple #[(.agg cu3.arr),(.int .i64 i12)])))∧((Kept w0.heap.size F [n2] w26 w27)∧(((i12≠0)→FinE w0 F w27 [n2] Q (.int .i64 i12))∧((i12=0)→((CanPut w27 s 4 3)∧(Away w0.heap.size F [n2] s.block))∧∀w28:World,(Put w27 [n2] s 4 cu3.arr.toList w28)→∃i13:Int,(At w28 s 28 [(.int .i64 i13)])∧(((i1=i13)→∃i16:Int,(At w28 s 27 [(.int .i64 i16)])∧(((i16<i1)→(I64 (i1-1))∧∀w39:World,(Below w28.heap.size w28 w39)→(Mine w39 w0.heap.size [(n2,T.Cursor)])→Runs Tryz.prog X.screen_soften #[(.pointer (some s)),(.int .i64 (i1-1)),(.bool true)] w39 (fun e12 w40=>∃i19:Int,(e12=(.returned (.int .i64 i19)))∧((Kept w0.heap.size F [n2] w39 w40)∧Fin w0 F w40 Q (.int .i64 i19))))∧((i1≤i16)→∃i17:Int,(At w28 s 28 [(.int .i64 i17)])∧(((i1≠i17)→((cu3.row=i1)→∀w36:World,(Below w28.heap.size w28 w36)→(Mine w36 w0.heap.size [(n2,T.Cursor)])→Runs Tryz.prog X.screen_soften #[(.pointer (some s)),(.int .i64 i1),(.bool false)] w36 (fun e11 w37=>∃i18:Int,(e11=(.returned (.int .i64 i18)))∧((Kept w0.heap.size F [n2] w36 w37)∧Fin w0 F w37 Q (.int .i64 i18))))∧((cu3.row≠i1)→Fin w0 F w28 Q (.int .i64 0)))∧((i1=i17)→Fin w0 F w28 Q (.int .i64 0))))))∧((i1≠i13)→∃i14:Int,(At w28 s 28 [(.int .i64 i14)])∧(((i1≠i14)→((cu3.row=i1)→∀w31:World,(Below w28.heap.size w28 w31)→(Mine w31 w0.heap.size [(n2,T.Cursor)])→Runs Tryz.prog X.screen_soften #[(.pointer (some s)),(.int .i64 i1),(.bool false)] w31 (fun e10 w32=>∃i15:Int,(e10=(.returned (.int .i64 i15)))∧((Kept w0.heap.size F [n2] w31 w32)∧Fin w0 F w32 Q (.int .i64 i15))))∧((cu3.row≠i1)→Fin w0 F w28 Q (.int .i64 0)))∧((i1=i14)→Fin w0 F w28 Q (.int .i64 0))))))))))))))∧∀n1:Nat,(w4.heap.size≤n1)→∀w5:World,(Below w4.heap.size w4 w5)→(Mine w5 w0.heap.size [(n1,T.Cursor)])→Runs Tryz.prog X.screen_area #[(.pointer (some s))] w5 (fun e3 w6=>∃ar1:Ar,(e3=(.returned (.agg ar1.arr)))∧((Kept w0.heap.size F [n1] w5 w6)∧((At w6 s 4 cu1.arr.toList)∧∀w7:World,(Below w6.heap.size w6 w7)→(Mine w7 w0.heap.size [(n1,T.Cursor)])→Runs Tryz.prog X.motion_Return #[(.agg ar1.arr),(.agg cu1.arr)] w7 (fun e4 w8=>∃cu2:Cu,∃i4:Int,(e4=(.returned (.tuple #[(.agg cu2.arr),(.int .i64 i4)])))∧((Kept w0.heap.size F [n1] w7 w8)∧(((i4≠0)→FinE w0 F w8 [n1] Q (.int .i64 i4))∧((i4=0)→((CanPut w8 s 4 3)∧(Away w0.heap.size F [n1] s.block))∧∀w9:World,(Put w8 [n1] s 4 cu2.arr.toList w9)→∃i5:Int,(At w9 s 28 [(.int .i64 i5)])∧(((i1=i5)→∃i8:Int,(At w9 s 27 [(.int .i64 i8)])∧(((i8<i1)→(I64 (i1-1))∧∀w20:World,(Below w9.heap.size w9 w20)→(Mine w20 w0.heap.size [(n1,T.Cursor)])→Runs Tryz.prog X.screen_soften #[(.pointer (some s)),(.int .i64 (i1-1)),(.bool true)] w20 (fun e7 w21=>∃i11:Int,(e7=(.returned (.int .i64 i11)))∧((Kept w0.heap.size F [n1] w20 w21)∧Fin w0 F w21 Q (.int .i64 i11))))∧((i1≤i8)→∃i9:Int,(At w9 s 28 [(.int .i64 i9)])∧(((i1≠i9)→((cu2.row=i1)→∀w17:World,(Below w9.heap.size w9 w17)→(Mine w17 w0.heap.size [(n1,T.Cursor)])→Runs Tryz.prog X.screen_soften #[(.pointer (some s)),(.int .i64 i1),(.bool false)] w17 (fun e6 w18=>∃i10:Int,(e6=(.returned (.int .i64 i10)))∧((Kept w0.heap.size F [n1] w17 w18)∧Fin w0 F w18 Q (.int .i64 i10))))∧((cu2.row≠i1)→Fin w0 F w9 Q (.int .i64 0)))∧((i1=i9)→Fin w0 F w9 Q (.int .i64 0))))))∧((i1≠i5)→∃i6:Int,(At w9 s 28 [(.int .i64 i6)])∧(((i1≠i6)→((cu2.row=i1)→∀w12:World,(Below w9.heap.size w9 w12)→(Mine w12 w0.heap.size [(n1,T.Cursor)])→Runs Tryz.prog X.screen_soften #[(.pointer (some s)),(.int .i64 i1),(.bool false)] w12 (fun e5 w13=>∃i7:Int,(e5=(.returned (.int .i64 i7)))∧((Kept w0.heap.size F [n1] w12 w13)∧Fin w0 F w13 Q (.int .i64 i7))))∧((cu2.row≠i1)→Fin w0 F w9 Q (.int .i64 0)))∧((i1=i6)→Fin w0 F w9 Q (.int .i64 0)))))))))))))))))))))):Gets Tryz.prog X.screen_wrap #[(.pointer (some s))] w0 F Q:=
 func_run mixed [] [] X.screen_wrap [SV.adr s 0] ⟨by trivial,trivial⟩ (by kernel_rfl) (by kernel_rfl) h
end Go.Proofs.YtjhhiindeignaaaGreatDoor
namespace Go.Sy
open Go.RowKit (Below)
section
variable {w0 w w' w1:World} {F0:Nat→Prop} {bs:List Nat} {o o':Ob} {l l' l1 l2 l2':List Ob}
theorem Ob.sep_perm (hp:l.Perm l') (h:(Ob.sep l).P w):(Ob.sep l').P w:=
 ⟨fun o ho=>h.1 o (hp.mem_iff.2 ho),(hp.pairwise_iff (fun{a b} hab i hb ha=>hab i ha hb)).1 h.2⟩
theorem Ob.sepF_perm (hp:l.Perm l') {i:Nat} (h:(Ob.sep l').F i):(Ob.sep l).F i:=by
 obtain⟨o,ho,e⟩:=h
 exact⟨o,hp.mem_iff.2 ho,e⟩
theorem Ob.sepF_app {i:Nat}:(Ob.sep (l1++l2)).F i↔(Ob.sep l1).F i∨(Ob.sep l2).F i:=by
 constructor
 ·rintro⟨x,hx,e⟩
  exact(List.mem_append.1 hx).imp (fun q=>⟨x,q,e⟩) fun q=>⟨x,q,e⟩
 ·rintro(⟨x,q,e⟩|⟨x,q,e⟩)
  ·exact⟨x,List.mem_append_left _ q,e⟩
  ·exact⟨x,List.mem_append_right _ q,e⟩
theorem Ob.sepF_one {i:Nat}:(Ob.sep [o]).F i↔o.F i:=
 ⟨fun⟨x,hx,e⟩=>by rw[List.mem_singleton] at hx;rw[←hx];exact e,fun e=>⟨o,by simp,e⟩⟩
theorem Ob.sep_app:(Ob.sep (l1++l2)).P w↔(Ob.sep l1).P w∧(Ob.sep l2).P w∧∀i,(Ob.sep l1).F i→¬(Ob.sep l2).F i:=by
 constructor
 ·rintro⟨h1,h2⟩
  obtain⟨p1,p2,p3⟩:=List.pairwise_append.1 h2
  exact⟨⟨fun o ho=>h1 o (List.mem_append_left _ ho),p1⟩,⟨fun o ho=>h1 o (List.mem_append_right _ ho),p2⟩,fun i ⟨x,hx,e⟩ ⟨y,hy,f⟩=>p3 x hx y hy i e f⟩
 ·rintro⟨⟨a1,a2⟩,⟨b1,b2⟩,hd⟩
  exact⟨fun o ho=>(List.mem_append.1 ho).elim (a1 o) (b1 o),List.pairwise_append.2 ⟨a2,b2,fun x hx y hy i e f=>hd i ⟨x,hx,e⟩ ⟨y,hy,f⟩⟩⟩
theorem Ob.sep_one:(Ob.sep [o]).P w↔o.P w:=
 ⟨fun h=>h.1 o (by simp),fun h=>⟨fun x hx=>by rw[List.mem_singleton] at hx;rw[hx];exact h,List.pairwise_singleton _ _⟩⟩
theorem Ob.sep_group:(Ob.sep (l1++l2)).P w↔(Ob.sep (l1++[Ob.sep l2])).P w:=by
 rw[Ob.sep_app,Ob.sep_app,Ob.sep_one]
 exact⟨fun⟨a,b,c⟩=>⟨a,b,fun i hi e=>c i hi (Ob.sepF_one.1 e)⟩,fun⟨a,b,c⟩=>⟨a,b,fun i hi e=>c i hi (Ob.sepF_one.2 e)⟩⟩
theorem Ob.sepF_group {i:Nat}:(Ob.sep (l1++l2)).F i↔(Ob.sep (l1++[Ob.sep l2])).F i:=by
 rw[Ob.sepF_app,Ob.sepF_app,Ob.sepF_one]
theorem OS.conv (h:OS w0 F0 bs o w) (hp:o'.P w) (hF:∀i,o'.F i→o.F i):OS w0 F0 bs o' w:=⟨h.laid,h.kept,hp,fun i hi=>h.own i (hF i hi)⟩
theorem OS.perm (h:OS w0 F0 bs (Ob.sep l) w) (hp:l.Perm l'):OS w0 F0 bs (Ob.sep l') w:=h.conv (Ob.sep_perm hp h.at_) fun i hi=>Ob.sepF_perm hp hi
theorem OS.step0 (h:OS w0 F0 bs o w) (hm:∀b∈bs,b<w.heap.size) (hk:Keeps o.F w w') (ho:o'.P w') (hF:∀i,o'.F i→o.F i∨w.heap.size≤i):OS w0 F0 bs o' w'∧Kept w0.heap.size F0 bs w w':=by
 have hF0:∀i,o.F i→i<w0.heap.size→F0 i:=fun i hi hlt=>((h.own i hi).1).resolve_right (by omega)
 refine⟨⟨h.laid.keeps hk fun i hi=>o.low h.at_ hi,h.kept.after hk fun i hlt hi=>hF0 i hi hlt,ho,fun i hi=>?_⟩,hk.kept hF0 fun i hi _=>(h.own i hi).2⟩
 rcases hF i hi with q|q
 ·exact h.own i q
 ·exact⟨.inr (Nat.le_trans h.kept.size q),fun hb=>by have:=hm i hb;omega⟩
theorem OS.adopt {n:Nat} {t:TypeId} {cs:List Value} (h:OS w0 F0 (n::bs) (Ob.sep l) w) (hw:Whole w n t cs) (hn:w0.heap.size≤n) (hb:n∉bs) (hY:Go.Proofs.YtjhhiindeignaaaGreatDoor.Y.count≤w0.heap.size):OS w0 F0 bs (Ob.sep (l++[Ob.blk n t cs])) w:=by
 refine⟨h.laid,h.kept,Ob.sep_app.2 ⟨h.at_,Ob.sep_one.2 ⟨hw,by omega⟩,fun i hi e=>(h.own i hi).2 ?_⟩,fun i hi=>?_⟩
 ·rw[show i=n from Ob.sepF_one.1 e]
  exact List.mem_cons_self ..
 ·rcases Ob.sepF_app.1 hi with q|q
  ·exact⟨(h.own i q).1,fun hm=>(h.own i q).2 (List.mem_cons_of_mem _ hm)⟩
  ·rw[show i=n from Ob.sepF_one.1 q]
   exact⟨.inr hn,hb⟩
theorem OS.release {n:Nat} {t:TypeId} {cs:List Value} (h:OS w0 F0 bs (Ob.sep (l++[Ob.blk n t cs])) w):OS w0 F0 (n::bs) (Ob.sep l) w∧Whole w n t cs:=by
 obtain⟨h1,h2,h3⟩:=Ob.sep_app.1 h.at_
 refine⟨⟨h.laid,h.kept,h1,fun i hi=>⟨(h.own i (Ob.sepF_app.2 (.inl hi))).1,fun hm=>?_⟩⟩,(Ob.sep_one.1 h2).1⟩
 rcases List.mem_cons.1 hm with e|hm
 ·exact h3 i hi (Ob.sepF_one.2 e)
 ·exact(h.own i (Ob.sepF_app.2 (.inl hi))).2 hm
end
end Go.Sy
namespace Go.Rep
open Go Go.Sy
structure Sx where
 (b:Nat) (rows cols:Int) (pd:Pd) (hi:Hi) (cu:Cu) (pen:Pn) (md:Md) (rg:Rg) (tz:Tz) (cs:Cs) (s0 s1:Sv) (title link reps:List UInt8) (pushed:Int)
structure Sq where
 (rows cols:Int) (pv:Pv) (hv:Rg') (cu:Cu) (pen:Pn) (md:Md) (rg:Rg) (stops:List Int) (cs:Cs) (s0 s1:Sv) (title link reps:List UInt8) (pushed tcols:Int)
def Sx.ptr (s:Sx):Value:= .pointer (some ⟨s.b,0,none⟩)
abbrev Sx.cells (s:Sx):List Value:=
 [.int .i64 s.rows, .int .i64 s.cols,s.pd.ptr,s.hi.ptr]++(s.cu.arr.toList++(s.pen.arr.toList++(s.md.arr.toList++(s.rg.arr.toList++([s.tz.ptr]++(s.cs.arr.toList++(s.s0.arr.toList++(s.s1.arr.toList++[.string ⟨s.title.toArray⟩, .string ⟨s.link.toArray⟩, .string ⟨s.reps.toArray⟩, .int .i64 s.pushed]))))))))
def Sx.sq (s:Sx):Sq:=⟨s.rows,s.cols,s.pd.pv,s.hi.r.rg,s.cu,s.pen,s.md,s.rg,s.tz.l,s.cs,s.s0,s.s1,s.title,s.link,s.reps,s.pushed,s.tz.cols⟩
end Go.Rep
namespace Go.Proofs.YtjhhiindeignaaaGreatDoor
open Go Go.RowKit Go.Sy Go.Rep
set_option maxRecDepth 100000
set_option maxHeartbeats 2000000
def Ob.hist (h:Hi):Ob:=⟨HiF h,fun w=>HiAt w h,fun h hi=>h.lt hi,fun h hi=>h.low hi,fun h hk hF=>h.keeps hk hF⟩
def Ob.lines (p:Option Addr) (c:Nat) (xs:List Ln):Ob:=⟨LsF p xs,fun w=>Lines w p xs.length c xs,fun h hi=>h.lt hi,fun h hi=>h.low hi,fun h hk hF=>h.keeps hk hF⟩
abbrev SsO (s:Sx):Ob:=Ob.sep [Ob.hist s.hi,Ob.stops s.tz,Ob.blk s.b T.screen_Screen s.cells,PdO s.pd]
section
variable {w0 w w' w1:World} {F0:Nat→Prop} {bs:List Nat} {o o':Ob} {l l' l1 l2:List Ob} {R:Ending→World→Prop} {f:FuncId} {args:Array Value} {s s':Sx}
theorem rt7_callT {Qv:Value→World→List Ob→Prop} (l1:List Ob) (h:OS w0 F0 bs (Ob.sep (l1++l2)) w1) (hm:∀b∈bs,b<w1.heap.size)
  (hc:(Ob.sep l2).P w1→Laid w1→Gets Tryz.prog f args w1 (Ob.sep l2).F (fun v w2=>∃l2',Qv v w2 l2'∧(Ob.sep l2').P w2∧∀i,(Ob.sep l2').F i→(Ob.sep l2).F i∨w1.heap.size≤i))
  (hR:∀v w2 l2',Qv v w2 l2'→OS w0 F0 bs (Ob.sep (l1++l2')) w2→Kept w0.heap.size F0 bs w1 w2→R (.returned v) w2):Runs Tryz.prog f args w1 R:=by
 have hg:OS w0 F0 bs (Ob.sep (l1++Ob.sep l2::[])) w1:=h.conv (Ob.sep_group.1 h.at_) fun i hi=>Ob.sepF_group.2 hi
 refine OS.call l1 [] hg hm hc fun v w2 ⟨l2',hq,hp,hF⟩ hs=>?_
 obtain⟨q1,q2⟩:=hs (Ob.sep l2') hp hF
 exact hR v w2 l2' hq (q1.conv (Ob.sep_group.2 q1.at_) fun i hi=>Ob.sepF_group.1 hi) q2
end
end Go.Proofs.YtjhhiindeignaaaGreatDoor
abbrev Go.Sy.OS.callT:=@Go.Proofs.YtjhhiindeignaaaGreatDoor.rt7_callT
namespace Go.Proofs.YtjhhiindeignaaaGreatDoor
open Go Go.RowKit Go.Sy Go.Rep
set_option maxRecDepth 100000
set_option maxHeartbeats 2000000
section
variable {w0 w w' w1:World} {F0:Nat→Prop} {bs:List Nat} {o o':Ob} {l l' l1 l2:List Ob} {R:Ending→World→Prop} {f:FuncId} {args:Array Value} {s s':Sx}
theorem rt8_callA {α:Type} {ob:α→Ob} {x:α} {Rv:α→Prop} {Qv:Value→Prop} (h:OS w0 F0 bs (ob x) w1) (hm:∀b∈bs,b<w1.heap.size) (hc:(ob x).P w1→Laid w1→Gets Tryz.prog f args w1 (ob x).F (fun v w2=>Qv v∧ModO ob w1 x Rv w2))
  (hR:∀v w2 y,Qv v→Rv y→OS w0 F0 bs (ob y) w2→Kept w0.heap.size F0 bs w1 w2→R (.returned v) w2):Runs Tryz.prog f args w1 R:=
 (hc h.at_ h.laid).runs fun v w2 hk ⟨hq,y,hy,hp,hF⟩=>by
  obtain⟨q1,q2⟩:=h.step0 hm hk hp hF
  exact hR v w2 y hq hy q1 q2
end
end Go.Proofs.YtjhhiindeignaaaGreatDoor
abbrev Go.Sy.OS.callA:=@Go.Proofs.YtjhhiindeignaaaGreatDoor.rt8_callA
namespace Go.Proofs.YtjhhiindeignaaaGreatDoor
open Go Go.RowKit Go.Sy Go.Rep
set_option maxRecDepth 100000
set_option maxHeartbeats 2000000
section
variable {w0 w w' w1:World} {F0:Nat→Prop} {bs:List Nat} {o o':Ob} {l l' l1 l2:List Ob} {R:Ending→World→Prop} {f:FuncId} {args:Array Value} {s s':Sx}
theorem SsO.cell (h:OS w0 F0 bs (SsO s) w) (k:Nat) {us:List Value} (hu:us=(s.cells.drop k).take us.length):At w ⟨s.b,0,none⟩ k us:=
 OS.cells [Ob.hist s.hi,Ob.stops s.tz] [PdO s.pd] h (show 73≤maxLen by decide) hu
theorem SsO.can (h:OS w0 F0 bs (SsO s) w) {k n:Nat} (hk:k+n≤73):CanPut w ⟨s.b,0,none⟩ k n∧Away w0.heap.size F0 bs s.b:=
 OS.can [Ob.hist s.hi,Ob.stops s.tz] [PdO s.pd] h (show k+n≤73 from hk)
theorem SsO.put (h:OS w0 F0 bs (SsO s) w) {k:Nat} {vs:List Value} (hp:Put w [] ⟨s.b,0,none⟩ k vs w') (hk:k+vs.length≤73) (hb:s'.b=s.b) (h1:s'.hi=s.hi) (h2:s'.tz=s.tz) (h3:s'.pd=s.pd) (hc:s.cells.take k++(vs++s.cells.drop (k+vs.length))=s'.cells):OS w0 F0 bs (SsO s') w':=by
 have:=OS.put (n:=0) [Ob.hist s.hi,Ob.stops s.tz] [PdO s.pd] h (show k+vs.length≤73 from hk) hp
 rw[hc] at this
 unfold SsO
 rw[hb,h1,h2,h3]
 exact this
theorem SsO.putD (h:OS w0 F0 bs (SsO s) w) {k:Nat} {vs:List Value} {ds:List Nat} (hp:Put w ds ⟨s.b,0,none⟩ k vs w') (hd:∀d∈ds,d∈bs) (hlo:∀b∈bs,w0.heap.size≤b) (hY:Y.count≤w0.heap.size) (hk:k+vs.length≤73) (hb:s'.b=s.b) (h1:s'.hi=s.hi) (h2:s'.tz=s.tz) (h3:s'.pd=s.pd) (hc:s.cells.take k++(vs++s.cells.drop (k+vs.length))=s'.cells):OS w0 F0 bs (SsO s') w':=by
 have:=OS.putD (n:=0) [Ob.hist s.hi,Ob.stops s.tz] [PdO s.pd] h (show k+vs.length≤73 from hk) hd hlo hY hp
 rw[hc] at this
 unfold SsO
 rw[hb,h1,h2,h3]
 exact this
theorem SsO.pair (h:OS w0 F0 bs (SsO s) w):(PdO s.pd).P w:=OS.get [Ob.hist s.hi,Ob.stops s.tz,Ob.blk s.b T.screen_Screen s.cells] [] h
theorem SsO.hist (h:OS w0 F0 bs (SsO s) w):HiAt w s.hi:=OS.get [] [Ob.stops s.tz,Ob.blk s.b T.screen_Screen s.cells,PdO s.pd] h
theorem r_screen_zero (hL:Laid w) (h:(SsO s).P w):Ret X.screen_zero #[s.ptr] w (.bool false):=by
 refine v_screen_zero _ ⟨_,SsO.cell (OS.start (bs:=[]) hL h (by simp)) 2 rfl,Fin.of fun _=>?_⟩
 show Value.bool _=_
 rw[show BE.val (.pr ((some (⟨s.pd.b,0,none⟩:Addr))=none))=false from by
  have:=BE.val_iff (.pr ((some (⟨s.pd.b,0,none⟩:Addr))=none)) false
  exact this.1 (by intro e;cases e)]
theorem r_screen_used (hL:Laid w) (h:(SsO s).P w) (hu:s.pd.used≤1):Ret X.screen_used #[s.ptr] w (.int .i64 s.pd.used):=by
 have s0:=OS.start (bs:=[]) hL h (by simp)
 refine v_screen_used _ ⟨_,SsO.cell s0 2 rfl,fun w1 hb1=>?_⟩
 have s1:=s0.below hb1
 refine s1.ret (fun a b=>r_alternate_Pair_Alternate b (SsO.pair s1) hu) fun w2 s2 hk2=>⟨_,rfl,hk2.nix,fun e=>Fin.of fun _=>?_,fun e=>Fin.of fun _=>?_⟩
 ·rw[show s.pd.used=1 from of_decide_eq_true e]
  rfl
 ·rw[show s.pd.used=0 by have:=of_decide_eq_false e;omega]
  rfl
def areaQ (q:Sq):Ar:=⟨q.rows,q.cols,q.rg,q.md.org⟩
theorem r_screen_area (hL:Laid w) (h:(SsO s).P w):Ret X.screen_area #[s.ptr] w (.agg (areaQ s.sq).arr):=by
 have s0:=OS.start (bs:=[]) hL h (by simp)
 exact v_screen_area _ fun n1 hn1=>⟨_,SsO.cell s0 0 rfl,_,SsO.cell s0 1 rfl,_,SsO.cell s0 27 rfl,_,SsO.cell s0 19 rfl,Fin.of fun _=>rfl⟩
def blankQ (q:Sq):Pn:=⟨⟨0,0,0,0,0⟩,q.pen.b,0⟩
end
end Go.Proofs.YtjhhiindeignaaaGreatDoor
namespace Go.Proofs.YtjhhiindeignaaaGreatDoor
open Go Go.RowKit Go.Sy Go.Rep
set_option maxRecDepth 100000
set_option maxHeartbeats 2000000
def setGr (v:Pv) (r:Gr):Pv:=if v.used=1 then⟨v.g0,r,v.used,v.mode,v.kept⟩ else⟨r,v.g1,v.used,v.mode,v.kept⟩
def setGd (p:Pd) (g:Gd):Pd:=if p.used=1 then⟨p.b,p.g0,g,p.used,p.mode,p.kept⟩ else⟨p.b,g,p.g1,p.used,p.mode,p.kept⟩
theorem setGd_pv (p:Pd) (g:Gd):(setGd p g).pv=setGr p.pv g.gr:=by
 unfold setGd setGr Pd.pv
 dsimp only
 split<;>rfl
theorem setGd_b (p:Pd) (g:Gd):(setGd p g).b=p.b:=by unfold setGd;split<;>rfl
def otherG (p:Pd):Gd:=if p.used=1 then p.g0 else p.g1
section
variable {w0 w w' w1:World} {F0:Nat→Prop} {bs:List Nat} {o o':Ob} {l l' l1 l2:List Ob} {R:Ending→World→Prop} {f:FuncId} {args:Array Value} {s s':Sx}
theorem do_perm {scr:Ob} {p:Pd} {bx:List Ob} (g:Gd) (hg:g=(if p.used=1 then p.g1 else p.g0)):
  (scr::bx++[Ob.blk p.b T.alternate_Pair p.cells,Ob.grid p.g0,Ob.grid p.g1,keptO p.kept]).Perm ([Ob.blk p.b T.alternate_Pair p.cells,Ob.grid (otherG p),keptO p.kept]++scr::Ob.grid g::bx):=by
 refine List.perm_append_comm.trans ?_
 subst hg
 unfold otherG
 split
 ·refine List.Perm.cons _ (List.Perm.cons _ ?_)
  exact(List.perm_middle (l₁:=[keptO p.kept,scr])).symm
 ·refine List.Perm.cons _ ?_
  exact(List.perm_middle (l₁:=[Ob.grid p.g1,keptO p.kept,scr])).symm
theorem do_any {scr:Ob} {pd:Pd} {bx:List Ob} {fc:FuncId} {args:Option Addr→Array Value} {Rv:Ob→Gr→List Ob→Prop} (hL:Laid w) (h:(Ob.sep (scr::PdO pd::bx)).P w) (hu:pd.used≤1)
  (hc:∀V,Laid V→(Ob.sep (scr::Ob.grid (Pd.grid pd)::bx)).P V→Gets Tryz.prog fc (args (some ⟨(Pd.grid pd).b,0,none⟩)) V (Ob.sep (scr::Ob.grid (Pd.grid pd)::bx)).F (fun v V'=>v= .int .i64 0∧∃scr' g' bx',g'.b=(Pd.grid pd).b∧Rv scr' g'.gr bx'∧(Ob.sep (scr'::Ob.grid g'::bx')).P V'∧∀i,(Ob.sep (scr'::Ob.grid g'::bx')).F i→(Ob.sep (scr::Ob.grid (Pd.grid pd)::bx)).F i∨V.heap.size≤i)):
  ∀w1:World,Below w.heap.size w w1→Runs Tryz.prog X.alternate_Pair_none #[.pointer (some ⟨pd.b,0,none⟩)] w1 (fun e1 w2=>∃b1:Bool,e1= .returned (.bool b1)∧(Kept w.heap.size (Ob.sep (scr::PdO pd::bx)).F [] w1 w2∧((b1=true→Sy.Fin w (Ob.sep (scr::PdO pd::bx)).F w2 (fun v w'=>v= .int .i64 0∧∃scr' r' bx' pd',pd'.b=pd.b∧pd'.pv=setGr pd.pv r'∧Rv scr' r' bx'∧(Ob.sep (scr'::PdO pd'::bx')).P w'∧∀i,(Ob.sep (scr'::PdO pd'::bx')).F i→(Ob.sep (scr::PdO pd::bx)).F i∨w.heap.size≤i) (.int .i64 1))∧
   (b1=false→∃i1:Int,At w2 ⟨pd.b,0,none⟩ 2 [.int .i64 i1]∧(((0:Int)≤i1∧i1<2)∧∃p1:Option Addr,At w2 ⟨pd.b,0,none⟩ (0+((Int.toNat i1)*1)) [.pointer p1]∧∀w3:World,Below w2.heap.size w2 w3→Runs Tryz.prog fc (args p1) w3 (fun e2 w4=>∃i2:Int,e2= .returned (.int .i64 i2)∧(Kept w.heap.size (Ob.sep (scr::PdO pd::bx)).F [] w3 w4∧Sy.Fin w (Ob.sep (scr::PdO pd::bx)).F w4 (fun v w'=>v= .int .i64 0∧∃scr' r' bx' pd',pd'.b=pd.b∧pd'.pv=setGr pd.pv r'∧Rv scr' r' bx'∧(Ob.sep (scr'::PdO pd'::bx')).P w'∧∀i,(Ob.sep (scr'::PdO pd'::bx')).F i→(Ob.sep (scr::PdO pd::bx)).F i∨w.heap.size≤i) (.int .i64 i2)))))))):=by
 intro w1 hb1
 have s1:=(OS.start (bs:=[]) hL h (by simp)).below hb1
 have hpair:∀{V:World} {F0:Nat→Prop},OS w F0 [] (Ob.sep (scr::PdO pd::bx)) V→(PdO pd).P V:=fun h=>h.at_.1 (PdO pd) (by simp)
 refine s1.ret (fun a b=>r_alternate_Pair_none (hpair s1)) fun w2 s2 hk2=>⟨_,rfl,hk2.nix,fun e=>(nomatch e),fun _=>⟨_,PdO.at_ (hpair s2) 2 rfl,⟨by omega,by omega⟩,_,PdO.atG (hpair s2) hu,fun w3 hb3=>?_⟩⟩
 have s3:=s2.below hb3
 have f1:OS w (Ob.sep (scr::PdO pd::bx)).F [] (Ob.sep (scr::bx++[PdO pd])) w3:=s3.perm (List.Perm.cons _ (List.perm_append_singleton _ _).symm)
 have f2:OS w (Ob.sep (scr::PdO pd::bx)).F [] (Ob.sep (scr::bx++[Ob.blk pd.b T.alternate_Pair pd.cells,Ob.grid pd.g0,Ob.grid pd.g1,keptO pd.kept])) w3:=f1.conv (Ob.sep_group.2 f1.at_) fun i hi=>Ob.sepF_group.1 hi
 have f3:=f2.perm (do_perm (Pd.grid pd) rfl)
 refine OS.callT (Qv:=fun v _ l2'=>v= .int .i64 0∧∃scr' g' bx',l2'=scr'::Ob.grid g'::bx'∧g'.b=(Pd.grid pd).b∧Rv scr' g'.gr bx') _ f3 (by simp) (fun a b=>(hc w3 b a).mono (fun _ e=>e) fun v V' _ ⟨q1,scr',g',bx',q2,q3,q4,q5⟩=>⟨_,⟨q1,scr',g',bx',rfl,q2,q3⟩,q4,q5⟩) fun v w4 l2' ⟨hv,scr',g',bx',hl,hb',hR⟩ s4 hk4=>⟨0,by rw[hv],hk4,fun w' hb _=>⟨rfl,?_⟩⟩
 subst hl
 have s5:=s4.below hb
 have hcell:(setGd pd g').cells=pd.cells:=by
  unfold setGd
  have hg:g'.ptr=(Pd.grid pd).ptr:=by unfold Gd.ptr;rw[hb']
  unfold Pd.grid at hg
  split
  ·next e=>rw[if_pos e] at hg;show[_,g'.ptr,_,_,_]=_;rw[hg]
  ·next e=>rw[if_neg e] at hg;show[g'.ptr,_,_,_,_]=_;rw[hg]
 have hoth:otherG (setGd pd g')=otherG pd:=by unfold otherG setGd;split<;>(rename_i e;simp[e])
 have hkp:(setGd pd g').kept=pd.kept:=by unfold setGd;split<;>rfl
 have hgg:g'=(if(setGd pd g').used=1 then(setGd pd g').g1 else(setGd pd g').g0):=by unfold setGd;split<;>(rename_i e;simp[e])
 have g1:OS w (Ob.sep (scr::PdO pd::bx)).F [] (Ob.sep ([Ob.blk (setGd pd g').b T.alternate_Pair (setGd pd g').cells,Ob.grid (otherG (setGd pd g')),keptO (setGd pd g').kept]++scr'::Ob.grid g'::bx')) w':=by
  rw[hcell,hoth,hkp,setGd_b]
  exact s5
 have g2:=g1.perm (do_perm (scr:=scr') (bx:=bx') g' hgg).symm
 have g3:OS w (Ob.sep (scr::PdO pd::bx)).F [] (Ob.sep (scr'::bx'++[PdO (setGd pd g')])) w':=g2.conv (Ob.sep_group.1 g2.at_) fun i hi=>Ob.sepF_group.2 hi
 have g4:OS w (Ob.sep (scr::PdO pd::bx)).F [] (Ob.sep (scr'::PdO (setGd pd g')::bx')) w':=g3.perm (List.Perm.cons _ (List.perm_append_singleton _ _))
 exact⟨scr',g'.gr,bx',setGd pd g',setGd_b _ _,setGd_pv _ _,hR,g4.at_,fun i hi=>(g4.own i hi).1⟩
end
end Go.Proofs.YtjhhiindeignaaaGreatDoor
namespace Go.Sy
section
variable {w0 w w' w1:World} {F0:Nat→Prop} {bs:List Nat} {o o':Ob} {l l' l1 l2 l3:List Ob}
theorem Ob.sep_flat (h:(Ob.sep (l1++Ob.sep l2::l3)).P w):(Ob.sep (l1++(l2++l3))).P w:=by
 obtain⟨a,b,d⟩:=Ob.sep_app.1 h
 obtain⟨b1,b2,d2⟩:=Ob.sep_app.1 (show(Ob.sep ([Ob.sep l2]++l3)).P w from b)
 refine Ob.sep_app.2 ⟨a,Ob.sep_app.2 ⟨Ob.sep_one.1 b1,b2,fun i hi=>d2 i (Ob.sepF_one.2 hi)⟩,fun i hi e=>d i hi ?_⟩
 show(Ob.sep ([Ob.sep l2]++l3)).F i
 rw[Ob.sepF_app] at e⊢
 exact e.imp Ob.sepF_one.2 id
theorem Ob.sepF_flat {i:Nat} (h:(Ob.sep (l1++(l2++l3))).F i):(Ob.sep (l1++Ob.sep l2::l3)).F i:=by
 show(Ob.sep (l1++([Ob.sep l2]++l3))).F i
 rw[Ob.sepF_app,Ob.sepF_app] at h⊢
 exact h.imp id fun q=>q.imp Ob.sepF_one.2 id
theorem OS.flat (l1 l2 l3:List Ob) (h:OS w0 F0 bs (Ob.sep (l1++Ob.sep l2::l3)) w):OS w0 F0 bs (Ob.sep (l1++(l2++l3))) w:=h.conv (Ob.sep_flat h.at_) fun i hi=>Ob.sepF_flat hi
end
end Go.Sy
namespace Go.Proofs.YtjhhiindeignaaaGreatDoor
open Go Go.RowKit Go.Sy Go.Rep
set_option maxRecDepth 100000
set_option maxHeartbeats 2000000
structure GrOk (g:Gr) (rows cols:Int):Prop where
 c:(g.cols:Int)=cols
 r:(g.ls.length:Int)=rows
 ok:∀l∈g.ls,l.cs.length=g.cols∧okL l.cs=true
structure SqOk (N:Nat) (q:Sq):Prop where
 r1:1≤q.rows
 r2:q.rows≤1000
 c1:1≤q.cols
 c2:q.cols≤1000
 g0:GrOk q.pv.g0 q.rows q.cols
 g1:GrOk q.pv.g1 q.rows q.cols
 u:q.pv.used≤1
 k:∀s,q.pv.kept=some s→okSv s=true
 cr1:0≤q.cu.row
 cr2:q.cu.row<q.rows
 cc1:0≤q.cu.col
 cc2:q.cu.col<q.cols
 cp:q.cu.pend=true→q.cu.col=q.cols-1
 pen:okPn q.pen=true
 md:okMd q.md=true
 t1:0≤q.rg.top
 t2:q.rg.top≤q.rg.bot
 t3:q.rg.bot<q.rows
 cs:okCs q.cs=true
 s0:okSv q.s0=true
 s1:okSv q.s1=true
 nx:q.hv.next≤N
 sz:q.reps.length≤4096
 tc:q.tcols=q.cols
theorem SqOk.grid {N:Nat} {q:Sq} (h:SqOk N q):GrOk (Pv.grid q.pv) q.rows q.cols:=by
 unfold Pv.grid
 split
 ·exact h.g1
 ·exact h.g0
theorem SqOk.cuIn {N:Nat} {q:Sq} (h:SqOk N q):CuIn (Pv.grid q.pv) q.cu:=⟨h.cr1,by rw[h.grid.r];exact h.cr2,h.cc1,by rw[h.grid.c];exact h.cc2,fun e=>by rw[h.grid.c];exact h.cp e⟩
theorem SqOk.rgIn {N:Nat} {q:Sq} (h:SqOk N q):RgIn (Pv.grid q.pv) q.rg:=⟨h.t1,h.t2,by rw[h.grid.r];exact h.t3⟩
theorem SqOk.area {N:Nat} {q:Sq} (h:SqOk N q):(areaQ q).ok:=⟨h.r1,h.r2,h.c1,h.c2,h.t1,h.t2,h.t3⟩
theorem SqOk.cu {N:Nat} {q:Sq} (h:SqOk N q):q.cu.ok (areaQ q):=⟨h.cr1,h.cr2,h.cc1,h.cc2,h.cp⟩
theorem okPn_blank {p:Pn} (h:okPn p=true):okPn ⟨⟨0,0,0,0,0⟩,p.b,0⟩=true:=by
 unfold okPn at h⊢
 rw[Bool.and_eq_true] at h⊢
 exact⟨rfl,h.2⟩
theorem valid_bCl {p:Pn} (h:okPn p=true):validCl (bCl p)=true:=by
 unfold validCl bCl
 simp[h]
theorem SqOk.blank {N:Nat} {q:Sq} (h:SqOk N q):validCl (bCl (blankQ q))=true:=valid_bCl (okPn_blank h.pen)
def keepQ (ls:List Li) (q:Sq):Sq:=if q.pv.used=0∧ls≠[] then{q with hv:=pushAll q.hv ls,pushed:=q.pushed+ls.length} else q
section
variable {w0 w w' w1:World} {F0:Nat→Prop} {bs:List Nat} {o o':Ob} {l l' l1 l2:List Ob} {R:Ending→World→Prop} {f:FuncId} {args:Array Value} {s s':Sx}
theorem scr_at (h:Whole w s.b T.screen_Screen s.cells) (k:Nat) {us:List Value} (hu:us=(s.cells.drop k).take us.length):At w ⟨s.b,0,none⟩ k us:=by
 have:=(h.at_ (show 73≤maxLen by decide)).sub k hu
 rwa[Nat.zero_add] at this
theorem r_screen_blank (h:Whole w s.b T.screen_Screen s.cells):Ret X.screen_blank #[s.ptr] w (.agg (blankQ s.sq).arr):=
 v_screen_blank _ fun n1 hn1=>⟨s.pen.b,scr_at h 12 rfl,Fin.of fun _=>rfl⟩
theorem r_screen_keep {p:Option Addr} {c:Nat} {xs:List Ln} (hL:Laid w) (h:(SsO s).P w) (hu:s.pd.used≤1) (hxs:Lines w p xs.length c xs) (hd:∀i,LsF p xs i→¬(SsO s).F i) (hv:∀x∈xs,okL x.cs=true) (hn:s.hi.r.next+xs.length≤4611686018427387904) (hp:s.pushed=0):
  Gets Tryz.prog X.screen_keep #[s.ptr, .slice p xs.length c] w (SsO s).F (fun v w'=>v= .tuple #[]∧ModO SsO w s (fun s'=>s'.b=s.b∧s'.sq=keepQ (lis xs) s.sq) w'):=by
 have hlen:xs.length≤4611686018427387904:=by omega
 refine v_screen_keep _ p xs.length c fun w1 hb1=>?_
 have s1:=(OS.start (bs:=[]) hL h (by simp)).below hb1
 refine s1.ret (fun a b=>r_screen_used b a hu) fun w2 s2 hk2=>⟨_,rfl,hk2.nix,fun e=>⟨fun e2=>?_,fun e2=>?_⟩,fun e=>?_⟩
 ·refine⟨_,SsO.cell s2 3 rfl,fun w5 hb5=>?_⟩
  have s5:=s2.below hb5
  have k5:=((Keeps.of_below hb1).trans hk2).trans (Keeps.of_below hb5)
  refine OS.call (o:=Ob.hist s.hi) [] [Ob.stops s.tz,Ob.blk s.b T.screen_Screen s.cells,PdO s.pd] s5 (by simp) (fun a b=>r_history_Push b a (hxs.nix k5) hv (fun i hi hf=>hd i hi ⟨Ob.hist s.hi,by simp,hf⟩) hn) fun v w6 ⟨hv6,hi',q1,q2,q3,q4,q5⟩ hs=>?_
  obtain⟨s6,hk6⟩:=hs (Ob.hist hi') q4 q5
  have hptr:hi'.ptr=s.hi.ptr:=by unfold Hi.ptr;rw[q1]
  have s6':OS w (SsO s).F [] (SsO {s with hi:=hi'}) w6:=by
   have e:({s with hi:=hi'}:Sx).cells=s.cells:=by show _::_::_::hi'.ptr::_=_;rw[hptr];rfl
   unfold SsO
   rw[e]
   exact s6
  refine⟨0,by rw[hv6],hk6,s.pushed,SsO.cell s6' 72 rfl,by unfold I64;omega,SsO.can s6' (by omega),fun w7 hp7 w' hb _=>⟨rfl,?_⟩⟩
  have s7:OS w (SsO s).F [] (SsO {s with hi:=hi',pushed:=s.pushed+(xs.length:Int)}) w7:=SsO.put s6' hp7 (by show 72+1≤73;omega) rfl rfl rfl rfl rfl
  refine OS.fin (s7.below hb) ⟨rfl,?_⟩
  rw[keepQ,if_pos ⟨show s.pd.used=0 by omega,fun e0=>by have:=congrArg List.length e0;simp[lis] at this;subst this;simp at e2⟩]
  show Sq.mk s.rows s.cols s.pd.pv hi'.r.rg s.cu s.pen s.md s.rg s.tz.l s.cs s.s0 s.s1 s.title s.link s.reps (s.pushed+(xs.length:Int)) s.tz.cols=_
  rw[q3]
  simp[Sx.sq,lis]
 ·intro w' hb _
  refine⟨rfl,OS.fin (s2.below hb) ⟨rfl,?_⟩⟩
  have:xs=[]:=List.eq_nil_of_length_eq_zero (by omega)
  subst this
  rw[keepQ,if_neg (fun u=>u.2 rfl)]
 ·intro w' hb _
  refine⟨rfl,OS.fin (s2.below hb) ⟨rfl,?_⟩⟩
  rw[keepQ,if_neg (fun u=>e (by have:s.pd.used=0:=u.1;omega))]
theorem r_index_1 {a v:Nat} {g:Gd} (hL:Laid w) (h:(Ob.sep (Ob.blk s.b T.screen_Screen s.cells::Ob.grid g::[Ob.blk a T.p_screen_Screen [s.ptr],Ob.blk v T.s_Line [.slice none 0 0]])).P w) (hr:RgIn g.gr s.rg) (hc:CuIn g.gr s.cu) (hq:validCl (bCl (blankQ s.sq))=true):
  Gets Tryz.prog X.screen_index_1 #[.pointer (some ⟨g.b,0,none⟩), .pointer (some ⟨a,0,none⟩), .pointer (some ⟨v,0,none⟩)] w (Ob.sep (Ob.blk s.b T.screen_Screen s.cells::Ob.grid g::[Ob.blk a T.p_screen_Screen [s.ptr],Ob.blk v T.s_Line [.slice none 0 0]])).F
   (fun u w'=>u= .int .i64 0∧∃scr' g' bx',g'.b=g.b∧(∃p c gs,scr'=Ob.blk s.b T.screen_Screen ({s with cu:=idxC g.gr s.rg s.cu}:Sx).cells∧g'.gr=idxG g.gr s.rg s.cu (blankQ s.sq)∧lis gs=idxX g.gr s.rg s.cu (blankQ s.sq)∧bx'=[Ob.lines p c gs,Ob.blk a T.p_screen_Screen [s.ptr],Ob.blk v T.s_Line [.slice p gs.length c]])∧
    (Ob.sep (scr'::Ob.grid g'::bx')).P w'∧∀i,(Ob.sep (scr'::Ob.grid g'::bx')).F i→(Ob.sep (Ob.blk s.b T.screen_Screen s.cells::Ob.grid g::[Ob.blk a T.p_screen_Screen [s.ptr],Ob.blk v T.s_Line [.slice none 0 0]])).F i∨w.heap.size≤i):=by
 have s0:=OS.start (bs:=[]) hL h (by simp)
 have scr:∀{V:World} {G:Nat→Prop} {bx:List Ob} {k:Nat} {us:List Value},OS w G [] (Ob.sep (Ob.blk s.b T.screen_Screen s.cells::bx)) V→us=(s.cells.drop k).take us.length→At V ⟨s.b,0,none⟩ k us:=fun hV hu=>scr_at (OS.get [] _ hV).1 _ hu
 have box:∀{V:World} {G:Nat→Prop} {o1 o2 o3:Ob},OS w G [] (Ob.sep [o1,o2,Ob.blk a T.p_screen_Screen [s.ptr],o3]) V→At V ⟨a,0,none⟩ 0 [s.ptr]:=fun hV=>(OS.get [_,_] [_] hV).1.at_ (show 1≤maxLen by decide)
 refine v_screen_index_1 _ _ _ ⟨_,box s0,_,box s0,_,rfl,_,scr s0 rfl,_,box s0,_,rfl,_,scr s0 rfl,_,box s0,fun w1 hb1=>?_⟩
 have s1:=s0.below hb1
 refine s1.ret (fun _ _=>r_screen_blank (OS.get [] _ s1).1) fun w2 s2 hk2=>⟨_,rfl,hk2.nix,scr s2 rfl,box s2,scr s2 rfl,box s2,box s2,fun w3 hb3=>?_⟩
 have s3:=s2.below hb3
 refine OS.call (o:=Ob.grid g) [Ob.blk s.b T.screen_Screen s.cells] [Ob.blk a T.p_screen_Screen [s.ptr],Ob.blk v T.s_Line [.slice none 0 0]] s3 (by simp) (fun x y=>r_region_Index y x hr hc hq) fun u w4 ⟨p,c,gs,g',hu,e1,e2,e3,e4,e5,e6,e7⟩ hs=>?_
 obtain⟨s4,hk4⟩:=hs (Ob.sep [Ob.grid g',Ob.lines p c gs]) ((Ob.sep_app (l1:=[Ob.grid g']) (l2:=[Ob.lines p c gs])).2 ⟨Ob.sep_one.2 e5,Ob.sep_one.2 e2,fun i hi hf=>(e7 i (Ob.sepF_one.1 hf)).2 ((Ob.sepF_one (o:=Ob.grid g')).1 hi)⟩) fun i hi=>by
  rcases Ob.sepF_app.1 (show(Ob.sep ([Ob.grid g']++[Ob.lines p c gs])).F i from hi) with q|q
  ·exact e6 i (Ob.sepF_one.1 q)
  ·exact(e7 i (Ob.sepF_one.1 q)).1
 have t4:=OS.flat [Ob.blk s.b T.screen_Screen s.cells] [Ob.grid g',Ob.lines p c gs] [Ob.blk a T.p_screen_Screen [s.ptr],Ob.blk v T.s_Line [.slice none 0 0]] s4
 subst hu
 have box4:At w4 ⟨a,0,none⟩ 0 [s.ptr]:=(OS.get [_,_,_] [_] t4).1.at_ (show 1≤maxLen by decide)
 refine⟨_,_,_,_,_,rfl,hk4,box4,_,rfl,OS.can (n:=3) [] [Ob.grid g',Ob.lines p c gs,Ob.blk a T.p_screen_Screen [s.ptr],Ob.blk v T.s_Line [.slice none 0 0]] t4 (show 4+3≤73 by omega),fun w5 hp5=>?_⟩
 have t5:OS w _ [] (Ob.sep (Ob.blk s.b T.screen_Screen ({s with cu:=idxC g.gr s.rg s.cu}:Sx).cells::[Ob.grid g',Ob.lines p c gs,Ob.blk a T.p_screen_Screen [s.ptr],Ob.blk v T.s_Line [.slice none 0 0]])) w5:=OS.put (n:=0) [] [Ob.grid g',Ob.lines p c gs,Ob.blk a T.p_screen_Screen [s.ptr],Ob.blk v T.s_Line [.slice none 0 0]] t4 (show 4+3≤73 by omega) hp5
 refine⟨OS.can (n:=1) [Ob.blk s.b T.screen_Screen ({s with cu:=idxC g.gr s.rg s.cu}:Sx).cells,Ob.grid g',Ob.lines p c gs,Ob.blk a T.p_screen_Screen [s.ptr]] [] t5 (show 0+1≤1 by omega),fun w6 hp6 w' hb _=>⟨rfl,?_⟩⟩
 have t6:OS w _ [] (Ob.sep [Ob.blk s.b T.screen_Screen ({s with cu:=idxC g.gr s.rg s.cu}:Sx).cells,Ob.grid g',Ob.lines p c gs,Ob.blk a T.p_screen_Screen [s.ptr],Ob.blk v T.s_Line [.slice p gs.length c]]) w6:=OS.put (n:=0) [Ob.blk s.b T.screen_Screen ({s with cu:=idxC g.gr s.rg s.cu}:Sx).cells,Ob.grid g',Ob.lines p c gs,Ob.blk a T.p_screen_Screen [s.ptr]] [] t5 (show 0+1≤1 by omega) hp6
 have t7:=t6.below hb
 exact⟨_,g',_,e3,⟨p,c,gs,rfl,e4,e1,rfl⟩,t7.at_,fun i hi=>(t7.own i hi).1⟩
end
end Go.Proofs.YtjhhiindeignaaaGreatDoor
namespace Go.Proofs.YtjhhiindeignaaaGreatDoor
open Go Go.RowKit Go.Sy Go.Rep
set_option maxRecDepth 100000
set_option maxHeartbeats 2000000
def DoQ (w:World) (scr:Ob) (pd:Pd) (bx:List Ob) (Rv:Ob→Gr→List Ob→Prop) (v:Value) (w':World):Prop:=
 v= .int .i64 0∧∃scr' r' bx' pd',pd'.b=pd.b∧pd'.pv=setGr pd.pv r'∧Rv scr' r' bx'∧(Ob.sep (scr'::PdO pd'::bx')).P w'∧∀i,(Ob.sep (scr'::PdO pd'::bx')).F i→(Ob.sep (scr::PdO pd::bx)).F i∨w.heap.size≤i
theorem rollX_sub (r:Gr) (rg:Rg) (n:Int) (q:Pn):(rollX r rg n q).length≤r.ls.length∧∀l∈rollX r rg n q,l∈r.ls:=by
 unfold rollX
 split
 ·unfold rollGone
  split
  ·exact⟨by simp<;>omega,fun l hl=>List.mem_of_mem_drop (List.mem_of_mem_take hl)⟩
  ·exact⟨by simp<;>omega,fun l hl=>List.mem_of_mem_drop (List.mem_of_mem_take hl)⟩
 ·exact⟨Nat.zero_le _,fun l hl=>by cases hl⟩
theorem upX_sub (r:Gr) (rg:Rg) (n:Int) (q:Pn):(upX r rg n q).length≤r.ls.length∧∀l∈upX r rg n q,l∈r.ls:=by
 unfold upX
 split
 ·exact⟨Nat.zero_le _,fun l hl=>by cases hl⟩
 ·exact rollX_sub _ _ _ _
theorem idxX_sub (r:Gr) (rg:Rg) (c:Cu) (q:Pn):(idxX r rg c q).length≤r.ls.length∧∀l∈idxX r rg c q,l∈r.ls:=by
 unfold idxX
 split
 ·exact upX_sub _ _ _ _
 ·exact⟨Nat.zero_le _,fun l hl=>by cases hl⟩
def indexQ (q:Sq):Sq:=keepQ (idxX (Pv.grid q.pv) q.rg q.cu (blankQ q)) {q with cu:=idxC (Pv.grid q.pv) q.rg q.cu,pv:=setGr q.pv (idxG (Pv.grid q.pv) q.rg q.cu (blankQ q))}
theorem setGr_used (v:Pv) (r:Gr):(setGr v r).used=v.used:=by unfold setGr;split<;>rfl
theorem lines_ok {gs:List Ln} {ls:List Li} (h:lis gs=ls) (hv:∀l∈ls,okL l.cs=true):∀x∈gs,okL x.cs=true:=by
 intro x hx
 have:x.li∈ls:=by rw[←h];exact List.mem_map.2 ⟨x,hx,rfl⟩
 exact hv _ this
section
variable {w0 w w' w1:World} {F0:Nat→Prop} {bs:List Nat} {o o':Ob} {l l' l1 l2:List Ob} {R:Ending→World→Prop} {f:FuncId} {args:Array Value} {s s':Sx}
theorem rt9_doIt {scr:Ob} {pd:Pd} {bx:List Ob} {hi:Hi} {tz:Tz} {Rv:Ob→Gr→List Ob→Prop} (h:OS w0 F0 bs (Ob.sep (Ob.hist hi::Ob.stops tz::scr::PdO pd::bx)) w1) (hm:∀b∈bs,b<w1.heap.size)
  (hc:(Ob.sep (scr::PdO pd::bx)).P w1→Laid w1→Gets Tryz.prog f args w1 (Ob.sep (scr::PdO pd::bx)).F (DoQ w1 scr pd bx Rv))
  (hR:∀w2 scr' r' bx' pd',pd'.b=pd.b→pd'.pv=setGr pd.pv r'→Rv scr' r' bx'→OS w0 F0 bs (Ob.sep (Ob.hist hi::Ob.stops tz::scr'::PdO pd'::bx')) w2→Kept w0.heap.size F0 bs w1 w2→R (.returned (.int .i64 0)) w2):Runs Tryz.prog f args w1 R:=
 OS.callT (Qv:=fun v _ l2'=>v= .int .i64 0∧∃scr' r' bx' pd',l2'=scr'::PdO pd'::bx'∧pd'.b=pd.b∧pd'.pv=setGr pd.pv r'∧Rv scr' r' bx') [Ob.hist hi,Ob.stops tz] h hm
  (fun a b=>(hc a b).mono (fun _ e=>e) fun v w2 _ ⟨q0,scr',r',bx',pd',q1,q2,q3,q4,q5⟩=>⟨_,⟨q0,scr',r',bx',pd',rfl,q1,q2,q3⟩,q4,q5⟩)
  fun v w2 l2' ⟨q0,scr',r',bx',pd',hl,q1,q2,q3⟩ h2 hk=>by subst hl q0;exact hR w2 scr' r' bx' pd' q1 q2 q3 h2 hk
end
end Go.Proofs.YtjhhiindeignaaaGreatDoor
abbrev Go.Sy.OS.doIt:=@Go.Proofs.YtjhhiindeignaaaGreatDoor.rt9_doIt
namespace Go.Proofs.YtjhhiindeignaaaGreatDoor
open Go Go.RowKit Go.Sy Go.Rep
set_option maxRecDepth 100000
set_option maxHeartbeats 2000000
section
variable {w0 w w' w1:World} {F0:Nat→Prop} {bs:List Nat} {o o':Ob} {l l' l1 l2:List Ob} {R:Ending→World→Prop} {f:FuncId} {args:Array Value} {s s':Sx}
theorem r_Do_index {a v:Nat} (hL:Laid w) (h:(Ob.sep (Ob.blk s.b T.screen_Screen s.cells::PdO s.pd::[Ob.blk a T.p_screen_Screen [s.ptr],Ob.blk v T.s_Line [.slice none 0 0]])).P w) (hu:s.pd.used≤1) (hr:RgIn (Pv.grid s.pd.pv) s.rg) (hc:CuIn (Pv.grid s.pd.pv) s.cu) (hq:validCl (bCl (blankQ s.sq))=true):
  Gets Tryz.prog X.alternate_Pair_Do #[.pointer (some ⟨s.pd.b,0,none⟩), .func (.func X.screen_index_1) #[] #[.pointer (some ⟨a,0,none⟩), .pointer (some ⟨v,0,none⟩)]] w (Ob.sep (Ob.blk s.b T.screen_Screen s.cells::PdO s.pd::[Ob.blk a T.p_screen_Screen [s.ptr],Ob.blk v T.s_Line [.slice none 0 0]])).F
   (DoQ w (Ob.blk s.b T.screen_Screen s.cells) s.pd [Ob.blk a T.p_screen_Screen [s.ptr],Ob.blk v T.s_Line [.slice none 0 0]] fun scr' r' bx'=>∃p c gs,scr'=Ob.blk s.b T.screen_Screen ({s with cu:=idxC (Pv.grid s.pd.pv) s.rg s.cu}:Sx).cells∧r'=idxG (Pv.grid s.pd.pv) s.rg s.cu (blankQ s.sq)∧lis gs=idxX (Pv.grid s.pd.pv) s.rg s.cu (blankQ s.sq)∧bx'=[Ob.lines p c gs,Ob.blk a T.p_screen_Screen [s.ptr],Ob.blk v T.s_Line [.slice p gs.length c]]):=by
 rw[←Pd.grid_gr] at hr hc⊢
 exact v_Do_index _ _ _ (do_any (args:=fun p=>#[.pointer p, .pointer (some ⟨a,0,none⟩), .pointer (some ⟨v,0,none⟩)]) hL h hu fun V hV hP=>r_index_1 hV hP hr hc hq)
theorem r_screen_index {N:Nat} (hL:Laid w) (h:(SsO s).P w) (ok:SqOk N s.sq) (hN:N+1000≤4611686018427387904) (hp:s.pushed=0):Gets Tryz.prog X.screen_index #[s.ptr] w (SsO s).F (fun v w'=>v= .int .i64 0∧ModO SsO w s (fun s'=>s'.b=s.b∧s'.sq=indexQ s.sq) w'):=by
 have hY:=hL.size
 have hu:s.pd.used≤1:=ok.u
 have hrows:((Pv.grid s.pd.pv).ls.length:Int)=s.rows:=ok.grid.r
 have hrows2:s.rows≤1000:=ok.r2
 have hnx:s.hi.r.next≤N:=ok.nx
 refine v_screen_index _ fun n1 hn1 n2 hn2=>?_
 have s0:=OS.start (bs:=[n1,n2]) hL h (by simp<;>omega)
 refine⟨_,SsO.cell s0 2 rfl,fun w1 hb1 q1 q2 hnd=>?_⟩
 have s1:=s0.below hb1
 have hne:n1∉[n2]:=(List.nodup_cons.1 hnd).1
 have a1:=s1.adopt (bs:=[n2]) q1.2 hn1 hne hY
 have a2:=a1.adopt (bs:=[]) q2.2 hn2 (by simp) hY
 refine OS.doIt (bx:=[Ob.blk n1 T.p_screen_Screen [s.ptr],Ob.blk n2 T.s_Line [.slice none 0 0]]) a2 (by simp) (fun a b=>r_Do_index b a hu ok.rgIn ok.cuIn ok.blank) fun w2 scr' r' bx' pd' hb' hpv hRv s2 hk2=>⟨0,rfl,hk2,?_⟩
 obtain⟨p,c,gs,rfl,rfl,hgs,rfl⟩:=hRv
 obtain⟨t2,z2⟩:=OS.release (l:=[Ob.hist s.hi,Ob.stops s.tz,Ob.blk s.b T.screen_Screen ({s with cu:=idxC (Pv.grid s.pd.pv) s.rg s.cu}:Sx).cells,PdO pd',Ob.lines p c gs,Ob.blk n1 T.p_screen_Screen [s.ptr]]) s2
 obtain⟨t1,z1⟩:=OS.release (l:=[Ob.hist s.hi,Ob.stops s.tz,Ob.blk s.b T.screen_Screen ({s with cu:=idxC (Pv.grid s.pd.pv) s.rg s.cu}:Sx).cells,PdO pd',Ob.lines p c gs]) t2
 refine⟨_,z1,_,_,_,z2,fun w3 hb3 hm3=>?_⟩
 have e:({s with cu:=idxC (Pv.grid s.pd.pv) s.rg s.cu,pd:=pd'}:Sx).cells=({s with cu:=idxC (Pv.grid s.pd.pv) s.rg s.cu}:Sx).cells:=by
  show _::_::pd'.ptr::_=_::_::s.pd.ptr::_
  unfold Pd.ptr
  rw[hb']
 have t3:OS w (SsO s).F [n1,n2] (Ob.sep ([Ob.hist s.hi,Ob.stops s.tz,Ob.blk s.b T.screen_Screen ({s with cu:=idxC (Pv.grid s.pd.pv) s.rg s.cu,pd:=pd'}:Sx).cells,PdO pd']++[Ob.lines p c gs])) w3:=by
  rw[e]
  exact t1.below hb3
 obtain⟨u1,u2,u3⟩:=Ob.sep_app.1 t3.at_
 have t4:OS w (SsO s).F [n1,n2] (Ob.sep ([Ob.lines p c gs]++[Ob.sep [Ob.hist s.hi,Ob.stops s.tz,Ob.blk s.b T.screen_Screen ({s with cu:=idxC (Pv.grid s.pd.pv) s.rg s.cu,pd:=pd'}:Sx).cells,PdO pd']])) w3:=by
  have:=t3.perm (List.perm_append_comm)
  exact this.conv (Ob.sep_group.1 this.at_) fun i hi=>Ob.sepF_group.2 hi
 have hX:=idxX_sub (Pv.grid s.pd.pv) s.rg s.cu (blankQ s.sq)
 have hgl:gs.length=(idxX (Pv.grid s.pd.pv) s.rg s.cu (blankQ s.sq)).length:=by rw[←hgs];simp[lis]
 have hm:∀b∈[n1,n2],b<w3.heap.size:=Mine.all hm3
 refine OS.call (o:=SsO {s with cu:=idxC (Pv.grid s.pd.pv) s.rg s.cu,pd:=pd'}) [Ob.lines p c gs] [] t4 hm (fun a b=>r_screen_keep (s:={s with cu:=idxC (Pv.grid s.pd.pv) s.rg s.cu,pd:=pd'}) b a ?_ (Ob.sep_one.1 u2) (fun i hi hf=>u3 i hf (Ob.sepF_one.2 hi)) (lines_ok hgs fun l hl=>(ok.grid.ok l (hX.2 l hl)).2) ?_ hp) fun v w4 ⟨hv,s4,⟨hb4,hq4⟩,h4,hF4⟩ hs=>?_
 ·have:=congrArg Pv.used hpv
  rw[setGr_used] at this
  have h1:pd'.used=s.pd.used:=this
  show pd'.used≤1
  omega
 ·show s.hi.r.next+gs.length≤_
  omega
 ·obtain⟨s5,hk5⟩:=hs (SsO s4) h4 hF4
  refine⟨congrArg Ending.returned hv,hk5,fun w' hb _=>⟨rfl,?_⟩⟩
  have s6:OS w (SsO s).F [n1,n2] (SsO s4) w4:=s5.conv (o':=SsO s4) (s5.at_.1 _ (by simp)) (fun i hi=>⟨SsO s4,by simp,hi⟩)
  refine OS.fin (s6.below hb) ⟨hb4,?_⟩
  rw[hq4,hgs,indexQ]
  congr 1
  show Sq.mk _ _ pd'.pv _ _ _ _ _ _ _ _ _ _ _ _ _ _=_
  rw[hpv]
  rfl
end
end Go.Proofs.YtjhhiindeignaaaGreatDoor
namespace Go.Sy
open Go.RowKit (Below)
abbrev bxO (x:Nat×TypeId×List Value):Ob:=Ob.blk x.1 x.2.1 x.2.2
section
variable {w0 w w' w1:World} {F0:Nat→Prop} {o o':Ob}
theorem OS.adoptAll:∀(bx:List (Nat×TypeId×List Value)) {bs:List Nat} {l:List Ob},OS w0 F0 (bx.map (·.1)++bs) (Ob.sep l) w→(∀x∈bx,w0.heap.size≤x.1∧Whole w x.1 x.2.1 x.2.2)→(bx.map (·.1)++bs).Nodup→Go.Proofs.YtjhhiindeignaaaGreatDoor.Y.count≤w0.heap.size→OS w0 F0 bs (Ob.sep (l++bx.map bxO)) w
 |[],bs,l,h,_,_,_=>by simpa using h
 |x::bx,bs,l,h,hw,hn,hY=>by
  have hx:=hw x (List.mem_cons_self ..)
  have hn':=List.nodup_cons.1 (show(x.1::(bx.map (·.1)++bs)).Nodup from hn)
  have h1:=OS.adopt (bs:=bx.map (·.1)++bs) h hx.2 hx.1 hn'.1 hY
  have:=OS.adoptAll bx h1 (fun y hy=>hw y (List.mem_cons_of_mem _ hy)) hn'.2 hY
  simpa using this
theorem OS.releaseAll:∀(bx:List (Nat×TypeId×List Value)) {bs:List Nat} {l:List Ob},OS w0 F0 bs (Ob.sep (l++bx.map bxO)) w→OS w0 F0 (bx.map (·.1)++bs) (Ob.sep l) w∧∀x∈bx,Whole w x.1 x.2.1 x.2.2
 |[],bs,l,h=>⟨by simpa using h,fun x hx=>by cases hx⟩
 |x::bx,bs,l,h=>by
  have h1:OS w0 F0 bs (Ob.sep ((l++[bxO x])++bx.map bxO)) w:=by simpa using h
  obtain⟨h2,h3⟩:=OS.releaseAll bx h1
  obtain⟨h4,h5⟩:=OS.release (l:=l) h2
  exact⟨h4,fun y hy=>(List.mem_cons.1 hy).elim (fun e=>by rw[e];exact h5) (h3 y)⟩
end
end Go.Sy
namespace Go.Proofs.YtjhhiindeignaaaGreatDoor
open Go Go.RowKit Go.Sy Go.Rep
set_option maxRecDepth 100000
set_option maxHeartbeats 2000000
abbrev scrB (s:Sx):Ob:=Ob.blk s.b T.screen_Screen s.cells
abbrev Bx:=List (Nat×TypeId×List Value)
def CloQ (w:World) (scr:Ob) (g:Gd) (bx:List Ob) (Rv:Ob→Gr→List Ob→Prop) (v:Value) (w':World):Prop:=
 v= .int .i64 0∧∃scr' g' bx',g'.b=g.b∧Rv scr' g'.gr bx'∧(Ob.sep (scr'::Ob.grid g'::bx')).P w'∧∀i,(Ob.sep (scr'::Ob.grid g'::bx')).F i→(Ob.sep (scr::Ob.grid g::bx)).F i∨w.heap.size≤i
def CuGr (s:Sx) (cu:Cu) (r:Gr) (bx:Bx) (scr':Ob) (r':Gr) (bx':List Ob):Prop:=scr'=scrB {s with cu:=cu}∧r'=r∧bx'=bx.map bxO
section
variable {w0 w w' w1:World} {F0:Nat→Prop} {bs:List Nat} {o o':Ob} {l l' l1 l2:List Ob} {R:Ending→World→Prop} {f:FuncId} {args:Array Value} {s s':Sx} {g:Gd}
theorem gptr {g g':Gd} (h:g'.ptr=g.ptr):g'.b=g.b:=by
 unfold Gd.ptr at h
 injection h with h
 injection h with h
 injection h
theorem CloQ.of {bx:List Ob} {cu:Cu} {r:Gr} {bx':Bx} {g':Gd} (h:OS w (Ob.sep (scrB s::Ob.grid g::bx)).F [] (Ob.sep (scrB {s with cu:=cu}::Ob.grid g'::bx'.map bxO)) w') (hp:g'.ptr=g.ptr) (hr:g'.gr=r):CloQ w (scrB s) g bx (CuGr s cu r bx') (.int .i64 0) w':=
 ⟨rfl,_,g',_,gptr hp,⟨rfl,hr,rfl⟩,h.at_,fun i hi=>(h.own i hi).1⟩
theorem SsO.do_ {bx bx2:Bx} {cu:Cu} {r:Gr} (h:OS w0 F0 (bx.map (·.1)++bs) (SsO s) w1) (hw:∀x∈bx,w0.heap.size≤x.1∧Whole w1 x.1 x.2.1 x.2.2) (hn:(bx.map (·.1)++bs).Nodup) (hY:Y.count≤w0.heap.size) (hm:∀b∈bs,b<w1.heap.size) (h2:bx2.map (·.1)=bx.map (·.1))
  (hc:(Ob.sep (scrB s::PdO s.pd::bx.map bxO)).P w1→Laid w1→Gets Tryz.prog f args w1 (Ob.sep (scrB s::PdO s.pd::bx.map bxO)).F (DoQ w1 (scrB s) s.pd (bx.map bxO) (CuGr s cu r bx2)))
  (hR:∀w2 s',s'.b=s.b→s'.sq={s.sq with cu:=cu,pv:=setGr s.sq.pv r}→s'.pd.b=s.pd.b→s'.hi=s.hi→s'.tz=s.tz→OS w0 F0 (bx.map (·.1)++bs) (SsO s') w2→(∀x∈bx2,Whole w2 x.1 x.2.1 x.2.2)→Kept w0.heap.size F0 bs w1 w2→R (.returned (.int .i64 0)) w2):Runs Tryz.prog f args w1 R:=by
 have h1:=h.adoptAll bx hw hn hY
 refine OS.doIt (hi:=s.hi) (tz:=s.tz) h1 hm hc fun w2 scr' r' bx' pd' hb hpv ⟨e1,e2,e3⟩ t2 hk2=>?_
 subst e1 e2 e3
 have e:({s with cu:=cu,pd:=pd'}:Sx).cells=({s with cu:=cu}:Sx).cells:=by
  show _::_::pd'.ptr::_=_::_::s.pd.ptr::_
  unfold Pd.ptr
  rw[hb]
 obtain⟨t3,z3⟩:=OS.releaseAll (l:=[Ob.hist s.hi,Ob.stops s.tz,scrB {s with cu:=cu},PdO pd']) bx2 t2
 rw[h2] at t3
 have t4:OS w0 F0 (bx.map (·.1)++bs) (SsO {s with cu:=cu,pd:=pd'}) w2:=by
  unfold SsO
  rw[e]
  exact t3
 refine hR w2 {s with cu:=cu,pd:=pd'} rfl ?_ hb rfl rfl t4 z3 hk2
 show Sq.mk _ _ pd'.pv _ _ _ _ _ _ _ _ _ _ _ _ _ _=_
 rw[hpv]
 rfl
abbrev bxSoft (a b:Nat) (row:Int) (soft:Bool):Bx:=[(a,T.int,[.int .i64 row]),(b,T.bool,[.bool soft])]
theorem r_soften_1 {a b:Nat} {row:Int} {soft:Bool} (hL:Laid w) (h:(Ob.sep (scrB s::Ob.grid g::(bxSoft a b row soft).map bxO)).P w) (h0:0≤row) (h1:row<g.gr.ls.length):
  Gets Tryz.prog X.screen_soften_1 #[.pointer (some ⟨g.b,0,none⟩), .pointer (some ⟨a,0,none⟩), .pointer (some ⟨b,0,none⟩)] w (Ob.sep (scrB s::Ob.grid g::(bxSoft a b row soft).map bxO)).F (CloQ w (scrB s) g ((bxSoft a b row soft).map bxO) (CuGr s s.cu (setSoftG g.gr row soft) (bxSoft a b row soft))):=by
 have s0:=OS.start (bs:=[]) hL h (by simp)
 refine v_screen_soften_1 _ _ _ ⟨_,(OS.get [_,_] [_] s0).1.at_ (show 1≤maxLen by decide),_,(OS.get [_,_,_] [] s0).1.at_ (show 1≤maxLen by decide),fun w1 hb1=>?_⟩
 have s1:=s0.below hb1
 refine OS.grid (Qv:=fun v _=>v= .int .i64 0) [scrB s] ((bxSoft a b row soft).map bxO) s1 (by simp) (fun x y=>by have:=r_grid_SetSoft (row:=row) (b:=soft) y x;rw[show thereE g.gr row=0 by unfold thereE;rw[if_neg (by omega)]] at this;exact this) fun v w2 g' hv hp hg s2 hk2=>⟨_,congrArg Ending.returned hv,hk2,fun w' hb _=>CloQ.of (s2.below hb) hp hg⟩
def softenQ (row:Int) (soft:Bool) (q:Sq):Sq:={q with pv:=setGr q.pv (setSoftG (Pv.grid q.pv) row soft)}
theorem r_screen_soften {N:Nat} {row:Int} {soft:Bool} (hL:Laid w) (h:(SsO s).P w) (ok:SqOk N s.sq) (h0:0≤row) (h1:row<s.rows):Gets Tryz.prog X.screen_soften #[s.ptr, .int .i64 row, .bool soft] w (SsO s).F (fun v w'=>v= .int .i64 0∧ModO SsO w s (fun s'=>s'.b=s.b∧s'.sq=softenQ row soft s.sq) w'):=by
 have hY:=hL.size
 have hu:s.pd.used≤1:=ok.u
 have hrow:row<(Pd.grid s.pd).gr.ls.length:=by have:=ok.grid.r;rw[Pd.grid_gr];show row<((Pv.grid s.sq.pv).ls.length:Int);rw[this];exact h1
 refine v_screen_soften _ row soft fun n1 hn1 n2 hn2=>?_
 have s0:=OS.start (bs:=(bxSoft n1 n2 row soft).map (·.1)++[]) hL h (by simp<;>omega)
 refine⟨_,SsO.cell s0 2 rfl,fun w1 hb1 q1 q2 hnd=>?_⟩
 refine SsO.do_ (bx:=bxSoft n1 n2 row soft) (bx2:=bxSoft n1 n2 row soft) (cu:=s.cu) (r:=setSoftG (Pd.grid s.pd).gr row soft) (s0.below hb1) (by simp;exact⟨q1,q2⟩) hnd hY (by simp) rfl (fun a b=>v_Do_soften _ _ _ (do_any (args:=fun p=>#[.pointer p, .pointer (some ⟨n1,0,none⟩), .pointer (some ⟨n2,0,none⟩)]) b a hu fun V hV hP=>r_soften_1 hV hP h0 hrow)) fun w2 s' hb' hq' _ _ _ s2 z2 hk2=>⟨0,rfl,hk2,_,z2 _ (List.Mem.head _),_,z2 _ (List.Mem.tail _ (List.Mem.head _)),fun w' hb _=>⟨rfl,OS.fin (s2.below hb) ⟨hb',?_⟩⟩⟩
 rw[hq',Pd.grid_gr]
 rfl
end
end Go.Proofs.YtjhhiindeignaaaGreatDoor
namespace Go.Proofs.YtjhhiindeignaaaGreatDoor
open Go Go.RowKit Go.Sy Go.Rep
set_option maxRecDepth 100000
set_option maxHeartbeats 2000000
def RowOk (l:List Cl):Prop:=∀j,j<l.length→validCl (cAt l j)=true∧((cAt l j).w=0↔0<j∧(cAt l (j-1)).w=2)∧(0<j→(cAt l (j-1)).w=2→(cAt l j).p=(cAt l (j-1)).p)∧((cAt l j).w=2→j+1<l.length)
theorem rowAt_iff (l:List Cl) (j:Nat):rowAt l j=true↔validCl (cAt l j)=true∧((cAt l j).w=0↔0<j∧(cAt l (j-1)).w=2)∧(0<j→(cAt l (j-1)).w=2→(cAt l j).p=(cAt l (j-1)).p)∧¬((cAt l j).w=2∧(j:Int)=l.length-1):=by
 unfold rowAt behind
 have e:((j:Int)-1).toNat=j-1:=by omega
 simp only[Bool.and_eq_true,Int.toNat_natCast,e,beq_iff_eq,Bool.or_eq_true,Bool.not_eq_true',Bool.and_eq_false_iff,decide_eq_false_iff_not,decide_eq_true_eq]
 constructor
 ·rintro⟨⟨⟨h1,h2⟩,h3⟩,h4⟩
  refine⟨h1,?_,fun a b=>?_,fun u=>h4.elim (fun v=>v u.1) fun v=>v u.2⟩
  ·have:decide ((cAt l j).w=0)=true↔(decide ((0:Int)<j)&&decide ((cAt l (j-1)).w=2))=true:=by rw[h2]
   simpa using this
  ·rcases h3 with(h3|h3)|h3
   ·omega
   ·exact absurd b h3
   ·exact h3
 ·rintro⟨h1,h2,h3,h4⟩
  refine⟨⟨⟨h1,?_⟩,?_⟩,?_⟩
  ·by_cases q:(cAt l j).w=0
   ·have:=h2.1 q
    simp[q,this.1,this.2]
   ·simp only[q,decide_false]
    by_cases q1:0<j
    ·have:¬(cAt l (j-1)).w=2:=fun u=>q (h2.2 ⟨q1,u⟩)
     simp[this]
    ·simp[q1]
  ·by_cases q1:0<j
   ·by_cases q2:(cAt l (j-1)).w=2
    ·exact .inr (h3 q1 q2)
    ·exact .inl (.inr q2)
   ·exact .inl (.inl (by omega))
  ·by_cases q:(cAt l j).w=2
   ·exact .inr fun u=>h4 ⟨q,u⟩
   ·exact .inl q
theorem rowB_iff (l:List Cl):rowB l=true↔RowOk l:=by
 have key:∀k,rowTo l k=true↔∀j,j<k→rowAt l j=true:=by
  intro k
  induction k with
  |zero=>exact⟨fun _ j hj=>by omega,fun _=>rfl⟩
  |succ k ih=>
   rw[rowTo,Bool.and_eq_true,ih]
   exact⟨fun⟨a,b⟩ j hj=>by rcases Nat.lt_succ_iff_lt_or_eq.1 hj with q|q;exact a j q;rw[q];exact b,fun a=>⟨fun j hj=>a j (by omega),a k (by omega)⟩⟩
 unfold rowB RowOk
 rw[key]
 refine forall_congr' fun j=>forall_congr' fun hj=>?_
 rw[rowAt_iff]
 refine and_congr_right fun _=>and_congr_right fun _=>and_congr_right fun _=>⟨fun h e=>?_,fun h u=>?_⟩
 ·have:¬(j:Int)=l.length-1:=fun u=>h ⟨e,u⟩
  omega
 ·have:=h u.1
  omega
theorem cAt_rep {n j:Nat} {c:Cl} (h:j<n):cAt (List.replicate n c) j=c:=by simp[cAt,h]
theorem blankRow_ok {n:Nat} {q:Pn} (hq:okPn q=true):RowOk (List.replicate n (bCl q)):=by
 intro j hj
 rw[List.length_replicate] at hj
 rw[cAt_rep hj]
 have h1:∀i,i<n→cAt (List.replicate n (bCl q)) i=bCl q:=fun i hi=>cAt_rep hi
 refine⟨valid_bCl hq,⟨fun e=>(by cases e),fun⟨a,b⟩=>?_⟩,fun a b=>?_,fun e=>(by cases e)⟩
 ·rw[h1 _ (by omega)] at b
  cases b
 ·rw[h1 _ (by omega)] at b
  cases b
theorem okL_iff (cs:List Cl):okL cs=true↔cs.length≤1000∧RowOk cs:=by
 unfold okL
 rw[Bool.and_eq_true,decide_eq_true_eq,rowB_iff]
section
variable {P:List Cl→Prop} {ls:List Li}
theorem liAt_mem {j:Nat} (h:j<ls.length):liAt ls j∈ls:=by
 unfold liAt
 rw[List.getD_eq_getElem?_getD,List.getElem?_eq_getElem h]
 exact List.getElem_mem h
theorem sfI_all (h:∀l∈ls,P l.cs) (j:Nat):∀l∈sfI ls j,P l.cs:=by
 intro l hl
 unfold sfI at hl
 by_cases hj:j<ls.length
 ·rcases List.mem_or_eq_of_mem_set hl with q|q
  ·exact h l q
  ·rw[q]
   exact h (liAt ls j) (liAt_mem hj)
 ·rw[List.set_eq_of_length_le (by omega)] at hl
  exact h l hl
theorem sfI_len (ls:List Li) (j:Nat):(sfI ls j).length=ls.length:=by simp[sfI]
theorem sub_all {ls':List Li} (h:∀l∈ls,P l.cs) (hs:∀l∈ls',l∈ls):∀l∈ls',P l.cs:=fun l hl=>h l (hs l hl)
theorem app_all {ls':List Li} (h:∀l∈ls,P l.cs) (h':∀l∈ls',P l.cs):∀l∈ls++ls',P l.cs:=fun l hl=>(List.mem_append.1 hl).elim (h l) (h' l)
theorem rollLs_all {t L k:Nat} {n:Int} {bl:Li} (h:∀l∈ls,P l.cs) (hb:P bl.cs):∀l∈rollLs ls t L k n bl,P l.cs:=by
 have mid:∀{a b:Nat},∀l∈(ls.drop a).take b,l∈ls:=fun l hl=>List.mem_of_mem_drop (List.mem_of_mem_take hl)
 have hA:∀l∈rollA sfI ls t L k n,P l.cs:=by
  unfold rollA
  have q1:∀l∈ls.take t++(ls.drop (t+k)).take (L-k),P l.cs:=app_all (sub_all h fun l hl=>List.mem_of_mem_take hl) (sub_all h mid)
  split
  ·split
   ·exact sfI_all q1 _
   ·exact q1
  ·exact sub_all h fun l hl=>List.mem_of_mem_take hl
 have hR:∀l∈rollR sfI ls t L k n,P l.cs:=by
  unfold rollR
  have q1:∀l∈(ls.drop t).take (L-k)++ls.drop (t+L),P l.cs:=app_all (sub_all h mid) (sub_all h fun l hl=>List.mem_of_mem_drop hl)
  split
  ·exact sub_all h fun l hl=>List.mem_of_mem_drop hl
  ·split
   ·exact sfI_all q1 _
   ·exact q1
 have hY:∀l∈rollY ls t L k n bl,P l.cs:=app_all (app_all hA fun l hl=>by rw[List.eq_of_mem_replicate hl];exact hb) hR
 unfold rollLs
 split
 ·exact sfI_all hY _
 ·exact hY
theorem rollLs_len {t L k:Nat} {n:Int} {bl:Li} (h:t+L≤ls.length) (hk:k≤L):(rollLs ls t L k n bl).length=ls.length:=by
 have hY:(rollY ls t L k n bl).length=ls.length:=by
  unfold rollY rollA rollR
  split<;>split<;>simp[sfI_len]<;>omega
 unfold rollLs
 split
 ·rw[sfI_len,hY]
 ·exact hY
end
theorem rollG_ok {r:Gr} {rg:Rg} {n:Int} {q:Pn} {rows cols:Int} (h:GrOk r rows cols) (hq:okPn q=true) (h2:cols≤1000):GrOk (rollG r rg n q) rows cols:=by
 unfold rollG
 split
 ·next e=>
  have he:=e.1
  unfold rollE at he
  have hin:¬(rg.top<0∨rg.bot<rg.top∨(r.ls.length:Int)≤rg.bot):=fun u=>by rw[if_pos u] at he;cases he
  refine⟨h.c,?_,?_⟩
  ·have:=h.r
   show((rollLs _ _ _ _ _ _).length:Int)=rows
   rw[rollLs_len (by omega) (kOf_le e.2 (by omega)).2]
   exact this
  ·refine rollLs_all (P:=fun cs=>cs.length=r.cols∧okL cs=true) (fun l hl=>h.ok l hl) ⟨List.length_replicate,?_⟩
   rw[okL_iff,List.length_replicate]
   exact⟨by have:=h.c;omega,blankRow_ok hq⟩
 ·exact h
theorem softG_ok {r:Gr} {k:Nat} {b:Bool} {rows cols:Int} (h:GrOk r rows cols):GrOk (softG r k b) rows cols:=by
 refine⟨h.c,by rw[←h.r];simp[softG],fun l hl=>?_⟩
 unfold softG at hl
 dsimp only at hl
 by_cases hk:k<r.ls.length
 ·rcases List.mem_or_eq_of_mem_set hl with q|q
  ·exact h.ok l q
  ·rw[q]
   exact h.ok (liAt r.ls k) (liAt_mem hk)
 ·rw[List.set_eq_of_length_le (by omega)] at hl
  exact h.ok l hl
theorem setSoftG_ok {r:Gr} {row:Int} {b:Bool} {rows cols:Int} (h:GrOk r rows cols):GrOk (setSoftG r row b) rows cols:=by
 unfold setSoftG
 split
 ·exact softG_ok h
 ·exact h
theorem idxG_ok {r:Gr} {rg:Rg} {c:Cu} {q:Pn} {rows cols:Int} (h:GrOk r rows cols) (hq:okPn q=true) (h2:cols≤1000):GrOk (idxG r rg c q) rows cols:=by
 unfold idxG
 split
 ·exact rollG_ok h hq h2
 ·exact h
theorem setGr_ok {v:Pv} {r:Gr} {rows cols:Int} (h0:GrOk v.g0 rows cols) (h1:GrOk v.g1 rows cols) (h:GrOk r rows cols):GrOk (setGr v r).g0 rows cols∧GrOk (setGr v r).g1 rows cols:=by
 unfold setGr
 split
 ·exact⟨h0,h⟩
 ·exact⟨h,h1⟩
theorem setGr_kept (v:Pv) (r:Gr):(setGr v r).kept=v.kept:=by unfold setGr;split<;>rfl
theorem pushAll_next:∀(ls:List Li) (q:Rg'),(pushAll q ls).next=q.next+ls.length
 |[],q=>rfl
 |l::ls,q=>by
  have:=pushAll_next ls (pushR q l)
  show(pushAll (pushR q l) ls).next=_
  rw[this]
  show q.next+1+ls.length=q.next+(ls.length+1)
  omega
theorem keepQ_ok {N:Nat} {q:Sq} {ls:List Li} (h:SqOk N q):SqOk (N+ls.length) (keepQ ls q):=by
 unfold keepQ
 have hn:=h.nx
 split
 ·exact{h with nx:=by show(pushAll q.hv ls).next≤_;rw[pushAll_next];omega}
 ·exact{h with nx:=by omega}
theorem keepQ_pushed {q:Sq} {ls:List Li}:(keepQ ls q).pushed≤q.pushed+ls.length∧q.pushed≤(keepQ ls q).pushed:=by
 unfold keepQ
 split
 ·exact⟨Int.le_refl _,by show q.pushed≤q.pushed+(ls.length:Int);omega⟩
 ·exact⟨by omega,Int.le_refl _⟩
theorem setGrQ_ok {N:Nat} {q:Sq} {cu:Cu} {r:Gr} (h:SqOk N q) (hr:GrOk r q.rows q.cols) (hc:CuIn r cu):SqOk N {q with cu:=cu,pv:=setGr q.pv r}:=by
 obtain⟨a,b⟩:=setGr_ok h.g0 h.g1 hr
 have e1:=hr.r
 have e2:=hr.c
 obtain⟨c1,c2,c3,c4,c5⟩:=hc
 exact{h with g0:=a,g1:=b,u:=by show(setGr q.pv r).used≤1;rw[setGr_used];exact h.u,k:=by show ∀s,(setGr q.pv r).kept=some s→_;rw[setGr_kept];exact h.k,cr1:=c1,cr2:=by show cu.row<q.rows;omega,cc1:=c3,cc2:=by show cu.col<q.cols;omega,cp:=fun e=>by show cu.col=q.cols-1;have:=c5 e;omega}
theorem idxC_in {r:Gr} {rg:Rg} {c:Cu} {p:Pn} (h:CuIn r c) (hg:GrOk (idxG r rg c p) r.ls.length r.cols):CuIn (idxG r rg c p) (idxC r rg c):=by
 obtain⟨c1,c2,c3,c4,c5⟩:=h
 have e1:=hg.r
 have e2:=hg.c
 unfold CuIn idxC
 split
 ·exact⟨c1,by dsimp only;omega,c3,by dsimp only;omega,fun e=>by cases e⟩
 ·exact⟨by dsimp only;omega,by dsimp only;omega,c3,by dsimp only;omega,fun e=>by cases e⟩
theorem GrOk.self {r:Gr} {rows cols:Int} (h:GrOk r rows cols):GrOk r r.ls.length r.cols:=⟨rfl,rfl,h.ok⟩
theorem indexQ_ok {N:Nat} {q:Sq} (h:SqOk N q):SqOk (N+1000) (indexQ q):=by
 have hg:=h.grid
 have hi:=idxG_ok (rg:=q.rg) (c:=q.cu) (q:=blankQ q) hg (okPn_blank h.pen) h.c2
 have hX:=idxX_sub (Pv.grid q.pv) q.rg q.cu (blankQ q)
 have e1:=hg.r
 have e2:=hg.c
 have h2:=h.r2
 have hk:=keepQ_ok (ls:=idxX (Pv.grid q.pv) q.rg q.cu (blankQ q)) (setGrQ_ok (cu:=idxC (Pv.grid q.pv) q.rg q.cu) h hi (idxC_in h.cuIn (idxG_ok hg.self (okPn_blank h.pen) (by have:=h.c2;omega))))
 unfold indexQ
 exact{hk with nx:=Nat.le_trans hk.nx (by omega)}
theorem softenQ_ok {N:Nat} {q:Sq} {row:Int} {b:Bool} (h:SqOk N q):SqOk N (softenQ row b q):=
 setGrQ_ok (cu:=q.cu) h (setSoftG_ok h.grid) (by
  have hi:=h.cuIn
  have e:(setSoftG (Pv.grid q.pv) row b).ls.length=(Pv.grid q.pv).ls.length:=setSoftG_len
  have e2:(setSoftG (Pv.grid q.pv) row b).cols=(Pv.grid q.pv).cols:=by unfold setSoftG;split<;>rfl
  unfold CuIn at hi⊢
  rw[e,e2]
  exact hi)
end Go.Proofs.YtjhhiindeignaaaGreatDoor
namespace Go.Proofs.YtjhhiindeignaaaGreatDoor
open Go Go.RowKit Go.Sy Go.Rep
set_option maxRecDepth 100000
set_option maxHeartbeats 2000000
def setCu (c:Cu) (q:Sq):Sq:={q with cu:=c}
def zeroCu (q:Sq):Cu:=⟨q.cu.row,max 0 (min 0 (q.cols-1)),false⟩
def wrapE (old:Int) (q:Sq):Sq:=if old=q.rg.bot∧q.rg.top<old then softenQ (old-1) true q else if old≠q.rg.bot∧q.cu.row=old then softenQ old false q else q
def wrapQ (q:Sq):Sq:=wrapE q.cu.row (setCu (zeroCu (indexQ (softenQ q.cu.row true q))) (indexQ (softenQ q.cu.row true q)))
theorem keepQ_same {q:Sq} {ls:List Li}:(keepQ ls q).rows=q.rows∧(keepQ ls q).cols=q.cols∧(keepQ ls q).rg=q.rg∧(keepQ ls q).cu=q.cu∧(keepQ ls q).md=q.md:=by
 unfold keepQ
 split<;>exact⟨rfl,rfl,rfl,rfl,rfl⟩
theorem indexQ_same (q:Sq):(indexQ q).rows=q.rows∧(indexQ q).cols=q.cols∧(indexQ q).rg=q.rg∧(indexQ q).md=q.md:=by
 have:=keepQ_same (q:={q with cu:=idxC (Pv.grid q.pv) q.rg q.cu,pv:=setGr q.pv (idxG (Pv.grid q.pv) q.rg q.cu (blankQ q))}) (ls:=idxX (Pv.grid q.pv) q.rg q.cu (blankQ q))
 exact⟨this.1,this.2.1,this.2.2.1,this.2.2.2.2⟩
theorem setCu_ok {N:Nat} {q:Sq} {c:Cu} (h:SqOk N q) (hc:c.ok (areaQ q)):SqOk N (setCu c q):={h with cr1:=hc.r1,cr2:=hc.r2,cc1:=hc.c1,cc2:=hc.c2,cp:=hc.p}
theorem zeroCu_ok {N:Nat} {q:Sq} (h:SqOk N q):(zeroCu q).ok (areaQ q):=⟨h.cr1,h.cr2,by show 0≤max 0 (min 0 (q.cols-1));omega,by have:=h.c1;show max 0 (min 0 (q.cols-1))<q.cols;omega,fun e=>by cases e⟩
theorem wrapE_ok {N:Nat} {q:Sq} {old:Int} (h:SqOk N q):SqOk N (wrapE old q):=by
 unfold wrapE
 repeat' (first|exact softenQ_ok h|exact h|split)
theorem wrapQ_ok {N:Nat} {q:Sq} (h:SqOk N q):SqOk (N+1000) (wrapQ q):=wrapE_ok (setCu_ok (indexQ_ok (softenQ_ok h)) (zeroCu_ok (indexQ_ok (softenQ_ok h))))
section
variable {w0 w w' w1:World} {F0:Nat→Prop} {bs:List Nat} {o o':Ob} {l l' l1 l2:List Ob} {R:Ending→World→Prop} {f:FuncId} {args:Array Value} {s s':Sx}
theorem SsO.softenC {N:Nat} {row:Int} {soft:Bool} {b:Nat} (h:OS w0 F0 bs (SsO s) w1) (hb:s.b=b) (ok:SqOk N s.sq) (hm:∀b∈bs,b<w1.heap.size) (h0:0≤row) (h1:row<s.sq.rows)
  (hR:∀w2 s',s'.b=b→s'.sq=softenQ row soft s.sq→OS w0 F0 bs (SsO s') w2→Kept w0.heap.size F0 bs w1 w2→R (.returned (.int .i64 0)) w2):Runs Tryz.prog X.screen_soften #[.pointer (some ⟨b,0,none⟩), .int .i64 row, .bool soft] w1 R:=by
 subst hb
 exact OS.callA (ob:=SsO) (Qv:=fun v=>v= .int .i64 0) h hm (fun a b=>r_screen_soften b a ok h0 h1) fun v w2 y hv ⟨e1,e2⟩ h2 hk=>by subst hv;exact hR w2 y e1 e2 h2 hk
theorem SsO.indexC {N:Nat} {b:Nat} (h:OS w0 F0 bs (SsO s) w1) (hb:s.b=b) (ok:SqOk N s.sq) (hm:∀b∈bs,b<w1.heap.size) (hN:N+1000≤4611686018427387904) (hp:s.sq.pushed=0)
  (hR:∀w2 s',s'.b=b→s'.sq=indexQ s.sq→OS w0 F0 bs (SsO s') w2→Kept w0.heap.size F0 bs w1 w2→R (.returned (.int .i64 0)) w2):Runs Tryz.prog X.screen_index #[.pointer (some ⟨b,0,none⟩)] w1 R:=by
 subst hb
 exact OS.callA (ob:=SsO) (Qv:=fun v=>v= .int .i64 0) h hm (fun a b=>r_screen_index b a ok hN hp) fun v w2 y hv ⟨e1,e2⟩ h2 hk=>by subst hv;exact hR w2 y e1 e2 h2 hk
theorem SsO.areaC {b:Nat} (h:OS w0 F0 bs (SsO s) w1) (hb:s.b=b) (hR:∀w2,OS w0 F0 bs (SsO s) w2→Keeps Nix w1 w2→R (.returned (.agg (areaQ s.sq).arr)) w2):Runs Tryz.prog X.screen_area #[.pointer (some ⟨b,0,none⟩)] w1 R:=by
 subst hb
 exact h.ret (fun a b=>r_screen_area b a) hR
theorem SsO.cellB {b:Nat} (h:OS w0 F0 bs (SsO s) w) (hb:s.b=b) (k:Nat) {us:List Value} (hu:us=(s.cells.drop k).take us.length):At w ⟨b,0,none⟩ k us:=by subst hb;exact SsO.cell h k hu
theorem SsO.canB {b:Nat} (h:OS w0 F0 bs (SsO s) w) (hb:s.b=b) {k n:Nat} (hk:k+n≤73):CanPut w ⟨b,0,none⟩ k n∧Away w0.heap.size F0 bs b:=by subst hb;exact SsO.can h hk
theorem SsO.putCu {c:Cu} {ds:List Nat} {b:Nat} (h:OS w0 F0 bs (SsO s) w) (hb:s.b=b) (hp:Put w ds ⟨b,0,none⟩ 4 c.arr.toList w') (hd:∀d∈ds,d∈bs) (hlo:∀b∈bs,w0.heap.size≤b) (hY:Y.count≤w0.heap.size):OS w0 F0 bs (SsO {s with cu:=c}) w':=by
 subst hb
 exact SsO.putD h hp hd hlo hY (by show 4+3≤73;omega) rfl rfl rfl rfl rfl
theorem r_screen_wrap {N:Nat} (hL:Laid w) (h:(SsO s).P w) (ok:SqOk N s.sq) (hN:N+1000≤4611686018427387904) (hp:s.pushed=0):Gets Tryz.prog X.screen_wrap #[s.ptr] w (SsO s).F (fun v w'=>v= .int .i64 0∧ModO SsO w s (fun s'=>s'.b=s.b∧s'.sq=wrapQ s.sq) w'):=by
 have hY:=hL.size
 have s0:=OS.start (bs:=[]) hL h (by simp)
 obtain⟨q0,hq0⟩:∃q0,s.sq=q0:=⟨_,rfl⟩
 have hrow:s.cu.row=q0.cu.row:=by rw[←hq0];rfl
 have hpu:q0.pushed=0:=by rw[←hq0];exact hp
 rw[hq0] at ok⊢
 refine v_screen_wrap _ ⟨q0.cu.row,by rw[←hrow];exact SsO.cell s0 4 rfl,fun w1 hb1=>?_⟩
 refine SsO.softenC (N:=N) (s0.below hb1) rfl (by rw[hq0];exact ok) (by simp) ok.cr1 (by rw[hq0];exact ok.cr2) fun w2 sa hba hqa s2 hk2=>⟨0,rfl,hk2,fun e=>absurd rfl e,fun _ w3 hb3=>?_⟩
 rw[hq0] at hqa
 have ok1:SqOk N (softenQ q0.cu.row true q0):=softenQ_ok ok
 refine SsO.indexC (N:=N) (s2.below hb3) hba (by rw[hqa];exact ok1) (by simp) hN (by rw[hqa];exact hpu) fun w4 sb hbb hqb s4 hk4=>⟨0,rfl,hk4,fun e=>absurd rfl e,fun _=>?_⟩
 rw[hqa] at hqb
 obtain⟨q2,hq2⟩:∃q2,indexQ (softenQ q0.cu.row true q0)=q2:=⟨_,rfl⟩
 have ok2:SqOk (N+1000) q2:=by rw[←hq2];exact indexQ_ok ok1
 have hrs:q2.rows=q0.rows:=by rw[←hq2];exact(indexQ_same _).1
 have hwq:wrapQ q0=wrapE q0.cu.row (setCu (zeroCu q2) q2):=by rw[wrapQ,hq2]
 rw[hq2] at hqb
 have hcu:sb.cu=q2.cu:=by rw[←hqb];rfl
 have har:areaQ sb.sq=areaQ q2:=by rw[hqb]
 have hret:∀{V:World},Laid V→Ret X.motion_Return #[.agg (areaQ sb.sq).arr, .agg sb.cu.arr] V (.tuple #[.agg (zeroCu q2).arr, .int .i64 0]):=fun hV=>by
  rw[hcu,har]
  exact c_motion_Return ok2.area ok2.cu _ hV
 have hk4s:=s4.kept.size
 refine⟨sb.cu,SsO.cellB s4 hbb 4 rfl,⟨fun w24 hb24=>SsO.areaC (s4.below hb24) hbb fun w25 s25 hk25=>⟨_,rfl,hk25.nix,SsO.cellB s25 hbb 4 rfl,fun w43 hb43=>(s25.below hb43).ret (fun _ b=>hret b) fun w44 sA hkA=>⟨_,_,rfl,hkA.nix,fun n hn=>⟨fun e=>absurd rfl e,fun _=>⟨SsO.canB (sA.more hn) hbb (by omega),?_⟩⟩⟩,fun n hn w26 hb26 hm26=>((s25.more hn).below hb26).ret (fun _ b=>hret b) fun w44 sA hkA=>⟨_,_,rfl,hkA.nix,fun e=>absurd rfl e,fun _=>⟨SsO.canB sA hbb (by omega),?_⟩⟩⟩,fun n hn w26 hb26 hm26=>SsO.areaC ((s4.more hn).below hb26) hbb fun w25 s25 hk25=>⟨_,rfl,hk25.nix,SsO.cellB s25 hbb 4 rfl,fun w43 hb43 hm43=>(s25.below hb43).ret (fun _ b=>hret b) fun w44 sA hkA=>⟨_,_,rfl,hkA.nix,fun e=>absurd rfl e,fun _=>⟨SsO.canB sA hbb (by omega),?_⟩⟩⟩⟩⟩
 ·replace sA:=sA.more hn
  intro V hpV
  have hnn:w.heap.size≤n:=by first|(have:=s4.kept.size;omega)|(have:=s25.kept.size;omega)|(have:=sA.kept.size;omega)
  have sB:OS w (SsO s).F ([]++[n]) (SsO {sb with cu:=zeroCu q2}) V:=SsO.putCu sA hbb hpV (by simp) (by simpa using hnn) hY
  have hqB:({sb with cu:=zeroCu q2}:Sx).sq=setCu (zeroCu q2) q2:=by rw[←hqb];rfl
  have okB:SqOk (N+1000) (setCu (zeroCu q2) q2):=setCu_ok ok2 (zeroCu_ok ok2)
  have hrg:sb.rg=q2.rg:=by rw[←hqb];rfl
  have fin:∀{V2:World} {s3:Sx},OS w (SsO s).F ([]++[n]) (SsO s3) V2→s3.b=s.b→s3.sq=wrapE q0.cu.row (setCu (zeroCu q2) q2)→Sy.Fin w (SsO s).F V2 (fun v w'=>v= .int .i64 0∧ModO SsO w s (fun s'=>s'.b=s.b∧s'.sq=wrapQ q0) w') (.int .i64 0):=fun h1 h2 h3 w' hb _=>⟨rfl,OS.fin (h1.below hb) ⟨h2,by rw[h3,hwq]⟩⟩
  have hrw:=ok.cr2
  have hr1:=ok.cr1
  have soft:∀{V2:World} {row:Int} {x:Bool},Below V.heap.size V V2→(∀b∈[n],b<V2.heap.size)→0≤row→row<q0.rows→softenQ row x (setCu (zeroCu q2) q2)=wrapE q0.cu.row (setCu (zeroCu q2) q2)→Runs Tryz.prog X.screen_soften #[.pointer (some ⟨s.b,0,none⟩), .int .i64 row, .bool x] V2 (fun e1 w2=>∃i:Int,e1= .returned (.int .i64 i)∧(Kept w.heap.size (SsO s).F [n] V2 w2∧Sy.Fin w (SsO s).F w2 (fun v w'=>v= .int .i64 0∧ModO SsO w s (fun s'=>s'.b=s.b∧s'.sq=wrapQ q0) w') (.int .i64 i))):=fun hb hm h0 h1 he=>
   SsO.softenC (N:=N+1000) (sB.below hb) hbb (by rw[hqB];exact okB) hm h0 (by rw[hqB];show _<q2.rows;omega) fun w2 s' e1 e2 h2 hk=>⟨0,rfl,hk,fin h2 e1 (by rw[e2,hqB,he])⟩
  have c28:At V ⟨s.b,0,none⟩ 28 [.int .i64 q2.rg.bot]:=by rw[←hrg];exact SsO.cellB sB hbb 28 rfl
  have c27:At V ⟨s.b,0,none⟩ 27 [.int .i64 q2.rg.top]:=by rw[←hrg];exact SsO.cellB sB hbb 27 rfl
  have ht1:=ok2.t1
  refine⟨_,c28,fun e1=>⟨_,c27,fun e2=>⟨by unfold I64;have:=ok.r2;omega,fun V2 hb hm=>soft hb (Mine.all hm) (by omega) (by omega) (by rw[wrapE,if_pos ⟨e1,e2⟩])⟩,fun e2=>⟨_,c28,fun e3=>absurd e1 e3,fun _=>fin sB hbb ?_⟩⟩,fun e1=>⟨_,c28,fun _=>⟨fun e3 V2 hb hm=>soft hb (Mine.all hm) hr1 hrw ?_,fun e3=>fin sB hbb ?_⟩,fun e3=>absurd e3 e1⟩⟩
  ·rw[hqB,wrapE,if_neg (fun u=>by have h2:q2.rg.top<q0.cu.row:=u.2;omega),if_neg (fun u=>u.1 e1)]
  ·rw[wrapE,if_neg (fun u=>e1 u.1),if_pos ⟨e1,e3⟩]
  ·rw[hqB,wrapE,if_neg (fun u=>e1 u.1),if_neg (fun u=>e3 u.2)]
 all_goals
  intro V hpV
  have hnn:w.heap.size≤n:=by first|(have:=s4.kept.size;omega)|(have:=s25.kept.size;omega)|(have:=sA.kept.size;omega)
  have sB:OS w (SsO s).F ([]++[n]) (SsO {sb with cu:=zeroCu q2}) V:=SsO.putCu sA hbb hpV (by simp) (by simpa using hnn) hY
  have hqB:({sb with cu:=zeroCu q2}:Sx).sq=setCu (zeroCu q2) q2:=by rw[←hqb];rfl
  have okB:SqOk (N+1000) (setCu (zeroCu q2) q2):=setCu_ok ok2 (zeroCu_ok ok2)
  have hrg:sb.rg=q2.rg:=by rw[←hqb];rfl
  have fin:∀{V2:World} {s3:Sx},OS w (SsO s).F ([]++[n]) (SsO s3) V2→s3.b=s.b→s3.sq=wrapE q0.cu.row (setCu (zeroCu q2) q2)→Sy.Fin w (SsO s).F V2 (fun v w'=>v= .int .i64 0∧ModO SsO w s (fun s'=>s'.b=s.b∧s'.sq=wrapQ q0) w') (.int .i64 0):=fun h1 h2 h3 w' hb _=>⟨rfl,OS.fin (h1.below hb) ⟨h2,by rw[h3,hwq]⟩⟩
  have hrw:=ok.cr2
  have hr1:=ok.cr1
  have soft:∀{V2:World} {row:Int} {x:Bool},Below V.heap.size V V2→(∀b∈[n],b<V2.heap.size)→0≤row→row<q0.rows→softenQ row x (setCu (zeroCu q2) q2)=wrapE q0.cu.row (setCu (zeroCu q2) q2)→Runs Tryz.prog X.screen_soften #[.pointer (some ⟨s.b,0,none⟩), .int .i64 row, .bool x] V2 (fun e1 w2=>∃i:Int,e1= .returned (.int .i64 i)∧(Kept w.heap.size (SsO s).F [n] V2 w2∧Sy.Fin w (SsO s).F w2 (fun v w'=>v= .int .i64 0∧ModO SsO w s (fun s'=>s'.b=s.b∧s'.sq=wrapQ q0) w') (.int .i64 i))):=fun hb hm h0 h1 he=>
   SsO.softenC (N:=N+1000) (sB.below hb) hbb (by rw[hqB];exact okB) hm h0 (by rw[hqB];show _<q2.rows;omega) fun w2 s' e1 e2 h2 hk=>⟨0,rfl,hk,fin h2 e1 (by rw[e2,hqB,he])⟩
  have c28:At V ⟨s.b,0,none⟩ 28 [.int .i64 q2.rg.bot]:=by rw[←hrg];exact SsO.cellB sB hbb 28 rfl
  have c27:At V ⟨s.b,0,none⟩ 27 [.int .i64 q2.rg.top]:=by rw[←hrg];exact SsO.cellB sB hbb 27 rfl
  have ht1:=ok2.t1
  refine⟨_,c28,fun e1=>⟨_,c27,fun e2=>⟨by unfold I64;have:=ok.r2;omega,fun V2 hb hm=>soft hb (Mine.all hm) (by omega) (by omega) (by rw[wrapE,if_pos ⟨e1,e2⟩])⟩,fun e2=>⟨_,c28,fun e3=>absurd e1 e3,fun _=>fin sB hbb ?_⟩⟩,fun e1=>⟨_,c28,fun _=>⟨fun e3 V2 hb hm=>soft hb (Mine.all hm) hr1 hrw ?_,fun e3=>fin sB hbb ?_⟩,fun e3=>absurd e3 e1⟩⟩
  ·rw[hqB,wrapE,if_neg (fun u=>by have h2:q2.rg.top<q0.cu.row:=u.2;omega),if_neg (fun u=>u.1 e1)]
  ·rw[wrapE,if_neg (fun u=>e1 u.1),if_pos ⟨e1,e3⟩]
  ·rw[hqB,wrapE,if_neg (fun u=>e1 u.1),if_neg (fun u=>e3 u.2)]
end
end Go.Proofs.YtjhhiindeignaaaGreatDoor
namespace Go.Proofs.YtjhhiindeignaaaGreatDoor
open Go Go.RowKit Go.Sy Go.Rep
set_option maxRecDepth 100000
set_option maxHeartbeats 2000000
abbrev bxP (a b:Nat) (s:Sx) (ch:Int):Bx:=[(a,T.p_screen_Screen,[s.ptr]),(b,T.int32,[.int .i32 ch])]
abbrev bxW (a b c:Nat) (s:Sx) (ch:Int) (x:Bool):Bx:=[(a,T.p_screen_Screen,[s.ptr]),(b,T.int32,[.int .i32 ch]),(c,T.bool,[.bool x])]
theorem liAt_ok {r:Gr} {rows cols:Int} (h:GrOk r rows cols) {k:Nat} (hk:k<r.ls.length):rowB (liAt r.ls k).cs=true∧(liAt r.ls k).cs.length=r.cols:=by
 obtain⟨h1,h2⟩:=h.ok _ (liAt_mem hk)
 exact⟨(rowB_iff _).2 ((okL_iff _).1 h2).2,h1⟩
section
variable {w0 w w' w1:World} {F0:Nat→Prop} {bs:List Nat} {o o':Ob} {l l' l1 l2:List Ob} {R:Ending→World→Prop} {f:FuncId} {args:Array Value} {s s':Sx} {g:Gd}
theorem r_print_1 {a b:Nat} {ch:Int} (hL:Laid w) (h:(Ob.sep (scrB s::Ob.grid g::(bxP a b s ch).map bxO)).P w) (hc:CuIn g.gr s.cu) (h1:wOf ch=0) (hg:GrOk g.gr g.gr.ls.length g.gr.cols):
  Gets Tryz.prog X.screen_print_1 #[.pointer (some ⟨g.b,0,none⟩), .pointer (some ⟨a,0,none⟩), .pointer (some ⟨b,0,none⟩)] w (Ob.sep (scrB s::Ob.grid g::(bxP a b s ch).map bxO)).F (CloQ w (scrB s) g ((bxP a b s ch).map bxO) (CuGr s s.cu (markG g.gr s.cu ch) (bxP a b s ch))):=by
 have s0:=OS.start (bs:=[]) hL h (by simp)
 obtain⟨q1,q2⟩:=liAt_ok hg (k:=s.cu.row.toNat) (by have:=hc.1;have:=hc.2.1;omega)
 refine v_screen_print_1 _ _ _ ⟨_,(OS.get [_,_] [_] s0).1.at_ (show 1≤maxLen by decide),_,rfl,_,scr_at (OS.get [] _ s0).1 4 rfl,_,(OS.get [_,_,_] [] s0).1.at_ (show 1≤maxLen by decide),fun w1 hb1=>?_⟩
 refine OS.grid (Qv:=fun v _=>v= .tuple #[.bool (mkDo (liAt g.gr.ls s.cu.row.toNat).cs s.cu), .int .i64 0]) [scrB s] ((bxP a b s ch).map bxO) (s0.below hb1) (by simp) (fun x y=>r_printer_Mark y x hc h1 q1 q2) fun v w2 g' hv hp hg s2 hk2=>⟨_,_,congrArg Ending.returned hv,hk2,fun w' hb _=>CloQ.of (s2.below hb) hp hg⟩
theorem r_print_2 {a b c:Nat} {ch:Int} (hL:Laid w) (h:(Ob.sep (scrB s::Ob.grid g::(bxW a b c s ch false).map bxO)).P w) (hc:CuIn g.gr s.cu) (h1:1≤wOf ch):
  Gets Tryz.prog X.screen_print_2 #[.pointer (some ⟨g.b,0,none⟩), .pointer (some ⟨a,0,none⟩), .pointer (some ⟨b,0,none⟩), .pointer (some ⟨c,0,none⟩)] w (Ob.sep (scrB s::Ob.grid g::(bxW a b c s ch false).map bxO)).F (CloQ w (scrB s) g ((bxW a b c s ch false).map bxO) (CuGr s s.cu g.gr (bxW a b c s ch (wrapsB g.gr s.cu (wOf ch) s.md.aw)))):=by
 have s0:=OS.start (bs:=[]) hL h (by simp)
 refine v_screen_print_2 _ _ _ _ ⟨_,(OS.get [_,_] [_,_] s0).1.at_ (show 1≤maxLen by decide),_,rfl,_,scr_at (OS.get [] _ s0).1 4 rfl,_,(OS.get [_,_,_] [_] s0).1.at_ (show 1≤maxLen by decide),_,(OS.get [_,_] [_,_] s0).1.at_ (show 1≤maxLen by decide),_,rfl,_,scr_at (OS.get [] _ s0).1 18 rfl,fun w1 hb1=>?_⟩
 have s1:=s0.below hb1
 refine s1.ret (fun _ y=>r_printer_Wraps y (OS.get [scrB s] ((bxW a b c s ch false).map bxO) s1) hc h1) fun w2 s2 hk2=>⟨_,_,rfl,hk2.nix,OS.can (n:=1) [scrB s,Ob.grid g,bxO (a,T.p_screen_Screen,[s.ptr]),bxO (b,T.int32,[.int .i32 ch])] [] s2 (show 0+1≤1 by omega),fun w3 hp3 w' hb _=>?_⟩
 have s3:OS w _ [] (Ob.sep (scrB s::Ob.grid g::(bxW a b c s ch (wrapsB g.gr s.cu (wOf ch) s.md.aw)).map bxO)) w3:=OS.put (n:=0) [scrB s,Ob.grid g,bxO (a,T.p_screen_Screen,[s.ptr]),bxO (b,T.int32,[.int .i32 ch])] [] s2 (show 0+1≤1 by omega) hp3
 exact CloQ.of (s3.below hb) rfl rfl
theorem r_print_3 {a b:Nat} {ch:Int} (hL:Laid w) (h:(Ob.sep (scrB s::Ob.grid g::(bxP a b s ch).map bxO)).P w) (hc:CuIn g.gr s.cu) (h1:1≤wOf ch) (hp:validCl (bCl s.pen)=true) (hw:wrapsB g.gr s.cu (wOf ch) s.md.aw=false):
  Gets Tryz.prog X.screen_print_3 #[.pointer (some ⟨g.b,0,none⟩), .pointer (some ⟨a,0,none⟩), .pointer (some ⟨b,0,none⟩)] w (Ob.sep (scrB s::Ob.grid g::(bxP a b s ch).map bxO)).F (CloQ w (scrB s) g ((bxP a b s ch).map bxO) (CuGr s (printC g.gr s.cu ch s.pen s.md.aw) (printG g.gr s.cu ch s.pen s.md.ins) (bxP a b s ch))):=by
 have s0:=OS.start (bs:=[]) hL h (by simp)
 have box:∀{V:World} {G:Nat→Prop} {o1 o2 o3:Ob},OS w G [] (Ob.sep [o1,o2,bxO (a,T.p_screen_Screen,[s.ptr]),o3]) V→At V ⟨a,0,none⟩ 0 [s.ptr]:=fun hV=>(OS.get [_,_] [_] hV).1.at_ (show 1≤maxLen by decide)
 refine v_screen_print_3 _ _ _ ⟨_,box s0,_,box s0,_,rfl,_,scr_at (OS.get [] _ s0).1 4 rfl,_,(OS.get [_,_,_] [] s0).1.at_ (show 1≤maxLen by decide),_,box s0,_,rfl,s.pen,scr_at (OS.get [] _ s0).1 7 rfl,_,box s0,_,rfl,_,scr_at (OS.get [] _ s0).1 18 rfl,_,box s0,_,rfl,_,scr_at (OS.get [] _ s0).1 20 rfl,fun w1 hb1=>?_⟩
 refine OS.grid (Qv:=fun v _=>v= .tuple #[.agg (printC g.gr s.cu ch s.pen s.md.aw).arr, .int .i64 0]) [scrB s] ((bxP a b s ch).map bxO) (s0.below hb1) (by simp) (fun x y=>r_printer_Print y x hc h1 hp hw) fun v w2 g' hv hp hg s2 hk2=>⟨_,_,congrArg Ending.returned hv,hk2,box s2,_,rfl,OS.can (n:=3) [] (Ob.grid g'::(bxP a b s ch).map bxO) s2 (show 4+3≤73 by omega),fun w3 hp3 w' hb _=>?_⟩
 have s3:OS w _ [] (Ob.sep (scrB {s with cu:=printC g.gr s.cu ch s.pen s.md.aw}::Ob.grid g'::(bxP a b s ch).map bxO)) w3:=OS.put (n:=0) [] (Ob.grid g'::(bxP a b s ch).map bxO) s2 (show 4+3≤73 by omega) hp3
 exact CloQ.of (s3.below hb) hp hg
def markQ (ch:Int) (q:Sq):Sq:={q with cu:=q.cu,pv:=setGr q.pv (markG (Pv.grid q.pv) q.cu ch)}
def putQ (ch:Int) (q:Sq):Sq:={q with cu:=printC (Pv.grid q.pv) q.cu ch q.pen q.md.aw,pv:=setGr q.pv (printG (Pv.grid q.pv) q.cu ch q.pen q.md.ins)}
def wrapsQ (ch:Int) (q:Sq):Bool:=wrapsB (Pv.grid q.pv) q.cu (wOf ch) q.md.aw
def printQ (r:Int) (q:Sq):Sq:=
 if wOf (mapCs q.cs r)<0 then q else if wOf (mapCs q.cs r)=0 then markQ (mapCs q.cs r) q
 else putQ (mapCs q.cs r) (if wrapsQ (mapCs q.cs r) q=true then wrapQ q else q)
theorem setGr_self (v:Pv):setGr v (Pv.grid v)=v:=by unfold setGr Pv.grid;split<;>rfl
theorem wrapE_cu (old:Int) (q:Sq):(wrapE old q).cu=q.cu∧(wrapE old q).rows=q.rows∧(wrapE old q).cols=q.cols∧(wrapE old q).md=q.md:=by
 unfold wrapE
 repeat' (first|exact⟨rfl,rfl,rfl,rfl⟩|split)
theorem wrap_no {N:Nat} {q:Sq} {ch:Int} (h:SqOk N q):wrapsQ ch (wrapQ q)=false:=by
 obtain⟨e1,_,e3,_⟩:=wrapE_cu q.cu.row (setCu (zeroCu (indexQ (softenQ q.cu.row true q))) (indexQ (softenQ q.cu.row true q)))
 have hok:=wrapQ_ok h
 have hcg:=hok.grid.c
 have hc:(wrapQ q).cu=zeroCu (indexQ (softenQ q.cu.row true q)):=e1
 unfold wrapsQ wrapsB
 rw[hc]
 have h1:(zeroCu (indexQ (softenQ q.cu.row true q))).pend=false:=rfl
 have h2:(zeroCu (indexQ (softenQ q.cu.row true q))).col=0:=by show max 0 (min 0 (_-1))=(0:Int);have:=(indexQ_ok (softenQ_ok (row:=q.cu.row) (b:=true) h)).c1;omega
 rw[h1,h2,Bool.false_or]
 rw[Bool.and_eq_false_iff]
 right
 rw[Bool.and_eq_false_iff]
 right
 by_cases hh:1<(Pv.grid (wrapQ q).pv).cols
 ·rw[Bool.and_eq_false_iff]
  right
  rw[decide_eq_false_iff_not]
  omega
 ·rw[Bool.and_eq_false_iff]
  left
  rw[decide_eq_false_iff_not]
  exact hh
end
end Go.Proofs.YtjhhiindeignaaaGreatDoor
namespace Go.Proofs.YtjhhiindeignaaaGreatDoor
open Go Go.RowKit Go.Sy Go.Rep
set_option maxRecDepth 100000
set_option maxHeartbeats 2000000
section
variable {w0 w w' w1:World} {F0:Nat→Prop} {bs:List Nat} {o o':Ob} {l l' l1 l2:List Ob} {R:Ending→World→Prop} {f:FuncId} {args:Array Value} {s s':Sx} {g:Gd}
theorem SsO.wrapC {N:Nat} {b:Nat} (h:OS w0 F0 bs (SsO s) w1) (hb:s.b=b) (ok:SqOk N s.sq) (hm:∀b∈bs,b<w1.heap.size) (hN:N+1000≤4611686018427387904) (hp:s.sq.pushed=0)
  (hR:∀w2 s',s'.b=b→s'.sq=wrapQ s.sq→OS w0 F0 bs (SsO s') w2→Kept w0.heap.size F0 bs w1 w2→R (.returned (.int .i64 0)) w2):Runs Tryz.prog X.screen_wrap #[.pointer (some ⟨b,0,none⟩)] w1 R:=by
 subst hb
 exact OS.callA (ob:=SsO) (Qv:=fun v=>v= .int .i64 0) h hm (fun a b=>r_screen_wrap b a ok hN hp) fun v w2 y hv ⟨e1,e2⟩ h2 hk=>by subst hv;exact hR w2 y e1 e2 h2 hk
theorem gridIn {N:Nat} (ok:SqOk N s.sq):CuIn (Pd.grid s.pd).gr s.cu∧GrOk (Pd.grid s.pd).gr (Pd.grid s.pd).gr.ls.length (Pd.grid s.pd).gr.cols∧RgIn (Pd.grid s.pd).gr s.rg:=by
 rw[Pd.grid_gr]
 exact⟨ok.cuIn,ok.grid.self,ok.rgIn⟩
theorem r_screen_print {N:Nat} {r:Int} (hL:Laid w) (h:(SsO s).P w) (ok:SqOk N s.sq) (hN:N+1000≤4611686018427387904) (hp:s.pushed=0) (hr0: -1000≤r) (hr1:r≤1114111):Gets Tryz.prog X.screen_print #[s.ptr, .int .i32 r] w (SsO s).F (fun v w'=>v= .int .i64 0∧ModO SsO w s (fun s'=>s'.b=s.b∧s'.sq=printQ r s.sq) w'):=by
 have hY:=hL.size
 have hu:s.pd.used≤1:=ok.u
 obtain⟨ch,hch⟩:∃ch,mapCs s.cs r=ch:=⟨_,rfl⟩
 have hpq:printQ r s.sq=if wOf ch<0 then s.sq else if wOf ch=0 then markQ ch s.sq else putQ ch (if wrapsQ ch s.sq=true then wrapQ s.sq else s.sq):=by
  rw[←hch]
  rfl
 refine v_screen_print _ r fun n1 hn1 n2 hn2=>?_
 have s0:=OS.start (bs:=[n1,n2]) hL h (by simp<;>omega)
 refine⟨s.cs,SsO.cell s0 30 rfl,fun w1 hb1 hm1=>OS.pure (c_charset_Map hr0 hr1) (s0.below hb1) fun w2 s2 hk2=>⟨_,rfl,hk2.nix,fun w3 he3 hm3=>?_⟩⟩
 rw[hch]
 have s3:=s2.ext he3 (by simp) (by simp<;>omega) hY
 refine OS.pure c_width_Of s3 fun w4 s4 hk4=>⟨_,rfl,hk4.nix,fun e w' hb _=>⟨rfl,OS.fin (s4.below hb) ⟨rfl,by rw[hpq,if_pos e]⟩⟩,fun e=>⟨fun e0=>⟨_,SsO.cell s4 2 rfl,fun w21 hb21 q1 q2 hnd=>?_⟩,fun e0 n3 hn3=>⟨_,SsO.cell s4 2 rfl,fun w5 hb5 q1 q2 q3 hnd=>?_⟩⟩⟩
 ·obtain⟨g1,g2,_⟩:=gridIn ok
  refine SsO.do_ (bx:=bxP n1 n2 s ch) (bx2:=bxP n1 n2 s ch) (bs:=[]) (cu:=s.cu) (r:=markG (Pd.grid s.pd).gr s.cu ch) (s4.below hb21) (by simp;exact⟨q1,q2⟩) hnd hY (by simp) rfl (fun a b=>v_Do_print1 _ _ _ (do_any (args:=fun p=>#[.pointer p, .pointer (some ⟨n1,0,none⟩), .pointer (some ⟨n2,0,none⟩)]) b a hu fun V hV hP=>r_print_1 hV hP g1 e0 g2)) fun w22 s' hb' hq' _ _ _ s22 z hk=>⟨0,rfl,hk,_,z _ (List.Mem.head _),_,z _ (List.Mem.tail _ (List.Mem.head _)),fun w' hb _=>⟨rfl,OS.fin (s22.below hb) ⟨hb',?_⟩⟩⟩
  rw[hq',hpq,if_neg (by omega),if_pos e0,Pd.grid_gr]
  rfl
 ·have hw1:1≤wOf ch:=by omega
  obtain⟨g1,g2,_⟩:=gridIn ok
  have p3:∀{V:World} {sX:Sx} {N':Nat},OS w (SsO s).F [n1,n2,n3] (SsO sX) V→sX.b=s.b→SqOk N' sX.sq→wrapsQ ch sX.sq=false→printQ r s.sq=putQ ch sX.sq→(w.heap.size≤n1∧Whole V n1 T.p_screen_Screen [.pointer (some ⟨s.b,0,none⟩)])→(w.heap.size≤n2∧Whole V n2 T.int32 [.int .i32 ch])→[n1,n2,n3].Nodup→(∀b∈[n3],b<V.heap.size)→
    Runs Tryz.prog X.alternate_Pair_Do #[.pointer (some ⟨sX.pd.b,0,none⟩), .func (.func X.screen_print_3) #[] #[.pointer (some ⟨n1,0,none⟩), .pointer (some ⟨n2,0,none⟩)]] V (fun e w18=>∃i:Int,e= .returned (.int .i64 i)∧(Kept w.heap.size (SsO s).F [n3] V w18∧∃p8:Option Addr,Whole w18 n1 T.p_screen_Screen [.pointer p8]∧∃i11:Int,Whole w18 n2 T.int32 [.int .i32 i11]∧Sy.Fin w (SsO s).F w18 (fun v w'=>v= .int .i64 0∧ModO SsO w s (fun s'=>s'.b=s.b∧s'.sq=printQ r s.sq) w') (.int .i64 i))):=by
   intro V sX N' sV hbX okX hwX hpX q1 q2 hnd hm
   obtain⟨g1,g2,_⟩:=gridIn okX
   have hptr:(.pointer (some ⟨s.b,0,none⟩):Value)=sX.ptr:=by unfold Sx.ptr;rw[hbX]
   rw[hptr] at q1
   have hpen:validCl (bCl sX.pen)=true:=valid_bCl okX.pen
   have hwr:wrapsB (Pd.grid sX.pd).gr sX.cu (wOf ch) sX.md.aw=false:=by rw[Pd.grid_gr];exact hwX
   refine SsO.do_ (bx:=bxP n1 n2 sX ch) (bx2:=bxP n1 n2 sX ch) (bs:=[n3]) (cu:=printC (Pd.grid sX.pd).gr sX.cu ch sX.pen sX.md.aw) (r:=printG (Pd.grid sX.pd).gr sX.cu ch sX.pen sX.md.ins) sV (by simp;exact⟨q1,q2⟩) hnd hY hm rfl (fun a b=>v_Do_print3 _ _ _ (do_any (args:=fun p=>#[.pointer p, .pointer (some ⟨n1,0,none⟩), .pointer (some ⟨n2,0,none⟩)]) b a okX.u fun V hV hP=>r_print_3 hV hP g1 hw1 hpen hwr)) fun w22 s' hb' hq' _ _ _ s22 z hk=>⟨0,rfl,hk,_,z _ (List.Mem.head _),_,z _ (List.Mem.tail _ (List.Mem.head _)),fun w' hb _=>⟨rfl,OS.fin (s22.below hb) ⟨hb'.trans hbX,?_⟩⟩⟩
   rw[hq',hpX,Pd.grid_gr]
   rfl
  have s5:OS w (SsO s).F ((bxW n1 n2 n3 s ch false).map (·.1)++[]) (SsO s) w5:=(s4.more hn3).below hb5
  refine SsO.do_ (bx:=bxW n1 n2 n3 s ch false) (bx2:=bxW n1 n2 n3 s ch (wrapsB (Pd.grid s.pd).gr s.cu (wOf ch) s.md.aw)) (bs:=[]) (cu:=s.cu) (r:=(Pd.grid s.pd).gr) s5 (by simp;exact⟨q1,q2,q3⟩) hnd hY (by simp) rfl (fun a b=>v_Do_print2 _ _ _ _ (do_any (args:=fun p=>#[.pointer p, .pointer (some ⟨n1,0,none⟩), .pointer (some ⟨n2,0,none⟩), .pointer (some ⟨n3,0,none⟩)]) b a hu fun V hV hP=>r_print_2 hV hP g1 hw1)) fun w6 s' hb' hq' _ _ _ s6 z hk=>⟨0,rfl,hk,some ⟨s.b,0,none⟩,z _ (List.Mem.head _),ch,z _ (List.Mem.tail _ (List.Mem.head _)),_,z _ (List.Mem.tail _ (List.Mem.tail _ (List.Mem.head _))),?_⟩
  have hsq:s'.sq=s.sq:=by
   rw[hq',Pd.grid_gr]
   show{s.sq with cu:=s.cu,pv:=setGr s.sq.pv (Pv.grid s.sq.pv)}=s.sq
   rw[setGr_self]
   rfl
  have hwv:wrapsB (Pd.grid s.pd).gr s.cu (wOf ch) s.md.aw=wrapsQ ch s.sq:=by rw[Pd.grid_gr];rfl
  rw[hwv]
  refine⟨fun _=>⟨fun ew w15 hb15 hm15=>?_,fun ew=>⟨fun e1=>absurd rfl e1,fun _=>⟨_,rfl,_,SsO.cellB s6 hb' 2 rfl,fun w11 hb11 q1 q2 q3 hnd2=>p3 (s6.below hb11) hb' (by rw[hsq];exact ok) (by rw[hsq];exact ew) (by rw[hpq,if_neg (by omega),if_neg e0,if_neg (by rw[ew];decide),hsq]) q1 q2 hnd2 (by simp;exact q3.2.lt)⟩⟩⟩,fun e1=>absurd rfl e1⟩
  refine SsO.wrapC (N:=N) (s6.below hb15) hb' (by rw[hsq];exact ok) (Mine.all hm15) hN (by rw[hsq];exact hp) fun w16 sY hbY hqY s16 hk16=>⟨0,rfl,hk16,fun e1=>absurd rfl e1,fun _=>⟨_,rfl,_,SsO.cellB s16 hbY 2 rfl,fun w17 hb17 q1 q2 q3 hnd2=>?_⟩⟩
  rw[hsq] at hqY
  exact p3 (s16.below hb17) hbY (by rw[hqY];exact wrapQ_ok ok) (by rw[hqY];exact wrap_no ok) (by rw[hpq,if_neg (by omega),if_neg e0,if_pos ew,hqY]) q1 q2 hnd2 (by simp;exact q3.2.lt)
end
end Go.Proofs.YtjhhiindeignaaaGreatDoor
namespace Go.Sy
section
variable {w0 w w' w1:World} {F0:Nat→Prop} {bs:List Nat} {o o':Ob} {l l' l1 l2 l3:List Ob}
theorem OS.swapNew (l1 l2:List Ob) {m:Nat} (h:OS w0 F0 bs (Ob.sep (l1++o::l2)) w) (hm:∀i,(Ob.sep (l1++o::l2)).F i→i<m) (ho:o'.P w) (hF:∀i,o'.F i→m≤i) (hw:w0.heap.size≤m) (hb:∀b∈bs,b<m):OS w0 F0 bs (Ob.sep (l1++o'::l2)) w:=by
 obtain⟨a1,a2,a3⟩:=Ob.sep_app.1 h.at_
 obtain⟨b1,b2,b3⟩:=(Ob.sep_app (l1:=[o]) (l2:=l2)).1 a2
 have hl1:∀i,(Ob.sep l1).F i→i<m:=fun i hi=>hm i (Ob.sepF_app.2 (.inl hi))
 have hl2:∀i,(Ob.sep l2).F i→i<m:=fun i hi=>hm i (Ob.sepF_app.2 (.inr ((Ob.sepF_app (l1:=[o]) (l2:=l2)).2 (.inr hi))))
 have hP:(Ob.sep (l1++([o']++l2))).P w:=Ob.sep_app.2 ⟨a1,Ob.sep_app.2 ⟨Ob.sep_one.2 ho,b2,fun i hi e=>by have:=hF i (Ob.sepF_one.1 hi);have:=hl2 i e;omega⟩,fun i hi e=>by
  rcases Ob.sepF_app.1 e with q|q
  ·have:=hF i (Ob.sepF_one.1 q);have:=hl1 i hi;omega
  ·exact a3 i hi ((Ob.sepF_app (l1:=[o]) (l2:=l2)).2 (.inr q))⟩
 refine⟨h.laid,h.kept,hP,fun i hi=>?_⟩
 rcases Ob.sepF_app.1 (show(Ob.sep (l1++([o']++l2))).F i from hi) with q|q
 ·exact h.own i (Ob.sepF_app.2 (.inl q))
 ·rcases Ob.sepF_app.1 q with q|q
  ·have:=hF i (Ob.sepF_one.1 q)
   exact⟨.inr (by omega),fun hi2=>by have:=hb i hi2;omega⟩
  ·exact h.own i (Ob.sepF_app.2 (.inr ((Ob.sepF_app (l1:=[o]) (l2:=l2)).2 (.inr q))))
end
end Go.Sy
namespace Go.Proofs.YtjhhiindeignaaaGreatDoor
open Go Go.RowKit Go.Sy Go.Rep
set_option maxRecDepth 100000
set_option maxHeartbeats 2000000
def answerS (t:List UInt8) (q:Sq):Sq:=if q.reps.length+t.length≤4096 then{q with reps:=q.reps++t} else q
def newMd:Md:=⟨true,false,false,true,false,false,false,0,0⟩
section
variable {w0 w w' w1:World} {F0:Nat→Prop} {bs:List Nat} {o o':Ob} {l l' l1 l2:List Ob} {R:Ending→World→Prop} {f:FuncId} {args:Array Value} {s s':Sx} {g:Gd}
theorem r_screen_answer {t:List UInt8} (hL:Laid w) (h:(SsO s).P w) (ht:t.length≤100000) (hr:s.reps.length≤4096):Gets Tryz.prog X.screen_answer #[s.ptr, .string ⟨t.toArray⟩] w (SsO s).F (fun v w'=>v= .tuple #[]∧ModO SsO w s (fun s'=>s'.b=s.b∧s'.sq=answerS t s.sq) w'):=by
 have s0:=OS.start (bs:=[]) hL h (by simp)
 refine v_screen_answer _ t ⟨_,SsO.cell s0 71 rfl,by unfold I64;omega,fun e=>⟨_,SsO.cell s0 71 rfl,by omega,SsO.can s0 (by omega),fun w2 hp w' hb _=>⟨rfl,?_⟩⟩,fun e w' hb _=>⟨rfl,OS.fin (s0.below hb) ⟨rfl,?_⟩⟩⟩
 ·have s2:OS w (SsO s).F [] (SsO {s with reps:=s.reps++t}) w2:=SsO.put s0 hp (by show 71+1≤73;omega) rfl rfl rfl rfl rfl
  refine OS.fin (s2.below hb) ⟨rfl,?_⟩
  rw[answerS,if_pos (show s.sq.reps.length+t.length≤4096 by show s.reps.length+t.length≤4096;omega)]
  rfl
 ·rw[answerS,if_neg (show ¬s.sq.reps.length+t.length≤4096 by show ¬s.reps.length+t.length≤4096;omega)]
end
end Go.Proofs.YtjhhiindeignaaaGreatDoor
namespace Go.Proofs.YtjhhiindeignaaaGreatDoor
open Go Go.RowKit Go.Sy Go.Rep
set_option maxRecDepth 100000
set_option maxHeartbeats 2000000
section
variable {w0 w w' w1:World} {F0:Nat→Prop} {bs:List Nat} {o o':Ob} {l l' l1 l2:List Ob} {R:Ending→World→Prop} {f:FuncId} {args:Array Value} {s s':Sx} {g:Gd}
theorem F_blk {l1 l2:List Ob} {b i:Nat} {t:TypeId} {cs cs':List Value} (h:(Ob.sep (l1++Ob.blk b t cs'::l2)).F i):(Ob.sep (l1++Ob.blk b t cs::l2)).F i:=by
 obtain⟨x,hx,e⟩:=h
 rcases List.mem_append.1 hx with q|q
 ·exact⟨x,List.mem_append_left _ q,e⟩
 ·rcases List.mem_cons.1 q with rfl|q
  ·exact⟨Ob.blk b t cs,by simp,e⟩
  ·exact⟨x,by simp[q],e⟩
end
end Go.Proofs.YtjhhiindeignaaaGreatDoor
namespace Go.Proofs.YtjhhiindeignaaaGreatDoor
open Go Go.RowKit Go.Sy Go.Rep
set_option maxRecDepth 100000
set_option maxHeartbeats 2000000
section
variable {w0 w w' w1:World} {F0:Nat→Prop} {bs:List Nat} {o o':Ob} {l l' l1 l2:List Ob} {R:Ending→World→Prop} {f:FuncId} {args:Array Value} {s s':Sx} {g:Gd}
theorem SsO.callQ {b:Nat} {q:Sq} {V:Value} (h:OS w0 F0 bs (SsO s) w1) (hb:s.b=b) (hm:∀b∈bs,b<w1.heap.size) (hc:(SsO s).P w1→Laid w1→Gets Tryz.prog f args w1 (SsO s).F (fun v w2=>v=V∧ModO SsO w1 s (fun s'=>s'.b=s.b∧s'.sq=q) w2))
  (hR:∀w2 s',s'.b=b→s'.sq=q→OS w0 F0 bs (SsO s') w2→Kept w0.heap.size F0 bs w1 w2→R (.returned V) w2):Runs Tryz.prog f args w1 R:=by
 subst hb
 exact OS.callA (ob:=SsO) (Qv:=fun v=>v=V) h hm hc fun v w2 y hv ⟨e1,e2⟩ h2 hk=>by subst hv;exact hR w2 y e1 e2 h2 hk
end
end Go.Proofs.YtjhhiindeignaaaGreatDoor
namespace Go.Proofs.YtjhhiindeignaaaGreatDoor
open Go Go.RowKit Go.Sy Go.Rep
set_option maxRecDepth 100000
set_option maxHeartbeats 2000000
def NB (l:List Cl) (c:Nat):Prop:=1≤c→c<l.length→(cAt l (c-1)).w≠2
theorem cAt_set {l:List Cl} {i j:Nat} {c:Cl} (hj:j<l.length):cAt (l.set i c) j=if i=j then c else cAt l j:=by
 by_cases e:i=j
 ·subst e
  simp[cAt,hj]
 ·simp[cAt,e,List.getElem?_set]
theorem ok_pen {c:Cl} (h:validCl c=true):okPn c.p=true:=by
 unfold validCl at h
 rw[Bool.and_eq_true] at h
 exact h.1
theorem split_ok {l:List Cl} (h:RowOk l) (c:Int):RowOk (splitL l c):=by
 unfold splitL
 split
 ·next e=>
  obtain⟨e1,e2,e3⟩:=e
  obtain⟨k,rfl⟩:∃k:Nat,c=(k:Int)+1:=⟨(c-1).toNat,by omega⟩
  have t1:((k:Int)+1-1).toNat=k:=by omega
  have t2:((k:Int)+1).toNat=k+1:=by omega
  rw[t1] at e3⊢
  rw[t2]
  have hk:k+1<l.length:=by omega
  have at_:∀j,j<l.length→cAt ((l.set k (bCl (cAt l k).p)).set (k+1) (bCl (cAt l (k+1)).p)) j=if j=k+1 then bCl (cAt l (k+1)).p else if j=k then bCl (cAt l k).p else cAt l j:=by
   intro j hj
   rw[cAt_set (by simpa using hj),cAt_set hj]
   by_cases q1:j=k+1
   ·rw[if_pos q1.symm,if_pos q1]
   ·rw[if_neg (Ne.symm q1),if_neg q1]
    by_cases q2:j=k
    ·rw[if_pos q2.symm,if_pos q2]
    ·rw[if_neg (Ne.symm q2),if_neg q2]
  have hlen:((l.set k (bCl (cAt l k).p)).set (k+1) (bCl (cAt l (k+1)).p)).length=l.length:=by simp
  obtain⟨a1,a2,a3,a4⟩:=h k (by omega)
  obtain⟨b1,b2,b3,b4⟩:=h (k+1) hk
  have hb0:(cAt l (k+1)).w=0:=b2.2 ⟨by omega,by simpa using e3⟩
  intro j hj
  rw[hlen] at hj⊢
  rw[at_ j hj]
  by_cases q1:j=k+1
  ·subst q1
   rw[if_pos rfl,at_ (k+1-1) (by omega),show k+1-1=k by omega,if_neg (by omega),if_pos rfl]
   exact⟨valid_bCl (ok_pen b1),⟨fun u=>(by cases u),fun u=>(by cases u.2)⟩,fun _ u=>(by cases u),fun u=>(by cases u)⟩
  ·rw[if_neg q1]
   by_cases q2:j=k
   ·subst q2
    rw[if_pos rfl]
    refine⟨valid_bCl (ok_pen a1),⟨fun u=>(by cases u),fun u=>?_⟩,fun u v=>?_,fun u=>(by cases u)⟩
    ·obtain⟨u1,u2⟩:=u
     rw[at_ (j-1) (by omega),if_neg (by omega),if_neg (by omega)] at u2
     have:=a2.2 ⟨u1,u2⟩
     omega
    ·rw[at_ (j-1) (by omega),if_neg (by omega),if_neg (by omega)] at v
     have:=a2.2 ⟨u,v⟩
     omega
   ·rw[if_neg q2]
    obtain⟨c1,c2,c3,c4⟩:=h j hj
    by_cases q3:j=k+2
    ·subst q3
     rw[at_ (k+2-1) (by omega),show k+2-1=k+1 by omega,if_pos rfl]
     rw[show k+2-1=k+1 by omega] at c2 c3
     refine⟨c1,⟨fun u=>?_,fun u=>(by cases u.2)⟩,fun _ u=>(by cases u),c4⟩
     have:=(c2.1 u).2
     omega
    ·by_cases q4:j=0
     ·subst q4
      exact⟨c1,⟨fun u=>absurd (c2.1 u).1 (by omega),fun u=>absurd u.1 (by omega)⟩,fun u=>absurd u (by omega),c4⟩
     ·rw[at_ (j-1) (by omega),if_neg (by omega),if_neg (by omega)]
      exact⟨c1,c2,c3,c4⟩
 ·exact h
theorem split_nb {l:List Cl} {c:Int} {k:Nat} (hk:c=k):NB (splitL l c) k:=by
 intro h1 h2
 rw[splitL_length] at h2
 subst hk
 unfold splitL
 split
 ·next e=>
  rw[cAt_set (by simp<;>omega),cAt_set (by omega),if_neg (by omega),if_pos (by omega)]
  show(1:Int)≠2
  omega
 ·next e=>
  intro u
  exact e ⟨by omega,by omega,by rw[show((k:Int)-1).toNat=k-1 by omega];exact u⟩
theorem split_keep {l:List Cl} {c:Int} {k:Nat} (h:NB l k):NB (splitL l c) k:=by
 intro h1 h2
 rw[splitL_length] at h2
 have h3:=h h1 h2
 unfold splitL
 split
 ·next e=>
  rw[cAt_set (by simp<;>omega),cAt_set (by omega)]
  split
  ·show(1:Int)≠2
   omega
  ·split
   ·show(1:Int)≠2
    omega
   ·exact h3
 ·exact h3
theorem editG_ok {r:Gr} {k:Nat} {cs:List Cl} {rows cols:Int} (h:GrOk r rows cols) (h2:cols≤1000) (hc:k<r.ls.length→RowOk (liAt r.ls k).cs→(liAt r.ls k).cs.length=r.cols→cs.length=r.cols∧RowOk cs):GrOk (editG r k cs) rows cols:=by
 refine⟨h.c,by rw[←h.r];simp[editG],fun l hl=>?_⟩
 unfold editG at hl
 dsimp only at hl
 by_cases hk:k<r.ls.length
 ·rcases List.mem_or_eq_of_mem_set hl with q|q
  ·exact h.ok l q
  ·obtain⟨a1,a2⟩:=h.ok _ (liAt_mem hk)
   obtain⟨b1,b2⟩:=hc hk ((okL_iff _).1 a2).2 a1
   rw[q]
   exact⟨b1,(okL_iff _).2 ⟨by show cs.length≤1000;have:=h.c;omega,b2⟩⟩
 ·rw[List.set_eq_of_length_le (by omega)] at hl
  exact h.ok l hl
end Go.Proofs.YtjhhiindeignaaaGreatDoor
namespace Go.Proofs.YtjhhiindeignaaaGreatDoor
open Go Go.RowKit Go.Sy Go.Rep
set_option maxRecDepth 100000
set_option maxHeartbeats 400000
theorem okSv_zero:okSv zSv=true:=by decide
section
variable {w0 w w' w1:World} {F0:Nat→Prop} {bs:List Nat} {o o':Ob} {l l' l1 l2:List Ob} {R:Ending→World→Prop} {f:FuncId} {args:Array Value} {s s':Sx} {g:Gd}
theorem SsO.callB {b:Nat} {q:Sq} {V:Value} {ar:Nat→Array Value} (h:OS w0 F0 bs (SsO s) w1) (hb:s.b=b) (hm:∀b∈bs,b<w1.heap.size) (hc:(SsO s).P w1→Laid w1→Gets Tryz.prog f (ar s.b) w1 (SsO s).F (fun v w2=>v=V∧ModO SsO w1 s (fun s'=>s'.b=s.b∧s'.sq=q) w2))
  (hR:∀w2 s',s'.b=b→s'.sq=q→OS w0 F0 bs (SsO s') w2→Kept w0.heap.size F0 bs w1 w2→R (.returned V) w2):Runs Tryz.prog f (ar b) w1 R:=by
 subst hb
 exact OS.callA (ob:=SsO) (Qv:=fun v=>v=V) h hm hc fun v w2 y hv ⟨e1,e2⟩ h2 hk=>by subst hv;exact hR w2 y e1 e2 h2 hk
end
end Go.Proofs.YtjhhiindeignaaaGreatDoor
namespace Go.Proofs.YtjhhiindeignaaaGreatDoor
open Go Go.RowKit Go.Sy Go.Rep
set_option maxRecDepth 100000
set_option maxHeartbeats 1000000
section
variable {w0 w w' w1:World} {F0:Nat→Prop} {bs:List Nat} {o o':Ob} {l1 l2:List Ob} {R:Ending→World→Prop} {f:FuncId} {args:Array Value} {s s':Sx} {g:Gd}
theorem rt10_free (h:OS w0 F0 bs o w):OS w0 F0 [] o w:=⟨h.laid,h.kept,h.at_,fun i hi=>⟨(h.own i hi).1,by simp⟩⟩
end
end Go.Proofs.YtjhhiindeignaaaGreatDoor
abbrev Go.Sy.OS.free:=@Go.Proofs.YtjhhiindeignaaaGreatDoor.rt10_free
namespace Go.Proofs.YtjhhiindeignaaaGreatDoor
open Go Go.RowKit Go.Sy Go.Rep
set_option maxRecDepth 100000
set_option maxHeartbeats 1000000
end Go.Proofs.YtjhhiindeignaaaGreatDoor
namespace Go.Sy
open Go.RowKit (Below)
section
variable {w0 w w' w1:World} {F0:Nat→Prop} {bs:List Nat} {o o':Ob} {l l' l1 l2 l3:List Ob}
theorem Ob.sep_midP (l1 l2 l3:List Ob) (h:(Ob.sep (l1++(l2++l3))).P w):(Ob.sep (l1++Ob.sep l2::l3)).P w:=by
 have p1:(l1++(l2++l3)).Perm ((l1++l3)++l2):=by
  rw[List.append_assoc]
  exact List.Perm.append_left _ List.perm_append_comm
 have p2:((l1++l3)++[Ob.sep l2]).Perm (l1++Ob.sep l2::l3):=by
  rw[List.append_assoc]
  exact List.Perm.append_left _ (List.perm_append_comm (l₁:=l3) (l₂:=[Ob.sep l2]))
 exact Ob.sep_perm p2 (Ob.sep_group.1 (Ob.sep_perm p1 h))
theorem Ob.sep_midF (l1 l2 l3:List Ob) {i:Nat}:(Ob.sep (l1++Ob.sep l2::l3)).F i↔(Ob.sep (l1++(l2++l3))).F i:=by
 have p1:(l1++(l2++l3)).Perm ((l1++l3)++l2):=by
  rw[List.append_assoc]
  exact List.Perm.append_left _ List.perm_append_comm
 have p2:((l1++l3)++[Ob.sep l2]).Perm (l1++Ob.sep l2::l3):=by
  rw[List.append_assoc]
  exact List.Perm.append_left _ (List.perm_append_comm (l₁:=l3) (l₂:=[Ob.sep l2]))
 exact⟨fun h=>Ob.sepF_perm p1 (Ob.sepF_group.2 (Ob.sepF_perm p2 h)),fun h=>Ob.sepF_perm p2.symm (Ob.sepF_group.1 (Ob.sepF_perm p1.symm h))⟩
theorem OS.mid (l1 l2 l3:List Ob) (h:OS w0 F0 bs (Ob.sep (l1++(l2++l3))) w):OS w0 F0 bs (Ob.sep (l1++Ob.sep l2::l3)) w:=h.conv (Ob.sep_midP l1 l2 l3 h.at_) fun i hi=>(Ob.sep_midF l1 l2 l3).1 hi
end
end Go.Sy
namespace Go.Proofs.YtjhhiindeignaaaGreatDoor
open Go Go.RowKit Go.Sy Go.Rep
set_option maxRecDepth 100000
set_option maxHeartbeats 1000000
end Go.Proofs.YtjhhiindeignaaaGreatDoor
namespace Go.Proofs.YtjhhiindeignaaaGreatDoor
open Go Go.RowKit Go.Sy Go.Rep
set_option maxRecDepth 100000
set_option maxHeartbeats 1000000
structure PqJ (q:Pq):Prop where
 i:PqI q
 b:BuOk q.q
 t:q.text.length≤1024
end Go.Proofs.YtjhhiindeignaaaGreatDoor
namespace Go.Proofs.YtjhhiindeignaaaGreatDoor
open Go Go.RowKit Go.Sy Go.Rep
set_option maxRecDepth 100000
set_option maxHeartbeats 2000000
def Easy (r:Int):Prop:=(32≤r∧r≤126)∨r=10∨r=13
def easyA (r:Int):Aq:=⟨if 32≤r then 1 else 2,r,0,[],[],[]⟩
structure Ps0 (s:Ps):Prop where
 st:s.st=0
 bs:s.d.bs=[]
 j:PqJ s.pq
section
variable {w w':World} {b:Nat} {s:Ps}
theorem r_easy_Step {r:Int} (hL:Laid w) (h:PsAt w b s) (h0:s.st=0) (he:Easy r):Gets Tryz.prog X.parser_Step #[.pointer (some ⟨b,0,none⟩), .int .i32 r] w Nix (fun v w'=>NewAs w [easyA r] v w'):=by
 have hY:=hL.size
 have hbl:b<w.heap.size:=h.blk.lt
 have he':0≤r∧r≤126∧r≠27∧r≠24∧r≠26:=by unfold Easy at he;omega
 have at4:∀{V:World},Keeps Nix w V→At V ⟨b,0,none⟩ 4 [.int .i64 s.st]:=fun hk=>(h.nix hk).at_ 4 rfl
 have one:∀{V V1:World} {n:Nat} {k:Int},Keeps Nix w V→easyA r=actA k r→Litr V [] T.Action [.int .i64 k, .int .i32 r, .int .i32 0, .string ⟨[].toArray⟩, .slice none 0 0, .string ⟨[].toArray⟩] V1 n→Sy.Fin w Nix V1 (fun v w'=>NewAs w [easyA r] v w') (.slice (some ⟨n,0,none⟩) 1 1):=by
  intro V V1 n k hk e hl w' hb _
  have hs:=hk.size
  rw[e]
  exact NewAs.lit (b:=b) (x:=actA k r) rfl hs hl ((Keeps.of_below hb).mono fun _ e=>e.elim) (by omega)
 refine v_parser_Step _ r fun w1 hb1=>(c_parser_between (r:=r)).runs (Laid.below hb1 hL) fun w2 hk2 hL2=>⟨_,rfl,hk2.nix,fun e=>absurd (show 128≤r∧r≤159 by simpa using e) (by omega),fun _=>?_⟩
 have k2:=(Keeps.of_below hb1).trans hk2
 refine⟨fun V=>Keeps Nix w V∧32≤r,⟨fun u=>absurd u (by omega),fun _=>?_⟩,?_⟩
 ·refine⟨fun x V=>Keeps Nix w V∧x=false,⟨fun f=>absurd f (by omega),fun f V hb=>⟨fun g=>absurd g (by omega),fun g=>⟨k2.trans (Keeps.of_below hb),rfl⟩⟩⟩,?_⟩
  rintro x w26 hk26 ⟨k26,rfl⟩
  refine⟨fun f=>(nomatch f),fun f=>⟨_,at4 k26,fun e7=>absurd e7 (by omega),fun e7=>⟨_,at4 k26,fun e8=>absurd e8 (by omega),fun e8=>⟨fun g=>absurd g (by omega),fun g=>⟨fun g1=>⟨fun g2 w33 n hl=>one k26 (by unfold easyA actA;rw[if_neg (by omega)]) hl,fun g2 V hb=>⟨k26.trans (Keeps.of_below hb),by omega⟩⟩,fun g1=>absurd g1 (by omega)⟩⟩⟩⟩⟩
 ·rintro w3 _ ⟨k3,h32⟩
  refine⟨fun V=>Keeps Nix w V,⟨_,at4 k3,fun x V=>Keeps Nix w V∧x=false,⟨fun g=>absurd g (by omega),fun g V hb=>⟨fun u=>absurd u (by omega),fun u=>⟨k3.trans (Keeps.of_below hb),rfl⟩⟩⟩,?_⟩,?_⟩
  ·rintro x w11 _ ⟨k11,rfl⟩
   refine⟨fun g=>(nomatch g),fun g=>⟨fun x V=>Keeps Nix w V∧x=false,?_,?_⟩⟩
   ·exact⟨fun u=>absurd u (by omega),fun u=>⟨fun u2=>absurd u2 (by omega),fun u2=>⟨fun u3=>absurd u3 (by omega),fun u3 V hb=>⟨fun u4=>absurd u4 (by omega),fun u4=>⟨k11.trans (Keeps.of_below hb),rfl⟩⟩⟩⟩⟩
   ·rintro x w12 _ ⟨k12,rfl⟩
    exact⟨fun u=>(nomatch u),fun u V hb=>k12.trans (Keeps.of_below hb)⟩
  ·rintro w4 _ k4
   refine⟨fun g=>absurd g (by omega),fun g w5 hb5=>(c_utf_Valid (r:=r)).runs (Laid.nix (k4.trans (Keeps.of_below hb5)) hL) fun w6 hk6 _=>⟨_,rfl,hk6.nix,fun g2=>absurd g2 ?_,fun g2 w7 n hl=>one ((k4.trans (Keeps.of_below hb5)).trans hk6) (by unfold easyA actA;rw[if_pos h32]) hl⟩⟩
   have:okRune r=true:=by unfold okRune;simp<;>omega
   rw[this]
   simp
theorem feed_easy:∀(bs:List Int) (q:Dq),q.bs=[]→(∀x∈bs,Easy x)→(feedQ bs q).2=bs∧(feedQ bs q).1.bs=[]:=by
 intro bs q hq hb
 have one:∀(c:Int) (q:Dq),q.bs=[]→Easy c→(stepQ c q).1.bs=[]∧(stepQ c q).2=[c]:=by
  intro c q hq he
  have he':0≤c∧c≤126:=by unfold Easy at he;omega
  rw[stepQ,if_pos hq,beginQ,if_pos (by omega)]
  refine⟨rfl,?_⟩
  show[IntKind.wrap .i32 c]=[c]
  rw[show IntKind.wrap .i32 c=c by rw[IntKind.wrap_i32];omega]
 have gen:∀(bs:List Int) (a:Dq×List Int),a.1.bs=[]→(∀x∈bs,Easy x)→(bs.foldl feedF a).2=a.2++bs∧(bs.foldl feedF a).1.bs=[]:=by
  intro bs
  induction bs with
  |nil=>intro a h _;exact⟨by simp,h⟩
  |cons x xs ih=>
   intro a h hx
   obtain⟨h1,h2⟩:=one x a.1 h (hx x (by simp))
   obtain⟨i1,i2⟩:=ih (feedF a x) h1 fun y hy=>hx y (by simp[hy])
   refine⟨?_,i2⟩
   rw[List.foldl_cons,i1]
   show(a.2++(stepQ x a.1).2)++xs=_
   rw[h2,List.append_assoc]
   rfl
 obtain⟨g1,g2⟩:=gen bs (q,[]) hq hb
 exact⟨by rw[feedQ,g1];rfl,g2⟩
end
end Go.Proofs.YtjhhiindeignaaaGreatDoor
namespace Go.Proofs.YtjhhiindeignaaaGreatDoor
open Go Go.RowKit Go.Sy Go.Rep
set_option maxRecDepth 100000
set_option maxHeartbeats 2000000
section
variable {w w':World} {b:Nat} {s:Ps}
theorem r_easy_Write {p:Option Addr} {n c:Nat} {bs:List Int} (hL:Laid w) (h:PsAt w b s) (h0:Ps0 s) (hr:Row w p n 1 (bvals bs)) (hl:bs.length=n) (hn:n≤1048576) (hoff:∀a,p=some a→a.block≠b) (he:∀x∈bs,Easy x):
  Gets Tryz.prog X.parser_Write #[.pointer (some ⟨b,0,none⟩), .slice p n c] w (fun i=>i=b) (fun v w'=>NewAs w (bs.map easyA) v w'∧∃s',Ps0 s'∧PsAt w' b s'∧∀i,PsF b s' i→PsF b s i∨w.heap.size≤i):=by
 have hY:=hL.size
 have hbl:b<w.heap.size:=h.blk.lt
 have hFY:∀i,(fun i=>i=b) i→Y.count≤i:=fun i e=>by have:=h.lo;omega
 refine v_parser_Write _ p n c fun w1 hb1=>?_
 have hs1:=hb1.size
 have h1:=h.below hb1
 obtain⟨f1,f2⟩:=feed_easy bs s.d.q h0.bs he
 refine(r_utf_Feed (by omega) h1.winD h1.dok (hr.below hb1) hl hn hoff).runs fun v w2 hk2 ⟨⟨p1,n2,hv,ho⟩,d2,hd2,hda,hdF⟩=>?_
 rw[f1] at hv ho
 subst hv
 have hs2:=hk2.size
 have k2:Keeps (fun i=>i=b) w w2:=((Keeps.of_below hb1).mono fun _ e=>e.elim).trans hk2
 have hdok:DqOk (feedQ bs s.d.q).1:=(feedQ_ok h1.dok bs).1
 have h2:=h1.setD hk2 hda (by rw[hd2];exact hdok)
 obtain⟨s2,es2⟩:∃s2:Ps,(⟨d2,s.st,s.pre,s.inter,s.q,s.tp,s.tc,s.text⟩:Ps)=s2:=⟨_,rfl⟩
 rw[es2] at h2
 have h02:Ps0 s2:=by
  subst es2
  refine⟨h0.st,?_,⟨⟨h0.j.i.txt,h0.j.i.int⟩,h0.j.b,h0.j.t⟩⟩
  show d2.q.bs=[]
  rw[hd2]
  exact f2
 have hF2:∀i,PsF b s2 i→PsF b s i∨w.heap.size≤i:=fun i hi=>by
  subst es2
  rcases hi with u|u|u
  ·exact .inl (.inl u)
  ·rcases hdF i u with v|v
   ·exact .inl (.inr (.inl v))
   ·exact .inr (by omega)
  ·exact .inl (.inr (.inr u))
 refine⟨_,_,_,rfl,hk2.kept (fun i hi _=>hi) (fun i _ _ hm=>by cases hm),fun p2 n3 n4 i V=>∃j:Nat,i=j∧j≤bs.length∧n3=j∧Keeps (fun i=>i=b) w2 V∧∃xs,xs.map Ax.q=(bs.take j).map easyA∧Acts V w2.heap.size p2 n3 n4 xs∧PsAt V b s2∧∀i,PsF b s2 i→¬PF p2 i,
  fun _ _ _ i=>((bs.length:Int)-i).toNat,fun w9 hb9=>⟨0,rfl,Nat.zero_le _,rfl,(Keeps.of_below hb9).mono fun _ e=>e.elim,[],rfl,⟨Own.nil _ _ _ _,fun x hx=>(by cases hx),fun i ⟨a,ha,_⟩=>(by cases ha)⟩,h2.below hb9,fun i hi ⟨a,ha,_⟩=>(by cases ha)⟩,?_⟩
 rintro p2 n3 n4 i w3 hk3 ⟨j,rfl,hj,rfl,k3,xs,hx,ha,h3,hF⟩
 have hs3:=k3.size
 refine⟨fun hi=>?_,fun hge w' hb _=>?_⟩
 ·obtain⟨a,hap⟩:=(Own.row ho).some_ (by omega)
  obtain⟨y,hy⟩:∃y,bs[n3]? =some y:=⟨_,List.getElem?_eq_getElem (by omega)⟩
  have ho3:Own w1.heap.size w3 T.int32 1 p1 bs.length n2 (rvals bs):=ho.keeps k3 fun a ha e=>by have:=(ho.lt a ha).2.1;omega
  have hat:At w3 a (n3*1) [.int .i32 y]:=Row.at_ ho3.row hap _ (us:=[.int .i32 y]) (by
   show _=((rvals bs).drop (n3*1)).take 1
   rw[Nat.mul_one,List.drop_eq_getElem_cons (by simp[rvals];omega)]
   have:bs[n3]=y:=by rw[List.getElem?_eq_getElem (by omega)] at hy;exact Option.some.inj hy
   simp[rvals,this])
  refine⟨a,hap,⟨by omega,by omega⟩,y,by rw[Int.toNat_natCast];exact hat,fun w5 hb5=>?_⟩
  have hs5:=hb5.size
  have hL5:Laid w5:=Laid.below hb5 (hL.keeps (k2.trans k3) hFY)
  refine(r_easy_Step (r:=y) hL5 (h3.below hb5) h02.st (he y (List.mem_of_getElem? hy))).runs fun v w6 hk6 ⟨p3,c3,ys,hv,hyq,ha3⟩=>?_
  subst hv
  have hsz6:=hk6.size
  have ha6:Acts w6 w2.heap.size p2 n3 n4 xs:=(ha.keeps (Keeps.of_below hb5) fun _ e=>e.elim).keeps hk6 fun i e=>e.elim
  have hyl:(avals ys).length=[easyA y].length*6:=by rw[avals_len,←hyq,List.length_map]
  have hp2lt:∀a,p2=some a→a.block<w5.heap.size:=fun a ha'=>by have:=(ha.row.lt a ha').1;omega
  refine⟨_,_,_,rfl,hk6.kept (fun i hi _=>hi.elim) (fun i hi _ hm=>by cases hm),_,ha6.row.room (fun a' ha'=>by simp) (fun _ a' ha' hl'=>by have:=(ha6.row.lt a' ha').2.1;omega),avals ys,⟨hyl,avals_one _,fun e'=>Row.none0 ha3.row.row e',fun a' ha'=>ha3.row.row.lies a' ha'⟩,by simp<;>omega,fun w7 p4 n7 hg=>⟨by unfold I64;omega,fun w8 hb8=>⟨⟨n3+1,by omega,by omega,rfl,?_,xs++ys,?_,?_,?_,fun i hi ⟨a',ha',e⟩=>?_⟩,by dsimp only;omega⟩⟩⟩
  ·have q1:Keeps (fun i=>i=b∨w2.heap.size≤i) w6 w7:=hg.keeps fun _ a ha'=> .inr (ha.row.lt a ha').2.1
   have q2:Keeps (fun i=>i=b∨w2.heap.size≤i) w2 w6:=((k3.mono fun _ e=> .inl e).trans ((Keeps.of_below hb5).mono fun _ e=>e.elim)).trans (hk6.mono fun _ e=>e.elim)
   exact Keeps.old ((q2.trans q1).trans ((Keeps.of_below hb8).mono fun _ e=>e.elim))
  ·rw[List.map_append,hx,hyq,List.take_add_one,hy]
   simp
  ·exact(ha6.more ha3 hp2lt (by omega) (by omega) hg).keeps (Keeps.of_below hb8) fun _ e=>e.elim
  ·refine(((h3.below hb5).nix hk6).keeps (hg.keeps (F:=PF p2) fun _ a ha'=>⟨a,ha',rfl⟩) fun i hp hi=>hF i hi hp).below hb8
  ·have hlt:=(h3.below hb5).lt hi
   rcases hg.place a' ha' with⟨a2,h9,h10,_⟩|u
   ·exact hF i hi ⟨a2,h9,by omega⟩
   ·have:=hk6.size
    omega
 ·obtain rfl:n3=bs.length:=by omega
  rw[List.take_of_length_le (Nat.le_refl _)] at hx
  refine⟨⟨p2,n4,xs,by rw[List.length_map],hx,?_⟩,s2,h02,h3.below hb,hF2⟩
  rw[List.length_map]
  exact(ha.low (by omega)).keeps (Keeps.of_below hb) fun _ e=>e.elim
end
end Go.Proofs.YtjhhiindeignaaaGreatDoor
namespace Go.Proofs.YtjhhiindeignaaaGreatDoor
open Go Go.RowKit Go.Sy Go.Rep
set_option maxRecDepth 100000
set_option maxHeartbeats 1000000
theorem cAt_app_l {a b:List Cl} {j:Nat} (h:j<a.length):cAt (a++b) j=cAt a j:=by
 simp only[cAt,List.getD_eq_getElem?_getD]
 rw[List.getElem?_append_left h]
theorem cAt_app_r {a b:List Cl} {j:Nat} (h:a.length≤j):cAt (a++b) j=cAt b (j-a.length):=by
 simp only[cAt,List.getD_eq_getElem?_getD]
 rw[List.getElem?_append_right h]
theorem app_ok {a b:List Cl} (ha:RowOk a) (hb:RowOk b):RowOk (a++b):=by
 intro j hj
 rw[List.length_append] at hj⊢
 by_cases h:j<a.length
 ·rw[cAt_app_l h]
  obtain⟨h1,h2,h3,h4⟩:=ha j h
  rw[cAt_app_l (show j-1<a.length by omega)]
  exact⟨h1,h2,h3,fun e=>by have:=h4 e;omega⟩
 ·rw[cAt_app_r (by omega)]
  obtain⟨h1,h2,h3,h4⟩:=hb (j-a.length) (by omega)
  by_cases h0:j=a.length
  ·by_cases hz:a.length=0
   ·have hn:a=[]:=List.eq_nil_of_length_eq_zero hz
    subst hn
    simp only[List.length_nil,Nat.sub_zero,List.nil_append,Nat.zero_add] at*
    exact⟨h1,h2,h3,h4⟩
   ·rw[cAt_app_l (show j-1<a.length by omega)]
    have hq:(cAt a (j-1)).w≠2:=fun e=>by have:=(ha (j-1) (by omega)).2.2.2 e;omega
    refine⟨h1,⟨fun e=>?_,fun e=>absurd e.2 hq⟩,fun _ e=>absurd e hq,fun e=>by have:=h4 e;omega⟩
    have:=(h2.1 e).1
    omega
  ·rw[cAt_app_r (show a.length≤j-1 by omega),show j-1-a.length=j-a.length-1 by omega]
   refine⟨h1,⟨fun e=>⟨by omega,(h2.1 e).2⟩,fun e=>h2.2 ⟨by omega,e.2⟩⟩,fun _ e=>h3 (by omega) e,fun e=>by have:=h4 e;omega⟩
theorem cAt_take {l:List Cl} {k j:Nat} (h:j<k):cAt (l.take k) j=cAt l j:=by
 simp only[cAt,List.getD_eq_getElem?_getD]
 rw[List.getElem?_take_of_lt h]
theorem cAt_drop {l:List Cl} {k j:Nat}:cAt (l.drop k) j=cAt l (k+j):=by
 simp only[cAt,List.getD_eq_getElem?_getD]
 rw[List.getElem?_drop]
theorem take_ok {l:List Cl} {k:Nat} (h:RowOk l) (hn:NB l k):RowOk (l.take k):=by
 intro j hj
 rw[List.length_take] at hj⊢
 obtain⟨h1,h2,h3,h4⟩:=h j (by omega)
 rw[cAt_take (by omega),cAt_take (by omega)]
 refine⟨h1,h2,h3,fun e=>?_⟩
 have:=h4 e
 by_cases q:j+1=k
 ·exact absurd e (by have:=hn (by omega) (by omega);rw[show k-1=j by omega] at this;exact this)
 ·omega
theorem drop_ok {l:List Cl} {k:Nat} (h:RowOk l) (hn:NB l k):RowOk (l.drop k):=by
 intro j hj
 rw[List.length_drop] at hj⊢
 obtain⟨h1,h2,h3,h4⟩:=h (k+j) (by omega)
 rw[cAt_drop,cAt_drop]
 by_cases h0:j=0
 ·subst h0
  refine⟨h1,⟨fun e=>?_,fun e=>by omega⟩,fun e=>by omega,fun e=>by have:=h4 e;omega⟩
  have:=h2.1 e
  exact absurd this.2 (hn (by omega) (by omega))
 ·rw[show k+j-1=k+(j-1) by omega] at h2 h3
  exact⟨h1,⟨fun e=>⟨by omega,(h2.1 e).2⟩,fun e=>h2.2 ⟨by omega,e.2⟩⟩,fun _ e=>h3 (by omega) e,fun e=>by have:=h4 e;omega⟩
theorem nb_drop {l:List Cl} {k j:Nat} (h:NB l (k+j)) (hj:1≤j):NB (l.drop k) j:=by
 intro h1 h2
 rw[List.length_drop] at h2
 rw[cAt_drop,show k+(j-1)=k+j-1 by omega]
 exact h (by omega) (by omega)
theorem part_ok {l:List Cl} {k m:Nat} (h:RowOk l) (h1:NB l k) (h2:NB l (k+m)):RowOk ((l.drop k).take m):=by
 by_cases hm:m=0
 ·subst hm
  intro j hj
  simp at hj
 ·exact take_ok (drop_ok h h1) (nb_drop h2 (by omega))
theorem set_parts {l:List Cl} {k:Nat} {c:Cl} (h:k<l.length):l.set k c=l.take k++([c]++l.drop (k+1)):=by
 rw[List.set_eq_take_append_cons_drop,if_pos h]
 rfl
theorem set_parts2 {l:List Cl} {k:Nat} {c d:Cl} (h:k+1<l.length):(l.set k c).set (k+1) d=l.take k++([c,d]++l.drop (k+2)):=by
 apply List.ext_getElem?
 intro j
 have hl:(l.take k).length=k:=by simp<;>omega
 rw[List.getElem?_set,List.getElem?_set]
 by_cases h1:j<k
 ·rw[if_neg (by omega),if_neg (by omega),List.getElem?_append_left (by omega),List.getElem?_take_of_lt h1]
 ·rw[List.getElem?_append_right (by omega),hl]
  by_cases h2:j=k
  ·subst h2
   rw[if_neg (by omega),if_pos rfl,if_pos (by omega),Nat.sub_self]
   rfl
  ·by_cases h3:j=k+1
   ·subst h3
    rw[if_pos rfl,if_pos (by simp<;>omega),show k+1-k=1 by omega]
    rfl
   ·rw[if_neg (by omega),if_neg (by omega),List.getElem?_append_right (by simp<;>omega),List.getElem?_drop]
    congr 1
    simp
    omega
theorem valid_sCl {p:Pn} (h:okPn p=true):validCl (sCl p)=true:=by
 unfold validCl sCl
 simp[h]
theorem one_ok {c:Cl} (h:validCl c=true) (hw:c.w=1):RowOk [c]:=by
 intro j hj
 have:j=0:=by simp at hj;exact hj
 subst this
 exact⟨h,⟨fun e=>absurd (show c.w=0 from e) (by omega),fun e=>absurd e.1 (by omega)⟩,fun e=>absurd e (by omega),fun e=>absurd (show c.w=2 from e) (by omega)⟩
theorem two_ok {c:Cl} (h:validCl c=true) (hw:c.w=2):RowOk [c,sCl c.p]:=by
 intro j hj
 have:j=0∨j=1:=by simp at hj;omega
 rcases this with rfl|rfl
 ·exact⟨h,⟨fun e=>absurd (show c.w=0 from e) (by omega),fun e=>absurd e.1 (by omega)⟩,fun e=>absurd e (by omega),fun e=>(by show 0+1<2;omega)⟩
 ·exact⟨valid_sCl (ok_pen h),⟨fun _=>⟨by omega,hw⟩,fun _=>rfl⟩,fun _ _=>rfl,fun e=>by cases e⟩
theorem put_ok {cs:List Cl} {col:Int} {c:Cl} (h:RowOk cs) (hc:validCl c=true) (h0:c.w≠0) (h1:0≤col) (h2:col+c.w≤cs.length):RowOk (putL cs col c)∧(putL cs col c).length=cs.length:=by
 have hw:c.w=1∨c.w=2:=by have:=valid_w hc;omega
 have hl:(splitL (splitL cs col) (col+c.w)).length=cs.length:=by rw[splitL_length,splitL_length]
 have hk:RowOk (splitL (splitL cs col) (col+c.w)):=split_ok (split_ok h _) _
 have n1:NB (splitL (splitL cs col) (col+c.w)) col.toNat:=split_keep (split_nb (by omega))
 have n2:NB (splitL (splitL cs col) (col+c.w)) (col+c.w).toNat:=split_nb (by omega)
 unfold putL
 rcases hw with e|e
 ·rw[if_neg (by omega),List.length_set]
  refine⟨?_,hl⟩
  rw[set_parts (by omega)]
  rw[show(col+c.w).toNat=col.toNat+1 by omega] at n2
  exact app_ok (take_ok hk n1) (app_ok (one_ok hc e) (drop_ok hk n2))
 ·rw[if_pos e,List.length_set,List.length_set]
  refine⟨?_,hl⟩
  rw[show(col+1).toNat=col.toNat+1 by omega,set_parts2 (by omega)]
  rw[show(col+c.w).toNat=col.toNat+2 by omega] at n2
  exact app_ok (take_ok hk n1) (app_ok (two_ok hc e) (drop_ok hk n2))
theorem putG_ok {r:Gr} {row col:Int} {c:Cl} {rows cols:Int} (h:GrOk r rows cols) (h2:cols≤1000):GrOk (putG r row col c) rows cols:=by
 unfold putG
 split
 ·next e=>
  unfold putE at e
  split at e
  ·next q=>exact absurd e q
  ·next q=>
   split at e
   ·cases e
   ·next q2=>
    have hat:atE r row col=0:=by omega
    have hcol:0≤col:=by
     unfold atE at hat
     split at hat
     ·cases hat
     ·next u=>exact Int.not_lt.1 fun v=>u ⟨hat, .inl v⟩
    refine editG_ok h h2 fun hk hr hl=>?_
    have hv:validCl c=true:=by
     cases hvc:validCl c
     ·exact absurd (.inl hvc) q2
     ·rfl
    obtain⟨a,b⟩:=put_ok (c:=c) hr hv (fun u=>q2 (.inr (.inl u))) hcol (by have:=fun u=>q2 (.inr (.inr u));omega)
    exact⟨by rw[b,hl],a⟩
 ·exact h
theorem ins_parts {l:List Cl} {k m c:Nat} {q:Pn} (h:k+m+c=l.length):wipeL (moveL l (k+m) k c) k m q=l.take k++(List.replicate m (bCl q)++(l.drop k).take c):=by
 unfold wipeL moveL
 have e1:((l.take (k+m)++(l.drop k).take c)++l.drop (k+m+c)).take k=l.take k:=by
  rw[List.append_assoc,List.take_append_of_le_length (by simp<;>omega),List.take_take,Nat.min_eq_left (by omega)]
 have e2:((l.take (k+m)++(l.drop k).take c)++l.drop (k+m+c)).drop (k+m)=(l.drop k).take c:=by
  have:(l.take (k+m)).length=k+m:=by simp<;>omega
  rw[List.append_assoc,List.drop_append_of_le_length (by omega),List.drop_of_length_le (by omega),List.nil_append,List.drop_of_length_le (show l.length≤k+m+c by omega),List.append_nil]
 rw[e1,e2,List.append_assoc]
theorem del_parts {l:List Cl} {k m c:Nat} {q:Pn} (h:k+m+c=l.length):wipeL (moveL l k (k+m) c) (k+c) m q=l.take k++(l.drop (k+m)++List.replicate m (bCl q)):=by
 unfold wipeL moveL
 have hl1:(l.take k).length=k:=by simp<;>omega
 have e0:(l.drop (k+m)).take c=l.drop (k+m):=List.take_of_length_le (by simp<;>omega)
 rw[e0]
 have hl2:(l.take k++l.drop (k+m)).length=k+c:=by simp<;>omega
 have e1:((l.take k++l.drop (k+m))++l.drop (k+c)).take (k+c)=l.take k++l.drop (k+m):=by
  rw[List.take_append_of_le_length (by omega),List.take_of_length_le (by omega)]
 have e2:((l.take k++l.drop (k+m))++l.drop (k+c)).drop (k+c+m)=[]:=List.drop_of_length_le (by simp<;>omega)
 rw[e1,e2,List.append_nil,List.append_assoc]
theorem shift_ok {cs:List Cl} {cols col n:Int} {q:Pn} (h:RowOk cs) (hq:okPn q=true) (hc:cols=cs.length) (h0:0≤col) (h1:col<cols) (hn:n≠0):RowOk (shiftL cs cols col n q)∧(shiftL cs cols col n q).length=cs.length:=by
 unfold shiftL
 have del:∀m:Int,0<m→m≤cols-col→RowOk (wipeL (moveL (splitL (splitL cs col) (col+m)) col.toNat (col+m).toNat (min ((cs.length:Int)-(col+m)).toNat ((cs.length:Int)-col).toNat)) (cols-m).toNat ((cs.length:Int)-(cols-m)).toNat q)∧(wipeL (moveL (splitL (splitL cs col) (col+m)) col.toNat (col+m).toNat (min ((cs.length:Int)-(col+m)).toNat ((cs.length:Int)-col).toNat)) (cols-m).toNat ((cs.length:Int)-(cols-m)).toNat q).length=cs.length:=by
  intro m m0 m1
  have hl:(splitL (splitL cs col) (col+m)).length=cs.length:=by rw[splitL_length,splitL_length]
  have hk:RowOk (splitL (splitL cs col) (col+m)):=split_ok (split_ok h _) _
  have n1:NB (splitL (splitL cs col) (col+m)) col.toNat:=split_keep (split_nb (by omega))
  have n2:NB (splitL (splitL cs col) (col+m)) (col.toNat+m.toNat):=split_nb (by omega)
  rw[show min ((cs.length:Int)-(col+m)).toNat ((cs.length:Int)-col).toNat=cs.length-(col.toNat+m.toNat) by omega,show(col+m).toNat=col.toNat+m.toNat by omega,show(cols-m).toNat=col.toNat+(cs.length-(col.toNat+m.toNat)) by omega,show((cs.length:Int)-(cols-m)).toNat=m.toNat by omega,del_parts (by omega)]
  refine⟨app_ok (take_ok hk n1) (app_ok (drop_ok hk n2) (blankRow_ok hq)),?_⟩
  simp only[List.length_append,List.length_take,List.length_drop,List.length_replicate]
  omega
 split
 ·have hl:(splitL (splitL cs col) (cols-min n (cols-col))).length=cs.length:=by rw[splitL_length,splitL_length]
  have hk:RowOk (splitL (splitL cs col) (cols-min n (cols-col))):=split_ok (split_ok h _) _
  have n1:NB (splitL (splitL cs col) (cols-min n (cols-col))) col.toNat:=split_keep (split_nb (by omega))
  have n2:NB (splitL (splitL cs col) (cols-min n (cols-col))) (col.toNat+(cs.length-(col.toNat+(min n (cols-col)).toNat))):=split_nb (by omega)
  rw[show min ((cols-min n (cols-col))-col).toNat ((cs.length:Int)-(col+min n (cols-col))).toNat=cs.length-(col.toNat+(min n (cols-col)).toNat) by omega,show(col+min n (cols-col)).toNat=col.toNat+(min n (cols-col)).toNat by omega,show(col+min n (cols-col)-col).toNat=(min n (cols-col)).toNat by omega,ins_parts (by omega)]
  refine⟨app_ok (take_ok hk n1) (app_ok (blankRow_ok hq) (part_ok hk n1 n2)),?_⟩
  simp only[List.length_append,List.length_take,List.length_drop,List.length_replicate]
  omega
 ·split
  ·exact del (0-n) (by omega) (by omega)
  ·exact del (cols-col) (by omega) (by omega)
theorem shiftG_ok {r:Gr} {row col n:Int} {q:Pn} {rows cols:Int} (h:GrOk r rows cols) (hq:okPn q=true) (h2:cols≤1000):GrOk (shiftG r row col n q) rows cols:=by
 unfold shiftG
 split
 ·next e=>
  obtain⟨e,hn⟩:=e
  unfold shiftE at e
  split at e
  ·next q=>exact absurd e q
  ·next q3=>
   have hat:atE r row col=0:=by omega
   have hcol:0≤col∧col<r.cols:=by
    unfold atE at hat
    split at hat
    ·cases hat
    ·next u=>exact⟨Int.not_lt.1 fun v=>u ⟨hat, .inl v⟩,Int.not_le.1 fun v=>u ⟨hat, .inr v⟩⟩
   refine editG_ok h h2 fun hk hr hl=>?_
   obtain⟨a,b⟩:=shift_ok (cols:=r.cols) (col:=col) (n:=n) hr hq (by omega) hcol.1 hcol.2 hn
   exact⟨by rw[b,hl],a⟩
 ·exact h
theorem markG_ok {r:Gr} {c:Cu} {ch:Int} {rows cols:Int} (h:GrOk r rows cols) (h2:cols≤1000):GrOk (markG r c ch) rows cols:=by
 unfold markG
 split
 ·exact putG_ok h h2
 ·exact h
theorem printG_ok {r:Gr} {c:Cu} {ch:Int} {p:Pn} {ins:Bool} {rows cols:Int} (h:GrOk r rows cols) (hp:okPn p=true) (h2:cols≤1000):GrOk (printG r c ch p ins) rows cols:=by
 unfold printG
 refine putG_ok ?_ h2
 split
 ·exact shiftG_ok h hp h2
 ·exact h
end Go.Proofs.YtjhhiindeignaaaGreatDoor
namespace Go.Proofs.YtjhhiindeignaaaGreatDoor
open Go Go.RowKit Go.Sy Go.Rep
set_option maxRecDepth 100000
set_option maxHeartbeats 1000000
theorem SqOk.more {N M:Nat} {q:Sq} (h:SqOk N q) (hm:N≤M):SqOk M q:={h with nx:=Nat.le_trans h.nx hm}
theorem markQ_ok {N:Nat} {q:Sq} {ch:Int} (h:SqOk N q):SqOk N (markQ ch q):=by
 have hg:=markG_ok (c:=q.cu) (ch:=ch) h.grid h.c2
 refine setGrQ_ok h hg ?_
 have:=h.cuIn
 exact⟨h.cr1,by rw[hg.r];exact h.cr2,h.cc1,by rw[hg.c];exact h.cc2,fun e=>by rw[hg.c];exact h.cp e⟩
theorem prX_w {r:Gr} {ch:Int} {p:Pn} (h:1≤wOf ch) (h1:1≤r.cols):1≤(prX r ch p).w∧(prX r ch p).w≤r.cols:=by
 unfold prX
 split
 ·exact⟨Int.le_refl 1,by show(1:Int)≤r.cols;omega⟩
 ·exact⟨h,by dsimp only;omega⟩
theorem putQ_ok {N:Nat} {q:Sq} {ch:Int} (h:SqOk N q) (hw:1≤wOf ch):SqOk N (putQ ch q):=by
 have hg:=printG_ok (c:=q.cu) (ch:=ch) (ins:=q.md.ins) h.grid h.pen h.c2
 have hc:=h.grid.c
 have hc1:=h.c1
 obtain⟨x1,x2⟩:=prX_w (r:=Pv.grid q.pv) (p:=q.pen) hw (by omega)
 have k1:=h.cc1
 have k2:=h.cc2
 refine setGrQ_ok h hg ?_
 unfold printC prCol
 split
 ·exact⟨h.cr1,by rw[hg.r];exact h.cr2,by dsimp only;omega,by rw[hg.c];dsimp only;omega,fun e=>by cases e⟩
 ·exact⟨h.cr1,by rw[hg.r];exact h.cr2,by dsimp only;omega,by rw[hg.c];dsimp only;omega,fun e=>by rw[hg.c];dsimp only;omega⟩
theorem printQ_ok {N:Nat} {q:Sq} {r:Int} (h:SqOk N q):SqOk (N+1000) (printQ r q):=by
 unfold printQ
 split
 ·exact h.more (by omega)
 ·split
  ·exact(markQ_ok h).more (by omega)
  ·next e1 e2=>
   refine putQ_ok ?_ (by omega)
   split
   ·exact wrapQ_ok h
   ·exact h.more (by omega)
theorem okCs_zero:okCs zCs=true:=by decide
theorem okPn_zero:okPn zPn=true:=by decide
theorem newG_ok {rows cols:Nat} (h:cols≤1000):GrOk (newG rows cols) rows cols:=by
 refine⟨rfl,by show((List.replicate rows _).length:Int)=rows;rw[List.length_replicate],fun l hl=>?_⟩
 rw[List.eq_of_mem_replicate hl]
 refine⟨List.length_replicate,?_⟩
 rw[okL_iff]
 exact⟨by show(List.replicate cols _).length≤1000;rw[List.length_replicate];exact h,blankRow_ok okPn_zero⟩
end Go.Proofs.YtjhhiindeignaaaGreatDoor
namespace Go.Proofs.YtjhhiindeignaaaGreatDoor
open Go Go.RowKit Go.Sy Go.Rep
set_option maxRecDepth 100000
set_option maxHeartbeats 1000000
def feedS (r:Int) (q:Sq):Sq:=if r=10 then indexQ q else setCu (zeroCu q) q
def easyS (r:Int) (q:Sq):Sq:=if 32≤r then printQ r q else feedS r q
def easyD (r:Int) (q:Sq):Sq:={easyS r q with pushed:=0}
theorem answerS_nil (q:Sq):answerS [] q=q:=by
 unfold answerS
 split
 ·rw[List.append_nil]
 ·rfl
theorem r_easy_Answer {w:World} {x:Ac} {a:Ar} {c:Cu} {m:Md} (hk:x.kind=1∨x.kind=2):Gets Tryz.prog X.reply_Answer #[.agg x.arr, .agg a.arr, .agg c.arr, .agg m.arr] w Nix (fun v w'=>v= .tuple #[.string ⟨[].toArray⟩, .int .i64 0]):=
 v_reply_Answer x a c m fun n1 g1 n2 g2 n3 g3 n4 g4=>⟨fun _=>True,⟨fun e=>absurd e (by omega),fun _ _ _=>trivial⟩,fun w1 _ _=>⟨fun _=>Fin.of fun _=>rfl,fun e=>absurd e (by omega)⟩⟩
section
variable {w0 w w' w1:World} {F0:Nat→Prop} {bs:List Nat} {o o':Ob} {l l' l1 l2:List Ob} {R:Ending→World→Prop} {f:FuncId} {args:Array Value} {s s':Sx} {g:Gd}
theorem r_easy_execute {N:Nat} {r:Int} (hL:Laid w) (h:(SsO s).P w) (ok:SqOk N s.sq) (hN:N+1000≤4611686018427387904) (hp:s.pushed=0) (hr:r=10∨r=13):Gets Tryz.prog X.screen_execute #[s.ptr, .int .i32 r] w (SsO s).F (fun v w'=>v= .int .i64 0∧ModO SsO w s (fun s'=>s'.b=s.b∧s'.sq=feedS r s.sq) w'):=by
 have hY:=hL.size
 have s0:=OS.start (bs:=[]) hL h (by simp)
 refine v_screen_execute _ r ⟨fun e V=>e=0∧∃s',s'.b=s.b∧s'.sq=feedS r s.sq∧OS w (SsO s).F [] (SsO s') V,⟨fun e8=>absurd e8 (by omega),fun n8=>⟨fun e9=>absurd e9 (by omega),fun n9=>?_⟩⟩,?_⟩
 ·refine⟨fun x V=>x=decide (r=10)∧OS w (SsO s).F [] (SsO s) V,⟨fun u V hb=>⟨fun _=>⟨by simp[u],s0.below hb⟩,fun v=>absurd u v⟩,fun u=>⟨fun u2=>absurd u2 (by omega),fun u2 V hb=>⟨fun u3=>absurd u3 (by omega),fun u3=>⟨by simp[u],s0.below hb⟩⟩⟩⟩,?_⟩
  rintro x w3 _ ⟨hx,s3⟩
  refine⟨fun ex w18 hb18=>?_,fun ex=>⟨fun e13=>?_,fun n13=>?_⟩⟩
  ·have hx':r=10:=by rw[hx] at ex;exact of_decide_eq_true ex
   exact SsO.callQ (s3.below hb18) rfl (by simp) (fun a b=>r_screen_index b a ok hN hp) fun w25 s' e1 e2 h2 hk=>⟨_,rfl,hk,fun w26 hb26=>⟨rfl,s',e1,by rw[e2,feedS,if_pos hx'],h2.below hb26⟩⟩
  all_goals have hx':¬r=10:=by rw[hx] at ex;exact of_decide_eq_false ex
  ·refine⟨s.cu,SsO.cell s3 4 rfl,fun w27 hb27=>SsO.areaC (s3.below hb27) rfl fun w28 s28 hk28=>⟨_,rfl,hk28.nix,SsO.cell s28 4 rfl,fun w29 hb29=>OS.pure (c_motion_Return ok.area ok.cu) (s28.below hb29) fun w30 s30 hk30=>⟨_,_,rfl,hk30.nix,SsO.can s30 (by omega),fun w31 hp31 w32 hb32=>⟨rfl,_,?_,?_,(SsO.putCu s30 rfl hp31 (by simp) (by simp) hY).below hb32⟩⟩⟩⟩
   ·rfl
   ·rw[feedS,if_neg hx']
    rfl
  ·exact absurd n13 (by omega)
 ·rintro i w1 _ ⟨rfl,s',e1,e2,h1⟩ w' hb _
  exact⟨rfl,OS.fin (h1.below hb) ⟨e1,e2⟩⟩
theorem r_easy_act {N:Nat} {r:Int} {x:Ax} (hL:Laid w) (h:(SsO s).P w) (ok:SqOk N s.sq) (hN:N+1000≤4611686018427387904) (hp:s.pushed=0) (hx:x.q=easyA r) (he:Easy r):
  Gets Tryz.prog X.screen_act #[s.ptr, .agg x.ac.arr] w (SsO s).F (fun v w'=>v= .int .i64 0∧ModO SsO w s (fun s'=>s'.b=s.b∧s'.sq=easyS r s.sq) w'):=by
 have hY:=hL.size
 have hE:=he
 have k1:x.q.kind=if 32≤r then 1 else 2:=by rw[hx];rfl
 have k2:x.q.rune=r:=by rw[hx];rfl
 have he':0≤r∧r≤126:=by unfold Easy at he;omega
 have k3:x.q.kind=1∨x.q.kind=2:=by rw[k1];split<;>simp
 refine v_screen_act _ x.ac fun n1 g1=>⟨fun e=>absurd (show x.q.kind<1 from e) (by omega),fun _=>⟨fun e=>absurd (show 5<x.q.kind from e) (by omega),fun _=>?_⟩⟩
 have s0:=OS.start (bs:=[n1]) hL h (by simpa using g1)
 refine⟨s.cu,SsO.cell s0 4 rfl,s.md,SsO.cell s0 18 rfl,fun wa ha hm=>SsO.areaC (s0.below ha) rfl fun wb sb kb=>⟨areaQ s.sq,rfl,kb.nix,SsO.cell sb 18 rfl,SsO.cell sb 4 rfl,fun wc hc hm=>(sb.below hc).ret (fun c d=>r_easy_Answer (x:=x.ac) k3) fun wd sd kd=>⟨_,_,rfl,kd.nix,fun e=>absurd rfl e,fun _ we he hm=>?_⟩⟩⟩
 refine SsO.callQ (sd.below he) rfl (Mine.all hm) (fun c d=>r_screen_answer d c (by simp) ok.sz) fun wf s' e1 e2 sf kf=>⟨rfl,kf,?_⟩
 rw[answerS_nil] at e2
 have ok':SqOk N s'.sq:=by rw[e2];exact ok
 have hp':s'.pushed=0:=by
  have:s'.sq.pushed=s.sq.pushed:=by rw[e2]
  exact this.trans hp
 have call:∀{f:FuncId} {ar:Nat→Array Value} {V:World} {q:Sq},(∀{V:World},(SsO s').P V→Laid V→Gets Tryz.prog f (ar s'.b) V (SsO s').F (fun v w2=>v= .int .i64 0∧ModO SsO V s' (fun sx=>sx.b=s'.b∧sx.sq=q) w2))→q=easyS r s.sq→Below wf.heap.size wf V→Mine V w.heap.size [(n1,T.Action)]→Runs Tryz.prog f (ar s.b) V (fun e1 w2=>∃i1:Int,e1= .returned (.int .i64 i1)∧(Kept w.heap.size (SsO s).F [n1] V w2∧Sy.Fin w (SsO s).F w2 (fun v w'=>v= .int .i64 0∧ModO SsO w s (fun s'=>s'.b=s.b∧s'.sq=easyS r s.sq) w') (.int .i64 i1))):=by
  intro f ar V q hc hq hb hm
  refine SsO.callB (ar:=ar) (q:=q) (sf.below hb) e1 (Mine.all hm) (fun c d=>hc c d) fun w2 sx f1 f2 s2 k2=>⟨_,rfl,k2,fun w' hb _=>⟨rfl,OS.fin (s2.below hb) ⟨f1,f2.trans hq⟩⟩⟩
 refine⟨fun y wg hg hm=>call (ar:=fun b=>#[.pointer (some ⟨b,0,none⟩), .int .i32 x.q.rune]) (fun c d=>r_screen_print d c ok' hN hp' (by rw[k2];omega) (by rw[k2];omega)) ?_ hg hm,fun z1=>⟨fun y wg hg hm=>call (ar:=fun b=>#[.pointer (some ⟨b,0,none⟩), .int .i32 x.q.rune]) (fun c d=>r_easy_execute d c ok' hN hp' ?_) ?_ hg hm,fun z2=>?_⟩⟩
 ·have:x.q.kind=1:=y
  rw[e2,easyS,if_pos (by rw[k1] at this;split at this<;>omega),k2]
 ·have:x.q.kind≠1:=z1
  unfold Easy at hE
  rw[k2]
  rw[k1] at this
  split at this<;>omega
 ·have:x.q.kind≠1:=z1
  rw[e2,easyS,if_neg (by rw[k1] at this;split at this<;>omega),k2]
 ·have h1:x.q.kind≠1:=z1
  have h2:x.q.kind≠2:=z2
  omega
theorem r_easy_Do {N:Nat} {r:Int} {x:Ax} (hL:Laid w) (h:(SsO s).P w) (ok:SqOk N s.sq) (hN:N+1000≤4611686018427387904) (hp:s.pushed=0) (hx:x.q=easyA r) (he:Easy r):
  Gets Tryz.prog X.screen_Do #[s.ptr, .agg x.ac.arr] w (SsO s).F (fun v w'=>v= .tuple #[.int .i64 (easyS r s.sq).pushed, .int .i64 0]∧ModO SsO w s (fun s'=>s'.b=s.b∧s'.sq=easyD r s.sq) w'):=by
 refine v_screen_Do _ x.ac fun n1 g1 wa ha hm=>?_
 have s0:=OS.start (bs:=[n1]) hL h (by simpa using g1)
 refine(s0.below ha).ret (fun c d=>r_screen_zero d c) fun wb sb kb=>⟨_,rfl,kb.nix,fun e=>(nomatch e),fun _ wc hc hm=>?_⟩
 have sc:=sb.below hc
 refine SsO.callQ sc rfl (Mine.all hm) (fun c d=>r_easy_act d c ok hN hp hx he) fun wd s' e1 e2 sd kd=>⟨_,rfl,kd,s'.pushed,SsO.cellB sd e1 72 rfl,SsO.canB sd e1 (by omega),fun we hpe w' hb _=>⟨?_,?_⟩⟩
 ·have:s'.pushed=(easyS r s.sq).pushed:=by rw[←e2];rfl
  rw[this]
 ·have se:OS w (SsO s).F [n1] (SsO {s' with pushed:=0}) we:=SsO.put sd (by rw[e1];exact hpe) (by show 72+1≤73;omega) rfl rfl rfl rfl rfl
  refine OS.fin (se.below hb) ⟨e1,?_⟩
  show{s'.sq with pushed:=0}=_
  rw[e2]
  rfl
end
end Go.Proofs.YtjhhiindeignaaaGreatDoor
namespace Go.Proofs.YtjhhiindeignaaaGreatDoor
open Go Go.RowKit Go.Sy Go.Rep
set_option maxRecDepth 100000
set_option maxHeartbeats 1000000
section
variable {w0 w w' w1:World} {F0:Nat→Prop} {bs:List Nat} {o o':Ob} {l1 l2:List Ob} {R:Ending→World→Prop} {f:FuncId} {args:Array Value} {s s':Sx} {g:Gd}
theorem r_screen_Cols (hL:Laid w) (h:(SsO s).P w):Ret X.screen_Cols #[s.ptr] w (.int .i64 s.cols):=by
 have s0:=OS.start (bs:=[]) hL h (by simp)
 exact v_screen_Cols _ fun w1 hb1=>(s0.below hb1).ret (fun c d=>r_screen_zero d c) fun w2 s2 k2=>⟨_,rfl,k2.nix,fun e=>(nomatch e),fun _=>⟨_,SsO.cell s2 1 rfl,Fin.of fun _=>rfl⟩⟩
theorem r_screen_Title (hL:Laid w) (h:(SsO s).P w):Ret X.screen_Title #[s.ptr] w (.string ⟨s.title.toArray⟩):=by
 have s0:=OS.start (bs:=[]) hL h (by simp)
 exact v_screen_Title _ fun w1 hb1=>(s0.below hb1).ret (fun c d=>r_screen_zero d c) fun w2 s2 k2=>⟨_,rfl,k2.nix,fun e=>(nomatch e),fun _=>⟨_,SsO.cell s2 69 rfl,Fin.of fun _=>rfl⟩⟩
theorem r_screen_Cursor (hL:Laid w) (h:(SsO s).P w):Ret X.screen_Cursor #[s.ptr] w (.agg s.cu.arr):=by
 refine v_screen_Cursor _ fun n1 g1 w1 hb1 hm1=>?_
 have s0:=OS.start (bs:=[n1]) hL h (by simpa using g1)
 exact(s0.below hb1).ret (fun c d=>r_screen_zero d c) fun w2 s2 k2=>⟨_,rfl,k2.nix,fun e=>(nomatch e),fun _=>⟨s.cu,SsO.cell s2 4 rfl,FinE.of fun _=>rfl⟩⟩
theorem r_screen_Modes (hL:Laid w) (h:(SsO s).P w):Ret X.screen_Modes #[s.ptr] w (.agg s.md.arr):=by
 refine v_screen_Modes _ fun n1 g1 w1 hb1 hm1=>?_
 have s0:=OS.start (bs:=[n1]) hL h (by simpa using g1)
 exact(s0.below hb1).ret (fun c d=>r_screen_zero d c) fun w2 s2 k2=>⟨_,rfl,k2.nix,fun e=>(nomatch e),fun _=>⟨s.md,SsO.cell s2 18 rfl,FinE.of fun _=>rfl⟩⟩
theorem r_screen_Pen (hL:Laid w) (h:(SsO s).P w):Ret X.screen_Pen #[s.ptr] w (.agg s.pen.arr):=by
 refine v_screen_Pen _ fun n1 g1 w1 hb1 hm1=>?_
 have s0:=OS.start (bs:=[n1]) hL h (by simpa using g1)
 exact(s0.below hb1).ret (fun c d=>r_screen_zero d c) fun w2 s2 k2=>⟨_,rfl,k2.nix,fun e=>(nomatch e),fun _=>⟨s.pen,SsO.cell s2 7 rfl,FinE.of fun _=>rfl⟩⟩
theorem r_screen_History (hL:Laid w) (h:(SsO s).P w):Gets Tryz.prog X.screen_History #[s.ptr] w Nix (fun v w'=>∃h':Hi,v=h'.ptr∧NewHi w s.hi.r.rg h' w'):=by
 have s0:=OS.start (bs:=[]) hL h (by simp)
 refine v_screen_History _ fun w1 hb1=>(s0.below hb1).ret (fun c d=>r_screen_zero d c) fun w2 s2 k2=>⟨_,rfl,k2.nix,fun e=>(nomatch e),fun _=>⟨_,SsO.cell s2 3 rfl,fun w3 hb3=>?_⟩⟩
 have s3:=s2.below hb3
 refine(r_history_Copy s3.laid (SsO.hist s3)).runs fun v w4 k4 ⟨h',hv,q1,q2,q3⟩=>?_
 subst hv
 have hz:w.heap.size≤w3.heap.size:=s3.kept.size
 exact⟨_,rfl,k4.nix,fun w' hb _=>⟨h',rfl,q1,q2.below hb,fun i hi=>Nat.le_trans hz (q3 i hi)⟩⟩
theorem r_screen_Lines {N:Nat} (hL:Laid w) (h:(SsO s).P w) (ok:SqOk N s.sq):Gets Tryz.prog X.screen_Lines #[s.ptr] w Nix (NewLs w (Pv.grid s.sq.pv).ls):=by
 have s0:=OS.start (bs:=[]) hL h (by simp)
 refine v_screen_Lines _ fun w1 hb1=>(s0.below hb1).ret (fun c d=>r_screen_zero d c) fun w2 s2 k2=>⟨_,rfl,k2.nix,fun e=>(nomatch e),fun _=>⟨_,SsO.cell s2 2 rfl,fun w3 hb3=>?_⟩⟩
 have s3:=s2.below hb3
 refine(r_alternate_Pair_Grid s3.laid (SsO.pair s3) ok.u).runs fun v w4 k4 ⟨g',hv,q1,q2,q3⟩=>?_
 subst hv
 have hz:w.heap.size≤w3.heap.size:=s3.kept.size
 refine⟨_,rfl,k4.nix,fun w5 hb5=>(r_grid_Lines (Laid.below hb5 (Laid.nix k4 s3.laid)) (q2.below hb5)).runs fun v w6 k6 ⟨p,c,xs,hv,e1,e2,e3⟩=>?_⟩
 subst hv
 have hz5:w3.heap.size≤w5.heap.size:=Nat.le_trans k4.size (Keeps.of_below hb5).size
 refine⟨_,_,_,rfl,k6.nix,fun w' hb _=>⟨p,c,xs,?_,?_,?_,fun i hi=>Nat.le_trans hz (Nat.le_trans hz5 (e3 i hi))⟩⟩
 ·rw[show g'.gr.ls=(Pv.grid s.sq.pv).ls by rw[q1];rfl]
 ·rw[e1,q1]
  rfl
 ·rw[show(Pv.grid s.sq.pv).ls=g'.gr.ls by rw[q1];rfl]
  exact e2.nix (Keeps.of_below hb)
end
end Go.Proofs.YtjhhiindeignaaaGreatDoor
namespace Go.Proofs.YtjhhiindeignaaaGreatDoor
open Go Go.RowKit Go.Sy Go.Rep
set_option maxRecDepth 100000
set_option maxHeartbeats 1000000
def PuOk (q:Sq):Prop:=0≤q.pushed∧q.pushed≤1000
theorem PuOk.of {q:Sq} (h:q.pushed=0):PuOk q:=⟨by omega,by omega⟩
theorem indexQ_pu {N:Nat} {q:Sq} (h:SqOk N q) (hp:q.pushed=0):PuOk (indexQ q):=by
 have hX:=idxX_sub (Pv.grid q.pv) q.rg q.cu (blankQ q)
 have h1:=h.grid.r
 have h2:=h.r2
 have hk:=@keepQ_pushed {q with cu:=idxC (Pv.grid q.pv) q.rg q.cu,pv:=setGr q.pv (idxG (Pv.grid q.pv) q.rg q.cu (blankQ q))} (idxX (Pv.grid q.pv) q.rg q.cu (blankQ q))
 unfold indexQ PuOk
 have e:({q with cu:=idxC (Pv.grid q.pv) q.rg q.cu,pv:=setGr q.pv (idxG (Pv.grid q.pv) q.rg q.cu (blankQ q))}:Sq).pushed=q.pushed:=rfl
 rw[e] at hk
 omega
theorem wrapE_pu {old:Int} {q:Sq}:(wrapE old q).pushed=q.pushed:=by
 unfold wrapE
 repeat' (first|rfl|split)
theorem wrapQ_pu {N:Nat} {q:Sq} (h:SqOk N q) (hp:q.pushed=0):PuOk (wrapQ q):=by
 have:=indexQ_pu (softenQ_ok (row:=q.cu.row) (b:=true) h) hp
 unfold PuOk at this⊢
 rw[show(wrapQ q).pushed=(indexQ (softenQ q.cu.row true q)).pushed from wrapE_pu]
 exact this
theorem printQ_pu {N:Nat} {q:Sq} {r:Int} (h:SqOk N q) (hp:q.pushed=0):PuOk (printQ r q):=by
 unfold printQ
 split
 ·exact .of hp
 ·split
  ·exact .of hp
  ·show PuOk (if _ then wrapQ q else q)
   split
   ·exact wrapQ_pu h hp
   ·exact .of hp
end Go.Proofs.YtjhhiindeignaaaGreatDoor
namespace Go.Proofs.YtjhhiindeignaaaGreatDoor
open Go Go.RowKit Go.Sy Go.Rep
set_option maxRecDepth 100000
theorem v_term_New {w0:World} {F:Nat→Prop} {Q:Value→World→Prop} (c:Cf) (h:∀n1:Nat,(w0.heap.size≤n1)→∀w1:World,(Below w0.heap.size w0 w1)→(Mine w1 w0.heap.size [(n1,T.TermConfig)])→Runs Tryz.prog X.term_clamp_int #[(.int .i64 c.rows),(.int .i64 1),(.int .i64 1000)] w1 (fun e1 w2=>∃i1:Int,(e1=(.returned (.int .i64 i1)))∧((Kept w0.heap.size F [n1] w1 w2)∧∀w3:World,(Below w2.heap.size w2 w3)→(Mine w3 w0.heap.size [(n1,T.TermConfig)])→Runs Tryz.prog X.term_clamp_int #[(.int .i64 c.cols),(.int .i64 1),(.int .i64 1000)] w3 (fun e2 w4=>∃i2:Int,(e2=(.returned (.int .i64 i2)))∧((Kept w0.heap.size F [n1] w3 w4)∧∀w5:World,(Below w4.heap.size w4 w5)→(Mine w5 w0.heap.size [(n1,T.TermConfig)])→Runs Tryz.prog X.term_clamp_int #[(.int .i64 c.hist),(.int .i64 0),(.int .i64 1048576)] w5 (fun e3 w6=>∃i3:Int,(e3=(.returned (.int .i64 i3)))∧((Kept w0.heap.size F [n1] w5 w6)∧∀w7:World,(Ext w6 [n1] w7)→(Mine w7 w0.heap.size [(n1,T.TermConfig)])→Runs Tryz.prog X.screen_New #[(.agg #[(.int .i64 i1),(.int .i64 i2),(.int .i64 i3)])] w7 (fun e4 w8=>∃p1:Option Addr,∃i4:Int,(e4=(.returned (.tuple #[(.pointer p1),(.int .i64 i4)])))∧((Kept w0.heap.size F [n1] w7 w8)∧∀w9:World,(Below w8.heap.size w8 w9)→(Mine w9 w0.heap.size [(n1,T.TermConfig)])→Runs Tryz.prog X.view_New #[(.int .i64 i1)] w9 (fun e5 w10=>∃p2:Option Addr,∃i5:Int,(e5=(.returned (.tuple #[(.pointer p2),(.int .i64 i5)])))∧((Kept w0.heap.size F [n1] w9 w10)∧(((i4≠0)→Fin w0 F w10 Q (.pointer none))∧((i4=0)→((i5≠0)→Fin w0 F w10 Q (.pointer none))∧((i5=0)→∀n2:Nat,(w10.heap.size≤n2)→∀n3:Nat,(w10.heap.size≤n3)→∀w11:World,(Below w10.heap.size w10 w11)→(Keeps F w0 w11)→((w0.heap.size≤n1)∧(Whole w11 n1 T.TermConfig [(.int .i64 i1),(.int .i64 i2),(.int .i64 i3)]))→((w0.heap.size≤n2)∧(Whole w11 n2 T.parser_Parser [(.slice none 0 0),(.int .i64 0),(.int .u8 0),(.int .u8 0),(.int .i64 0),(.int .i32 0),(.string ⟨[].toArray⟩),(.int .i64 0),(.int .i64 0),(.int .i64 0),(.int .i64 0),(.int .i64 0),(.int .i64 0),(.int .i64 0),(.int .i64 0),(.int .i64 0),(.int .i64 0),(.int .i64 0),(.int .i64 0),(.int .i64 0),(.int .i64 0),(.int .i64 0),(.int .i64 0),(.int .i64 0),(.bool false),(.slice none 0 0)]))→((w0.heap.size≤n3)∧(Whole w11 n3 T.term_Term [(.pointer (some ⟨n2,0,none⟩)),(.pointer p1),(.pointer p2)]))→Q (.pointer (some ⟨n3,0,none⟩)) w11)))))))))))))):Gets Tryz.prog X.term_New #[(.agg c.arr)] w0 F Q:=
 func_run mixed [] [] X.term_New [SV.agg (Cf.cod.enc c)] ⟨okA _ _,trivial⟩ (by kernel_rfl) (by kernel_rfl) h
theorem v_term_zero {w0:World} {F:Nat→Prop} {Q:Value→World→Prop} (t:Addr) (h:∃p1:Option Addr,(At w0 t 1 [(.pointer p1)])∧Fin w0 F w0 Q (.bool (BE.val (.pr (p1=none))))):Gets Tryz.prog X.term_zero #[(.pointer (some t))] w0 F Q:=
 func_run mixed [] [] X.term_zero [SV.adr t 0] ⟨by trivial,trivial⟩ (by kernel_rfl) (by kernel_rfl) h
theorem v_term_Write {w0:World} {F:Nat→Prop} {Q:Value→World→Prop} (t:Addr) (pb:Option Addr) (nb:Nat) (cb:Nat) (h:∀w1:World,(Below w0.heap.size w0 w1)→Runs Tryz.prog X.term_zero #[(.pointer (some t))] w1 (fun e1 w2=>∃b1:Bool,(e1=(.returned (.bool b1)))∧((Kept w0.heap.size F [] w1 w2)∧(((b1=true)→Fin w0 F w2 Q (.tuple #[(.int .i64 0),(.int .i64 1)]))∧((b1=false)→∃p1:Option Addr,(At w2 t 0 [(.pointer p1)])∧∀w3:World,(Below w2.heap.size w2 w3)→Runs Tryz.prog X.parser_Write #[(.pointer p1),(.slice pb nb cb)] w3 (fun e2 w4=>∃p2:Option Addr,∃n1 n2:Nat,(e2=(.returned (.slice p2 n1 n2)))∧((Kept w0.heap.size F [] w3 w4)∧∃I1:Int→Int→World→Prop,∃I2:Int→Int→Nat,(∀w14:World,(Below w4.heap.size w4 w14)→I1 0 0 w14)∧∀i1 i2:Int,∀w5:World,(Keeps F w0 w5)→(I1 i1 i2 w5)→((i2<(n1:Int))→∃a1:Addr,(p2=(some a1))∧((((0:Int)≤i2)∧(i2<(n1:Int)))∧∃ac1:Ac,(At w5 a1 ((Int.toNat i2)*6) ac1.arr.toList)∧∀n3:Nat,(w5.heap.size≤n3)→∃p3:Option Addr,(At w5 t 1 [(.pointer p3)])∧∀w7:World,(Below w5.heap.size w5 w7)→(Mine w7 w0.heap.size [(n3,T.Action)])→Runs Tryz.prog X.screen_Do #[(.pointer p3),(.agg ac1.arr)] w7 (fun e3 w8=>∃i3 i4:Int,(e3=(.returned (.tuple #[(.int .i64 i3),(.int .i64 i4)])))∧((Kept w0.heap.size F [n3] w7 w8)∧(((i4≠0)→Fin w0 F w8 Q (.tuple #[(.int .i64 i1),(.int .i64 i4)]))∧((i4=0)→(I64 (i1+i3))∧∀w9:World,(Below w8.heap.size w8 w9)→(Mine w9 w0.heap.size [(n3,T.Action)])→Runs Tryz.prog X.term_follow #[(.pointer (some t)),(.int .i64 i3)] w9 (fun e4 w10=>∃i5:Int,(e4=(.returned (.int .i64 i5)))∧((Kept w0.heap.size F [n3] w9 w10)∧(((i5≠0)→Fin w0 F w10 Q (.tuple #[(.int .i64 (i1+i3)),(.int .i64 i5)]))∧((i5=0)→(I64 (i2+1))∧∀w11:World,(Below w10.heap.size w10 w11)→(I1 (i1+i3) (i2+1) w11)∧(I2 (i1+i3) (i2+1)<I2 i1 i2)))))))))))∧(((n1:Int)≤i2)→Fin w0 F w5 Q (.tuple #[(.int .i64 i1),(.int .i64 0)]))))))))):Gets Tryz.prog X.term_Write #[(.pointer (some t)),(.slice pb nb cb)] w0 F Q:=
 func_run mixed [⟨5,[6,21],[]⟩] [] X.term_Write [SV.adr t 0,SV.sl pb nb cb] ⟨by trivial,by trivial,trivial⟩ (by kernel_rfl) (by kernel_rfl) h
theorem v_term_follow {w0:World} {F:Nat→Prop} {Q:Value→World→Prop} (t:Addr) (k:Int) (h:∃p1:Option Addr,(At w0 t 2 [(.pointer p1)])∧∀w1:World,(Below w0.heap.size w0 w1)→Runs Tryz.prog X.view_Back #[(.pointer p1)] w1 (fun e1 w2=>∃i1:Int,(e1=(.returned (.int .i64 i1)))∧((Kept w0.heap.size F [] w1 w2)∧(((i1=0)→Fin w0 F w2 Q (.int .i64 0))∧((i1≠0)→∃p2:Option Addr,(At w2 t 1 [(.pointer p2)])∧∀w3:World,(Below w2.heap.size w2 w3)→Runs Tryz.prog X.screen_Modes #[(.pointer p2)] w3 (fun e2 w4=>∃md1:Md,(e2=(.returned (.agg md1.arr)))∧((Kept w0.heap.size F [] w3 w4)∧(((md1.alt≠0)→∃p6:Option Addr,(At w4 t 2 [(.pointer p6)])∧∀w10:World,(Below w4.heap.size w4 w10)→Runs Tryz.prog X.view_Bottom #[(.pointer p6)] w10 (fun e5 w11=>∃i3:Int,(e5=(.returned (.int .i64 i3)))∧((Kept w0.heap.size F [] w10 w11)∧Fin w0 F w11 Q (.int .i64 i3))))∧((md1.alt=0)→∃p3:Option Addr,(At w4 t 2 [(.pointer p3)])∧∃p4:Option Addr,(At w4 t 1 [(.pointer p4)])∧∀w5:World,(Below w4.heap.size w4 w5)→Runs Tryz.prog X.screen_History #[(.pointer p4)] w5 (fun e3 w6=>∃p5:Option Addr,(e3=(.returned (.pointer p5)))∧((Kept w0.heap.size F [] w5 w6)∧((At w6 t 2 [(.pointer p3)])∧∀w7:World,(Below w6.heap.size w6 w7)→Runs Tryz.prog X.view_Pushed #[(.pointer p3),(.int .i64 k),(.pointer p5)] w7 (fun e4 w8=>∃i2:Int,(e4=(.returned (.int .i64 i2)))∧((Kept w0.heap.size F [] w7 w8)∧Fin w0 F w8 Q (.int .i64 i2))))))))))))))):Gets Tryz.prog X.term_follow #[(.pointer (some t)),(.int .i64 k)] w0 F Q:=
 func_run mixed [] [] X.term_follow [SV.adr t 0,SV.int IntKind.i64 k] ⟨by trivial,by trivial,trivial⟩ (by kernel_rfl) (by kernel_rfl) h
theorem v_term_Snapshot {w0:World} {F:Nat→Prop} {Q:Value→World→Prop} (t:Addr) (h:∀n1:Nat,(w0.heap.size≤n1)→∀w1:World,(Below w0.heap.size w0 w1)→(Mine w1 w0.heap.size [(n1,T.Snapshot)])→Runs Tryz.prog X.term_zero #[(.pointer (some t))] w1 (fun e1 w2=>∃b1:Bool,(e1=(.returned (.bool b1)))∧((Kept w0.heap.size F [n1] w1 w2)∧(((b1=true)→FinE w0 F w2 [n1] Q (.agg #[(.slice none 0 0),(.int .i64 0),(.int .i64 0),(.int .i64 0),(.int .i64 0),(.int .i64 0),(.int .i64 0),(.bool false),(.bool false),(.bool false),(.bool false),(.bool false),(.bool false),(.bool false),(.bool false),(.int .i64 0),(.int .i64 0),(.int .i64 0),(.int .u8 0),(.int .u8 0),(.int .u8 0),(.int .u8 0),(.int .i64 0),(.int .u8 0),(.int .u8 0),(.int .u8 0),(.int .u8 0),(.int .u8 0),(.string ⟨[].toArray⟩)]))∧((b1=false)→∃p1:Option Addr,(At w2 t 1 [(.pointer p1)])∧∀w3:World,(Below w2.heap.size w2 w3)→(Mine w3 w0.heap.size [(n1,T.Snapshot)])→Runs Tryz.prog X.screen_History #[(.pointer p1)] w3 (fun e2 w4=>∃p2:Option Addr,(e2=(.returned (.pointer p2)))∧((Kept w0.heap.size F [n1] w3 w4)∧∃p3:Option Addr,(At w4 t 2 [(.pointer p3)])∧∃p4:Option Addr,(At w4 t 1 [(.pointer p4)])∧∀w5:World,(Below w4.heap.size w4 w5)→(Mine w5 w0.heap.size [(n1,T.Snapshot)])→Runs Tryz.prog X.screen_Lines #[(.pointer p4)] w5 (fun e3 w6=>∃p5:Option Addr,∃n2 n3:Nat,(e3=(.returned (.slice p5 n2 n3)))∧((Kept w0.heap.size F [n1] w5 w6)∧((At w6 t 2 [(.pointer p3)])∧∀w7:World,(Below w6.heap.size w6 w7)→(Mine w7 w0.heap.size [(n1,T.Snapshot)])→Runs Tryz.prog X.view_Lines #[(.pointer p3),(.pointer p2),(.slice p5 n2 n3)] w7 (fun e4 w8=>∃p6:Option Addr,∃n4 n5:Nat,∃i1 i2:Int,(e4=(.returned (.tuple #[(.slice p6 n4 n5),(.int .i64 i1),(.int .i64 i2)])))∧((Kept w0.heap.size F [n1] w7 w8)∧∃p7:Option Addr,(At w8 t 1 [(.pointer p7)])∧∃p8:Option Addr,(At w8 t 2 [(.pointer p8)])∧∃p9:Option Addr,(At w8 t 1 [(.pointer p9)])∧∃p10:Option Addr,(At w8 t 1 [(.pointer p10)])∧∃p11:Option Addr,(At w8 t 1 [(.pointer p11)])∧∃p12:Option Addr,(At w8 t 1 [(.pointer p12)])∧∀w9:World,(Below w8.heap.size w8 w9)→(Mine w9 w0.heap.size [(n1,T.Snapshot)])→Runs Tryz.prog X.screen_Cols #[(.pointer p7)] w9 (fun e5 w10=>∃i3:Int,(e5=(.returned (.int .i64 i3)))∧((Kept w0.heap.size F [n1] w9 w10)∧((At w10 t 1 [(.pointer p12)])∧((At w10 t 1 [(.pointer p11)])∧((At w10 t 1 [(.pointer p10)])∧((At w10 t 1 [(.pointer p9)])∧((At w10 t 2 [(.pointer p8)])∧∀w11:World,(Below w10.heap.size w10 w11)→(Mine w11 w0.heap.size [(n1,T.Snapshot)])→Runs Tryz.prog X.view_Back #[(.pointer p8)] w11 (fun e6 w12=>∃i4:Int,(e6=(.returned (.int .i64 i4)))∧((Kept w0.heap.size F [n1] w11 w12)∧((At w12 t 1 [(.pointer p12)])∧((At w12 t 1 [(.pointer p11)])∧((At w12 t 1 [(.pointer p10)])∧((At w12 t 1 [(.pointer p9)])∧∀w13:World,(Below w12.heap.size w12 w13)→(Mine w13 w0.heap.size [(n1,T.Snapshot)])→Runs Tryz.prog X.history_Len #[(.pointer p2)] w13 (fun e7 w14=>∃i5:Int,(e7=(.returned (.int .i64 i5)))∧((Kept w0.heap.size F [n1] w13 w14)∧((At w14 t 1 [(.pointer p12)])∧((At w14 t 1 [(.pointer p11)])∧((At w14 t 1 [(.pointer p10)])∧((At w14 t 1 [(.pointer p9)])∧∀w15:World,(Below w14.heap.size w14 w15)→(Mine w15 w0.heap.size [(n1,T.Snapshot)])→Runs Tryz.prog X.screen_Cursor #[(.pointer p9)] w15 (fun e8 w16=>∃cu1:Cu,(e8=(.returned (.agg cu1.arr)))∧((Kept w0.heap.size F [n1] w15 w16)∧((At w16 t 1 [(.pointer p12)])∧((At w16 t 1 [(.pointer p11)])∧((At w16 t 1 [(.pointer p10)])∧∀w17:World,(Below w16.heap.size w16 w17)→(Mine w17 w0.heap.size [(n1,T.Snapshot)])→Runs Tryz.prog X.screen_Modes #[(.pointer p10)] w17 (fun e9 w18=>∃md1:Md,(e9=(.returned (.agg md1.arr)))∧((Kept w0.heap.size F [n1] w17 w18)∧((At w18 t 1 [(.pointer p12)])∧((At w18 t 1 [(.pointer p11)])∧∀w19:World,(Below w18.heap.size w18 w19)→(Mine w19 w0.heap.size [(n1,T.Snapshot)])→Runs Tryz.prog X.screen_Pen #[(.pointer p11)] w19 (fun e10 w20=>∃pn1:Pn,(e10=(.returned (.agg pn1.arr)))∧((Kept w0.heap.size F [n1] w19 w20)∧((At w20 t 1 [(.pointer p12)])∧∀w21:World,(Below w20.heap.size w20 w21)→(Mine w21 w0.heap.size [(n1,T.Snapshot)])→Runs Tryz.prog X.screen_Title #[(.pointer p12)] w21 (fun e11 w22=>∃s1:List UInt8,(e11=(.returned (.string ⟨s1.toArray⟩)))∧((Kept w0.heap.size F [n1] w21 w22)∧FinE w0 F w22 [n1] Q (.agg #[(.slice p6 n4 n5),(.int .i64 i3),(.int .i64 i1),(.int .i64 i4),(.int .i64 i5),(.int .i64 cu1.row),(.int .i64 cu1.col),(.bool cu1.pend),(.bool md1.aw),(.bool md1.org),(.bool md1.ins),(.bool md1.vis),(.bool md1.app),(.bool md1.pas),(.bool md1.sgr),(.int .i64 md1.ptr),(.int .i64 md1.alt),(.int .i64 pn1.f.k),(.int .u8 pn1.f.i),(.int .u8 pn1.f.r),(.int .u8 pn1.f.g),(.int .u8 pn1.f.b),(.int .i64 pn1.b.k),(.int .u8 pn1.b.i),(.int .u8 pn1.b.r),(.int .u8 pn1.b.g),(.int .u8 pn1.b.b),(.int .u8 pn1.fl),(.string ⟨s1.toArray⟩)])))))))))))))))))))))))))))))))))))))))))))))):Gets Tryz.prog X.term_Snapshot #[(.pointer (some t))] w0 F Q:=
 func_run mixed [] [] X.term_Snapshot [SV.adr t 0] ⟨by trivial,trivial⟩ (by kernel_rfl) (by kernel_rfl) h
end Go.Proofs.YtjhhiindeignaaaGreatDoor
namespace Go.Rep
open Go Go.Sy
structure Tx where
 (b pb:Nat) (ps:Ps) (sx:Sx) (vw:Vw)
structure Tq where
 (pq:Pq) (sq:Sq) (rows back:Nat)
def Tx.tq (t:Tx):Tq:=⟨t.ps.pq,t.sx.sq,t.vw.rows,t.vw.back⟩
def Tx.ptr (t:Tx):Value:= .pointer (some ⟨t.b,0,none⟩)
abbrev Tx.cells (t:Tx):List Value:=[.pointer (some ⟨t.pb,0,none⟩),t.sx.ptr,t.vw.ptr]
end Go.Rep
namespace Go.Proofs.YtjhhiindeignaaaGreatDoor
open Go Go.RowKit Go.Sy Go.Rep
set_option maxRecDepth 100000
set_option maxHeartbeats 1000000
def Ob.vw (v:Vw):Ob:=⟨fun i=>i=v.b,fun w=>VwAt w v,fun h hi=>by rw[hi];exact h.lt,fun h hi=>by rw[hi];exact h.lo,fun h hk hF=>h.keeps hk fun e=>hF _ e rfl⟩
def Ob.ps (b:Nat) (s:Ps):Ob:=⟨PsF b s,fun w=>PsAt w b s,fun h hi=>h.lt hi,fun h hi=>by
 rcases hi with rfl|⟨a,ha,rfl⟩|⟨a,ha,rfl⟩
 ·exact h.lo
 ·exact(h.row.lt a ha).2.1
 ·exact(h.txt.lt a ha).2.1,fun h hk hF=>h.keeps hk hF⟩
abbrev TmO (t:Tx):Ob:=Ob.sep [Ob.ps t.pb t.ps,Ob.vw t.vw,Ob.blk t.b T.term_Term t.cells,SsO t.sx]
def followB (back k:Nat) (q:Sq):Nat:=if back=0 then 0 else if q.md.alt≠0 then 0 else(pushedV back k (histLen q.hv)).toNat
structure TqOk (N:Nat) (q:Tq):Prop where
 sq:SqOk N q.sq
 pq:PqJ q.pq
 pu:q.sq.pushed=0
 rows:(q.rows:Int)=q.sq.rows
section
variable {w0 w w' w1:World} {F0:Nat→Prop} {bs:List Nat} {o o':Ob} {l1 l2:List Ob} {R:Ending→World→Prop} {f:FuncId} {args:Array Value} {s s':Sx} {t t':Tx}
theorem TmO.cell (h:OS w0 F0 bs (TmO t) w) (k:Nat) {us:List Value} (hu:us=(t.cells.drop k).take us.length):At w ⟨t.b,0,none⟩ k us:=OS.cells [Ob.ps t.pb t.ps,Ob.vw t.vw] [SsO t.sx] h (show 3≤maxLen by decide) hu
theorem TmO.vw (h:OS w0 F0 bs (TmO t) w):VwAt w t.vw:=OS.get [Ob.ps t.pb t.ps] [Ob.blk t.b T.term_Term t.cells,SsO t.sx] h
theorem TmO.sx (h:OS w0 F0 bs (TmO t) w):(SsO t.sx).P w:=OS.get [Ob.ps t.pb t.ps,Ob.vw t.vw,Ob.blk t.b T.term_Term t.cells] [] h
theorem r_term_zero (hL:Laid w) (h:(TmO t).P w):Ret X.term_zero #[t.ptr] w (.bool false):=by
 refine v_term_zero _ ⟨_,TmO.cell (OS.start (bs:=[]) hL h (by simp)) 1 rfl,Fin.of fun _=>?_⟩
 show Value.bool _=_
 rw[show BE.val (.pr ((some (⟨t.sx.b,0,none⟩:Addr))=none))=false from by
  have:=BE.val_iff (.pr ((some (⟨t.sx.b,0,none⟩:Addr))=none)) false
  exact this.1 (by intro e;cases e)]
abbrev FoO (t:Tx):Ob:=Ob.sep [Ob.vw t.vw,Ob.blk t.b T.term_Term t.cells,SsO t.sx]
theorem FoO.cell (h:OS w0 F0 bs (FoO t) w) (k:Nat) {us:List Value} (hu:us=(t.cells.drop k).take us.length):At w ⟨t.b,0,none⟩ k us:=OS.cells [Ob.vw t.vw] [SsO t.sx] h (show 3≤maxLen by decide) hu
theorem FoO.vw (h:OS w0 F0 bs (FoO t) w):VwAt w t.vw:=OS.get [] [Ob.blk t.b T.term_Term t.cells,SsO t.sx] h
theorem FoO.sx (h:OS w0 F0 bs (FoO t) w):(SsO t.sx).P w:=OS.get [Ob.vw t.vw,Ob.blk t.b T.term_Term t.cells] [] h
theorem r_term_follow {k:Nat} (hL:Laid w) (h:(FoO t).P w):Gets Tryz.prog X.term_follow #[t.ptr, .int .i64 k] w (FoO t).F (fun v w'=>v= .int .i64 0∧ModO FoO w t (fun t'=>t'={t with vw:=⟨t.vw.b,t.vw.rows,followB t.vw.back k t.sx.sq⟩}) w'):=by
 have s0:=OS.start (bs:=[]) hL h (by simp)
 refine v_term_follow _ k ⟨_,FoO.cell s0 2 rfl,fun w1 hb1=>(s0.below hb1).ret (fun c d=>r_view_Back (FoO.vw (s0.below hb1))) fun w2 s2 k2=>⟨_,rfl,k2.nix,fun e w' hb _=>⟨rfl,OS.fin (s2.below hb) ?_⟩,fun e=>⟨_,FoO.cell s2 1 rfl,fun w3 hb3=>(s2.below hb3).ret (fun c d=>r_screen_Modes d (FoO.sx (s2.below hb3))) fun w4 s4 k4=>⟨t.sx.md,rfl,k4.nix,fun ea=>⟨_,FoO.cell s4 2 rfl,fun w5 hb5=>?_⟩,fun ea=>⟨_,FoO.cell s4 2 rfl,_,FoO.cell s4 1 rfl,fun w5 hb5=>?_⟩⟩⟩⟩⟩
 ·have e':t.vw.back=0:=by omega
  show t=_
  rw[followB,if_pos e',←e']
 ·have s5:=s4.below hb5
  refine OS.call (o:=Ob.vw t.vw) [] [Ob.blk t.b T.term_Term t.cells,SsO t.sx] s5 (by simp) (fun a b=>r_view_Bottom a) fun v w6 ⟨hv,hm⟩ hs=>?_
  obtain⟨s6,k6⟩:=hs (Ob.vw ⟨t.vw.b,t.vw.rows,0⟩) hm fun i hi=> .inl hi
  subst hv
  refine⟨_,rfl,k6,fun w' hb _=>⟨rfl,OS.fin (OS.below (o:=FoO {t with vw:=⟨t.vw.b,t.vw.rows,0⟩}) s6 hb) ?_⟩⟩
  rw[followB,if_neg (by omega),if_pos (show t.sx.sq.md.alt≠0 from ea)]
 ·have s5:=s4.below hb5
  refine(r_screen_History s5.laid (FoO.sx s5)).runs fun v w6 k6 ⟨h',hv,q1,q2,q3⟩=>?_
  subst hv
  have s6:=s5.nix k6
  refine⟨_,rfl,k6.nix,FoO.cell s6 2 rfl,fun w7 hb7=>?_⟩
  have s7:=s6.below hb7
  have hlt:=(FoO.vw s5).lt
  refine OS.call (o:=Ob.vw t.vw) [] [Ob.blk t.b T.term_Term t.cells,SsO t.sx] s7 (by simp) (fun a b=>r_view_Pushed (k:=k) b a (q2.below hb7) (fun hi=>by have:=q3 _ hi;omega)) fun v w8 ⟨hv,n,hn,hm⟩ hs=>?_
  obtain⟨s8,k8⟩:=hs (Ob.vw ⟨t.vw.b,t.vw.rows,n⟩) hm fun i hi=> .inl hi
  subst hv
  refine⟨_,rfl,k8,fun w' hb _=>⟨rfl,OS.fin (OS.below (o:=FoO {t with vw:=⟨t.vw.b,t.vw.rows,n⟩}) s8 hb) ?_⟩⟩
  rw[followB,if_neg (by omega),if_neg (show ¬t.sx.sq.md.alt≠0 from fun u=>u ea)]
  rw[q1] at hn
  have e2:n=(pushedV t.vw.back k (histLen t.sx.sq.hv)).toNat:=by
   have:(n:Int)=pushedV t.vw.back k (histLen t.sx.sq.hv):=hn
   omega
  rw[e2]
end
end Go.Proofs.YtjhhiindeignaaaGreatDoor
namespace Go.Proofs.YtjhhiindeignaaaGreatDoor
open Go Go.RowKit Go.Sy Go.Rep
set_option maxRecDepth 100000
set_option maxHeartbeats 1000000
def AcF (p:Option Addr) (xs:List Ax) (i:Nat):Prop:=PF p i∨∃x∈xs,PF x.ad i
def Ob.psA (b:Nat) (s:Ps) (p:Option Addr) (c:Nat) (xs:List Ax):Ob:=
 ⟨fun i=>PsF b s i∨AcF p xs i,fun w=>PsAt w b s∧Acts w Y.count p xs.length c xs,
  fun h hi=>by
   rcases hi with hi|⟨a,ha,rfl⟩|⟨x,hx,a,ha,rfl⟩
   ·exact h.1.lt hi
   ·exact(h.2.row.lt a ha).1
   ·exact((h.2.par x hx).lt a ha).1,
  fun h hi=>by
   rcases hi with hi|⟨a,ha,rfl⟩|⟨x,hx,a,ha,rfl⟩
   ·exact(Ob.ps b s).low h.1 hi
   ·exact(h.2.row.lt a ha).2.1
   ·exact((h.2.par x hx).lt a ha).2.1,
  fun h hk hF=>⟨h.1.keeps hk fun i hi e=>hF i hi (.inl e),⟨h.2.row.keeps hk fun a ha e=>hF _ e (.inr (.inl ⟨a,ha,rfl⟩)),fun x hx=>(h.2.par x hx).keeps hk fun a ha e=>hF _ e (.inr (.inr ⟨x,hx,a,ha,rfl⟩)),h.2.off⟩⟩⟩
theorem avals_at:∀{xs:List Ax} {k:Nat} {x:Ax},xs[k]? =some x→x.ac.arr.toList=((avals xs).drop (k*6)).take 6
 |[],k,x,h=>by cases h
 |y::ys,0,x,h=>by
  have:y=x:=by simpa using h
  subst this
  rfl
 |y::ys,k+1,x,h=>by
  have h':ys[k]? =some x:=by simpa using h
  rw[avals_at h',show(k+1)*6=k*6+6 by omega]
  show _=((y.ac.arr.toList++avals ys).drop (k*6+6)).take 6
  rw[Nat.add_comm (k*6) 6,←List.drop_drop]
  rfl
end Go.Proofs.YtjhhiindeignaaaGreatDoor
