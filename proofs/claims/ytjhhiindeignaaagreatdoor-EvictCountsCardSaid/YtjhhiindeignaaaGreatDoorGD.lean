/- A part of the proof of EvictCounts. -/
import Derived.Test.YtjhhiindeignaaaGreatDoorGC
import Derived.Test.YtjhhiindeignaaaGreatDoorProg
import Derived.Shelf.RegionOpen
import Derived.LoopIn
import Derived.Deep.Light
set_option linter.unusedVariables false
set_option linter.unusedSimpArgs false
set_option linter.unusedSectionVars false
namespace Go.Proofs.YtjhhiindeignaaaGreatDoor
open Go Go.RowKit Go.Sy Go.Rep
set_option maxRecDepth 100000
set_option maxHeartbeats 2000000
theorem Own.bound {B:Nat} {w:World} {e:TypeId} {s n c:Nat} {p:Option Addr} {xs:List Value} (h:Own B w e s p n c xs):n≤maxLen:=by
 rcases h.2 with⟨_,hn⟩|⟨g,cap,cur,hv,hB,hg,hc,hx,_⟩
 ·omega
 ·omega
def tooMany (q:Rg'):Nat:=q.next-q.first-q.most
def evictR (q:Rg'):Rg':=⟨q.most,q.page,q.first+tooMany q,q.next,dropP q.ps (tooMany q)⟩
section
variable {w w':World} {r:Rd}
theorem r_ring_evict (hL:Laid w) (h:RingAt w r):Gets Tryz.prog X.ring_evict #[r.ptr] w (RdF r) (fun v w'=>v= .tuple #[]∧ModR w r (evictR r.rg) w'):=by
 refine v_ring_evict _ ⟨fun g w'=>Laid w'∧∃r':Rd,r'.b=r.b∧r'.most=r.most∧r'.page=r.page∧r'.next=r.next∧(linesN r'.ss:Int)=g∧RingAt w' r'∧(∀i,RdF r' i→RdF r i∨w.heap.size≤i)∧evictR r'.rg=evictR r.rg,fun g=>g.toNat,⟨linesN r.ss,fun w' hb=>⟨Laid.below hb hL,r,rfl,rfl,rfl,rfl,rfl,h.below hb,fun i hi=> .inl hi,rfl⟩⟩,?_⟩
 rintro g w1 hk1 ⟨hL1,r',hb0,hm0,hp0,hn0,rfl,h1,hF,he⟩
 have hnum:=h1.num
 have hsm:=h1.small
 have hmm:=h1.m
 have hat:∀{v:World},RingAt v r'→At v ⟨r.b,0,none⟩ 0 _:=fun hv=>by rw[←hb0];exact hv.at_
 refine⟨_,(hat h1).one 3 rfl,_,(hat h1).one 2 rfl,by unfold I64;omega,_,(hat h1).one 0 rfl,fun e1=>⟨_,_,_,(hat h1).one 4 rfl,fun e2=>?_,fun e2=>?_⟩,fun e1 w' hb _=>⟨rfl,r',hb0,?_,h1.below hb,hF⟩⟩
 ·obtain⟨s,ss,hss⟩:∃s ss,r'.ss=s::ss:=by
   cases hq:r'.ss with
   |nil=>rw[hq] at e2;simp at e2
   |cons s ss=>exact⟨s,ss,rfl⟩
  obtain⟨a1,ha1,hat1⟩:=h1.head hss
  have hmem:s∈r'.ss:=by rw[hss];exact List.mem_cons_self
  obtain⟨hs1,hsm1,hs0⟩:=h1.each s hmem
  have hsz:=hk1.size
  refine⟨_,(hat h1).one 3 rfl,_,(hat h1).one 2 rfl,by unfold I64;omega,_,(hat h1).one 0 rfl,by unfold I64;omega,_,_,_,(hat h1).one 4 rfl,a1,ha1,⟨by omega,by omega⟩,_,hat1,fun w4 hb4=>(r_sheet_Len (hs1.below hb4)).runs fun w5 hk5=>?_⟩
  have hk5':=(Keeps.of_below hb4).trans hk5
  have h5:=h1.nix hk5'
  refine⟨_,rfl,hk5.nix,(hat h5).one 0 rfl,(hat h5).one 2 rfl,(hat h5).one 3 rfl,_,_,_,(hat h5).one 4 rfl,a1,ha1,⟨by omega,by omega⟩,_,hat1.nix hk5',fun w6 hb6=>?_⟩
  have hk6':=hk5'.trans (Keeps.of_below hb6)
  have h6:=h1.nix hk6'
  obtain⟨m,hm⟩:∃m:Nat,m=min (r'.next-r'.first-r'.most) s.xs.length:=⟨_,rfl⟩
  rw[show min ((r'.next:Int)-(r'.first:Int)-(r'.most:Int)) (s.xs.length:Int)=(m:Int) by omega]
  have hsF:RdF r' s.b:= .inr (.inr ⟨s,hmem, .inl rfl⟩)
  refine(r_sheet_Drop (n:=m) (Laid.nix hk6' hL1) (hs1.nix hk6') (by omega)).runs fun v w7 hk7 ⟨hv,p,c,hs7,hp7⟩=>⟨0,by rw[hv],hk7.kept0 fun i hi hlt=>(hF i (by rw[hi];exact hsF)).elim id fun q=>by omega,?_⟩
  have hsz7:=hk6'.size
  have hk16:Keeps (fun i=>i=r'.b∨SdF s i) w1 w7:=(hk6'.mono fun _ e=>e.elim).trans (hk7.mono fun i hi=> .inr (.inl hi))
  have b7:=h6.blk.keeps hk7 fun e=>h1.off2.2 ⟨s,hmem, .inl e⟩
  have hA:Away w.heap.size (RdF r) [] r.b:=⟨by simp,fun _=> .inl rfl⟩
  refine⟨_,by rw[←hb0];exact(b7.at_ (show 5≤maxLen by decide)).one 2 rfl,by unfold I64;omega,⟨by rw[←hb0];exact b7.can (show 3≤5 by omega),hA⟩,fun w8 hp8=>?_⟩
  rw[←hb0] at hp8
  have b8:=b7.put hp8 (show 3≤5 by omega)
  have hk18:Keeps (fun i=>i=r'.b∨SdF s i) w1 w8:=hk16.trans (hp8.keeps (.inl rfl))
  have hrow8:=h1.row.keeps hk18 fun a ha hf=>by
   rcases hf with q|q
   ·exact h1.off2.1 ⟨a,ha,q⟩
   ·exact h1.off1 _ ⟨a,ha,rfl⟩ ⟨s,hmem,q⟩
  have hat8:At w8 a1 0 [s.ptr]:=Row.at_ hrow8.row ha1 0 (us:=[s.ptr]) (by rw[hss];rfl)
  have hs8:=hs7.keeps (hp8.keeps (F:=fun i=>i=r'.b) rfl) fun i hi hl=>by
   rcases hl with q|⟨a,ha,e⟩|q
   ·exact h1.off2.2 ⟨s,hmem, .inl (by rw[←hi];exact q)⟩
   ·have:=hp7 a ha
    have:=h6.blk.lt
    omega
   ·exact h1.off2.2 ⟨s,hmem, .inr (.inr (by rw[←hi];exact q.sub fun x hx=>List.mem_of_mem_drop hx))⟩
  have hL8:Laid w8:=hL1.keeps hk18 fun i hi=>hi.elim (fun q=>by rw[q];exact h1.lo) fun q=>hs1.low q
  refine⟨_,_,_,by rw[←hb0];exact(b8.at_ (show 5≤maxLen by decide)).one 4 rfl,a1,ha1,⟨by omega,by omega⟩,_,hat8,fun w9 hb9=>(r_sheet_Len (hs8.below hb9)).runs fun w10 hk10=>⟨_,rfl,hk10.nix,fun e3=>?_,fun e3=>?_⟩⟩
  ·have hdl:(s.xs.drop m).length=s.xs.length-m:=List.length_drop
   change ((s.xs.drop m).length:Int)=0 at e3
   have hm':m=s.xs.length:=by omega
   have hk110:=(hk18.trans ((Keeps.of_below hb9).mono fun _ e=>e.elim)).trans (hk10.mono fun _ e=>e.elim)
   have hk810:Keeps Nix w8 w10:=(Keeps.of_below hb9).trans hk10
   have hrow10:=hrow8.nix hk810
   have hb10:=b8.keeps hk810 fun e=>e
   have hcap:=Own.cap hrow10
   have htail:=Own.tail hrow10 (j:=1) (by decide) (by omega)
   have hdm:(r'.ss.map Sd.ptr).drop (1*1)=ss.map Sd.ptr:=by rw[hss];rfl
   rw[hdm] at htail
   have hsl:r'.ss.length=ss.length+1:=by rw[hss];rfl
   have htn:((r'.ss.length:Int)-1).toNat=ss.length:=by omega
   refine⟨_,_,_,by rw[←hb0];exact(hb10.at_ (show 5≤maxLen by decide)).one 4 rfl,⟨by omega,by omega,by omega⟩,[],Room.none,ss.map Sd.ptr,⟨by rw[List.length_map];omega,fun u hu=>?_,fun e=>by have:=htail.1 e;omega,fun a ha=>htail.2 a ha⟩,?_,fun w12 p9 n11 hg=>?_⟩
   ·obtain⟨s2,_,rfl⟩:=List.mem_map.1 hu
    rfl
   ·have h11:=h1.small
    have:∀ss:List Sd,(∀s∈ss,0<s.xs.length)→ss.length≤linesN ss:=by
     intro ss h
     induction ss with
     |nil=>exact Nat.le_refl _
     |cons s ss ih=>
      rw[linesN_cons]
      have:=h s List.mem_cons_self
      have:=ih fun t ht=>h t (List.mem_cons_of_mem _ ht)
      simp only[List.length_cons];omega
    have q1:=this r'.ss fun t ht=>(h1.each t ht).2.2
    have:=h1.few
    omega
   rw[Nat.zero_add,List.nil_append,htn] at hg
   rw[Nat.zero_add,htn]
   have hk12:Keeps Nix w10 w12:=hg.keeps fun e=>absurd e (by omega)
   have ho12:Own w10.heap.size w12 T.p_sheet_Sheet 1 p9 ss.length n11 (ss.map Sd.ptr):=hg.own (Nat.le_refl _) fun a ha=>nomatch ha
   have hb12:=hb10.keeps hk12 fun e=>e
   refine⟨⟨by rw[←hb0];exact hb12.can (show 5≤5 by omega),hA⟩,fun w13 hp13=>⟨linesN ss,fun w14 hb14=>?_⟩⟩
   rw[←hb0] at hp13
   have hb13:=hb12.put hp13 (show 5≤5 by omega)
   have hk1214:Keeps (fun i=>i=r'.b) w12 w14:=(hp13.keeps (F:=fun i=>i=r'.b) rfl).trans ((Keeps.of_below hb14).mono fun _ e=>e.elim)
   have hk114:Keeps (fun i=>i=r'.b∨SdF s i) w1 w14:=(hk110.trans (hk12.mono fun _ e=>e.elim)).trans (hk1214.mono fun _ e=> .inl e)
   have hsz10:=hk110.size
   have hlt1:=h1.lt (.inl rfl)
   have hR:=h1.shift hss (first':=r'.first+m) (c':=n11) (p':=p9) hk114 (by
     have:=hb13.keeps (Keeps.of_below hb14) fun e=>e
     rw[show((r'.first+m:Nat):Int)=(r'.first:Int)+m by omega]
     exact this) ((ho12.keeps hk1214 fun a ha e=>by have:=(ho12.lt a ha).2.1;omega).low (by have:=hL1.size;omega)) (fun a ha=>by have:=(ho12.lt a ha).2.1;omega) (by rw[hss,linesN_cons] at hnum;omega) (Nat.le_add_right _ _)
   refine⟨⟨hL1.keeps hk114 fun i hi=>hi.elim (fun q=>by rw[q];exact h1.lo) fun q=>hs1.low q,⟨r'.b,r'.most,r'.page,r'.first+m,r'.next,p9,n11,ss⟩,hb0,hm0,hp0,hn0,rfl,hR,fun i hi=>?_,?_⟩,?_⟩
   ·rcases hi with rfl|⟨a,ha,rfl⟩|⟨t,ht,hi⟩
    ·exact hF _ (.inl rfl)
    ·have:=(ho12.lt a ha).2.1
     exact .inr (by omega)
    ·exact hF i (.inr (.inr ⟨t,by rw[hss];exact List.mem_cons_of_mem _ ht,hi⟩))
   ·rw[←he]
    have hl:(Sd.sh s).ls.length=s.xs.length:=by simp[Sd.sh,lis]
    have hk:s.xs.length≤r'.next-r'.first-r'.most:=by omega
    show Rg'.mk _ _ _ _ _=Rg'.mk _ _ _ _ _
    have e1:tooMany r'.rg=r'.next-r'.first-r'.most:=rfl
    have e2:tooMany (Rd.rg ⟨r'.b,r'.most,r'.page,r'.first+m,r'.next,p9,n11,ss⟩)=r'.next-r'.first-r'.most-s.xs.length:=by show r'.next-(r'.first+m)-r'.most=_;omega
    have e3:r'.rg.ps=Sd.sh s::ss.map Sd.sh:=by show r'.ss.map Sd.sh=_;rw[hss];rfl
    rw[e1,e2,e3,dropP_all (by omega) (by omega),hl]
    show Rg'.mk _ _ (r'.first+m+_) _ _=Rg'.mk _ _ (r'.first+_) _ _
    congr 1
    omega
   ·rw[hss,linesN_cons]
    dsimp only
    omega
  ·have hdl:(s.xs.drop m).length=s.xs.length-m:=List.length_drop
   change ¬((s.xs.drop m).length:Int)=0 at e3
   have hml:m<s.xs.length:=by omega
   have hmk:m=r'.next-r'.first-r'.most:=by omega
   have hk110:=(hk18.trans ((Keeps.of_below hb9).mono fun _ e=>e.elim)).trans (hk10.mono fun _ e=>e.elim)
   have hk810:Keeps Nix w8 w10:=(Keeps.of_below hb9).trans hk10
   refine⟨linesN (⟨s.b,s.most,s.gone+m,p,c,s.xs.drop m⟩::ss),fun w11 hb11=>?_⟩
   have hk811:=hk810.trans (Keeps.of_below hb11)
   have hk111:=hk110.trans ((Keeps.of_below hb11).mono fun _ e=>e.elim)
   have hF':∀i,SdF ⟨s.b,s.most,s.gone+m,p,c,s.xs.drop m⟩ i→SdF s i∨w1.heap.size≤i:=fun i hi=>by
    rcases hi with q|⟨a,ha,rfl⟩|q
    ·exact .inl (.inl q)
    ·have:=hp7 a ha
     have:=hk6'.size
     exact .inr (by omega)
    ·exact .inl (.inr (.inr (q.sub fun x hx=>List.mem_of_mem_drop hx)))
   have hR:=h1.cut hss (first':=r'.first+m) (hs8.nix hk811) hsm1 (by show 0<(s.xs.drop m).length;omega) rfl hF' hk111 (by
     have:=b8.keeps hk811 fun e=>e
     rw[show((r'.first+m:Nat):Int)=(r'.first:Int)+m by omega]
     exact this) (by show r'.next=r'.first+m+((s.xs.drop m).length+linesN ss);rw[hss,linesN_cons] at hnum;omega) (Nat.le_add_right _ _)
   refine⟨⟨hL1.keeps hk111 fun i hi=>hi.elim (fun q=>by rw[q];exact h1.lo) fun q=>hs1.low q,⟨r'.b,r'.most,r'.page,r'.first+m,r'.next,r'.p,r'.c,⟨s.b,s.most,s.gone+m,p,c,s.xs.drop m⟩::ss⟩,hb0,hm0,hp0,hn0,rfl,hR,fun i hi=>?_,?_⟩,?_⟩
   ·rcases hi with rfl|hi|hi
    ·exact hF _ (.inl rfl)
    ·exact hF _ (.inr (.inl hi))
    ·rcases SsF.cons.1 hi with q|⟨t,ht,q⟩
     ·rcases hF' i q with q|q
      ·exact hF i (.inr (.inr ⟨s,hmem,q⟩))
      ·exact .inr (by omega)
     ·exact hF i (.inr (.inr ⟨t,by rw[hss];exact List.mem_cons_of_mem _ ht,q⟩))
   ·rw[←he]
    have hl:(Sd.sh s).ls.length=s.xs.length:=by simp[Sd.sh,lis]
    have e1:tooMany r'.rg=m:=hmk.symm
    have e2:tooMany (Rd.rg ⟨r'.b,r'.most,r'.page,r'.first+m,r'.next,r'.p,r'.c,⟨s.b,s.most,s.gone+m,p,c,s.xs.drop m⟩::ss⟩)=0:=by show r'.next-(r'.first+m)-r'.most=_;omega
    have e3:r'.rg.ps=Sd.sh s::ss.map Sd.sh:=by show r'.ss.map Sd.sh=_;rw[hss];rfl
    show Rg'.mk _ _ _ _ _=Rg'.mk _ _ _ _ _
    rw[e1,e2,e3,dropP_zero,dropP_part (by omega)]
    have:lis (s.xs.drop m)=(lis s.xs).drop m:=by simp[lis]
    show Rg'.mk _ _ _ _ (Sd.sh ⟨s.b,s.most,s.gone+m,p,c,s.xs.drop m⟩::ss.map Sd.sh)=Rg'.mk _ _ _ _ (⟨_,_,(lis s.xs).drop m⟩::ss.map Sd.sh)
    rw[←this]
    rfl
   ·rw[hss,linesN_cons,linesN_cons]
    dsimp only
    omega
 ·exfalso
  have:r'.ss=[]:=List.eq_nil_of_length_eq_zero (by omega)
  rw[this] at hnum
  simp[linesN] at hnum
  omega
 ·rw[←he]
  have:tooMany r'.rg=0:=by show r'.next-r'.first-r'.most=0;omega
  rw[evictR,this,dropP_zero]
  rfl
end
end Go.Proofs.YtjhhiindeignaaaGreatDoor
namespace Go.Proofs.YtjhhiindeignaaaGreatDoor
open Go Go.RowKit Go.Sy Go.Rep
set_option maxRecDepth 100000
theorem v_region_check {w0:World} {F:Nat→Prop} {Q:Value→World→Prop} (g:Addr) (r:Rg) (h:∀n1:Nat,(w0.heap.size≤n1)→∀w1:World,(Below w0.heap.size w0 w1)→(Mine w1 w0.heap.size [(n1,T.Region)])→Runs Tryz.prog X.grid_Rows #[(.pointer (some g))] w1 (fun e1 w2=>∃i1:Int,(e1=(.returned (.int .i64 i1)))∧((Kept w0.heap.size F [n1] w1 w2)∧(((i1=0)→Fin w0 F w2 Q (.int .i64 1))∧((i1≠0)→∀w3:World,(Below w2.heap.size w2 w3)→(Mine w3 w0.heap.size [(n1,T.Region)])→Runs Tryz.prog X.grid_Rows #[(.pointer (some g))] w3 (fun e2 w4=>∃i2:Int,(e2=(.returned (.int .i64 i2)))∧((Kept w0.heap.size F [n1] w3 w4)∧∀w5:World,(Below w4.heap.size w4 w5)→(Mine w5 w0.heap.size [(n1,T.Region)])→Runs Tryz.prog X.region_Right #[(.int .i64 i2),(.agg r.arr)] w5 (fun e3 w6=>∃b1:Bool,(e3=(.returned (.bool b1)))∧((Kept w0.heap.size F [n1] w5 w6)∧(((b1=false)→Fin w0 F w6 Q (.int .i64 2))∧((b1=true)→Fin w0 F w6 Q (.int .i64 0)))))))))))):Gets Tryz.prog X.region_check #[(.pointer (some g)),(.agg r.arr)] w0 F Q:=
 func_run mixed [] [] X.region_check [SV.adr g 0,SV.agg (Rg.cod.enc r)] ⟨by trivial,okA _ _,trivial⟩ (by kernel_rfl) (by kernel_rfl) h
theorem v_region_at {w0:World} {F:Nat→Prop} {Q:Value→World→Prop} (g:Addr) (r:Rg) (c:Cu) (p:Pn) (h:∀n1:Nat,(w0.heap.size≤n1)→∀n2:Nat,(w0.heap.size≤n2)→∀n3:Nat,(w0.heap.size≤n3)→∀w1:World,(Below w0.heap.size w0 w1)→(Mine w1 w0.heap.size [(n1,T.Region),(n2,T.Cursor),(n3,T.Pen)])→Runs Tryz.prog X.region_check #[(.pointer (some g)),(.agg r.arr)] w1 (fun e1 w2=>∃i1:Int,(e1=(.returned (.int .i64 i1)))∧((Kept w0.heap.size F [n1,n2,n3] w1 w2)∧(((i1≠0)→Fin w0 F w2 Q (.int .i64 i1))∧((i1=0)→((c.row<0)→Fin w0 F w2 Q (.int .i64 2))∧(((0:Int)≤c.row)→∀w3:World,(Below w2.heap.size w2 w3)→(Mine w3 w0.heap.size [(n1,T.Region),(n2,T.Cursor),(n3,T.Pen)])→Runs Tryz.prog X.grid_Rows #[(.pointer (some g))] w3 (fun e2 w4=>∃i2:Int,(e2=(.returned (.int .i64 i2)))∧((Kept w0.heap.size F [n1,n2,n3] w3 w4)∧(((i2≤c.row)→Fin w0 F w4 Q (.int .i64 2))∧((c.row<i2)→((c.col<0)→Fin w0 F w4 Q (.int .i64 2))∧(((0:Int)≤c.col)→∀w5:World,(Below w4.heap.size w4 w5)→(Mine w5 w0.heap.size [(n1,T.Region),(n2,T.Cursor),(n3,T.Pen)])→Runs Tryz.prog X.grid_Cols #[(.pointer (some g))] w5 (fun e3 w6=>∃i3:Int,(e3=(.returned (.int .i64 i3)))∧((Kept w0.heap.size F [n1,n2,n3] w5 w6)∧(((i3≤c.col)→Fin w0 F w6 Q (.int .i64 2))∧((c.col<i3)→((c.pend=true)→∀w10:World,(Below w6.heap.size w6 w10)→(Mine w10 w0.heap.size [(n1,T.Region),(n2,T.Cursor),(n3,T.Pen)])→Runs Tryz.prog X.grid_Cols #[(.pointer (some g))] w10 (fun e5 w11=>∃i5:Int,(e5=(.returned (.int .i64 i5)))∧((Kept w0.heap.size F [n1,n2,n3] w10 w11)∧((I64 (i5-1))∧(((c.col≠(i5-1))→Fin w0 F w11 Q (.int .i64 2))∧((c.col=(i5-1))→∀w12:World,(Below w11.heap.size w11 w12)→(Mine w12 w0.heap.size [(n1,T.Region),(n2,T.Cursor),(n3,T.Pen)])→Runs Tryz.prog X.grid_Roll #[(.pointer (some g)),(.agg r.arr),(.int .i64 0),(.agg p.arr)] w12 (fun e6 w13=>∃p2:Option Addr,∃n6 n7:Nat,∃i6:Int,(e6=(.returned (.tuple #[(.slice p2 n6 n7),(.int .i64 i6)])))∧((Kept w0.heap.size F [n1,n2,n3] w12 w13)∧Fin w0 F w13 Q (.int .i64 i6)))))))))∧((c.pend=false)→∀w7:World,(Below w6.heap.size w6 w7)→(Mine w7 w0.heap.size [(n1,T.Region),(n2,T.Cursor),(n3,T.Pen)])→Runs Tryz.prog X.grid_Roll #[(.pointer (some g)),(.agg r.arr),(.int .i64 0),(.agg p.arr)] w7 (fun e4 w8=>∃p1:Option Addr,∃n4 n5:Nat,∃i4:Int,(e4=(.returned (.tuple #[(.slice p1 n4 n5),(.int .i64 i4)])))∧((Kept w0.heap.size F [n1,n2,n3] w7 w8)∧Fin w0 F w8 Q (.int .i64 i4))))))))))))))))))):Gets Tryz.prog X.region_at #[(.pointer (some g)),(.agg r.arr),(.agg c.arr),(.agg p.arr)] w0 F Q:=
 func_run mixed [] [] X.region_at [SV.adr g 0,SV.agg (Rg.cod.enc r),SV.agg (Cu.cod.enc c),SV.agg (Pn.cod.enc p)] ⟨by trivial,okA _ _,okA _ _,okA _ _,trivial⟩ (by kernel_rfl) (by kernel_rfl) h
theorem v_region_Up {w0:World} {F:Nat→Prop} {Q:Value→World→Prop} (g:Addr) (r:Rg) (n:Int) (p:Pn) (h:∀n1:Nat,(w0.heap.size≤n1)→∀n2:Nat,(w0.heap.size≤n2)→∀w1:World,(Below w0.heap.size w0 w1)→(Mine w1 w0.heap.size [(n1,T.Region),(n2,T.Pen)])→Runs Tryz.prog X.region_check #[(.pointer (some g)),(.agg r.arr)] w1 (fun e1 w2=>∃i1:Int,(e1=(.returned (.int .i64 i1)))∧((Kept w0.heap.size F [n1,n2] w1 w2)∧(((i1≠0)→Fin w0 F w2 Q (.tuple #[(.slice none 0 0),(.int .i64 i1)]))∧((i1=0)→((n<0)→Fin w0 F w2 Q (.tuple #[(.slice none 0 0),(.int .i64 2)]))∧(((0:Int)≤n)→∀w3:World,(Below w2.heap.size w2 w3)→(Mine w3 w0.heap.size [(n1,T.Region),(n2,T.Pen)])→Runs Tryz.prog X.grid_Roll #[(.pointer (some g)),(.agg r.arr),(.int .i64 n),(.agg p.arr)] w3 (fun e2 w4=>∃p1:Option Addr,∃n3 n4:Nat,∃i2:Int,(e2=(.returned (.tuple #[(.slice p1 n3 n4),(.int .i64 i2)])))∧((Kept w0.heap.size F [n1,n2] w3 w4)∧(((i2≠0)→Fin w0 F w4 Q (.tuple #[(.slice none 0 0),(.int .i64 i2)]))∧((i2=0)→(((0:Int)<r.top)→Fin w0 F w4 Q (.tuple #[(.slice none 0 0),(.int .i64 i2)]))∧((r.top≤0)→Fin w0 F w4 Q (.tuple #[(.slice p1 n3 n4),(.int .i64 0)])))))))))))):Gets Tryz.prog X.region_Up #[(.pointer (some g)),(.agg r.arr),(.int .i64 n),(.agg p.arr)] w0 F Q:=
 func_run mixed [] [] X.region_Up [SV.adr g 0,SV.agg (Rg.cod.enc r),SV.int IntKind.i64 n,SV.agg (Pn.cod.enc p)] ⟨by trivial,okA _ _,by trivial,okA _ _,trivial⟩ (by kernel_rfl) (by kernel_rfl) h
theorem v_region_Index {w0:World} {F:Nat→Prop} {Q:Value→World→Prop} (g:Addr) (r:Rg) (c:Cu) (p:Pn) (h:∀n1:Nat,(w0.heap.size≤n1)→∀n2:Nat,(w0.heap.size≤n2)→∀n3:Nat,(w0.heap.size≤n3)→∀n4:Nat,(w0.heap.size≤n4)→∀w1:World,(Below w0.heap.size w0 w1)→(Mine w1 w0.heap.size [(n1,T.Region),(n2,T.Cursor),(n3,T.Pen),(n4,T.Cursor)])→Runs Tryz.prog X.region_at #[(.pointer (some g)),(.agg r.arr),(.agg c.arr),(.agg p.arr)] w1 (fun e1 w2=>∃i1:Int,(e1=(.returned (.int .i64 i1)))∧((Kept w0.heap.size F [n1,n2,n3,n4] w1 w2)∧(((i1≠0)→FinE w0 F w2 [n4] Q (.tuple #[(.agg #[(.int .i64 0),(.int .i64 0),(.bool false)]),(.slice none 0 0),(.int .i64 i1)]))∧((i1=0)→∀n5:Nat,(w2.heap.size≤n5)→((c.row=r.bot)→∀w6:World,(Below w2.heap.size w2 w6)→(Mine w6 w0.heap.size [(n1,T.Region),(n2,T.Cursor),(n3,T.Pen),(n4,T.Cursor),(n5,T.Cursor)])→Runs Tryz.prog X.region_Up #[(.pointer (some g)),(.agg r.arr),(.int .i64 1),(.agg p.arr)] w6 (fun e3 w7=>∃p1:Option Addr,∃n6 n7:Nat,∃i3:Int,(e3=(.returned (.tuple #[(.slice p1 n6 n7),(.int .i64 i3)])))∧((Kept w0.heap.size F [n1,n2,n3,n4,n5] w6 w7)∧FinE w0 F w7 [n4] Q (.tuple #[(.agg #[(.int .i64 c.row),(.int .i64 c.col),(.bool false)]),(.slice p1 n6 n7),(.int .i64 i3)]))))∧((c.row≠r.bot)→(I64 (c.row+1))∧∀w3:World,(Below w2.heap.size w2 w3)→(Mine w3 w0.heap.size [(n1,T.Region),(n2,T.Cursor),(n3,T.Pen),(n4,T.Cursor),(n5,T.Cursor)])→Runs Tryz.prog X.grid_Rows #[(.pointer (some g))] w3 (fun e2 w4=>∃i2:Int,(e2=(.returned (.int .i64 i2)))∧((Kept w0.heap.size F [n1,n2,n3,n4,n5] w3 w4)∧((I64 (i2-1))∧FinE w0 F w4 [n4,n5] Q (.tuple #[(.agg #[(.int .i64 (min (c.row+1) (i2-1))),(.int .i64 c.col),(.bool false)]),(.slice none 0 0),(.int .i64 0)])))))))))):Gets Tryz.prog X.region_Index #[(.pointer (some g)),(.agg r.arr),(.agg c.arr),(.agg p.arr)] w0 F Q:=
 func_run mixed [] [] X.region_Index [SV.adr g 0,SV.agg (Rg.cod.enc r),SV.agg (Cu.cod.enc c),SV.agg (Pn.cod.enc p)] ⟨by trivial,okA _ _,okA _ _,okA _ _,trivial⟩ (by kernel_rfl) (by kernel_rfl) h
end Go.Proofs.YtjhhiindeignaaaGreatDoor
namespace Go.Sy
theorem Keeps.after {F F':Nat→Prop} {a b c:World} (h:Keeps F a b) (k:Keeps F' b c) (hF:∀i,i<a.heap.size→F' i→F i):Keeps F a c:=
 ⟨k.os.trans h.os,k.tape.trans h.tape,k.output.trans h.output,Nat.le_trans h.size k.size,fun i h1 h2=>(k.heap i (Nat.lt_of_lt_of_le h1 h.size) fun e=>h2 (hF i h1 e)).trans (h.heap i h1 h2)⟩
end Go.Sy
namespace Go.Proofs.YtjhhiindeignaaaGreatDoor
open Go Go.RowKit Go.Sy Go.Rep
set_option maxRecDepth 100000
set_option maxHeartbeats 2000000
def GS (w0:World) (g0:Gd) (bs:List Nat) (r:Gr) (w:World):Prop:=Laid w∧Keeps (GdF g0) w0 w∧∃g:Gd,g.b=g0.b∧g.gr=r∧GridAt w g∧∀i,GdF g i→(GdF g0 i∨w0.heap.size≤i)∧i∉bs
section
variable {w0 w w' w1:World} {g0:Gd} {bs:List Nat} {r r':Gr}
theorem GS.start (hL:Laid w0) (h:GridAt w0 g0) (hb:∀b∈bs,w0.heap.size≤b):GS w0 g0 bs g0.gr w0:=
 ⟨hL,Keeps.refl _ _,g0,rfl,rfl,h,fun i hi=>⟨.inl hi,fun hm=>by have:=h.lt hi;have:=hb i hm;omega⟩⟩
theorem GS.nix (h:GS w0 g0 bs r w) (hk:Keeps Nix w w'):GS w0 g0 bs r w':=by
 obtain⟨h1,h2,g,h3,h4,h5,h6⟩:=h
 exact⟨Laid.nix hk h1,h2.trans (hk.mono fun _ e=>e.elim),g,h3,h4,h5.nix hk,h6⟩
theorem GS.below (h:GS w0 g0 bs r w) (hb:Below w.heap.size w w'):GS w0 g0 bs r w':=h.nix (Keeps.of_below hb)
theorem GS.more (h:GS w0 g0 bs r w) {n:Nat} (hn:w.heap.size≤n):GS w0 g0 (bs++[n]) r w:=by
 obtain⟨h1,h2,g,h3,h4,h5,h6⟩:=h
 exact⟨h1,h2,g,h3,h4,h5,fun i hi=>⟨(h6 i hi).1,fun hm=>by
  rcases List.mem_append.1 hm with q|q
  ·exact(h6 i hi).2 q
  ·rw[List.mem_singleton] at q
   have:=h5.lt hi
   omega⟩⟩
theorem GS.fin (h:GS w0 g0 bs r w) (hb:Below w.heap.size w w'):ModG w0 g0 r w':=by
 obtain⟨h1,h2,g,h3,h4,h5,h6⟩:=h
 exact⟨g,h3,h4,h5.below hb,fun i hi=>(h6 i hi).1⟩
theorem GS.ret {f:FuncId} {args:Array Value} {v:Value} {R:Ending→World→Prop} (h:GS w0 g0 bs r w1) (hc:∀g:Gd,GridAt w1 g→g.ptr=g0.ptr→g.gr=r→Laid w1→Ret f args w1 v)
  (hR:∀w2,GS w0 g0 bs r w2→Keeps Nix w1 w2→R (.returned v) w2):Runs Tryz.prog f args w1 R:=by
 have h':=h
 obtain⟨h1,h2,g,h3,h4,h5,h6⟩:=h'
 exact(hc g h5 (by unfold Gd.ptr;rw[h3]) h4 h1).runs fun w2 hk=>hR w2 (h.nix hk) hk
theorem GS.call {f:FuncId} {args:Array Value} {Qv:Value→World→Prop} {R:Ending→World→Prop} (h:GS w0 g0 bs r w1) (hm:∀b∈bs,b<w1.heap.size)
  (hc:∀g:Gd,GridAt w1 g→g.ptr=g0.ptr→g.gr=r→Laid w1→Gets Tryz.prog f args w1 (GdF g) (fun v w2=>Qv v w2∧ModG w1 g r' w2))
  (hR:∀v w2,Qv v w2→GS w0 g0 bs r' w2→Kept w0.heap.size (GdF g0) bs w1 w2→R (.returned v) w2):Runs Tryz.prog f args w1 R:=by
 obtain⟨h1,h2,g,h3,h4,h5,h6⟩:=h
 refine(hc g h5 (by unfold Gd.ptr;rw[h3]) h4 h1).runs fun v w2 hk ⟨hq,g',q1,q2,q3,q4⟩=>hR v w2 hq ⟨?_,h2.after hk (fun i hlt hi=>((h6 i hi).1).resolve_right (by omega)),g',q1.trans h3,q2,q3,fun i hi=>?_⟩ ?_
 ·exact h1.keeps hk fun i hi=>h5.low hi
 ·rcases q4 i hi with q|q
  ·exact h6 i q
  ·exact⟨.inr (Nat.le_trans h2.size q),fun hb=>by have:=hm i hb;omega⟩
 ·exact hk.kept (fun i hi hlt=>((h6 i hi).1).resolve_right (by omega)) fun i hi _=>(h6 i hi).2
variable {R:Ending→World→Prop}
theorem gs_Rows (h:GS w0 g0 bs r w1) (hR:∀w2,GS w0 g0 bs r w2→Keeps Nix w1 w2→R (.returned (.int .i64 r.ls.length)) w2):Runs Tryz.prog X.grid_Rows #[g0.ptr] w1 R:=
 h.ret (fun g hg hp hr hL=>by subst hr;rw[←hp];simpa[Gd.gr,lis] using r_grid_Rows hg) hR
theorem gs_Cols (h:GS w0 g0 bs r w1) (hR:∀w2,GS w0 g0 bs r w2→Keeps Nix w1 w2→R (.returned (.int .i64 r.cols)) w2):Runs Tryz.prog X.grid_Cols #[g0.ptr] w1 R:=
 h.ret (fun g hg hp hr hL=>by subst hr;rw[←hp];exact r_grid_Cols hg) hR
theorem gs_Cell {row col:Int} (h:GS w0 g0 bs r w1) (hR:∀w2,GS w0 g0 bs r w2→Keeps Nix w1 w2→R (.returned (.tuple #[.agg (cellOf r row col).arr, .int .i64 (atE r row col)])) w2):Runs Tryz.prog X.grid_Cell #[g0.ptr, .int .i64 row, .int .i64 col] w1 R:=
 h.ret (fun g hg hp hr hL=>by subst hr;rw[←hp];exact r_grid_Cell hg) hR
theorem gs_Put {row col:Int} {c:Cl} (h:GS w0 g0 bs r w1) (hm:∀b∈bs,b<w1.heap.size) (hR:∀w2,GS w0 g0 bs (putG r row col c) w2→Kept w0.heap.size (GdF g0) bs w1 w2→R (.returned (.int .i64 (putE r row col c))) w2):Runs Tryz.prog X.grid_Put #[g0.ptr, .int .i64 row, .int .i64 col, .agg c.arr] w1 R:=
 h.call (r':=putG r row col c) hm (Qv:=fun v _=>v= .int .i64 (putE r row col c)) (fun g hg hp hr hL=>by subst hr;rw[←hp];exact r_grid_Put hL hg) fun v w2 hv=>by subst hv;exact hR w2
theorem gs_Shift {row col n:Int} {q:Pn} (h:GS w0 g0 bs r w1) (hm:∀b∈bs,b<w1.heap.size) (hn: -1000000≤n∧n≤1000000) (hR:∀w2,GS w0 g0 bs (shiftG r row col n q) w2→Kept w0.heap.size (GdF g0) bs w1 w2→R (.returned (.int .i64 (shiftE r row col n q))) w2):Runs Tryz.prog X.grid_Shift #[g0.ptr, .int .i64 row, .int .i64 col, .int .i64 n, .agg q.arr] w1 R:=
 h.call (r':=shiftG r row col n q) hm (Qv:=fun v _=>v= .int .i64 (shiftE r row col n q)) (fun g hg hp hr hL=>by subst hr;rw[←hp];exact r_grid_Shift hL hg hn) fun v w2 hv=>by subst hv;exact hR w2
end
end Go.Proofs.YtjhhiindeignaaaGreatDoor
namespace Go.Proofs.YtjhhiindeignaaaGreatDoor
open Go Go.RowKit Go.Sy Go.Rep
set_option maxRecDepth 100000
set_option maxHeartbeats 2000000
def CuIn (r:Gr) (c:Cu):Prop:=0≤c.row∧c.row<r.ls.length∧0≤c.col∧c.col<r.cols∧(c.pend=true→c.col=r.cols-1)
def RgIn (r:Gr) (g:Rg):Prop:=0≤g.top∧g.top≤g.bot∧g.bot<r.ls.length
section
variable {w0 w w' w1:World} {g g0:Gd} {bs:List Nat} {r r':Gr} {R:Ending→World→Prop}
theorem GridAt.dims (h:GridAt w g):1≤g.gr.cols∧g.gr.cols≤1000∧1≤g.gr.ls.length∧g.gr.ls.length≤1000:=⟨h.c1,h.c2,by simpa[Gd.gr,lis] using h.r1,by simpa[Gd.gr,lis] using h.r2⟩
theorem GS.pure {f:FuncId} {args:Array Value} {v:Value} (hp:Pure f args v) (h:GS w0 g0 bs r w1) (hR:∀w2,GS w0 g0 bs r w2→Keeps Nix w1 w2→R (.returned v) w2):Runs Tryz.prog f args w1 R:=
 hp.runs h.1 fun w2 hk _=>hR w2 (h.nix hk) hk
theorem Mine.all {w:World} {lo:Nat} {ls:List (Nat×TypeId)} (h:Mine w lo ls):∀b∈ls.map (·.1),b<w.heap.size:=fun b hb=>h.lt hb
theorem r_region_check {rg:Rg} (hL:Laid w) (h:GridAt w g) (hr:RgIn g.gr rg):Ret X.region_check #[g.ptr, .agg rg.arr] w (.int .i64 0):=by
 obtain⟨h1,h2,h3⟩:=hr
 obtain⟨d1,d2,d3,d4⟩:=h.dims
 refine v_region_check _ rg fun n1 hn1 w1 hb1 hm1=>?_
 have s1:=(GS.start (bs:=[n1]) hL h (by simpa using hn1)).below hb1
 refine gs_Rows s1 fun w2 s2 hk2=>⟨_,rfl,hk2.nix,fun e=>by omega,fun _ w3 hb3 hm3=>gs_Rows (s2.below hb3) fun w4 s4 hk4=>⟨_,rfl,hk4.nix,fun w5 hb5 hm5=>GS.pure (c_region_Right (by omega) (by omega) h1 h2 h3) (s4.below hb5) fun w6 s6 hk6=>⟨_,rfl,hk6.nix,fun e=>(nomatch e),fun _=>Fin.of fun _=>rfl⟩⟩⟩
def GL (w0:World) (g0:Gd) (bs:List Nat) (r:Gr) (p:Option Addr) (gs:List Ln) (c:Nat) (w:World):Prop:=Laid w∧Keeps (GdF g0) w0 w∧∃g:Gd,g.b=g0.b∧g.gr=r∧GridAt w g∧(∀i,GdF g i→(GdF g0 i∨w0.heap.size≤i)∧i∉bs)∧Lines w p gs.length c gs∧∀i,LsF p gs i→(GdF g0 i∨w0.heap.size≤i)∧¬GdF g i∧i∉bs
theorem GL.gs {p:Option Addr} {gs:List Ln} {c:Nat} (h:GL w0 g0 bs r p gs c w):GS w0 g0 bs r w:=by
 obtain⟨h1,h2,g,h3,h4,h5,h6,_⟩:=h
 exact⟨h1,h2,g,h3,h4,h5,h6⟩
theorem GL.nix {p:Option Addr} {gs:List Ln} {c:Nat} (h:GL w0 g0 bs r p gs c w) (hk:Keeps Nix w w'):GL w0 g0 bs r p gs c w':=by
 obtain⟨h1,h2,g,h3,h4,h5,h6,h7,h8⟩:=h
 exact⟨Laid.nix hk h1,h2.trans (hk.mono fun _ e=>e.elim),g,h3,h4,h5.nix hk,h6,h7.nix hk,h8⟩
theorem GL.fin {p:Option Addr} {gs:List Ln} {c:Nat} {e:Int} (h:GL w0 g0 bs r p gs c w) (hb:Below w.heap.size w w'):RollQ w0 g0 r (lis gs) e (.tuple #[.slice p gs.length c, .int .i64 e]) w':=by
 obtain⟨h1,h2,g,h3,h4,h5,h6,h7,h8⟩:=h.nix (Keeps.of_below hb)
 exact⟨p,c,gs,g,rfl,rfl,h7,h3,h4,h5,fun i hi=>(h6 i hi).1,fun i hi=>⟨(h8 i hi).1,(h8 i hi).2.1⟩⟩
theorem GS.none (h:GS w0 g0 bs r w):GL w0 g0 bs r none [] 0 w:=by
 obtain⟨h1,h2,g,h3,h4,h5,h6⟩:=h
 exact⟨h1,h2,g,h3,h4,h5,h6,Lines.nil,fun i hi=>absurd hi LsF.nil⟩
theorem gs_gone {f:FuncId} {args:Array Value} {gone:List Li} {e:Int} (h:GS w0 g0 bs r w1) (hm:∀b∈bs,b<w1.heap.size)
  (hc:∀g:Gd,GridAt w1 g→g.ptr=g0.ptr→g.gr=r→Laid w1→Gets Tryz.prog f args w1 (GdF g) (RollQ w1 g r' gone e))
  (hR:∀p gs c w2,lis gs=gone→GL w0 g0 bs r' p gs c w2→Kept w0.heap.size (GdF g0) bs w1 w2→R (.returned (.tuple #[.slice p gs.length c, .int .i64 e])) w2):Runs Tryz.prog f args w1 R:=by
 obtain⟨h1,h2,g,h3,h4,h5,h6⟩:=h
 refine(hc g h5 (by unfold Gd.ptr;rw[h3]) h4 h1).runs fun v w2 hk ⟨p,c,gs,g',q0,q1,q2,q3,q4,q5,q6,q7⟩=>?_
 subst q0
 refine hR p gs c w2 q1 ⟨?_,h2.after hk (fun i hlt hi=>((h6 i hi).1).resolve_right (by omega)),g',q3.trans h3,q4,q5,fun i hi=>?_,q2,fun i hi=>?_⟩ ?_
 ·exact h1.keeps hk fun i hi=>h5.low hi
 ·rcases q6 i hi with q|q
  ·exact h6 i q
  ·exact⟨.inr (Nat.le_trans h2.size q),fun hb=>by have:=hm i hb;omega⟩
 ·obtain⟨k1,k2⟩:=q7 i hi
  rcases k1 with q|q
  ·exact⟨(h6 i q).1,k2,(h6 i q).2⟩
  ·exact⟨.inr (Nat.le_trans h2.size q),k2,fun hb=>by have:=hm i hb;omega⟩
 ·exact hk.kept (fun i hi hlt=>((h6 i hi).1).resolve_right (by omega)) fun i hi _=>(h6 i hi).2
theorem gs_Roll {rg:Rg} {n:Int} {q:Pn} (h:GS w0 g0 bs r w1) (hm:∀b∈bs,b<w1.heap.size) (hn: -1000000≤n∧n≤1000000) (hR:∀p gs c w2,lis gs=rollX r rg n q→GL w0 g0 bs (rollG r rg n q) p gs c w2→Kept w0.heap.size (GdF g0) bs w1 w2→R (.returned (.tuple #[.slice p gs.length c, .int .i64 (rollE r rg q)])) w2):Runs Tryz.prog X.grid_Roll #[g0.ptr, .agg rg.arr, .int .i64 n, .agg q.arr] w1 R:=
 gs_gone (r':=rollG r rg n q) (gone:=rollX r rg n q) (e:=rollE r rg q) h hm (fun g hg hp hr hL=>by subst hr;rw[←hp];exact r_grid_Roll hL hg hn) hR
theorem rollE_zero {rg:Rg} {q:Pn} (hr:RgIn r rg) (hq:validCl (bCl q)=true):rollE r rg q=0:=by
 obtain⟨h1,h2,h3⟩:=hr
 unfold rollE
 rw[if_neg (by omega),if_neg (by rw[hq];simp)]
theorem rollG_zero {rg:Rg} {q:Pn}:rollG r rg 0 q=r:=by simp[rollG]
def upX (r:Gr) (rg:Rg) (n:Int) (q:Pn):List Li:=if 0<rg.top then[] else rollX r rg n q
theorem r_region_Up {rg:Rg} {n:Int} {p:Pn} (hL:Laid w) (h:GridAt w g) (hr:RgIn g.gr rg) (hq:validCl (bCl p)=true) (h0:0≤n) (hn:n≤1000000):Gets Tryz.prog X.region_Up #[g.ptr, .agg rg.arr, .int .i64 n, .agg p.arr] w (GdF g) (RollQ w g (rollG g.gr rg n p) (upX g.gr rg n p) 0):=by
 refine v_region_Up _ rg n p fun n1 hn1 n2 hn2 w1 hb1 hm1=>?_
 have s1:=(GS.start (bs:=[n1,n2]) hL h (by simp<;>omega)).below hb1
 refine s1.ret (fun g' a b c d=>by have:=r_region_check (rg:=rg) d a (by rw[c];exact hr);rw[b] at this;exact this) fun w2 s2 hk2=>⟨_,rfl,hk2.nix,fun e=>absurd rfl e,fun _=>⟨fun e=>by omega,fun _ w3 hb3 hm3=>?_⟩⟩
 refine gs_Roll (s2.below hb3) (Mine.all hm3) (by omega) fun p1 gs c w4 hl s4 hk4=>⟨_,_,_,_,rfl,hk4,fun e=>absurd (rollE_zero hr hq) e,fun _=>⟨fun ht w' hb _=>?_,fun ht w' hb _=>?_⟩⟩
 ·rw[rollE_zero hr hq]
  have:=s4.gs.none.fin (e:=0) hb
  unfold upX
  rw[if_pos ht]
  exact this
 ·have:=s4.fin (e:=0) hb
  unfold upX
  rw[if_neg (by omega),←hl]
  exact this
theorem r_region_at {rg:Rg} {c:Cu} {p:Pn} (hL:Laid w) (h:GridAt w g) (hr:RgIn g.gr rg) (hc:CuIn g.gr c) (hq:validCl (bCl p)=true):Gets Tryz.prog X.region_at #[g.ptr, .agg rg.arr, .agg c.arr, .agg p.arr] w (GdF g) (fun v w'=>v= .int .i64 0∧ModG w g g.gr w'):=by
 obtain⟨c1,c2,c3,c4,c5⟩:=hc
 obtain⟨d1,d2,d3,d4⟩:=h.dims
 refine v_region_at _ rg c p fun n1 hn1 n2 hn2 n3 hn3 w1 hb1 hm1=>?_
 have s1:=(GS.start (bs:=[n1,n2,n3]) hL h (by simp<;>omega)).below hb1
 refine s1.ret (fun g' a b c d=>by have:=r_region_check (rg:=rg) d a (by rw[c];exact hr);rw[b] at this;exact this) fun w2 s2 hk2=>⟨_,rfl,hk2.nix,fun e=>absurd rfl e,fun _=>⟨fun e=>by omega,fun _ w3 hb3 hm3=>?_⟩⟩
 refine gs_Rows (s2.below hb3) fun w4 s4 hk4=>⟨_,rfl,hk4.nix,fun e=>by omega,fun _=>⟨fun e=>by omega,fun _ w5 hb5 hm5=>?_⟩⟩
 refine gs_Cols (s4.below hb5) fun w6 s6 hk6=>⟨_,rfl,hk6.nix,fun e=>by omega,fun _=>⟨fun e w7 hb7 hm7=>?_,fun e w7 hb7 hm7=>?_⟩⟩
 ·refine gs_Cols (s6.below hb7) fun w8 s8 hk8=>⟨_,rfl,hk8.nix,by unfold I64;omega,fun e2=>absurd (c5 e) e2,fun _ w9 hb9 hm9=>?_⟩
  refine gs_Roll (s8.below hb9) (Mine.all hm9) (by omega) fun p1 gs c w4 hl s4 hk4=>⟨_,_,_,_,rfl,hk4,fun w' hb _=>⟨by rw[rollE_zero hr hq],by have:=s4.gs.fin hb;rwa[rollG_zero] at this⟩⟩
 ·refine gs_Roll (s6.below hb7) (Mine.all hm7) (by omega) fun p1 gs c w4 hl s4 hk4=>⟨_,_,_,_,rfl,hk4,fun w' hb _=>⟨by rw[rollE_zero hr hq],by have:=s4.gs.fin hb;rwa[rollG_zero] at this⟩⟩
end
end Go.Proofs.YtjhhiindeignaaaGreatDoor
namespace Go.Proofs.YtjhhiindeignaaaGreatDoor
open Go Go.RowKit Go.Sy Go.Rep
set_option maxRecDepth 100000
set_option maxHeartbeats 2000000
section
variable {w0 w w' w1:World} {g g0:Gd} {bs:List Nat} {r r':Gr} {R:Ending→World→Prop}
def RQ (w:World) (g:Gd) (r:Gr) (gone:List Li) (mk:Option Addr→Nat→Nat→Value) (u:Value) (v:World):Prop:=∃p3 c3 gs,∃g':Gd,u=mk p3 gs.length c3∧lis gs=gone∧Lines v p3 gs.length c3 gs∧g'.b=g.b∧g'.gr=r∧GridAt v g'∧(∀i,GdF g' i→GdF g i∨w.heap.size≤i)∧∀i,LsF p3 gs i→(GdF g i∨w.heap.size≤i)∧¬GdF g' i
theorem GL.rq {p:Option Addr} {gs:List Ln} {c:Nat} {mk:Option Addr→Nat→Nat→Value} (h:GL w0 g0 bs r p gs c w) (hb:Keeps Nix w w'):RQ w0 g0 r (lis gs) mk (mk p gs.length c) w':=by
 obtain⟨h1,h2,g,h3,h4,h5,h6,h7,h8⟩:=h.nix hb
 exact⟨p,c,gs,g,rfl,rfl,h7,h3,h4,h5,fun i hi=>(h6 i hi).1,fun i hi=>⟨(h8 i hi).1,(h8 i hi).2.1⟩⟩
theorem GL.ext {p:Option Addr} {gs:List Ln} {c:Nat} (h:GL w0 g0 bs r p gs c w) {ds:List Nat} (he:Ext w ds w') (hd:∀d∈ds,d∈bs) (hlo:∀b∈bs,w0.heap.size≤b) (hY:Y.count≤w0.heap.size):GL w0 g0 bs r p gs c w':=by
 obtain⟨h1,h2,g,h3,h4,h5,h6,h7,h8⟩:=h
 have hk:=Ext.keeps he
 have hd':∀i,i∈ds→w0.heap.size≤i:=fun i hi=>hlo i (hd i hi)
 exact⟨h1.keeps hk fun i hi=>Nat.le_trans hY (hd' i hi),h2.after hk fun i hlt hi=>by have:=hd' i hi;omega,g,h3,h4,h5.keeps hk fun i hi hf=>(h6 i hf).2 (hd i hi),h6,h7.keeps hk fun i hi hf=>(h8 i hf).2.2 (hd i hi),h8⟩
def idxC (r:Gr) (rg:Rg) (c:Cu):Cu:=if c.row=rg.bot then⟨c.row,c.col,false⟩ else⟨min (c.row+1) (r.ls.length-1),c.col,false⟩
def idxG (r:Gr) (rg:Rg) (c:Cu) (p:Pn):Gr:=if c.row=rg.bot then rollG r rg 1 p else r
def idxX (r:Gr) (rg:Rg) (c:Cu) (p:Pn):List Li:=if c.row=rg.bot then upX r rg 1 p else[]
theorem r_region_Index {rg:Rg} {c:Cu} {p:Pn} (hL:Laid w) (h:GridAt w g) (hr:RgIn g.gr rg) (hc:CuIn g.gr c) (hq:validCl (bCl p)=true):Gets Tryz.prog X.region_Index #[g.ptr, .agg rg.arr, .agg c.arr, .agg p.arr] w (GdF g)
  (RQ w g (idxG g.gr rg c p) (idxX g.gr rg c p) fun q n k=> .tuple #[.agg (idxC g.gr rg c).arr, .slice q n k, .int .i64 0]):=by
 have hd:=h.dims
 have hc':=hc
 obtain⟨c1,c2,c3,c4,c5⟩:=hc'
 refine v_region_Index _ rg c p fun n1 hn1 n2 hn2 n3 hn3 n4 hn4 w1 hb1 hm1=>?_
 have s1:=(GS.start (bs:=[n1,n2,n3,n4]) hL h (by simp<;>omega)).below hb1
 refine s1.call (Qv:=fun v _=>v= .int .i64 0) (r':=g.gr) (Mine.all hm1) (fun g' a b c d=>by have:=r_region_at (rg:=rg) d a (by rw[c];exact hr) (by rw[c];exact hc) hq;rw[b,c] at this;exact this) fun v w2 hv s2 hk2=>⟨0,by rw[hv],hk2,fun e=>absurd rfl e,fun _ n5 hn5=>?_⟩
 have s2':=s2.more hn5
 have hbs:∀b∈[n1,n2,n3,n4,n5],w.heap.size≤b:=by have:=s2.2.1.size;simp<;>omega
 refine⟨fun e w6 hb6 hm6=>?_,fun e=>⟨by unfold I64;omega,fun w3 hb3 hm3=>?_⟩⟩
 ·refine gs_gone (r':=rollG g.gr rg 1 p) (gone:=upX g.gr rg 1 p) (e:=0) (bs:=[n1,n2,n3,n4,n5]) (s2'.below hb6) (Mine.all hm6) (fun g' a b c d=>by have:=r_region_Up (rg:=rg) (n:=1) (p:=p) d a (by rw[c];exact hr) hq (by omega) (by omega);rw[b,c] at this;exact this) fun p1 gs k w7 hl s7 hk7=>⟨_,_,_,_,rfl,hk7,fun w' he _=>?_⟩
  have:=(s7.ext he (by simp) hbs hL.size).rq (mk:=fun q n k=> .tuple #[.agg (idxC g.gr rg c).arr, .slice q n k, .int .i64 0]) (Keeps.refl _ _)
  rw[hl] at this
  unfold idxG idxX
  rw[if_pos e,if_pos e]
  have e2:idxC g.gr rg c=⟨c.row,c.col,false⟩:=if_pos e
  rw[e2] at this⊢
  exact this
 ·refine gs_Rows (bs:=[n1,n2,n3,n4,n5]) (s2'.below hb3) fun w4 s4 hk4=>⟨_,rfl,hk4.nix,by unfold I64;omega,fun w' he _=>?_⟩
  have:=(s4.none.ext he (by simp) hbs hL.size).rq (mk:=fun q n k=> .tuple #[.agg (idxC g.gr rg c).arr, .slice q n k, .int .i64 0]) (Keeps.refl _ _)
  unfold idxG idxX
  rw[if_neg e,if_neg e]
  have e2:idxC g.gr rg c=⟨min (c.row+1) (g.gr.ls.length-1),c.col,false⟩:=if_neg e
  rw[e2] at this⊢
  exact this
end
end Go.Proofs.YtjhhiindeignaaaGreatDoor
namespace Go.Proofs.YtjhhiindeignaaaGreatDoor
open Go Go.RowKit Go.Sy Go.Rep
set_option maxRecDepth 100000
theorem v_printer_check {w0:World} {F:Nat→Prop} {Q:Value→World→Prop} (g:Addr) (c:Cu) (h:∀n1:Nat,(w0.heap.size≤n1)→∀w1:World,(Below w0.heap.size w0 w1)→(Mine w1 w0.heap.size [(n1,T.Cursor)])→Runs Tryz.prog X.grid_Rows #[(.pointer (some g))] w1 (fun e1 w2=>∃i1:Int,(e1=(.returned (.int .i64 i1)))∧((Kept w0.heap.size F [n1] w1 w2)∧(((i1=0)→Fin w0 F w2 Q (.int .i64 1))∧((i1≠0)→((c.row<0)→Fin w0 F w2 Q (.int .i64 2))∧(((0:Int)≤c.row)→∀w3:World,(Below w2.heap.size w2 w3)→(Mine w3 w0.heap.size [(n1,T.Cursor)])→Runs Tryz.prog X.grid_Rows #[(.pointer (some g))] w3 (fun e2 w4=>∃i2:Int,(e2=(.returned (.int .i64 i2)))∧((Kept w0.heap.size F [n1] w3 w4)∧(((i2≤c.row)→Fin w0 F w4 Q (.int .i64 2))∧((c.row<i2)→((c.col<0)→Fin w0 F w4 Q (.int .i64 2))∧(((0:Int)≤c.col)→∀w5:World,(Below w4.heap.size w4 w5)→(Mine w5 w0.heap.size [(n1,T.Cursor)])→Runs Tryz.prog X.grid_Cols #[(.pointer (some g))] w5 (fun e3 w6=>∃i3:Int,(e3=(.returned (.int .i64 i3)))∧((Kept w0.heap.size F [n1] w5 w6)∧(((i3≤c.col)→Fin w0 F w6 Q (.int .i64 2))∧((c.col<i3)→((c.pend=true)→∀w8:World,(Below w6.heap.size w6 w8)→(Mine w8 w0.heap.size [(n1,T.Cursor)])→Runs Tryz.prog X.grid_Cols #[(.pointer (some g))] w8 (fun e4 w9=>∃i4:Int,(e4=(.returned (.int .i64 i4)))∧((Kept w0.heap.size F [n1] w8 w9)∧((I64 (i4-1))∧(((c.col≠(i4-1))→Fin w0 F w9 Q (.int .i64 2))∧((c.col=(i4-1))→Fin w0 F w9 Q (.int .i64 0)))))))∧((c.pend=false)→Fin w0 F w6 Q (.int .i64 0))))))))))))))))):Gets Tryz.prog X.printer_check #[(.pointer (some g)),(.agg c.arr)] w0 F Q:=
 func_run mixed [] [] X.printer_check [SV.adr g 0,SV.agg (Cu.cod.enc c)] ⟨by trivial,okA _ _,trivial⟩ (by kernel_rfl) (by kernel_rfl) h
theorem v_printer_wraps {w0:World} {F:Nat→Prop} {Q:Value→World→Prop} (g:Addr) (c:Cu) (columns:Int) (auto:Bool) (h:∀n1:Nat,(w0.heap.size≤n1)→∀w1:World,(Below w0.heap.size w0 w1)→(Mine w1 w0.heap.size [(n1,T.Cursor)])→Runs Tryz.prog X.grid_Cols #[(.pointer (some g))] w1 (fun e1 w2=>∃i1:Int,(e1=(.returned (.int .i64 i1)))∧((Kept w0.heap.size F [n1] w1 w2)∧((I64 (i1-1))∧(((auto=true)→((c.pend=true)→Fin w0 F w2 Q (.bool true))∧((c.pend=false)→((columns=2)→(((0:Int)<(i1-1))→Fin w0 F w2 Q (.bool (BE.val (.eq c.col (i1-1)))))∧(((i1-1)≤0)→Fin w0 F w2 Q (.bool false)))∧((columns≠2)→Fin w0 F w2 Q (.bool false))))∧((auto=false)→Fin w0 F w2 Q (.bool false))))))):Gets Tryz.prog X.printer_wraps #[(.pointer (some g)),(.agg c.arr),(.int .i64 columns),(.bool auto)] w0 F Q:=
 func_run mixed [] [] X.printer_wraps [SV.adr g 0,SV.agg (Cu.cod.enc c),SV.int IntKind.i64 columns,SV.bool (BE.ok auto)] ⟨by trivial,okA _ _,by trivial,by trivial,trivial⟩ (by kernel_rfl) (by kernel_rfl) h
theorem v_printer_Wraps {w0:World} {F:Nat→Prop} {Q:Value→World→Prop} (g:Addr) (c:Cu) (r:Int) (auto:Bool) (h:∀n1:Nat,(w0.heap.size≤n1)→∀w1:World,(Below w0.heap.size w0 w1)→(Mine w1 w0.heap.size [(n1,T.Cursor)])→Runs Tryz.prog X.printer_check #[(.pointer (some g)),(.agg c.arr)] w1 (fun e1 w2=>∃i1:Int,(e1=(.returned (.int .i64 i1)))∧((Kept w0.heap.size F [n1] w1 w2)∧(((i1≠0)→Fin w0 F w2 Q (.tuple #[(.bool false),(.int .i64 i1)]))∧((i1=0)→∀w3:World,(Below w2.heap.size w2 w3)→(Mine w3 w0.heap.size [(n1,T.Cursor)])→Runs Tryz.prog X.width_Of #[(.int .i32 r)] w3 (fun e2 w4=>∃i2:Int,(e2=(.returned (.int .i64 i2)))∧((Kept w0.heap.size F [n1] w3 w4)∧(((i2<1)→Fin w0 F w4 Q (.tuple #[(.bool false),(.int .i64 2)]))∧(((1:Int)≤i2)→∀w5:World,(Below w4.heap.size w4 w5)→(Mine w5 w0.heap.size [(n1,T.Cursor)])→Runs Tryz.prog X.printer_wraps #[(.pointer (some g)),(.agg c.arr),(.int .i64 i2),(.bool auto)] w5 (fun e3 w6=>∃b1:Bool,(e3=(.returned (.bool b1)))∧((Kept w0.heap.size F [n1] w5 w6)∧Fin w0 F w6 Q (.tuple #[(.bool b1),(.int .i64 0)])))))))))))):Gets Tryz.prog X.printer_Wraps #[(.pointer (some g)),(.agg c.arr),(.int .i32 r),(.bool auto)] w0 F Q:=
 func_run mixed [] [] X.printer_Wraps [SV.adr g 0,SV.agg (Cu.cod.enc c),SV.int IntKind.i32 r,SV.bool (BE.ok auto)] ⟨by trivial,okA _ _,by trivial,by trivial,trivial⟩ (by kernel_rfl) (by kernel_rfl) h
end Go.Proofs.YtjhhiindeignaaaGreatDoor
namespace Go.Proofs.YtjhhiindeignaaaGreatDoor
open Go Go.RowKit Go.Sy Go.Rep
set_option maxRecDepth 100000
set_option maxHeartbeats 2000000
section
variable {w0 w w' w1:World} {g g0:Gd} {bs:List Nat} {r r':Gr} {R:Ending→World→Prop}
theorem GS.belowOf (hb:Below w.heap.size w w') (h:GS w0 g0 bs r w):GS w0 g0 bs r w':=h.below hb
theorem GS.extOf {ds:List Nat} (he:Ext w ds w') (h:GS w0 g0 bs r w) (hd:∀d∈ds,d∈bs) (hlo:∀b∈bs,w0.heap.size≤b) (hY:Y.count≤w0.heap.size):GS w0 g0 bs r w':=(h.none.ext he hd hlo hY).gs
theorem setSoftG_len {row:Int} {b:Bool}:(setSoftG r row b).ls.length=r.ls.length:=by unfold setSoftG;split<;>simp[softG]
theorem putG_cols {row col:Int} {c:Cl}:(putG r row col c).cols=r.cols:=by unfold putG;split<;>rfl
theorem shiftG_cols {row col n:Int} {q:Pn}:(shiftG r row col n q).cols=r.cols:=by unfold shiftG;split<;>rfl
theorem shiftG_len {row col n:Int} {q:Pn}:(shiftG r row col n q).ls.length=r.ls.length:=by unfold shiftG;split<;>simp[editG]
theorem thereE_in {row:Int} (h1:0≤row) (h2:row<r.ls.length):thereE r row=0:=by unfold thereE;rw[if_neg (by omega)]
theorem atE_in {row col:Int} (h1:0≤row) (h2:row<r.ls.length) (h3:0≤col) (h4:col<r.cols):atE r row col=0:=by unfold atE;rw[thereE_in h1 h2,if_neg (by omega)]
end
end Go.Proofs.YtjhhiindeignaaaGreatDoor
namespace Go.Proofs.YtjhhiindeignaaaGreatDoor
open Go Go.RowKit Go.Sy Go.Rep
set_option maxRecDepth 100000
set_option maxHeartbeats 2000000
section
variable {w0 w w' w1:World} {g g0:Gd} {bs:List Nat} {r r':Gr} {R:Ending→World→Prop}
theorem shiftE_in {row col n:Int} {q:Pn} (h1:0≤row) (h2:row<r.ls.length) (h3:0≤col) (h4:col<r.cols) (hq:validCl (bCl q)=true):shiftE r row col n q=0:=by
 unfold shiftE
 rw[atE_in h1 h2 h3 h4,if_neg (by simp),if_neg (by rw[hq];simp)]
end
end Go.Proofs.YtjhhiindeignaaaGreatDoor
namespace Go.Proofs.YtjhhiindeignaaaGreatDoor
open Go Go.RowKit Go.Sy Go.Rep
set_option maxRecDepth 100000
set_option maxHeartbeats 2000000
section
variable {w0 w w' w1:World} {g g0:Gd} {bs:List Nat} {r r':Gr} {R:Ending→World→Prop}
def ofL (r:Int) (p:Pn):List Cl:=if wOf r=2 then[⟨r,0,0,0,2,p⟩,sCl p] else[⟨r,0,0,0,wOf r,p⟩]
theorem r_cell_Of {r:Int} {p:Pn} (hL:Laid w) (h1:1≤wOf r) (hp:okPn p=true):Gets Tryz.prog X.cell_Of #[.int .i32 r, .agg p.arr] w Nix (fun v w'=>∃q c,v= .tuple #[.slice q (ofL r p).length c, .int .i64 0]∧OwnC w.heap.size w' q (ofL r p).length c (ofL r p)):=by
 refine v_cell_Of r p fun n1 hn1 w1 hb1 hm1=>c_width_Of.runs (Laid.below hb1 hL) fun w2 hk2 hL2=>⟨_,rfl,hk2.nix,fun e=>by omega,fun _ w3 hb3 hm3=>c_pen_Valid.runs (Laid.below hb3 hL2) fun w4 hk4 hL4=>⟨_,rfl,hk4.nix,fun e=>(by rw[hp] at e;cases e),fun _ w5 n2 hlit hn=>?_⟩⟩
 have hk14:Keeps Nix w w4:=(((Keeps.of_below hb1).trans hk2).trans (Keeps.of_below hb3)).trans hk4
 have ho:=Litr.own (n:=1) (s:=16) hlit rfl (by decide)
 have hk5:=hlit.keeps rfl
 refine⟨fun e w7 hb7 hm7=>c_cell_Spacer.runs (Laid.below hb7 (Laid.nix hk5 hL4)) fun w8 hk8 hL8=>⟨_,rfl,hk8.nix,fun n3 hn3=>⟨cvals [⟨r,0,0,0,wOf r,p⟩],?_,by omega,fun w9 p1 n4 hg hoff w' hb _=>?_⟩⟩,fun e w' hb _=>?_⟩
 ·have h58:Keeps Nix w5 w8:=(Keeps.of_below hb7).trans hk8
  have:=hlit.size
  have:=h58.size
  exact(ho.nix h58).room (fun a ha=>by cases ha;simp at hn⊢;exact⟨hn,by omega⟩) fun h=>by omega
 ·have h58:Keeps Nix w5 w8:=(Keeps.of_below hb7).trans hk8
  have hl:ofL r p=[⟨r,0,0,0,wOf r,p⟩,sCl p]:=by unfold ofL;rw[if_pos e,e]
  rw[hl]
  have:=Grown.own (B:=w.heap.size) hg (Nat.le_trans hk14.size (Nat.le_trans hk5.size h58.size)) fun a ha=>by cases ha;exact Nat.le_trans hk14.size hlit.new
  exact⟨p1,n4,rfl,(this.nix (Keeps.of_below hb))⟩
 ·have hl:ofL r p=[⟨r,0,0,0,wOf r,p⟩]:=by unfold ofL;rw[if_neg e]
  rw[hl]
  exact⟨_,_,rfl,(ho.nix (Keeps.of_below hb)).low hk14.size⟩
theorem ofL_head {q:Option Addr} {c:Nat} {ch:Int} {p:Pn} {B:Nat} (h:OwnC B w q (ofL ch p).length c (ofL ch p)):(0:Int)<((ofL ch p).length:Int)∧∃a,q=some a∧At w a 0 (Cl.arr ⟨ch,0,0,0,wOf ch,p⟩).toList:=by
 have hl:0<(ofL ch p).length:=by unfold ofL;split<;>simp
 obtain⟨a,ha,hat⟩:=CRow.get (i:=0) (OwnC.crow h) (by omega) (by omega)
 refine⟨by omega,a,ha,?_⟩
 have e:cAt (ofL ch p) 0=⟨ch,0,0,0,wOf ch,p⟩:=by
  unfold ofL
  split
  ·rename_i h2;simp[cAt,h2]
  ·simp[cAt]
 simpa[e] using hat
theorem GS.get {f:FuncId} {args:Array Value} {Qv:Value→World→Prop} (h:GS w0 g0 bs r w1) (hc:Laid w1→Gets Tryz.prog f args w1 Nix Qv) (hR:∀v w2,Qv v w2→GS w0 g0 bs r w2→Keeps Nix w1 w2→R (.returned v) w2):Runs Tryz.prog f args w1 R:=
 (hc h.1).runs fun v w2 hk hq=>hR v w2 hq (h.nix hk) hk
def wrapsB (r:Gr) (c:Cu) (n:Int) (auto:Bool):Bool:=auto&&(c.pend||(decide (n=2)&&(decide (1<r.cols)&&decide (c.col=r.cols-1))))
theorem r_printer_check {c:Cu} (hL:Laid w) (h:GridAt w g) (hc:CuIn g.gr c):Ret X.printer_check #[g.ptr, .agg c.arr] w (.int .i64 0):=by
 have hd:=h.dims
 obtain⟨c1,c2,c3,c4,c5⟩:=hc
 refine v_printer_check _ c ?_
 intro n1 hn1
 have s0:=GS.start (bs:=[n1]) hL h (by simp;try omega)
 have hY:=hL.size
 have hlo:∀b∈[n1],w.heap.size≤b:=by simp;try omega
 repeat' (first|(with_reducible refine And.intro ?_ ?_)|(intro w9 hb9 hm9;have s9:=GS.belowOf hb9 (by assumption);have m9:=Mine.all hm9)|(intro w9 hb9 hm9;have s9:=GS.extOf hb9 (by assumption) (by simp) (by first|assumption|(simp<;>omega)) hY;have m9:=Mine.all hm9)|(intro n9 hn9;have s9:=GS.moreOf hn9 (by assumption))|(refine gs_Rows (by assumption) (fun w8 s8 hk8=>?_);first|refine⟨_,rfl,hk8.nix,?_⟩|refine⟨_,_,rfl,hk8.nix,?_⟩|refine⟨_,_,_,_,rfl,hk8.nix,?_⟩)|(refine gs_Cols (by assumption) (fun w8 s8 hk8=>?_);first|refine⟨_,rfl,hk8.nix,?_⟩|refine⟨_,_,rfl,hk8.nix,?_⟩|refine⟨_,_,_,_,rfl,hk8.nix,?_⟩)|(refine Fin.of fun _=>?_)|(with_reducible intro _))
 all_goals first|(unfold I64;omega)|omega|(exfalso;first|omega|contradiction)|rfl|(exfalso;(simp_all;done))|(first|rfl|(simp[bv_lt,bv_le,bv_eq,bv_ok,bv_no, *];done)|grind [bv_lt,bv_le,bv_eq,bv_ok,bv_no])
theorem gs_printer_check {c:Cu} (h:GS w0 g0 bs r w1) (hc:CuIn r c) (hR:∀w2,GS w0 g0 bs r w2→Keeps Nix w1 w2→R (.returned (.int .i64 0)) w2):Runs Tryz.prog X.printer_check #[g0.ptr, .agg c.arr] w1 R:=
 h.ret (fun g hgX hpX hrX hLX=>by subst hrX;rw[←hpX];exact r_printer_check hLX hgX hc) hR
theorem r_printer_wraps {c:Cu} {n:Int} {auto:Bool} (hL:Laid w) (h:GridAt w g):Ret X.printer_wraps #[g.ptr, .agg c.arr, .int .i64 n, .bool auto] w (.bool (wrapsB g.gr c n auto)):=by
 have hd:=h.dims
 refine v_printer_wraps _ c n auto ?_
 intro n1 hn1
 have s0:=GS.start (bs:=[n1]) hL h (by simp;try omega)
 have hY:=hL.size
 have hlo:∀b∈[n1],w.heap.size≤b:=by simp;try omega
 repeat' (first|(with_reducible refine And.intro ?_ ?_)|(intro w9 hb9 hm9;have s9:=GS.belowOf hb9 (by assumption);have m9:=Mine.all hm9)|(intro w9 hb9 hm9;have s9:=GS.extOf hb9 (by assumption) (by simp) (by first|assumption|(simp<;>omega)) hY;have m9:=Mine.all hm9)|(intro n9 hn9;have s9:=GS.moreOf hn9 (by assumption))|(refine gs_Cols (by assumption) (fun w8 s8 hk8=>?_);first|refine⟨_,rfl,hk8.nix,?_⟩|refine⟨_,_,rfl,hk8.nix,?_⟩|refine⟨_,_,_,_,rfl,hk8.nix,?_⟩)|(refine Fin.of fun _=>?_)|(with_reducible intro _))
 all_goals first|(unfold I64;omega)|omega|(exfalso;first|omega|contradiction)|(refine congrArg Value.bool ?_;first|(simp[wrapsB,bv_eq, *];done)|(simp[wrapsB,bv_eq, *];omega)|(unfold wrapsB;rw[show decide (1<g.gr.cols)=true from decide_eq_true (by omega)];simp[bv_eq, *]))|rfl|(exfalso;(simp_all;done))|(first|rfl|(simp[bv_lt,bv_le,bv_eq,bv_ok,bv_no, *,wrapsB];done)|grind [bv_lt,bv_le,bv_eq,bv_ok,bv_no,wrapsB])
theorem gs_printer_wraps {c:Cu} {n:Int} {auto:Bool} (h:GS w0 g0 bs r w1) (hR:∀w2,GS w0 g0 bs r w2→Keeps Nix w1 w2→R (.returned (.bool (wrapsB r c n auto))) w2):Runs Tryz.prog X.printer_wraps #[g0.ptr, .agg c.arr, .int .i64 n, .bool auto] w1 R:=
 h.ret (fun g hgX hpX hrX hLX=>by subst hrX;rw[←hpX];exact r_printer_wraps hLX hgX) hR
theorem r_printer_Wraps {c:Cu} {ch:Int} {auto:Bool} (hL:Laid w) (h:GridAt w g) (hc:CuIn g.gr c) (h1:1≤wOf ch):Ret X.printer_Wraps #[g.ptr, .agg c.arr, .int .i32 ch, .bool auto] w (.tuple #[.bool (wrapsB g.gr c (wOf ch) auto), .int .i64 0]):=by
 have hd:=h.dims
 refine v_printer_Wraps _ c ch auto ?_
 intro n1 hn1
 have s0:=GS.start (bs:=[n1]) hL h (by simp;try omega)
 have hY:=hL.size
 have hlo:∀b∈[n1],w.heap.size≤b:=by simp;try omega
 repeat' (first|(with_reducible refine And.intro ?_ ?_)|(intro w9 hb9 hm9;have s9:=GS.belowOf hb9 (by assumption);have m9:=Mine.all hm9)|(intro w9 hb9 hm9;have s9:=GS.extOf hb9 (by assumption) (by simp) (by first|assumption|(simp<;>omega)) hY;have m9:=Mine.all hm9)|(intro n9 hn9;have s9:=GS.moreOf hn9 (by assumption))|(refine(fun a b=>gs_printer_check a hc b) (by assumption) (fun w8 s8 hk8=>?_);first|refine⟨_,rfl,hk8.nix,?_⟩|refine⟨_,_,rfl,hk8.nix,?_⟩|refine⟨_,_,_,_,rfl,hk8.nix,?_⟩)|(refine GS.pure c_width_Of (by assumption) (fun w8 s8 hk8=>?_);first|refine⟨_,rfl,hk8.nix,?_⟩|refine⟨_,_,rfl,hk8.nix,?_⟩|refine⟨_,_,_,_,rfl,hk8.nix,?_⟩)|(refine gs_printer_wraps (by assumption) (fun w8 s8 hk8=>?_);first|refine⟨_,rfl,hk8.nix,?_⟩|refine⟨_,_,rfl,hk8.nix,?_⟩|refine⟨_,_,_,_,rfl,hk8.nix,?_⟩)|(refine Fin.of fun _=>?_)|(with_reducible intro _))
 all_goals first|(unfold I64;omega)|omega|(exfalso;first|omega|contradiction)|rfl|(exfalso;(simp_all;done))|(first|rfl|(simp[bv_lt,bv_le,bv_eq,bv_ok,bv_no, *];done)|grind [bv_lt,bv_le,bv_eq,bv_ok,bv_no])
end
end Go.Proofs.YtjhhiindeignaaaGreatDoor
namespace Go.Proofs.YtjhhiindeignaaaGreatDoor
open Go Go.RowKit Go.Sy Go.Rep
set_option maxRecDepth 100000
theorem v_printer_Print {w0:World} {F:Nat→Prop} {Q:Value→World→Prop} (g:Addr) (c:Cu) (r:Int) (p:Pn) (auto:Bool) (insert:Bool) (h:∀n1:Nat,(w0.heap.size≤n1)→∀n2:Nat,(w0.heap.size≤n2)→∀n3:Nat,(w0.heap.size≤n3)→∀w1:World,(Below w0.heap.size w0 w1)→(Mine w1 w0.heap.size [(n1,T.Cursor),(n2,T.Pen),(n3,T.Cursor)])→Runs Tryz.prog X.printer_check #[(.pointer (some g)),(.agg c.arr)] w1 (fun e1 w2=>∃i1:Int,(e1=(.returned (.int .i64 i1)))∧((Kept w0.heap.size F [n1,n2,n3] w1 w2)∧(((i1≠0)→FinE w0 F w2 [n3] Q (.tuple #[(.agg #[(.int .i64 0),(.int .i64 0),(.bool false)]),(.int .i64 i1)]))∧((i1=0)→∀w3:World,(Below w2.heap.size w2 w3)→(Mine w3 w0.heap.size [(n1,T.Cursor),(n2,T.Pen),(n3,T.Cursor)])→Runs Tryz.prog X.width_Of #[(.int .i32 r)] w3 (fun e2 w4=>∃i2:Int,(e2=(.returned (.int .i64 i2)))∧((Kept w0.heap.size F [n1,n2,n3] w3 w4)∧(((i2<1)→FinE w0 F w4 [n3] Q (.tuple #[(.agg #[(.int .i64 0),(.int .i64 0),(.bool false)]),(.int .i64 2)]))∧(((1:Int)≤i2)→∀w5:World,(Below w4.heap.size w4 w5)→(Mine w5 w0.heap.size [(n1,T.Cursor),(n2,T.Pen),(n3,T.Cursor)])→Runs Tryz.prog X.cell_Blank #[(.agg p.arr)] w5 (fun e3 w6=>∃cl1:Cl,(e3=(.returned (.agg cl1.arr)))∧((Kept w0.heap.size F [n1,n2,n3] w5 w6)∧∀w7:World,(Below w6.heap.size w6 w7)→(Mine w7 w0.heap.size [(n1,T.Cursor),(n2,T.Pen),(n3,T.Cursor)])→Runs Tryz.prog X.cell_Valid #[(.agg cl1.arr)] w7 (fun e4 w8=>∃b1:Bool,(e4=(.returned (.bool b1)))∧((Kept w0.heap.size F [n1,n2,n3] w7 w8)∧(((b1=false)→FinE w0 F w8 [n3] Q (.tuple #[(.agg #[(.int .i64 0),(.int .i64 0),(.bool false)]),(.int .i64 2)]))∧((b1=true)→∀w9:World,(Below w8.heap.size w8 w9)→(Mine w9 w0.heap.size [(n1,T.Cursor),(n2,T.Pen),(n3,T.Cursor)])→Runs Tryz.prog X.printer_wraps #[(.pointer (some g)),(.agg c.arr),(.int .i64 i2),(.bool auto)] w9 (fun e5 w10=>∃b2:Bool,(e5=(.returned (.bool b2)))∧((Kept w0.heap.size F [n1,n2,n3] w9 w10)∧(((b2=true)→FinE w0 F w10 [n3] Q (.tuple #[(.agg #[(.int .i64 0),(.int .i64 0),(.bool false)]),(.int .i64 8)]))∧((b2=false)→∀w11:World,(Below w10.heap.size w10 w11)→(Mine w11 w0.heap.size [(n1,T.Cursor),(n2,T.Pen),(n3,T.Cursor)])→Runs Tryz.prog X.cell_Of #[(.int .i32 r),(.agg p.arr)] w11 (fun e6 w12=>∃p1:Option Addr,∃n4 n5:Nat,∃i3:Int,(e6=(.returned (.tuple #[(.slice p1 n4 n5),(.int .i64 i3)])))∧((Kept w0.heap.size F [n1,n2,n3] w11 w12)∧(((i3≠0)→FinE w0 F w12 [n3] Q (.tuple #[(.agg #[(.int .i64 0),(.int .i64 0),(.bool false)]),(.int .i64 i3)]))∧((i3=0)→∃a1:Addr,(p1=(some a1))∧((((0:Int)≤0)∧((0:Int)<(n4:Int)))∧∃cl2:Cl,(At w12 a1 0 cl2.arr.toList)∧∀n6:Nat,(w12.heap.size≤n6)→∃I1:Int→Int→Int→Int→Int→Int→Int→Int→Int→Int→Int→Int→Int→Int→Int→Int→World→Prop,(∀w31:World,(Below w12.heap.size w12 w31)→(Mine w31 w0.heap.size [(n1,T.Cursor),(n2,T.Pen),(n3,T.Cursor),(n6,T.Cell)])→Runs Tryz.prog X.grid_Cols #[(.pointer (some g))] w31 (fun e12 w32=>∃i25:Int,(e12=(.returned (.int .i64 i25)))∧((Kept w0.heap.size F [n1,n2,n3,n6] w31 w32)∧(((i25<cl2.w)→∀w34:World,(Below w32.heap.size w32 w34)→(Mine w34 w0.heap.size [(n1,T.Cursor),(n2,T.Pen),(n3,T.Cursor),(n6,T.Cell)])→Runs Tryz.prog X.cell_Blank #[(.agg p.arr)] w34 (fun e13 w35=>∃cl3:Cl,(e13=(.returned (.agg cl3.arr)))∧((Kept w0.heap.size F [n1,n2,n3,n6] w34 w35)∧∀w36:World,(Ext w35 [n6] w36)→I1 cl3.r cl3.m0 cl3.m1 cl3.m2 cl3.w cl3.p.f.k cl3.p.f.i cl3.p.f.r cl3.p.f.g cl3.p.f.b cl3.p.b.k cl3.p.b.i cl3.p.b.r cl3.p.b.g cl3.p.b.b cl3.p.fl w36)))∧((cl2.w≤i25)→∀w33:World,(Below w32.heap.size w32 w33)→I1 cl2.r cl2.m0 cl2.m1 cl2.m2 cl2.w cl2.p.f.k cl2.p.f.i cl2.p.f.r cl2.p.f.g cl2.p.f.b cl2.p.b.k cl2.p.b.i cl2.p.b.r cl2.p.b.g cl2.p.b.b cl2.p.fl w33)))))∧∀i4 i5 i6 i7 i8 i9 i10 i11 i12 i13 i14 i15 i16 i17 i18 i19:Int,∀w13:World,(Keeps F w0 w13)→(I1 i4 i5 i6 i7 i8 i9 i10 i11 i12 i13 i14 i15 i16 i17 i18 i19 w13)→∀w14:World,(Below w13.heap.size w13 w14)→(Mine w14 w0.heap.size [(n1,T.Cursor),(n2,T.Pen),(n3,T.Cursor),(n6,T.Cell)])→Runs Tryz.prog X.grid_Cols #[(.pointer (some g))] w14 (fun e7 w15=>∃i20:Int,(e7=(.returned (.int .i64 i20)))∧((Kept w0.heap.size F [n1,n2,n3,n6] w14 w15)∧((I64 (i20-i8))∧∃I2:World→Prop,(((insert=true)→∀w27:World,(Below w15.heap.size w15 w27)→(Mine w27 w0.heap.size [(n1,T.Cursor),(n2,T.Pen),(n3,T.Cursor),(n6,T.Cell)])→Runs Tryz.prog X.grid_Shift #[(.pointer (some g)),(.int .i64 c.row),(.int .i64 (min c.col (i20-i8))),(.int .i64 i8),(.agg p.arr)] w27 (fun e11 w28=>∃i24:Int,(e11=(.returned (.int .i64 i24)))∧((Kept w0.heap.size F [n1,n2,n3,n6] w27 w28)∧(((i24≠0)→FinE w0 F w28 [n3] Q (.tuple #[(.agg #[(.int .i64 0),(.int .i64 0),(.bool false)]),(.int .i64 i24)]))∧((i24=0)→∀w29:World,(Below w28.heap.size w28 w29)→I2 w29)))))∧((insert=false)→∀w26:World,(Below w15.heap.size w15 w26)→I2 w26))∧∀w16:World,(Keeps F w0 w16)→(I2 w16)→∀w17:World,(Below w16.heap.size w16 w17)→(Mine w17 w0.heap.size [(n1,T.Cursor),(n2,T.Pen),(n3,T.Cursor),(n6,T.Cell)])→Runs Tryz.prog X.grid_Put #[(.pointer (some g)),(.int .i64 c.row),(.int .i64 (min c.col (i20-i8))),(.agg #[(.int .i32 i4),(.int .i32 i5),(.int .i32 i6),(.int .i32 i7),(.int .i64 i8),(.int .i64 i9),(.int .u8 i10),(.int .u8 i11),(.int .u8 i12),(.int .u8 i13),(.int .i64 i14),(.int .u8 i15),(.int .u8 i16),(.int .u8 i17),(.int .u8 i18),(.int .u8 i19)])] w17 (fun e8 w18=>∃i21:Int,(e8=(.returned (.int .i64 i21)))∧((Kept w0.heap.size F [n1,n2,n3,n6] w17 w18)∧(((i21≠0)→FinE w0 F w18 [n3] Q (.tuple #[(.agg #[(.int .i64 0),(.int .i64 0),(.bool false)]),(.int .i64 i21)]))∧((i21=0)→(I64 ((min c.col (i20-i8))+i8))∧∀w19:World,(Below w18.heap.size w18 w19)→(Mine w19 w0.heap.size [(n1,T.Cursor),(n2,T.Pen),(n3,T.Cursor),(n6,T.Cell)])→Runs Tryz.prog X.grid_Cols #[(.pointer (some g))] w19 (fun e9 w20=>∃i22:Int,(e9=(.returned (.int .i64 i22)))∧((Kept w0.heap.size F [n1,n2,n3,n6] w19 w20)∧(((((min c.col (i20-i8))+i8)<i22)→FinE w0 F w20 [n3] Q (.tuple #[(.agg #[(.int .i64 c.row),(.int .i64 ((min c.col (i20-i8))+i8)),(.bool false)]),(.int .i64 0)]))∧((i22≤((min c.col (i20-i8))+i8))→∀w21:World,(Below w20.heap.size w20 w21)→(Mine w21 w0.heap.size [(n1,T.Cursor),(n2,T.Pen),(n3,T.Cursor),(n6,T.Cell)])→Runs Tryz.prog X.grid_Cols #[(.pointer (some g))] w21 (fun e10 w22=>∃i23:Int,(e10=(.returned (.int .i64 i23)))∧((Kept w0.heap.size F [n1,n2,n3,n6] w21 w22)∧((I64 (i23-1))∧FinE w0 F w22 [n3] Q (.tuple #[(.agg #[(.int .i64 c.row),(.int .i64 (i23-1)),(.bool auto)]),(.int .i64 0)]))))))))))))))))))))))))))))))))))))))):Gets Tryz.prog X.printer_Print #[(.pointer (some g)),(.agg c.arr),(.int .i32 r),(.agg p.arr),(.bool auto),(.bool insert)] w0 F Q:=
 func_run mixed [] [⟨15,[],[3]⟩,⟨20,[],[]⟩] X.printer_Print [SV.adr g 0,SV.agg (Cu.cod.enc c),SV.int IntKind.i32 r,SV.agg (Pn.cod.enc p),SV.bool (BE.ok auto),
 SV.bool (BE.ok insert)] ⟨by trivial,okA _ _,by trivial,okA _ _,by trivial,by trivial,trivial⟩ (by kernel_rfl) (by kernel_rfl) h
theorem v_printer_Mark {w0:World} {F:Nat→Prop} {Q:Value→World→Prop} (g:Addr) (c:Cu) (r:Int) (h:∀n1:Nat,(w0.heap.size≤n1)→∀w1:World,(Below w0.heap.size w0 w1)→(Mine w1 w0.heap.size [(n1,T.Cursor)])→Runs Tryz.prog X.printer_check #[(.pointer (some g)),(.agg c.arr)] w1 (fun e1 w2=>∃i1:Int,(e1=(.returned (.int .i64 i1)))∧((Kept w0.heap.size F [n1] w1 w2)∧(((i1≠0)→Fin w0 F w2 Q (.tuple #[(.bool false),(.int .i64 i1)]))∧((i1=0)→∀w3:World,(Below w2.heap.size w2 w3)→(Mine w3 w0.heap.size [(n1,T.Cursor)])→Runs Tryz.prog X.width_Of #[(.int .i32 r)] w3 (fun e2 w4=>∃i2:Int,(e2=(.returned (.int .i64 i2)))∧((Kept w0.heap.size F [n1] w3 w4)∧(((i2≠0)→Fin w0 F w4 Q (.tuple #[(.bool false),(.int .i64 2)]))∧((i2=0)→∃I1:Int→World→Prop,(((c.pend=false)→(I64 (c.col-1))∧∀w26:World,(Below w4.heap.size w4 w26)→I1 (c.col-1) w26)∧((c.pend=true)→∀w25:World,(Below w4.heap.size w4 w25)→I1 c.col w25))∧∀i3:Int,∀w5:World,(Keeps F w0 w5)→(I1 i3 w5)→((i3<0)→Fin w0 F w5 Q (.tuple #[(.bool false),(.int .i64 0)]))∧(((0:Int)≤i3)→∀w6:World,(Below w5.heap.size w5 w6)→(Mine w6 w0.heap.size [(n1,T.Cursor)])→Runs Tryz.prog X.grid_Cell #[(.pointer (some g)),(.int .i64 c.row),(.int .i64 i3)] w6 (fun e3 w7=>∃cl1:Cl,∃i4:Int,(e3=(.returned (.tuple #[(.agg cl1.arr),(.int .i64 i4)])))∧((Kept w0.heap.size F [n1] w6 w7)∧∀n2:Nat,(w7.heap.size≤n2)→∃I2:Int→Int→Int→Int→Int→Int→Int→Int→Int→Int→Int→Int→Int→Int→Int→Int→Int→Int→World→Prop,(((i4=0)→((cl1.w=0)→(I64 (i3-1))∧∀w21:World,(Below w7.heap.size w7 w21)→(Mine w21 w0.heap.size [(n1,T.Cursor),(n2,T.Cell)])→Runs Tryz.prog X.grid_Cell #[(.pointer (some g)),(.int .i64 c.row),(.int .i64 (i3-1))] w21 (fun e7 w22=>∃cl3:Cl,∃i25:Int,(e7=(.returned (.tuple #[(.agg cl3.arr),(.int .i64 i25)])))∧((Kept w0.heap.size F [n1,n2] w21 w22)∧∀w23:World,(Ext w22 [n2] w23)→I2 (i3-1) i25 cl3.r cl3.m0 cl3.m1 cl3.m2 cl3.w cl3.p.f.k cl3.p.f.i cl3.p.f.r cl3.p.f.g cl3.p.f.b cl3.p.b.k cl3.p.b.i cl3.p.b.r cl3.p.b.g cl3.p.b.b cl3.p.fl w23)))∧((cl1.w≠0)→∀w20:World,(Below w7.heap.size w7 w20)→I2 i3 i4 cl1.r cl1.m0 cl1.m1 cl1.m2 cl1.w cl1.p.f.k cl1.p.f.i cl1.p.f.r cl1.p.f.g cl1.p.f.b cl1.p.b.k cl1.p.b.i cl1.p.b.r cl1.p.b.g cl1.p.b.b cl1.p.fl w20))∧((i4≠0)→∀w19:World,(Below w7.heap.size w7 w19)→I2 i3 i4 cl1.r cl1.m0 cl1.m1 cl1.m2 cl1.w cl1.p.f.k cl1.p.f.i cl1.p.f.r cl1.p.f.g cl1.p.f.b cl1.p.b.k cl1.p.b.i cl1.p.b.r cl1.p.b.g cl1.p.b.b cl1.p.fl w19))∧∀i5 i6 i7 i8 i9 i10 i11 i12 i13 i14 i15 i16 i17 i18 i19 i20 i21 i22:Int,∀w8:World,(Keeps F w0 w8)→(I2 i5 i6 i7 i8 i9 i10 i11 i12 i13 i14 i15 i16 i17 i18 i19 i20 i21 i22 w8)→((i6≠0)→Fin w0 F w8 Q (.tuple #[(.bool false),(.int .i64 i6)]))∧((i6=0)→∀w9:World,(Below w8.heap.size w8 w9)→(Mine w9 w0.heap.size [(n1,T.Cursor),(n2,T.Cell)])→Runs Tryz.prog X.cell_Written #[(.agg #[(.int .i32 i7),(.int .i32 i8),(.int .i32 i9),(.int .i32 i10),(.int .i64 i11),(.int .i64 i12),(.int .u8 i13),(.int .u8 i14),(.int .u8 i15),(.int .u8 i16),(.int .i64 i17),(.int .u8 i18),(.int .u8 i19),(.int .u8 i20),(.int .u8 i21),(.int .u8 i22)])] w9 (fun e4 w10=>∃b1:Bool,(e4=(.returned (.bool b1)))∧((Kept w0.heap.size F [n1,n2] w9 w10)∧(((b1=false)→Fin w0 F w10 Q (.tuple #[(.bool false),(.int .i64 0)]))∧((b1=true)→∀w11:World,(Below w10.heap.size w10 w11)→(Mine w11 w0.heap.size [(n1,T.Cursor),(n2,T.Cell)])→Runs Tryz.prog X.cell_Mark #[(.agg #[(.int .i32 i7),(.int .i32 i8),(.int .i32 i9),(.int .i32 i10),(.int .i64 i11),(.int .i64 i12),(.int .u8 i13),(.int .u8 i14),(.int .u8 i15),(.int .u8 i16),(.int .i64 i17),(.int .u8 i18),(.int .u8 i19),(.int .u8 i20),(.int .u8 i21),(.int .u8 i22)]),(.int .i32 r)] w11 (fun e5 w12=>∃cl2:Cl,∃i23:Int,(e5=(.returned (.tuple #[(.agg cl2.arr),(.int .i64 i23)])))∧((Kept w0.heap.size F [n1,n2] w11 w12)∧∀n3:Nat,(w12.heap.size≤n3)→((i23≠0)→Fin w0 F w12 Q (.tuple #[(.bool false),(.int .i64 0)]))∧((i23=0)→∀w13:World,(Below w12.heap.size w12 w13)→(Mine w13 w0.heap.size [(n1,T.Cursor),(n2,T.Cell),(n3,T.Cell)])→Runs Tryz.prog X.grid_Put #[(.pointer (some g)),(.int .i64 c.row),(.int .i64 i5),(.agg cl2.arr)] w13 (fun e6 w14=>∃i24:Int,(e6=(.returned (.int .i64 i24)))∧((Kept w0.heap.size F [n1,n2,n3] w13 w14)∧Fin w0 F w14 Q (.tuple #[(.bool true),(.int .i64 i24)]))))))))))))))))))))))):Gets Tryz.prog X.printer_Mark #[(.pointer (some g)),(.agg c.arr),(.int .i32 r)] w0 F Q:=
 func_run mixed [] [⟨9,[9],[]⟩,⟨15,[9,11],[1]⟩] X.printer_Mark [SV.adr g 0,SV.agg (Cu.cod.enc c),SV.int IntKind.i32 r] ⟨by trivial,okA _ _,by trivial,trivial⟩ (by kernel_rfl) (by kernel_rfl) h
end Go.Proofs.YtjhhiindeignaaaGreatDoor
namespace Go.Proofs.YtjhhiindeignaaaGreatDoor
open Go Go.RowKit Go.Sy Go.Rep
set_option maxRecDepth 100000
set_option maxHeartbeats 2000000
section
variable {w0 w w' w1:World} {g g0:Gd} {bs:List Nat} {r r':Gr} {R:Ending→World→Prop}
theorem wOf_nz {x:Int} (h:1≤wOf x):x≠0:=by rintro rfl;revert h;decide
theorem wOf_two {x:Int}:wOf x≤2:=by
 unfold wOf
 repeat' split
 all_goals decide
theorem valid_new {ch:Int} {p:Pn} (h:1≤wOf ch) (hp:okPn p=true):validCl ⟨ch,0,0,0,wOf ch,p⟩=true:=by
 have h0:=wOf_nz h
 have hw:decide (0<wOf ch)=true:=decide_eq_true (by omega)
 simp[validCl,hp,h0,okMs,okM,hw]
theorem validB_ok {p:Pn}:validCl (bCl p)=okPn p:=by simp[validCl,bCl]
def prX (r:Gr) (ch:Int) (p:Pn):Cl:=if(r.cols:Int)<wOf ch then bCl p else⟨ch,0,0,0,wOf ch,p⟩
def prCol (r:Gr) (c:Cu) (ch:Int) (p:Pn):Int:=min c.col (r.cols-(prX r ch p).w)
def printG (r:Gr) (c:Cu) (ch:Int) (p:Pn) (ins:Bool):Gr:=putG (if ins=true then shiftG r c.row (prCol r c ch p) (prX r ch p).w p else r) c.row (prCol r c ch p) (prX r ch p)
def printC (r:Gr) (c:Cu) (ch:Int) (p:Pn) (auto:Bool):Cu:=if prCol r c ch p+(prX r ch p).w<r.cols then⟨c.row,prCol r c ch p+(prX r ch p).w,false⟩ else⟨c.row,r.cols-1,auto⟩
theorem prX_ok {ch:Int} {p:Pn} (h1:1≤wOf ch) (hc:1≤r.cols) (hp:validCl (bCl p)=true):validCl (prX r ch p)=true∧1≤(prX r ch p).w∧(prX r ch p).w≤2∧(prX r ch p).w≤r.cols:=by
 have h2:=wOf_two (x:=ch)
 unfold prX
 split
 ·exact⟨hp,Int.le_refl 1,show(1:Int)≤2 by decide,by show(1:Int)≤r.cols;omega⟩
 ·exact⟨valid_new h1 (by rw[←validB_ok];exact hp),h1,h2,by dsimp;omega⟩
theorem putE_in {row col:Int} {c:Cl} (h1:0≤row) (h2:row<r.ls.length) (h3:0≤col) (h4:col+c.w≤r.cols) (h5:1≤c.w) (hv:validCl c=true):putE r row col c=0:=by
 unfold putE
 rw[atE_in h1 h2 h3 (by omega),if_neg (by simp),if_neg (by rw[hv];simp<;>omega)]
theorem r_printer_Print {c:Cu} {ch:Int} {p:Pn} {auto ins:Bool} (hL:Laid w) (h:GridAt w g) (hc:CuIn g.gr c) (h1:1≤wOf ch) (hp:validCl (bCl p)=true) (hw:wrapsB g.gr c (wOf ch) auto=false):Gets Tryz.prog X.printer_Print #[g.ptr, .agg c.arr, .int .i32 ch, .agg p.arr, .bool auto, .bool ins] w (GdF g) (fun v w'=>v= .tuple #[.agg (printC g.gr c ch p auto).arr, .int .i64 0]∧ModG w g (printG g.gr c ch p ins) w'):=by
 have hd:=h.dims
 have hc':=hc
 obtain⟨c1,c2,c3,c4,c5⟩:=hc'
 have hpo:okPn p=true:=by rw[←validB_ok];exact hp
 obtain⟨x1,x2,x3,x4⟩:=prX_ok (r:=g.gr) (ch:=ch) h1 (by omega) hp
 obtain⟨col,hcol⟩:∃col,col=prCol g.gr c ch p:=⟨_,rfl⟩
 have k1:0≤col∧col+(prX g.gr ch p).w≤g.gr.cols∧col<g.gr.cols:=by subst hcol;unfold prCol;omega
 have eS:shiftE g.gr c.row col (prX g.gr ch p).w p=0:=shiftE_in c1 c2 k1.1 k1.2.2 hp
 have fixc:∀x:Int,x=(prX g.gr ch p).w→min c.col ((g.gr.cols:Int)-x)=col:=fun x e=>by rw[hcol,e];rfl
 have blk:(g.gr.cols:Int)<wOf ch→bCl p=prX g.gr ch p:=fun e=>by rw[prX,if_pos e]
 have nblk:wOf ch≤(g.gr.cols:Int)→(⟨ch,0,0,0,wOf ch,p⟩:Cl)=prX g.gr ch p:=fun e=>by rw[prX,if_neg (by omega)]
 have hY:=hL.size
 obtain⟨r2,hr2⟩:∃r2,r2=(if ins=true then shiftG g.gr c.row col (prX g.gr ch p).w p else g.gr):=⟨_,rfl⟩
 have hr2c:r2.cols=g.gr.cols:=by rw[hr2];split<;>simp[shiftG_cols]
 have hr2l:r2.ls.length=g.gr.ls.length:=by rw[hr2];split<;>simp[shiftG_len]
 have eP:=putE_in (r:=r2) (row:=c.row) (col:=col) c1 (by rw[hr2l];exact c2) k1.1 (by rw[hr2c];exact k1.2.1) x2 x1
 have hG:printG g.gr c ch p ins=putG r2 c.row col (prX g.gr ch p):=by rw[hr2,hcol];rfl
 refine v_printer_Print _ c ch p auto ins fun n1 hn1 n2 hn2 n3 hn3 w1 hb1 hm1=>?_
 have s1:=(GS.start (bs:=[n1,n2,n3]) hL h (by simp<;>omega)).below hb1
 refine gs_printer_check s1 hc fun w2 s2 hk2=>⟨_,rfl,hk2.nix,fun e=>absurd rfl e,fun _ w3 hb3 hm3=>?_⟩
 refine GS.pure c_width_Of (s2.below hb3) fun w4 s4 hk4=>⟨_,rfl,hk4.nix,fun e=>(by omega),fun _ w5 hb5 hm5=>?_⟩
 refine GS.pure c_cell_Blank (s4.below hb5) fun w6 s6 hk6=>⟨_,rfl,hk6.nix,fun w7 hb7 hm7=>?_⟩
 refine GS.pure c_cell_Valid (s6.below hb7) fun w8 s8 hk8=>⟨_,rfl,hk8.nix,fun e=>(by rw[hp] at e;cases e),fun _ w9 hb9 hm9=>?_⟩
 refine gs_printer_wraps (s8.below hb9) fun w10 s10 hk10=>⟨_,rfl,hk10.nix,fun e=>(by rw[hw] at e;cases e),fun _ w11 hb11 hm11=>?_⟩
 refine GS.get (s10.below hb11) (fun hL'=>r_cell_Of hL' h1 hpo) fun v w12 hq s12 hk12=>?_
 obtain⟨q,k,rfl,ho⟩:=hq
 obtain⟨z1,a,ha,hat⟩:=ofL_head ho
 refine⟨_,_,_,_,rfl,hk12.nix,fun e=>absurd rfl e,fun _=>⟨a,ha,⟨by omega,z1⟩,⟨ch,0,0,0,wOf ch,p⟩,hat,fun n6 hn6=>?_⟩⟩
 have s12':GS w g [n1,n2,n3,n6] g.gr w12:=s12.more hn6
 have hlo4:∀b∈[n1,n2,n3,n6],w.heap.size≤b:=by have:=s12.2.1.size;simp<;>omega
 refine⟨fun a0 a1 a2 a3 a4 k1 k2 k3 k4 k5 k6 k7 k8 k9 k10 k11 w'=>(⟨a0,a1,a2,a3,a4,⟨⟨k1,k2,k3,k4,k5⟩,⟨k6,k7,k8,k9,k10⟩,k11⟩⟩:Cl)=prX g.gr ch p∧GS w g [n1,n2,n3,n6] g.gr w',fun w31 hb31 hm31=>?_,?_⟩
 ·refine gs_Cols (s12'.below hb31) fun w32 s32 hk32=>⟨_,rfl,hk32.nix,fun e w34 hb34 hm34=>?_,fun e w33 hb33=>⟨nblk e,s32.below hb33⟩⟩
  exact GS.pure c_cell_Blank (s32.below hb34) fun w35 s35 hk35=>⟨_,rfl,hk35.nix,fun w36 he36=>⟨blk e,GS.extOf he36 s35 (by simp) hlo4 hY⟩⟩
 ·rintro a0 a1 a2 a3 a4 k1 k2 k3 k4 k5 k6 k7 k8 k9 k10 k11 w13 hk13 ⟨hx,s13⟩ w14 hb14 hm14
  have ha4:a4=(prX g.gr ch p).w:=by rw[←hx]
  refine gs_Cols (s13.below hb14) fun w15 s15 hk15=>⟨_,rfl,hk15.nix,by unfold I64;omega,?_⟩
  rw[fixc a4 ha4]
  refine⟨fun w'=>GS w g [n1,n2,n3,n6] r2 w',⟨fun e w27 hb27 hm27=>?_,fun e w26 hb26=>(by rw[hr2,e];exact s15.below hb26)⟩,?_⟩
  ·refine gs_Shift (s15.below hb27) (Mine.all hm27) (by omega) fun w28 s28 hk28=>⟨_,rfl,hk28,fun e2=>absurd (by rw[ha4];exact eS) e2,fun _ w29 hb29=>?_⟩
   rw[hr2,if_pos e,←ha4]
   exact s28.below hb29
  ·intro w16 hk16 s16 w17 hb17 hm17
   refine gs_Put (c:=⟨a0,a1,a2,a3,a4,⟨⟨k1,k2,k3,k4,k5⟩,⟨k6,k7,k8,k9,k10⟩,k11⟩⟩) (s16.below hb17) (Mine.all hm17) fun w18 s18 hk18=>⟨_,rfl,hk18,fun e=>absurd (by rw[hx];exact eP) e,fun _=>⟨by unfold I64;omega,fun w19 hb19 hm19=>?_⟩⟩
   rw[hx] at s18
   have hcc:(putG r2 c.row col (prX g.gr ch p)).cols=g.gr.cols:=by rw[putG_cols,hr2c]
   have fin:∀{v:World} {cu:Cu},GS w g [n1,n2,n3,n6] (putG r2 c.row col (prX g.gr ch p)) v→cu=printC g.gr c ch p auto→FinE w (GdF g) v [n3] (fun v w'=>v= .tuple #[.agg (printC g.gr c ch p auto).arr, .int .i64 0]∧ModG w g (printG g.gr c ch p ins) w') (.tuple #[.agg cu.arr, .int .i64 0]):=fun s e w' he _=>⟨by rw[e],by rw[hG];exact(GS.extOf he s (by simp) hlo4 hY).fin (Below.refl _ _)⟩
   refine gs_Cols (s18.below hb19) fun w20 s20 hk20=>⟨_,rfl,hk20.nix,fun e=>?_,fun e w21 hb21 hm21=>?_⟩
   ·rw[hcc] at e
    refine fin (cu:=⟨c.row,col+a4,false⟩) s20 ?_
    rw[printC,←hcol,←ha4,if_pos e]
   ·rw[hcc] at e
    refine gs_Cols (s20.below hb21) fun w22 s22 hk22=>⟨_,rfl,hk22.nix,by unfold I64;rw[hcc];omega,?_⟩
    rw[hcc]
    refine fin (cu:=⟨c.row,(g.gr.cols:Int)-1,auto⟩) s22 ?_
    rw[printC,←hcol,←ha4,if_neg (by omega)]
end
end Go.Proofs.YtjhhiindeignaaaGreatDoor
namespace Go.Proofs.YtjhhiindeignaaaGreatDoor
open Go Go.RowKit Go.Sy Go.Rep
set_option maxRecDepth 100000
set_option maxHeartbeats 2000000
section
variable {w0 w w' w1:World} {g g0:Gd} {bs:List Nat} {r r':Gr} {R:Ending→World→Prop}
theorem rowTo_at {l:List Cl}:∀{k:Nat} {i:Nat},rowTo l k=true→i<k→rowAt l i=true
 |0,i,_,h=>by omega
 |k+1,i,h,hi=>by
  rw[rowTo,Bool.and_eq_true] at h
  by_cases e:i=k
  ·subst e;exact h.2
  ·exact rowTo_at h.1 (by omega)
theorem rowB_cell {l:List Cl} (h:rowB l=true) {j:Nat} (hj:j<l.length):validCl (cAt l j)=true∧((cAt l j).w=0↔0<j∧(cAt l (j-1)).w=2)∧((cAt l j).w=2→j+1<l.length):=by
 have:=rowTo_at h hj
 unfold rowAt behind at this
 simp only[Bool.and_eq_true,Int.toNat_natCast,beq_iff_eq] at this
 obtain⟨⟨⟨h1,h2⟩,_⟩,h4⟩:=this
 have e:((j:Int)-1).toNat=j-1:=by omega
 rw[e] at h2
 refine⟨h1,?_,?_⟩
 ·have:decide ((cAt l j).w=0)=true↔(decide ((0:Int)<j)&&decide ((cAt l (j-1)).w=2))=true:=by rw[h2]
  simpa using this
 ·intro h5
  simp[h5] at h4
  omega
theorem valid_w {c:Cl} (h:validCl c=true):0≤c.w∧c.w≤2∧(c.r≠0→1≤c.w∧c.w=wOf c.r):=by
 unfold validCl at h
 rw[Bool.and_eq_true] at h
 obtain⟨_,h⟩:=h
 split at h
 ·rename_i h0
  simp at h
  refine⟨?_,?_,fun e=>absurd h0 e⟩<;>omega
 ·simp at h
  have:=wOf_two (x:=c.r)
  refine⟨?_,?_,fun _=>⟨?_,h.2.2⟩⟩<;>omega
theorem mark_valid {c:Cl} {ch:Int} (h:validCl c=true) (hw:wOf ch=0) (hr:c.r≠0) (hf:fullCl c=false):validCl (markCl c ch)=true∧(markCl c ch).w=c.w:=by
 have hz:ch≠0:=by rintro rfl;revert hw;decide
 have hn:¬(c.m0≠0∧c.m1≠0∧c.m2≠0):=by
  intro ⟨a,b,d⟩
  simp[fullCl,a,b,d] at hf
 unfold validCl at h⊢
 rw[Bool.and_eq_true,if_neg hr] at h
 obtain⟨h1,h2⟩:=h
 simp only[okMs,okM] at h2⊢
 unfold markCl
 by_cases e0:c.m0=0
 ·rw[if_pos e0]
  refine⟨?_,rfl⟩
  simp[h1,hr]
  simp[e0] at h2
  simp[h2,hw]
  obtain⟨⟨q1,q2⟩,q3,q4⟩:=h2
  rw[←q4]
  exact⟨q2.resolve_right fun q=>q.2 q1,q3⟩
 ·rw[if_neg e0]
  by_cases e1:c.m1=0
  ·rw[if_pos e1]
   refine⟨?_,rfl⟩
   simp[h1,hr]
   simp[e0,e1] at h2
   simp[h2,hw,e0]
   have:=h2.2
   omega
  ·rw[if_neg e1]
   by_cases e2:c.m2=0
   ·rw[if_pos e2]
    refine⟨?_,rfl⟩
    simp[h1,hr]
    simp[e0,e1,e2] at h2
    simp[h2,hw,e0,e1]
    have:=h2.2
    omega
   ·exact absurd ⟨e0,e1,e2⟩ hn
def mkCol0 (c:Cu):Int:=if c.pend=true then c.col else c.col-1
def mkCol (cs:List Cl) (c:Cu):Int:=if(cAt cs (mkCol0 c).toNat).w=0 then mkCol0 c-1 else mkCol0 c
def mkDo (cs:List Cl) (c:Cu):Bool:=decide (0≤mkCol0 c)&&(decide ((cAt cs (mkCol cs c).toNat).r≠0)&& !fullCl (cAt cs (mkCol cs c).toNat))
def markG (r:Gr) (c:Cu) (ch:Int):Gr:=if mkDo (liAt r.ls c.row.toNat).cs c=true then putG r c.row (mkCol (liAt r.ls c.row.toNat).cs c) (markCl (cAt (liAt r.ls c.row.toNat).cs (mkCol (liAt r.ls c.row.toNat).cs c).toNat) ch) else r
theorem r_printer_Mark {c:Cu} {ch:Int} (hL:Laid w) (h:GridAt w g) (hc:CuIn g.gr c) (h1:wOf ch=0) (hv:rowB (liAt g.gr.ls c.row.toNat).cs=true) (hl:(liAt g.gr.ls c.row.toNat).cs.length=g.gr.cols):Gets Tryz.prog X.printer_Mark #[g.ptr, .agg c.arr, .int .i32 ch] w (GdF g) (fun v w'=>v= .tuple #[.bool (mkDo (liAt g.gr.ls c.row.toNat).cs c), .int .i64 0]∧ModG w g (markG g.gr c ch) w'):=by
 have hd:=h.dims
 have hc':=hc
 obtain⟨c1,c2,c3,c4,c5⟩:=hc'
 have hY:=hL.size
 obtain⟨cs,hcs⟩:∃cs,cs=(liAt g.gr.ls c.row.toNat).cs:=⟨_,rfl⟩
 rw[←hcs] at hv hl
 have hM:markG g.gr c ch=if mkDo cs c=true then putG g.gr c.row (mkCol cs c) (markCl (cAt cs (mkCol cs c).toNat) ch) else g.gr:=by rw[hcs];rfl
 rw[←hcs,hM]
 have hat:∀col:Int,0≤col→col<g.gr.cols→cellOf g.gr c.row col=cAt cs col.toNat∧atE g.gr c.row col=0:=fun col a b=>by
  have:=atE_in c1 c2 a b
  exact⟨by unfold cellOf;rw[if_pos this,hcs],this⟩
 have hcell:∀col:Int,0≤col→col<g.gr.cols→validCl (cAt cs col.toNat)=true∧((cAt cs col.toNat).w=0↔0<col∧(cAt cs (col-1).toNat).w=2)∧((cAt cs col.toNat).w=2→col+1<g.gr.cols):=fun col a b=>by
  obtain⟨q1,q2,q3⟩:=rowB_cell hv (j:=col.toNat) (by omega)
  rw[show col.toNat-1=(col-1).toNat by omega] at q2
  exact⟨q1,by rw[q2];constructor<;>intro ⟨x,y⟩<;>exact⟨by omega,y⟩,fun e=>by have:=q3 e;omega⟩
 refine v_printer_Mark _ c ch fun n1 hn1 w1 hb1 hm1=>?_
 have s1:=(GS.start (bs:=[n1]) hL h (by simp<;>omega)).below hb1
 have fin:∀{v:World} {bs:List Nat},GS w g bs g.gr v→mkDo cs c=false→Fin w (GdF g) v (fun v w'=>v= .tuple #[.bool (mkDo cs c), .int .i64 0]∧ModG w g (if mkDo cs c=true then putG g.gr c.row (mkCol cs c) (markCl (cAt cs (mkCol cs c).toNat) ch) else g.gr) w') (.tuple #[.bool false, .int .i64 0]):=fun s e w' hb _=>⟨by rw[e],by rw[e];exact s.fin hb⟩
 refine gs_printer_check s1 hc fun w2 s2 hk2=>⟨_,rfl,hk2.nix,fun e=>absurd rfl e,fun _ w3 hb3 hm3=>?_⟩
 refine GS.pure c_width_Of (s2.below hb3) fun w4 s4 hk4=>⟨_,rfl,hk4.nix,fun e=>absurd h1 e,fun _=>⟨fun i w'=>i=mkCol0 c∧GS w g [n1] g.gr w',⟨fun e=>⟨by unfold I64;omega,fun w26 hb=>⟨by rw[mkCol0,if_neg (by rw[e];simp)],s4.below hb⟩⟩,fun e w25 hb=>⟨by rw[mkCol0,if_pos e],s4.below hb⟩⟩,?_⟩⟩
 rintro i w5 hk5 ⟨rfl,s5⟩
 have hlt:mkCol0 c<g.gr.cols:=by unfold mkCol0;split<;>omega
 refine⟨fun e=>fin s5 ?_,fun h0 w6 hb6 hm6=>?_⟩
 ·rw[mkDo,decide_eq_false (by omega),Bool.false_and]
 obtain⟨a1,a2⟩:=hat _ h0 hlt
 obtain⟨b1,b2,b3⟩:=hcell _ h0 hlt
 refine gs_Cell (s5.below hb6) fun w7 s7 hk7=>⟨_,_,rfl,hk7.nix,fun n2 hn2=>?_⟩
 have s7':GS w g [n1,n2] g.gr w7:=s7.more hn2
 have hlo2:∀b∈[n1,n2],w.heap.size≤b:=by have:=s7.2.1.size;simp<;>omega
 have hm0:(cAt cs (mkCol0 c).toNat).w=0→0≤mkCol0 c-1:=fun e=>by have:=(b2.1 e).1;omega
 have hmc:0≤mkCol cs c∧mkCol cs c<g.gr.cols:=by
  unfold mkCol
  split
  ·rename_i e
   have:=hm0 e
   omega
  ·omega
 rw[a1,a2]
 refine⟨fun j e2 a0 a1 a2 a3 a4 k1 k2 k3 k4 k5 k6 k7 k8 k9 k10 k11 w'=>j=mkCol cs c∧e2=0∧(⟨a0,a1,a2,a3,a4,⟨⟨k1,k2,k3,k4,k5⟩,⟨k6,k7,k8,k9,k10⟩,k11⟩⟩:Cl)=cAt cs (mkCol cs c).toNat∧GS w g [n1,n2] g.gr w',⟨fun _=>⟨fun e=>⟨by unfold I64;omega,fun w21 hb21 hm21=>?_⟩,fun e w20 hb20=>?_⟩,fun e=>absurd rfl e⟩,?_⟩
 ·obtain⟨d1,d2⟩:=hat _ (hm0 e) (by omega)
  refine gs_Cell (s7'.below hb21) fun w22 s22 hk22=>⟨_,_,rfl,hk22.nix,fun w23 he23=>?_⟩
  have em:mkCol cs c=mkCol0 c-1:=by rw[mkCol,if_pos e]
  rw[d1,d2,em]
  exact⟨rfl,rfl,rfl,GS.extOf he23 s22 (by simp) hlo2 hY⟩
 ·have em:mkCol cs c=mkCol0 c:=by rw[mkCol,if_neg e]
  rw[em]
  exact⟨rfl,rfl,rfl,s7'.below hb20⟩
 rintro j e2 a0 a1 a2 a3 a4 k1 k2 k3 k4 k5 k6 k7 k8 k9 k10 k11 w8 hk8 ⟨rfl,rfl,hx,s8⟩
 obtain⟨x1,x2,x3⟩:=hcell _ hmc.1 hmc.2
 have hz:(cAt cs (mkCol cs c).toNat).w≠0:=by
  unfold mkCol
  split
  ·rename_i e
   rw[(b2.1 e).2];decide
  ·rename_i e;exact e
 refine⟨fun e=>absurd rfl e,fun _ w9 hb9 hm9=>?_⟩
 refine GS.pure (c_cell_Written (c:=⟨a0,a1,a2,a3,a4,⟨⟨k1,k2,k3,k4,k5⟩,⟨k6,k7,k8,k9,k10⟩,k11⟩⟩)) (s8.below hb9) fun w10 s10 hk10=>⟨_,rfl,hk10.nix,?_⟩
 rw[hx]
 refine⟨fun e=>fin s10 ?_,fun e w11 hb11 hm11=>?_⟩
 ·rw[mkDo,e];simp
 have hr:(cAt cs (mkCol cs c).toNat).r≠0:=by simpa using e
 refine GS.pure (c_cell_Mark (c:=⟨a0,a1,a2,a3,a4,⟨⟨k1,k2,k3,k4,k5⟩,⟨k6,k7,k8,k9,k10⟩,k11⟩⟩) (by rw[hx];exact x1) h1 (by rw[hx];exact hr)) (s10.below hb11) fun w12 s12 hk12=>⟨_,_,rfl,hk12.nix,fun n3 hn3=>?_⟩
 rw[hx]
 have s12':GS w g [n1,n2,n3] g.gr w12:=s12.more hn3
 refine⟨fun e2=>fin s12 ?_,fun e2 w13 hb13 hm13=>?_⟩
 ·have hf:fullCl (cAt cs (mkCol cs c).toNat)=true:=by
   cases hq:fullCl (cAt cs (mkCol cs c).toNat) with
   |true=>rfl
   |false=>rw[hq] at e2;exact absurd rfl e2
  rw[mkDo,hf];simp
 have hf:fullCl (cAt cs (mkCol cs c).toNat)=false:=by
  cases hq:fullCl (cAt cs (mkCol cs c).toNat) with
  |false=>rfl
  |true=>rw[hq] at e2;exact absurd e2 (by decide)
 have hdo:mkDo cs c=true:=by rw[mkDo,e,hf,decide_eq_true h0];rfl
 obtain⟨y1,y2⟩:=mark_valid x1 h1 hr hf
 obtain⟨u1,u2,u3⟩:=valid_w x1
 have hcol:mkCol cs c+(cAt cs (mkCol cs c).toNat).w≤g.gr.cols:=by
  by_cases q:(cAt cs (mkCol cs c).toNat).w=2
  ·have:=x3 q
   omega
  ·omega
 refine gs_Put (s12'.below hb13) (Mine.all hm13) fun w14 s14 hk14=>⟨_,rfl,hk14,fun w' hb _=>⟨?_,?_⟩⟩
 ·rw[putE_in c1 c2 hmc.1 (by rw[y2];exact hcol) (by rw[y2];omega) y1,hdo]
 ·rw[if_pos hdo]
  exact s14.fin hb
end
end Go.Proofs.YtjhhiindeignaaaGreatDoor
namespace Go.Sy
open Go.RowKit (Below)
structure Ob where
 F:Nat→Prop
 P:World→Prop
 lt:∀{w:World} {i:Nat},P w→F i→i<w.heap.size
 low:∀{w:World} {i:Nat},P w→F i→Go.Proofs.YtjhhiindeignaaaGreatDoor.Y.count≤i
 keeps:∀{w w':World} {G:Nat→Prop},P w→Keeps G w w'→(∀i,G i→¬F i)→P w'
theorem Ob.nix (o:Ob) {w w':World} (h:o.P w) (hk:Keeps Nix w w'):o.P w':=o.keeps h hk fun _ e=>e.elim
def Ob.blk (b:Nat) (t:TypeId) (cs:List Value):Ob:=
 ⟨fun i=>i=b,fun w=>Whole w b t cs∧Go.Proofs.YtjhhiindeignaaaGreatDoor.Y.count≤b,fun h e=>by rw[e];exact h.1.lt,fun h e=>by rw[e];exact h.2,fun h hk hF=>⟨h.1.keeps hk fun e=>hF _ e rfl,h.2⟩⟩
def Ob.none:Ob:=⟨fun _=>False,fun _=>True,fun _ e=>e.elim,fun _ e=>e.elim,fun _ _ _=>trivial⟩
def Ob.sep (os:List Ob):Ob:=
 ⟨fun i=>∃o∈os,o.F i,fun w=>(∀o∈os,o.P w)∧os.Pairwise fun a b=>∀i,a.F i→¬b.F i,fun h ⟨o,ho,e⟩=>o.lt (h.1 o ho) e,fun h ⟨o,ho,e⟩=>o.low (h.1 o ho) e,
  fun h hk hF=>⟨fun o ho=>o.keeps (h.1 o ho) hk fun i hi e=>hF i hi ⟨o,ho,e⟩,h.2⟩⟩
theorem Ob.sep_put {l1 l2:List Ob} {o o':Ob} {w w':World} (h:(Ob.sep (l1++o::l2)).P w) (hk:Keeps o.F w w') (ho:o'.P w') (hF:∀i,o'.F i→o.F i∨w.heap.size≤i):
  (Ob.sep (l1++o'::l2)).P w'∧∀i,(Ob.sep (l1++o'::l2)).F i→(Ob.sep (l1++o::l2)).F i∨w.heap.size≤i:=by
 obtain⟨h1,h2⟩:=h
 have hp:=List.pairwise_append.1 h2
 have hq:=List.pairwise_cons.1 hp.2.1
 have hl1:∀x∈l1,x.P w∧∀i,o.F i→¬x.F i:=fun x hx=>⟨h1 x (by simp[hx]),fun i hi e=>hp.2.2 x hx o (by simp) i e hi⟩
 have hl2:∀x∈l2,x.P w∧∀i,o.F i→¬x.F i:=fun x hx=>⟨h1 x (by simp[hx]),fun i hi e=>hq.1 x hx i hi e⟩
 refine⟨⟨fun x hx=>?_,List.pairwise_append.2 ⟨hp.1,List.pairwise_cons.2 ⟨fun x hx i hi e=>?_,hq.2⟩,fun x hx y hy i hi e=>?_⟩⟩,?_⟩
 ·rcases List.mem_append.1 hx with q|q
  ·exact x.keeps (hl1 x q).1 hk (hl1 x q).2
  ·rcases List.mem_cons.1 q with rfl|q
   ·exact ho
   ·exact x.keeps (hl2 x q).1 hk (hl2 x q).2
 ·rcases hF i hi with q|q
  ·exact(hl2 x hx).2 i q e
  ·have:=x.lt (hl2 x hx).1 e
   omega
 ·rcases List.mem_cons.1 hy with rfl|hy
  ·rcases hF i e with q|q
   ·exact(hl1 x hx).2 i q hi
   ·have:=x.lt (hl1 x hx).1 hi
    omega
  ·exact hp.2.2 x hx y (by simp[hy]) i hi e
 ·rintro i ⟨x,hx,e⟩
  rcases List.mem_append.1 hx with q|q
  ·exact .inl ⟨x,by simp[q],e⟩
  ·rcases List.mem_cons.1 q with rfl|q
   ·exact(hF i e).imp (fun e=>⟨o,by simp,e⟩) id
   ·exact .inl ⟨x,by simp[q],e⟩
structure OS (w0:World) (F0:Nat→Prop) (bs:List Nat) (o:Ob) (w:World):Prop where
 laid:Go.Proofs.YtjhhiindeignaaaGreatDoor.Laid w
 kept:Keeps F0 w0 w
 at_:o.P w
 own:∀i,o.F i→(F0 i∨w0.heap.size≤i)∧i∉bs
section
variable {w0 w w':World} {F0:Nat→Prop} {bs:List Nat} {o o':Ob} {l1 l2:List Ob}
theorem OS.start (hL:Go.Proofs.YtjhhiindeignaaaGreatDoor.Laid w0) (h:o.P w0) (hb:∀b∈bs,w0.heap.size≤b):OS w0 o.F bs o w0:=
 ⟨hL,Keeps.refl _ _,h,fun i hi=>⟨.inl hi,fun hm=>by have:=o.lt h hi;have:=hb i hm;omega⟩⟩
theorem OS.nix (h:OS w0 F0 bs o w) (hk:Keeps Nix w w'):OS w0 F0 bs o w':=⟨Go.Proofs.YtjhhiindeignaaaGreatDoor.Laid.nix hk h.laid,h.kept.trans (hk.mono fun _ e=>e.elim),o.nix h.at_ hk,h.own⟩
theorem OS.below (h:OS w0 F0 bs o w) (hb:Below w.heap.size w w'):OS w0 F0 bs o w':=h.nix (Keeps.of_below hb)
theorem OS.more (h:OS w0 F0 bs o w) {n:Nat} (hn:w.heap.size≤n):OS w0 F0 (bs++[n]) o w:=⟨h.laid,h.kept,h.at_,fun i hi=>⟨(h.own i hi).1,fun hm=>by
 rcases List.mem_append.1 hm with q|q
 ·exact(h.own i hi).2 q
 ·rw[List.mem_singleton] at q
  have:=o.lt h.at_ hi
  omega⟩⟩
theorem OS.ext (h:OS w0 F0 bs o w) {ds:List Nat} (he:Ext w ds w') (hd:∀d∈ds,d∈bs) (hlo:∀b∈bs,w0.heap.size≤b) (hY:Go.Proofs.YtjhhiindeignaaaGreatDoor.Y.count≤w0.heap.size):OS w0 F0 bs o w':=by
 have hk:=Go.Proofs.YtjhhiindeignaaaGreatDoor.Ext.keeps he
 have hd':∀i,i∈ds→w0.heap.size≤i:=fun i hi=>hlo i (hd i hi)
 exact⟨h.laid.keeps hk fun i hi=>Nat.le_trans hY (hd' i hi),h.kept.after hk fun i hlt hi=>by have:=hd' i hi;omega,o.keeps h.at_ hk fun i hi hf=>(h.own i hf).2 (hd i hi),h.own⟩
theorem OS.step (l1 l2:List Ob) (h:OS w0 F0 bs (Ob.sep (l1++o::l2)) w) (hm:∀b∈bs,b<w.heap.size) (hk:Keeps o.F w w') (ho:o'.P w') (hF:∀i,o'.F i→o.F i∨w.heap.size≤i):OS w0 F0 bs (Ob.sep (l1++o'::l2)) w'∧Kept w0.heap.size F0 bs w w':=by
 obtain⟨q1,q2⟩:=Ob.sep_put h.at_ hk ho hF
 have hmem:∀i,o.F i→(Ob.sep (l1++o::l2)).F i:=fun i hi=>⟨o,by simp,hi⟩
 have hF0:∀i,o.F i→i<w0.heap.size→F0 i:=fun i hi hlt=>((h.own i (hmem i hi)).1).resolve_right (by omega)
 refine⟨⟨h.laid.keeps hk fun i hi=>(Ob.sep _).low h.at_ (hmem i hi),h.kept.after hk fun i hlt hi=>hF0 i hi hlt,q1,fun i hi=>?_⟩,hk.kept hF0 fun i hi _=>(h.own i (hmem i hi)).2⟩
 rcases q2 i hi with q|q
 ·exact h.own i q
 ·exact⟨.inr (Nat.le_trans h.kept.size q),fun hb=>by have:=hm i hb;omega⟩
theorem OS.get (l1 l2:List Ob) (h:OS w0 F0 bs (Ob.sep (l1++o::l2)) w):o.P w:=h.at_.1 o (by simp)
theorem OS.put {b o n:Nat} {t:TypeId} {cs vs:List Value} (l1 l2:List Ob) (h:OS w0 F0 bs (Ob.sep (l1++Ob.blk b t cs::l2)) w) (ho:o+vs.length≤cs.length) (hp:Put w [] ⟨b,0,none⟩ o vs w'):OS w0 F0 bs (Ob.sep (l1++Ob.blk b t (cs.take o++(vs++cs.drop (o+vs.length)))::l2)) w':=by
 have hw:=OS.get l1 l2 h
 have hk:Keeps (Ob.blk b t cs).F w w':=hp.keeps rfl
 obtain⟨q1,q2⟩:=Ob.sep_put (o':=Ob.blk b t (cs.take o++(vs++cs.drop (o+vs.length)))) h.at_ hk ⟨hw.1.put hp ho,hw.2⟩ fun i hi=> .inl hi
 have hmem:(Ob.sep (l1++Ob.blk b t cs::l2)).F b:=⟨Ob.blk b t cs,by simp,rfl⟩
 refine⟨h.laid.keeps hk fun i hi=>by rw[show i=b from hi];exact hw.2,h.kept.after hk fun i hlt hi=>by rw[show i=b from hi] at hlt⊢;exact((h.own b hmem).1).resolve_right (by omega),q1,fun i hi=>?_⟩
 obtain⟨x,hx,e⟩:=hi
 rcases List.mem_append.1 hx with q|q
 ·exact h.own i ⟨x,by simp[q],e⟩
 ·rcases List.mem_cons.1 q with rfl|q
  ·exact h.own i ⟨Ob.blk b t cs,by simp,e⟩
  ·exact h.own i ⟨x,by simp[q],e⟩
theorem OS.putD {b o n:Nat} {t:TypeId} {cs vs:List Value} {ds:List Nat} (l1 l2:List Ob) (h:OS w0 F0 bs (Ob.sep (l1++Ob.blk b t cs::l2)) w) (ho:o+vs.length≤cs.length) (hd:∀d∈ds,d∈bs) (hlo:∀b∈bs,w0.heap.size≤b) (hY:Go.Proofs.YtjhhiindeignaaaGreatDoor.Y.count≤w0.heap.size) (hp:Put w ds ⟨b,0,none⟩ o vs w'):OS w0 F0 bs (Ob.sep (l1++Ob.blk b t (cs.take o++(vs++cs.drop (o+vs.length)))::l2)) w':=by
 obtain⟨wm,hm1,hm2⟩:∃wm,Ext w ds wm∧Put wm [] ⟨b,0,none⟩ o vs w':=by
  obtain⟨cs0,hc1,hc2,hc3⟩:=hp.here _ _ (OS.get l1 l2 h).1
  have hbl:=(OS.get l1 l2 h).1.lt
  refine⟨{w' with heap:=w'.heap.setIfInBounds b (.cells cs.toArray t (0,0))},⟨hp.os,hp.tape,hp.output,by simpa using hp.size,fun i hi hn=>?_⟩,⟨rfl,rfl,rfl,by simp,fun i hi _ hne=>?_,fun cs2 t2 h2=>?_⟩⟩
  ·by_cases e:i=b
   ·subst e
    have:=(OS.get l1 l2 h).1
    unfold Whole at this
    rw[this]
    simp[Nat.lt_of_lt_of_le hbl hp.size]
   ·rw[Array.getElem?_setIfInBounds_ne (Ne.symm e)]
    exact hp.heap i hi hn e
  ·rw[Array.getElem?_setIfInBounds_ne (Ne.symm hne)]
  ·simp[Nat.lt_of_lt_of_le hbl hp.size] at h2
   obtain⟨rfl,rfl⟩:=h2
   exact⟨cs0,hc1,hc2,hc3⟩
 exact OS.put (n:=n) l1 l2 (OS.ext h hm1 hd hlo hY) ho hm2
theorem OS.can {b o n:Nat} {t:TypeId} {cs:List Value} (l1 l2:List Ob) (h:OS w0 F0 bs (Ob.sep (l1++Ob.blk b t cs::l2)) w) (ho:o+n≤cs.length):CanPut w ⟨b,0,none⟩ o n∧Away w0.heap.size F0 bs b:=by
 have hmem:(Ob.sep (l1++Ob.blk b t cs::l2)).F b:=⟨Ob.blk b t cs,by simp,rfl⟩
 exact⟨(OS.get l1 l2 h).1.can ho,(h.own b hmem).2,fun hlt=>((h.own b hmem).1).resolve_right (by omega)⟩
theorem OS.cells {b o:Nat} {t:TypeId} {cs us:List Value} (l1 l2:List Ob) (h:OS w0 F0 bs (Ob.sep (l1++Ob.blk b t cs::l2)) w) (hl:cs.length≤maxLen) (hu:us=(cs.drop o).take us.length):At w ⟨b,0,none⟩ o us:=by
 have:=((OS.get l1 l2 h).1.at_ hl).sub o hu
 rwa[Nat.zero_add] at this
end
end Go.Sy
namespace Go.Proofs.YtjhhiindeignaaaGreatDoor
open Go Go.RowKit Go.Sy Go.Rep
set_option maxRecDepth 100000
theorem v_alternate_Pair_none {w0:World} {F:Nat→Prop} {Q:Value→World→Prop} (p:Addr) (h:∃p1:Option Addr,(At w0 p 0 [(.pointer p1)])∧Fin w0 F w0 Q (.bool (BE.val (.pr (p1=none))))):Gets Tryz.prog X.alternate_Pair_none #[(.pointer (some p))] w0 F Q:=
 func_run mixed [] [] X.alternate_Pair_none [SV.adr p 0] ⟨by trivial,trivial⟩ (by kernel_rfl) (by kernel_rfl) h
theorem v_alternate_New {w0:World} {F:Nat→Prop} {Q:Value→World→Prop} (rows:Int) (cols:Int) (h:∀n1:Nat,(w0.heap.size≤n1)→∃I1:Int→Option Addr→Option Addr→Int→Int→Option Addr→World→Prop,∃I2:Int→Option Addr→Option Addr→Int→Int→Option Addr→Nat,(∀w8:World,(Below w0.heap.size w0 w8)→I1 0 none none 0 0 none w8)∧∀i1:Int,∀p1 p2:Option Addr,∀i2 i3:Int,∀p3:Option Addr,∀w1:World,(Keeps F w0 w1)→(I1 i1 p1 p2 i2 i3 p3 w1)→((i1<2)→∀w3:World,(Below w1.heap.size w1 w3)→(Mine w3 w0.heap.size [(n1,T.alternate_Pair)])→Runs Tryz.prog X.grid_New #[(.int .i64 rows),(.int .i64 cols)] w3 (fun e1 w4=>∃p4:Option Addr,∃i4:Int,(e1=(.returned (.tuple #[(.pointer p4),(.int .i64 i4)])))∧((Kept w0.heap.size F [n1] w3 w4)∧(((i4≠0)→Fin w0 F w4 Q (.tuple #[(.pointer none),(.int .i64 i4)]))∧((i4=0)→(((0:Int)≤i1)∧(i1<2))∧(((i1=0)→(I64 (i1+1))∧∀w6:World,(Ext w4 [n1] w6)→(I1 (i1+1) p4 p2 i2 i3 p3 w6)∧(I2 (i1+1) p4 p2 i2 i3 p3<I2 i1 p1 p2 i2 i3 p3))∧(((i1=1)→(I64 (i1+1))∧∀w5:World,(Ext w4 [n1] w5)→(I1 (i1+1) p1 p4 i2 i3 p3 w5)∧(I2 (i1+1) p1 p4 i2 i3 p3<I2 i1 p1 p2 i2 i3 p3))∧(True))))))))∧(((2:Int)≤i1)→∀w2:World,(Below w1.heap.size w1 w2)→(Keeps F w0 w2)→((w0.heap.size≤n1)∧(Whole w2 n1 T.alternate_Pair [(.pointer p1),(.pointer p2),(.int .i64 i2),(.int .i64 i3),(.pointer p3)]))→Q (.tuple #[(.pointer (some ⟨n1,0,none⟩)),(.int .i64 0)]) w2)):Gets Tryz.prog X.alternate_New #[(.int .i64 rows),(.int .i64 cols)] w0 F Q:=
 func_run mixed [⟨3,[12],[0]⟩] [] X.alternate_New [SV.int IntKind.i64 rows,SV.int IntKind.i64 cols] ⟨by trivial,by trivial,trivial⟩ (by kernel_rfl) (by kernel_rfl) h
theorem v_alternate_Pair_Alternate {w0:World} {F:Nat→Prop} {Q:Value→World→Prop} (p:Addr) (h:∀w1:World,(Below w0.heap.size w0 w1)→Runs Tryz.prog X.alternate_Pair_none #[(.pointer (some p))] w1 (fun e1 w2=>∃b1:Bool,(e1=(.returned (.bool b1)))∧((Kept w0.heap.size F [] w1 w2)∧(((b1=false)→∃i1:Int,(At w2 p 2 [(.int .i64 i1)])∧Fin w0 F w2 Q (.bool (BE.val (.eq i1 1))))∧((b1=true)→Fin w0 F w2 Q (.bool false)))))):Gets Tryz.prog X.alternate_Pair_Alternate #[(.pointer (some p))] w0 F Q:=
 func_run mixed [] [] X.alternate_Pair_Alternate [SV.adr p 0] ⟨by trivial,trivial⟩ (by kernel_rfl) (by kernel_rfl) h
theorem v_alternate_Pair_Grid {w0:World} {F:Nat→Prop} {Q:Value→World→Prop} (p:Addr) (h:∀w1:World,(Below w0.heap.size w0 w1)→Runs Tryz.prog X.alternate_Pair_none #[(.pointer (some p))] w1 (fun e1 w2=>∃b1:Bool,(e1=(.returned (.bool b1)))∧((Kept w0.heap.size F [] w1 w2)∧(((b1=true)→Fin w0 F w2 Q (.pointer none))∧((b1=false)→∃i1:Int,(At w2 p 2 [(.int .i64 i1)])∧((((0:Int)≤i1)∧(i1<2))∧∃p1:Option Addr,(At w2 p (0+((Int.toNat i1)*1)) [(.pointer p1)])∧∀w3:World,(Below w2.heap.size w2 w3)→Runs Tryz.prog X.grid_Copy #[(.pointer p1)] w3 (fun e2 w4=>∃p2:Option Addr,(e2=(.returned (.pointer p2)))∧((Kept w0.heap.size F [] w3 w4)∧Fin w0 F w4 Q (.pointer p2))))))))):Gets Tryz.prog X.alternate_Pair_Grid #[(.pointer (some p))] w0 F Q:=
 func_run mixed [] [] X.alternate_Pair_Grid [SV.adr p 0] ⟨by trivial,trivial⟩ (by kernel_rfl) (by kernel_rfl) h
end Go.Proofs.YtjhhiindeignaaaGreatDoor
namespace Go.Rep
open Go Go.Sy
structure Pd where
 (b:Nat) (g0 g1:Gd) (used:Nat) (mode:Int) (kept:Option (Nat×Sv))
structure Pv where
 (g0 g1:Gr) (used:Nat) (mode:Int) (kept:Option Sv)
def Pd.pv (p:Pd):Pv:=⟨p.g0.gr,p.g1.gr,p.used,p.mode,p.kept.map (·.2)⟩
def keptP:Option (Nat×Sv)→Option Addr
 |none=>none
 |some q=>some ⟨q.1,0,none⟩
def Pd.ptr (p:Pd):Value:= .pointer (some ⟨p.b,0,none⟩)
abbrev Pd.cells (p:Pd):List Value:=[p.g0.ptr,p.g1.ptr, .int .i64 p.used, .int .i64 p.mode, .pointer (keptP p.kept)]
end Go.Rep
namespace Go.Proofs.YtjhhiindeignaaaGreatDoor
open Go Go.RowKit Go.Sy Go.Rep
set_option maxRecDepth 100000
set_option maxHeartbeats 2000000
def Ob.grid (g:Gd):Ob:=⟨GdF g,fun w=>GridAt w g,fun h hi=>h.lt hi,fun h hi=>h.low hi,fun h hk hF=>h.keeps hk hF⟩
def keptO:Option (Nat×Sv)→Ob
 |none=>Ob.none
 |some q=>Ob.blk q.1 T.Saved q.2.arr.toList
abbrev PdO (p:Pd):Ob:=Ob.sep [Ob.blk p.b T.alternate_Pair p.cells,Ob.grid p.g0,Ob.grid p.g1,keptO p.kept]
def ModO {α:Type} (ob:α→Ob) (w0:World) (x0:α) (R:α→Prop) (w:World):Prop:=∃x,R x∧(ob x).P w∧∀i,(ob x).F i→(ob x0).F i∨w0.heap.size≤i
section
variable {w0 w w' w1:World} {F0:Nat→Prop} {bs:List Nat} {g:Gd} {r':Gr} {R:Ending→World→Prop} {o:Ob} {f:FuncId} {args:Array Value}
theorem rt1_fin {α:Type} {ob:α→Ob} {x0 x:α} {Rv:α→Prop} (h:OS w0 (ob x0).F bs (ob x) w) (hR:Rv x):ModO ob w0 x0 Rv w:=⟨x,hR,h.at_,fun i hi=>(h.own i hi).1⟩
end
end Go.Proofs.YtjhhiindeignaaaGreatDoor
abbrev Go.Sy.OS.fin:=@Go.Proofs.YtjhhiindeignaaaGreatDoor.rt1_fin
namespace Go.Proofs.YtjhhiindeignaaaGreatDoor
open Go Go.RowKit Go.Sy Go.Rep
set_option maxRecDepth 100000
set_option maxHeartbeats 2000000
section
variable {w0 w w' w1:World} {F0:Nat→Prop} {bs:List Nat} {g:Gd} {r':Gr} {R:Ending→World→Prop} {o:Ob} {f:FuncId} {args:Array Value}
theorem rt2_ret {v:Value} (h:OS w0 F0 bs o w1) (hc:o.P w1→Laid w1→Ret f args w1 v) (hR:∀w2,OS w0 F0 bs o w2→Keeps Nix w1 w2→R (.returned v) w2):Runs Tryz.prog f args w1 R:=
 (hc h.at_ h.laid).runs fun w2 hk=>hR w2 (h.nix hk) hk
end
end Go.Proofs.YtjhhiindeignaaaGreatDoor
abbrev Go.Sy.OS.ret:=@Go.Proofs.YtjhhiindeignaaaGreatDoor.rt2_ret
namespace Go.Proofs.YtjhhiindeignaaaGreatDoor
open Go Go.RowKit Go.Sy Go.Rep
set_option maxRecDepth 100000
set_option maxHeartbeats 2000000
section
variable {w0 w w' w1:World} {F0:Nat→Prop} {bs:List Nat} {g:Gd} {r':Gr} {R:Ending→World→Prop} {o:Ob} {f:FuncId} {args:Array Value}
theorem rt3_pure {v:Value} (hp:Pure f args v) (h:OS w0 F0 bs o w1) (hR:∀w2,OS w0 F0 bs o w2→Keeps Nix w1 w2→R (.returned v) w2):Runs Tryz.prog f args w1 R:=
 h.ret (fun _ hL=>hp w1 hL) hR
end
end Go.Proofs.YtjhhiindeignaaaGreatDoor
abbrev Go.Sy.OS.pure:=@Go.Proofs.YtjhhiindeignaaaGreatDoor.rt3_pure
namespace Go.Proofs.YtjhhiindeignaaaGreatDoor
open Go Go.RowKit Go.Sy Go.Rep
set_option maxRecDepth 100000
set_option maxHeartbeats 2000000
section
variable {w0 w w' w1:World} {F0:Nat→Prop} {bs:List Nat} {g:Gd} {r':Gr} {R:Ending→World→Prop} {o:Ob} {f:FuncId} {args:Array Value}
theorem rt4_made {Qv:Value→World→Prop} (h:OS w0 F0 bs o w1) (hc:o.P w1→Laid w1→Gets Tryz.prog f args w1 Nix Qv) (hR:∀v w2,Qv v w2→OS w0 F0 bs o w2→Keeps Nix w1 w2→R (.returned v) w2):Runs Tryz.prog f args w1 R:=
 (hc h.at_ h.laid).runs fun v w2 hk hq=>hR v w2 hq (h.nix hk) hk
end
end Go.Proofs.YtjhhiindeignaaaGreatDoor
abbrev Go.Sy.OS.made:=@Go.Proofs.YtjhhiindeignaaaGreatDoor.rt4_made
namespace Go.Proofs.YtjhhiindeignaaaGreatDoor
open Go Go.RowKit Go.Sy Go.Rep
set_option maxRecDepth 100000
set_option maxHeartbeats 2000000
section
variable {w0 w w' w1:World} {F0:Nat→Prop} {bs:List Nat} {g:Gd} {r':Gr} {R:Ending→World→Prop} {o:Ob} {f:FuncId} {args:Array Value}
theorem rt5_call {Qv:Value→World→Prop} (l1 l2:List Ob) (h:OS w0 F0 bs (Ob.sep (l1++o::l2)) w1) (hm:∀b∈bs,b<w1.heap.size) (hc:o.P w1→Laid w1→Gets Tryz.prog f args w1 o.F Qv)
  (hR:∀v w2,Qv v w2→(∀o':Ob,o'.P w2→(∀i,o'.F i→o.F i∨w1.heap.size≤i)→OS w0 F0 bs (Ob.sep (l1++o'::l2)) w2∧Kept w0.heap.size F0 bs w1 w2)→R (.returned v) w2):Runs Tryz.prog f args w1 R:=
 (hc (OS.get l1 l2 h) h.laid).runs fun v w2 hk hq=>hR v w2 hq fun o' ho hF=>OS.step l1 l2 h hm hk ho hF
end
end Go.Proofs.YtjhhiindeignaaaGreatDoor
abbrev Go.Sy.OS.call:=@Go.Proofs.YtjhhiindeignaaaGreatDoor.rt5_call
namespace Go.Proofs.YtjhhiindeignaaaGreatDoor
open Go Go.RowKit Go.Sy Go.Rep
set_option maxRecDepth 100000
set_option maxHeartbeats 2000000
section
variable {w0 w w' w1:World} {F0:Nat→Prop} {bs:List Nat} {g:Gd} {r':Gr} {R:Ending→World→Prop} {o:Ob} {f:FuncId} {args:Array Value}
theorem rt6_grid {Qv:Value→World→Prop} (l1 l2:List Ob) (h:OS w0 F0 bs (Ob.sep (l1++Ob.grid g::l2)) w1) (hm:∀b∈bs,b<w1.heap.size) (hc:GridAt w1 g→Laid w1→Gets Tryz.prog f args w1 (GdF g) (fun v w2=>Qv v w2∧ModG w1 g r' w2))
  (hR:∀v w2 g',Qv v w2→g'.ptr=g.ptr→g'.gr=r'→OS w0 F0 bs (Ob.sep (l1++Ob.grid g'::l2)) w2→Kept w0.heap.size F0 bs w1 w2→R (.returned v) w2):Runs Tryz.prog f args w1 R:=
 OS.call l1 l2 h hm hc fun v w2 ⟨hq,g',h1,h2,h3,h4⟩ hs=>by
  obtain⟨q1,q2⟩:=hs (Ob.grid g') h3 h4
  exact hR v w2 g' hq (by unfold Gd.ptr;rw[h1]) h2 q1 q2
end
end Go.Proofs.YtjhhiindeignaaaGreatDoor
abbrev Go.Sy.OS.grid:=@Go.Proofs.YtjhhiindeignaaaGreatDoor.rt6_grid
namespace Go.Proofs.YtjhhiindeignaaaGreatDoor
open Go Go.RowKit Go.Sy Go.Rep
set_option maxRecDepth 100000
set_option maxHeartbeats 2000000
section
variable {w0 w w' w1:World} {F0:Nat→Prop} {bs:List Nat} {g:Gd} {r':Gr} {R:Ending→World→Prop} {o:Ob} {f:FuncId} {args:Array Value}
variable {p:Pd}
theorem PdO.at_ (h:(PdO p).P w) (o:Nat) {us:List Value} (hu:us=(p.cells.drop o).take us.length):At w ⟨p.b,0,none⟩ o us:=by
 have h1:=h.1 (Ob.blk p.b T.alternate_Pair p.cells) (by simp)
 have:=(h1.1.at_ (show 5≤maxLen by decide)).sub o hu
 rwa[Nat.zero_add] at this
theorem PdO.grid0 (h:(PdO p).P w):GridAt w p.g0:=h.1 (Ob.grid p.g0) (by simp)
theorem PdO.grid1 (h:(PdO p).P w):GridAt w p.g1:=h.1 (Ob.grid p.g1) (by simp)
theorem r_alternate_Pair_none (h:(PdO p).P w):Ret X.alternate_Pair_none #[p.ptr] w (.bool false):=
 v_alternate_Pair_none _ ⟨_,PdO.at_ h 0 rfl,Fin.of fun _=>by
  show Value.bool _=_
  rw[show BE.val (.pr ((some (⟨p.g0.b,0,none⟩:Addr))=none))=false from by
   have:=BE.val_iff (.pr ((some (⟨p.g0.b,0,none⟩:Addr))=none)) false
   exact this.1 (by intro e;cases e)]⟩
theorem r_alternate_Pair_Alternate (hL:Laid w) (h:(PdO p).P w) (hu:p.used≤1):Ret X.alternate_Pair_Alternate #[p.ptr] w (.bool (decide (p.used=1))):=by
 refine v_alternate_Pair_Alternate _ fun w1 hb1=>?_
 have s1:=(OS.start (bs:=[]) hL h (by simp)).below hb1
 refine s1.ret (fun a _=>r_alternate_Pair_none a) fun w2 s2 hk2=>⟨_,rfl,hk2.nix,fun _=>⟨_,PdO.at_ s2.at_ 2 rfl,Fin.of fun _=>?_⟩,fun e=>nomatch e⟩
 rw[bv_eq]
 congr 1
 exact decide_eq_decide.2 (by omega)
end
end Go.Proofs.YtjhhiindeignaaaGreatDoor
namespace Go.Proofs.YtjhhiindeignaaaGreatDoor
open Go Go.RowKit Go.Sy Go.Rep
set_option maxRecDepth 100000
theorem v_Do_print1 {w0:World} {F:Nat→Prop} {Q:Value→World→Prop} (a:Addr) (b:Addr) (p:Addr) (h:∀w1:World,(Below w0.heap.size w0 w1)→Runs Tryz.prog X.alternate_Pair_none #[(.pointer (some p))] w1 (fun e1 w2=>∃b1:Bool,(e1=(.returned (.bool b1)))∧((Kept w0.heap.size F [] w1 w2)∧(((b1=true)→Fin w0 F w2 Q (.int .i64 1))∧((b1=false)→∃i1:Int,(At w2 p 2 [(.int .i64 i1)])∧((((0:Int)≤i1)∧(i1<2))∧∃p1:Option Addr,(At w2 p (0+((Int.toNat i1)*1)) [(.pointer p1)])∧∀w3:World,(Below w2.heap.size w2 w3)→Runs Tryz.prog X.screen_print_1 #[(.pointer p1),(.pointer (some a)),(.pointer (some b))] w3 (fun e2 w4=>∃i2:Int,(e2=(.returned (.int .i64 i2)))∧((Kept w0.heap.size F [] w3 w4)∧Fin w0 F w4 Q (.int .i64 i2))))))))):Gets Tryz.prog X.alternate_Pair_Do #[(.pointer (some p)),(.func (.func X.screen_print_1) #[] #[(.pointer (some a)),(.pointer (some b))])] w0 F Q:=
 func_run mixed [] [] X.alternate_Pair_Do [SV.adr p 0,SV.fn X.screen_print_1 [] [SV.adr a 0,SV.adr b 0]] ⟨by trivial,by trivial,trivial⟩ (by kernel_rfl) (by kernel_rfl) h
theorem v_Do_print2 {w0:World} {F:Nat→Prop} {Q:Value→World→Prop} (a:Addr) (b:Addr) (c:Addr) (p:Addr) (h:∀w1:World,(Below w0.heap.size w0 w1)→Runs Tryz.prog X.alternate_Pair_none #[(.pointer (some p))] w1 (fun e1 w2=>∃b1:Bool,(e1=(.returned (.bool b1)))∧((Kept w0.heap.size F [] w1 w2)∧(((b1=true)→Fin w0 F w2 Q (.int .i64 1))∧((b1=false)→∃i1:Int,(At w2 p 2 [(.int .i64 i1)])∧((((0:Int)≤i1)∧(i1<2))∧∃p1:Option Addr,(At w2 p (0+((Int.toNat i1)*1)) [(.pointer p1)])∧∀w3:World,(Below w2.heap.size w2 w3)→Runs Tryz.prog X.screen_print_2 #[(.pointer p1),(.pointer (some a)),(.pointer (some b)),(.pointer (some c))] w3 (fun e2 w4=>∃i2:Int,(e2=(.returned (.int .i64 i2)))∧((Kept w0.heap.size F [] w3 w4)∧Fin w0 F w4 Q (.int .i64 i2))))))))):Gets Tryz.prog X.alternate_Pair_Do #[(.pointer (some p)),(.func (.func X.screen_print_2) #[] #[(.pointer (some a)),(.pointer (some b)),(.pointer (some c))])] w0 F Q:=
 func_run mixed [] [] X.alternate_Pair_Do [SV.adr p 0,SV.fn X.screen_print_2 [] [SV.adr a 0,SV.adr b 0,SV.adr c 0]] ⟨by trivial,by trivial,trivial⟩ (by kernel_rfl) (by kernel_rfl) h
theorem v_Do_print3 {w0:World} {F:Nat→Prop} {Q:Value→World→Prop} (a:Addr) (b:Addr) (p:Addr) (h:∀w1:World,(Below w0.heap.size w0 w1)→Runs Tryz.prog X.alternate_Pair_none #[(.pointer (some p))] w1 (fun e1 w2=>∃b1:Bool,(e1=(.returned (.bool b1)))∧((Kept w0.heap.size F [] w1 w2)∧(((b1=true)→Fin w0 F w2 Q (.int .i64 1))∧((b1=false)→∃i1:Int,(At w2 p 2 [(.int .i64 i1)])∧((((0:Int)≤i1)∧(i1<2))∧∃p1:Option Addr,(At w2 p (0+((Int.toNat i1)*1)) [(.pointer p1)])∧∀w3:World,(Below w2.heap.size w2 w3)→Runs Tryz.prog X.screen_print_3 #[(.pointer p1),(.pointer (some a)),(.pointer (some b))] w3 (fun e2 w4=>∃i2:Int,(e2=(.returned (.int .i64 i2)))∧((Kept w0.heap.size F [] w3 w4)∧Fin w0 F w4 Q (.int .i64 i2))))))))):Gets Tryz.prog X.alternate_Pair_Do #[(.pointer (some p)),(.func (.func X.screen_print_3) #[] #[(.pointer (some a)),(.pointer (some b))])] w0 F Q:=
 func_run mixed [] [] X.alternate_Pair_Do [SV.adr p 0,SV.fn X.screen_print_3 [] [SV.adr a 0,SV.adr b 0]] ⟨by trivial,by trivial,trivial⟩ (by kernel_rfl) (by kernel_rfl) h
theorem v_Do_index {w0:World} {F:Nat→Prop} {Q:Value→World→Prop} (a:Addr) (b:Addr) (p:Addr) (h:∀w1:World,(Below w0.heap.size w0 w1)→Runs Tryz.prog X.alternate_Pair_none #[(.pointer (some p))] w1 (fun e1 w2=>∃b1:Bool,(e1=(.returned (.bool b1)))∧((Kept w0.heap.size F [] w1 w2)∧(((b1=true)→Fin w0 F w2 Q (.int .i64 1))∧((b1=false)→∃i1:Int,(At w2 p 2 [(.int .i64 i1)])∧((((0:Int)≤i1)∧(i1<2))∧∃p1:Option Addr,(At w2 p (0+((Int.toNat i1)*1)) [(.pointer p1)])∧∀w3:World,(Below w2.heap.size w2 w3)→Runs Tryz.prog X.screen_index_1 #[(.pointer p1),(.pointer (some a)),(.pointer (some b))] w3 (fun e2 w4=>∃i2:Int,(e2=(.returned (.int .i64 i2)))∧((Kept w0.heap.size F [] w3 w4)∧Fin w0 F w4 Q (.int .i64 i2))))))))):Gets Tryz.prog X.alternate_Pair_Do #[(.pointer (some p)),(.func (.func X.screen_index_1) #[] #[(.pointer (some a)),(.pointer (some b))])] w0 F Q:=
 func_run mixed [] [] X.alternate_Pair_Do [SV.adr p 0,SV.fn X.screen_index_1 [] [SV.adr a 0,SV.adr b 0]] ⟨by trivial,by trivial,trivial⟩ (by kernel_rfl) (by kernel_rfl) h
theorem v_Do_soften {w0:World} {F:Nat→Prop} {Q:Value→World→Prop} (a:Addr) (b:Addr) (p:Addr) (h:∀w1:World,(Below w0.heap.size w0 w1)→Runs Tryz.prog X.alternate_Pair_none #[(.pointer (some p))] w1 (fun e1 w2=>∃b1:Bool,(e1=(.returned (.bool b1)))∧((Kept w0.heap.size F [] w1 w2)∧(((b1=true)→Fin w0 F w2 Q (.int .i64 1))∧((b1=false)→∃i1:Int,(At w2 p 2 [(.int .i64 i1)])∧((((0:Int)≤i1)∧(i1<2))∧∃p1:Option Addr,(At w2 p (0+((Int.toNat i1)*1)) [(.pointer p1)])∧∀w3:World,(Below w2.heap.size w2 w3)→Runs Tryz.prog X.screen_soften_1 #[(.pointer p1),(.pointer (some a)),(.pointer (some b))] w3 (fun e2 w4=>∃i2:Int,(e2=(.returned (.int .i64 i2)))∧((Kept w0.heap.size F [] w3 w4)∧Fin w0 F w4 Q (.int .i64 i2))))))))):Gets Tryz.prog X.alternate_Pair_Do #[(.pointer (some p)),(.func (.func X.screen_soften_1) #[] #[(.pointer (some a)),(.pointer (some b))])] w0 F Q:=
 func_run mixed [] [] X.alternate_Pair_Do [SV.adr p 0,SV.fn X.screen_soften_1 [] [SV.adr a 0,SV.adr b 0]] ⟨by trivial,by trivial,trivial⟩ (by kernel_rfl) (by kernel_rfl) h
theorem v_screen_print_1 {w0:World} {F:Nat→Prop} {Q:Value→World→Prop} (a:Addr) (b:Addr) (g:Addr) (h:∃p1:Option Addr,(At w0 a 0 [(.pointer p1)])∧∃a1:Addr,(p1=(some a1))∧∃cu1:Cu,(At w0 a1 4 cu1.arr.toList)∧∃i1:Int,(At w0 b 0 [(.int .i32 i1)])∧∀w1:World,(Below w0.heap.size w0 w1)→Runs Tryz.prog X.printer_Mark #[(.pointer (some g)),(.agg cu1.arr),(.int .i32 i1)] w1 (fun e1 w2=>∃b1:Bool,∃i2:Int,(e1=(.returned (.tuple #[(.bool b1),(.int .i64 i2)])))∧((Kept w0.heap.size F [] w1 w2)∧Fin w0 F w2 Q (.int .i64 i2)))):Gets Tryz.prog X.screen_print_1 #[(.pointer (some g)),(.pointer (some a)),(.pointer (some b))] w0 F Q:=
 func_run mixed [] [] X.screen_print_1 [SV.adr g 0,SV.adr a 0,SV.adr b 0] ⟨by trivial,by trivial,by trivial,trivial⟩ (by kernel_rfl) (by kernel_rfl) h
theorem v_screen_print_2 {w0:World} {F:Nat→Prop} {Q:Value→World→Prop} (a:Addr) (b:Addr) (c:Addr) (g:Addr) (h:∃p1:Option Addr,(At w0 a 0 [(.pointer p1)])∧∃a1:Addr,(p1=(some a1))∧∃cu1:Cu,(At w0 a1 4 cu1.arr.toList)∧∃i1:Int,(At w0 b 0 [(.int .i32 i1)])∧∃p2:Option Addr,(At w0 a 0 [(.pointer p2)])∧∃a2:Addr,(p2=(some a2))∧∃b1:Bool,(At w0 a2 18 [(.bool b1)])∧∀w1:World,(Below w0.heap.size w0 w1)→Runs Tryz.prog X.printer_Wraps #[(.pointer (some g)),(.agg cu1.arr),(.int .i32 i1),(.bool b1)] w1 (fun e1 w2=>∃b2:Bool,∃i2:Int,(e1=(.returned (.tuple #[(.bool b2),(.int .i64 i2)])))∧((Kept w0.heap.size F [] w1 w2)∧(((CanPut w2 c 0 1)∧(Away w0.heap.size F [] c.block))∧∀w3:World,(Put w2 [] c 0 [(.bool b2)] w3)→Fin w0 F w3 Q (.int .i64 i2))))):Gets Tryz.prog X.screen_print_2 #[(.pointer (some g)),(.pointer (some a)),(.pointer (some b)),(.pointer (some c))] w0 F Q:=
 func_run mixed [] [] X.screen_print_2 [SV.adr g 0,SV.adr a 0,SV.adr b 0,SV.adr c 0] ⟨by trivial,by trivial,by trivial,by trivial,trivial⟩ (by kernel_rfl) (by kernel_rfl) h
theorem v_screen_print_3 {w0:World} {F:Nat→Prop} {Q:Value→World→Prop} (a:Addr) (b:Addr) (g:Addr) (h:∃p1:Option Addr,(At w0 a 0 [(.pointer p1)])∧∃p2:Option Addr,(At w0 a 0 [(.pointer p2)])∧∃a1:Addr,(p2=(some a1))∧∃cu1:Cu,(At w0 a1 4 cu1.arr.toList)∧∃i1:Int,(At w0 b 0 [(.int .i32 i1)])∧∃p3:Option Addr,(At w0 a 0 [(.pointer p3)])∧∃a2:Addr,(p3=(some a2))∧∃pn1:Pn,(At w0 a2 7 pn1.arr.toList)∧∃p4:Option Addr,(At w0 a 0 [(.pointer p4)])∧∃a3:Addr,(p4=(some a3))∧∃b1:Bool,(At w0 a3 18 [(.bool b1)])∧∃p5:Option Addr,(At w0 a 0 [(.pointer p5)])∧∃a4:Addr,(p5=(some a4))∧∃b2:Bool,(At w0 a4 20 [(.bool b2)])∧∀w1:World,(Below w0.heap.size w0 w1)→Runs Tryz.prog X.printer_Print #[(.pointer (some g)),(.agg cu1.arr),(.int .i32 i1),(.agg pn1.arr),(.bool b1),(.bool b2)] w1 (fun e1 w2=>∃cu2:Cu,∃i2:Int,(e1=(.returned (.tuple #[(.agg cu2.arr),(.int .i64 i2)])))∧((Kept w0.heap.size F [] w1 w2)∧((At w2 a 0 [(.pointer p1)])∧∃a5:Addr,(p1=(some a5))∧(((CanPut w2 a5 4 3)∧(Away w0.heap.size F [] a5.block))∧∀w3:World,(Put w2 [] a5 4 cu2.arr.toList w3)→Fin w0 F w3 Q (.int .i64 i2)))))):Gets Tryz.prog X.screen_print_3 #[(.pointer (some g)),(.pointer (some a)),(.pointer (some b))] w0 F Q:=
 func_run mixed [] [] X.screen_print_3 [SV.adr g 0,SV.adr a 0,SV.adr b 0] ⟨by trivial,by trivial,by trivial,trivial⟩ (by kernel_rfl) (by kernel_rfl) h
theorem v_screen_index_1 {w0:World} {F:Nat→Prop} {Q:Value→World→Prop} (a:Addr) (b:Addr) (g:Addr) (h:∃p1:Option Addr,(At w0 a 0 [(.pointer p1)])∧∃p2:Option Addr,(At w0 a 0 [(.pointer p2)])∧∃a1:Addr,(p2=(some a1))∧∃rg1:Rg,(At w0 a1 27 rg1.arr.toList)∧∃p3:Option Addr,(At w0 a 0 [(.pointer p3)])∧∃a2:Addr,(p3=(some a2))∧∃cu1:Cu,(At w0 a2 4 cu1.arr.toList)∧∃p4:Option Addr,(At w0 a 0 [(.pointer p4)])∧∀w1:World,(Below w0.heap.size w0 w1)→Runs Tryz.prog X.screen_blank #[(.pointer p4)] w1 (fun e1 w2=>∃pn1:Pn,(e1=(.returned (.agg pn1.arr)))∧((Kept w0.heap.size F [] w1 w2)∧((At w2 a2 4 cu1.arr.toList)∧((At w2 a 0 [(.pointer p3)])∧((At w2 a1 27 rg1.arr.toList)∧((At w2 a 0 [(.pointer p2)])∧((At w2 a 0 [(.pointer p1)])∧∀w3:World,(Below w2.heap.size w2 w3)→Runs Tryz.prog X.region_Index #[(.pointer (some g)),(.agg rg1.arr),(.agg cu1.arr),(.agg pn1.arr)] w3 (fun e2 w4=>∃cu2:Cu,∃p5:Option Addr,∃n1 n2:Nat,∃i1:Int,(e2=(.returned (.tuple #[(.agg cu2.arr),(.slice p5 n1 n2),(.int .i64 i1)])))∧((Kept w0.heap.size F [] w3 w4)∧((At w4 a 0 [(.pointer p1)])∧∃a3:Addr,(p1=(some a3))∧(((CanPut w4 a3 4 3)∧(Away w0.heap.size F [] a3.block))∧∀w5:World,(Put w4 [] a3 4 cu2.arr.toList w5)→((CanPut w5 b 0 1)∧(Away w0.heap.size F [] b.block))∧∀w6:World,(Put w5 [] b 0 [(.slice p5 n1 n2)] w6)→Fin w0 F w6 Q (.int .i64 i1))))))))))))):Gets Tryz.prog X.screen_index_1 #[(.pointer (some g)),(.pointer (some a)),(.pointer (some b))] w0 F Q:=
 func_run mixed [] [] X.screen_index_1 [SV.adr g 0,SV.adr a 0,SV.adr b 0] ⟨by trivial,by trivial,by trivial,trivial⟩ (by kernel_rfl) (by kernel_rfl) h
theorem v_screen_soften_1 {w0:World} {F:Nat→Prop} {Q:Value→World→Prop} (a:Addr) (b:Addr) (g:Addr) (h:∃i1:Int,(At w0 a 0 [(.int .i64 i1)])∧∃b1:Bool,(At w0 b 0 [(.bool b1)])∧∀w1:World,(Below w0.heap.size w0 w1)→Runs Tryz.prog X.grid_SetSoft #[(.pointer (some g)),(.int .i64 i1),(.bool b1)] w1 (fun e1 w2=>∃i2:Int,(e1=(.returned (.int .i64 i2)))∧((Kept w0.heap.size F [] w1 w2)∧Fin w0 F w2 Q (.int .i64 i2)))):Gets Tryz.prog X.screen_soften_1 #[(.pointer (some g)),(.pointer (some a)),(.pointer (some b))] w0 F Q:=
 func_run mixed [] [] X.screen_soften_1 [SV.adr g 0,SV.adr a 0,SV.adr b 0] ⟨by trivial,by trivial,by trivial,trivial⟩ (by kernel_rfl) (by kernel_rfl) h
end Go.Proofs.YtjhhiindeignaaaGreatDoor
namespace Go.Proofs.YtjhhiindeignaaaGreatDoor
open Go Go.RowKit Go.Sy Go.Rep
set_option maxRecDepth 100000
set_option maxHeartbeats 2000000
section
variable {w0 w w' w1:World} {F0:Nat→Prop} {bs:List Nat} {g:Gd} {r':Gr} {R:Ending→World→Prop} {o:Ob} {f:FuncId} {args:Array Value} {p:Pd}
def newV (rows cols:Nat):Pv:=⟨newG rows cols,newG rows cols,0,0,none⟩
end
end Go.Proofs.YtjhhiindeignaaaGreatDoor
namespace Go.Proofs.YtjhhiindeignaaaGreatDoor
open Go Go.RowKit Go.Sy Go.Rep
set_option maxRecDepth 100000
set_option maxHeartbeats 2000000
section
variable {w0 w w' w1:World} {F0:Nat→Prop} {bs:List Nat} {g:Gd} {r':Gr} {R:Ending→World→Prop} {o:Ob} {f:FuncId} {args:Array Value} {p:Pd}
def Pv.grid (v:Pv):Gr:=if v.used=1 then v.g1 else v.g0
def Pd.grid (p:Pd):Gd:=if p.used=1 then p.g1 else p.g0
theorem Pd.grid_gr (p:Pd):(Pd.grid p).gr=Pv.grid p.pv:=by unfold Pd.grid Pv.grid Pd.pv;dsimp only;split<;>rfl
theorem PdO.gridA (h:(PdO p).P w):GridAt w (Pd.grid p):=by
 unfold Pd.grid
 split
 ·exact PdO.grid1 h
 ·exact PdO.grid0 h
theorem PdO.atG (h:(PdO p).P w) (hu:p.used≤1):At w ⟨p.b,0,none⟩ (0+((Int.toNat (p.used:Int))*1)) [(Pd.grid p).ptr]:=by
 unfold Pd.grid
 split
 ·rename_i e
  rw[e]
  exact PdO.at_ h 1 rfl
 ·rename_i e
  rw[show p.used=0 by omega]
  exact PdO.at_ h 0 rfl
theorem r_alternate_Pair_Grid (hL:Laid w) (h:(PdO p).P w) (hu:p.used≤1):Gets Tryz.prog X.alternate_Pair_Grid #[p.ptr] w Nix (fun v w'=>∃g':Gd,v=g'.ptr∧NewG w (Pv.grid p.pv) g' w'):=by
 refine v_alternate_Pair_Grid _ fun w1 hb1=>?_
 have h1:=(PdO p).nix h (Keeps.of_below hb1)
 refine(r_alternate_Pair_none h1).runs fun w2 hk2=>⟨_,rfl,hk2.nix,fun e=>(nomatch e),fun _=>?_⟩
 have h2:=(PdO p).nix h1 hk2
 refine⟨_,PdO.at_ h2 2 rfl,⟨by omega,by omega⟩,_,PdO.atG h2 hu,fun w3 hb3=>?_⟩
 have h3:=(PdO p).nix h2 (Keeps.of_below hb3)
 have hk3:=((Keeps.of_below hb1).trans hk2).trans (Keeps.of_below hb3)
 refine(r_grid_Copy (Laid.nix hk3 hL) (PdO.gridA h3)).runs fun v w4 hk4 ⟨g',hv,q1,q2,q3⟩=>?_
 subst hv
 refine⟨_,rfl,hk4.nix,fun w' hb _=>⟨g',rfl,q1.trans (Pd.grid_gr p),q2.below hb,fun i hi=>Nat.le_trans hk3.size (q3 i hi)⟩⟩
end
end Go.Proofs.YtjhhiindeignaaaGreatDoor
namespace Go.Proofs.YtjhhiindeignaaaGreatDoor
open Go Go.RowKit Go.Sy Go.Rep
set_option maxRecDepth 100000
set_option maxHeartbeats 2000000
section
variable {w0 w w' w1:World}
theorem r_alternate_New {rows cols:Nat} (hL:Laid w) (r1:1≤rows) (r2:rows≤1000) (c1:1≤cols) (c2:cols≤1000):Gets Tryz.prog X.alternate_New #[.int .i64 rows, .int .i64 cols] w Nix (fun v w'=>∃q:Pd,v= .tuple #[q.ptr, .int .i64 0]∧q.pv=newV rows cols∧(PdO q).P w'∧∀i,(PdO q).F i→w.heap.size≤i):=by
 have hY:=hL.size
 refine v_alternate_New rows cols fun n1 hn1=>?_
 let G:Gd→World→Prop:=fun g v=>g.gr=newG rows cols∧GridAt v g∧∀i,GdF g i→w.heap.size≤i∧i≠n1
 have gk:∀{g:Gd} {v v':World},G g v→Keeps (fun i=>i=n1) v v'→G g v':=fun⟨a,b,c⟩ hk=>⟨a,b.keeps hk fun i hi hf=>(c i hf).2 hi,c⟩
 have lk:∀{v v':World},Laid v→Keeps (fun i=>i=n1) v v'→Laid v':=fun h hk=>h.keeps hk fun i hi=>by omega
 have nk:∀{v v':World},Keeps Nix v v'→Keeps (fun i=>i=n1) v v':=fun hk=>hk.mono fun _ e=>e.elim
 have ek:∀{v v':World},Ext v [n1] v'→Keeps (fun i=>i=n1) v v':=fun he=>(Ext.keeps he).mono fun i hi=>by simpa using hi
 refine⟨fun i p1 p2 i2 i3 p3 w'=>Laid w'∧w.heap.size≤w'.heap.size∧i2=0∧i3=0∧p3=none∧((i=0∧p1=none∧p2=none)∨(∃g0:Gd,i=1∧p1=some ⟨g0.b,0,none⟩∧p2=none∧G g0 w')∨(∃g0 g1:Gd,i=2∧p1=some ⟨g0.b,0,none⟩∧p2=some ⟨g1.b,0,none⟩∧G g0 w'∧G g1 w'∧∀i,GdF g0 i→¬GdF g1 i)),fun i _ _ _ _ _=>(2-i).toNat,fun w8 hb8=>⟨Laid.below hb8 hL,hb8.size,rfl,rfl,rfl, .inl ⟨rfl,rfl,rfl⟩⟩,?_⟩
 rintro i p1 p2 i2 i3 p3 w1 hk1 ⟨hL1,hsz,rfl,rfl,rfl,hI⟩
 refine⟨fun hi w3 hb3 hm3=>?_,fun hi w2 hb2 _ hw=>?_⟩
 ·have hL3:=Laid.below hb3 hL1
  have hn:=hm3.lt (d:=n1) (by simp)
  refine(r_grid_New hL3 r1 r2 c1 c2).runs fun v w4 hk4 ⟨g,hv,g1,g2,g3⟩=>?_
  subst hv
  have hL4:=Laid.nix hk4 hL3
  have hs3:=hb3.size
  have hs4:=hk4.size
  have hG4:G g w4:=⟨g1,g2,fun i hi=>by have:=g3 i hi;omega⟩
  have k14:Keeps (fun i=>i=n1) w1 w4:=nk ((Keeps.of_below hb3).trans hk4)
  refine⟨_,_,rfl,hk4.nix,fun e=>absurd rfl e,fun _=>⟨?_,fun e=>⟨by unfold I64;omega,fun w6 he=>⟨⟨lk hL4 (ek he),by have:=he.size;omega,rfl,rfl,rfl,?_⟩,by dsimp only;omega⟩⟩,fun e=>⟨by unfold I64;omega,fun w5 he=>⟨⟨lk hL4 (ek he),by have:=he.size;omega,rfl,rfl,rfl,?_⟩,by dsimp only;omega⟩⟩,trivial⟩⟩
  ·rcases hI with⟨a,_⟩|⟨_,a,_⟩|⟨_,_,a,_⟩<;>omega
  ·rcases hI with⟨a,b,c⟩|⟨_,a,_⟩|⟨_,_,a,_⟩
   ·exact .inr (.inl ⟨g,by omega,rfl,c,gk hG4 (ek he)⟩)
   ·omega
   ·omega
  ·rcases hI with⟨a,b,c⟩|⟨g0,a,b,c,d⟩|⟨_,_,a,_⟩
   ·omega
   ·refine .inr (.inr ⟨g0,g,by omega,b,rfl,gk (gk d k14) (ek he),gk hG4 (ek he),fun j h1 h2=>?_⟩)
    have:=d.2.1.lt h1
    have:=g3 j h2
    omega
   ·omega
 ·rcases hI with⟨a,_⟩|⟨_,a,_⟩|⟨g0,g1,a,b,c,d,e,hd⟩
  ·omega
  ·omega
  ·subst b
   subst c
   have d2:=gk d (nk (Keeps.of_below hb2))
   have e2:=gk e (nk (Keeps.of_below hb2))
   refine⟨⟨n1,g0,g1,0,0,none⟩,rfl,?_,⟨fun x hx=>?_,?_⟩,fun i hi=>?_⟩
   ·show Pv.mk g0.gr g1.gr _ _ _=_
    rw[d.1,e.1]
    rfl
   ·simp only[List.mem_cons,List.not_mem_nil,or_false] at hx
    rcases hx with rfl|rfl|rfl|rfl
    ·exact⟨hw.2,by omega⟩
    ·exact d2.2.1
    ·exact e2.2.1
    ·trivial
   ·refine List.pairwise_cons.2 ⟨fun x hx i hi h2=>?_,List.pairwise_cons.2 ⟨fun x hx i hi h2=>?_,List.pairwise_cons.2 ⟨fun x hx i hi h2=>?_,List.pairwise_singleton _ _⟩⟩⟩
    ·rw[show i=n1 from hi] at h2
     simp only[List.mem_cons,List.not_mem_nil,or_false] at hx
     rcases hx with rfl|rfl|rfl
     ·exact(d.2.2 _ h2).2 rfl
     ·exact(e.2.2 _ h2).2 rfl
     ·exact h2
    ·simp only[List.mem_cons,List.not_mem_nil,or_false] at hx
     rcases hx with rfl|rfl
     ·exact hd i hi h2
     ·exact h2
    ·simp only[List.mem_cons,List.not_mem_nil,or_false] at hx
     subst hx
     exact h2
   ·obtain⟨x,hx,h2⟩:=hi
    simp only[List.mem_cons,List.not_mem_nil,or_false] at hx
    rcases hx with rfl|rfl|rfl|rfl
    ·rw[show i=n1 from h2];omega
    ·exact(d.2.2 _ h2).1
    ·exact(e.2.2 _ h2).1
    ·exact h2.elim
end
end Go.Proofs.YtjhhiindeignaaaGreatDoor
namespace Go.Proofs.YtjhhiindeignaaaGreatDoor
open Go Go.RowKit Go.Sy Go.Rep
set_option maxRecDepth 100000
theorem v_ring_Push {w0:World} {F:Nat→Prop} {Q:Value→World→Prop} (r:Addr) (l:Lh) (h:∀n1:Nat,(w0.heap.size≤n1)→∀w1:World,(Below w0.heap.size w0 w1)→(Mine w1 w0.heap.size [(n1,T.Line)])→Runs Tryz.prog X.ring_zero #[(.pointer (some r))] w1 (fun e1 w2=>∃b1:Bool,(e1=(.returned (.bool b1)))∧((Kept w0.heap.size F [n1] w1 w2)∧(((b1=true)→Fin w0 F w2 Q (.tuple #[(.int .i64 0),(.int .i64 1)]))∧((b1=false)→∀w3:World,(Below w2.heap.size w2 w3)→(Mine w3 w0.heap.size [(n1,T.Line)])→Runs Tryz.prog X.line_Valid #[(.agg l.arr)] w3 (fun e2 w4=>∃b2:Bool,(e2=(.returned (.bool b2)))∧((Kept w0.heap.size F [n1] w3 w4)∧(((b2=false)→Fin w0 F w4 Q (.tuple #[(.int .i64 0),(.int .i64 2)]))∧((b2=true)→∃I1:World→Prop,(∃p4:Option Addr,∃n6 n7:Nat,(At w4 r 4 [(.slice p4 n6 n7)])∧((((n6:Int)=0)→∃i7:Int,(At w4 r 1 [(.int .i64 i7)])∧∀w22:World,(Below w4.heap.size w4 w22)→(Mine w22 w0.heap.size [(n1,T.Line)])→Runs Tryz.prog X.sheet_New #[(.int .i64 i7)] w22 (fun e7 w23=>∃p10:Option Addr,∃i8:Int,(e7=(.returned (.tuple #[(.pointer p10),(.int .i64 i8)])))∧((Kept w0.heap.size F [n1] w22 w23)∧(((i8≠0)→Fin w0 F w23 Q (.tuple #[(.int .i64 0),(.int .i64 i8)]))∧((i8=0)→∃p11:Option Addr,∃n14 n15:Nat,(At w23 r 4 [(.slice p11 n14 n15)])∧∀n16:Nat,(w23.heap.size≤n16)→∃s2:List Value,(Room w0.heap.size F [n1,n16] w23 T.p_sheet_Sheet 1 p11 n14 n15 s2 1)∧((((n14+1)*8)≤140737488355328)∧∀w24:World,∀p12:Option Addr,∀n17:Nat,(Grown w23 [] p11 n14 n15 T.p_sheet_Sheet 1 (n14+1) (s2++[(.pointer p10)]) w24 p12 n17)→(∀a4:Addr,(p12=(some a4))→¬(a4.block∈[n1,n16]))→((CanPut w24 r 4 1)∧(Away w0.heap.size F [n1,n16] r.block))∧∀w25:World,(Put w24 [] r 4 [(.slice p12 (n14+1) n17)] w25)→∀w26:World,(Below w25.heap.size w25 w26)→I1 w26))))))∧(((n6:Int)≠0)→∃p5:Option Addr,∃n8 n9:Nat,(At w4 r 4 [(.slice p5 n8 n9)])∧((I64 ((n6:Int)-1))∧∃a2:Addr,(p5=(some a2))∧((((0:Int)≤((n6:Int)-1))∧(((n6:Int)-1)<(n8:Int)))∧∃p6:Option Addr,(At w4 a2 ((Int.toNat ((n6:Int)-1))*1) [(.pointer p6)])∧∀w13:World,(Below w4.heap.size w4 w13)→(Mine w13 w0.heap.size [(n1,T.Line)])→Runs Tryz.prog X.sheet_Room #[(.pointer p6)] w13 (fun e5 w14=>∃i4:Int,(e5=(.returned (.int .i64 i4)))∧((Kept w0.heap.size F [n1] w13 w14)∧(((i4=0)→∃i5:Int,(At w14 r 1 [(.int .i64 i5)])∧∀w16:World,(Below w14.heap.size w14 w16)→(Mine w16 w0.heap.size [(n1,T.Line)])→Runs Tryz.prog X.sheet_New #[(.int .i64 i5)] w16 (fun e6 w17=>∃p7:Option Addr,∃i6:Int,(e6=(.returned (.tuple #[(.pointer p7),(.int .i64 i6)])))∧((Kept w0.heap.size F [n1] w16 w17)∧(((i6≠0)→Fin w0 F w17 Q (.tuple #[(.int .i64 0),(.int .i64 i6)]))∧((i6=0)→∃p8:Option Addr,∃n10 n11:Nat,(At w17 r 4 [(.slice p8 n10 n11)])∧∀n12:Nat,(w17.heap.size≤n12)→∃s1:List Value,(Room w0.heap.size F [n1,n12] w17 T.p_sheet_Sheet 1 p8 n10 n11 s1 1)∧((((n10+1)*8)≤140737488355328)∧∀w18:World,∀p9:Option Addr,∀n13:Nat,(Grown w17 [] p8 n10 n11 T.p_sheet_Sheet 1 (n10+1) (s1++[(.pointer p7)]) w18 p9 n13)→(∀a3:Addr,(p9=(some a3))→¬(a3.block∈[n1,n12]))→((CanPut w18 r 4 1)∧(Away w0.heap.size F [n1,n12] r.block))∧∀w19:World,(Put w18 [] r 4 [(.slice p9 (n10+1) n13)] w19)→∀w20:World,(Below w19.heap.size w19 w20)→I1 w20))))))∧((i4≠0)→∀w15:World,(Below w14.heap.size w14 w15)→I1 w15)))))))))∧∀w5:World,(Keeps F w0 w5)→(I1 w5)→∃p1:Option Addr,∃n2 n3:Nat,(At w5 r 4 [(.slice p1 n2 n3)])∧∃p2:Option Addr,∃n4 n5:Nat,(At w5 r 4 [(.slice p2 n4 n5)])∧((I64 ((n4:Int)-1))∧∃a1:Addr,(p1=(some a1))∧((((0:Int)≤((n4:Int)-1))∧(((n4:Int)-1)<(n2:Int)))∧∃p3:Option Addr,(At w5 a1 ((Int.toNat ((n4:Int)-1))*1) [(.pointer p3)])∧∀w6:World,(Below w5.heap.size w5 w6)→(Mine w6 w0.heap.size [(n1,T.Line)])→Runs Tryz.prog X.sheet_Push #[(.pointer p3),(.agg l.arr)] w6 (fun e3 w7=>∃i1:Int,(e3=(.returned (.int .i64 i1)))∧((Kept w0.heap.size F [n1] w6 w7)∧(((i1≠0)→Fin w0 F w7 Q (.tuple #[(.int .i64 0),(.int .i64 i1)]))∧((i1=0)→∃i2:Int,(At w7 r 3 [(.int .i64 i2)])∧((I64 (i2+1))∧(((CanPut w7 r 3 1)∧(Away w0.heap.size F [n1] r.block))∧∀w8:World,(Put w7 [] r 3 [(.int .i64 (i2+1))] w8)→∀w9:World,(Below w8.heap.size w8 w9)→(Mine w9 w0.heap.size [(n1,T.Line)])→Runs Tryz.prog X.ring_evict #[(.pointer (some r))] w9 (fun e4 w10=>(e4=(.returned (.tuple #[])))∧((Kept w0.heap.size F [n1] w9 w10)∧∃i3:Int,(At w10 r 3 [(.int .i64 i3)])∧((I64 (i3-1))∧Fin w0 F w10 Q (.tuple #[(.int .i64 (i3-1)),(.int .i64 0)]))))))))))))))))))))):Gets Tryz.prog X.ring_Push #[(.pointer (some r)),(.agg l.arr)] w0 F Q:=
 func_run mixed [] [⟨11,[],[]⟩] X.ring_Push [SV.adr r 0,SV.agg (Lh.cod.enc l)] ⟨by trivial,okA _ _,trivial⟩ (by kernel_rfl) (by kernel_rfl) h
end Go.Proofs.YtjhhiindeignaaaGreatDoor
namespace Go.Proofs.YtjhhiindeignaaaGreatDoor
open Go Go.RowKit Go.Sy Go.Rep
set_option maxRecDepth 100000
set_option maxHeartbeats 2000000
structure RingMid (w:World) (r:Rd):Prop where
 blk:Whole w r.b T.ring_Ring [.int .i64 r.most, .int .i64 r.page, .int .i64 r.first, .int .i64 r.next, .slice r.p r.ss.length r.c]
 row:Own Y.count w T.p_sheet_Sheet 1 r.p r.ss.length r.c (r.ss.map Sd.ptr)
 each:∀s∈r.ss,SheetAt w s∧s.most=r.page
 sep:r.ss.Pairwise fun s t=>∀i,SdF s i→¬SdF t i
 off1:∀i,PF r.p i→¬SsF r.ss i
 off2:¬PF r.p r.b∧¬SsF r.ss r.b
 lo:Y.count≤r.b
section
variable {w w':World} {r:Rd} {s:Sd} {ss:List Sd}
theorem RingAt.mid (h:RingAt w r):RingMid w r:=⟨h.blk,h.row,fun s hs=>⟨(h.each s hs).1,(h.each s hs).2.1⟩,h.sep,h.off1,h.off2,h.lo⟩
theorem SsF.append {ss tt:List Sd} {i:Nat}:SsF (ss++tt) i↔SsF ss i∨SsF tt i:=by
 constructor
 ·rintro⟨t,ht,hi⟩
  rcases List.mem_append.1 ht with q|q
  ·exact .inl ⟨t,q,hi⟩
  ·exact .inr ⟨t,q,hi⟩
 ·rintro(⟨t,q,hi⟩|⟨t,q,hi⟩)
  ·exact⟨t,List.mem_append_left _ q,hi⟩
  ·exact⟨t,List.mem_append_right _ q,hi⟩
theorem SsF.one {i:Nat}:SsF [s] i↔SdF s i:=⟨fun⟨t,ht,hi⟩=>by rw[List.mem_singleton] at ht;subst ht;exact hi,fun h=>⟨s,List.mem_singleton.2 rfl,h⟩⟩
theorem RingMid.lt (h:RingMid w r) {i:Nat} (hi:RdF r i):i<w.heap.size:=by
 rcases hi with rfl|⟨a,ha,rfl⟩|⟨s,hs,hi⟩
 ·exact h.blk.lt
 ·exact(h.row.lt a ha).1
 ·exact(h.each s hs).1.lt hi
theorem RingMid.keeps {F:Nat→Prop} (h:RingMid w r) (hk:Keeps F w w') (hF:∀i,F i→¬RdF r i):RingMid w' r:=
 ⟨h.blk.keeps hk fun hf=>hF _ hf (.inl rfl),h.row.keeps hk fun a ha hf=>hF _ hf (.inr (.inl ⟨a,ha,rfl⟩)),fun s hs=>⟨(h.each s hs).1.keeps hk fun i hf hi=>hF i hf (.inr (.inr ⟨s,hs,hi⟩)),(h.each s hs).2⟩,h.sep,h.off1,h.off2,h.lo⟩
theorem RingMid.nix (h:RingMid w r) (hk:Keeps Nix w w'):RingMid w' r:=h.keeps hk fun _ e=>e.elim
theorem RingMid.below (h:RingMid w r) (hb:Below w.heap.size w w'):RingMid w' r:=h.nix (Keeps.of_below hb)
theorem RingMid.at_ (h:RingMid w r) (o:Nat) {us:List Value} (hu:us=(([.int .i64 r.most, .int .i64 r.page, .int .i64 r.first, .int .i64 r.next, .slice r.p r.ss.length r.c]:List Value).drop o).take us.length):At w ⟨r.b,0,none⟩ o us:=by
 have:=(h.blk.at_ (show 5≤maxLen by decide)).sub o hu
 rwa[Nat.zero_add] at this
theorem RingMid.ring (h:RingMid w r) (h0:∀s∈r.ss,0<s.xs.length) (m:r.most≤1048576) (p1:1≤r.page) (p2:r.page≤1024) (num:r.next=r.first+linesN r.ss) (small:r.next≤4611686018427387904) (few:linesN r.ss≤1048577):RingAt w r:=
 ⟨h.blk,h.row,fun s hs=>⟨(h.each s hs).1,(h.each s hs).2,h0 s hs⟩,h.sep,h.off1,h.off2,h.lo,m,p1,p2,num,small,few⟩
theorem RingMid.next (h:RingMid w r) {n:Nat} (hp:Put w [] ⟨r.b,0,none⟩ 3 [.int .i64 n] w'):RingMid w' ⟨r.b,r.most,r.page,r.first,n,r.p,r.c,r.ss⟩∧Keeps (fun i=>i=r.b) w w':=by
 have hk:Keeps (fun i=>i=r.b) w w':=hp.keeps rfl
 refine⟨⟨h.blk.put hp (show 4≤5 by omega),h.row.keeps hk fun a ha e=>h.off2.1 ⟨a,ha,e⟩,fun s hs=>⟨(h.each s hs).1.keeps hk fun i hi e=>h.off2.2 ⟨s,hs,by rw[←hi];exact e⟩,(h.each s hs).2⟩,h.sep,h.off1,h.off2,h.lo⟩,hk⟩
theorem RingMid.snoc {w1:World} {p':Option Addr} {c':Nat} (hY:Y.count≤w.heap.size) (h:RingMid w r) (hs:SheetAt w s) (hm:s.most=r.page) (hn:∀i,SdF s i→¬RdF r i) (hg:Grown w [] r.p r.ss.length r.c T.p_sheet_Sheet 1 (r.ss.length+1) (r.ss.map Sd.ptr++[s.ptr]) w1 p' c')
  (hp:Put w1 [] ⟨r.b,0,none⟩ 4 [.slice p' (r.ss.length+1) c'] w'):RingMid w' ⟨r.b,r.most,r.page,r.first,r.next,p',c',r.ss++[s]⟩∧Keeps (RdF r) w w'∧∀i,RdF ⟨r.b,r.most,r.page,r.first,r.next,p',c',r.ss++[s]⟩ i→RdF r i∨SdF s i∨w.heap.size≤i:=by
 have hk1:Keeps (PF r.p) w w1:=hg.keeps fun _ a ha=>⟨a,ha,rfl⟩
 have hk2:Keeps (fun i=>i=r.b) w1 w':=hp.keeps rfl
 have hk:Keeps (RdF r) w w':=(hk1.mono fun i hi=> .inr (.inl hi)).trans (hk2.mono fun i hi=> .inl hi)
 have hPF:∀i,PF p' i→PF r.p i∨w.heap.size≤i:=fun i ⟨a,ha,e⟩=>by
  rcases hg.place a ha with⟨b,h1,h2,_⟩|q
  ·exact .inl ⟨b,h1,by rw[←h2];exact e⟩
  ·exact .inr (by omega)
 have hb1:Whole w1 r.b T.ring_Ring _:=h.blk.keeps hk1 fun e=>h.off2.1 e
 have hlen:(r.ss++[s]).length=r.ss.length+1:=by simp
 have hlt:∀i,SsF (r.ss++[s]) i→i<w.heap.size:=fun i hi=>by
  rcases SsF.append.1 hi with q|q
  ·exact h.lt (.inr (.inr q))
  ·exact hs.lt (SsF.one.1 q)
 refine⟨⟨?_,?_,fun t ht=>?_,?_,fun i hi hl=>?_,⟨fun hi=>?_,fun hl=>?_⟩,h.lo⟩,hk,fun i hi=>?_⟩
 ·show Whole _ _ _ [_,_,_,_, .slice _ (r.ss++[s]).length _]
  rw[hlen]
  exact hb1.put hp (show 5≤5 by omega)
 ·show Own _ _ _ _ _ (r.ss++[s]).length _ ((r.ss++[s]).map Sd.ptr)
  rw[hlen,List.map_append]
  exact(hg.own hY fun a ha=>(h.row.lt a ha).2.1).keeps hk2 fun a ha e=>by
   rcases hPF _ ⟨a,ha,rfl⟩ with q|q
   ·rw[e] at q;exact h.off2.1 q
   ·have:=h.blk.lt;omega
 ·rcases List.mem_append.1 ht with q|q
  ·exact⟨(h.each t q).1.keeps ((hk1.mono fun i hi=>Or.inl hi).trans (hk2.mono fun i hi=>Or.inr hi)) fun i hi e=>by
    rcases hi with hi|hi
    ·exact h.off1 i hi ⟨t,q,e⟩
    ·exact h.off2.2 ⟨t,q,by rw[←hi];exact e⟩,(h.each t q).2⟩
  ·rw[List.mem_singleton] at q
   subst q
   exact⟨hs.keeps hk fun i hi e=>hn i e hi,hm⟩
 ·exact List.pairwise_append.2 ⟨h.sep,List.pairwise_singleton _ _,fun t ht u hu i hi e=>by rw[List.mem_singleton] at hu;subst hu;exact hn i e (.inr (.inr ⟨t,ht,hi⟩))⟩
 ·rcases hPF i hi with q|q
  ·rcases SsF.append.1 hl with u|u
   ·exact h.off1 i q u
   ·exact hn i (SsF.one.1 u) (.inr (.inl q))
  ·have:=hlt i hl
   omega
 ·rcases hPF _ hi with q|q
  ·exact h.off2.1 q
  ·have:=h.blk.lt
   change w.heap.size≤r.b at q
   omega
 ·rcases SsF.append.1 hl with u|u
  ·exact h.off2.2 u
  ·exact hn _ (SsF.one.1 u) (.inl rfl)
 ·rcases hi with q|q|q
  ·exact .inl (.inl q)
  ·rcases hPF i q with u|u
   ·exact .inl (.inr (.inl u))
   ·exact .inr (.inr u)
  ·rcases SsF.append.1 q with u|u
   ·exact .inl (.inr (.inr u))
   ·exact .inr (.inl (SsF.one.1 u))
theorem RingMid.last (h:RingMid w r) (hss:r.ss=ss++[s]) {s':Sd} (hs:SheetAt w' s') (hm:s'.most=r.page) (hb:s'.b=s.b) (hF:∀i,SdF s' i→SdF s i∨w.heap.size≤i) (hk:Keeps (SdF s) w w'):RingMid w' ⟨r.b,r.most,r.page,r.first,r.next,r.p,r.c,ss++[s']⟩∧∀i,RdF ⟨r.b,r.most,r.page,r.first,r.next,r.p,r.c,ss++[s']⟩ i→RdF r i∨w.heap.size≤i:=by
 have hmem:s∈r.ss:=by rw[hss];simp
 have hsub:∀t∈ss,t∈r.ss:=fun t ht=>by rw[hss];simp[ht]
 have hsep:=h.sep
 rw[hss] at hsep
 have hp:=List.pairwise_append.1 hsep
 have hlen:(ss++[s']).length=r.ss.length:=by rw[hss];simp
 have hin:∀i,SsF (ss++[s']) i→SsF r.ss i∨w.heap.size≤i:=fun i hi=>by
  rcases SsF.append.1 hi with⟨t,ht,q⟩|q
  ·exact .inl ⟨t,hsub t ht,q⟩
  ·rcases hF i (SsF.one.1 q) with u|u
   ·exact .inl ⟨s,hmem,u⟩
   ·exact .inr u
 refine⟨⟨?_,?_,fun t ht=>?_,?_,fun i hi hl=>?_,⟨h.off2.1,fun hl=>?_⟩,h.lo⟩,fun i hi=>?_⟩
 ·show Whole _ _ _ [_,_,_,_, .slice _ (ss++[s']).length _]
  rw[hlen]
  exact h.blk.keeps hk fun e=>h.off2.2 ⟨s,hmem,e⟩
 ·show Own _ _ _ _ _ (ss++[s']).length _ ((ss++[s']).map Sd.ptr)
  have:(ss++[s']).map Sd.ptr=r.ss.map Sd.ptr:=by rw[hss];simp[Sd.ptr,hb]
  rw[hlen,this]
  exact h.row.keeps hk fun a ha e=>h.off1 _ ⟨a,ha,rfl⟩ ⟨s,hmem,e⟩
 ·rcases List.mem_append.1 ht with q|q
  ·exact⟨(h.each t (hsub t q)).1.keeps hk fun i hi e=>hp.2.2 t q s (by simp) i e hi,(h.each t (hsub t q)).2⟩
  ·rw[List.mem_singleton] at q
   subst q
   exact⟨hs,hm⟩
 ·refine List.pairwise_append.2 ⟨hp.1,List.pairwise_singleton _ _,fun t ht u hu i hi e=>?_⟩
  rw[List.mem_singleton] at hu
  subst hu
  rcases hF i e with q|q
  ·exact hp.2.2 t ht s (by simp) i hi q
  ·have:=(h.each t (hsub t ht)).1.lt hi
   omega
 ·rcases hin i hl with q|q
  ·exact h.off1 i hi q
  ·have:=h.lt (.inr (.inl hi))
   omega
 ·rcases hin _ hl with q|q
  ·exact h.off2.2 q
  ·have:=h.blk.lt
   change w.heap.size≤r.b at q
   omega
 ·rcases hi with q|q|q
  ·exact .inl (.inl q)
  ·exact .inl (.inr (.inl q))
  ·rcases hin i q with u|u
   ·exact .inl (.inr (.inr u))
   ·exact .inr u
end
end Go.Proofs.YtjhhiindeignaaaGreatDoor
namespace Go.Proofs.YtjhhiindeignaaaGreatDoor
open Go Go.RowKit Go.Sy Go.Rep
set_option maxRecDepth 100000
set_option maxHeartbeats 2000000
def pushP (page:Nat):List Pg→Li→List Pg
 |[],x=>[⟨page,0,[x]⟩]
 |[p],x=>if p.gone+p.ls.length<p.most then[⟨p.most,p.gone,p.ls++[x]⟩] else[p,⟨page,0,[x]⟩]
 |p::q::ps,x=>p::pushP page (q::ps) x
theorem pushP_snoc {page:Nat} {x:Li} {p:Pg}:∀ps:List Pg,pushP page (ps++[p]) x=if p.gone+p.ls.length<p.most then ps++[⟨p.most,p.gone,p.ls++[x]⟩] else ps++[p,⟨page,0,[x]⟩]
 |[]=>rfl
 |[q]=>by
  show q::pushP page [p] x=_
  rw[pushP]
  split<;>rfl
 |q::q2::ps=>by
  have:=pushP_snoc (page:=page) (x:=x) (p:=p) (q2::ps)
  show q::pushP page (q2::(ps++[p])) x=_
  rw[show q2::(ps++[p])=(q2::ps)++[p] from rfl,this]
  split<;>rfl
def pushR (q:Rg') (x:Li):Rg':=evictR ⟨q.most,q.page,q.first,q.next+1,pushP q.page q.ps x⟩
theorem linesN_append (a b:List Sd):linesN (a++b)=linesN a+linesN b:=by simp[linesN]
section
variable {w w':World} {r:Rd} {l:Lh} {cs:List Cl}
theorem r_ring_Push (hL:Laid w) (h:RingAt w r) (hl:LRow w l cs) (hv:okL cs=true) (hoffl:∀a,l.cells.p=some a→¬RdF r a.block) (hmost:linesN r.ss≤r.most) (hnext:r.next<4611686018427387904):Gets Tryz.prog X.ring_Push #[r.ptr, .agg l.arr] w (RdF r) (fun v w'=>v= .tuple #[.int .i64 r.next, .int .i64 0]∧ModR w r (pushR r.rg ⟨cs,l.soft⟩) w'):=by
 have hY:=hL.size
 have hm0:=h.m
 have hpg1:=h.p1
 have hpg2:=h.p2
 refine v_ring_Push _ l fun n1 hn1 w1 hb1 hm1=>(r_ring_zero (h.below hb1)).runs fun w2 hk2=>⟨_,rfl,hk2.nix,fun e=>(nomatch e),fun _ w3 hb3 hm3=>?_⟩
 have k3:=((Keeps.of_below hb1).trans hk2).trans (Keeps.of_below hb3)
 refine(r_line_Valid (Laid.nix k3 hL) (hl.nix k3)).runs fun w4 hk4=>⟨_,rfl,hk4.nix,fun e=>(by rw[hv] at e;cases e),fun _=>?_⟩
 have k4:=k3.trans hk4
 have h4:=h.nix k4
 let I:World→Prop:=fun v=>Keeps (RdF r) w v∧∃(p:Option Addr) (c:Nat) (ss:List Sd) (s:Sd),RingMid v ⟨r.b,r.most,r.page,r.first,r.next,p,c,ss++[s]⟩∧(∀t∈ss,0<t.xs.length)∧s.gone+s.xs.length<s.most∧linesN (ss++[s])=linesN r.ss∧
  (∀i,RdF ⟨r.b,r.most,r.page,r.first,r.next,p,c,ss++[s]⟩ i→(RdF r i∨w.heap.size≤i)∧i≠n1)∧ss.map Sd.sh++[⟨s.most,s.gone,lis s.xs++[⟨cs,l.soft⟩]⟩]=pushP r.page (r.ss.map Sd.sh) ⟨cs,l.soft⟩
 have fresh:∀{v0 v:World} (bs:List Nat),Keeps Nix w v0→Mine v0 w.heap.size [(n1,T.Line)]→Below v0.heap.size v0 v→pushP r.page (r.ss.map Sd.sh) ⟨cs,l.soft⟩=r.ss.map Sd.sh++[⟨r.page,0,[⟨cs,l.soft⟩]⟩]→True:=fun _ _ _ _ _=>trivial
 have hne:∀i,RdF r i→i≠n1:=fun i hi e=>by have:=h.lt hi;omega
 have mk:∀{v0 v1 v2 v3:World} {s:Sd} {p':Option Addr} {c':Nat},Keeps Nix w v1→w.heap.size≤v1.heap.size→(∀i,SdF s i→w.heap.size≤i∧i≠n1)→NewS v0 ⟨r.page,0,[]⟩ s v1→pushP r.page (r.ss.map Sd.sh) ⟨cs,l.soft⟩=r.ss.map Sd.sh++[⟨r.page,0,[⟨cs,l.soft⟩]⟩]→
   n1<v1.heap.size→Grown v1 [] r.p r.ss.length r.c T.p_sheet_Sheet 1 (r.ss.length+1) (r.ss.map Sd.ptr++[s.ptr]) v2 p' c'→Put v2 [] ⟨r.b,0,none⟩ 4 [.slice p' (r.ss.length+1) c'] v3→I v3:=by
  intro v0 v1 v2 v3 s p' c' kv hsz hsn ⟨hsh,hsat,hnew⟩ hpush hn1l hg hp
  have hmid:=(h.nix kv).mid
  have hms:s.most=r.page:=congrArg Pg.most hsh
  have hgs:s.gone=0:=congrArg Pg.gone hsh
  have hls:lis s.xs=[]:=congrArg Pg.ls hsh
  have hlx:s.xs=[]:=by simpa[lis] using hls
  obtain⟨q1,q2,q3⟩:=hmid.snoc (by omega) hsat hms (fun i hi e=>by have:=h.lt e;have:=(hsn i hi).1;omega) hg hp
  refine⟨(kv.mono fun _ e=>e.elim).trans q2,p',c',r.ss,s,q1,fun t ht=>(h.each t ht).2.2,by rw[hgs,hlx,hms];simp<;>omega,by rw[linesN_append];simp[linesN,hlx],fun i hi=>?_,?_⟩
  ·rcases q3 i hi with u|u|u
   ·exact⟨.inl u,hne i u⟩
   ·exact⟨.inr (hsn i u).1,(hsn i u).2⟩
   ·exact⟨.inr (by omega),by omega⟩
  ·rw[hpush,hgs,hlx,hms]
   rfl
 have room:∀{v:World} {bs:List Nat} {m:Nat},Keeps Nix w v→(∀b∈bs,w.heap.size≤b)→Room w.heap.size (RdF r) bs v T.p_sheet_Sheet 1 r.p r.ss.length r.c (r.ss.map Sd.ptr) m:=fun kv hbs=>by
  refine(h.nix kv).row.room (fun a ha hm=>?_) (fun _ a ha hlt=> .inr (.inl ⟨a,ha,rfl⟩))
  have:=h.lt (.inr (.inl ⟨a,ha,rfl⟩))
  have:=hbs _ hm
  omega
 have few:(r.ss.length+1)*8≤140737488355328:=by
  have:∀ss:List Sd,(∀s∈ss,0<s.xs.length)→ss.length≤linesN ss:=by
   intro ss h
   induction ss with
   |nil=>exact Nat.le_refl _
   |cons s ss ih=>
    rw[linesN_cons]
    have:=h s List.mem_cons_self
    have:=ih fun t ht=>h t (List.mem_cons_of_mem _ ht)
    simp only[List.length_cons];omega
  have q1:=this r.ss fun t ht=>(h.each t ht).2.2
  omega
 have away:∀{bs:List Nat},(∀b∈bs,w.heap.size≤b)→Away w.heap.size (RdF r) bs r.b:=fun hbs=>⟨fun hm=>by have:=hbs _ hm;have:=h.lt (.inl rfl);omega,fun _=> .inl rfl⟩
 refine⟨I,⟨_,_,_,h4.mid.at_ 4 rfl,fun e=>?_,fun e=>?_⟩,?_⟩
 ·
  have hss:r.ss=[]:=List.eq_nil_of_length_eq_zero (by omega)
  refine⟨_,h4.mid.at_ 1 rfl,fun w22 hb22 hm22=>?_⟩
  have k22:=k4.trans (Keeps.of_below hb22)
  refine(r_sheet_New (n:=r.page) (Laid.nix k22 hL) hpg1 hpg2).runs fun v w23 hk23 ⟨s,hv,hnew⟩=>?_
  subst hv
  have k23:=k22.trans hk23
  have hn1l:=hm22.lt (d:=n1) (by simp)
  have hs22:=k22.size
  have hs23:=hk23.size
  refine⟨_,_,rfl,hk23.nix,fun e=>absurd rfl e,fun _=>⟨_,_,_,(h.nix k23).mid.at_ 4 rfl,fun n16 hn16=>⟨r.ss.map Sd.ptr,room k23 (by simp<;>omega),few,fun w24 p12 n17 hg hoff=>?_⟩⟩⟩
  have hmid24:=(h.nix k23).mid.blk.keeps (hg.keeps (F:=PF r.p) fun _ a ha=>⟨a,ha,rfl⟩) fun e=>h.off2.1 e
  exact⟨⟨hmid24.can (show 5≤5 by omega),away (by simp<;>omega)⟩,fun w25 hp25 w26 hb26=>by
   have:=mk (v0:=w22) k23 (by omega) (fun i hi=>by have:=hnew.2.2 i hi;omega) hnew (by rw[hss];rfl) (by omega) hg hp25
   obtain⟨a1,p,c,ss,s',a2,a3,a4,a5,a6,a7⟩:=this
   exact⟨a1.trans ((Keeps.of_below hb26).mono fun _ e=>e.elim),p,c,ss,s',a2.below hb26,a3,a4,a5,a6,a7⟩⟩
 ·
  obtain⟨ss,s,hss⟩:∃ss s,r.ss=ss++[s]:=by
   rcases List.eq_nil_or_concat r.ss with q|⟨ss,s,q⟩
   ·rw[q] at e;exact absurd rfl e
   ·exact⟨ss,s,by simpa using q⟩
  have hlen:r.ss.length=ss.length+1:=by rw[hss];simp
  have hmem:s∈r.ss:=by rw[hss];simp
  obtain⟨hs,hsm,hs0⟩:=h.each s hmem
  obtain⟨a,ha⟩:=h4.row.row.some_ (by omega:0<r.ss.length)
  have hat:∀{v:World},RingAt v r→At v a ((Int.toNat ((r.ss.length:Int)-1))*1) [s.ptr]:=fun hv=>Row.at_ hv.row.row ha _ (us:=[s.ptr]) (by
   rw[show((r.ss.length:Int)-1).toNat*1=ss.length by omega,hss,List.map_append,List.drop_append_of_le_length (by simp),List.drop_of_length_le (by simp)]
   rfl)
  have hshs:r.ss.map Sd.sh=ss.map Sd.sh++[s.sh]:=by rw[hss];simp
  have hll:s.sh.ls.length=s.xs.length:=by simp[Sd.sh,lis]
  refine⟨_,_,_,h4.mid.at_ 4 rfl,by unfold I64;omega,a,ha,⟨by omega,by omega⟩,_,hat h4,fun w13 hb13 hm13=>?_⟩
  have k13:=k4.trans (Keeps.of_below hb13)
  have hroom:=(hs.nix k13).room
  refine(r_sheet_Room (hs.nix k13)).runs fun w14 hk14=>⟨_,rfl,hk14.nix,fun e2=>?_,fun e2 w15 hb15=>?_⟩
  ·have k14:=k13.trans hk14
   refine⟨_,(h.nix k14).mid.at_ 1 rfl,fun w16 hb16 hm16=>?_⟩
   have k16:=k14.trans (Keeps.of_below hb16)
   refine(r_sheet_New (n:=r.page) (Laid.nix k16 hL) hpg1 hpg2).runs fun v w17 hk17 ⟨s',hv,hnew⟩=>?_
   subst hv
   have k17:=k16.trans hk17
   have hn1l:=hm16.lt (d:=n1) (by simp)
   have hs16:=k16.size
   have hs17:=hk17.size
   refine⟨_,_,rfl,hk17.nix,fun e=>absurd rfl e,fun _=>⟨_,_,_,(h.nix k17).mid.at_ 4 rfl,fun n12 hn12=>⟨r.ss.map Sd.ptr,room k17 (by simp<;>omega),few,fun w18 p9 n13 hg hoff=>?_⟩⟩⟩
   have hmid18:=(h.nix k17).mid.blk.keeps (hg.keeps (F:=PF r.p) fun _ a ha=>⟨a,ha,rfl⟩) fun e=>h.off2.1 e
   exact⟨⟨hmid18.can (show 5≤5 by omega),away (by simp<;>omega)⟩,fun w19 hp19 w20 hb20=>by
    have:=mk (v0:=w16) k17 (by omega) (fun i hi=>by have:=hnew.2.2 i hi;omega) hnew (by rw[hshs,pushP_snoc,if_neg (by rw[hll];show ¬s.gone+s.xs.length<s.most;omega)];simp) (by omega) hg hp19
    obtain⟨a1,p,c,ss,s',a2,a3,a4,a5,a6,a7⟩:=this
    exact⟨a1.trans ((Keeps.of_below hb20).mono fun _ e=>e.elim),p,c,ss,s',a2.below hb20,a3,a4,a5,a6,a7⟩⟩
  ·have k15:=(k13.trans hk14).trans (Keeps.of_below hb15)
   have h15:=(h.nix k15).mid
   have er:(⟨r.b,r.most,r.page,r.first,r.next,r.p,r.c,ss++[s]⟩:Rd)=r:=by rw[←hss]
   refine⟨k15.mono fun _ e=>e.elim,r.p,r.c,ss,s,by rw[er];exact h15,fun t ht=>(h.each t (by rw[hss];simp[ht])).2.2,by omega,by rw[hss],fun i hi=>?_,?_⟩
   ·rw[er] at hi
    exact⟨.inl hi,hne i hi⟩
   ·rw[hshs,pushP_snoc,if_pos (by rw[hll];show s.gone+s.xs.length<s.most;omega)]
    rfl
 ·rintro w5 hk5 ⟨kI,p,c,ss,s,hmid,hpos,hroom,hlin,hF,hpush⟩
  obtain⟨hs,hsm⟩:=hmid.each s (by simp)
  have hlen:(ss++[s]).length=ss.length+1:=by simp
  obtain⟨a,ha⟩:=hmid.row.row.some_ (by simp:0<(ss++[s]).length)
  have hat:At w5 a ((Int.toNat (((ss++[s]).length:Int)-1))*1) [s.ptr]:=Row.at_ hmid.row.row ha _ (us:=[s.ptr]) (by
   rw[show(((ss++[s]).length:Int)-1).toNat*1=ss.length by omega,List.map_append,List.drop_append_of_le_length (by simp),List.drop_of_length_le (by simp)]
   rfl)
  have hbig:ss.length+1<9223372036854775807:=by
   have:=Own.bound hmid.row
   have e:maxLen=9223372036854775807:=by decide
   have h2:=(ss++[s]).length
   rw[hlen,e] at this
   have q:∀ss:List Sd,(∀s∈ss,0<s.xs.length)→ss.length≤linesN ss:=by
    intro ss h
    induction ss with
    |nil=>exact Nat.le_refl _
    |cons s ss ih=>
     rw[linesN_cons]
     have:=h s List.mem_cons_self
     have:=ih fun t ht=>h t (List.mem_cons_of_mem _ ht)
     simp only[List.length_cons];omega
   have:=q ss hpos
   rw[linesN_append] at hlin
   omega
  refine⟨_,_,_,hmid.at_ 4 rfl,_,_,_,hmid.at_ 4 rfl,by unfold I64;rw[hlen];omega,a,ha,⟨by rw[hlen];omega,by omega⟩,_,hat,fun w6 hb6 hm6=>?_⟩
  have hL5:Laid w5:=hL.keeps kI fun i hi=>h.low hi
  have hL6:=Laid.below hb6 hL5
  have hmid6:=hmid.below hb6
  have hl6:LRow w6 l cs:=CRow.keeps hl (kI.trans ((Keeps.of_below hb6).mono fun _ e=>e.elim)) hoffl
  refine(r_sheet_Push hL6 (hs.below hb6) hl6 hv hroom).runs fun v w7 hk7 ⟨hv7,s',hb',hsh',hs',hF'⟩=>?_
  subst hv7
  obtain⟨q1,q2⟩:=hmid6.last (ss:=ss) (s:=s) rfl hs' (by have:=congrArg Pg.most hsh';exact this.trans hsm) hb' hF' hk7
  have hn1l:=hm6.lt (d:=n1) (by simp)
  have hsz:=hk5.size
  have hsz6:=hb6.size
  have hsz7:=hk7.size
  have hSF:∀i,SdF s i→RdF ⟨r.b,r.most,r.page,r.first,r.next,p,c,ss++[s]⟩ i:=fun i hi=> .inr (.inr ⟨s,by simp,hi⟩)
  have hF7:∀i,RdF ⟨r.b,r.most,r.page,r.first,r.next,p,c,ss++[s']⟩ i→(RdF r i∨w.heap.size≤i)∧i≠n1:=fun i hi=>by
   rcases q2 i hi with u|u
   ·exact hF i u
   ·exact⟨.inr (by omega),by omega⟩
  have kI7:Keeps (RdF r) w w7:=(kI.trans ((Keeps.of_below hb6).mono fun _ e=>e.elim)).after hk7 fun i hlt hi=>((hF i (hSF i hi)).1).resolve_right (by omega)
  refine⟨0,rfl,hk7.kept (fun i hi hlt=>((hF i (hSF i hi)).1).resolve_right (by omega)) fun i hi _ hm=>(hF i (hSF i hi)).2 (by simpa using hm),fun e=>absurd rfl e,fun _=>⟨(r.next:Int),q1.at_ 3 rfl,by unfold I64;omega,⟨q1.blk.can (show 4≤5 by omega),away (by simp<;>omega)⟩,fun w8 hp8 w9 hb9 hm9=>?_⟩⟩
  have en:((r.next:Int)+1)=((r.next+1:Nat):Int):=by omega
  rw[show(Value.int .i64 ((r.next:Int)+1))= .int .i64 ((r.next+1:Nat):Int) by rw[en]] at hp8
  obtain⟨u1,u2⟩:=q1.next hp8
  have hls:lis s'.xs=lis s.xs++[⟨cs,l.soft⟩]:=congrArg Pg.ls hsh'
  have hsx:s'.xs.length=s.xs.length+1:=by
   have:=congrArg List.length hls
   simpa[lis] using this
  have hlin':linesN (ss++[s'])=linesN r.ss+1:=by
   rw[←hlin,linesN_append,linesN_append]
   simp[linesN]
   omega
  have hnum:=h.num
  have hring:=(u1.below hb9).ring (fun t ht=>by
   rcases List.mem_append.1 ht with q|q
   ·exact hpos t q
   ·rw[List.mem_singleton] at q;subst q;omega) hm0 hpg1 hpg2 (by show r.next+1=r.first+linesN (ss++[s']);omega) (by show r.next+1≤_;omega) (by show linesN (ss++[s'])≤_;omega)
  have kI9:Keeps (RdF r) w w9:=(kI7.trans (u2.mono fun i hi=> .inl hi)).trans ((Keeps.of_below hb9).mono fun _ e=>e.elim)
  have hL9:Laid w9:=hL.keeps kI9 fun i hi=>h.low hi
  refine(r_ring_evict hL9 hring).runs fun v w10 hk10 ⟨hv10,r',hb10,hrg10,hr10,hF10⟩=>?_
  subst hv10
  have hsz9:=kI9.size
  have hn19:=hm9.lt (d:=n1) (by simp)
  have enx:r'.next=r.next+1:=congrArg Rg'.next hrg10
  have hbb:r'.b=r.b:=hb10
  refine⟨rfl,hk10.kept (fun i hi hlt=>((hF7 i hi).1).resolve_right (by omega)) fun i hi _ hm=>(hF7 i hi).2 (by simpa using hm),(r'.next:Int),by have:=hr10.mid.at_ 3 (us:=[.int .i64 r'.next]) rfl;rw[hbb] at this;exact this,by unfold I64;omega,fun w' hb _=>⟨?_,r',hbb,?_,hr10.below hb,fun i hi=>?_⟩⟩
  ·rw[enx,show(((r.next+1:Nat):Int)-1)=(r.next:Int) by omega]
  ·rw[hrg10]
   unfold pushR
   congr 1
   show Rg'.mk _ _ _ _ ((ss++[s']).map Sd.sh)=Rg'.mk _ _ _ _ (pushP r.page (r.ss.map Sd.sh) _)
   rw[←hpush,List.map_append]
   show Rg'.mk _ _ _ _ (_++[s'.sh])=_
   rw[hsh']
   rfl
  ·rcases hF10 i hi with u|u
   ·exact(hF7 i u).1
   ·exact .inr (by omega)
end
end Go.Proofs.YtjhhiindeignaaaGreatDoor
namespace Go.Proofs.YtjhhiindeignaaaGreatDoor
open Go Go.RowKit Go.Sy Go.Rep Go.Shelf
attribute [local go_sem] Oper.semAt_some
set_option maxRecDepth 100000
set_option maxHeartbeats 4000000
theorem pages_seq' (rb:Nat) (ro:Nat) (rp:Option Nat) (vs:List Addr) (p:Option Addr) (c:Nat) (hp:p=none→vs=[]) (hbig:vs.length<4611686018427387904):
  Seq1 Tryz.prog X.ring_pages #[.pointer (some ⟨rb,ro,rp⟩)] #[] vs fun V=>At V ⟨rb,ro,rp⟩ 4 [.slice p vs.length c]∧∀q,p=some q→At V q 0 (vs.map fun x=> .pointer (some x)):=by
 intro l J W hS hN hY h0
 have hY':∀i x V,vs[i]? =some x→J i V→∃fn tmps asg body,(Instr.yield l #[.pointer (some x)]).run Tryz.prog V= .ok (.round l fn tmps asg body) V∧∀n,RoundIn (wideR none) n Tryz.prog l fn tmps asg body V fun e V'=>e= .returned (.bool true)∧J (i+1) V':=hY
 clear hY
 refine CallsIn.calls (F:=wideR none) (n:=0) ?_ (fun k=>(fun _ h=>by cases h))
 have hro:(wideR none).round=none:=rfl
 have hfn:(wideR none).fn 194:=trivial
 have hdep:(wideR none).depth=none:=rfl
 generalize wideR none=Fc at hY' hro hfn hdep⊢
 have hdep':Fc.depth.isSome=true→1≤0:=fun e=>by rw[hdep] at e;cases e
 have need:∀i V,J i V→V.cell? ⟨rb,ro+4,none⟩=some (.slice p vs.length c)∧∀q (j:Nat) x,p=some q→vs[j]? =some x→V.cell? (q.add j)=some (.pointer (some x)):=by
  intro i V hj
  obtain⟨V0,rc,k1,k2,k3,k4⟩:=hN i V hj
  have tr:∀(a:Addr) v,V0.cell? a=some v→V.cell? a=some v:=by
   intro a v hv
   have hne:a.block≠l:=by
    intro e
    unfold World.cell? at hv
    rw[e,k1] at hv
    cases hv
   have hlt:a.block<V0.heap.size:=by
    rcases Nat.lt_or_ge a.block V0.heap.size with h|h
    ·exact h
    ·unfold World.cell? at hv
     rw[Array.getElem?_eq_none h] at hv
     cases hv
   rw[World.cell?_of_block (k2.heap _ hlt (by simpa using hne))]
   exact hv
  refine⟨tr _ _ ?_,fun q j x hq hx=>tr _ _ ?_⟩
  ·have:=k3 0 _ rfl
   simpa[Addr.add] using this
  ·have:=k4 q hq j (.pointer (some x)) (by simp[hx])
   simpa using this
 have hhd:=(need 0 W h0).1
 refine callsIn_of_wp Tryz.func194 rfl hfn ?_ hro
 simp only[Tryz.ntmps194,List.size_toArray,List.length_cons,List.length_nil,Nat.reduceAdd,Nat.reduceSub,Array.replicate_succ,Array.replicate_zero,List.push_toArray,List.append_toArray,List.nil_append,List.cons_append]
 gi_wp2
 gi_loopw [11] (fun i wr=>∃k:Nat,i= .int .i64 (k:Int)∧k≤vs.length∧J k wr) (fun i _=>vs.length-(intOf i).toNat)
 case atStart=>exact⟨0,rfl,Nat.zero_le _,h0⟩
 case round=>
  obtain⟨k,rfl,hk,hJ⟩:=hrel
  by_cases hlt:k<vs.length
  ·obtain⟨x,hx⟩:∃x,vs[k]? =some x:=⟨_,List.getElem?_eq_getElem hlt⟩
   obtain⟨q,rfl⟩:∃q,p=some q:=by
    cases p with
    |none=>rw[hp rfl] at hlt;simp at hlt
    |some q=>exact⟨q,rfl⟩
   have hcell:=(need k wr hJ).2 q k x rfl hx
   have h1:(k:Int)<(vs.length:Int):=by omega
   have h2:¬((k:Int)<0):=by omega
   gi_wp2
   obtain⟨fn,tm,asg,bd,e1,e2⟩:=hY' k x wr hx hJ
   rw[e1,Oper.uponIn_round]
   refine⟨hdep',RoundIn.mono (e2 _) ?_⟩
   rintro e W' ⟨rfl,hJ'⟩
   have h3:I64 ((k:Int)+1):=by simp only[I64];omega
   gi_wp2
   have hn:∀W,(Op.unary UnOp.not (Value.bool true)).run Tryz.prog W= .ok (.bool false) W:=fun _=>rfl
   rw[hn]
   simp only[Result.andThen_ok,Oper.uponIn_value]
   gi_wp2
   go_roundw
   case rel=>exact⟨k+1,by congr 1,by omega,hJ'⟩
   case measure=>go_light;simp[intOf];omega
  ·have h1:¬((k:Int)<(vs.length:Int)):=by omega
   gi_wp2
   obtain rfl:k=vs.length:=by omega
   exact⟨rfl, .tuple #[],results_none rfl _ _ _,⟨_,rfl⟩,hJ⟩
theorem pages_seq (r:Addr) (vs:List Addr) (p:Option Addr) (c:Nat) (hp:p=none→vs=[]) (hbig:vs.length<4611686018427387904):
  Seq1 Tryz.prog X.ring_pages #[.pointer (some r)] #[] vs fun V=>At V r 4 [.slice p vs.length c]∧∀q,p=some q→At V q 0 (vs.map fun x=> .pointer (some x)):=
 pages_seq' r.block r.off r.spot vs p c hp hbig
end Go.Proofs.YtjhhiindeignaaaGreatDoor
namespace Go.Proofs.YtjhhiindeignaaaGreatDoor
open Go Go.RowKit Go.Sy Go.Rep
set_option maxRecDepth 100000
theorem v_ring_Copy {w0:World} {F:Nat→Prop} {Q:Value→World→Prop} (r:Addr) (h:∀w1:World,(Below w0.heap.size w0 w1)→Runs Tryz.prog X.ring_zero #[(.pointer (some r))] w1 (fun e1 w2=>∃b1:Bool,(e1=(.returned (.bool b1)))∧((Kept w0.heap.size F [] w1 w2)∧(((b1=true)→Fin w0 F w2 Q (.pointer none))∧((b1=false)→∃i1 i2 i3 i4:Int,∃p1:Option Addr,∃n1 n2:Nat,(At w2 r 0 [(.int .i64 i1),(.int .i64 i2),(.int .i64 i3),(.int .i64 i4),(.slice p1 n1 n2)])∧∀n3:Nat,(w2.heap.size≤n3)→∀n4 n5:Nat,(w2.heap.size≤n5)→(n5<n4)→∃s1:List Addr,∃I1:World→Prop,∃I2:Nat→Int→Int→Int→Int→Option Addr→Nat→Nat→World→Prop,(Seq1 Tryz.prog X.ring_pages #[(.pointer (some r))] #[] s1 I1)∧((∀w11:World,(Below w2.heap.size w2 w11)→(n4<w11.heap.size)→(I2 0 i1 i2 i3 i4 none 0 0 w11)∧(I1 w11))∧((∀n8:Nat,∀a1:Addr,((s1[n8]?)=(some a1))→∀i9 i10 i11 i12:Int,∀p3:Option Addr,∀n9 n10:Nat,∀w6:World,(Keeps F w0 w6)→(n4<w6.heap.size)→(I2 n8 i9 i10 i11 i12 p3 n9 n10 w6)→(I1 w6)→∀w7:World,(Below w6.heap.size w6 w7)→(Mine w7 w0.heap.size [(n3,T.ring_Ring)])→Runs Tryz.prog X.sheet_Copy #[(.pointer (some a1))] w7 (fun e2 w8=>∃p4:Option Addr,(e2=(.returned (.pointer p4)))∧((Kept w0.heap.size F [n3,n4,n5] w7 w8)∧∀n11:Nat,(w8.heap.size≤n11)→∃s2:List Value,(Room w0.heap.size F [n3,n11] w8 T.p_sheet_Sheet 1 p3 n9 n10 s2 1)∧((((n9+1)*8)≤140737488355328)∧∀w9:World,∀p5:Option Addr,∀n12:Nat,(Grown w8 [] p3 n9 n10 T.p_sheet_Sheet 1 (n9+1) (s2++[(.pointer p4)]) w9 p5 n12)→(∀a2:Addr,(p5=(some a2))→¬(a2.block∈[n3,n11]))→∀w10:World,(Ext w9 [n3] w10)→(I2 (n8+1) i9 i10 i11 i12 p5 (n9+1) n12 w10)∧(I1 w10)))))∧∀i5 i6 i7 i8:Int,∀p2:Option Addr,∀n6 n7:Nat,∀w3 w4:World,(Keeps F w0 w3)→(n4<w3.heap.size)→(I2 (s1.length) i5 i6 i7 i8 p2 n6 n7 w3)→(I1 w3)→(Ext w3 [n4] w4)→(Keeps F w0 w4)→∀w5:World,(Ext w4 [n5] w5)→(Keeps F w0 w5)→((w0.heap.size≤n3)∧(Whole w5 n3 T.ring_Ring [(.int .i64 i5),(.int .i64 i6),(.int .i64 i7),(.int .i64 i8),(.slice p2 n6 n7)]))→Q (.pointer (some ⟨n3,0,none⟩)) w5))))))):Gets Tryz.prog X.ring_Copy #[(.pointer (some r))] w0 F Q:=
 func_run mixed [⟨7,[],[0]⟩] [] X.ring_Copy [SV.adr r 0] ⟨by trivial,trivial⟩ (by kernel_rfl) (by kernel_rfl) h
theorem v_ring_Range {w0:World} {F:Nat→Prop} {Q:Value→World→Prop} (r:Addr) (frm:Int) (to:Int) (h:∀n1:Nat,(w0.heap.size≤n1)→∀n2:Nat,(w0.heap.size≤n2)→∀n3:Nat,(w0.heap.size≤n3)→∀n4:Nat,(w0.heap.size≤n4)→∀w1:World,(Below w0.heap.size w0 w1)→(Mine w1 w0.heap.size [(n1,T.int),(n2,T.int),(n3,T.s_Line),(n4,T.Errno)])→Runs Tryz.prog X.ring_zero #[(.pointer (some r))] w1 (fun e1 w2=>∃b1:Bool,(e1=(.returned (.bool b1)))∧((Kept w0.heap.size F [n1,n2,n3,n4] w1 w2)∧(((b1=true)→FinE w0 F w2 [n4,n3] Q (.tuple #[(.slice none 0 0),(.int .i64 1)]))∧((b1=false)→((frm<0)→FinE w0 F w2 [n4,n3] Q (.tuple #[(.slice none 0 0),(.int .i64 3)]))∧(((0:Int)≤frm)→((to<frm)→FinE w0 F w2 [n4,n3] Q (.tuple #[(.slice none 0 0),(.int .i64 3)]))∧((frm≤to)→∃i1:Int,(At w2 r 3 [(.int .i64 i1)])∧(((i1<to)→FinE w0 F w2 [n4,n3] Q (.tuple #[(.slice none 0 0),(.int .i64 3)]))∧((to≤i1)→∃i2:Int,(At w2 r 2 [(.int .i64 i2)])∧(((frm<i2)→FinE w0 F w2 [n4,n3] Q (.tuple #[(.slice none 0 0),(.int .i64 14)]))∧((i2≤frm)→∀n5:Nat,(w2.heap.size≤n5)→∃i3:Int,(At w2 r 2 [(.int .i64 i3)])∧∀n6:Nat,(w2.heap.size≤n6)→∀n7 n8:Nat,(w2.heap.size≤n8)→(n8<n7)→∃s1:List Addr,∃I1:World→Prop,∃I2:Nat→Option Addr→Nat→Nat→Int→World→Prop,(Seq1 Tryz.prog X.ring_pages #[(.pointer (some r))] #[] s1 I1)∧((∀w16:World,(Below w2.heap.size w2 w16)→(n7<w16.heap.size)→(I2 0 none 0 0 i3 w16)∧(I1 w16))∧((∀n11:Nat,∀a1:Addr,((s1[n11]?)=(some a1))→∀p2:Option Addr,∀n12 n13:Nat,∀i5:Int,∀w6:World,(Keeps F w0 w6)→(n7<w6.heap.size)→(I2 n11 p2 n12 n13 i5 w6)→(I1 w6)→∀w7:World,(Below w6.heap.size w6 w7)→(Mine w7 w0.heap.size [(n1,T.int),(n2,T.int),(n3,T.s_Line),(n4,T.Errno),(n5,T.s_Line),(n6,T.int)])→Runs Tryz.prog X.sheet_Len #[(.pointer (some a1))] w7 (fun e2 w8=>∃i6:Int,(e2=(.returned (.int .i64 i6)))∧((Kept w0.heap.size F [n1,n2,n3,n4,n5,n6,n7,n8] w7 w8)∧((I64 (frm-i5))∧∃I3:Int→Option Addr→Nat→Nat→World→Prop,∃I4:Int→Option Addr→Nat→Nat→Nat,(∀w15:World,(Below w8.heap.size w8 w15)→I3 (max 0 (frm-i5)) p2 n12 n13 w15)∧∀i7:Int,∀p3:Option Addr,∀n14 n15:Nat,∀w9:World,(Keeps F w0 w9)→(I3 i7 p3 n14 n15 w9)→(I64 (to-i5))∧(((i7<(min i6 (to-i5)))→∀w11:World,(Below w9.heap.size w9 w11)→(Mine w11 w0.heap.size [(n1,T.int),(n2,T.int),(n3,T.s_Line),(n4,T.Errno),(n5,T.s_Line),(n6,T.int)])→Runs Tryz.prog X.sheet_Get #[(.pointer (some a1)),(.int .i64 i7)] w11 (fun e3 w12=>∃lh1:Lh,∃i8:Int,(e3=(.returned (.tuple #[(.agg lh1.arr),(.int .i64 i8)])))∧((Kept w0.heap.size F [n1,n2,n3,n4,n5,n6,n7,n8] w11 w12)∧∀n16:Nat,(w12.heap.size≤n16)→((i8≠0)→False)∧((i8=0)→∀n17:Nat,(w12.heap.size≤n17)→∃s2:List Value,(Room w0.heap.size F [n1,n2,n3,n4,n5,n6,n16,n17] w12 T.Line 2 p3 n14 n15 s2 1)∧((((n14+1)*32)≤140737488355328)∧∀w13:World,∀p4:Option Addr,∀n18:Nat,(Grown w12 [] p3 n14 n15 T.Line 2 (n14+1) (s2++lh1.arr.toList) w13 p4 n18)→(∀a2:Addr,(p4=(some a2))→¬(a2.block∈[n1,n2,n3,n4,n5,n6,n16,n17]))→(I64 (i7+1))∧∀w14:World,(Ext w13 [n5] w14)→(I3 (i7+1) p4 (n14+1) n18 w14)∧(I4 (i7+1) p4 (n14+1) n18<I4 i7 p3 n14 n15))))))∧(((min i6 (to-i5))≤i7)→(I64 (i5+i6))∧∀w10:World,(Ext w9 [n6] w10)→(I2 (n11+1) p3 n14 n15 (i5+i6) w10)∧(I1 w10)))))))∧∀p1:Option Addr,∀n9 n10:Nat,∀i4:Int,∀w3 w4:World,(Keeps F w0 w3)→(n7<w3.heap.size)→(I2 (s1.length) p1 n9 n10 i4 w3)→(I1 w3)→(Ext w3 [n7] w4)→(Keeps F w0 w4)→FinE w0 F w4 [n8,n4,n3] Q (.tuple #[(.slice p1 n9 n10),(.int .i64 0)])))))))))))))):Gets Tryz.prog X.ring_Range #[(.pointer (some r)),(.int .i64 frm),(.int .i64 to)] w0 F Q:=
 func_run mixed [⟨11,[],[4,5]⟩,⟨13,[12],[4]⟩] [] X.ring_Range [SV.adr r 0,SV.int IntKind.i64 frm,SV.int IntKind.i64 to] ⟨by trivial,by trivial,by trivial,trivial⟩ (by kernel_rfl) (by kernel_rfl) h
end Go.Proofs.YtjhhiindeignaaaGreatDoor
namespace Go.Proofs.YtjhhiindeignaaaGreatDoor
open Go Go.RowKit Go.Sy Go.Rep
set_option maxRecDepth 100000
set_option maxHeartbeats 2000000
def ShF (p:Option Addr) (ss:List Sd) (i:Nat):Prop:=PF p i∨SsF ss i
structure Shs (w:World) (lo:Nat) (p:Option Addr) (c:Nat) (ss:List Sd):Prop where
 row:Own Y.count w T.p_sheet_Sheet 1 p ss.length c (ss.map Sd.ptr)
 each:∀s∈ss,SheetAt w s
 sep:ss.Pairwise fun s t=>∀i,SdF s i→¬SdF t i
 off:∀i,PF p i→¬SsF ss i
 new:∀i,ShF p ss i→lo≤i
section
variable {w w':World} {lo:Nat} {p:Option Addr} {c:Nat} {ss:List Sd} {s:Sd}
theorem Shs.nil (w:World) (lo:Nat):Shs w lo none 0 []:=⟨Own.nil _ _ _ _,fun s hs=>(by cases hs),List.Pairwise.nil,fun i hi hs=>SsF.nil hs,fun i hi=>by
 rcases hi with⟨a,ha,_⟩|hi
 ·cases ha
 ·exact absurd hi SsF.nil⟩
theorem Shs.keeps {F:Nat→Prop} (h:Shs w lo p c ss) (hk:Keeps F w w') (hF:∀i,F i→¬ShF p ss i):Shs w' lo p c ss:=
 ⟨h.row.keeps hk fun a ha hf=>hF _ hf (.inl ⟨a,ha,rfl⟩),fun s hs=>(h.each s hs).keeps hk fun i hf hi=>hF i hf (.inr ⟨s,hs,hi⟩),h.sep,h.off,h.new⟩
theorem Shs.lt (h:Shs w lo p c ss) {i:Nat} (hi:ShF p ss i):i<w.heap.size:=by
 rcases hi with⟨a,ha,rfl⟩|⟨s,hs,hi⟩
 ·exact(h.row.lt a ha).1
 ·exact(h.each s hs).lt hi
theorem Shs.snoc {p':Option Addr} {c':Nat} (hY:Y.count≤w.heap.size) (hlo:lo≤w.heap.size) (h:Shs w lo p c ss) (hs:SheetAt w s) (hn:∀i,SdF s i→lo≤i∧¬ShF p ss i) (hg:Grown w [] p ss.length c T.p_sheet_Sheet 1 (ss.length+1) (ss.map Sd.ptr++[s.ptr]) w' p' c'):
  Shs w' lo p' c' (ss++[s])∧Keeps (PF p) w w'∧∀i,ShF p' (ss++[s]) i→ShF p ss i∨SdF s i∨w.heap.size≤i:=by
 have hk:Keeps (PF p) w w':=hg.keeps fun _ a ha=>⟨a,ha,rfl⟩
 have hPF:∀i,PF p' i→PF p i∨w.heap.size≤i:=fun i ⟨a,ha,e⟩=>by
  rcases hg.place a ha with⟨b,h1,h2,_⟩|q
  ·exact .inl ⟨b,h1,by rw[←h2];exact e⟩
  ·exact .inr (by omega)
 have hlen:(ss++[s]).length=ss.length+1:=by simp
 have hF:∀i,ShF p' (ss++[s]) i→ShF p ss i∨SdF s i∨w.heap.size≤i:=fun i hi=>by
  rcases hi with q|q
  ·rcases hPF i q with u|u
   ·exact .inl (.inl u)
   ·exact .inr (.inr u)
  ·rcases SsF.append.1 q with u|u
   ·exact .inl (.inr u)
   ·exact .inr (.inl (SsF.one.1 u))
 refine⟨⟨?_,fun t ht=>?_,?_,fun i hi hl=>?_,fun i hi=>?_⟩,hk,hF⟩
 ·rw[hlen,List.map_append]
  exact hg.own hY fun a ha=>(h.row.lt a ha).2.1
 ·rcases List.mem_append.1 ht with q|q
  ·exact(h.each t q).keeps hk fun i hi e=>h.off i hi ⟨t,q,e⟩
  ·rw[List.mem_singleton] at q
   subst q
   exact hs.keeps hk fun i hi e=>(hn i e).2 (.inl hi)
 ·exact List.pairwise_append.2 ⟨h.sep,List.pairwise_singleton _ _,fun t ht u hu i hi e=>by rw[List.mem_singleton] at hu;subst hu;exact(hn i e).2 (.inr ⟨t,ht,hi⟩)⟩
 ·rcases hPF i hi with q|q
  ·rcases SsF.append.1 hl with u|u
   ·exact h.off i q u
   ·exact(hn i (SsF.one.1 u)).2 (.inl q)
  ·rcases SsF.append.1 hl with u|u
   ·have:=h.lt (.inr u);omega
   ·have:=hs.lt (SsF.one.1 u);omega
 ·rcases hF i hi with u|u|u
  ·exact h.new i u
  ·exact(hn i u).1
  ·omega
end
section
variable {w w':World} {r:Rd}
theorem RingAt.pages_few (h:RingAt w r):r.ss.length≤linesN r.ss:=by
 have:∀ss:List Sd,(∀s∈ss,0<s.xs.length)→ss.length≤linesN ss:=by
  intro ss h
  induction ss with
  |nil=>exact Nat.le_refl _
  |cons s ss ih=>
   rw[linesN_cons]
   have:=h s List.mem_cons_self
   have:=ih fun t ht=>h t (List.mem_cons_of_mem _ ht)
   simp only[List.length_cons];omega
 exact this r.ss fun t ht=>(h.each t ht).2.2
def NeedP (r:Rd) (V:World):Prop:=At V ⟨r.b,0,none⟩ 4 [.slice r.p (r.ss.map fun s=>(⟨s.b,0,none⟩:Addr)).length r.c]∧∀q,r.p=some q→At V q 0 ((r.ss.map fun s=>(⟨s.b,0,none⟩:Addr)).map fun x=> .pointer (some x))
theorem RingAt.need (h:RingAt w r):NeedP r w:=by
 refine⟨?_,fun q hq=>?_⟩
 ·rw[List.length_map]
  exact h.mid.at_ 4 rfl
 ·have:=Row.at_ h.row.row hq 0 (us:=r.ss.map Sd.ptr) (by rw[List.drop_zero,List.take_length])
  rw[List.map_map]
  exact this
theorem RingAt.seq (h:RingAt w r):Seq1 Tryz.prog X.ring_pages #[.pointer (some ⟨r.b,0,none⟩)] #[] (r.ss.map fun s=>⟨s.b,0,none⟩) (NeedP r):=by
 have h1:=h.pages_few
 have h2:=h.few
 refine pages_seq ⟨r.b,0,none⟩ _ r.p r.c (fun e=>?_) (by rw[List.length_map];omega)
 have:r.ss.length=0:=by
  rcases Nat.eq_zero_or_pos r.ss.length with q|q
  ·exact q
  ·obtain⟨a,ha⟩:=h.row.row.some_ q
   rw[e] at ha;cases ha
 rw[List.eq_nil_of_length_eq_zero this]
 rfl
theorem r_ring_Copy (hL:Laid w) (h:RingAt w r):Gets Tryz.prog X.ring_Copy #[r.ptr] w Nix (fun v w'=>∃r':Rd,v=r'.ptr∧NewR w r.rg r' w'):=by
 have hY:=hL.size
 refine v_ring_Copy _ fun w1 hb1=>(r_ring_zero (h.below hb1)).runs fun w2 hk2=>⟨_,rfl,hk2.nix,fun e=>(nomatch e),fun _=>?_⟩
 have k2:=(Keeps.of_below hb1).trans hk2
 have h2:=h.nix k2
 have hs2:=k2.size
 have hpf:=h.pages_few
 have hfew:=h.few
 refine⟨_,_,_,_,_,_,_,h2.at_,fun n3 hn3 n4 n5 hn5 h54=>⟨_,_,fun k m pg f nx p n c V=>m=(r.most:Int)∧pg=(r.page:Int)∧f=(r.first:Int)∧nx=(r.next:Int)∧∃ss:List Sd,n=ss.length∧Shs V w.heap.size p c ss∧ss.map Sd.sh=(r.ss.take k).map Sd.sh∧∀i,ShF p ss i→i≠n3∧i≠n4∧i≠n5,
  h.seq,fun w11 hb11 h411=>⟨⟨rfl,rfl,rfl,rfl,[],rfl,Shs.nil _ _,rfl,fun i hi=>?_⟩,(h2.below hb11).need⟩,fun k a hka i9 i10 i11 i12 p n c w6 hk6 h46 hI hN w7 hb7 hm7=>?_,?_⟩⟩
 ·rcases hi with⟨a,ha,_⟩|hi
  ·cases ha
  ·exact absurd hi SsF.nil
 ·obtain⟨rfl,rfl,rfl,rfl,ss,rfl,hS,hsh,hne⟩:=hI
  rw[List.getElem?_map,Option.map_eq_some_iff] at hka
  obtain⟨s,hs,rfl⟩:=hka
  have k7:=hk6.trans (Keeps.of_below hb7)
  have hmem:=List.mem_of_getElem? hs
  have hlt:=(List.getElem?_eq_some_iff.1 hs).1
  have hlen:ss.length=k:=by
   have:=congrArg List.length hsh
   simp at this;omega
  refine(r_sheet_Copy (Laid.nix k7 hL) (((h.each s hmem).1).nix k7)).runs fun v w8 hk8 ⟨s',hv,hsh',hs',hF'⟩=>?_
  subst hv
  have k8:=k7.trans hk8
  have hn3l:=hm7.lt (d:=n3) (by simp)
  have hsz7:=k7.size
  have hsz8:=hk8.size
  have hsz67:=hb7.size
  have hsz6:=hk6.size
  have hS8:Shs w8 w.heap.size p c ss:=hS.keeps ((Keeps.of_below hb7).trans hk8) fun i e=>e.elim
  refine⟨_,rfl,hk8.nix,fun n11 hn11=>⟨ss.map Sd.ptr,hS8.row.room (fun a ha hm=>?_) (fun _ a ha hl=>?_),by omega,fun w9 p5 n12 hg hoff w10 hx10=>?_⟩⟩
  ·have:=(hne _ (.inl ⟨a,ha,rfl⟩)).1
   have:=(hS8.row.lt a ha).1
   simp at hm
   omega
  ·have:=hS8.new _ (.inl ⟨a,ha,rfl⟩)
   omega
  ·obtain⟨q1,q2,q3⟩:=hS8.snoc (by omega) (by omega) hs' (fun i hi=>⟨by have:=hF' i hi;omega,fun e=>by have:=hF' i hi;have:=hS.lt e;omega⟩) hg
   have hne9:∀i,ShF p5 (ss++[s']) i→i≠n3∧i≠n4∧i≠n5:=fun i hi=>by
    rcases q3 i hi with u|u|u
    ·exact hne i u
    ·have:=hF' i u;omega
    ·omega
   have k9:Keeps Nix w w9:=k8.after q2 fun i hi hp=>by have:=hS8.new i (.inl hp);omega
   have k10:Keeps Nix w w10:=k9.after (Ext.keeps hx10) fun i hi hp=>by
    rw[List.mem_singleton] at hp
    omega
   refine⟨⟨rfl,rfl,rfl,rfl,ss++[s'],by simp,q1.keeps (Ext.keeps hx10) fun i hi e=>?_,?_,hne9⟩,(h.nix k10).need⟩
   ·rw[List.mem_singleton] at hi
    exact(hne9 i e).1 hi
   ·rw[List.take_add_one,hs,List.map_append,List.map_append,hsh]
    show _++[s'.sh]=_++[s.sh]
    rw[hsh']
 ·rintro i5 i6 i7 i8 p2 n6 n7 w3 w4 hk3 h43 ⟨rfl,rfl,rfl,rfl,ss,rfl,hS,hsh,hne⟩ hN hx4 hk4 w5 hx5 hk5 ⟨hn3',hw⟩
  have hS4:=hS.keeps (Ext.keeps hx4) fun i hi e=>by rw[List.mem_singleton] at hi;exact(hne i e).2.1 hi
  have hS5:=hS4.keeps (Ext.keeps hx5) fun i hi e=>by rw[List.mem_singleton] at hi;exact(hne i e).2.2 hi
  rw[List.length_map,List.take_length] at hsh
  have hlin:linesN ss=linesN r.ss:=by
   have e:∀ss:List Sd,linesN ss=((ss.map Sd.sh).map fun q=>q.ls.length).sum:=fun ss=>by simp[linesN,Sd.sh,lis,Function.comp_def]
   rw[e,e,hsh]
  refine⟨⟨n3,r.most,r.page,r.first,r.next,p2,n7,ss⟩,rfl,?_,⟨hw,hS5.row,fun s hs=>?_,hS5.sep,hS5.off,⟨fun e=>(hne _ (.inl e)).1 rfl,fun e=>(hne _ (.inr e)).1 rfl⟩,by show Y.count≤n3;omega,h.m,h.p1,h.p2,by show r.next=r.first+linesN ss;rw[hlin];exact h.num,h.small,by show linesN ss≤_;omega⟩,fun i hi=>?_⟩
  ·show Rg'.mk _ _ _ _ (ss.map Sd.sh)=_
   rw[hsh]
   rfl
  ·have hm:s.sh∈r.ss.map Sd.sh:=by rw[←hsh];exact List.mem_map.2 ⟨s,hs,rfl⟩
   obtain⟨t,ht,e⟩:=List.mem_map.1 hm
   obtain⟨_,t1,t2⟩:=h.each t ht
   have e1:t.most=s.most:=congrArg Pg.most e
   have e2:lis t.xs=lis s.xs:=congrArg Pg.ls e
   have e3:t.xs.length=s.xs.length:=by have:=congrArg List.length e2;simpa[lis] using this
   exact⟨hS5.each s hs,by show s.most=r.page;omega,by omega⟩
  ·rcases hi with rfl|hi|hi
   ·exact hn3'
   ·exact hS5.new i (.inl hi)
   ·exact hS5.new i (.inr hi)
end
end Go.Proofs.YtjhhiindeignaaaGreatDoor
namespace Go.Proofs.YtjhhiindeignaaaGreatDoor
open Go Go.RowKit Go.Sy Go.Rep
set_option maxRecDepth 100000
set_option maxHeartbeats 2000000
theorem taken_next {α:Type} (A B:List α) {T D i lo:Nat} (h:D≤T) (hlo:lo=D-A.length) (hi:lo≤i) (hc:i=lo∨(i≤B.length∧i+A.length≤T)) (he:B.length≤i∨T≤i+A.length):
  ((A++B).take T).drop D=((A.take T).drop D)++(B.drop lo).take (i-lo):=by
 rw[List.take_append,List.drop_append,List.drop_take,List.drop_take (l:=B)]
 congr 1
 rw[List.length_take]
 rcases Nat.lt_or_ge T A.length with q|q
 ·have e1:T-A.length=0:=by omega
  have e2:i-lo=0:=by omega
  rw[e1,e2,Nat.zero_sub]
  rfl
 ·rw[show D-min T A.length=lo by omega,List.take_eq_take_iff,List.length_drop]
  omega
theorem taken_more {α:Type} (B:List α) {i lo:Nat} {x:α} (h:lo≤i) (hx:B[i]? =some x):(B.drop lo).take (i+1-lo)=(B.drop lo).take (i-lo)++[x]:=by
 rw[show i+1-lo=(i-lo)+1 by omega,List.take_add_one,List.getElem?_drop,show lo+(i-lo)=i by omega,hx]
 rfl
def flatS (ss:List Sd):List Li:=ss.flatMap fun s=>lis s.xs
theorem flatS_len (ss:List Sd):(flatS ss).length=linesN ss:=by simp[flatS,linesN,lis,List.length_flatMap]
theorem flatS_take {ss:List Sd} {k:Nat} {s:Sd} (h:ss[k]? =some s):flatS (ss.take (k+1))=flatS (ss.take k)++lis s.xs:=by
 rw[List.take_add_one,h]
 simp[flatS]
theorem linesN_take {ss:List Sd} {k:Nat} {s:Sd} (h:ss[k]? =some s):linesN (ss.take (k+1))=linesN (ss.take k)+s.xs.length:=by
 rw[←flatS_len,←flatS_len,flatS_take h,List.length_append]
 simp[lis]
theorem linesN_le (ss:List Sd) (k:Nat):linesN (ss.take k)≤linesN ss:=by
 have:=linesN_append (ss.take k) (ss.drop k)
 rw[List.take_append_drop] at this
 omega
def rangeR (q:Rg') (a b:Nat):List Li:=((q.ps.flatMap Pg.ls).take (b-q.first)).drop (a-q.first)
section
variable {w w':World} {r:Rd}
theorem r_ring_Range {a b:Nat} (hL:Laid w) (h:RingAt w r) (h1:r.first≤a) (h2:a≤b) (h3:b≤r.next):Gets Tryz.prog X.ring_Range #[r.ptr, .int .i64 a, .int .i64 b] w Nix (fun v w'=>∃p c xs,v= .tuple #[.slice p xs.length c, .int .i64 0]∧Lines w' p xs.length c xs∧lis xs=rangeR r.rg a b∧∀i,LsF p xs i→w.heap.size≤i):=by
 have hY:=hL.size
 have hsm:=h.small
 have hnum:=h.num
 have hfew:=h.few
 refine v_ring_Range _ a b fun n1 hn1 n2 hn2 n3 hn3 n4 hn4 w1 hb1 hm1=>(r_ring_zero (h.below hb1)).runs fun w2 hk2=>⟨_,rfl,hk2.nix,fun e=>(nomatch e),fun _=>?_⟩
 have k2:=(Keeps.of_below hb1).trans hk2
 have g2:=h.nix k2
 have hs2:=k2.size
 refine⟨fun e=>by omega,fun _=>⟨fun e=>by omega,fun _=>⟨_,g2.mid.at_ 3 rfl,fun e=>by omega,fun _=>⟨_,g2.mid.at_ 2 rfl,fun e=>by omega,fun _ n5 hn5=>⟨_,g2.mid.at_ 2 rfl,fun n6 hn6 n7 n8 hn8 h87=>?_⟩⟩⟩⟩⟩
 let Off:Option Addr→List Ln→Prop:=fun p xs=>∀i,LsF p xs i→w.heap.size≤i∧i≠n1∧i≠n2∧i≠n3∧i≠n4∧i≠n5∧i≠n6∧i≠n7∧i≠n8
 refine⟨_,_,fun k p n c at_ V=>at_=((r.first+linesN (r.ss.take k):Nat):Int)∧∃xs:List Ln,n=xs.length∧Lines V p n c xs∧lis xs=((flatS (r.ss.take k)).take (b-r.first)).drop (a-r.first)∧Off p xs,
  h.seq,fun w16 hb16 h716=>⟨⟨by simp[linesN],[],rfl,Lines.nil,by simp[flatS,lis],fun i hi=>absurd hi LsF.nil⟩,(g2.below hb16).need⟩,fun k ad hka p n c at_ w6 hk6 h76 hI hN w7 hb7 hm7=>?_,?_⟩
 ·obtain⟨rfl,xs,rfl,hxs,hli,hoff⟩:=hI
  rw[List.getElem?_map,Option.map_eq_some_iff] at hka
  obtain⟨s,hs,rfl⟩:=hka
  have k7:=hk6.trans (Keeps.of_below hb7)
  have hmem:=List.mem_of_getElem? hs
  have hsat:=(h.each s hmem).1
  have hlt:=linesN_take hs
  have hle:=linesN_le r.ss (k+1)
  refine(r_sheet_Len (hsat.nix k7)).runs fun w8 hk8=>⟨_,rfl,hk8.nix,by unfold I64;omega,?_⟩
  have k8:=k7.trans hk8
  obtain⟨lo,hlo⟩:∃lo,lo=(a-r.first)-(flatS (r.ss.take k)).length:=⟨_,rfl⟩
  have hfl:=flatS_len (r.ss.take k)
  have hlo':max 0 ((a:Int)-((r.first+linesN (r.ss.take k):Nat):Int))=(lo:Int):=by omega
  have hll:(lis s.xs).length=s.xs.length:=by simp[lis]
  refine⟨fun i p n c V=>∃j:Nat,n7<V.heap.size∧i=(j:Int)∧lo≤j∧(j=lo∨(j≤s.xs.length∧j+linesN (r.ss.take k)≤b-r.first))∧∃xs:List Ln,n=xs.length∧Lines V p n c xs∧lis xs=((flatS (r.ss.take k)).take (b-r.first)).drop (a-r.first)++((lis s.xs).drop lo).take (j-lo)∧Off p xs,fun i _ _ _=>((s.xs.length:Int)-i).toNat,
   fun w15 hb15=>⟨lo,(by have:=hb7.size;have:=hk8.size;have:=hb15.size;omega),hlo',Nat.le_refl _, .inl rfl,xs,rfl,hxs.nix (((Keeps.of_below hb7).trans hk8).trans (Keeps.of_below hb15)),by rw[hli,Nat.sub_self];simp,hoff⟩,?_⟩
  rintro i p n c w9 hk9 ⟨j,h79,rfl,hj,hcase,xs,rfl,hxs,hli,hoff⟩
  refine⟨by unfold I64;omega,fun hlt2 w11 hb11 hm11=>?_,fun hge=>⟨by unfold I64;omega,fun w10 hx10=>?_⟩⟩
  ·have hjl:j<s.xs.length:=by omega
   have hjT:j+linesN (r.ss.take k)<b-r.first:=by omega
   have k11:=hk9.trans (Keeps.of_below hb11)
   refine(r_sheet_Get (Laid.nix k11 hL) (hsat.nix k11) hjl).runs fun v w12 hk12 ⟨x,hv,hxl,hxo,hxn⟩=>?_
   subst hv
   have k12:=k11.trans hk12
   have hsz11:=k11.size
   have hsz12:=hk12.size
   have hsz911:=hb11.size
   have m1:=hm11.lt (d:=n1) (by simp)
   have m2:=hm11.lt (d:=n2) (by simp)
   have m3:=hm11.lt (d:=n3) (by simp)
   have m4:=hm11.lt (d:=n4) (by simp)
   have m5:=hm11.lt (d:=n5) (by simp)
   have m6:=hm11.lt (d:=n6) (by simp)
   have m7:n7<w11.heap.size:=by omega
   have hxs12:Lines w12 p xs.length c xs:=hxs.nix ((Keeps.of_below hb11).trans hk12)
   have hxlen:xs.length≤linesN r.ss+linesN r.ss:=by
    have:=congrArg List.length hli
    simp only[lis,List.length_map,List.length_append,List.length_take,List.length_drop] at this
    have:=linesN_le r.ss k
    have hsl:s.xs.length≤linesN r.ss:=by omega
    omega
   refine⟨_,_,rfl,hk12.nix,fun n16 hn16=>⟨fun e=>absurd rfl e,fun _ n17 hn17=>⟨hdrs xs,hxs12.row.room (fun ad had hm=>?_) (fun _ ad had hl=>?_),by omega,fun w13 p4 n18 hg hof=>⟨by unfold I64;omega,fun w14 hx14=>?_⟩⟩⟩⟩
   ·have:=hoff _ (.inl ⟨ad,had,rfl⟩)
    have:=(hxs12.row.lt ad had).1
    simp at hm
    omega
   ·have:=(hoff _ (.inl ⟨ad,had,rfl⟩)).1
    omega
   ·obtain⟨q1,q2,q3⟩:=Lines.push (by omega) hxs12 hxo (fun i hi e=>by have:=hxn i hi;have:=hxs.lt e;omega) hg
    have hoff':Off p4 (xs++[x]):=fun i hi=>by
     rcases q2 i hi with u|u|u
     ·exact hoff i u
     ·have:=hxn i u;omega
     ·omega
    refine⟨⟨j+1,(by have:=hg.size;have:=hx14.size;omega),by omega,by omega, .inr ⟨by omega,by omega⟩,xs++[x],by simp,q1.keeps (Ext.keeps hx14) fun i hi e=>?_,?_,hoff'⟩,by dsimp only;omega⟩
    ·rw[List.mem_singleton] at hi
     have:=hoff' i e
     omega
    ·have hg:(lis s.xs)[j]? =some (liAt (lis s.xs) j):=by
      unfold liAt
      rw[List.getD_eq_getElem?_getD,List.getElem?_eq_getElem (by omega)]
      rfl
     rw[taken_more _ hj hg,←List.append_assoc,←hli,←hxl]
     simp[lis]
  ·have k10:Keeps Nix w w10:=hk9.after (Ext.keeps hx10) fun i hi hp=>by
    rw[List.mem_singleton] at hp
    omega
   refine⟨⟨by omega,xs,rfl,hxs.keeps (Ext.keeps hx10) fun i hi e=>?_,?_,hoff⟩,(h.nix k10).need⟩
   ·rw[List.mem_singleton] at hi
    have:=hoff i e
    omega
   ·rw[hli,flatS_take hs]
    exact(taken_next _ _ (by omega) hlo hj (by omega) (by omega)).symm
 ·rintro p n c at_ w3 w4 hk3 h73 ⟨rfl,xs,rfl,hxs,hli,hoff⟩ hN hx4 hk4 w' hx' hk'
  rw[List.length_map,List.take_length] at hli
  refine⟨p,c,xs,rfl,(hxs.keeps (Ext.keeps hx4) fun i hi e=>?_).keeps (Ext.keeps hx') fun i hi e=>?_,?_,fun i hi=>(hoff i hi).1⟩
  ·rw[List.mem_singleton] at hi
   have:=hoff i e
   omega
  ·have:=hoff i e
   simp at hi
   omega
  ·rw[hli]
   unfold rangeR flatS
   show _=((r.ss.map Sd.sh).flatMap Pg.ls|>.take _).drop _
   rw[List.flatMap_map]
   rfl
end
end Go.Proofs.YtjhhiindeignaaaGreatDoor
namespace Go.Proofs.YtjhhiindeignaaaGreatDoor
open Go Go.RowKit Go.Sy Go.Rep
set_option maxRecDepth 100000
theorem v_history_New {w0:World} {F:Nat→Prop} {Q:Value→World→Prop} (most:Int) (h:∀w1:World,(Below w0.heap.size w0 w1)→Runs Tryz.prog X.ring_New #[(.int .i64 most),(.int .i64 64)] w1 (fun e1 w2=>∃p1:Option Addr,∃i1:Int,(e1=(.returned (.tuple #[(.pointer p1),(.int .i64 i1)])))∧((Kept w0.heap.size F [] w1 w2)∧(((i1≠0)→Fin w0 F w2 Q (.tuple #[(.pointer none),(.int .i64 i1)]))∧((i1=0)→∀n1:Nat,(w2.heap.size≤n1)→∀w3:World,(Below w2.heap.size w2 w3)→(Keeps F w0 w3)→((w0.heap.size≤n1)∧(Whole w3 n1 T.history_History [(.pointer p1)]))→Q (.tuple #[(.pointer (some ⟨n1,0,none⟩)),(.int .i64 0)]) w3))))):Gets Tryz.prog X.history_New #[(.int .i64 most)] w0 F Q:=
 func_run mixed [] [] X.history_New [SV.int IntKind.i64 most] ⟨by trivial,trivial⟩ (by kernel_rfl) (by kernel_rfl) h
theorem v_history_none {w0:World} {F:Nat→Prop} {Q:Value→World→Prop} (hh:Addr) (h:∃p1:Option Addr,(At w0 hh 0 [(.pointer p1)])∧Fin w0 F w0 Q (.bool (BE.val (.pr (p1=none))))):Gets Tryz.prog X.history_none #[(.pointer (some hh))] w0 F Q:=
 func_run mixed [] [] X.history_none [SV.adr hh 0] ⟨by trivial,trivial⟩ (by kernel_rfl) (by kernel_rfl) h
theorem v_history_valid {w0:World} {F:Nat→Prop} {Q:Value→World→Prop} (pl:Option Addr) (nl:Nat) (cl:Nat) (h:∃I1:Int→World→Prop,∃I2:Int→Nat,(∀w7:World,(Below w0.heap.size w0 w7)→I1 0 w7)∧∀i1:Int,∀w1:World,(Keeps F w0 w1)→(I1 i1 w1)→((i1<(nl:Int))→∃a1:Addr,(pl=(some a1))∧((((0:Int)≤i1)∧(i1<(nl:Int)))∧∃lh1:Lh,(At w1 a1 ((Int.toNat i1)*2) lh1.arr.toList)∧∀n1:Nat,(w1.heap.size≤n1)→∀w3:World,(Below w1.heap.size w1 w3)→(Mine w3 w0.heap.size [(n1,T.Line)])→Runs Tryz.prog X.line_Valid #[(.agg lh1.arr)] w3 (fun e1 w4=>∃b1:Bool,(e1=(.returned (.bool b1)))∧((Kept w0.heap.size F [n1] w3 w4)∧(((b1=false)→Fin w0 F w4 Q (.bool false))∧((b1=true)→(I64 (i1+1))∧∀w5:World,(Below w4.heap.size w4 w5)→(I1 (i1+1) w5)∧(I2 (i1+1)<I2 i1)))))))∧(((nl:Int)≤i1)→Fin w0 F w1 Q (.bool true))):Gets Tryz.prog X.history_valid #[(.slice pl nl cl)] w0 F Q:=
 func_run mixed [⟨2,[7],[]⟩] [] X.history_valid [SV.sl pl nl cl] ⟨by trivial,trivial⟩ (by kernel_rfl) (by kernel_rfl) h
theorem v_history_push {w0:World} {F:Nat→Prop} {Q:Value→World→Prop} (hh:Addr) (pl:Option Addr) (nl:Nat) (cl:Nat) (h:∃I1:Int→World→Prop,∃I2:Int→Nat,(∀w6:World,(Below w0.heap.size w0 w6)→I1 0 w6)∧∀i1:Int,∀w1:World,(Keeps F w0 w1)→(I1 i1 w1)→((i1<(nl:Int))→∃a1:Addr,(pl=(some a1))∧((((0:Int)≤i1)∧(i1<(nl:Int)))∧∃lh1:Lh,(At w1 a1 ((Int.toNat i1)*2) lh1.arr.toList)∧∀n1:Nat,(w1.heap.size≤n1)→∃p1:Option Addr,(At w1 hh 0 [(.pointer p1)])∧∀w3:World,(Below w1.heap.size w1 w3)→(Mine w3 w0.heap.size [(n1,T.Line)])→Runs Tryz.prog X.ring_Push #[(.pointer p1),(.agg lh1.arr)] w3 (fun e1 w4=>∃i2 i3:Int,(e1=(.returned (.tuple #[(.int .i64 i2),(.int .i64 i3)])))∧((Kept w0.heap.size F [n1] w3 w4)∧((I64 (i1+1))∧∀w5:World,(Below w4.heap.size w4 w5)→(I1 (i1+1) w5)∧(I2 (i1+1)<I2 i1))))))∧(((nl:Int)≤i1)→Fin w0 F w1 Q (.tuple #[]))):Gets Tryz.prog X.history_push #[(.pointer (some hh)),(.slice pl nl cl)] w0 F Q:=
 func_run mixed [⟨1,[8],[]⟩] [] X.history_push [SV.adr hh 0,SV.sl pl nl cl] ⟨by trivial,by trivial,trivial⟩ (by kernel_rfl) (by kernel_rfl) h
theorem v_history_Push {w0:World} {F:Nat→Prop} {Q:Value→World→Prop} (hh:Addr) (pl:Option Addr) (nl:Nat) (cl:Nat) (h:∀w1:World,(Below w0.heap.size w0 w1)→Runs Tryz.prog X.history_none #[(.pointer (some hh))] w1 (fun e1 w2=>∃b1:Bool,(e1=(.returned (.bool b1)))∧((Kept w0.heap.size F [] w1 w2)∧(((b1=true)→Fin w0 F w2 Q (.int .i64 1))∧((b1=false)→∀w3:World,(Below w2.heap.size w2 w3)→Runs Tryz.prog X.history_valid #[(.slice pl nl cl)] w3 (fun e2 w4=>∃b2:Bool,(e2=(.returned (.bool b2)))∧((Kept w0.heap.size F [] w3 w4)∧(((b2=false)→Fin w0 F w4 Q (.int .i64 2))∧((b2=true)→∀w5:World,(Below w4.heap.size w4 w5)→Runs Tryz.prog X.history_push #[(.pointer (some hh)),(.slice pl nl cl)] w5 (fun e3 w6=>(e3=(.returned (.tuple #[])))∧((Kept w0.heap.size F [] w5 w6)∧Fin w0 F w6 Q (.int .i64 0)))))))))))):Gets Tryz.prog X.history_Push #[(.pointer (some hh)),(.slice pl nl cl)] w0 F Q:=
 func_run mixed [] [] X.history_Push [SV.adr hh 0,SV.sl pl nl cl] ⟨by trivial,by trivial,trivial⟩ (by kernel_rfl) (by kernel_rfl) h
theorem v_history_Last {w0:World} {F:Nat→Prop} {Q:Value→World→Prop} (hh:Addr) (n:Int) (h:∀w1:World,(Below w0.heap.size w0 w1)→Runs Tryz.prog X.history_none #[(.pointer (some hh))] w1 (fun e1 w2=>∃b1:Bool,(e1=(.returned (.bool b1)))∧((Kept w0.heap.size F [] w1 w2)∧(((b1=true)→Fin w0 F w2 Q (.slice none 0 0))∧((b1=false)→((n<1)→Fin w0 F w2 Q (.slice none 0 0))∧(((1:Int)≤n)→∃p1:Option Addr,(At w2 hh 0 [(.pointer p1)])∧∃p2:Option Addr,(At w2 hh 0 [(.pointer p2)])∧∃p3:Option Addr,(At w2 hh 0 [(.pointer p3)])∧∃p4:Option Addr,(At w2 hh 0 [(.pointer p4)])∧∀w3:World,(Below w2.heap.size w2 w3)→Runs Tryz.prog X.ring_Next #[(.pointer p2)] w3 (fun e2 w4=>∃i1:Int,(e2=(.returned (.int .i64 i1)))∧((Kept w0.heap.size F [] w3 w4)∧((At w4 hh 0 [(.pointer p4)])∧((At w4 hh 0 [(.pointer p3)])∧((At w4 hh 0 [(.pointer p1)])∧∀w5:World,(Below w4.heap.size w4 w5)→Runs Tryz.prog X.ring_Len #[(.pointer p3)] w5 (fun e3 w6=>∃i2:Int,(e3=(.returned (.int .i64 i2)))∧((Kept w0.heap.size F [] w5 w6)∧((At w6 hh 0 [(.pointer p4)])∧((At w6 hh 0 [(.pointer p1)])∧((I64 (i1-(min n i2)))∧∀w7:World,(Below w6.heap.size w6 w7)→Runs Tryz.prog X.ring_Next #[(.pointer p4)] w7 (fun e4 w8=>∃i3:Int,(e4=(.returned (.int .i64 i3)))∧((Kept w0.heap.size F [] w7 w8)∧((At w8 hh 0 [(.pointer p1)])∧∀w9:World,(Below w8.heap.size w8 w9)→Runs Tryz.prog X.ring_Range #[(.pointer p1),(.int .i64 (i1-(min n i2))),(.int .i64 i3)] w9 (fun e5 w10=>∃p5:Option Addr,∃n1 n2:Nat,∃i4:Int,(e5=(.returned (.tuple #[(.slice p5 n1 n2),(.int .i64 i4)])))∧((Kept w0.heap.size F [] w9 w10)∧Fin w0 F w10 Q (.slice p5 n1 n2)))))))))))))))))))))):Gets Tryz.prog X.history_Last #[(.pointer (some hh)),(.int .i64 n)] w0 F Q:=
 func_run mixed [] [] X.history_Last [SV.adr hh 0,SV.int IntKind.i64 n] ⟨by trivial,by trivial,trivial⟩ (by kernel_rfl) (by kernel_rfl) h
theorem v_history_All {w0:World} {F:Nat→Prop} {Q:Value→World→Prop} (hh:Addr) (h:∀w1:World,(Below w0.heap.size w0 w1)→Runs Tryz.prog X.history_Last #[(.pointer (some hh)),(.int .i64 1048576)] w1 (fun e1 w2=>∃p1:Option Addr,∃n1 n2:Nat,(e1=(.returned (.slice p1 n1 n2)))∧((Kept w0.heap.size F [] w1 w2)∧Fin w0 F w2 Q (.slice p1 n1 n2)))):Gets Tryz.prog X.history_All #[(.pointer (some hh))] w0 F Q:=
 func_run mixed [] [] X.history_All [SV.adr hh 0] ⟨by trivial,trivial⟩ (by kernel_rfl) (by kernel_rfl) h
theorem v_history_Len {w0:World} {F:Nat→Prop} {Q:Value→World→Prop} (hh:Addr) (h:∀w1:World,(Below w0.heap.size w0 w1)→Runs Tryz.prog X.history_none #[(.pointer (some hh))] w1 (fun e1 w2=>∃b1:Bool,(e1=(.returned (.bool b1)))∧((Kept w0.heap.size F [] w1 w2)∧(((b1=true)→Fin w0 F w2 Q (.int .i64 0))∧((b1=false)→∃p1:Option Addr,(At w2 hh 0 [(.pointer p1)])∧∀w3:World,(Below w2.heap.size w2 w3)→Runs Tryz.prog X.ring_Len #[(.pointer p1)] w3 (fun e2 w4=>∃i1:Int,(e2=(.returned (.int .i64 i1)))∧((Kept w0.heap.size F [] w3 w4)∧Fin w0 F w4 Q (.int .i64 i1)))))))):Gets Tryz.prog X.history_Len #[(.pointer (some hh))] w0 F Q:=
 func_run mixed [] [] X.history_Len [SV.adr hh 0] ⟨by trivial,trivial⟩ (by kernel_rfl) (by kernel_rfl) h
theorem v_history_First {w0:World} {F:Nat→Prop} {Q:Value→World→Prop} (hh:Addr) (h:∀w1:World,(Below w0.heap.size w0 w1)→Runs Tryz.prog X.history_none #[(.pointer (some hh))] w1 (fun e1 w2=>∃b1:Bool,(e1=(.returned (.bool b1)))∧((Kept w0.heap.size F [] w1 w2)∧(((b1=true)→Fin w0 F w2 Q (.int .i64 0))∧((b1=false)→∃p1:Option Addr,(At w2 hh 0 [(.pointer p1)])∧∀w3:World,(Below w2.heap.size w2 w3)→Runs Tryz.prog X.ring_First #[(.pointer p1)] w3 (fun e2 w4=>∃i1:Int,(e2=(.returned (.int .i64 i1)))∧((Kept w0.heap.size F [] w3 w4)∧Fin w0 F w4 Q (.int .i64 i1)))))))):Gets Tryz.prog X.history_First #[(.pointer (some hh))] w0 F Q:=
 func_run mixed [] [] X.history_First [SV.adr hh 0] ⟨by trivial,trivial⟩ (by kernel_rfl) (by kernel_rfl) h
theorem v_history_Next {w0:World} {F:Nat→Prop} {Q:Value→World→Prop} (hh:Addr) (h:∀w1:World,(Below w0.heap.size w0 w1)→Runs Tryz.prog X.history_none #[(.pointer (some hh))] w1 (fun e1 w2=>∃b1:Bool,(e1=(.returned (.bool b1)))∧((Kept w0.heap.size F [] w1 w2)∧(((b1=true)→Fin w0 F w2 Q (.int .i64 0))∧((b1=false)→∃p1:Option Addr,(At w2 hh 0 [(.pointer p1)])∧∀w3:World,(Below w2.heap.size w2 w3)→Runs Tryz.prog X.ring_Next #[(.pointer p1)] w3 (fun e2 w4=>∃i1:Int,(e2=(.returned (.int .i64 i1)))∧((Kept w0.heap.size F [] w3 w4)∧Fin w0 F w4 Q (.int .i64 i1)))))))):Gets Tryz.prog X.history_Next #[(.pointer (some hh))] w0 F Q:=
 func_run mixed [] [] X.history_Next [SV.adr hh 0] ⟨by trivial,trivial⟩ (by kernel_rfl) (by kernel_rfl) h
theorem v_history_Copy {w0:World} {F:Nat→Prop} {Q:Value→World→Prop} (hh:Addr) (h:∀w1:World,(Below w0.heap.size w0 w1)→Runs Tryz.prog X.history_none #[(.pointer (some hh))] w1 (fun e1 w2=>∃b1:Bool,(e1=(.returned (.bool b1)))∧((Kept w0.heap.size F [] w1 w2)∧(((b1=true)→Fin w0 F w2 Q (.pointer none))∧((b1=false)→∃p1:Option Addr,(At w2 hh 0 [(.pointer p1)])∧∀w3:World,(Below w2.heap.size w2 w3)→Runs Tryz.prog X.ring_Copy #[(.pointer p1)] w3 (fun e2 w4=>∃p2:Option Addr,(e2=(.returned (.pointer p2)))∧((Kept w0.heap.size F [] w3 w4)∧∀n1:Nat,(w4.heap.size≤n1)→∀w5:World,(Below w4.heap.size w4 w5)→(Keeps F w0 w5)→((w0.heap.size≤n1)∧(Whole w5 n1 T.history_History [(.pointer p2)]))→Q (.pointer (some ⟨n1,0,none⟩)) w5))))))):Gets Tryz.prog X.history_Copy #[(.pointer (some hh))] w0 F Q:=
 func_run mixed [] [] X.history_Copy [SV.adr hh 0] ⟨by trivial,trivial⟩ (by kernel_rfl) (by kernel_rfl) h
end Go.Proofs.YtjhhiindeignaaaGreatDoor
namespace Go.Rep
open Go Go.Sy
structure Hi where
 (b:Nat) (r:Rd)
def Hi.ptr (h:Hi):Value:= .pointer (some ⟨h.b,0,none⟩)
end Go.Rep
namespace Go.Proofs.YtjhhiindeignaaaGreatDoor
open Go Go.RowKit Go.Sy Go.Rep
set_option maxRecDepth 100000
set_option maxHeartbeats 2000000
def HiF (h:Hi) (i:Nat):Prop:=i=h.b∨RdF h.r i
structure HiAt (w:World) (h:Hi):Prop where
 blk:Whole w h.b T.history_History [h.r.ptr]
 ring:RingAt w h.r
 off:¬RdF h.r h.b
 lo:Y.count≤h.b
 cap:linesN h.r.ss≤h.r.most
def pushAll (q:Rg') (ls:List Li):Rg':=ls.foldl pushR q
def lastR (q:Rg') (n:Nat):List Li:=rangeR q (q.next-min n (q.next-q.first)) q.next
section
variable {w w':World} {h:Hi}
theorem HiAt.lt (a:HiAt w h) {i:Nat} (hi:HiF h i):i<w.heap.size:=by
 rcases hi with rfl|hi
 ·exact a.blk.lt
 ·exact a.ring.lt hi
theorem HiAt.low (a:HiAt w h) {i:Nat} (hi:HiF h i):Y.count≤i:=by
 rcases hi with rfl|hi
 ·exact a.lo
 ·exact a.ring.low hi
theorem HiAt.keeps {F:Nat→Prop} (a:HiAt w h) (hk:Keeps F w w') (hF:∀i,F i→¬HiF h i):HiAt w' h:=
 ⟨a.blk.keeps hk fun hf=>hF _ hf (.inl rfl),a.ring.keeps hk fun i hf hi=>hF i hf (.inr hi),a.off,a.lo,a.cap⟩
theorem HiAt.nix (a:HiAt w h) (hk:Keeps Nix w w'):HiAt w' h:=a.keeps hk fun _ e=>e.elim
theorem HiAt.below (a:HiAt w h) (hb:Below w.heap.size w w'):HiAt w' h:=a.nix (Keeps.of_below hb)
theorem HiAt.at_ (a:HiAt w h):At w ⟨h.b,0,none⟩ 0 [h.r.ptr]:=a.blk.at_ (show 1≤maxLen by decide)
theorem r_history_none (a:HiAt w h):Ret X.history_none #[h.ptr] w (.bool false):=
 v_history_none _ ⟨_,a.at_,Fin.of fun _=>congrArg Value.bool (show BE.val _=_ by rw[show BE.val (BE.pr (some (⟨h.r.b,0,none⟩:Addr)=none))=decide (some (⟨h.r.b,0,none⟩:Addr)=none) from bval_dec _ Iff.rfl];rfl)⟩
theorem r_history_Len (a:HiAt w h):Ret X.history_Len #[h.ptr] w (.int .i64 ((h.r.next:Int)-h.r.first)):=
 v_history_Len _ fun w1 hb1=>(r_history_none (a.below hb1)).runs fun w2 hk2=>⟨_,rfl,hk2.nix,fun e=>(nomatch e),fun _=>⟨_,((a.below hb1).nix hk2).at_,fun w3 hb3=>(r_ring_Len (((a.below hb1).nix hk2).below hb3).ring).runs fun w4 hk4=>⟨_,rfl,hk4.nix,Fin.of fun _=>rfl⟩⟩⟩
theorem r_history_Next (a:HiAt w h):Ret X.history_Next #[h.ptr] w (.int .i64 h.r.next):=
 v_history_Next _ fun w1 hb1=>(r_history_none (a.below hb1)).runs fun w2 hk2=>⟨_,rfl,hk2.nix,fun e=>(nomatch e),fun _=>⟨_,((a.below hb1).nix hk2).at_,fun w3 hb3=>(r_ring_Next (((a.below hb1).nix hk2).below hb3).ring).runs fun w4 hk4=>⟨_,rfl,hk4.nix,Fin.of fun _=>rfl⟩⟩⟩
theorem r_history_First (a:HiAt w h):Ret X.history_First #[h.ptr] w (.int .i64 h.r.first):=
 v_history_First _ fun w1 hb1=>(r_history_none (a.below hb1)).runs fun w2 hk2=>⟨_,rfl,hk2.nix,fun e=>(nomatch e),fun _=>⟨_,((a.below hb1).nix hk2).at_,fun w3 hb3=>(r_ring_First (((a.below hb1).nix hk2).below hb3).ring).runs fun w4 hk4=>⟨_,rfl,hk4.nix,Fin.of fun _=>rfl⟩⟩⟩
def NewHi (w0:World) (q:Rg') (h:Hi) (w:World):Prop:=h.r.rg=q∧HiAt w h∧∀i,HiF h i→w0.heap.size≤i
def ModHi (w0:World) (h:Hi) (q:Rg') (w:World):Prop:=∃h':Hi,h'.b=h.b∧h'.r.b=h.r.b∧h'.r.rg=q∧HiAt w h'∧∀i,HiF h' i→HiF h i∨w0.heap.size≤i
theorem r_history_New {n:Nat} (hL:Laid w) (hn:n≤1048576):Gets Tryz.prog X.history_New #[.int .i64 n] w Nix (fun v w'=>∃h:Hi,v= .tuple #[h.ptr, .int .i64 0]∧NewHi w ⟨n,64,0,0,[]⟩ h w'):=by
 have hY:=hL.size
 refine v_history_New _ fun w1 hb1=>(r_ring_New (m:=64) (Laid.below hb1 hL) hn (by omega) (by omega)).runs fun v w2 hk2 ⟨r,hv,hrg,hr,hF⟩=>?_
 subst hv
 have hs1:=hb1.size
 have hs2:=hk2.size
 refine⟨_,_,rfl,hk2.nix,fun e=>absurd rfl e,fun _ n1 hn1 w3 hb3 hk3 hw=>⟨⟨n1,r⟩,rfl,hrg,⟨hw.2,hr.below hb3,fun e=>?_,by show Y.count≤n1;omega,?_⟩,fun i hi=>?_⟩⟩
 ·have:=hr.lt e
  change n1<_ at this
  omega
 ·have e1:r.next=0:=congrArg Rg'.next hrg
  have:=hr.num
  show linesN r.ss≤r.most
  omega
 ·rcases hi with rfl|hi
  ·exact hw.1
  ·have:=hF i hi;omega
theorem r_history_Copy (hL:Laid w) (a:HiAt w h):Gets Tryz.prog X.history_Copy #[h.ptr] w Nix (fun v w'=>∃h':Hi,v=h'.ptr∧NewHi w h.r.rg h' w'):=by
 have hY:=hL.size
 refine v_history_Copy _ fun w1 hb1=>(r_history_none (a.below hb1)).runs fun w2 hk2=>⟨_,rfl,hk2.nix,fun e=>(nomatch e),fun _=>⟨_,((a.below hb1).nix hk2).at_,fun w3 hb3=>?_⟩⟩
 have k3:=((Keeps.of_below hb1).trans hk2).trans (Keeps.of_below hb3)
 refine(r_ring_Copy (Laid.nix k3 hL) (a.nix k3).ring).runs fun v w4 hk4 ⟨r',hv,hrg,hr,hF⟩=>?_
 subst hv
 have hs3:=k3.size
 have hs4:=hk4.size
 refine⟨_,rfl,hk4.nix,fun n1 hn1 w5 hb5 hk5 hw=>⟨⟨n1,r'⟩,rfl,hrg,⟨hw.2,hr.below hb5,fun e=>?_,by show Y.count≤n1;omega,?_⟩,fun i hi=>?_⟩⟩
 ·have:=hr.lt e
  change n1<_ at this
  omega
 ·have e1:r'.next=h.r.next:=congrArg Rg'.next hrg
  have e2:r'.first=h.r.first:=congrArg Rg'.first hrg
  have e3:r'.most=h.r.most:=congrArg Rg'.most hrg
  have:=hr.num
  have:=a.ring.num
  have:=a.cap
  show linesN r'.ss≤r'.most
  omega
 ·rcases hi with rfl|hi
  ·exact hw.1
  ·have:=hF i hi;omega
theorem r_history_Last {n:Nat} (hL:Laid w) (a:HiAt w h):Gets Tryz.prog X.history_Last #[h.ptr, .int .i64 n] w Nix (fun v w'=>∃p c xs,v= .slice p xs.length c∧Lines w' p xs.length c xs∧lis xs=lastR h.r.rg n∧∀i,LsF p xs i→w.heap.size≤i):=by
 have hsm:=a.ring.small
 have hnum:=a.ring.num
 refine v_history_Last _ n fun w1 hb1=>(r_history_none (a.below hb1)).runs fun w2 hk2=>⟨_,rfl,hk2.nix,fun e=>(nomatch e),fun _=>⟨fun e=>Fin.of fun w'=>?_,fun e=>?_⟩⟩
 ·obtain rfl:n=0:=by omega
  refine⟨none,0,[],rfl,Lines.nil,?_,fun i hi=>absurd hi LsF.nil⟩
  unfold lastR rangeR
  rw[Nat.zero_min,Nat.sub_zero,List.drop_take_self]
  rfl
 ·have k2:=(Keeps.of_below hb1).trans hk2
  have a2:=a.nix k2
  refine⟨_,a2.at_,_,a2.at_,_,a2.at_,_,a2.at_,fun w3 hb3=>(r_ring_Next (a2.below hb3).ring).runs fun w4 hk4=>?_⟩
  have a4:=(a2.below hb3).nix hk4
  have k4:=(k2.trans (Keeps.of_below hb3)).trans hk4
  refine⟨_,rfl,hk4.nix,a4.at_,a4.at_,a4.at_,fun w5 hb5=>(r_ring_Len (a4.below hb5).ring).runs fun w6 hk6=>?_⟩
  have a6:=(a4.below hb5).nix hk6
  have k6:=(k4.trans (Keeps.of_below hb5)).trans hk6
  refine⟨_,rfl,hk6.nix,a6.at_,a6.at_,by unfold I64;omega,fun w7 hb7=>(r_ring_Next (a6.below hb7).ring).runs fun w8 hk8=>?_⟩
  have a8:=(a6.below hb7).nix hk8
  have k8:=(k6.trans (Keeps.of_below hb7)).trans hk8
  have e:(h.r.next:Int)-min (n:Int) ((h.r.next:Int)-h.r.first)=((h.r.next-min n (h.r.next-h.r.first):Nat):Int):=by omega
  refine⟨_,rfl,hk8.nix,a8.at_,fun w9 hb9=>?_⟩
  have k9:=k8.trans (Keeps.of_below hb9)
  have hs9:=k9.size
  rw[e]
  refine(r_ring_Range (Laid.nix k9 hL) (a.nix k9).ring (by omega) (by omega) (Nat.le_refl _)).runs fun v w10 hk10 ⟨p,c,xs,hv,hxs,hli,hF⟩=>?_
  subst hv
  exact⟨p,xs.length,c,0,rfl,hk10.nix,fun w' hb _=>⟨p,c,xs,rfl,hxs.nix (Keeps.of_below hb),hli,fun i hi=>by have:=hF i hi;omega⟩⟩
theorem r_history_All (hL:Laid w) (a:HiAt w h):Gets Tryz.prog X.history_All #[h.ptr] w Nix (fun v w'=>∃p c xs,v= .slice p xs.length c∧Lines w' p xs.length c xs∧lis xs=lastR h.r.rg 1048576∧∀i,LsF p xs i→w.heap.size≤i):=by
 refine v_history_All _ fun w1 hb1=>(r_history_Last (n:=1048576) (Laid.below hb1 hL) (a.below hb1)).runs fun v w2 hk2 ⟨p,c,xs,hv,hxs,hli,hF⟩=>?_
 subst hv
 exact⟨p,xs.length,c,rfl,hk2.nix,fun w' hb _=>⟨p,c,xs,rfl,hxs.nix (Keeps.of_below hb),hli,fun i hi=>by have:=hF i hi;have:=hb1.size;omega⟩⟩
theorem r_history_valid {p:Option Addr} {n c:Nat} {xs:List Ln} (hL:Laid w) (hxs:Lines w p n c xs) (hv:∀x∈xs,okL x.cs=true):Ret X.history_valid #[.slice p n c] w (.bool true):=by
 have hlen:=hxs.len
 have hmax:n≤9223372036854775807:=by have:=Own.bound hxs.row;have e:maxLen=9223372036854775807:=(by decide);omega
 refine v_history_valid p n c ⟨fun i _=>∃j:Nat,i=j∧j≤n,fun i=>((n:Int)-i).toNat,fun w7 _=>⟨0,rfl,Nat.zero_le _⟩,?_⟩
 rintro i w1 hk1 ⟨j,rfl,hj⟩
 refine⟨fun hi=>(hxs.nix hk1).ex (by omega) hi fun ad had hown hmem n1 hn1 w3 hb3 hm3=>?_,fun _=>Fin.of fun _=>rfl⟩
 have k3:=hk1.trans (Keeps.of_below hb3)
 refine(r_line_Valid (Laid.nix k3 hL) (LRow.nix hown.lrow (Keeps.of_below hb3))).runs fun w4 hk4=>⟨_,rfl,hk4.nix,fun e=>?_,fun _=>⟨by unfold I64;omega,fun w5 hb5=>⟨⟨j+1,by omega,by omega⟩,by dsimp only;omega⟩⟩⟩
 rw[hv _ hmem] at e
 cases e
theorem r_history_push {p:Option Addr} {n c:Nat} {xs:List Ln} (hL:Laid w) (a:HiAt w h) (hxs:Lines w p n c xs) (hv:∀x∈xs,okL x.cs=true) (hoff:∀i,LsF p xs i→¬HiF h i) (hnext:h.r.next+n≤4611686018427387904):
  Gets Tryz.prog X.history_push #[h.ptr, .slice p n c] w (HiF h) (fun v w'=>v= .tuple #[]∧ModHi w h (pushAll h.r.rg (lis xs)) w'):=by
 have hlen:=hxs.len
 refine v_history_push _ p n c ⟨fun i V=>∃j:Nat,i=j∧j≤n∧Whole V h.b T.history_History [h.r.ptr]∧∃r':Rd,r'.b=h.r.b∧r'.rg=pushAll h.r.rg ((lis xs).take j)∧RingAt V r'∧linesN r'.ss≤r'.most∧r'.next=h.r.next+j∧∀i,RdF r' i→RdF h.r i∨w.heap.size≤i,fun i=>((n:Int)-i).toNat,
  fun w6 hb6=>⟨0,rfl,Nat.zero_le _,a.blk.keeps (Keeps.of_below hb6) (fun e=>e),h.r,rfl,rfl,a.ring.below hb6,a.cap,rfl,fun i hi=> .inl hi⟩,?_⟩
 rintro i w1 hk1 ⟨j,rfl,hj,hbw,r',hb',hrg,hr,hcap,hnx,hF⟩
 have hx1:Lines w1 p n c xs:=hxs.keeps hk1 fun i hi e=>hoff i e hi
 have hL1:Laid w1:=hL.keeps hk1 fun i hi=>a.low hi
 have hoffb:¬RdF r' h.b:=fun e=>by
  rcases hF _ e with u|u
  ·exact a.off u
  ·have:=a.blk.lt;omega
 have hpr:r'.ptr=h.r.ptr:=by unfold Rd.ptr;rw[hb']
 have hs1:=hk1.size
 refine⟨fun hi=>hx1.ex (by omega) hi fun ad had hown hmem n1 hn1=>?_,fun hge w' hb _=>?_⟩
 ·have hj2:j<n:=by omega
  refine⟨_,hbw.at_ (show 1≤maxLen by decide),fun w3 hb3 hm3=>?_⟩
  have hs3:=hb3.size
  have hn1l:=hm3.lt (d:=n1) (by simp)
  have hmem':lnAt xs (j:Int).toNat∈xs:=hmem
  rw[Int.toNat_natCast] at hmem' hown⊢
  have hP:=r_ring_Push (Laid.below hb3 hL1) (hr.below hb3) (LRow.nix hown.lrow (Keeps.of_below hb3)) (hv _ hmem') (fun ad had e=>by
   have hl:LsF p xs ad.block:= .inr ⟨_,hmem',ad,had,rfl⟩
   rcases hF _ e with u|u
   ·exact hoff _ hl (.inr u)
   ·have:=hxs.lt hl;omega) hcap (by omega)
  rw[hpr] at hP
  refine hP.runs fun v w4 hk4 ⟨hv4,r2,hb2,hrg2,hr2,hF2⟩=>?_
  ·subst hv4
   have hs4:=hk4.size
   have e1:r2.next=r'.next+1:=congrArg Rg'.next hrg2
   have e2:r2.first=r'.first+(r'.next+1-r'.first-r'.most):=congrArg Rg'.first hrg2
   have e3:r2.most=r'.most:=congrArg Rg'.most hrg2
   have hnum:=hr2.num
   refine⟨_,_,rfl,hk4.kept (fun i hi hlt=>?_) (fun i hi hle hm=>?_),by unfold I64;omega,fun w5 hb5=>⟨⟨j+1,by omega,by omega,?_,r2,hb2.trans hb',?_,hr2.below hb5,by omega,by omega,fun i hi=>?_⟩,by dsimp only;omega⟩⟩
   ·rcases hF i hi with u|u
    ·exact .inr u
    ·omega
   ·have:i=n1:=by simpa using hm
    have:=hr.lt hi
    omega
   ·exact((hbw.keeps (Keeps.of_below hb3) fun e=>e).keeps hk4 hoffb).keeps (Keeps.of_below hb5) fun e=>e
   ·have hj3:(lis xs)[j]? =some ⟨(lnAt xs j).cs,(lnAt xs j).lh.soft⟩:=by
     have:xs[j]? =some (lnAt xs j):=by
      unfold lnAt
      rw[List.getD_eq_getElem?_getD,List.getElem?_eq_getElem (by omega)]
      rfl
     simp[lis,this]
     rfl
    rw[hrg2,hrg,List.take_add_one,hj3]
    unfold pushAll
    simp[List.foldl_append]
   ·rcases hF2 i hi with u|u
    ·exact hF i u
    ·exact .inr (by omega)
 ·obtain rfl:j=n:=by omega
  refine⟨rfl,⟨h.b,r'⟩,rfl,hb',?_,⟨?_,hr.below hb,hoffb,a.lo,hcap⟩,fun i hi=>?_⟩
  ·rw[hrg,List.take_of_length_le (by simp[lis];omega)]
  ·show Whole _ _ _ [r'.ptr]
   rw[hpr]
   exact hbw.keeps (Keeps.of_below hb) fun e=>e
  ·rcases hi with rfl|hi
   ·exact .inl (.inl rfl)
   ·exact(hF i hi).imp .inr id
theorem r_history_Push {p:Option Addr} {n c:Nat} {xs:List Ln} (hL:Laid w) (a:HiAt w h) (hxs:Lines w p n c xs) (hv:∀x∈xs,okL x.cs=true) (hoff:∀i,LsF p xs i→¬HiF h i) (hnext:h.r.next+n≤4611686018427387904):
  Gets Tryz.prog X.history_Push #[h.ptr, .slice p n c] w (HiF h) (fun v w'=>v= .int .i64 0∧ModHi w h (pushAll h.r.rg (lis xs)) w'):=by
 refine v_history_Push _ p n c fun w1 hb1=>(r_history_none (a.below hb1)).runs fun w2 hk2=>⟨_,rfl,hk2.nix,fun e=>(nomatch e),fun _ w3 hb3=>?_⟩
 have k3:=((Keeps.of_below hb1).trans hk2).trans (Keeps.of_below hb3)
 refine(r_history_valid (Laid.nix k3 hL) (hxs.nix k3) hv).runs fun w4 hk4=>⟨_,rfl,hk4.nix,fun e=>(nomatch e),fun _ w5 hb5=>?_⟩
 have k5:=(k3.trans hk4).trans (Keeps.of_below hb5)
 have hs5:=k5.size
 refine(r_history_push (Laid.nix k5 hL) (a.nix k5) (hxs.nix k5) hv hoff hnext).runs fun v w6 hk6 ⟨hv6,h',hb',hbr,hrg,ha,hF⟩=>?_
 subst hv6
 exact⟨rfl,hk6.kept (fun i hi _=>hi) (fun i _ _ hm=>by cases hm),fun w' hb _=>⟨rfl,h',hb',hbr,hrg,ha.below hb,fun i hi=>(hF i hi).imp id fun u=>by omega⟩⟩
end
end Go.Proofs.YtjhhiindeignaaaGreatDoor
namespace Go.Proofs.YtjhhiindeignaaaGreatDoor
open Go Go.RowKit Go.Sy Go.Rep
set_option maxRecDepth 100000
theorem v_view_New {w0:World} {F:Nat→Prop} {Q:Value→World→Prop} (rows:Int) (h:((rows<1)→Fin w0 F w0 Q (.tuple #[(.pointer none),(.int .i64 2)]))∧(((1:Int)≤rows)→(((1000:Int)<rows)→Fin w0 F w0 Q (.tuple #[(.pointer none),(.int .i64 2)]))∧((rows≤1000)→∀n1:Nat,(w0.heap.size≤n1)→∀w1:World,(Below w0.heap.size w0 w1)→(Keeps F w0 w1)→((w0.heap.size≤n1)∧(Whole w1 n1 T.view_View [(.int .i64 rows),(.int .i64 0)]))→Q (.tuple #[(.pointer (some ⟨n1,0,none⟩)),(.int .i64 0)]) w1))):Gets Tryz.prog X.view_New #[(.int .i64 rows)] w0 F Q:=
 func_run mixed [] [] X.view_New [SV.int IntKind.i64 rows] ⟨by trivial,trivial⟩ (by kernel_rfl) (by kernel_rfl) h
theorem v_view_zero {w0:World} {F:Nat→Prop} {Q:Value→World→Prop} (v:Addr) (h:∃i1:Int,(At w0 v 0 [(.int .i64 i1)])∧Fin w0 F w0 Q (.bool (BE.val (.eq i1 0)))):Gets Tryz.prog X.view_zero #[(.pointer (some v))] w0 F Q:=
 func_run mixed [] [] X.view_zero [SV.adr v 0] ⟨by trivial,trivial⟩ (by kernel_rfl) (by kernel_rfl) h
theorem v_view_nothing {w0:World} {F:Nat→Prop} {Q:Value→World→Prop} (hh:Addr) (h:∀w1:World,(Below w0.heap.size w0 w1)→Runs Tryz.prog X.history_Copy #[(.pointer (some hh))] w1 (fun e1 w2=>∃p1:Option Addr,(e1=(.returned (.pointer p1)))∧((Kept w0.heap.size F [] w1 w2)∧Fin w0 F w2 Q (.bool (BE.val (.pr (p1=none))))))):Gets Tryz.prog X.view_nothing #[(.pointer (some hh))] w0 F Q:=
 func_run mixed [] [] X.view_nothing [SV.adr hh 0] ⟨by trivial,trivial⟩ (by kernel_rfl) (by kernel_rfl) h
theorem v_view_clamped {w0:World} {F:Nat→Prop} {Q:Value→World→Prop} (x0:Int) (x1:Int) (h:∀n1:Nat,(w0.heap.size≤n1)→((x0<0)→Fin w0 F w0 Q (.int .i64 0))∧(((0:Int)≤x0)→((x1<x0)→Fin w0 F w0 Q (.int .i64 x1))∧((x0≤x1)→Fin w0 F w0 Q (.int .i64 x0)))):Gets Tryz.prog X.view_clamped #[(.agg #[(.int .i64 x0),(.int .i64 x1)])] w0 F Q:=
 func_run mixed [] [] X.view_clamped [SV.agg [SV.int IntKind.i64 x0,SV.int IntKind.i64 x1]] ⟨by trivial,trivial⟩ (by kernel_rfl) (by kernel_rfl) h
theorem v_view_Bottom {w0:World} {F:Nat→Prop} {Q:Value→World→Prop} (v:Addr) (h:∀w1:World,(Below w0.heap.size w0 w1)→Runs Tryz.prog X.view_zero #[(.pointer (some v))] w1 (fun e1 w2=>∃b1:Bool,(e1=(.returned (.bool b1)))∧((Kept w0.heap.size F [] w1 w2)∧(((b1=true)→Fin w0 F w2 Q (.int .i64 1))∧((b1=false)→((CanPut w2 v 1 1)∧(Away w0.heap.size F [] v.block))∧∀w3:World,(Put w2 [] v 1 [(.int .i64 0)] w3)→Fin w0 F w3 Q (.int .i64 0)))))):Gets Tryz.prog X.view_Bottom #[(.pointer (some v))] w0 F Q:=
 func_run mixed [] [] X.view_Bottom [SV.adr v 0] ⟨by trivial,trivial⟩ (by kernel_rfl) (by kernel_rfl) h
theorem v_view_Pushed {w0:World} {F:Nat→Prop} {Q:Value→World→Prop} (v:Addr) (n:Int) (hh:Addr) (h:∀w1:World,(Below w0.heap.size w0 w1)→Runs Tryz.prog X.view_zero #[(.pointer (some v))] w1 (fun e1 w2=>∃b1:Bool,(e1=(.returned (.bool b1)))∧((Kept w0.heap.size F [] w1 w2)∧(((b1=true)→Fin w0 F w2 Q (.int .i64 1))∧((b1=false)→∀w3:World,(Below w2.heap.size w2 w3)→Runs Tryz.prog X.view_nothing #[(.pointer (some hh))] w3 (fun e2 w4=>∃b2:Bool,(e2=(.returned (.bool b2)))∧((Kept w0.heap.size F [] w3 w4)∧(((b2=true)→Fin w0 F w4 Q (.int .i64 1))∧((b2=false)→((n<0)→Fin w0 F w4 Q (.int .i64 2))∧(((0:Int)≤n)→∃i1:Int,(At w4 v 1 [(.int .i64 i1)])∧((((0:Int)<i1)→∃i5:Int,(At w4 v 1 [(.int .i64 i5)])∧((I64 (i5+(min n 1048576)))∧(((CanPut w4 v 1 1)∧(Away w0.heap.size F [] v.block))∧∀w11:World,(Put w4 [] v 1 [(.int .i64 (i5+(min n 1048576)))] w11)→∃i6:Int,(At w11 v 1 [(.int .i64 i6)])∧∀w12:World,(Below w11.heap.size w11 w12)→Runs Tryz.prog X.history_Len #[(.pointer (some hh))] w12 (fun e5 w13=>∃i7:Int,(e5=(.returned (.int .i64 i7)))∧((Kept w0.heap.size F [] w12 w13)∧((At w13 v 1 [(.int .i64 i6)])∧∀w14:World,(Below w13.heap.size w13 w14)→Runs Tryz.prog X.view_clamped #[(.agg #[(.int .i64 i6),(.int .i64 i7)])] w14 (fun e6 w15=>∃i8:Int,(e6=(.returned (.int .i64 i8)))∧((Kept w0.heap.size F [] w14 w15)∧(((CanPut w15 v 1 1)∧(Away w0.heap.size F [] v.block))∧∀w16:World,(Put w15 [] v 1 [(.int .i64 i8)] w16)→Fin w0 F w16 Q (.int .i64 0))))))))))∧((i1≤0)→∃i2:Int,(At w4 v 1 [(.int .i64 i2)])∧∀w5:World,(Below w4.heap.size w4 w5)→Runs Tryz.prog X.history_Len #[(.pointer (some hh))] w5 (fun e3 w6=>∃i3:Int,(e3=(.returned (.int .i64 i3)))∧((Kept w0.heap.size F [] w5 w6)∧((At w6 v 1 [(.int .i64 i2)])∧∀w7:World,(Below w6.heap.size w6 w7)→Runs Tryz.prog X.view_clamped #[(.agg #[(.int .i64 i2),(.int .i64 i3)])] w7 (fun e4 w8=>∃i4:Int,(e4=(.returned (.int .i64 i4)))∧((Kept w0.heap.size F [] w7 w8)∧(((CanPut w8 v 1 1)∧(Away w0.heap.size F [] v.block))∧∀w9:World,(Put w8 [] v 1 [(.int .i64 i4)] w9)→Fin w0 F w9 Q (.int .i64 0))))))))))))))))))):Gets Tryz.prog X.view_Pushed #[(.pointer (some v)),(.int .i64 n),(.pointer (some hh))] w0 F Q:=
 func_run mixed [] [] X.view_Pushed [SV.adr v 0,SV.int IntKind.i64 n,SV.adr hh 0] ⟨by trivial,by trivial,by trivial,trivial⟩ (by kernel_rfl) (by kernel_rfl) h
theorem v_view_Lines {w0:World} {F:Nat→Prop} {Q:Value→World→Prop} (v:Addr) (hh:Addr) (pscreen:Option Addr) (nscreen:Nat) (cscreen:Nat) (h:∀w1:World,(Below w0.heap.size w0 w1)→Runs Tryz.prog X.view_zero #[(.pointer (some v))] w1 (fun e1 w2=>∃b1:Bool,(e1=(.returned (.bool b1)))∧((Kept w0.heap.size F [] w1 w2)∧(((b1=true)→Fin w0 F w2 Q (.tuple #[(.slice none 0 0),(.int .i64 0),(.int .i64 1)]))∧((b1=false)→∀w3:World,(Below w2.heap.size w2 w3)→Runs Tryz.prog X.view_nothing #[(.pointer (some hh))] w3 (fun e2 w4=>∃b2:Bool,(e2=(.returned (.bool b2)))∧((Kept w0.heap.size F [] w3 w4)∧(((b2=true)→Fin w0 F w4 Q (.tuple #[(.slice none 0 0),(.int .i64 0),(.int .i64 1)]))∧((b2=false)→∃i1:Int,(At w4 v 0 [(.int .i64 i1)])∧((((nscreen:Int)≠i1)→Fin w0 F w4 Q (.tuple #[(.slice none 0 0),(.int .i64 0),(.int .i64 2)]))∧(((nscreen:Int)=i1)→∃i2:Int,(At w4 v 1 [(.int .i64 i2)])∧∀w5:World,(Below w4.heap.size w4 w5)→Runs Tryz.prog X.history_Len #[(.pointer (some hh))] w5 (fun e3 w6=>∃i3:Int,(e3=(.returned (.int .i64 i3)))∧((Kept w0.heap.size F [] w5 w6)∧((At w6 v 1 [(.int .i64 i2)])∧∀w7:World,(Below w6.heap.size w6 w7)→Runs Tryz.prog X.view_clamped #[(.agg #[(.int .i64 i2),(.int .i64 i3)])] w7 (fun e4 w8=>∃i4:Int,(e4=(.returned (.int .i64 i4)))∧((Kept w0.heap.size F [] w7 w8)∧∀w9:World,(Below w8.heap.size w8 w9)→Runs Tryz.prog X.history_Last #[(.pointer (some hh)),(.int .i64 i4)] w9 (fun e5 w10=>∃p1:Option Addr,∃n1 n2:Nat,(e5=(.returned (.slice p1 n1 n2)))∧((Kept w0.heap.size F [] w9 w10)∧∃I1:Option Addr→Nat→Nat→Int→World→Prop,∃I2:Option Addr→Nat→Nat→Int→Nat,(∀w24:World,(Below w10.heap.size w10 w24)→I1 none 0 0 0 w24)∧∀p2:Option Addr,∀n3 n4:Nat,∀i5:Int,∀w11:World,(Keeps F w0 w11)→(I1 p2 n3 n4 i5 w11)→((i5<(n1:Int))→∃a3:Addr,(p1=(some a3))∧((((0:Int)≤i5)∧(i5<(n1:Int)))∧∃lh2:Lh,(At w11 a3 ((Int.toNat i5)*2) lh2.arr.toList)∧∀n12:Nat,(w11.heap.size≤n12)→∃i9:Int,(At w11 v 0 [(.int .i64 i9)])∧((((n3:Int)<i9)→∀n13:Nat,(w11.heap.size≤n13)→∃s2:List Value,(Room w0.heap.size F [n12,n13] w11 T.Line 2 p2 n3 n4 s2 1)∧((((n3+1)*32)≤140737488355328)∧∀w22:World,∀p6:Option Addr,∀n14:Nat,(Grown w11 [] p2 n3 n4 T.Line 2 (n3+1) (s2++lh2.arr.toList) w22 p6 n14)→(∀a4:Addr,(p6=(some a4))→¬(a4.block∈[n12,n13]))→(I64 (i5+1))∧∀w23:World,(Below w22.heap.size w22 w23)→(I1 p6 (n3+1) n14 (i5+1) w23)∧(I2 p6 (n3+1) n14 (i5+1)<I2 p2 n3 n4 i5)))∧((i9≤(n3:Int))→(I64 (i5+1))∧∀w21:World,(Below w11.heap.size w11 w21)→(I1 p2 n3 n4 (i5+1) w21)∧(I2 p2 n3 n4 (i5+1)<I2 p2 n3 n4 i5)))))∧(((n1:Int)≤i5)→∃i6:Int,(At w11 v 0 [(.int .i64 i6)])∧((I64 (i6-(n3:Int)))∧((((0:Int)≤0)∧(((0:Int)≤(i6-(n3:Int)))∧((i6-(n3:Int))≤(cscreen:Int))))∧∃I3:Option Addr→Nat→Nat→Int→World→Prop,∃I4:Option Addr→Nat→Nat→Int→Nat,(∀w20:World,(Below w11.heap.size w11 w20)→I3 p2 n3 n4 0 w20)∧∀p3:Option Addr,∀n5 n6:Nat,∀i7:Int,∀w12:World,(Keeps F w0 w12)→(I3 p3 n5 n6 i7 w12)→((i7<(((Int.toNat ((i6-(n3:Int))-0)):Nat):Int))→∃a1:Addr,((cutP pscreen cscreen 0 2)=(some a1))∧((((0:Int)≤i7)∧(i7<(((Int.toNat ((i6-(n3:Int))-0)):Nat):Int)))∧∃lh1:Lh,(At w12 a1 ((Int.toNat i7)*2) lh1.arr.toList)∧∀n7:Nat,(w12.heap.size≤n7)→∀w16:World,(Below w12.heap.size w12 w16)→(Mine w16 w0.heap.size [(n7,T.Line)])→Runs Tryz.prog X.slices_Clone_Cell #[(.slice lh1.cells.p lh1.cells.n lh1.cells.c)] w16 (fun e7 w17=>∃p4:Option Addr,∃n8 n9:Nat,(e7=(.returned (.slice p4 n8 n9)))∧((Kept w0.heap.size F [n7] w16 w17)∧∀n10:Nat,(w17.heap.size≤n10)→∃s1:List Value,(Room w0.heap.size F [n7,n10] w17 T.Line 2 p3 n5 n6 s1 1)∧((((n5+1)*32)≤140737488355328)∧∀w18:World,∀p5:Option Addr,∀n11:Nat,(Grown w17 [] p3 n5 n6 T.Line 2 (n5+1) (s1++[(.slice p4 n8 n9),(.bool lh1.soft)]) w18 p5 n11)→(∀a2:Addr,(p5=(some a2))→¬(a2.block∈[n7,n10]))→(I64 (i7+1))∧∀w19:World,(Below w18.heap.size w18 w19)→(I3 p5 (n5+1) n11 (i7+1) w19)∧(I4 p5 (n5+1) n11 (i7+1)<I4 p3 n5 n6 i7))))))∧(((((Int.toNat ((i6-(n3:Int))-0)):Nat):Int)≤i7)→∀w13:World,(Below w12.heap.size w12 w13)→Runs Tryz.prog X.history_Next #[(.pointer (some hh))] w13 (fun e6 w14=>∃i8:Int,(e6=(.returned (.int .i64 i8)))∧((Kept w0.heap.size F [] w13 w14)∧((I64 (i8-i4))∧Fin w0 F w14 Q (.tuple #[(.slice p3 n5 n6),(.int .i64 (i8-i4)),(.int .i64 0)])))))))))))))))))))))))))):Gets Tryz.prog X.view_Lines #[(.pointer (some v)),(.pointer (some hh)),(.slice pscreen nscreen cscreen)] w0 F Q:=
 func_run mixed [⟨8,[10,42],[]⟩,⟨14,[10,68],[]⟩] [] X.view_Lines [SV.adr v 0,SV.adr hh 0,SV.sl pscreen nscreen cscreen] ⟨by trivial,by trivial,by trivial,trivial⟩ (by kernel_rfl) (by kernel_rfl) h
theorem v_view_Back {w0:World} {F:Nat→Prop} {Q:Value→World→Prop} (v:Addr) (h:∀w1:World,(Below w0.heap.size w0 w1)→Runs Tryz.prog X.view_zero #[(.pointer (some v))] w1 (fun e1 w2=>∃b1:Bool,(e1=(.returned (.bool b1)))∧((Kept w0.heap.size F [] w1 w2)∧(((b1=true)→Fin w0 F w2 Q (.int .i64 0))∧((b1=false)→∃i1:Int,(At w2 v 1 [(.int .i64 i1)])∧Fin w0 F w2 Q (.int .i64 i1)))))):Gets Tryz.prog X.view_Back #[(.pointer (some v))] w0 F Q:=
 func_run mixed [] [] X.view_Back [SV.adr v 0] ⟨by trivial,trivial⟩ (by kernel_rfl) (by kernel_rfl) h
end Go.Proofs.YtjhhiindeignaaaGreatDoor
namespace Go.Rep
open Go Go.Sy
structure Vw where
 (b:Nat) (rows back:Nat)
def Vw.ptr (v:Vw):Value:= .pointer (some ⟨v.b,0,none⟩)
end Go.Rep
namespace Go.Proofs.YtjhhiindeignaaaGreatDoor
open Go Go.RowKit Go.Sy Go.Rep
set_option maxRecDepth 100000
set_option maxHeartbeats 2000000
structure VwAt (w:World) (v:Vw):Prop where
 blk:Whole w v.b T.view_View [.int .i64 v.rows, .int .i64 v.back]
 lo:Y.count≤v.b
 r1:1≤v.rows
 r2:v.rows≤1000
 k:v.back≤1048576
def clampI (x y:Int):Int:=if x<0 then 0 else if y<x then y else x
section
variable {w w':World} {v:Vw} {h:Hi}
theorem VwAt.keeps {F:Nat→Prop} (a:VwAt w v) (hk:Keeps F w w') (hF:¬F v.b):VwAt w' v:=⟨a.blk.keeps hk hF,a.lo,a.r1,a.r2,a.k⟩
theorem VwAt.nix (a:VwAt w v) (hk:Keeps Nix w w'):VwAt w' v:=a.keeps hk fun e=>e
theorem VwAt.below (a:VwAt w v) (hb:Below w.heap.size w w'):VwAt w' v:=a.nix (Keeps.of_below hb)
theorem VwAt.at0 (a:VwAt w v):At w ⟨v.b,0,none⟩ 0 [.int .i64 v.rows]:=(a.blk.at_ (show 2≤maxLen by decide)).one 0 rfl
theorem VwAt.at1 (a:VwAt w v):At w ⟨v.b,0,none⟩ 1 [.int .i64 v.back]:=(a.blk.at_ (show 2≤maxLen by decide)).one 1 rfl
theorem VwAt.lt (a:VwAt w v):v.b<w.heap.size:=a.blk.lt
def NewV (w0:World) (rows back:Nat) (v:Vw) (w:World):Prop:=v.rows=rows∧v.back=back∧VwAt w v∧w0.heap.size≤v.b
theorem r_view_New {n:Nat} (hL:Laid w) (h1:1≤n) (h2:n≤1000):Gets Tryz.prog X.view_New #[.int .i64 n] w Nix (fun u w'=>∃v:Vw,u= .tuple #[v.ptr, .int .i64 0]∧NewV w n 0 v w'):=
 v_view_New n ⟨fun e=>by omega,fun _=>⟨fun e=>by omega,fun _ n1 hn1 w1 hb hk hw=>⟨⟨n1,n,0⟩,rfl,rfl,rfl,⟨hw.2,Nat.le_trans hL.size hw.1,h1,h2,Nat.zero_le _⟩,hw.1⟩⟩⟩
theorem r_view_zero (a:VwAt w v):Ret X.view_zero #[v.ptr] w (.bool false):=
 v_view_zero _ ⟨_,a.at0,Fin.of fun _=>by
  have:=a.r1
  rw[bv_eq,decide_eq_false (by omega)]⟩
theorem r_view_Back (a:VwAt w v):Ret X.view_Back #[v.ptr] w (.int .i64 v.back):=
 v_view_Back _ fun w1 hb1=>(r_view_zero (a.below hb1)).runs fun w2 hk2=>⟨_,rfl,hk2.nix,fun e=>(nomatch e),fun _=>⟨_,((a.below hb1).nix hk2).at1,Fin.of fun _=>rfl⟩⟩
theorem r_view_nothing (hL:Laid w) (a:HiAt w h):Ret X.view_nothing #[h.ptr] w (.bool false):=
 v_view_nothing _ fun w1 hb1=>(r_history_Copy (Laid.below hb1 hL) (a.below hb1)).runs fun u w2 hk2 ⟨h',hu,_⟩=>by
  subst hu
  exact⟨_,rfl,hk2.nix,Fin.of fun _=>congrArg Value.bool (show BE.val _=_ by rw[show BE.val (BE.pr (some (⟨h'.b,0,none⟩:Addr)=none))=decide (some (⟨h'.b,0,none⟩:Addr)=none) from bval_dec _ Iff.rfl];rfl)⟩
theorem r_view_clamped (x y:Int):Ret X.view_clamped #[.agg #[.int .i64 x, .int .i64 y]] w (.int .i64 (clampI x y)):=
 v_view_clamped x y fun n1 hn1=>⟨fun e=>Fin.of fun _=>by rw[clampI,if_pos e],fun e=>⟨fun e2=>Fin.of fun _=>by rw[clampI,if_neg (by omega),if_pos e2],fun e2=>Fin.of fun _=>by rw[clampI,if_neg (by omega),if_neg (by omega)]⟩⟩
theorem VwAt.put (a:VwAt w v) {n:Nat} (hn:n≤1048576) (hp:Put w [] ⟨v.b,0,none⟩ 1 [.int .i64 n] w'):VwAt w' ⟨v.b,v.rows,n⟩:=⟨a.blk.put hp (show 2≤2 by omega),a.lo,a.r1,a.r2,hn⟩
def ModV (w0:World) (v:Vw) (n:Nat) (w:World):Prop:=VwAt w ⟨v.b,v.rows,n⟩
theorem r_view_Bottom (a:VwAt w v):Gets Tryz.prog X.view_Bottom #[v.ptr] w (fun i=>i=v.b) (fun u w'=>u= .int .i64 0∧ModV w v 0 w'):=
 v_view_Bottom _ fun w1 hb1=>(r_view_zero (a.below hb1)).runs fun w2 hk2=>⟨_,rfl,hk2.nix,fun e=>(nomatch e),fun _=>⟨⟨((a.below hb1).nix hk2).blk.can (show 2≤2 by omega),⟨by simp,fun _=>rfl⟩⟩,fun w3 hp w' hb _=>⟨rfl,(((a.below hb1).nix hk2).put (Nat.zero_le _) hp).below hb⟩⟩⟩
theorem clampI_nat {x y:Int} (hy:0≤y) (h2:y≤1048576):∃n:Nat,clampI x y=(n:Int)∧n≤1048576:=by
 unfold clampI
 split
 ·exact⟨0,rfl,by omega⟩
 ·split
  ·exact⟨y.toNat,by omega,by omega⟩
  ·exact⟨x.toNat,by omega,by omega⟩
def pushedV (back k len:Int):Int:=clampI (if 0<back then back+min k 1048576 else back) len
def histLen (q:Rg'):Int:=(q.next:Int)-q.first
theorem HiAt.len_le (a:HiAt w h):0≤histLen h.r.rg∧histLen h.r.rg≤1048576:=by
 have h1:=a.ring.num
 have h2:=a.cap
 have h3:=a.ring.m
 show 0≤(h.r.next:Int)-h.r.first∧(h.r.next:Int)-h.r.first≤1048576
 omega
theorem r_view_Pushed {k:Nat} (hL:Laid w) (a:VwAt w v) (ha:HiAt w h) (hoff:¬HiF h v.b):Gets Tryz.prog X.view_Pushed #[v.ptr, .int .i64 k,h.ptr] w (fun i=>i=v.b) (fun u w'=>u= .int .i64 0∧∃n:Nat,(n:Int)=pushedV v.back k (histLen h.r.rg)∧ModV w v n w'):=by
 have hlen:=ha.len_le
 have hbk:=a.k
 have hA:Away w.heap.size (fun i=>i=v.b) [] v.b:=⟨by simp,fun _=>rfl⟩
 refine v_view_Pushed _ k _ fun w1 hb1=>(r_view_zero (a.below hb1)).runs fun w2 hk2=>⟨_,rfl,hk2.nix,fun e=>(nomatch e),fun _ w3 hb3=>?_⟩
 have k3:=((Keeps.of_below hb1).trans hk2).trans (Keeps.of_below hb3)
 refine(r_view_nothing (Laid.nix k3 hL) (ha.nix k3)).runs fun w4 hk4=>⟨_,rfl,hk4.nix,fun e=>(nomatch e),fun _=>⟨fun e=>by omega,fun _=>?_⟩⟩
 have k4:=k3.trans hk4
 have a4:=a.nix k4
 have ha4:=ha.nix k4
 refine⟨_,a4.at1,fun e=>⟨_,a4.at1,by unfold I64;omega,⟨a4.blk.can (show 2≤2 by omega),hA⟩,fun w11 hp11=>?_⟩,fun e=>⟨_,a4.at1,fun w5 hb5=>?_⟩⟩
 ·have e11:(v.back:Int)+min (k:Int) 1048576=((v.back+min k 1048576:Nat):Int):=by omega
  rw[e11] at hp11
  have hb11:Whole w11 v.b T.view_View [.int .i64 v.rows, .int .i64 ((v.back+min k 1048576:Nat):Int)]:=a4.blk.put hp11 (show 2≤2 by omega)
  have ha11:=ha4.keeps (F:=fun i=>i=v.b) (hp11.keeps rfl) fun i hi e=>hoff (by rw[←hi];exact e)
  have at11:∀{V:World},Whole V v.b T.view_View [.int .i64 v.rows, .int .i64 ((v.back+min k 1048576:Nat):Int)]→At V ⟨v.b,0,none⟩ 1 [.int .i64 ((v.back+min k 1048576:Nat):Int)]:=fun hw=>(hw.at_ (show 2≤maxLen by decide)).one 1 rfl
  refine⟨_,at11 hb11,fun w12 hb12=>(r_history_Len (ha11.below hb12)).runs fun w13 hk13=>?_⟩
  have k13:=(Keeps.of_below hb12).trans hk13
  refine⟨_,rfl,hk13.nix,at11 (hb11.keeps k13 fun e=>e),fun w14 hb14=>(r_view_clamped _ _).runs fun w15 hk15=>?_⟩
  have k15:=(k13.trans (Keeps.of_below hb14)).trans hk15
  have hb15:=hb11.keeps k15 fun e=>e
  obtain⟨n,hn,hn2⟩:=clampI_nat (x:=((v.back+min k 1048576:Nat):Int)) hlen.1 hlen.2
  have hn':clampI ((v.back+min k 1048576:Nat):Int) ((h.r.next:Int)-h.r.first)=(n:Int):=hn
  refine⟨_,rfl,hk15.nix,⟨hb15.can (show 2≤2 by omega),hA⟩,fun w16 hp16 w' hb _=>⟨rfl,n,?_,?_⟩⟩
  ·rw[←hn,pushedV,if_pos (by omega),e11]
  ·rw[hn'] at hp16
   exact VwAt.below (⟨hb15.put hp16 (show 2≤2 by omega),a.lo,a.r1,a.r2,hn2⟩:VwAt w16 ⟨v.b,v.rows,n⟩) hb
 ·refine(r_history_Len (ha4.below hb5)).runs fun w6 hk6=>?_
  have a6:=(a4.below hb5).nix hk6
  refine⟨_,rfl,hk6.nix,a6.at1,fun w7 hb7=>(r_view_clamped _ _).runs fun w8 hk8=>?_⟩
  have a8:=(a6.below hb7).nix hk8
  obtain⟨n,hn,hn2⟩:=clampI_nat (x:=(v.back:Int)) hlen.1 hlen.2
  have hn':clampI (v.back:Int) ((h.r.next:Int)-h.r.first)=(n:Int):=hn
  refine⟨_,rfl,hk8.nix,⟨a8.blk.can (show 2≤2 by omega),hA⟩,fun w9 hp9 w' hb _=>⟨rfl,n,?_,?_⟩⟩
  ·rw[←hn,pushedV,if_neg (by omega)]
  ·rw[hn'] at hp9
   exact(a8.put hn2 hp9).below hb
end
end Go.Proofs.YtjhhiindeignaaaGreatDoor
namespace Go.Proofs.YtjhhiindeignaaaGreatDoor
open Go Go.RowKit Go.Sy Go.Rep
set_option maxRecDepth 100000
set_option maxHeartbeats 2000000
def linesV (rows n:Nat) (q:Rg') (scr:List Li):List Li:=(lastR q n).take rows++scr.take (rows-((lastR q n).take rows).length)
section
variable {w w':World} {v:Vw} {h:Hi}
theorem r_view_Lines {p:Option Addr} {c:Nat} {xs:List Ln} (hL:Laid w) (a:VwAt w v) (ha:HiAt w h) (hxs:Lines w p v.rows c xs) (hw:∀x∈xs,x.cs.length≤1000):
  Gets Tryz.prog X.view_Lines #[v.ptr,h.ptr, .slice p v.rows c] w Nix (fun u w'=>∃q d ys,∃n:Nat,(n:Int)=clampI v.back (histLen h.r.rg)∧u= .tuple #[.slice q ys.length d, .int .i64 ((h.r.next:Int)-n), .int .i64 0]∧Lines w' q ys.length d ys∧lis ys=linesV v.rows n h.r.rg (lis xs)∧∀i,LsF q ys i→w.heap.size≤i):=by
 have hY:=hL.size
 have hlen:=ha.len_le
 have hr1:=a.r1
 have hr2:=a.r2
 have hbk:=a.k
 have hsm:=ha.ring.small
 have hxl:=hxs.len
 refine v_view_Lines _ _ p v.rows c fun w1 hb1=>(r_view_zero (a.below hb1)).runs fun w2 hk2=>⟨_,rfl,hk2.nix,fun e=>(nomatch e),fun _ w3 hb3=>?_⟩
 have k3:=((Keeps.of_below hb1).trans hk2).trans (Keeps.of_below hb3)
 refine(r_view_nothing (Laid.nix k3 hL) (ha.nix k3)).runs fun w4 hk4=>⟨_,rfl,hk4.nix,fun e=>(nomatch e),fun _=>?_⟩
 have k4:=k3.trans hk4
 refine⟨_,(a.nix k4).at0,fun e=>absurd rfl e,fun _=>⟨_,(a.nix k4).at1,fun w5 hb5=>(r_history_Len ((ha.nix k4).below hb5)).runs fun w6 hk6=>?_⟩⟩
 have k6:=(k4.trans (Keeps.of_below hb5)).trans hk6
 refine⟨_,rfl,hk6.nix,(a.nix k6).at1,fun w7 hb7=>(r_view_clamped _ _).runs fun w8 hk8=>?_⟩
 have k8:=(k6.trans (Keeps.of_below hb7)).trans hk8
 obtain⟨n0,hn0,hn2⟩:=clampI_nat (x:=(v.back:Int)) hlen.1 hlen.2
 have hn':clampI (v.back:Int) ((h.r.next:Int)-h.r.first)=(n0:Int):=hn0
 refine⟨_,rfl,hk8.nix,fun w9 hb9=>?_⟩
 have k9:=k8.trans (Keeps.of_below hb9)
 rw[hn']
 refine(r_history_Last (n:=n0) (Laid.nix k9 hL) (ha.nix k9)).runs fun u w10 hk10 ⟨p1,c1,xs1,hu,hx1,hl1,hF1⟩=>?_
 subst hu
 have k10:=k9.trans hk10
 have hs9:=k9.size
 have hs10:=hk10.size
 have hmax:xs1.length≤9223372036854775807:=by
  have:=Own.bound hx1.row
  have e:maxLen=9223372036854775807:=by decide
  omega
 refine⟨p1,xs1.length,c1,rfl,hk10.nix,fun q n d i V=>∃j:Nat,i=j∧j≤xs1.length∧n=(xs1.take (min j v.rows)).length∧Lines V q n d (xs1.take (min j v.rows))∧Lines V p1 xs1.length c1 xs1∧∀i,PF q i→w.heap.size≤i∧¬LsF p1 xs1 i,
  fun _ _ _ i=>((xs1.length:Int)-i).toNat,fun w24 hb24=>⟨0,rfl,Nat.zero_le _,by simp,by simpa using Lines.nil,hx1.nix (Keeps.of_below hb24),fun i ⟨ad,had,_⟩=>(nomatch had)⟩,?_⟩
 rintro q n d i w11 hk11 ⟨j,rfl,hj,rfl,hys,hx11,hoff⟩
 have hL11:=Laid.nix hk11 hL
 have htl:(xs1.take (min j v.rows)).length=min j v.rows:=by rw[List.length_take];omega
 rw[htl] at hys⊢
 have hs11:=hk11.size
 refine⟨fun hi=>hx11.ex (by omega) hi fun ad had hown hmem n12 hn12=>⟨_,(a.nix hk11).at0,fun e9 n13 hn13=>?_,fun e9=>?_⟩,fun hge=>?_⟩
 ·rw[Int.toNat_natCast] at hown hmem⊢
  have hjr:j<v.rows:=by omega
  have hjx:j<xs1.length:=by omega
  have emin:min j v.rows=j:=by omega
  rw[emin] at hys e9⊢
  refine⟨hdrs (xs1.take j),hys.row.room (fun ad had hm=>?_) (fun _ ad had hl=>?_),by omega,fun w22 p6 n14 hg hof=>⟨by unfold I64;omega,fun w23 hb23=>?_⟩⟩
  ·have:=(hys.row.lt ad had).1
   simp at hm
   omega
  ·have:=(hoff _ ⟨ad,had,rfl⟩).1
   omega
  ·have hdis:∀i,LF [lnAt xs1 j] i→¬LsF q (xs1.take j) i:=fun i hi hc=>by
    rcases hc with hc|⟨y,hy,b,hb,hbi⟩
    ·exact(hoff i hc).2 (.inr (by obtain⟨b,hb,e⟩:=LF.one.1 hi;exact⟨_,hmem,b,hb,e⟩))
    ·obtain⟨b2,hb2,e2⟩:=LF.one.1 hi
     have hsplit:xs1=xs1.take j++lnAt xs1 j::xs1.drop (j+1):=by
      have:lnAt xs1 j=xs1[j]:=by simp[lnAt,hjx]
      rw[this,←List.drop_eq_getElem_cons hjx,List.take_append_drop]
     have hsep:=hx11.each.sep
     rw[hsplit] at hsep
     exact(List.pairwise_append.1 hsep).2.2 y hy _ List.mem_cons_self b b2 hb hb2 (by omega)
   obtain⟨q1,q2,q3⟩:=Lines.push (x:=lnAt xs1 j) (by omega) hys hown hdis hg
   have etake:xs1.take (min (j+1) v.rows)=xs1.take j++[lnAt xs1 j]:=by
    rw[show min (j+1) v.rows=j+1 by omega,List.take_add_one,List.getElem?_eq_getElem hjx]
    simp[lnAt,hjx]
   have hPF:∀i,PF p6 i→PF q i∨w11.heap.size≤i:=fun i ⟨b,hb,e⟩=>by
    rcases hg.place b hb with⟨b',h1,h2,_⟩|u
    ·exact .inl ⟨b',h1,by rw[←h2];exact e⟩
    ·exact .inr (by omega)
   have hk22:Keeps (PF q) w11 w22:=hg.keeps fun _ b hb=>⟨b,hb,rfl⟩
   refine⟨⟨j+1,by omega,by omega,?_,?_,(hx11.keeps hk22 fun i hi e=>(hoff i hi).2 e).nix (Keeps.of_below hb23),fun i hi=>?_⟩,by dsimp only;omega⟩
   ·rw[etake];simp<;>omega
   ·rw[etake];exact q1.nix (Keeps.of_below hb23)
   ·rcases hPF i hi with u|u
    ·exact hoff i u
    ·exact⟨by omega,fun e=>by have:=hx11.lt e;omega⟩
 ·have emin:min (j+1) v.rows=min j v.rows:=by omega
  exact⟨by unfold I64;omega,fun w21 hb21=>⟨⟨j+1,by omega,by omega,by rw[emin,htl],by rw[emin];exact hys.nix (Keeps.of_below hb21),hx11.nix (Keeps.of_below hb21),hoff⟩,by dsimp only;omega⟩⟩
 ·obtain rfl:j=xs1.length:=by omega
  obtain⟨t,ht⟩:∃t,t=min xs1.length v.rows:=⟨_,rfl⟩
  rw[←ht] at hys htl⊢
  have hcap:=Own.cap hxs.row
  have etn:((v.rows:Int)-(t:Int)-0).toNat=v.rows-t:=by omega
  refine⟨_,(a.nix hk11).at0,by unfold I64;omega,⟨by omega,by omega,by omega⟩,fun q n d i V=>∃k:Nat,i=k∧k≤v.rows-t∧∃zs:List Ln,n=zs.length∧zs.length=t+k∧Lines V q n d zs∧lis zs=(lastR h.r.rg n0).take v.rows++(lis xs).take k∧∀i,LsF q zs i→w.heap.size≤i,
   fun _ _ _ i=>((v.rows:Int)-i).toNat,fun w20 hb20=>⟨0,rfl,Nat.zero_le _,_,htl.symm,htl,hys.nix (Keeps.of_below hb20),?_,fun i hi=>?_⟩,?_⟩
  ·rw[←hl1,List.take_zero,List.append_nil,ht]
   unfold lis
   rw[List.map_take]
   rcases Nat.le_total xs1.length v.rows with u|u
   ·rw[Nat.min_eq_left u,List.take_of_length_le (by simp),List.take_of_length_le (by simpa using u)]
   ·rw[Nat.min_eq_right u]
  ·rcases hi with hi|⟨y,hy,b,hb,e⟩
   ·exact(hoff i hi).1
   ·have:=hF1 i (.inr ⟨y,List.mem_of_mem_take hy,b,hb,e⟩)
    omega
  rintro q2 n d2 i w12 hk12 ⟨k,rfl,hk,zs,rfl,hzl,hzs,hzi,hzF⟩
  rw[etn]
  have hx12:=hxs.nix hk12
  have hs12:=hk12.size
  refine⟨fun hi=>?_,fun hge w13 hb13=>?_⟩
  ·have hkr:k<v.rows-t:=by omega
   obtain⟨hT1,hT2⟩:=Own.tail hx12.row (j:=0) (by omega) (by omega)
   obtain⟨a1,ha1⟩:∃a1,cutP p c 0 2=some a1:=by
    cases hc:cutP p c 0 2 with
    |some a1=>exact⟨a1,rfl⟩
    |none=>have:=hT1 hc;omega
   have hat:At w12 a1 (k*2) (lnAt xs k).lh.arr.toList:=by
    have:=hT2 a1 ha1
    rw[Nat.zero_mul,List.drop_zero] at this
    have h2:=this.sub (k*2) (hdrs_sub xs k (by omega))
    rwa[Nat.zero_add] at h2
   have hmem:=lnAt_mem (xs:=xs) (k:=k) (by omega)
   refine⟨a1,ha1,⟨by omega,by omega⟩,(lnAt xs k).lh,by rw[Int.toNat_natCast];exact hat,fun n7 hn7 w16 hb16 hm16=>?_⟩
   have hn7l:=hm16.lt (d:=n7) (by simp)
   have k16:=hk12.trans (Keeps.of_below hb16)
   have hwid:=hw _ hmem
   refine(r_slices_Clone_Cell (LRow.nix (hx12.each.own _ hmem).lrow (Keeps.of_below hb16)) (by show(lnAt xs k).cs.length≤_;omega)).runs fun u w17 hk17 hq=>?_
   obtain⟨q5,d5,hu,ho⟩:=hq
   subst hu
   obtain⟨hx,hxo,hxn⟩:=OwnC.newLn (soft:=(lnAt xs k).lh.soft) (Laid.nix k16 hL) ho
   have k17:=k16.trans hk17
   have hs16:=k16.size
   have hs17:=hk17.size
   have hsb:=hb16.size
   have hzs17:=(hzs.nix (Keeps.of_below hb16)).nix hk17
   refine⟨_,_,_,rfl,hk17.nix,fun n10 hn10=>⟨hdrs zs,hzs17.row.room (fun ad had hm=>?_) (fun _ ad had hl=>?_),by omega,fun w18 p5 n11 hg hof=>⟨by unfold I64;omega,fun w19 hb19=>?_⟩⟩⟩
   ·have h1:=hzs.lt (.inl ⟨ad,had,rfl⟩)
    have h2:=hzs17.lt (.inl ⟨ad,had,rfl⟩)
    simp at hm
    omega
   ·have:=hzF _ (.inl ⟨ad,had,rfl⟩)
    omega
   ·obtain⟨q1,q2,q3⟩:=hzs17.push (by omega) hxo (fun i h1 h2=>by have:=hxn i h1;have:=hzs.lt h2;omega) hg
    refine⟨⟨k+1,by omega,by omega,zs++[⟨q5,d5,(lnAt xs k).cs,(lnAt xs k).lh.soft⟩],by simp,by simp<;>omega,q1.nix (Keeps.of_below hb19),?_,fun i hi=>?_⟩,by dsimp only;omega⟩
    ·rw[lis_snoc,hzi,lis_take (by omega),List.append_assoc]
     rfl
    ·rcases q2 i hi with u|u|u
     ·exact hzF i u
     ·have:=hxn i u;omega
     ·omega
  ·obtain rfl:k=v.rows-t:=by omega
   refine(r_history_Next ((ha.nix hk12).below hb13)).runs fun w14 hk14=>⟨_,rfl,hk14.nix,by unfold I64;omega,fun w' hb _=>⟨q2,d2,zs,n0,hn0.symm,rfl,((hzs.nix (Keeps.of_below hb13)).nix hk14).nix (Keeps.of_below hb),?_,hzF⟩⟩
   rw[hzi]
   unfold linesV
   have e:((lastR h.r.rg n0).take v.rows).length=t:=by
    rw[←hl1,List.length_take]
    simp[lis]
    omega
   rw[e]
end
end Go.Proofs.YtjhhiindeignaaaGreatDoor
namespace Go.Proofs.YtjhhiindeignaaaGreatDoor
open Go Go.RowKit Go.Sy Go.Rep
set_option maxRecDepth 100000
theorem v_utf_Decoder_begin {w0:World} {F:Nat→Prop} {Q:Value→World→Prop} (d:Addr) (c:Int) (h:((CanPut w0 d 0 1)∧(Away w0.heap.size F [] d.block))∧∀w1:World,(Put w0 [] d 0 [(.slice none 0 0)] w1)→((CanPut w1 d 2 1)∧(Away w0.heap.size F [] d.block))∧∀w2:World,(Put w1 [] d 2 [(.int .u8 128)] w2)→((CanPut w2 d 3 1)∧(Away w0.heap.size F [] d.block))∧∀w3:World,(Put w2 [] d 3 [(.int .u8 191)] w3)→∃I1:World→Prop,(((c<128)→∀w48:World,∀n10:Nat,(Litr w3 [] T.int32 [(.int .i32 (IntKind.wrap .i32 c))] w48 n10)→Fin w0 F w48 Q (.slice (some ⟨n10,0,none⟩) 1 1))∧(((128:Int)≤c)→(((194:Int)≤c)→((c≤223)→((CanPut w3 d 1 1)∧(Away w0.heap.size F [] d.block))∧∀w46:World,(Put w3 [] d 1 [(.int .i64 1)] w46)→∀w47:World,(Below w46.heap.size w46 w47)→I1 w47)∧(((223:Int)<c)→(((224:Int)≤c)→((c≤239)→((CanPut w3 d 1 1)∧(Away w0.heap.size F [] d.block))∧∀w44:World,(Put w3 [] d 1 [(.int .i64 2)] w44)→∀w45:World,(Below w44.heap.size w44 w45)→I1 w45)∧(((239:Int)<c)→(((240:Int)≤c)→((c≤244)→((CanPut w3 d 1 1)∧(Away w0.heap.size F [] d.block))∧∀w42:World,(Put w3 [] d 1 [(.int .i64 3)] w42)→∀w43:World,(Below w42.heap.size w42 w43)→I1 w43)∧(((244:Int)<c)→∀w40:World,∀n9:Nat,(Litr w3 [] T.int32 [(.int .i32 65533)] w40 n9)→Fin w0 F w40 Q (.slice (some ⟨n9,0,none⟩) 1 1)))∧((c<240)→∀w38:World,∀n8:Nat,(Litr w3 [] T.int32 [(.int .i32 65533)] w38 n8)→Fin w0 F w38 Q (.slice (some ⟨n8,0,none⟩) 1 1))))∧((c<224)→(((240:Int)≤c)→((c≤244)→((CanPut w3 d 1 1)∧(Away w0.heap.size F [] d.block))∧∀w36:World,(Put w3 [] d 1 [(.int .i64 3)] w36)→∀w37:World,(Below w36.heap.size w36 w37)→I1 w37)∧(((244:Int)<c)→∀w34:World,∀n7:Nat,(Litr w3 [] T.int32 [(.int .i32 65533)] w34 n7)→Fin w0 F w34 Q (.slice (some ⟨n7,0,none⟩) 1 1)))∧((c<240)→∀w32:World,∀n6:Nat,(Litr w3 [] T.int32 [(.int .i32 65533)] w32 n6)→Fin w0 F w32 Q (.slice (some ⟨n6,0,none⟩) 1 1)))))∧((c<194)→(((224:Int)≤c)→((c≤239)→((CanPut w3 d 1 1)∧(Away w0.heap.size F [] d.block))∧∀w30:World,(Put w3 [] d 1 [(.int .i64 2)] w30)→∀w31:World,(Below w30.heap.size w30 w31)→I1 w31)∧(((239:Int)<c)→(((240:Int)≤c)→((c≤244)→((CanPut w3 d 1 1)∧(Away w0.heap.size F [] d.block))∧∀w28:World,(Put w3 [] d 1 [(.int .i64 3)] w28)→∀w29:World,(Below w28.heap.size w28 w29)→I1 w29)∧(((244:Int)<c)→∀w26:World,∀n5:Nat,(Litr w3 [] T.int32 [(.int .i32 65533)] w26 n5)→Fin w0 F w26 Q (.slice (some ⟨n5,0,none⟩) 1 1)))∧((c<240)→∀w24:World,∀n4:Nat,(Litr w3 [] T.int32 [(.int .i32 65533)] w24 n4)→Fin w0 F w24 Q (.slice (some ⟨n4,0,none⟩) 1 1))))∧((c<224)→(((240:Int)≤c)→((c≤244)→((CanPut w3 d 1 1)∧(Away w0.heap.size F [] d.block))∧∀w22:World,(Put w3 [] d 1 [(.int .i64 3)] w22)→∀w23:World,(Below w22.heap.size w22 w23)→I1 w23)∧(((244:Int)<c)→∀w20:World,∀n3:Nat,(Litr w3 [] T.int32 [(.int .i32 65533)] w20 n3)→Fin w0 F w20 Q (.slice (some ⟨n3,0,none⟩) 1 1)))∧((c<240)→∀w18:World,∀n2:Nat,(Litr w3 [] T.int32 [(.int .i32 65533)] w18 n2)→Fin w0 F w18 Q (.slice (some ⟨n2,0,none⟩) 1 1))))))∧∀w4:World,(Keeps F w0 w4)→(I1 w4)→∃I2:World→Prop,(((c=224)→((CanPut w4 d 2 1)∧(Away w0.heap.size F [] d.block))∧∀w16:World,(Put w4 [] d 2 [(.int .u8 160)] w16)→∀w17:World,(Below w16.heap.size w16 w17)→I2 w17)∧((c≠224)→((c=237)→((CanPut w4 d 3 1)∧(Away w0.heap.size F [] d.block))∧∀w14:World,(Put w4 [] d 3 [(.int .u8 159)] w14)→∀w15:World,(Below w14.heap.size w14 w15)→I2 w15)∧((c≠237)→((c=240)→((CanPut w4 d 2 1)∧(Away w0.heap.size F [] d.block))∧∀w12:World,(Put w4 [] d 2 [(.int .u8 144)] w12)→∀w13:World,(Below w12.heap.size w12 w13)→I2 w13)∧((c≠240)→((c=244)→((CanPut w4 d 3 1)∧(Away w0.heap.size F [] d.block))∧∀w10:World,(Put w4 [] d 3 [(.int .u8 143)] w10)→∀w11:World,(Below w10.heap.size w10 w11)→I2 w11)∧((c≠244)→∀w9:World,(Below w4.heap.size w4 w9)→I2 w9)))))∧∀w5:World,(Keeps F w0 w5)→(I2 w5)→∀w6:World,∀n1:Nat,(Litr w5 [] T.uint8 [(.int .u8 c)] w6 n1)→((CanPut w6 d 0 1)∧(Away w0.heap.size F [] d.block))∧∀w7:World,(Put w6 [] d 0 [(.slice (some ⟨n1,0,none⟩) 1 1)] w7)→Fin w0 F w7 Q (.slice none 0 0)):Gets Tryz.prog X.utf_Decoder_begin #[(.pointer (some d)),(.int .u8 c)] w0 F Q:=
 func_run mixed [] [⟨11,[],[]⟩,⟨20,[],[]⟩] X.utf_Decoder_begin [SV.adr d 0,SV.int IntKind.u8 c] ⟨by trivial,by trivial,trivial⟩ (by kernel_rfl) (by kernel_rfl) h
theorem v_utf_Decoder_Step {w0:World} {F:Nat→Prop} {Q:Value→World→Prop} (d:Addr) (c:Int) (h:∃p1:Option Addr,∃n1 n2:Nat,(At w0 d 0 [(.slice p1 n1 n2)])∧((((n1:Int)=0)→∀w23:World,(Below w0.heap.size w0 w23)→Runs Tryz.prog X.utf_Decoder_begin #[(.pointer (some d)),(.int .u8 c)] w23 (fun e3 w24=>∃p13:Option Addr,∃n26 n27:Nat,(e3=(.returned (.slice p13 n26 n27)))∧((Kept w0.heap.size F [] w23 w24)∧Fin w0 F w24 Q (.slice p13 n26 n27))))∧(((n1:Int)≠0)→∃i1:Int,(At w0 d 2 [(.int .u8 i1)])∧(((c<i1)→∀w18:World,∀n22:Nat,(Litr w0 [] T.int32 [(.int .i32 65533)] w18 n22)→∀w19:World,(Below w18.heap.size w18 w19)→Runs Tryz.prog X.utf_Decoder_begin #[(.pointer (some d)),(.int .u8 c)] w19 (fun e2 w20=>∃p11:Option Addr,∃n23 n24:Nat,(e2=(.returned (.slice p11 n23 n24)))∧((Kept w0.heap.size F [] w19 w20)∧∃s4:List Value,(Room w0.heap.size F [] w20 T.int32 1 (some ⟨n22,0,none⟩) 1 1 s4 n23)∧∃s5:List Value,(((s5.length)=(n23*1))∧((∀v2:Value,(v2∈s5)→(v2.oneCell')=true)∧(((p11=none)→n23=0)∧∀a5:Addr,(p11=(some a5))→At w20 a5 0 s5)))∧((((1+n23)*4)≤140737488355328)∧∀w21:World,∀p12:Option Addr,∀n25:Nat,(Grown w20 [] (some ⟨n22,0,none⟩) 1 1 T.int32 1 (1+n23) (s4++s5) w21 p12 n25)→Fin w0 F w21 Q (.slice p12 (1+n23) n25)))))∧((i1≤c)→∃i2:Int,(At w0 d 3 [(.int .u8 i2)])∧(((i2<c)→∀w13:World,∀n18:Nat,(Litr w0 [] T.int32 [(.int .i32 65533)] w13 n18)→∀w14:World,(Below w13.heap.size w13 w14)→Runs Tryz.prog X.utf_Decoder_begin #[(.pointer (some d)),(.int .u8 c)] w14 (fun e1 w15=>∃p9:Option Addr,∃n19 n20:Nat,(e1=(.returned (.slice p9 n19 n20)))∧((Kept w0.heap.size F [] w14 w15)∧∃s2:List Value,(Room w0.heap.size F [] w15 T.int32 1 (some ⟨n18,0,none⟩) 1 1 s2 n19)∧∃s3:List Value,(((s3.length)=(n19*1))∧((∀v1:Value,(v1∈s3)→(v1.oneCell')=true)∧(((p9=none)→n19=0)∧∀a4:Addr,(p9=(some a4))→At w15 a4 0 s3)))∧((((1+n19)*4)≤140737488355328)∧∀w16:World,∀p10:Option Addr,∀n21:Nat,(Grown w15 [] (some ⟨n18,0,none⟩) 1 1 T.int32 1 (1+n19) (s2++s3) w16 p10 n21)→Fin w0 F w16 Q (.slice p10 (1+n19) n21)))))∧((c≤i2)→∃p2:Option Addr,∃n3 n4:Nat,(At w0 d 0 [(.slice p2 n3 n4)])∧∃p3:Option Addr,∃n5 n6:Nat,(At w0 d 0 [(.slice p3 n5 n6)])∧∃p4:Option Addr,∃n7 n8:Nat,(At w0 d 0 [(.slice p4 n7 n8)])∧((((0:Int)≤0)∧(((0:Int)≤(n5:Int))∧(((n5:Int)≤(n7:Int))∧((n7:Int)≤(n4:Int)))))∧∀n9:Nat,(w0.heap.size≤n9)→∃s1:List Value,(Room w0.heap.size F [n9] w0 T.uint8 1 (cutP p2 n7 0 1) n5 n7 s1 1)∧((((n5+1)*1)≤140737488355328)∧∀w1:World,∀p5:Option Addr,∀n10:Nat,(Grown w0 [] (cutP p2 n7 0 1) n5 n7 T.uint8 1 (n5+1) (s1++[(.int .u8 c)]) w1 p5 n10)→(∀a1:Addr,(p5=(some a1))→¬(a1.block∈[n9]))→((CanPut w1 d 0 1)∧(Away w0.heap.size F [n9] d.block))∧∀w2:World,(Put w1 [] d 0 [(.slice p5 (n5+1) n10)] w2)→((CanPut w2 d 2 1)∧(Away w0.heap.size F [n9] d.block))∧∀w3:World,(Put w2 [] d 2 [(.int .u8 128)] w3)→((CanPut w3 d 3 1)∧(Away w0.heap.size F [n9] d.block))∧∀w4:World,(Put w3 [] d 3 [(.int .u8 191)] w4)→∃i3:Int,(At w4 d 1 [(.int .i64 i3)])∧((I64 (i3-1))∧(((CanPut w4 d 1 1)∧(Away w0.heap.size F [n9] d.block))∧∀w5:World,(Put w4 [] d 1 [(.int .i64 (i3-1))] w5)→∃i4:Int,(At w5 d 1 [(.int .i64 i4)])∧((((0:Int)<i4)→Fin w0 F w5 Q (.slice none 0 0))∧((i4≤0)→∃p6:Option Addr,∃n11 n12:Nat,(At w5 d 0 [(.slice p6 n11 n12)])∧∃a2:Addr,(p6=(some a2))∧((((0:Int)≤0)∧((0:Int)<(n11:Int)))∧∃i5:Int,(At w5 a2 0 [(.int .u8 i5)])∧∃p7:Option Addr,∃n13 n14:Nat,(At w5 d 0 [(.slice p7 n13 n14)])∧((I64 (7-(n13:Int)))∧(((0:Int)≤(7-(n13:Int)))∧∃p8:Option Addr,∃n15 n16:Nat,(At w5 d 0 [(.slice p8 n15 n16)])∧((((0:Int)≤1)∧(((1:Int)≤(n15:Int))∧((n15:Int)≤(n16:Int))))∧∃I1:Int→Int→World→Prop,∃I2:Int→Int→Nat,(∀w11:World,(Below w5.heap.size w5 w11)→I1 (bits .and .i32 (IntKind.wrap .i32 i5) (IntKind.wrap .i32 ((shlI .i32 1 (7-(n13:Int)))-1))) 0 w11)∧∀i6 i7:Int,∀w6:World,(Keeps F w0 w6)→(I1 i6 i7 w6)→((i7<(((Int.toNat ((n15:Int)-1)):Nat):Int))→∃a3:Addr,((cutP p8 n16 1 1)=(some a3))∧((((0:Int)≤i7)∧(i7<(((Int.toNat ((n15:Int)-1)):Nat):Int)))∧∃i8:Int,(At w6 a3 ((Int.toNat i7)*1) [(.int .u8 i8)])∧(((0:Int)≤6)∧((I64 (i7+1))∧∀w10:World,(Below w6.heap.size w6 w10)→(I1 (bits .or .i32 (shlI .i32 i6 6) (IntKind.wrap .i32 (bits .and .u8 i8 63))) (i7+1) w10)∧(I2 (bits .or .i32 (shlI .i32 i6 6) (IntKind.wrap .i32 (bits .and .u8 i8 63))) (i7+1)<I2 i6 i7)))))∧(((((Int.toNat ((n15:Int)-1)):Nat):Int)≤i7)→((CanPut w6 d 0 1)∧(Away w0.heap.size F [n9] d.block))∧∀w7:World,(Put w6 [] d 0 [(.slice none 0 0)] w7)→∀w8:World,∀n17:Nat,(Litr w7 [] T.int32 [(.int .i32 i6)] w8 n17)→(¬(n17∈[n9]))→Fin w0 F w8 Q (.slice (some ⟨n17,0,none⟩) 1 1))))))))))))))))))):Gets Tryz.prog X.utf_Decoder_Step #[(.pointer (some d)),(.int .u8 c)] w0 F Q:=
 func_run mixed [⟨13,[5,101],[]⟩] [] X.utf_Decoder_Step [SV.adr d 0,SV.int IntKind.u8 c] ⟨by trivial,by trivial,trivial⟩ (by kernel_rfl) (by kernel_rfl) h
theorem v_utf_Decoder_Feed {w0:World} {F:Nat→Prop} {Q:Value→World→Prop} (d:Addr) (pb:Option Addr) (nb:Nat) (cb:Nat) (h:∃I1:Option Addr→Nat→Nat→Int→World→Prop,∃I2:Option Addr→Nat→Nat→Int→Nat,(∀w7:World,(Below w0.heap.size w0 w7)→I1 none 0 0 0 w7)∧∀p1:Option Addr,∀n1 n2:Nat,∀i1:Int,∀w1:World,(Keeps F w0 w1)→(I1 p1 n1 n2 i1 w1)→((i1<(nb:Int))→∃a1:Addr,(pb=(some a1))∧((((0:Int)≤i1)∧(i1<(nb:Int)))∧∃i2:Int,(At w1 a1 ((Int.toNat i1)*1) [(.int .u8 i2)])∧∀w3:World,(Below w1.heap.size w1 w3)→Runs Tryz.prog X.utf_Decoder_Step #[(.pointer (some d)),(.int .u8 i2)] w3 (fun e1 w4=>∃p2:Option Addr,∃n3 n4:Nat,(e1=(.returned (.slice p2 n3 n4)))∧((Kept w0.heap.size F [] w3 w4)∧∃s1:List Value,(Room w0.heap.size F [] w4 T.int32 1 p1 n1 n2 s1 n3)∧∃s2:List Value,(((s2.length)=(n3*1))∧((∀v1:Value,(v1∈s2)→(v1.oneCell')=true)∧(((p2=none)→n3=0)∧∀a2:Addr,(p2=(some a2))→At w4 a2 0 s2)))∧((((n1+n3)*4)≤140737488355328)∧∀w5:World,∀p3:Option Addr,∀n5:Nat,(Grown w4 [] p1 n1 n2 T.int32 1 (n1+n3) (s1++s2) w5 p3 n5)→(I64 (i1+1))∧∀w6:World,(Below w5.heap.size w5 w6)→(I1 p3 (n1+n3) n5 (i1+1) w6)∧(I2 p3 (n1+n3) n5 (i1+1)<I2 p1 n1 n2 i1))))))∧(((nb:Int)≤i1)→Fin w0 F w1 Q (.slice p1 n1 n2))):Gets Tryz.prog X.utf_Decoder_Feed #[(.pointer (some d)),(.slice pb nb cb)] w0 F Q:=
 func_run mixed [⟨3,[5,10],[]⟩] [] X.utf_Decoder_Feed [SV.adr d 0,SV.sl pb nb cb] ⟨by trivial,by trivial,trivial⟩ (by kernel_rfl) (by kernel_rfl) h
end Go.Proofs.YtjhhiindeignaaaGreatDoor
namespace Go.Proofs.YtjhhiindeignaaaGreatDoor
open Go Go.RowKit Go.Sy Go.Rep
set_option maxRecDepth 100000
set_option maxHeartbeats 2000000
structure Win (w:World) (b o:Nat) (t:TypeId) (pre post xs:List Value):Prop where
 blk:Whole w b t (pre++(xs++post))
 len:pre.length=o
 few:pre.length+(xs.length+post.length)≤1000
section
variable {w w':World} {b o:Nat} {t:TypeId} {pre post xs:List Value}
theorem At.base {g k o:Nat} {us:List Value} (h:At w ⟨g,0,none⟩ (k+o) us):At w ⟨g,k,none⟩ o us:=by
 intro j v hv
 have:=h j v hv
 have e:(⟨g,0,none⟩:Addr).add (k+o+j)=(⟨g,k,none⟩:Addr).add (o+j):=by
  unfold Addr.add
  split
  ·rename_i q
   rw[if_pos (by omega)]
   congr 1
   omega
  ·split
   ·congr 1;simp<;>omega
   ·congr 1;simp<;>omega
 rw[←e]
 exact this
theorem Win.at_ (h:Win w b o t pre post xs) (i:Nat) {us:List Value} (hu:us=(xs.drop i).take us.length) (hi:i+us.length≤xs.length):At w ⟨b,o,none⟩ i us:=by
 have h1:=h.blk.at_ (by have:=h.few;have e:maxLen=9223372036854775807:=(by decide);simp<;>omega)
 have h2:=h1.sub (o+i) (us:=us) (by
  rw[←h.len,List.drop_append,List.drop_of_length_le (Nat.le_add_right _ _),List.nil_append,Nat.add_sub_cancel_left,List.drop_append,List.take_append,List.length_drop,show us.length-(xs.length-i)=0 by omega,List.take_zero,List.append_nil]
  exact hu)
 rw[Nat.zero_add] at h2
 exact At.base (us:=us) h2
theorem Win.can (h:Win w b o t pre post xs) {i n:Nat} (hi:i+n≤xs.length):CanPut w ⟨b,o,none⟩ i n:=
 (h.blk.can (o:=o+i) (m:=n) (by have:=h.len;simp<;>omega)).base
theorem Win.put (h:Win w b o t pre post xs) {i:Nat} {vs:List Value} (hp:Put w [] ⟨b,o,none⟩ i vs w') (hi:i+vs.length≤xs.length):Win w' b o t pre post (xs.take i++(vs++xs.drop (i+vs.length))):=by
 have hl:=h.len
 refine⟨?_,hl,by have:=h.few;simp<;>omega⟩
 have:=h.blk.put hp.base (by simp<;>omega)
 have e1:(pre++(xs++post)).take (o+i)=pre++xs.take i:=by
  rw[←hl,List.take_append,List.take_of_length_le (Nat.le_add_right _ _),Nat.add_sub_cancel_left,List.take_append,show i-xs.length=0 by omega,List.take_zero,List.append_nil]
 have e2:(pre++(xs++post)).drop (o+i+vs.length)=xs.drop (i+vs.length)++post:=by
  rw[←hl,List.drop_append,List.drop_of_length_le (by omega),List.nil_append,show pre.length+i+vs.length-pre.length=i+vs.length by omega,List.drop_append,show i+vs.length-xs.length=0 by omega,List.drop_zero]
 rw[e1,e2] at this
 simpa using this
theorem Win.keeps {F:Nat→Prop} (h:Win w b o t pre post xs) (hk:Keeps F w w') (hF:¬F b):Win w' b o t pre post xs:=⟨h.blk.keeps hk hF,h.len,h.few⟩
theorem Win.nix (h:Win w b o t pre post xs) (hk:Keeps Nix w w'):Win w' b o t pre post xs:=h.keeps hk fun e=>e
theorem Win.below (h:Win w b o t pre post xs) (hb:Below w.heap.size w w'):Win w' b o t pre post xs:=h.nix (Keeps.of_below hb)
end
end Go.Proofs.YtjhhiindeignaaaGreatDoor
