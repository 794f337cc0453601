/- A part of the proof of EvictCounts. -/
import Derived.Test.YtjhhiindeignaaaGreatDoorGA
import Derived.OrdersHeld
import Derived.RangeFuncIn
import Derived.TacticsIn
import Derived.OrdersIn
import Derived.Scope
import Derived.RangeFuncRecord
import Derived.RangeFuncLeaves
import Derived.KernelRfl
import Derived.Test.YtjhhiindeignaaaGreatDoorProg
import Derived.Lib.ItoaNum
set_option linter.unusedVariables false
set_option linter.unusedSimpArgs false
set_option linter.unusedSectionVars false
namespace Go.Sy
open Go.RowKit (Below)
variable [Codecs]
variable {P:Program} {w0:World} {F:Nat→Prop} {Z:List (Nat×Obj)} {N:Nat} {s:St} {a:Act} {w:World} {all:List Oper}
theorem zeros_list (z:List Value) (hz:0<z.length) (c:Nat):(Array.range (c*z.length)).map (fun i=>z.toArray[i%z.toArray.size]!)=(List.replicate c z).flatten.toArray:=by
 have hlen:∀c:Nat,(List.replicate c z).flatten.length=c*z.length:=fun c=>by
  induction c with
  |zero=>simp
  |succ c ih=>rw[List.replicate_succ,List.flatten_cons,List.length_append,ih,Nat.succ_mul,Nat.add_comm]
 have hget:∀(c i:Nat),i<c*z.length→(List.replicate c z).flatten[i]? =z[i%z.length]? :=fun c=>by
  induction c with
  |zero=>intro i h;simp at h
  |succ c ih=>
   intro i h
   rw[List.replicate_succ,List.flatten_cons]
   by_cases hi:i<z.length
   ·rw[List.getElem?_append_left hi,Nat.mod_eq_of_lt hi]
   ·rw[List.getElem?_append_right (by omega),ih _ (by rw[Nat.succ_mul] at h;omega),Nat.mod_eq_sub_mod (a:=i) (b:=z.length) (by omega)]
 apply Array.ext'
 apply List.ext_getElem?
 intro i
 simp only[Array.toList_map,Array.toList_range,List.getElem?_map,List.size_toArray]
 by_cases hi:i<c*z.length
 ·rw[List.getElem?_range hi,hget c i hi]
  have hlt:i%z.length<z.length:=Nat.mod_lt _ hz
  simp[List.getElem?_eq_getElem hlt,List.getElem!_eq_getElem?_getD]
 ·rw[List.getElem?_eq_none (by simp<;>omega),List.getElem?_eq_none (by rw[hlen];omega)];rfl
theorem list_splice {α:Type} (xs vs:List α) (off:Nat) (h:off+vs.length≤xs.length) (j:Nat):(xs.take off++(vs++xs.drop (off+vs.length)))[j]? =if off≤j∧j<off+vs.length then vs[j-off]? else xs[j]? :=by
 have htl:(xs.take off).length=off:=by simp<;>omega
 by_cases h1:j<off
 ·rw[if_neg (by omega),List.getElem?_append_left (by omega),List.getElem?_take,if_pos h1]
 ·rw[List.getElem?_append_right (by omega),htl]
  by_cases h2:j-off<vs.length
  ·rw[if_pos (by omega),List.getElem?_append_left h2]
  ·rw[if_neg (by omega),List.getElem?_append_right (by omega),List.getElem?_drop]
   congr 1;omega
theorem blks_map (L:List Loc):blks L=L.map (·.blk):=by
 induction L with
 |nil=>rfl
 |cons x L ih=>simp[blks,ih]
set_option maxRecDepth 10000 in
theorem loud_sound (H:Ok w0 F Z N s a w) {o:Oper} {K:SV→St→List Nat→Prop} {next:Act→World→Prop} {Q:Exit→Act→World→Prop} (h:loud P w0 F all o s K) (hK:Next P w0 F Z N all s o a K next):o.wp P a w next Q:=by
 have one:∀{v:SV} {x:Operand},eval P s.T x=some v→okv s.L.length v∧a.eval x=real (blks s.L) v:=fun hx=>eval_sound H.env hx
 have newVar:∀(t:TypeId) (v:SV) (m:Sem Value),okv s.L.length v→v.flat.all SV.scalar=true→(∀b,s.wb.heap.size≤b→K (.loc s.L.length 0) {s with L:=s.L++[⟨b,t,v.flat,0⟩]} [])→isBig P all o s=false→
   m.run P w= .ok (.pointer (some ⟨w.heap.size,0,none⟩)) (w.alloc (.cells (real (blks s.L) v).cells t))→o.upon P a next Q ((do pure (.value (←m)):Sem Go.Next).run P w):=by
  intro t v m hv hs hk hbig hr
  obtain⟨f1,f2,_⟩:=flat_sound (β:=blks s.L) hv
  rw[f1] at hr
  obtain⟨h1,h2,h3,h4⟩:=H.alloc (t:=t) f2 hs
  refine put_upon hr ?_
  have:=hK _ _ [] _ (hk w.heap.size H.grow.size) h4 (fun e=>by rw[hbig] at e;cases e) (fun _=>rfl) h1 (show okv _ (.loc s.L.length 0) by show s.L.length<(s.L++[_]).length;simp)
  have e:real (blks (s.L++[⟨w.heap.size,t,v.flat,0⟩])) (.loc s.L.length 0)= .pointer (some ⟨w.heap.size,0,none⟩):=by simp only[real,h3]
  rw[e] at this
  exact this
 obtain⟨dst,op,ty,pos,after,guard⟩:=o
 unfold Oper.wp
 cases op with
 |alloc t=>
  unfold loud at h
  simp only[] at h
  split at h
  ·rename_i z hz
   obtain⟨zv,hr,hzc,hzt,_⟩:=run_zero hz w
   obtain⟨o1,o2⟩:=hzc s.L.length (blks s.L)
   refine newVar t z (Instr.alloc t true (.tuple #[])) o1 hzt h rfl ?_
   simp only[Instr.alloc,Sem.run_bind,hr,Result.andThen_ok,o2]
   rfl
  ·exact h.elim
 |box t x=>
  obtain⟨v,hv,h⟩:=on_sound h
  split at h
  ·exact h.elim
  ·rename_i hs
   refine newVar t v (Instr.box t (a.eval x)) (one hv).1 hs h rfl ?_
   rw[(one hv).2]
   rfl
 |buildSlice t n ps=>
  unfold loud at h
  simp only[] at h
  have pub:∀(e:TypeId) (cs:List SV) (m:Nat),isBig P all ⟨dst, .buildSlice t n ps,ty,pos,after,guard⟩ s=true→(Instr.buildSlice t n (ps.map fun(i,x)=>(i,a.eval x))).run P w= .ok (.slice (some ⟨w.heap.size,0,none⟩) m m) (w.alloc (.cells (reals (blks s.L) cs).toArray e))→
    (∀w2 b,Litr s.wb s.D e (reals (blks s.L) cs) w2 b→notOwn (blks s.L) b (K (.sl (some ⟨b,0,none⟩) m m) (s.at s.L w2) []))→
    Oper.upon P ⟨dst, .buildSlice t n ps,ty,pos,after,guard⟩ a next Q ((execOp a.eval ⟨dst, .buildSlice t n ps,ty,pos,after,guard⟩).run P w):=by
   intro e cs m hbig hr h
   have hlit:Litr s.wb s.D e (reals (blks s.L) cs) (w.alloc (.cells (reals (blks s.L) cs).toArray e)) w.heap.size:=by
    refine⟨H.grow.os,H.grow.tape,H.grow.output,H.grow.size,by rw[alloc_size];omega,fun j h1 h2=>?_,alloc_here w _⟩
    rw[alloc_heap _ _ _ (Nat.lt_of_lt_of_le h1 H.grow.size)]
    exact H.grow.heap j h1 h2
   have hok:=H.big0 (w':=w.alloc (.cells (reals (blks s.L) cs).toArray e)) rfl rfl rfl (by rw[alloc_size];omega) (fun j h1 h2=>alloc_heap _ _ _ (Nat.lt_of_lt_of_le h1 (Nat.le_trans H.frame.size H.grow.size))) (fun b hb=>by
    obtain⟨k,l,hl,rfl⟩:=blks_mem hb
    exact alloc_heap _ _ _ (Whole.lt (H.lies k l hl).1)) (fun k hk=>alloc_heap _ _ _ (H.hd.lt hk))
   exact put_upon hr (hK (.sl (some ⟨w.heap.size,0,none⟩) m m) (s.at s.L _) [] _ (notOwn_elim (h _ _ hlit) (blk_old H (Nat.le_refl _))) ⟨fun k l hl=>⟨l,hl,rfl,Nat.le_refl _,fun _=>rfl,fun _=>rfl,rfl,rfl⟩,⟨[],rfl⟩,rfl⟩ (fun _=>rfl) (fun e=>by rw[hbig] at e;cases e) hok trivial)
  split at h
  ·rename_i e cs hb
   have hb0:=hb
   simp only[Option.bind_eq_some_iff] at hb
   obtain⟨qs,hq,hb⟩:=hb
   obtain⟨p1,p2⟩:=parts_sound H.env hq
   obtain⟨hr,c1,c2⟩:=buildRow_sound (β:=blks s.L) hb p1 (ps.map fun(i,x)=>(i,a.eval x)) (by rw[Array.toList_map];exact p2) w
   split at h
   ·rename_i hp
    refine pub e cs n ?_ hr h
    unfold isBig
    simp only[hb0]
    exact hp
   ·rename_i hp
    obtain⟨h1,h2,h3,h4⟩:=H.alloc (t:=e) c1 c2
    refine put_upon hr ?_
    have hbig:isBig P all ⟨dst, .buildSlice t n ps,ty,pos,after,guard⟩ s=false:=by
     unfold isBig
     simp only[hb0]
     exact hp
    have:=hK _ _ [] _ (h w.heap.size H.grow.size) h4 (fun e=>by rw[hbig] at e;cases e) (fun _=>rfl) h1 (show okv _ (.lsl s.L.length 0 n n) by show s.L.length<(s.L++[_]).length;simp)
    have e:real (blks (s.L++[⟨w.heap.size,e,cs,0⟩])) (.lsl s.L.length 0 n n)= .slice (some ⟨w.heap.size,0,none⟩) n n:=by simp only[real,h3]
    rw[e] at this
    exact this
  ·rename_i hb0
   split at h
   ·rename_i e hps hu
    split at h
    ·rename_i es hes
     refine pub e [] 0 (by unfold isBig;simp only[hb0]) ?_ h
     have hps':ps=#[]:=by apply Array.ext';exact hps
     subst hps'
     simp only[Instr.buildSlice,Sem.run_bind,run_underlying hu,Result.andThen_ok,run_sizeOf hes,Sem.run_ite,Nat.zero_mul]
     rw[if_neg (by omega),if_pos trivial]
     have hf:∀x:Array Value,Instr.fill (fun i=>some (i*es,es)) x []=some x:=fun _=>rfl
     have hr0:Array.range 0=#[]:=rfl
     simp only[Sem.run_pure,Result.andThen_ok,hr0,List.map_toArray,List.map_nil,hf]
     rfl
    ·exact h.elim
   ·exact h.elim
 |convert t d x=>
  obtain⟨v,hv,h⟩:=on_sound h
  have:=conv_sound2 H (o:=⟨dst, .convert t d x,ty,pos,after,guard⟩) (Q:=Q) rfl h hK
  rw[←(one hv).2] at this
  exact this
 |makeSlice t nx cx=>
  unfold loud at h
  simp only[] at h
  split at h
  ·rename_i e nn cc hu hn hc
   split at h
   ·rename_i es by_ z hes hby hz
    split at h
    ·rename_i hpos
     simp only[Bool.and_eq_true,Nat.blt_eq,Nat.beq_eq] at hpos
     obtain⟨⟨p1,p2⟩,hzl⟩:=hpos
     obtain⟨⟨n1,n2,n3⟩,h⟩:=h
     obtain⟨zv,_,hzc,hzt,i,hi,hiz⟩:=run_zero hz w
     obtain⟨zf,_,_⟩:=flat_sound (β:=[]) (hzc 0 []).1
     rw[(hzc 0 []).2] at zf
     obtain⟨i1,hi1,hisz⟩:=Option.map_eq_some_iff.1 (show(P.info? e).map (·.size)=some es from hes)
     obtain rfl:i=i1:=by rw[hi] at hi1;exact Option.some.inj hi1
     obtain⟨i2,hi2,hiby⟩:=Option.map_eq_some_iff.1 (show(P.info? e).map (·.bytes)=some by_ from hby)
     obtain rfl:i=i2:=by rw[hi] at hi2;exact Option.some.inj hi2
     have hcb:cc≤cc*by_:=by
      have:cc*1≤cc*(by_:Int):=Int.mul_le_mul_of_nonneg_left (by omega) (by omega)
      omega
     have hr:=run_make (P:=P) w t e i zv hu hi hiz .i64 .i64 nn cc n1 n2 (by rw[hiby,Int.mul_comm];omega) (by omega)
     have hcells:madeCells zv.cells (cc.toNat*i.size)=(List.replicate cc.toNat (reals [] z.flat)).flatten.toArray:=by
      rw[zf,hisz,←hzl]
      have:=zeros_list (reals [] z.flat) (by rw[reals_length];omega) cc.toNat
      rw[reals_length] at this
      exact this
     rw[hcells] at hr
     have hmade:Made s.wb s.D e es nn.toNat cc.toNat (reals [] z.flat) (w.alloc (.cells (List.replicate cc.toNat (reals [] z.flat)).flatten.toArray e)) w.heap.size:=by
      refine⟨H.grow.os,H.grow.tape,H.grow.output,H.grow.size,by rw[alloc_size];omega,fun j h1 h2=>?_,alloc_here w _⟩
      rw[alloc_heap _ _ _ (Nat.lt_of_lt_of_le h1 H.grow.size)]
      exact H.grow.heap j h1 h2
     have hok:=H.big0 (w':=w.alloc (.cells (List.replicate cc.toNat (reals [] z.flat)).flatten.toArray e)) rfl rfl rfl (by rw[alloc_size];omega) (fun j h1 h2=>alloc_heap _ _ _ (Nat.lt_of_lt_of_le h1 (Nat.le_trans H.frame.size H.grow.size))) (fun b hb=>by
      obtain⟨k,l,hl,rfl⟩:=blks_mem hb
      exact alloc_heap _ _ _ (Whole.lt (H.lies k l hl).1)) (fun k hk=>alloc_heap _ _ _ (H.hd.lt hk))
     have e1:Instr.makeSlice t (a.eval nx) (a.eval cx)=Instr.makeSlice t (.int .i64 nn) (.int .i64 cc):=by rw[(one hn).2,(one hc).2];rfl
     rw[←e1] at hr
     exact put_upon hr (hK (.sl (some ⟨w.heap.size,0,none⟩) nn.toNat cc.toNat) (s.at s.L _) [] _ (notOwn_elim (h _ _ hmade) (blk_old H (Nat.le_refl _))) ⟨fun k l hl=>⟨l,hl,rfl,Nat.le_refl _,fun _=>rfl,fun _=>rfl,rfl,rfl⟩,⟨[],rfl⟩,rfl⟩ (fun _=>rfl) (fun e=>by cases e) hok trivial)
    ·exact h.elim
   ·exact h.elim
  ·exact h.elim
 |store t ax x=>
  obtain⟨ad,had,h⟩:=on_sound h
  obtain⟨v,hv,h⟩:=on_sound h
  split at h
  ·rename_i m hm
   split at h
   ·rename_i hl
    rw[Bool.and_eq_true] at hl
    obtain⟨hl,hs⟩:=hl
    have hl:v.flat.length=m:=Nat.eq_of_beq_eq_true hl
    ·cases ad with
     |loc k off=>
      simp only[] at h
      split at h
      ·rename_i L' l hw hlk
       obtain⟨l0,q1,q2,q3⟩:=writeLoc_sound hw
       obtain rfl:l=l0:=by rw[hlk] at q1;exact Option.some.inj q1
       have hblk:=(H.lies k l hlk).1
       have hwhole:w.heap[l.blk]? =some (.cells (reals (blks s.L) l.cells).toArray l.ty (0,0)):=hblk
       obtain⟨f1,f2,_⟩:=flat_sound (β:=blks s.L) (one hv).1
       obtain⟨w',hr,sp⟩:=run_storeAt (P:=P) (w:=w) hm (ad:=⟨l.blk,off,none⟩) (o:=0) f1 (by rw[reals_length];exact hl) (mem_one f2 hs) rfl hwhole (by simp[reals_length];omega)
       have hr':(Instr.storeAt t (a.eval ax) (a.eval x)).run P w= .ok () w':=by
        rw[(one had).2,(one hv).2]
        have e:real (blks s.L) (.loc k off)=adrVal ⟨l.blk,off,none⟩ 0:=by simp only[real,adrVal,blks_get hlk]
        rw[e];exact hr
       have hget:∀j,L'[j]? =if j=k then some {l with cells:=l.cells.take off++(v.flat++l.cells.drop (off+v.flat.length)),ver:=l.ver+1} else s.L[j]? :=fun j=>by
        rw[q3];exact splice_get hlk j
       have hblkL:blks L'=blks s.L:=by
        rw[blks_map,blks_map]
        apply List.ext_getElem?
        intro j
        rw[List.getElem?_map,List.getElem?_map,hget]
        by_cases e:j=k
        ·rw[if_pos e,e,hlk];rfl
        ·rw[if_neg e]
       have hlen:L'.length=s.L.length:=by
        have:=(List.getElem?_eq_some_iff.1 hlk).1
        rw[q3];simp<;>omega
       have hcells:okvs s.L.length (l.cells.take off++(v.flat++l.cells.drop (off+v.flat.length)))∧(l.cells.take off++(v.flat++l.cells.drop (off+v.flat.length))).all SV.scalar=true:=by
        obtain⟨o1,o2⟩:=H.cells k l hlk
        constructor
        ·rw[okvs_iff] at*
         intro u hu
         simp only[List.mem_append] at hu
         rcases hu with hu|hu|hu
         ·exact o1 u (List.mem_of_mem_take hu)
         ·exact f2 u hu
         ·exact o1 u (List.mem_of_mem_drop hu)
        ·rw[List.all_eq_true] at*
         intro u hu
         simp only[List.mem_append] at hu
         rcases hu with hu|hu|hu
         ·exact o2 u (List.mem_of_mem_take hu)
         ·exact hs u hu
         ·exact o2 u (List.mem_of_mem_drop hu)
       have hnew:Whole w' l.blk l.ty (reals (blks s.L) (l.cells.take off++(v.flat++l.cells.drop (off+v.flat.length)))):=by
        obtain⟨cs',c1,c2,c3⟩:=sp.here
        unfold Whole
        rw[c1]
        congr 2
        apply Array.ext'
        apply List.ext_getElem?
        intro j
        rw[Array.getElem?_toList,c3 j]
        simp only[reals_eq,List.map_append,List.map_take,List.map_drop,List.length_map,Nat.add_zero,List.getElem?_toArray]
        have:=list_splice (l.cells.map (real (blks s.L))) (v.flat.map (real (blks s.L))) off (by simpa using q2) j
        simp only[List.length_map] at this
        rw[this]
       have key:∀D,(∀b∈D,b∈blks s.L)→(∀i,i<s.wb.heap.size→i∉D→i∉s.D∧i≠l.blk)→Ok w0 F Z N {s with L:=L',D:=D} a w':=by
        intro D hD hsub
        refine⟨?_,H.size,H.hd.same (fun k hk=>sp.other k fun e=>H.hd.ne hk hwhole e) rfl rfl,fun j m hj=>?_,fun j m hj=>?_,fun i j m m' hi hj e=>?_,by show s.nb≤L'.length;rw[hlen];exact H.nb,fun j m hj hjm=>?_,?_,H.frame,fun b hb=>by show b∈blks L';rw[hblkL];exact hD b hb⟩
        ·show EnvOk L'.length (blks L') s.T a.tmps
         rw[hblkL,hlen];exact H.env
        ·show okvs L'.length _∧_
         rw[hlen]
         have hj':L'[j]? =some m:=hj
         rw[hget] at hj'
         split at hj'
         ·cases hj';exact hcells
         ·exact H.cells j m hj'
        ·show Whole w' m.blk m.ty (reals (blks L') m.cells)∧_
         rw[hblkL]
         have hj':L'[j]? =some m:=hj
         rw[hget] at hj'
         split at hj'
         ·cases hj';exact⟨hnew,(H.lies k l hlk).2⟩
         ·rename_i hne
          obtain⟨w1,w2⟩:=H.lies j m hj'
          refine⟨?_,w2⟩
          unfold Whole at*
          rw[sp.other _ fun e=>hne (H.apart j k m l hj' hlk e)]
          exact w1
        ·have get:∀(j:Nat) (m:Loc),L'[j]? =some m→∃m0,s.L[j]? =some m0∧m.blk=m0.blk:=fun j m hj=>by
          rw[hget] at hj
          split at hj
          ·rename_i e';cases hj;rw[e'];exact⟨l,hlk,rfl⟩
          ·exact⟨m,hj,rfl⟩
         obtain⟨m0,g1,g2⟩:=get i m hi
         obtain⟨m1,g3,g4⟩:=get j m' hj
         exact H.apart i j m0 m1 g1 g3 (by rw[←g2,←g4,e])
        ·have hj':L'[j]? =some m:=hjm
         rw[hget] at hj'
         split at hj'
         ·rename_i e';cases hj';rw[e'] at hj;exact H.newer k l hj hlk
         ·exact H.newer j m hj hj'
        ·exact⟨sp.os.trans H.grow.os,sp.tape.trans H.grow.tape,sp.output.trans H.grow.output,by rw[sp.size];exact H.grow.size,fun i h1 h2=>by
          obtain⟨h3,h4⟩:=hsub i h1 h2
          rw[sp.other i h4];exact H.grow.heap i h1 h3⟩
       have hmv:∀D,Moves s {s with L:=L',D:=D} [k]:=fun D=>⟨fun j m hj=>by
        by_cases e:j=k
        ·have elm:l=m:=by rw[e,hlk] at hj;exact Option.some.inj hj
         refine⟨_,(hget j).trans (if_pos e),by rw[←elm],by rw[←elm];exact Nat.le_succ _,fun e2=>?_,fun e2=>absurd (List.mem_singleton.2 e) e2,by rw[←elm],by rw[←elm];simp<;>omega⟩
         rw[←elm] at e2
         exact absurd e2 (by simp)
        ·exact⟨m,by show L'[j]? =_;rw[hget,if_neg e];exact hj,rfl,Nat.le_refl _,fun _=>rfl,fun _=>rfl,rfl,rfl⟩,⟨[],rfl⟩,rfl⟩
       have hbig:isBig P all ⟨dst, .store t ax x,ty,pos,after,guard⟩ s=false:=by unfold isBig;simp only[had]
       show Oper.upon P _ a next Q ((do Instr.storeAt t (a.eval ax) (a.eval x);pure .skip:Sem Go.Next).run P w)
       rw[Sem.run_bind,hr']
       have hund:real (blks L') (.tup [])=undef:=rfl
       split at h
       ·rename_i hlt
        exact hK (.tup []) {s with L:=L',D:=l.blk::s.D} [k] w' h (hmv _) (fun e=>by rw[hbig] at e;cases e) (fun _=>rfl)
         (key _ (fun b hb=>by rcases List.mem_cons.1 hb with rfl|hb;exact mem_blks hlk;exact H.dirty b hb) (fun i h1 h2=>⟨fun e=>h2 (List.mem_cons_of_mem _ e),fun e=>h2 (by rw[e];exact List.mem_cons_self ..)⟩)) trivial
       ·rename_i hlt
        have hge:s.nb≤k:=by
         rcases Nat.lt_or_ge k s.nb with h'|h'
         ·rw[←Nat.blt_eq] at h';rw[h'] at hlt;cases hlt
         ·exact h'
        exact hK (.tup []) {s with L:=L'} [k] w' h (hmv _) (fun e=>by rw[hbig] at e;cases e) (fun _=>rfl)
         (key _ H.dirty (fun i h1 h2=>⟨h2,fun e=>by have:=H.newer k l hge hlk;omega⟩)) trivial
      ·exact h.elim
     |adr ad ofs=>
      obtain⟨⟨h1,h2⟩,h3⟩:=h
      show Oper.upon P _ a next Q ((do Instr.storeAt t (a.eval ax) (a.eval x);pure .skip:Sem Go.Next).run P w)
      rw[(one had).2,(one hv).2]
      exact store_sound H (isBig_adr rfl had (by intros;simp)) hm (one hv).1 hs hl h1 h2 h3 hK
     |ptr p=>
      obtain⟨ad,rfl,⟨h1,h2⟩,h3⟩:=h
      show Oper.upon P _ a next Q ((do Instr.storeAt t (a.eval ax) (a.eval x);pure .skip:Sem Go.Next).run P w)
      rw[(one had).2,(one hv).2]
      exact store_sound H (isBig_adr rfl had (by intros;simp)) hm (one hv).1 hs hl h1 h2 h3 hK
     |_=>exact h.elim
   ·exact h.elim
  ·exact h.elim
 |call c=>
  obtain⟨callee,args,ats⟩:=c
  cases callee with
  |value f=>
   unfold loud at h
   simp only[] at h
   split at h
   ·rename_i g first cap vs hf hvs
    obtain⟨x1,x2⟩:=evals_sound H.env hvs
    have ex:args.map a.eval=(reals (blks s.L) vs).toArray:=by apply Array.ext';simpa using x2
    have e:((execOp a.eval ⟨dst, .call ⟨.value f,args,ats⟩,ty,pos,after,guard⟩).run P w)=(callFunc g (reals (blks s.L) (first++vs++cap)).toArray).run P w:=by
     have:(reals (blks s.L) (first++vs++cap)).toArray=(reals (blks s.L) first).toArray++(reals (blks s.L) vs).toArray++(reals (blks s.L) cap).toArray:=by
      apply Array.ext';simp[reals_eq]
     rw[this]
     simp only[execOp,resolve,ex,(one hf).2,real,Deferred.ofValue,Sem.run_bind,Sem.run_pure,Result.andThen_ok,invoke]
    rw[e]
    exact callAt_sound H rfl h hK
   ·exact h.elim
  |builtin b=>
   cases b with
   |copy=>
    unfold loud at h
    simp only[] at h
    split at h
    ·rename_i t u x y hats hvs
     obtain⟨x1,x2⟩:=evals_sound H.env hvs
     have ex:args.map a.eval=(reals (blks s.L) [x,y]).toArray:=by apply Array.ext';simpa using x2
     have ea:ats=#[t,u]:=by apply Array.ext';exact hats
     have e:((execOp a.eval ⟨dst, .call ⟨.builtin .copy,args,ats⟩,ty,pos,after,guard⟩).run P w)=((do pure (.value (←Builtin.copy_ #[t,u] ty #[real (blks s.L) x,real (blks s.L) y])):Sem Go.Next).run P w):=by
      simp only[execOp,resolve,ex,ea,Sem.run_bind,Sem.run_pure,Result.andThen_ok,invoke,Go.builtin,reals]
     rw[e]
     exact copyAt_sound H rfl ty h hK
    ·exact h.elim
   |append=>
    unfold loud at h
    simp only[] at h
    split at h
    ·rename_i t u x y hats hvs
     split at h
     ·rename_i htu
      have htu:t=u:=Nat.eq_of_beq_eq_true htu
      subst htu
      obtain⟨x1,x2⟩:=evals_sound H.env hvs
      have ex:args.map a.eval=(reals (blks s.L) [x,y]).toArray:=by apply Array.ext';simpa using x2
      have ea:ats=#[t,t]:=by apply Array.ext';exact hats
      have e:((execOp a.eval ⟨dst, .call ⟨.builtin .append,args,ats⟩,ty,pos,after,guard⟩).run P w)=((do pure (.value (←Builtin.append_ #[t,t] ty #[real (blks s.L) x,real (blks s.L) y])):Sem Go.Next).run P w):=by
       simp only[execOp,resolve,ex,ea,Sem.run_bind,Sem.run_pure,Result.andThen_ok,invoke,Go.builtin,reals]
      rw[e]
      exact appendAt_sound H rfl ty h hK
     ·exact h.elim
    ·exact h.elim
   |delete=>
    unfold loud at h
    simp only[] at h
    split at h
    ·rename_i t u m n hats hvs
     obtain⟨x1,x2⟩:=evals_sound H.env hvs
     have ex:args.map a.eval=(reals (blks s.L) [m, .int .i64 n]).toArray:=by apply Array.ext';simpa using x2
     have ea:ats=#[t,u]:=by apply Array.ext';exact hats
     refine setPut_sound H rfl h hK fun e b l he hm hb=>?_
     subst hm
     obtain⟨w',hr,hs⟩:=delete_set (ty:=ty) (ats:=ats) he (by rw[ea];rfl) n hb
     refine⟨w',_,hs,hs,fun hn=>?_⟩
     have e1:((execOp a.eval ⟨dst, .call ⟨.builtin .delete,args,ats⟩,ty,pos,after,guard⟩).run P w)=((do pure (.value (←Builtin.delete_ ats ty #[.map (some b), .int .i64 n])):Sem Go.Next).run P w):=by
      simp only[execOp,resolve,ex,Sem.run_bind,Sem.run_pure,Result.andThen_ok,invoke,Go.builtin,reals,real]
     rw[e1]
     exact put_upon hr hn
    ·exact h.elim
   |clear=>
    unfold loud at h
    simp only[] at h
    split at h
    ·rename_i t m hats hvs
     obtain⟨x1,x2⟩:=evals_sound H.env hvs
     have ex:args.map a.eval=(reals (blks s.L) [m]).toArray:=by apply Array.ext';simpa using x2
     have ea:ats=#[t]:=by apply Array.ext';exact hats
     refine setPut_sound H rfl h hK fun e b l he hm hb=>?_
     subst hm
     obtain⟨w',hr,hs⟩:=clear_set (ty:=ty) (ats:=ats) he (by rw[ea];rfl) hb
     refine⟨w',_,hs,hs,fun hn=>?_⟩
     have e1:((execOp a.eval ⟨dst, .call ⟨.builtin .clear,args,ats⟩,ty,pos,after,guard⟩).run P w)=((do pure (.value (←Builtin.clear_ ats ty #[.map (some b)])):Sem Go.Next).run P w):=by
      simp only[execOp,resolve,ex,Sem.run_bind,Sem.run_pure,Result.andThen_ok,invoke,Go.builtin,reals,real]
     rw[e1]
     exact put_upon hr hn
    ·exact h.elim
   |_=>exact h.elim
  |_=>exact h.elim
 |makeMap t r=>
  cases r with
  |none=>
   unfold loud at h
   simp only[] at h
   split at h
   ·obtain⟨hr,hn⟩:=makeMap_set (P:=P) (w:=w) (t:=t)
    exact put_upon hr (hK (.val (.map (some w.heap.size))) (s.at s.L _) [] _ (h w H.grow.grow _ _ hn) moves_at (fun _=>rfl) (fun e=>by cases e) H.setNew rfl)
   ·exact h.elim
  |some r=>exact h.elim
 |mapUpdate t m k v=>
  unfold loud at h
  simp only[] at h
  split at h
  ·rename_i mv n hm hk hv
   refine setPut_sound H rfl h hK fun e b l he hmm hb=>?_
   subst hmm
   obtain⟨w',hr,hs⟩:=mapUpdate_set he n hb
   refine⟨w',_,hs,hs,fun hn=>?_⟩
   have e1:Instr.mapUpdate t (a.eval m) (a.eval k) (a.eval v)=Instr.mapUpdate t (.map (some b)) (.int .i64 n) (.bool true):=by rw[(one hm).2,(one hk).2,(one hv).2];rfl
   rw[←e1] at hr
   show Oper.upon P _ a next Q ((do Instr.mapUpdate t (a.eval m) (a.eval k) (a.eval v);pure .skip:Sem Go.Next).run P w)
   rw[Sem.run_bind,hr]
   exact hn
  ·exact h.elim
 |lookup t m k c=>
  cases c with
  |true=>exact h.elim
  |false=>
   unfold loud at h
   simp only[] at h
   split at h
   ·rename_i e mv n he hm hk
    obtain⟨b,l,rfl,hb,hx⟩:=setOf_elim (h w H.grow.grow)
    have hr:=lookup_set (P:=P) (w:=w) he n hb
    have e1:Instr.lookup t (a.eval m) (a.eval k) false=Instr.lookup t (.map (some b)) (.int .i64 n) false:=by rw[(one hm).2,(one hk).2];rfl
    rw[←e1] at hr
    exact put_upon hr (hK (.bool (.ok (l.contains n))) (s.at s.L w) [] _ (hx _ rfl) moves_at (fun _=>rfl) (fun e=>by cases e) H.again trivial)
   ·exact h.elim
 |_=>exact h.elim
end Go.Sy
namespace Go.Sy
open Go.RowKit (Below)
variable [Codecs]
variable {P:Program} {w0:World} {F:Nat→Prop} {Z:List (Nat×Obj)} {N:Nat} {s:St} {a:Act} {w:World}
theorem Moves.trans {s s1 s2:St} {c1 c2:List Nat} (h:Moves s s1 c1) (k:Moves s1 s2 c2):Moves s s2 (c1++c2):=⟨fun j l hl=>by
 obtain⟨l1,a1,a2,a3,a4,a5,a6,a7⟩:=h.old j l hl
 obtain⟨l2,b1,b2,b3,b4,b5,b6,b7⟩:=k.old j l1 a1
 exact⟨l2,b1,b2.trans a2,Nat.le_trans a3 b3,fun e=>by rw[b4 (by omega),a4 (by omega)],fun hn=>by
  rw[b5 fun hm=>hn (List.mem_append_right _ hm),a5 fun hm=>hn (List.mem_append_left _ hm)],b6.trans a6,b7.trans a7⟩,by
 obtain⟨l1,e1⟩:=h.more
 obtain⟨l2,e2⟩:=k.more
 exact⟨l2++l1,by rw[e2,e1,List.append_assoc]⟩,k.recs.trans h.recs⟩
theorem Moves.ofEq {s s':St} (h:s'.L=s.L∧s'.M=s.M∧s'.Z=s.Z) (ch:List Nat):Moves s s' ch:=⟨fun _ l hl=>⟨l,by rw[h.1];exact hl,rfl,Nat.le_refl _,fun _=>rfl,fun _=>rfl,rfl,rfl⟩,⟨[],by rw[h.2.1];rfl⟩,h.2.2⟩
theorem put_L (s:St) (d:Option Tmp) (v:SV):(s.put d v).L=s.L:=by cases d<;>rfl
theorem put_LMZ (s:St) (d:Option Tmp) (v:SV):(s.put d v).L=s.L∧(s.put d v).M=s.M∧(s.put d v).Z=s.Z:=by cases d<;>exact⟨rfl,rfl,rfl⟩
theorem put_wb (s:St) (d:Option Tmp) (v:SV):(s.put d v).wb=s.wb:=by cases d<;>rfl
def Like (s s':St):Prop:=∃T,s'={s with T:=T}
theorem Like.L {s s':St} (h:Like s s'):s'.L=s.L:=by obtain⟨T,rfl⟩:=h;rfl
theorem Like.LMZ {s s':St} (h:Like s s'):s'.L=s.L∧s'.M=s.M∧s'.Z=s.Z:=by obtain⟨T,rfl⟩:=h;exact⟨rfl,rfl,rfl⟩
theorem fork_sound (H:Ok w0 F Z N s a w) {d:Tmp} {K:Env→Bool→Prop} (h:fork s.T d K):∃T b,K T b∧EnvOk s.L.length (blks s.L) T a.tmps∧T.at d=some (.lit b)∧a.tmps.getD d undef= .bool b:=by
 unfold fork at h
 split at h
 ·rename_i b hb
  exact⟨s.T,b,h,H.env,hb,(H.env d _ hb).2⟩
 ·rename_i e he
  have hv:=(H.env d _ he).2
  refine BE.split h (fun ht hk=>?_) (fun ht hk=>?_)
  ·exact⟨_,true,hk,H.env.known he ht,by rw[at_set,if_pos rfl],by rw[hv,real,ht]⟩
  ·exact⟨_,false,hk,H.env.known he ht,by rw[at_set,if_pos rfl],by rw[hv,real,ht]⟩
 ·exact h.elim
theorem wantIs_sound {b want:Bool} {K:Bool→Prop} (h:wantIs b want K):K (b==want):=by
 cases b<;>cases want<;>exact h
theorem guarded_sound (H:Ok w0 F Z N s a w) {all:Array Oper} {o:Oper} {K:St→Bool→Prop} (h:guarded all.toList o s K):∃s' b,K s' b∧Ok w0 F Z N s' a w∧Region.wanted o (yielded all a.tmps)=b∧Like s s':=by
 unfold guarded at h
 split at h
 ·rename_i hg
  exact⟨s,true,h,H,by simp[Region.wanted,hg],s.T,rfl⟩
 ·rename_i j want hg
  split at h
  ·rename_i oj hj
   split at h
   ·rename_i d hd
    have hall:(all[j]?).bind (·.dst)=some d:=by
     have:all[j]? =some oj:=by rw[←Array.getElem?_toList];exact hj
     rw[this];exact hd
    have htmp:∀v,a.tmps.getD d undef=v→v≠undef→a.tmps[d]? =some v:=fun v hv hne=>by
     rw[Array.getD_eq_getD_getElem?] at hv
     cases hx:a.tmps[d]? with
     |none=>rw[hx] at hv;exact absurd hv.symm hne
     |some u=>rw[hx] at hv;simp only[Option.getD_some] at hv;rw[hv]
    split at h
    ·rename_i ht
     have hv:=(H.env d _ ht).2
     refine⟨s,false,h,H,?_,s.T,rfl⟩
     unfold Region.wanted
     rw[hg]
     simp only[]
     unfold yielded
     rw[hall]
     simp only[Option.bind_some]
     cases hx:a.tmps[d]? with
     |none=>simp
     |some u=>
      rw[Array.getD_eq_getD_getElem?,hx] at hv
      simp only[Option.getD_some,real,reals] at hv
      rw[hv];simp
    ·obtain⟨T,b,hk,hT,_,hb⟩:=fork_sound H h
     refine⟨{s with T:=T},b==want,wantIs_sound hk,H.withT hT,?_,T,rfl⟩
     have hx:=htmp _ hb (by simp[undef])
     unfold Region.wanted
     rw[hg]
     simp only[]
     unfold yielded
     rw[hall]
     simp only[Option.bind_some,hx]
     cases b<;>cases want<;>rfl
   ·exact h.elim
  ·exact h.elim
theorem picked_sound (H:Ok w0 F Z N s a w) {o:Op} {K:St→Prop} (h:picked o s K):∃s',K s'∧Ok w0 F Z N s' a w∧Like s s':=by
 unfold picked at h
 split at h
 ·obtain⟨T,b,hk,hT,_,_⟩:=fork_sound H h
  exact⟨_,hk,H.withT hT,T,rfl⟩
 ·exact⟨s,h,H,s.T,rfl⟩
def Same (T:Nat→Prop) (a a':Act):Prop:=∀t,¬T t→a'.tmps.getD t undef=a.tmps.getD t undef
theorem Same.refl (T:Nat→Prop) (a:Act):Same T a a:=fun _ _=>rfl
theorem Same.trans {T:Nat→Prop} {a b c:Act} (h:Same T a b) (k:Same T b c):Same T a c:=fun t ht=>(k t ht).trans (h t ht)
theorem Same.mono {T U:Nat→Prop} {a b:Act} (h:Same T a b) (hu:∀t,T t→U t):Same U a b:=fun t ht=>h t fun hT=>ht (hu t hT)
theorem Same.put {T:Nat→Prop} (a:Act) {d:Option Tmp} (hd:∀t,d=some t→T t) (v:Value):Same T a (a.put d v):=by
 intro t ht
 cases d with
 |none=>rfl
 |some d=>
  have hne:d≠t:=fun e=>ht (hd t (by rw[e]))
  simp[Act.put,Array.getElem?_setIfInBounds_ne hne]
def Dst (os:List Oper) (t:Nat):Prop:=∃o∈os,o.dst=some t
theorem ops_sound {all:Array Oper} {Q:Exit→Act→World→Prop}:∀(l:List Oper) (s:St) (a:Act) (w:World) (K:St→Prop),(∀o∈l,∀d,o.dst=some d→d<N)→Ok w0 F Z N s a w→ops P w0 F all.toList l s K→
  (∀s' a' w',K s'→Ok w0 F Z N s' a' w'→(∃ch,Moves s s' ch)→Same (Dst l) a a'→Q .normal a' w')→wpList P all Q l a w
 |[],s,a,w,K,_,H,h,hQ=>hQ s a w h H ⟨[],Moves.refl s []⟩ (Same.refl _ _)
 |o::rest,s,a,w,K,hd,H,h,hQ=>by
  obtain⟨s1,b,h,H1,hw,hl⟩:=guarded_sound H h
  refine wpList_step fun K' hK'=>?_
  have rec_:∀(s2:St) (v:SV) (w2:World) (ch:List Nat),Ok w0 F Z N s2 a w2→okv s2.L.length v→Moves s1 s2 ch→ops P w0 F all.toList rest (s2.put o.dst v) K→K' (a.put o.dst (real (blks s2.L) v)) w2:=by
   intro s2 v w2 ch H2 hv hm h2
   refine hK' _ _ (ops_sound rest _ _ _ K (fun o' ho'=>hd o' (by simp[ho'])) (H2.put (fun d hd'=>hd o (by simp) d hd') hv) h2 fun s' a' w' k1 k2 k3 k4=>hQ s' a' w' k1 k2 ?_ ((Same.put a (fun t ht=>⟨o,by simp,ht⟩) _).trans (k4.mono fun t ⟨o',h1,h2⟩=>⟨o',by simp[h1],h2⟩)))
   obtain⟨ch',k3⟩:=k3
   exact⟨_,((Moves.ofEq hl.LMZ []).trans hm).trans ((Moves.ofEq (s':=s2.put o.dst v) (put_LMZ _ _ _) []).trans k3)⟩
  cases b with
  |false=>
   rw[if_neg (by rw[hw];simp)]
   exact rec_ s1 (.tup []) w [] H1 trivial (Moves.refl _ _) h
  |true=>
   rw[if_pos hw]
   simp only[] at h
   unfold run1 at h
   split at h
   ·obtain⟨s2,h,H2,hl2⟩:=picked_sound H1 h
    obtain⟨v,v1,v2,v3,v4⟩:=calm_sound (P:=P) (o:=o) H2.env H2.cells h
    unfold Oper.wp
    rw[v4 w (H2.needs v3)]
    exact rec_ s2 v w [] H2 v1 (Moves.ofEq hl2.LMZ []) v2
   ·refine loud_sound H1 h ?_
    intro v s2 ch w2 hk hm _ _ H2 hv
    exact rec_ s2 v w2 ch H2 hv hm hk
end Go.Sy
namespace Go.Sy
open Go.RowKit (Below)
variable [Codecs]
variable {P:Program} {w0:World} {F:Nat→Prop} {Z:List (Nat×Obj)} {N:Nat}
abbrev Facts:=List (Nat×(World→Prop))
def alive (all:Array Oper) (i:Nat) (Fs:Facts):Facts:=Fs.filter fun f=> !Abs.ahead (Abs.masks all) f.1 i
def wpAnyP (P:Program) (all:Array Oper) (Q:Exit→Act→World→Prop):Facts→Nat→Array Bool→Act→World→Prop
 |_,0,listed,a,w=>Region.ready .any all listed=[]∧Q .normal a w
 |Fs,n+1,listed,a,w=>(Region.ready .any all listed=[]→Q .normal a w)∧
  ∀i∈Region.ready .any all listed,wpOp P all Q i (fun a' w'=>(∀f∈Fs,f.2 w→Abs.ahead (Abs.masks all) f.1 i=false→f.2 w')∧wpAnyP P all Q (alive all i Fs) n (listed.setIfInBounds i true) a' w') a w
variable {all:Array Oper} {Q:Exit→Act→World→Prop}
theorem wpAny_of_P:∀(n:Nat) (Fs:Facts) (listed:Array Bool) (a:Act) (w:World),wpAnyP P all Q Fs n listed a w→wpAny P .any all Q n listed a w
 |0,_,_,_,_,h=>h
 |n+1,_,_,_,_,h=>⟨h.1,fun i hi=>wpOp_mono (fun a' w' h'=>wpAny_of_P n _ _ a' w' h'.2) (h.2 i hi)⟩
theorem wpAnyP_mono:∀(n:Nat) (Fs Gs:Facts) (listed:Array Bool) (a:Act) (w:World),(∀f∈Gs,f∈Fs)→wpAnyP P all Q Fs n listed a w→wpAnyP P all Q Gs n listed a w
 |0,_,_,_,_,_,_,h=>h
 |n+1,Fs,Gs,_,_,_,hs,h=>⟨h.1,fun i hi=>wpOp_mono (fun a' w' h'=>⟨fun f hf=>h'.1 f (hs f hf),wpAnyP_mono n (alive all i Fs) (alive all i Gs) _ a' w' (fun f hf=>by
   unfold alive at*
   rw[List.mem_filter] at*
   exact⟨hs f hf.1,hf.2⟩) h'.2⟩) (h.2 i hi)⟩
def ClosedL (all:Array Oper) (listed:Array Bool):Prop:=Abs.Closed all (fun j=>listed.getD j false=true)
theorem ClosedL.next {listed:Array Bool} (h:ClosedL all listed) {i:Nat} (hi:i∈Region.ready .any all listed):ClosedL all (listed.setIfInBounds i true):=by
 intro j o hj hl e he hb
 obtain⟨h0,oi,hoi,hall⟩:=mem_ready.1 hi
 by_cases hji:j=i
 ·subst hji
  obtain rfl:oi=o:=by rw[hoi] at hj;exact Option.some.inj hj
  exact getD_set_true (hall e he hb)
 ·rw[getD_set_ne false (Ne.symm hji)] at hl
  exact getD_set_true (h j o hj hl e he hb)
theorem ClosedL.not_ahead {listed:Array Bool} (h:ClosedL all listed) {i j:Nat} (hj:j∈Region.ready .any all listed) (hi:i∈Region.ready .any all listed):Abs.ahead (Abs.masks all) i j=false:=by
 cases ha:Abs.ahead (Abs.masks all) i j with
 |false=>rfl
 |true=>
  obtain⟨_,o,ho,hall⟩:=mem_ready.1 hj
  have:=Abs.ahead_sound h j i o ho hall ha
  have h0:=(mem_ready.1 hi).1
  rcases Nat.lt_or_ge i listed.size with h'|h'
  ·simp[h'] at h0 this;rw[h0] at this;cases this
  ·simp[Array.getElem?_eq_none h'] at this
theorem wpAnyP_take {i:Nat} {oi:Oper} {v:Value} {S:World→Prop} (hi:all[i]? =some oi) (hsel:∀(j:Nat) (o:Oper) cs b,all[j]? =some o→o.op≠ .select cs b)
  (hQ:∀c a w,Q (.panic c) (a.put oi.dst v) w→Q (.panic c) a w):
  ∀(n:Nat) (Fs:Facts) (listed:Array Bool) (a:Act) (w:World),ClosedL all listed→
   (∀j oj,all[j]? =some oj→j≠i→listed.getD j true=false→(∀e∈oj.after,Region.binds .any e=true→e.on≠i)→oi.apart all oj=true)→
   i∈Region.ready .any all listed→YieldsIf P all S oi v a→S w→
   wpAnyP P all Q ((i,S)::Fs) n (listed.setIfInBounds i true) (a.put oi.dst v) w→wpAnyP P all Q Fs (n+1) listed a w:=by
 intro n
 induction n with
 |zero=>
  intro Fs listed a w hcl _ hr hy hS H
  refine⟨fun h=>(by rw[h] at hr;cases hr),fun j hj=>?_⟩
  by_cases hji:j=i
  ·subst hji;exact hy.wpOp hi hS ⟨fun f _ hf _=>hf,H⟩
  ·have:=ready_mono hj hji
   rw[H.1] at this
   cases this
 |succ n ih=>
  intro Fs listed a w hcl hfree hr hy hS H
  refine⟨fun h=>(by rw[h] at hr;cases hr),fun j hj=>?_⟩
  by_cases hji:j=i
  ·subst hji
   refine hy.wpOp hi hS ⟨fun f _ hf _=>hf,wpAnyP_mono _ _ _ _ _ _ (fun f hf=>?_) H⟩
   unfold alive at hf
   rw[List.mem_filter] at hf
   exact List.mem_cons_of_mem _ hf.1
  ·have h1:=H.2 j (ready_mono hj hji)
   obtain⟨hjun,oj,hoj,hall⟩:=mem_ready.1 hj
   have hnot:∀e∈oj.after,Region.binds .any e=true→e.on≠i:=fun e he hb heq=>by
    have h1:=hall e he hb
    have h0:=(mem_ready.1 hr).1
    rw[heq] at h1
    rcases Nat.lt_or_ge i listed.size with h'|h'
    ·simp[h'] at h0 h1;rw[h0] at h1;cases h1
    ·simp[Array.getElem?_eq_none h'] at h1
   have hna:Abs.ahead (Abs.masks all) i j=false:=hcl.not_ahead hj hr
   have h2:=wpOp_putIf hoj (hfree j oj hoj hji hjun hnot) (fun cs b=>hsel i oi cs b hi) (fun cs b=>hsel j oj cs b hoj) hQ hy h1
   have hfree':∀k ok,all[k]? =some ok→k≠i→(listed.setIfInBounds j true).getD k true=false→
     (∀e∈ok.after,Region.binds .any e=true→e.on≠i)→oi.apart all ok=true:=fun k ok hk hki hun hno=>by
    refine hfree k ok hk hki ?_ hno
    by_cases hjk:j=k
    ·subst hjk;exact hjun
    ·rw[getD_set_ne true hjk] at hun;exact hun
   refine wpOp_mono (fun a' w' h3=>⟨fun f hf=>h3.2.1 f (List.mem_cons_of_mem _ hf),ih (alive all j Fs) (listed.setIfInBounds j true) a' w' (hcl.next hj) hfree' (ready_mono hr (Ne.symm hji)) h3.1 (h3.2.1 (i,S) (List.mem_cons_self ..) hS hna) ?_⟩) h2
   have h4:=h3.2.2
   have e:alive all j ((i,S)::Fs)=(i,S)::alive all j Fs:=by
    unfold alive
    rw[List.filter_cons,if_pos (by rw[hna];rfl)]
   rw[e,Array.setIfInBounds_comm _ _ (Ne.symm hji)] at h4
   first|exact h4|(rw[Array.setIfInBounds_comm _ _ hji];exact h4)
def NQ (R:Act→World→Prop):Exit→Act→World→Prop
 | .normal,a,w=>R a w
 |_,_,_=>False
def Stands (s:St) (p:Pend) (f:Nat×(World→Prop)):Prop:=p.i=f.1∧match p.own,p.old with
 |some k,_=>∃l,s.L[k]? =some l∧okvs s.L.length l.cells∧∀w,Whole w l.blk l.ty (reals (blks s.L) l.cells)→f.2 w
 |none,some (a,o,vs)=>∀w,At w a o vs→f.2 w
 |none,none=>False
def StandsAll (s:St) (ps:List Pend) (Fs:Facts):Prop:=∀f∈Fs,(∀w,f.2 w)∨∃p∈ps,Stands s p f
theorem Stands.like {s s':St} (h:s'.L=s.L) {p:Pend} {f:Nat×(World→Prop)} (k:Stands s p f):Stands s' p f:=by
 unfold Stands at*
 rw[h];exact k
theorem StandsAll.like {s s':St} (h:s'.L=s.L) {ps:List Pend} {Fs:Facts} (k:StandsAll s ps Fs):StandsAll s' ps Fs:=fun f hf=>(k f hf).imp id fun⟨p,h1,h2⟩=>⟨p,h1,h2.like h⟩
theorem stillOk_elim {ms:List Nat} {i:Nat} {big:Bool} {ch D:List Nat} {w:World}:∀{ps:List Pend} {Q:Prop},stillOk ms i big ch D w ps Q→Q∧∀p∈ps,Abs.ahead ms p.i i=false→
  match p.own,p.old with
  |some k,_=>k∉ch
  |none,some (a,o,vs)=>(big=true→At w a o vs)∧(big=false→a.block∉D)
  |none,none=>True
 |[],Q,h=>⟨h,fun p hp=>by cases hp⟩
 |p::ps,Q,h=>by
  unfold stillOk at h
  split at h
  ·rename_i ha
   obtain⟨h1,h2⟩:=stillOk_elim h
   refine⟨h1,fun q hq hn=>?_⟩
   rcases List.mem_cons.1 hq with rfl|hq
   ·rw[ha] at hn;cases hn
   ·exact h2 q hq hn
  ·split at h
   ·rename_i k hk
    split at h
    ·exact h.elim
    ·rename_i hc
     obtain⟨h1,h2⟩:=stillOk_elim h
     refine⟨h1,fun q hq hn=>?_⟩
     rcases List.mem_cons.1 hq with rfl|hq
     ·rw[hk];simpa using hc
     ·exact h2 q hq hn
   ·rename_i hk
    split at h
    ·rename_i a o vs ho
     cases big with
     |true=>
      obtain⟨h0,h⟩:=h
      obtain⟨h1,h2⟩:=stillOk_elim h
      refine⟨h1,fun q hq hn=>?_⟩
      rcases List.mem_cons.1 hq with rfl|hq
      ·rw[hk,ho];exact⟨fun _=>h0,fun e=>absurd e (by simp)⟩
      ·exact h2 q hq hn
     |false=>
      obtain⟨h0,h⟩:=notIn_sound h
      obtain⟨h1,h2⟩:=stillOk_elim h
      refine⟨h1,fun q hq hn=>?_⟩
      rcases List.mem_cons.1 hq with rfl|hq
      ·rw[hk,ho];exact⟨fun e=>absurd e (by simp),fun _=>h0⟩
      ·exact h2 q hq hn
    ·rename_i ho
     obtain⟨h1,h2⟩:=stillOk_elim h
     refine⟨h1,fun q hq hn=>?_⟩
     rcases List.mem_cons.1 hq with rfl|hq
     ·rw[hk,ho];trivial
     ·exact h2 q hq hn
theorem firstCalm_mem {l:List Oper}:∀{is:List Nat} {i:Nat},firstCalm P l is=some i→i∈is∧∃o,l[i]? =some o∧calmB P o.op=true
 |[],i,h=>by cases h
 |j::js,i,h=>by
  unfold firstCalm at h
  split at h
  ·rename_i o ho
   split at h
   ·rename_i hc
    cases h
    exact⟨List.mem_cons_self ..,o,ho,hc⟩
   ·obtain⟨h1,h2⟩:=firstCalm_mem h
    exact⟨List.mem_cons_of_mem _ h1,h2⟩
  ·obtain⟨h1,h2⟩:=firstCalm_mem h
   exact⟨List.mem_cons_of_mem _ h1,h2⟩
theorem calm_not_ahead {s:St} {a:Act} {w:World} {o:Oper} {i:Nat} {v:SV} {q:Pend} (H:Ok w0 F Z N s a w) (hp:pendOf P i o.op s v=some q) (hl:isLoad o.op=true) (hf:fact P s o.op v):Stands s q (i,needs P s o.op v):=by
 obtain⟨dst,op,ty,pos,after,guard⟩:=o
 cases op with
 |load t x=>
  simp only[pendOf] at hp
  simp only[fact] at hf
  split at hp
  ·rename_i k o hx
   cases hp
   rw[hx] at hf
   obtain⟨l,h1,h2,h3⟩:=hf
   refine⟨rfl,l,h1,(H.cells k l h1).1,fun w hw=>?_⟩
   simp only[needs,hx,readsAt]
   exact At.own h1 hw h3
  ·rename_i ad o hx
   cases hp
   refine⟨rfl,fun w hw=>?_⟩
   simp only[needs,hx,readsAt]
   exact hw
  ·cases hp
 |_=>cases hl
theorem pendOf_old {s:St} {o:Oper} {i:Nat} {v:SV} {q:Pend} (hp:pendOf P i o.op s v=some q) (hf:fact P s o.op v) (hn:q.own=none) {ad:Addr} {ofs:Nat} {vs:List Value} (ho:q.old=some (ad,ofs,vs)):At s.wb ad ofs vs:=by
 obtain⟨dst,op,ty,pos,after,guard⟩:=o
 cases op with
 |load t x=>
  simp only[pendOf] at hp
  simp only[fact] at hf
  split at hp
  ·cases hp;cases hn
  ·rename_i ad' o' hx
   cases hp
   rw[hx] at hf
   cases ho
   exact hf.2
  ·cases hp
 |_=>cases hp;cases ho
theorem stands_next {s s':St} {a:Act} {w':World} (H':Ok w0 F Z N s' a w') {ch:List Nat} (hm:Moves s s' ch) {p:Pend} {f:Nat×(World→Prop)} (h:Stands s p f) {big:Bool} (hb1:big=true→s'.D=[]) (hb2:big=false→s'.wb=s.wb) (hw:big=false→∀a o vs,p.own=none→p.old=some (a,o,vs)→At s.wb a o vs)
  (hs:match p.own,p.old with
   |some k,_=>k∉ch
   |none,some (a,o,vs)=>(big=true→At s'.wb a o vs)∧(big=false→a.block∉s'.D)
   |none,none=>True):Stands s' p f∧f.2 w'∧(∀a o vs,p.own=none→p.old=some (a,o,vs)→At s'.wb a o vs):=by
 obtain⟨hi,h⟩:=h
 have hal:Alike s.L.length (blks s.L) (blks s'.L):=alike_of fun k l hl=>by
  obtain⟨l',h1,h2,_⟩:=hm.old k l hl
  exact⟨l',h1,h2⟩
 cases ho:p.own with
 |some k=>
  rw[ho] at h hs
  simp only[] at h hs
  obtain⟨l,hl,hok,hf⟩:=h
  obtain⟨l',q1,_,_,_,q5,_⟩:=hm.old k l hl
  obtain rfl:=q5 hs
  have hr:reals (blks s'.L) l'.cells=reals (blks s.L) l'.cells:=reals_alike hal _ hok
  refine⟨⟨hi,?_⟩,hf w' (by rw[←hr];exact(H'.lies k l' q1).1),fun _ _ _ e=>by cases e⟩
  rw[ho]
  exact⟨l',q1,(H'.cells k l' q1).1,fun w hw=>hf w (by rw[←hr];exact hw)⟩
 |none=>
  rw[ho] at h hs
  cases hold:p.old with
  |none=>rw[hold] at h;exact h.elim
  |some x=>
   obtain⟨ad,o,vs⟩:=x
   rw[hold] at h hs
   simp only[] at h hs
   have hat:At s'.wb ad o vs∧ad.block∉s'.D:=by
    cases hbig:big with
    |true=>exact⟨hs.1 hbig,by rw[hb1 hbig];simp⟩
    |false=>exact⟨by rw[hb2 hbig];exact hw hbig ad o vs ho hold,hs.2 hbig⟩
   refine⟨⟨hi,by rw[ho,hold];exact h⟩,h w' (hat.1.grown H'.grow hat.2),fun a' o' vs' _ e=>?_⟩
   cases e
   exact hat.1
end Go.Sy
namespace Go.Sy
open Go.RowKit (Below)
variable [Codecs]
variable {P:Program} {w0:World} {F:Nat→Prop} {Z:List (Nat×Obj)} {N:Nat}
variable {all:Array Oper}
def OldAll (s:St) (ps:List Pend):Prop:=∀p∈ps,p.own=none→∀a o vs,p.old=some (a,o,vs)→At s.wb a o vs
theorem draw_sound (hsel:Region.noSelect all=true) (hd:∀o∈all.toList,∀d,o.dst=some d→d<N) {R:Act→World→Prop}:
  ∀(n:Nat) (listed:Array Bool) (pend:List Pend) (Fs:Facts) (s:St) (a:Act) (w:World) (K:St→Prop),ClosedL all listed→StandsAll s pend Fs→OldAll s pend→Ok w0 F Z N s a w→
   draw P w0 F all (Abs.masks all) n listed pend s K→(∀s' a' w',K s'→Ok w0 F Z N s' a' w'→(∃ch,Moves s s' ch)→Same (Dst all.toList) a a'→R a' w')→wpAnyP P all (NQ R) Fs n listed a w:=by
 have hin:∀(i:Nat) (o:Oper),all[i]? =some o→o∈all.toList:=fun i o ho=>by
  have:all.toList[i]? =some o:=by rw[Array.getElem?_toList];exact ho
  exact List.mem_of_getElem? this
 have hdst:∀(i:Nat) (o:Oper),all[i]? =some o→∀d,o.dst=some d→d<N:=fun i o ho=>hd o (hin i o ho)
 intro n
 induction n with
 |zero=>
  intro listed pend Fs s a w K _ _ _ H h hR
  unfold draw at h
  split at h
  ·rename_i hr
   exact⟨hr,hR s a w h H ⟨[],Moves.refl _ _⟩ (Same.refl _ _)⟩
  ·exact h.elim
 |succ n ih=>
  intro listed pend Fs s a w K hcl hst hold H h hR
  have take:∀(i:Nat) (o:Oper) (s2:St) (v:SV) (q:List Pend) (S:World→Prop),all[i]? =some o→i∈Region.ready .any all listed→Region.free .any all listed i=true→Ok w0 F Z N s2 a w→(s2.L=s.L∧s2.M=s.M∧s2.Z=s.Z)→okv s2.L.length v→
    YieldsIf P all S o (real (blks s2.L) v) a→S w→StandsAll s2 (q++pend) ((i,S)::Fs)→OldAll s2 (q++pend)→
    draw P w0 F all (Abs.masks all) n (listed.setIfInBounds i true) (q++pend) (s2.put o.dst v) K→wpAnyP P all (NQ R) Fs (n+1) listed a w:=by
   intro i o s2 v q S ho hr hf H2 hL hv hy hS hst2 hold2 h2
   refine wpAnyP_take ho (Region.noSelect_spec hsel) (fun c a w h=>h) n Fs listed a w hcl (Region.free_spec ho hf) hr hy hS ?_
   refine ih _ (q++pend) ((i,S)::Fs) (s2.put o.dst v) _ w K (hcl.next hr) (hst2.like (put_L _ _ _)) (fun p hp ho' a' o' vs' e=>by rw[put_wb];exact hold2 p hp ho' a' o' vs' e) (H2.put (fun d hd'=>hdst i o ho d hd') hv) h2 ?_
   intro s' a' w' k1 k2 ⟨ch,k3⟩ k4
   exact hR s' a' w' k1 k2 ⟨_,(Moves.ofEq hL []).trans ((Moves.ofEq (s':=s2.put o.dst v) (put_LMZ _ _ _) []).trans k3)⟩ ((Same.put a (fun t ht=>⟨o,hin i o ho,ht⟩) _).trans k4)
  have skip:∀(i:Nat) (o:Oper) (s2:St),all[i]? =some o→i∈Region.ready .any all listed→Region.free .any all listed i=true→Ok w0 F Z N s2 a w→Like s s2→Region.wanted o (yielded all a.tmps)=false→
    draw P w0 F all (Abs.masks all) n (listed.setIfInBounds i true) pend (s2.put o.dst (.tup [])) K→wpAnyP P all (NQ R) Fs (n+1) listed a w:=by
   intro i o s2 ho hr hf H2 hl hw h2
   obtain⟨T,rfl⟩:=hl
   exact take i o _ (.tup []) [] (fun _=>True) ho hr hf H2 ⟨rfl,rfl,rfl⟩ trivial (.inr ⟨hw,rfl⟩) trivial (fun f hf=>by
    rcases List.mem_cons.1 hf with rfl|hf
    ·exact .inl fun _=>trivial
    ·exact(hst.like rfl) f hf) hold h2
  unfold draw at h
  split at h
  ·rename_i hr
   exact⟨fun _=>hR s a w h H ⟨[],Moves.refl _ _⟩ (Same.refl _ _),by rw[hr];simp⟩
  ·rename_i r rs hr
   split at h
   ·rename_i i hfc
    obtain⟨hmem,oc,hoc,hcalm⟩:=firstCalm_mem hfc
    rw[←hr] at hmem
    split at h
    ·rename_i o hfree ho
     have hoo:oc=o:=by
      have:all.toList[i]? =some o:=by rw[Array.getElem?_toList];exact ho
      rw[this] at hoc;exact(Option.some.inj hoc).symm
     subst hoo
     obtain⟨s1,b,h,H1,hw,hl1⟩:=guarded_sound H h
     cases b with
     |false=>exact skip i oc s1 ho hmem hfree H1 hl1 hw h
     |true=>
      simp only[] at h
      obtain⟨s2,h,H2,hl2⟩:=picked_sound H1 h
      obtain⟨v,v1,v2,v3,v4⟩:=calm_sound (P:=P) (o:=oc) H2.env H2.cells h
      have hlike:Like s s2:=by
       obtain⟨T1,rfl⟩:=hl1
       obtain⟨T2,rfl⟩:=hl2
       exact⟨T2,rfl⟩
      have hLL:=hlike.L
      have hy:YieldsIf P all (needs P s2 oc.op v) oc (real (blks s2.L) v) a:= .inl ⟨hw,fun w hw=>v4 w hw⟩
      cases hload:isLoad oc.op with
      |true=>
       rw[hload] at v2
       split at v2
       ·rename_i q e1 hq
        have hs:=calm_not_ahead H2 hq hload v3
        refine take i oc s2 v [q] _ ho hmem hfree H2 hlike.LMZ v1 hy (H2.needs v3) (fun f hf=>?_) (fun p hp hpo a' o' vs' e=>?_) v2
        ·rcases List.mem_cons.1 hf with rfl|hf
         ·exact .inr ⟨q,by simp,hs⟩
         ·rcases(hst.like hLL) f hf with h1|⟨p,h1,h2⟩
          ·exact .inl h1
          ·exact .inr ⟨p,List.mem_append_right _ h1,h2⟩
        ·rcases List.mem_append.1 hp with hp|hp
         ·rw[List.mem_singleton] at hp
          subst hp
          exact pendOf_old hq v3 hpo e
         ·obtain⟨T,rfl⟩:=hlike
          exact hold p hp hpo a' o' vs' e
       ·exact v2.elim
       ·rename_i e1;cases e1
      |false=>
       rw[hload] at v2
       have v2':draw P w0 F all (Abs.masks all) n (listed.setIfInBounds i true) pend (s2.put oc.dst v) K:=v2
       refine take i oc s2 v [] (fun _=>True) ho hmem hfree H2 hlike.LMZ v1 (.inl ⟨hw,fun w _=>v4 w ?_⟩) trivial (fun f hf=>?_) ?_ v2'
       ·cases hop:oc.op with
        |load t x=>rw[hop] at hload;cases hload
        |_=>trivial
       ·rcases List.mem_cons.1 hf with rfl|hf
        ·exact .inl fun _=>trivial
        ·exact(hst.like hLL) f hf
       ·obtain⟨T,rfl⟩:=hlike
        exact hold
    ·exact h.elim
   ·have hne:Region.ready .any all listed≠[]:=by rw[hr];simp
    have key:∀(rs:List Nat) (s1:St),Like s s1→Ok w0 F Z N s1 a w→(∀i∈rs,i∈Region.ready .any all listed)→(∀i∈Region.ready .any all listed,i∉rs→wpOp P all (NQ R) i (fun a' w'=>(∀f∈Fs,f.2 w→Abs.ahead (Abs.masks all) f.1 i=false→f.2 w')∧wpAnyP P all (NQ R) (alive all i Fs) n (listed.setIfInBounds i true) a' w') a w)→
      alts P w0 F all (Abs.masks all) listed pend (fun i pend s=>draw P w0 F all (Abs.masks all) n (listed.setIfInBounds i true) pend s K) rs s1→wpAnyP P all (NQ R) Fs (n+1) listed a w:=by
     clear h
     intro rs
     induction rs with
     |nil=>intro s1 _ _ _ hdone _;exact⟨fun e=>absurd e hne,fun i hi=>hdone i hi (by simp)⟩
     |cons r rs ihr=>
      intro s1 hl1 H1 hmem hdone h
      unfold alts at h
      split at h
      ·rename_i o ho
       have hm:=hmem r List.mem_cons_self
       obtain⟨s2,b,h,H2,hw,hl2⟩:=guarded_sound H1 h
       have hl:Like s s2:=by
        obtain⟨T1,rfl⟩:=hl1
        obtain⟨T2,rfl⟩:=hl2
        exact⟨T2,rfl⟩
       cases b with
       |false=>
        simp only[] at h
        split at h
        ·rename_i hfree
         exact skip r o s2 ho hm hfree H2 hl hw h
        ·exact h.elim
       |true=>
        simp only[] at h
        have hop:(loud P w0 F all.toList o s2 fun v s' ch=>stillOk (Abs.masks all) r (isBig P all.toList o s2) ch s'.D s'.wb pend (draw P w0 F all (Abs.masks all) n (listed.setIfInBounds r true) (pend.filter fun p=> !Abs.ahead (Abs.masks all) p.i r) (s'.put o.dst v) K))→
          wpOp P all (NQ R) r (fun a' w'=>(∀f∈Fs,f.2 w→Abs.ahead (Abs.masks all) f.1 r=false→f.2 w')∧wpAnyP P all (NQ R) (alive all r Fs) n (listed.setIfInBounds r true) a' w') a w:=by
         intro h
         unfold wpOp
         simp only[ho,hw,if_true]
         refine .inl (loud_sound H2 h ?_)
         intro v s3 ch w2 hk hm' hb1 hb2 H3 hv
         have hall:(∀f∈Fs,f.2 w→Abs.ahead (Abs.masks all) f.1 r=false→f.2 w2)∧StandsAll s3 (pend.filter fun p=> !Abs.ahead (Abs.masks all) p.i r) (alive all r Fs)∧OldAll s3 (pend.filter fun p=> !Abs.ahead (Abs.masks all) p.i r)∧
           draw P w0 F all (Abs.masks all) n (listed.setIfInBounds r true) (pend.filter fun p=> !Abs.ahead (Abs.masks all) p.i r) (s3.put o.dst v) K:=by
          obtain⟨k1,k2⟩:=stillOk_elim hk
          obtain⟨T1,rfl⟩:=hl
          have step:∀p∈pend,∀f,Stands s p f→Abs.ahead (Abs.masks all) f.1 r=false→Stands s3 p f∧f.2 w2:=fun p hp f hs hn=>by
           have hn':Abs.ahead (Abs.masks all) p.i r=false:=by rw[hs.1];exact hn
           have:=stands_next (s:={s with T:=T1}) H3 hm' (hs.like rfl) hb1 hb2 (fun _ a' o' vs' hpo e=>hold p hp hpo a' o' vs' e) (k2 p hp hn')
           exact⟨this.1,this.2.1⟩
          refine⟨fun f hf _ hn=>?_,fun f hf=>?_,fun p hp hpo a' o' vs' e=>?_,k1⟩
          ·rcases hst f hf with h1|⟨p,h1,h2⟩
           ·exact h1 w2
           ·exact(step p h1 f h2 hn).2
          ·unfold alive at hf
           rw[List.mem_filter] at hf
           have hn:Abs.ahead (Abs.masks all) f.1 r=false:=by simpa using hf.2
           rcases hst f hf.1 with h1|⟨p,h1,h2⟩
           ·exact .inl h1
           ·exact .inr ⟨p,List.mem_filter.2 ⟨h1,by rw[h2.1,hn];rfl⟩,(step p h1 f h2 hn).1⟩
          ·rw[List.mem_filter] at hp
           have hn:Abs.ahead (Abs.masks all) p.i r=false:=by simpa using hp.2
           have hs:=k2 p hp.1 hn
           rw[hpo,e] at hs
           simp only[] at hs
           cases hbig:isBig P all.toList o {s with T:=T1} with
           |true=>exact hs.1 hbig
           |false=>rw[hb2 hbig];exact hold p hp.1 hpo a' o' vs' e
         obtain⟨q1,q2,q3,q4⟩:=hall
         refine⟨q1,ih _ _ _ (s3.put o.dst v) _ w2 K (hcl.next hm) (q2.like (put_L _ _ _)) (fun p hp hpo a' o' vs' e=>by rw[put_wb];exact q3 p hp hpo a' o' vs' e) (H3.put (fun d hd'=>hdst r o ho d hd') hv) q4 ?_⟩
         intro s' a' w' k1 k2 ⟨ch',k3⟩ k4
         exact hR s' a' w' k1 k2 ⟨_,((Moves.ofEq hl.LMZ []).trans hm').trans ((Moves.ofEq (s':=s3.put o.dst v) (put_LMZ _ _ _) []).trans k3)⟩ ((Same.put a (fun t ht=>⟨o,hin r o ho,ht⟩) _).trans k4)
        have hdone':wpOp P all (NQ R) r (fun a' w'=>(∀f∈Fs,f.2 w→Abs.ahead (Abs.masks all) f.1 r=false→f.2 w')∧wpAnyP P all (NQ R) (alive all r Fs) n (listed.setIfInBounds r true) a' w') a w→∀i∈Region.ready .any all listed,i∉rs→wpOp P all (NQ R) i (fun a' w'=>(∀f∈Fs,f.2 w→Abs.ahead (Abs.masks all) f.1 i=false→f.2 w')∧wpAnyP P all (NQ R) (alive all i Fs) n (listed.setIfInBounds i true) a' w') a w:=by
         intro hr' i hi hni
         by_cases e:i=r
         ·subst e;exact hr'
         ·exact hdone i hi (by simp[e,hni])
        cases rs with
        |nil=>exact⟨fun e=>absurd e hne,fun i hi=>hdone' (hop h) i hi (by simp)⟩
        |cons x xs=>exact ihr s2 hl H2 (fun i hi=>hmem i (List.mem_cons_of_mem _ hi)) (hdone' (hop h.1)) h.2
      ·exact h.elim
    exact key (r::rs) s ⟨s.T,rfl⟩ H (fun i hi=>by rw[hr];exact hi) (fun i hi hni=>by rw[hr] at hi;exact absurd hi hni) h
theorem wideR_room (r:Option Nat) (n:Nat):(wideR r).room n:=fun _ h=>by cases h
theorem callsIn_of {r:Option Nat} {n:Nat} {f:FuncId} {args:Array Value} {w:World} {R:Ending→World→Prop} (h:Calls P f args w R):CallsIn (wideR r) n P f args w R:=
 (callsIn_wide.2 h:CallsIn Fence.wide n P f args w R)
theorem rowsIn_of {r:Option Nat} {n:Nat} {row:String} {args:Array Value} {w:World} {R:Value→World→Prop} (h:Rows P row args w R):RowsIn (wideR r) n P row args w R:=
 fun c cs _=>let⟨v,w',h1,h2⟩:=h c cs;⟨v,w',h1,stepsIn_wide.2 h2⟩
theorem upon_in {rd:Option Nat} {n:Nat} {o:Oper} {a:Act} {K:Act→World→Prop} {Q:Exit→Act→World→Prop} {r:Result Go.Next} (h:o.upon P a K Q r):o.uponIn (wideR rd) n P a K Q r:=by
 cases r with
 |ok x w'=>
  cases x with
  |value v=>exact h
  |skip=>exact h
  |defer d=>exact h
  |enter f args=>exact⟨fun e=>(by cases e),callsIn_of h⟩
  |row row args=>exact⟨fun e=>(by cases e),rowsIn_of h⟩
  |_=>exact h.elim
 |halt x w'=>
  cases x with
  |panic v=>exact h
  |_=>exact h.elim
theorem wp_in {rd:Option Nat} {n:Nat} {o:Oper} {a:Act} {w:World} {K:Act→World→Prop} {Q:Exit→Act→World→Prop} (hd:isDefer o.op=false) (h:o.wp P a w K Q):o.wpIn (wideR rd) n P a w K Q:=
 ⟨fun _ _=>trivial,by rw[Oper.semAt_eq _ _ _ (fun c e=>by rw[e] at hd;cases hd)];exact upon_in h⟩
theorem wpList_in {rd:Option Nat} {n:Nat} {R:Act→World→Prop}:∀(l:List Oper) (a:Act) (w:World),(∀o∈l,isDefer o.op=false)→wpList P all (NQ R) l a w→wpListIn (wideR rd) n P all (NQ R) l a w
 |[],_,_,_,h=>h
 |o::rest,a,w,hl,h=>by
  unfold wpList at h
  unfold wpListIn
  by_cases hw:Region.wanted o (yielded all a.tmps)=true
  ·rw[if_pos hw] at h⊢
   have h':o.wp P a w (wpList P all (NQ R) rest) (NQ R):=by
    rcases h with h|h
    ·exact h
    ·obtain⟨_,_,_,e⟩:=h
     exact e.elim
   exact wp_in (hl o List.mem_cons_self) (Oper.wp_mono (fun a w k=>wpList_in rest a w (fun o' ho=>hl o' (List.mem_cons_of_mem _ ho)) k) h')
  ·rw[if_neg hw] at h⊢
   exact⟨fun _ _=>trivial,wpList_in rest _ w (fun o' ho=>hl o' (List.mem_cons_of_mem _ ho)) h⟩
theorem wpAny_in {rd:Option Nat} {n:Nat} {R:Act→World→Prop} (hl:∀o∈all.toList,isDefer o.op=false):∀(fuel:Nat) (listed:Array Bool) (a:Act) (w:World),wpAny P .any all (NQ R) fuel listed a w→wpAnyIn (wideR rd) n P .any all (NQ R) fuel listed a w
 |0,_,_,_,h=>h
 |fuel+1,listed,a,w,h=>⟨h.1,fun i hi=>by
  have h1:=h.2 i hi
  unfold wpOp at h1
  unfold wpOpIn
  cases ho:all[i]? with
  |none=>
   rw[ho] at h1
   exact wpAny_in hl fuel _ a w h1
  |some o=>
   rw[ho] at h1
   simp only[] at h1⊢
   have hmem:o∈all.toList:=by
    have:all.toList[i]? =some o:=by rw[Array.getElem?_toList];exact ho
    exact List.mem_of_getElem? this
   by_cases hw:Region.wanted o (yielded all a.tmps)=true
   ·rw[if_pos hw] at h1⊢
    have h':o.wp P a w (wpAny P .any all (NQ R) fuel (listed.setIfInBounds i true)) (NQ R):=by
     rcases h1 with h1|h1
     ·exact h1
     ·obtain⟨_,_,_,e⟩:=h1
      exact e.elim
    exact wp_in (hl o hmem) (Oper.wp_mono (fun a w k=>wpAny_in hl fuel _ a w k) h')
   ·rw[if_neg hw] at h1⊢
    exact⟨fun _ _=>trivial,wpAny_in hl fuel _ _ w h1⟩⟩
theorem region_sound (hm:P.follows .mixedOrders=true) {rd:Option Nat} {nn:Nat} {id:Nat} {l:Array Oper} {d:Bool} (hd:∀o∈l.toList,∀t,o.dst=some t→t<N) {s:St} {a:Act} {w:World} {K:St→Prop} {R:Act→World→Prop} (H:Ok w0 F Z N s a w) (h:regionAt P w0 F l d s K)
  (hR:∀s' a' w',K s'→Ok w0 F Z N s' a' w'→(∃ch,Moves s s' ch)→Same (Dst l.toList) a a'→R a' w'):(Code.region id l d).wpIn (wideR rd) nn P (NQ R) a w:=by
 unfold regionAt at h
 split at h
 ·exact h.elim
 rename_i hdf
 have hdf':∀o∈l.toList,isDefer o.op=false:=fun o ho=>by
  rw[List.any_eq_false] at hdf
  simpa using hdf o ho
 cases d with
 |false=>exact wpIn_region_list (wpList_in _ _ _ hdf' (ops_sound l.toList s a w K hd H h hR))
 |true=>
  simp only[] at h
  split at h
  ·rename_i hsel
   refine wpIn_region_any hm (wpAny_in hdf' _ _ _ _ (wpAny_of_P _ [] _ _ _ (draw_sound hsel hd l.size _ [] [] s a _ K ?_ (fun f hf=>by cases hf) (fun p hp=>by cases hp) (H.drawn rfl rfl rfl rfl) h hR)))
   intro j o _ hl
   have:(Array.replicate l.size false).getD j false=false:=by
    simp[Array.getD_eq_getD_getElem?,Array.getElem?_replicate]
    split<;>rfl
   rw[this] at hl
   cases hl
  ·exact h.elim
end Go.Sy
namespace Go.Sy
open Go.RowKit (Below)
variable [Codecs]
variable {P:Program} {w0:World} {F:Nat→Prop} {Z:List (Nat×Obj)} {N:Nat}
def ExQ (R:Ex→Act→World→Prop):Exit→Act→World→Prop
 | .normal,a,w=>R .normal a w
 | .exit i,a,w=>R (.exit i) a w
 | .ret,a,w=>R .ret a w
 |_,_,_=>False
theorem NQ.exq {R:Ex→Act→World→Prop} {e:Exit} {a:Act} {w:World} (h:NQ (R .normal) e a w):ExQ R e a w:=by cases e<;>first|exact h|exact h.elim
def Written (ds:List (Nat×TypeId)) (t:Nat):Prop:=∃ty,(t,ty)∈ds
theorem kill_at:∀(ds:List (Nat×TypeId)) (T:Env) (t:Nat) (v:SV),(kill ds T).at t=some v→T.at t=some v∧¬Written ds t
 |[],T,t,v,h=>⟨h,fun⟨_,hm⟩=>by cases hm⟩
 |(d,ty)::ds,T,t,v,h=>by
  obtain⟨h1,h2⟩:=kill_at ds _ t v h
  rw[at_set] at h1
  split at h1
  ·cases h1
  ·rename_i hne
   exact⟨h1,fun⟨ty',hm⟩=>by
    rcases List.mem_cons.1 hm with e|hm
    ·cases e;exact hne rfl
    ·exact h2 ⟨ty',hm⟩⟩
theorem dsts_mem:∀{os:List Oper} {acc:List (Nat×TypeId)} {x:Nat×TypeId},x∈dsts os acc↔(∃o∈os,o.dst=some x.1∧o.type=x.2)∨x∈acc
 |[],acc,x=>by simp[dsts]
 |o::os,acc,x=>by
  unfold dsts
  split
  ·rename_i d hd
   rw[List.mem_cons,dsts_mem (os:=os)]
   constructor
   ·rintro(rfl|⟨o',h1,h2⟩|h)
    ·exact .inl ⟨o,by simp,hd,rfl⟩
    ·exact .inl ⟨o',by simp[h1],h2⟩
    ·exact .inr h
   ·rintro(⟨o',h1,h2,h3⟩|h)
    ·rcases List.mem_cons.1 h1 with rfl|h1
     ·left
      rw[hd] at h2
      cases x
      simp only[Option.some.injEq] at h2 h3
      rw[h2,h3]
     ·exact .inr (.inl ⟨o',h1,h2,h3⟩)
    ·exact .inr (.inr h)
  ·rename_i hd
   rw[dsts_mem (os:=os)]
   constructor
   ·rintro(⟨o',h1,h2⟩|h)
    ·exact .inl ⟨o',by simp[h1],h2⟩
    ·exact .inr h
   ·rintro(⟨o',h1,h2,h3⟩|h)
    ·rcases List.mem_cons.1 h1 with rfl|h1
     ·rw[hd] at h2;cases h2
     ·exact .inl ⟨o',h1,h2,h3⟩
    ·exact .inr h
theorem written_acc:∀(c:Code) (acc:List (Nat×TypeId)) (x:Nat×TypeId),x∈written c acc↔x∈written c []∨x∈acc:=by
 intro c
 induction c with
 |region id l d=>
  intro acc x
  simp only[written]
  rw[dsts_mem,dsts_mem]
  simp
 |seq a b iha ihb=>
  intro acc x
  simp only[written]
  rw[iha (written b acc),iha (written b []),ihb acc]
  simp[or_assoc]
 |cond c a b iha ihb=>
  intro acc x
  simp only[written]
  rw[iha (written b acc),iha (written b []),ihb acc]
  simp[or_assoc]
 |block id b ih=>intro acc x;simp only[written];exact ih acc x
 |loop b ih=>intro acc x;simp only[written];exact ih acc x
 |scope b ih=>intro acc x;simp only[written];exact ih acc x
 |_=>intro acc x;simp[written]
theorem written_left {a b:Code} {t:Nat} (h:Written (written a []) t):Written (written a (written b [])) t:=by
 obtain⟨ty,h⟩:=h
 exact⟨ty,(written_acc a _ _).2 (.inl h)⟩
theorem written_right {a b:Code} {t:Nat} (h:Written (written b []) t):Written (written a (written b [])) t:=by
 obtain⟨ty,h⟩:=h
 exact⟨ty,(written_acc a _ _).2 (.inr h)⟩
theorem written_region {id:Nat} {l:Array Oper} {d:Bool} {t:Nat} (h:Dst l.toList t):Written (written (.region id l d) []) t:=by
 obtain⟨o,h1,h2⟩:=h
 exact⟨o.type,dsts_mem.2 (.inl ⟨o,h1,h2,rfl⟩)⟩
theorem app_all {β:List Nat}:∀{sh:List Sh} {I:PredT sh} {μ:MeasT sh} {zs:List SV} {K1:(World→Prop)→Nat→Prop} {K2:List SV→(World→Prop)→Nat→Prop},(∀v∈zs,∀n,v= .val n→n.oneCell'=true)→app sh I μ zs K1→allV sh I μ K2→
  ∃ys J m,K1 J m∧K2 ys J m∧reals β ys=reals β zs∧okvs 0 ys∧ys.all SV.scalar=true:=by
 intro sh
 induction sh with
 |nil=>
  intro I μ zs K1 K2 hv h1 h2
  cases zs with
  |nil=>exact⟨[],I,μ,h1,h2,rfl,trivial,rfl⟩
  |cons z zs=>exact h1.elim
 |cons x sh ih=>
  intro I μ zs K1 K2 hv h1 h2
  cases zs with
  |nil=>cases x<;>exact h1.elim
  |cons z zs=>
   have hv':∀v∈zs,∀n,v= .val n→n.oneCell'=true:=fun v hm=>hv v (List.mem_cons_of_mem _ hm)
   cases x with
   |int k=>
    cases z with
    |int k' n=>
     simp only[app] at h1
     split at h1
     ·rename_i hk
      obtain⟨ys,J,m,q1,q2,q3,q4,q5⟩:=ih hv' h1 (h2 n)
      exact⟨.int k n::ys,J,m,q1,q2,by simp only[reals,q3,real,kindEq_sound hk],⟨trivial,q4⟩,by simp[SV.scalar,q5]⟩
     ·exact h1.elim
    |_=>exact h1.elim
   |bool=>
    cases z with
    |lit b=>
     obtain⟨ys,J,m,q1,q2,q3,q4,q5⟩:=ih hv' h1 (h2 b)
     exact⟨.bool (.ok b)::ys,J,m,q1,q2,by simp only[reals,q3,real,BE.toB],⟨trivial,q4⟩,by simp[SV.scalar,q5]⟩
    |bool e=>
     have other:(e.is true→app sh (I true) (μ true) zs K1)∧(e.is false→app sh (I false) (μ false) zs K1)→∃ys J m,K1 J m∧K2 ys J m∧reals β ys=reals β (.bool e::zs)∧okvs 0 ys∧ys.all SV.scalar=true:=fun h=>by
      refine BE.split h (fun ht hk=>?_) (fun ht hk=>?_)
      ·obtain⟨ys,J,m,q1,q2,q3,q4,q5⟩:=ih hv' hk (h2 true)
       exact⟨.bool (.ok true)::ys,J,m,q1,q2,by simp only[reals,q3,real,ht];rfl,⟨trivial,q4⟩,by simp[SV.scalar,q5]⟩
      ·obtain⟨ys,J,m,q1,q2,q3,q4,q5⟩:=ih hv' hk (h2 false)
       exact⟨.bool (.ok false)::ys,J,m,q1,q2,by simp only[reals,q3,real,ht];rfl,⟨trivial,q4⟩,by simp[SV.scalar,q5]⟩
     cases e with
     |ok b=>
      obtain⟨ys,J,m,q1,q2,q3,q4,q5⟩:=ih hv' h1 (h2 b)
      exact⟨.bool (.ok b)::ys,J,m,q1,q2,by simp only[reals,q3],⟨trivial,q4⟩,by simp[SV.scalar,q5]⟩
     |_=>exact other h1
    |_=>exact h1.elim
   |str=>
    cases z with
    |str l=>
     obtain⟨ys,J,m,q1,q2,q3,q4,q5⟩:=ih hv' h1 (h2 l)
     exact⟨.str l::ys,J,m,q1,q2,by simp only[reals,q3],⟨trivial,q4⟩,by simp[SV.scalar,q5]⟩
    |_=>exact h1.elim
   |ptr=>
    cases z with
    |ptr p=>
     obtain⟨ys,J,m,q1,q2,q3,q4,q5⟩:=ih hv' h1 (h2 p)
     exact⟨.ptr p::ys,J,m,q1,q2,by simp only[reals,q3],⟨trivial,q4⟩,by simp[SV.scalar,q5]⟩
    |adr a o=>
     obtain⟨ys,J,m,q1,q2,q3,q4,q5⟩:=ih hv' h1 (h2 (some (a.add o)))
     exact⟨.ptr (some (a.add o))::ys,J,m,q1,q2,by simp only[reals,q3,real,adrVal_eq],⟨trivial,q4⟩,by simp[SV.scalar,q5]⟩
    |_=>exact h1.elim
   |sl=>
    cases z with
    |sl p n c=>
     obtain⟨ys,J,m,q1,q2,q3,q4,q5⟩:=ih hv' h1 (h2 p n c)
     exact⟨.sl p n c::ys,J,m,q1,q2,by simp only[reals,q3],⟨trivial,q4⟩,by simp[SV.scalar,q5]⟩
    |_=>exact h1.elim
   |val=>
    cases z with
    |val v=>
     have hone:=hv _ (List.mem_cons_self ..) v rfl
     obtain⟨ys,J,m,q1,q2,q3,q4,q5⟩:=ih hv' h1 (h2 v hone)
     exact⟨.val v::ys,J,m,q1,q2,by simp only[reals,q3],⟨hone,q4⟩,by simp[SV.scalar,q5]⟩
    |_=>exact h1.elim
end Go.Sy
namespace Go.Sy
open Go.RowKit (Below)
variable [Codecs]
variable {P:Program} {w0:World} {F:Nat→Prop} {Z:List (Nat×Obj)} {N:Nat}
theorem real_any {β β':List Nat} {v:SV} (h:okv 0 v):real β v=real β' v:=real_alike (n:=0) (fun k hk=>absurd hk (Nat.not_lt_zero _)) v h
theorem reals_any {β β':List Nat} {l:List SV} (h:okvs 0 l):reals β l=reals β' l:=reals_alike (n:=0) (fun k hk=>absurd hk (Nat.not_lt_zero _)) l h
theorem reals_cons_inj {β:List Nat} {x y:SV} {xs ys:List SV} (h:reals β (x::xs)=reals β (y::ys)):real β x=real β y∧reals β xs=reals β ys:=by
 simp only[reals,List.cons.injEq] at h;exact h
theorem setSlots_ok {n n':Nat} {β β':List Nat} {T':Env} {tmps:Array Value} (hT':EnvOk n' β' T' tmps):∀{ts:List Nat} {T:Env} {xs rest ys:List SV},EnvOk n β T tmps→slotVals T' ts=some xs→
  reals β' ys=reals β' (xs++rest)→okvs 0 ys→EnvOk n β (setSlots ts ys T).1 tmps∧∃zs,(setSlots ts ys T).2=zs∧reals β' zs=reals β' rest∧okvs 0 zs∧(ys.all SV.scalar=true→zs.all SV.scalar=true)
 |[],T,xs,rest,ys,hT,hx,hr,h0=>by
  cases hx
  exact⟨hT,ys,rfl,hr,h0,id⟩
 |t::ts,T,xs,rest,ys,hT,hx,hr,h0=>by
  simp only[slotVals,Option.bind_eq_some_iff,Option.map_eq_some_iff] at hx
  obtain⟨v,hv,us,hu,rfl⟩:=hx
  cases ys with
  |nil=>simp[reals] at hr
  |cons y ys=>
   obtain⟨h1,h2⟩:=reals_cons_inj hr
   have hy:tmps.getD t undef=real β y:=by rw[(hT' t v hv).2,←h1];exact real_any h0.1
   have hset:EnvOk n β (T.set t (some y)) tmps:=by
    intro u x hux
    rw[at_set] at hux
    split at hux
    ·rename_i e
     cases hux
     exact⟨okv_mono (Nat.zero_le _) _ h0.1,by rw[e];exact hy⟩
    ·exact hT u x hux
   obtain⟨q1,zs,q2,q3,q4,q5⟩:=setSlots_ok hT' (ts:=ts) hset hu h2 h0.2
   exact⟨q1,zs,q2,q3,q4,fun hs=>q5 (by simp only[List.all_cons,Bool.and_eq_true] at hs;exact hs.2)⟩
theorem setLocs_ok {L1:List Loc} {β':List Nat}:∀{ks:List Nat} {L:List Loc} {vs cs:List SV},(∀(k:Nat) (l:Loc),L[k]? =some l→∃l',L1[k]? =some l'∧l'.cells.length=l.cells.length)→(∀k∈ks,k<L.length)→
  locVals L1 ks=some cs→reals β' vs=reals β' cs→okvs 0 vs→vs.all SV.scalar=true→
  (setLocs ks vs L).length=L.length∧∀(k:Nat) (x:Loc),(setLocs ks vs L)[k]? =some x→∃l,L[k]? =some l∧x.blk=l.blk∧x.ty=l.ty∧(k∉ks→x=l)∧l.ver≤x.ver∧(x.ver=l.ver→x=l)∧x.cells.length=l.cells.length∧
   (k∈ks→okvs 0 x.cells∧x.cells.all SV.scalar=true∧∃l',L1[k]? =some l'∧reals β' x.cells=reals β' l'.cells)
 |[],L,vs,cs,_,_,_,_,_,_=>⟨rfl,fun k x hx=>⟨x,hx,rfl,rfl,fun _=>rfl,Nat.le_refl _,fun _=>rfl,rfl,fun h=>by cases h⟩⟩
 |k0::ks,L,vs,cs,hL,hlt,hc,hr,h0,hs=>by
  have hk0:=hlt k0 (by simp)
  have hl0:L[k0]? =some L[k0]:=List.getElem?_eq_getElem hk0
  generalize L[k0]=l0 at hl0
  obtain⟨m,hm,hlen⟩:=hL k0 l0 hl0
  simp only[locVals,hm,Option.bind_some,Option.map_eq_some_iff] at hc
  obtain⟨rest,hrest,rfl⟩:=hc
  have hvl:vs.length=m.cells.length+rest.length:=by
   have:=congrArg List.length hr
   simpa[reals_length] using this
  have htake:reals β' (vs.take l0.cells.length)=reals β' m.cells:=by
   have:=congrArg (List.take l0.cells.length) hr
   simp only[reals_eq,List.map_append,←List.map_take] at this⊢
   rw[this,←hlen]
   simp
  have hdrop:reals β' (vs.drop l0.cells.length)=reals β' rest:=by
   have:=congrArg (List.drop l0.cells.length) hr
   simp only[reals_eq,List.map_append,←List.map_drop] at this⊢
   rw[this,←hlen]
   simp
  have htl:(vs.take l0.cells.length).length=l0.cells.length:=by simp<;>omega
  have hok1:okvs 0 (vs.take l0.cells.length):=okvs_iff.2 fun u hu=>okvs_iff.1 h0 u (List.mem_of_mem_take hu)
  have hok2:okvs 0 (vs.drop l0.cells.length):=okvs_iff.2 fun u hu=>okvs_iff.1 h0 u (List.mem_of_mem_drop hu)
  have hs1:(vs.take l0.cells.length).all SV.scalar=true:=List.all_eq_true.2 fun u hu=>List.all_eq_true.1 hs u (List.mem_of_mem_take hu)
  have hs2:(vs.drop l0.cells.length).all SV.scalar=true:=List.all_eq_true.2 fun u hu=>List.all_eq_true.1 hs u (List.mem_of_mem_drop hu)
  have hget:=splice_get (x:={l0 with cells:=vs.take l0.cells.length,ver:=l0.ver+1}) hl0
  have hL':∀(k:Nat) (l:Loc),(L.take k0++{l0 with cells:=vs.take l0.cells.length,ver:=l0.ver+1}::L.drop (k0+1))[k]? =some l→∃l',L1[k]? =some l'∧l'.cells.length=l.cells.length:=fun k l hl=>by
   rw[hget] at hl
   split at hl
   ·rename_i e
    cases hl
    exact⟨m,by rw[e];exact hm,by simp only[htl];exact hlen⟩
   ·exact hL k l hl
  have hlen2:(L.take k0++{l0 with cells:=vs.take l0.cells.length,ver:=l0.ver+1}::L.drop (k0+1)).length=L.length:=by simp<;>omega
  obtain⟨q1,q2⟩:=setLocs_ok (ks:=ks) hL' (fun k hk=>by rw[hlen2];exact hlt k (by simp[hk])) hrest hdrop hok2 hs2
  have e:setLocs (k0::ks) vs L=setLocs ks (vs.drop l0.cells.length) (L.take k0++{l0 with cells:=vs.take l0.cells.length,ver:=l0.ver+1}::L.drop (k0+1)):=by
   simp only[setLocs,hl0]
  rw[e]
  refine⟨by rw[q1,hlen2],fun k x hx=>?_⟩
  obtain⟨l,p1,p2,p3,p4,p5,p6,p7,p8⟩:=q2 k x hx
  rw[hget] at p1
  split at p1
  ·rename_i ek
   cases p1
   simp only at p2 p3 p5 p6 p7
   refine⟨l0,by rw[ek];exact hl0,p2,p3,fun hn=>absurd (by rw[ek];simp) hn,by omega,fun ev=>by omega,by rw[p7,htl],fun _=>?_⟩
   by_cases hk:k∈ks
   ·exact p8 hk
   ·rw[p4 hk]
    exact⟨hok1,hs1,m,by rw[ek];exact hm,htake⟩
  ·rename_i ek
   refine⟨l,p1,p2,p3,fun hn=>p4 fun hk=>hn (by simp[hk]),p5,p6,p7,fun hk=>p8 ?_⟩
   rcases List.mem_cons.1 hk with e|hk
   ·exact absurd e ek
   ·exact hk
theorem Ok.keeps {s:St} {a:Act} {w:World} (H:Ok w0 F Z N s a w):Keeps F w0 w:=by
 refine⟨H.grow.os.trans H.frame.os,H.grow.tape.trans H.frame.tape,H.grow.output.trans H.frame.output,Nat.le_trans H.frame.size H.grow.size,fun i h1 h2=>?_⟩
 rw[H.grow.heap i (Nat.lt_of_lt_of_le h1 H.frame.size) ?_,H.frame.heap i h1 h2]
 intro hm
 obtain⟨k,l,hl,rfl⟩:=blks_mem (H.dirty i hm)
 exact absurd (H.lies k l hl).2 (by omega)
abbrev Old (s s':St) (ch:List Nat):Prop:=∀(k:Nat) (l:Loc),s.L[k]? =some l→∃l',s'.L[k]? =some l'∧l'.blk=l.blk∧l.ver≤l'.ver∧(l'.ver=l.ver→l'.cells=l.cells)∧(k∉ch→l'=l)∧l'.ty=l.ty∧l'.cells.length=l.cells.length
theorem Old.trans {s s1 s2:St} {c1 c2:List Nat} (h:Old s s1 c1) (k:Old s1 s2 c2):Old s s2 (c1++c2):=fun j l hl=>by
 obtain⟨l1,a1,a2,a3,a4,a5,a6,a7⟩:=h j l hl
 obtain⟨l2,b1,b2,b3,b4,b5,b6,b7⟩:=k j l1 a1
 exact⟨l2,b1,b2.trans a2,Nat.le_trans a3 b3,fun e=>by rw[b4 (by omega),a4 (by omega)],fun hn=>by
  rw[b5 fun hm=>hn (List.mem_append_right _ hm),a5 fun hm=>hn (List.mem_append_left _ hm)],b6.trans a6,b7.trans a7⟩
theorem head_gen {Z' Z2:List (Nat×Obj)} {N' N2:Nat} {c:Cut} {s s':St} {a a' a2:Act} {w w':World} {ch:List Nat} (H:Ok w0 F Z N s a w) (H':Ok w0 F Z' N' s' a' w') (hm:Old s s' ch) (hlc:locsOk c s=true)
  (hver:∀(k:Nat) (l l':Loc),k∉c.locs→s.L[k]? =some l→s'.L[k]? =some l'→l'.cells=l.cells) {rest cs:List SV} (hc:locVals s'.L c.locs=some cs) (hr:reals (blks s'.L) rest=reals (blks s'.L) cs) (h0':okvs 0 rest) (hsc':rest.all SV.scalar=true)
  (sN:St) (hLd:sN.L=setLocs c.locs rest s.L) (enb:sN.nb=s.L.length) (eD:sN.D=[]) (ewb:sN.wb=w') (hT:EnvOk s.L.length (blks s.L) sN.T a2.tmps) (hsz:a2.tmps.size=N2) (hd:Hd w0 Z2 sN a2.defers w'):
  Ok w0 F Z2 N2 sN a2 w'∧Old s sN c.locs:=by
 have hlt:∀k∈c.locs,k<s.L.length:=fun k hk=>by
  have:=List.all_eq_true.1 hlc k hk
  rwa[Nat.blt_eq] at this
 obtain⟨hlen,hL⟩:=setLocs_ok (L1:=s'.L) (β':=blks s'.L) (ks:=c.locs) (L:=s.L) (fun k l hl=>by
  obtain⟨l',q1,_,_,_,_,_,q7⟩:=hm k l hl
  exact⟨l',q1,q7⟩) hlt hc hr h0' hsc'
 have hal:Alike s.L.length (blks s.L) (blks s'.L):=alike_of fun k l hl=>by
  obtain⟨l',h1,h2,_⟩:=hm k l hl
  exact⟨l',h1,h2⟩
 have hblk:blks sN.L=blks s.L:=by
  rw[hLd,blks_map,blks_map]
  apply List.ext_getElem?
  intro k
  rw[List.getElem?_map,List.getElem?_map]
  rcases Nat.lt_or_ge k s.L.length with h|h
  ·have hk:k<(setLocs c.locs rest s.L).length:=by rw[hlen];exact h
   obtain⟨l,p1,p2,_⟩:=hL k _ (List.getElem?_eq_getElem hk)
   rw[List.getElem?_eq_getElem hk,p1]
   simp only[Option.map_some,p2]
  ·rw[List.getElem?_eq_none (by rw[hlen];exact h),List.getElem?_eq_none h]
 have hcell:∀(k:Nat) (x:Loc),sN.L[k]? =some x→∃l l',s.L[k]? =some l∧s'.L[k]? =some l'∧x.blk=l.blk∧l'.blk=l.blk∧x.ty=l'.ty∧okvs s.L.length x.cells∧x.cells.all SV.scalar=true∧reals (blks s.L) x.cells=reals (blks s'.L) l'.cells:=by
  intro k x hx
  rw[hLd] at hx
  obtain⟨l,p1,p2,p3,p4,_,_,_,p8⟩:=hL k x hx
  obtain⟨l',q1,q2,q3,q4,q5,q6,q7⟩:=hm k l p1
  by_cases hk:k∈c.locs
  ·obtain⟨r1,r2,l2,r3,r4⟩:=p8 hk
   obtain rfl:l2=l':=by rw[q1] at r3;exact(Option.some.inj r3).symm
   exact⟨l,l2,p1,q1,p2,q2,by rw[p3,q6],okvs_mono (Nat.zero_le _) _ r1,r2,by rw[←r4];exact reals_any r1⟩
  ·obtain rfl:=p4 hk
   obtain⟨o1,o2⟩:=H.cells k x p1
   refine⟨x,l',p1,q1,rfl,q2,q6.symm,o1,o2,?_⟩
   rw[hver k x l' hk p1 q1]
   exact(reals_alike hal _ o1).symm
 refine⟨⟨?_,hsz,hd,fun k x hx=>?_,fun k x hx=>?_,fun j k x y hx hy e=>?_,?_,fun k x hk hx=>?_,by rw[eD,ewb];exact Ext.refl _ _,by rw[ewb];exact H'.keeps,fun b hb=>by rw[eD] at hb;cases hb⟩,fun k l hl=>?_⟩
 ·rw[hblk,hLd,hlen]
  exact hT
 ·obtain⟨l,l',_,_,_,_,_,h1,h2,_⟩:=hcell k x hx
  exact⟨by rw[hLd,hlen];exact h1,h2⟩
 ·obtain⟨l,l',h1,h2,h3,h4,h5,_,_,h6⟩:=hcell k x hx
  obtain⟨k1,k2⟩:=H'.lies k l' h2
  refine⟨?_,by rw[h3,←h4];exact k2⟩
  rw[hblk,h6,h3,←h4,h5]
  exact k1
 ·obtain⟨l,_,h1,_,h3,_⟩:=hcell j x hx
  obtain⟨m,_,k1,_,k3,_⟩:=hcell k y hy
  exact H.apart j k l m h1 k1 (by rw[←h3,←k3,e])
 ·rw[enb,hLd,hlen]
  exact Nat.le_refl _
 ·rw[enb] at hk
  have h2:k<sN.L.length:=(List.getElem?_eq_some_iff.1 hx).1
  rw[hLd,hlen] at h2
  omega
 ·have hk:k<(setLocs c.locs rest s.L).length:=by rw[hlen];exact(List.getElem?_eq_some_iff.1 hl).1
  obtain⟨l0,p1,p2,p3,p4,p5,p6,p7,_⟩:=hL k _ (List.getElem?_eq_getElem hk)
  obtain rfl:l=l0:=by rw[hl] at p1;exact Option.some.inj p1
  exact⟨_,by rw[hLd];exact List.getElem?_eq_getElem hk,p2,p5,fun e=>by rw[p6 e],p4,p3,p7⟩
theorem Moves.sameM {s s':St} {ch:List Nat} (hm:Moves s s' ch) (h:Nat.beq s'.M.length s.M.length=true):s'.M=s.M:=by
 obtain⟨l,e⟩:=hm.more
 have:=Nat.eq_of_beq_eq_true h
 rw[e,List.length_append] at this
 rw[e,List.eq_nil_of_length_eq_zero (by omega:l.length=0)]
 rfl
theorem head_ok {c:Cut} {wr:List (Nat×TypeId)} {s s':St} {a a':Act} {w w':World} (H:Ok w0 F Z N s a w) (H':Ok w0 F Z N s' a' w') (hm:∃ch,Moves s s' ch) (hs:Same (Written wr) a a') (hlc:locsOk c s=true) (hM:Nat.beq s'.M.length s.M.length=true)
  (hver:∀(k:Nat) (l l':Loc),k∉c.locs→s.L[k]? =some l→s'.L[k]? =some l'→l'.cells=l.cells) {zs ys:List SV} (hz:valsOf c s'=some zs) (hy:reals (blks s'.L) ys=reals (blks s'.L) zs) (h0:okvs 0 ys) (hsc:ys.all SV.scalar=true):
  Ok w0 F Z N (headOf c wr s ys w') a' w'∧Moves s (headOf c wr s ys w') c.locs:=by
 obtain⟨ch,hm⟩:=hm
 simp only[valsOf,Option.bind_eq_some_iff,Option.map_eq_some_iff] at hz
 obtain⟨xs,hx,cs,hc,rfl⟩:=hz
 have hkill:EnvOk s.L.length (blks s.L) (kill wr s.T) a'.tmps:=by
  intro t v hv
  obtain⟨h1,h2⟩:=kill_at wr s.T t v hv
  obtain⟨h3,h4⟩:=H.env t v h1
  exact⟨h3,by rw[hs t h2];exact h4⟩
 obtain⟨henv,rest,hrest,hr,h0',hsc'⟩:=setSlots_ok (n:=s.L.length) (β:=blks s.L) H'.env hkill hx hy h0
 obtain⟨p1,p2⟩:=head_gen H H' hm.old hlc hver hc hr h0' (hsc' hsc) (headOf c wr s ys w') (by show setLocs c.locs (setSlots c.slots ys (kill wr s.T)).2 s.L=_;rw[hrest]) rfl rfl rfl henv H'.size (H'.hd.same (fun _ _=>rfl) (hm.sameM hM).symm hm.recs.symm)
 exact⟨p1,p2,⟨[],rfl⟩,rfl⟩
theorem sameVers_get {ls:List Nat}:∀{L L':List Loc} {b k:Nat} {l l':Loc},sameVers ls b L L'=true→L[k]? =some l→L'[k]? =some l'→b+k∉ls→l.ver=l'.ver
 |[],_,_,k,_,_,_,h,_,_=>by simp at h
 |_::_,[],_,_,_,_,h,_,_,_=>by simp[sameVers] at h
 |x::L,y::L',b,k,l,l',h,h1,h2,hk=>by
  simp only[sameVers,Bool.and_eq_true,Bool.or_eq_true] at h
  cases k with
  |zero=>
   cases h1;cases h2
   rcases h.1 with h|h
   ·exact absurd (by simpa using h) hk
   ·exact Nat.eq_of_beq_eq_true h
  |succ k=>exact sameVers_get h.2 (by simpa using h1) (by simpa using h2) (by rw[show b+1+k=b+(k+1) by omega];exact hk)
end Go.Sy
namespace Go.Sy
open Go.RowKit (Below)
variable [Codecs]
variable {P:Program} {w0:World} {F:Nat→Prop} {Z:List (Nat×Obj)} {N:Nat}
theorem least_one {p:Nat→Prop}:∀n,p n→∃m,p m∧∀k,p k→m≤k:=by
 intro n
 induction n using Nat.strongRecOn with
 |_ n ih=>
  intro hn
  by_cases hs:∃k,k<n∧p k
  ·obtain⟨k,h1,h2⟩:=hs
   exact ih k h1 h2
  ·exact⟨n,hn,fun k hk=>Nat.le_of_not_lt fun hlt=>hs ⟨k,hlt,hk⟩⟩
theorem wp_loop_count {F:Fence} {nn:Nat} {c:Code} {Q:Exit→Act→World→Prop} (I:Nat→Act→World→Prop)
  (round:∀n a w,I n a w→c.wpIn F nn P (Exit.then (fun a' w'=>∃m,m<n∧I m a' w') Q) a w) (n:Nat) (a:Act) (w:World) (h0:I n a w):(Code.loop c).wpIn F nn P Q a w:=by
 classical
 have hex:∀a w,∃m,(∃n,I n a w)→I m a w∧∀k,I k a w→m≤k:=by
  intro a w
  by_cases hn:∃n,I n a w
  ·obtain⟨n,hn⟩:=hn
   obtain⟨m,h1,h2⟩:=least_one (p:=fun n=>I n a w) n hn
   exact⟨m,fun _=>⟨h1,h2⟩⟩
  ·exact⟨0,fun h=>absurd h hn⟩
 let μ:Act→World→Nat:=fun a w=>Classical.choose (hex a w)
 have hμ:∀a w n,I n a w→μ a w≤n∧I (μ a w) a w:=by
  intro a w n hn
  obtain⟨h1,h2⟩:=Classical.choose_spec (hex a w) ⟨n,hn⟩
  exact⟨h2 n hn,h1⟩
 refine wpIn_loop (fun a w=>∃n,I n a w) μ ⟨n,h0⟩ ?_
 rintro a w ⟨n,hn⟩
 obtain⟨_,h2⟩:=hμ a w n hn
 refine wpIn_mono (round _ a w h2) fun e a' w' hq=>?_
 cases e with
 |normal=>
  obtain⟨m,hm,hI⟩:=hq
  exact⟨⟨m,hI⟩,Nat.lt_of_le_of_lt (hμ a' w' m hI).1 hm⟩
 |_=>exact hq
theorem slotVals_ok {n:Nat} {β:List Nat} {T:Env} {tmps:Array Value} (h:EnvOk n β T tmps):∀{ts:List Nat} {xs:List SV},slotVals T ts=some xs→okvs n xs
 |[],xs,hx=>by cases hx;exact trivial
 |t::ts,xs,hx=>by
  simp only[slotVals,Option.bind_eq_some_iff,Option.map_eq_some_iff] at hx
  obtain⟨v,hv,us,hu,rfl⟩:=hx
  exact⟨(h t v hv).1,slotVals_ok h hu⟩
theorem locVals_ok {n:Nat} {L:List Loc} (h:∀(k:Nat) (l:Loc),L[k]? =some l→okvs n l.cells∧l.cells.all SV.scalar=true):∀{ks:List Nat} {xs:List SV},locVals L ks=some xs→okvs n xs
 |[],xs,hx=>by cases hx;exact trivial
 |k::ks,xs,hx=>by
  simp only[locVals,Option.bind_eq_some_iff,Option.map_eq_some_iff] at hx
  obtain⟨l,hl,us,hu,rfl⟩:=hx
  have h2:=locVals_ok h hu
  rw[okvs_iff] at*
  intro v hv
  rcases List.mem_append.1 hv with hv|hv
  ·exact okvs_iff.1 (h k l hl).1 v hv
  ·exact h2 v hv
theorem valsOf_ok {c:Cut} {s:St} {a:Act} {w:World} (H:Ok w0 F Z N s a w) {zs:List SV} (h:valsOf c s=some zs):∀v∈zs,∀n,v= .val n→n.oneCell'=true:=by
 simp only[valsOf,Option.bind_eq_some_iff,Option.map_eq_some_iff] at h
 obtain⟨xs,hx,cs,hc,rfl⟩:=h
 have h1:=slotVals_ok H.env hx
 have h2:=locVals_ok H.cells hc
 rintro v hv n rfl
 rcases List.mem_append.1 hv with hv|hv
 ·exact okvs_iff.1 h1 _ hv
 ·exact okvs_iff.1 h2 _ hv
theorem ExQ.seq {R:Ex→Act→World→Prop} {y:Act→World→Prop} {e:Exit} {a:Act} {w:World} (h:ExQ (fun e a w=>match e with| .normal=>y a w|e=>R e a w) e a w):Exit.then y (ExQ R) e a w:=by
 cases e<;>exact h
theorem forBlks_elim {lo:Nat}:∀{es:List (TypeId×List SV)} {K:List Nat→Prop} {bs:List Nat},forBlks lo es K→bs.length=es.length→(∀b∈bs,lo≤b)→K bs
 |[],K,bs,h,hl,_=>by
  cases bs with
  |nil=>exact h
  |cons b bs=>cases hl
 |_::es,K,bs,h,hl,hb=>by
  cases bs with
  |nil=>cases hl
  |cons b bs=>exact forBlks_elim (K:=fun bs=>K (b::bs)) (h b (hb b (by simp))) (by simpa using hl) fun x hx=>hb x (by simp[hx])
theorem newVals_ok {s':St} {a:Act} {w:World} {lo:Nat} (H:Ok w0 F Z N s' a w):∀{ns:List Nat} {es:List (TypeId×List SV)} {used:List Nat} {us:List SV},newVals lo s' ns es used=some us→∀v∈us,∀n,v= .val n→n.oneCell'=true
 |[],[],_,us,h=>by cases h;intro v hv;cases hv
 |[],_::_,_,_,h=>by cases h
 |_::_,[],_,_,h=>by cases h
 |t::ts,(e,z)::es,used,us,h=>by
  unfold newVals at h
  split at h
  ·split at h
   ·rename_i l hl _
    split at h
    ·simp only[Option.map_eq_some_iff] at h
     obtain⟨rest,hrest,rfl⟩:=h
     intro v hv n hn
     rcases List.mem_append.1 hv with q|q
     ·have:=okvs_iff.1 (H.cells _ l hl).1 v q
      subst hn
      exact this
     ·exact newVals_ok H hrest v q n hn
    ·cases h
   ·cases h
  ·cases h
theorem slotVals_len {T:Env}:∀{ts:List Nat} {xs:List SV},slotVals T ts=some xs→xs.length=ts.length
 |[],xs,h=>by cases h;rfl
 |t::ts,xs,h=>by
  simp only[slotVals,Option.bind_eq_some_iff,Option.map_eq_some_iff] at h
  obtain⟨v,_,ys,hy,rfl⟩:=h
  simp[slotVals_len hy]
theorem slotSh_len {wr:List (Nat×TypeId)}:∀{ts:List Nat} {xs:List Sh},slotSh P wr ts=some xs→xs.length=ts.length
 |[],xs,h=>by cases h;rfl
 |t::ts,xs,h=>by
  simp only[slotSh,Option.bind_eq_some_iff,Option.map_eq_some_iff] at h
  obtain⟨v,_,z,_,a,_,ys,hy,rfl⟩:=h
  simp[slotSh_len hy]
theorem shsOf_len:∀{vs:List SV} {xs:List Sh},shsOf vs=some xs→xs.length=vs.length
 |[],xs,h=>by cases h;rfl
 |t::ts,xs,h=>by
  simp only[shsOf,Option.bind_eq_some_iff,Option.map_eq_some_iff] at h
  obtain⟨v,_,ys,hy,rfl⟩:=h
  simp[shsOf_len hy]
theorem locVals_len {L L':List Loc} (hL:∀(k:Nat) (l:Loc),L[k]? =some l→∃l',L'[k]? =some l'∧l'.cells.length=l.cells.length):∀{ks:List Nat} {xs ys:List SV},locVals L ks=some xs→locVals L' ks=some ys→ys.length=xs.length
 |[],xs,ys,h,h'=>by cases h;cases h';rfl
 |k::ks,xs,ys,h,h'=>by
  simp only[locVals,Option.bind_eq_some_iff,Option.map_eq_some_iff] at h h'
  obtain⟨l,hl,x1,h1,rfl⟩:=h
  obtain⟨l',hl',y1,h2,rfl⟩:=h'
  obtain⟨l2,q1,q2⟩:=hL k l hl
  obtain rfl:l'=l2:=by rw[hl'] at q1;exact Option.some.inj q1
  simp[q2,locVals_len hL h1 h2]
theorem cutSh_len {c:Cut} {wr:List (Nat×TypeId)} {s s':St} {sh:List Sh} {zs:List SV} (h:cutSh P c wr s=some sh) (hz:valsOf c s'=some zs) (hL:∀(k:Nat) (l:Loc),s.L[k]? =some l→∃l',s'.L[k]? =some l'∧l'.cells.length=l.cells.length):zs.length=sh.length:=by
 simp only[cutSh,valsOf,Option.bind_eq_some_iff,Option.map_eq_some_iff] at h hz
 obtain⟨a,ha,b,⟨x,hx,hb⟩,rfl⟩:=h
 obtain⟨d,hd,e,he,rfl⟩:=hz
 rw[List.length_append,List.length_append,slotVals_len hd,slotSh_len ha,shsOf_len hb,locVals_len hL hx he]
theorem setLocs_len:∀(ks:List Nat) (vs:List SV) (L:List Loc),(setLocs ks vs L).length=L.length
 |[],_,_=>rfl
 |k::ks,vs,L=>by
  unfold setLocs
  split
  ·rename_i l hl
   have:=(List.getElem?_eq_some_iff.1 hl).1
   rw[setLocs_len]
   simp
   omega
  ·rfl
theorem head_len {c:Cut} {wr:List (Nat×TypeId)} {s:St} {ys:List SV} {w:World}:(headOf c wr s ys w).L.length=s.L.length:=setLocs_len _ _ _
theorem Ok.join {s:St} {a:Act} {w:World} (H:Ok w0 F Z N s a w) {b:Nat} {e:TypeId} {cs:List SV} {t:Nat} (h0:okvs 0 cs) (hs:cs.all SV.scalar=true) (hw:Whole w b e (reals (blks s.L) cs)) (hlo:w0.heap.size≤b) (hb:b∉blks s.L) (hnb:s.nb=s.L.length) (hwb:s.wb=w) (hD:s.D=[])
  (ht:a.tmps.getD t undef= .pointer (some ⟨b,0,none⟩)):
  Ok w0 F Z N {T:=s.T.set t (some (.loc s.L.length 0)),L:=s.L++[⟨b,e,cs,0⟩],nb:=s.L.length+1,D:=s.D,wb:=s.wb,M:=s.M,Z:=s.Z} a w∧Moves s {T:=s.T.set t (some (.loc s.L.length 0)),L:=s.L++[⟨b,e,cs,0⟩],nb:=s.L.length+1,D:=s.D,wb:=s.wb,M:=s.M,Z:=s.Z} []:=by
 have hget:∀(k:Nat) (l:Loc),s.L[k]? =some l→(s.L++[⟨b,e,cs,0⟩])[k]? =some l:=fun k l hl=>by
  rw[List.getElem?_append_left (List.getElem?_eq_some_iff.1 hl).1];exact hl
 have hcase:∀(k:Nat) (l:Loc),(s.L++[⟨b,e,cs,0⟩])[k]? =some l→s.L[k]? =some l∨(k=s.L.length∧l=⟨b,e,cs,0⟩):=fun k l hl=>by
  rcases Nat.lt_or_ge k s.L.length with h|h
  ·rw[List.getElem?_append_left h] at hl;exact .inl hl
  ·rw[List.getElem?_append_right h] at hl
   cases hk:k-s.L.length with
   |zero=>rw[hk] at hl;cases hl;exact .inr ⟨by omega,rfl⟩
   |succ m=>rw[hk] at hl;simp at hl
 have hal:Alike s.L.length (blks s.L) (blks (s.L++[⟨b,e,cs,0⟩])):=alike_of fun k l hl=>⟨l,hget k l hl,rfl⟩
 have hlen:(s.L++[(⟨b,e,cs,0⟩:Loc)]).length=s.L.length+1:=by simp
 have hnew:(s.L++[(⟨b,e,cs,0⟩:Loc)])[s.L.length]? =some ⟨b,e,cs,0⟩:=by rw[List.getElem?_append_right (Nat.le_refl _)];simp
 have hmem:∀(k:Nat) (l:Loc),s.L[k]? =some l→l.blk∈blks s.L:=fun k l hl=>by
  rw[blks_map];exact List.mem_map.2 ⟨l,List.mem_of_getElem? hl,rfl⟩
 refine⟨⟨?_,H.size,H.hd.same (fun _ _=>rfl) rfl rfl,fun k l hl=>?_,fun k l hl=>?_,fun j k l m hl hm e=>?_,by rw[hlen];exact Nat.le_refl _,fun k l hk hl=>?_,H.grow,H.frame,fun b hb=>by rw[hD] at hb;cases hb⟩,⟨fun k l hl=>⟨l,hget k l hl,rfl,Nat.le_refl _,fun _=>rfl,fun _=>rfl,rfl,rfl⟩,⟨[],rfl⟩,rfl⟩⟩
 ·have h1:EnvOk (s.L.length+1) (blks (s.L++[⟨b,e,cs,0⟩])) s.T a.tmps:=H.env.alike (Nat.le_succ _) hal
  show EnvOk (s.L++[(⟨b,e,cs,0⟩:Loc)]).length _ _ _
  rw[hlen]
  intro t' v hv
  rw[at_set] at hv
  by_cases e':t'=t
  ·rw[if_pos e'] at hv
   cases hv
   exact⟨Nat.lt_succ_self _,by rw[e',ht];simp only[real];rw[blks_get hnew]⟩
  ·rw[if_neg e'] at hv
   exact h1 t' v hv
 ·show okvs (s.L++[(⟨b,e,cs,0⟩:Loc)]).length _∧_
  rw[hlen]
  rcases hcase k l hl with h|⟨_,rfl⟩
  ·exact⟨okvs_mono (Nat.le_succ _) _ (H.cells k l h).1,(H.cells k l h).2⟩
  ·exact⟨okvs_mono (Nat.zero_le _) _ h0,hs⟩
 ·rcases hcase k l hl with h|⟨_,rfl⟩
  ·obtain⟨h1,h2⟩:=H.lies k l h
   refine⟨?_,h2⟩
   show Whole _ _ _ (reals (blks (s.L++[⟨b,e,cs,0⟩])) l.cells)
   rw[reals_alike hal _ (H.cells k l h).1]
   exact h1
  ·refine⟨?_,hlo⟩
   show Whole _ _ _ (reals (blks (s.L++[⟨b,e,cs,0⟩])) cs)
   rw[reals_any (β':=blks s.L) h0]
   exact hw
 ·rcases hcase j l hl with h|⟨rfl,rfl⟩
  ·rcases hcase k m hm with h'|⟨rfl,rfl⟩
   ·exact H.apart j k l m h h' e
   ·exact absurd (by have:=hmem j l h;rwa[show l.blk=b from e] at this) hb
  ·rcases hcase k m hm with h'|⟨rfl,rfl⟩
   ·exact absurd (by have:=hmem k m h';rwa[←show b=m.blk from e] at this) hb
   ·rfl
 ·have h1:s.L.length+1≤k:=hk
  have h2:=(List.getElem?_eq_some_iff.1 hl).1
  rw[hlen] at h2
  omega
theorem addNews_ok {s':St} {a:Act} {w:World} {lo:Nat} (H':Ok w0 F Z N s' a w):∀(ns:List Nat) (es:List (TypeId×List SV)) (used:List Nat) (vs us:List SV) (s1:St),Ok w0 F Z N s1 a w→s1.D=[]→s1.wb=w→s1.nb=s1.L.length→newVals lo s' ns es used=some us→
  reals (blks s'.L) vs=reals (blks s'.L) us→okvs 0 vs→vs.all SV.scalar=true→(∀b∈blks s1.L,∃(k:Nat) (l:Loc),(k<lo∨k∈used)∧s'.L[k]? =some l∧l.blk=b)→
  ∃bs:List Nat,bs.length=es.length∧(∀b∈bs,w0.heap.size≤b)∧Ok w0 F Z N (addNews ns es bs vs s1) a w∧Moves s1 (addNews ns es bs vs s1) []
 |[],[],_,vs,us,s1,H,_,_,_,_,_,_,_,_=>⟨[],rfl,fun b hb=>(nomatch hb),H,Moves.refl _ _⟩
 |[],_::_,_,_,_,_,_,_,_,_,h,_,_,_,_=>by cases h
 |_::_,[],_,_,_,_,_,_,_,_,h,_,_,_,_=>by cases h
 |t::ts,(e,z)::es,used,vs,us,s1,H,hD,hwb,hnb,h,hr,h0,hs,hin=>by
  unfold newVals at h
  split at h
  ·rename_i k hk
   split at h
   ·rename_i l hl hc
    split at h
    ·rename_i hty
     simp only[Bool.and_eq_true] at hty hc
     have ht1:=Nat.eq_of_beq_eq_true hty.1
     have ht2:=Nat.eq_of_beq_eq_true hty.2
     have hklo:lo≤k:=Nat.le_of_ble_eq_true hc.1
     have hku:k∉used:=by simpa using hc.2
     simp only[Option.map_eq_some_iff] at h
     obtain⟨rest,hrest,rfl⟩:=h
     have htake:reals (blks s'.L) (vs.take z.length)=reals (blks s'.L) l.cells:=by
      have:=congrArg (List.take z.length) hr
      simp only[reals_eq,List.map_append,←List.map_take] at this⊢
      rw[this,←ht2]
      simp
     have hdrop:reals (blks s'.L) (vs.drop z.length)=reals (blks s'.L) rest:=by
      have:=congrArg (List.drop z.length) hr
      simp only[reals_eq,List.map_append,←List.map_drop] at this⊢
      rw[this,←ht2]
      simp
     have hok1:okvs 0 (vs.take z.length):=okvs_iff.2 fun u hu=>okvs_iff.1 h0 u (List.mem_of_mem_take hu)
     have hok2:okvs 0 (vs.drop z.length):=okvs_iff.2 fun u hu=>okvs_iff.1 h0 u (List.mem_of_mem_drop hu)
     have hs1:(vs.take z.length).all SV.scalar=true:=List.all_eq_true.2 fun u hu=>List.all_eq_true.1 hs u (List.mem_of_mem_take hu)
     have hs2:(vs.drop z.length).all SV.scalar=true:=List.all_eq_true.2 fun u hu=>List.all_eq_true.1 hs u (List.mem_of_mem_drop hu)
     obtain⟨hw,hlo⟩:=H'.lies k l hl
     have hnot:l.blk∉blks s1.L:=fun hb=>by
      obtain⟨k2,l2,q1,q2,q3⟩:=hin _ hb
      have:=H'.apart k2 k l2 l q2 hl q3
      subst this
      rcases q1 with q|q
      ·omega
      ·exact hku q
     obtain⟨p1,p2⟩:=Ok.join (e:=e) H hok1 hs1 (b:=l.blk) (t:=t) (by rw[reals_any (β':=blks s'.L) hok1,htake,←ht1];exact hw) hlo hnot hnb hwb hD (by
      have:=(H'.env t _ hk).2
      rw[this]
      simp only[real]
      rw[blks_get hl])
     obtain⟨bs,b1,b2,b3,b4⟩:=addNews_ok H' ts es (k::used) (vs.drop z.length) rest _ p1 hD hwb (by simp) hrest hdrop hok2 hs2 (fun b hb=>by
      simp only[blks_append,List.mem_append,List.mem_singleton] at hb
      rcases hb with hb|rfl
      ·obtain⟨k2,l2,q1,q2,q3⟩:=hin _ hb
       exact⟨k2,l2,q1.imp id fun q=>List.mem_cons_of_mem _ q,q2,q3⟩
      ·exact⟨k,l, .inr List.mem_cons_self,hl,rfl⟩)
     exact⟨l.blk::bs,by simp[b1],fun b hb=>by
      rcases List.mem_cons.1 hb with rfl|hb
      ·exact hlo
      ·exact b2 b hb,b3,p2.trans b4⟩
    ·cases h
   ·cases h
  ·cases h
structure Twin (l:Nat) (V V':World):Prop where
 os:V'.os=V.os
 tape:V'.tape=V.tape
 output:V'.output=V.output
 size:V'.heap.size=V.heap.size
 heap:∀k,k≠l→V'.heap[k]? =V.heap[k]?
theorem Twin.put (V:World) (l:Nat) (x:Obj):Twin l V (V.putObj l x):=⟨rfl,rfl,rfl,World.putObj_size ..,fun _ hk=>World.putObj_heap_other hk⟩
theorem Twin.symm {l:Nat} {V V':World} (h:Twin l V V'):Twin l V' V:=⟨h.os.symm,h.tape.symm,h.output.symm,h.size.symm,fun k hk=>(h.heap k hk).symm⟩
theorem Twin.trans {l:Nat} {V V' V'':World} (h:Twin l V V') (k:Twin l V' V''):Twin l V V'':=⟨k.os.trans h.os,k.tape.trans h.tape,k.output.trans h.output,k.size.trans h.size,fun j hj=>(k.heap j hj).trans (h.heap j hj)⟩
theorem Twin.ext {l:Nat} {V V':World} (h:Twin l V V'):Ext V [l] V':=⟨h.os,h.tape,h.output,by rw[h.size];exact Nat.le_refl _,fun i _ hi=>h.heap i (by simpa using hi)⟩
theorem asgOf_some {as_:Code} {t p:Tmp} (h:asgOf as_=some (t,p)):∃id l o,as_= .region id l false∧l.toList=[o]∧o.op= .assign (.tmp p)∧o.dst=some t∧o.guard=none:=by
 unfold asgOf at h
 split at h
 ·rename_i id l
  split at h
  ·rename_i o ho
   split at h
   ·rename_i p' t' h1 h2 h3
    cases h
    exact⟨id,l,o,rfl,ho,h1,h2,h3⟩
   ·cases h
  ·cases h
 ·cases h
theorem asg_run {rd:Option Nat} {n:Nat} {as_:Code} {t p:Tmp} (h:asgOf as_=some (t,p)) {Q:Exit→Act→World→Prop} {a:Act} {w:World} (hQ:Q .normal (a.put (some t) (a.eval (.tmp p))) w):as_.wpIn (wideR rd) n P Q a w:=by
 obtain⟨id,l,o,rfl,hl,ho,hd,hg⟩:=asgOf_some h
 refine wpIn_region_list ?_
 rw[hl]
 unfold wpListIn
 rw[if_pos (by simp[Region.wanted,hg])]
 refine wp_in (by rw[ho];rfl) ?_
 unfold Oper.wp
 have:(execOp a.eval o).run P w= .ok (.value (a.eval (.tmp p))) w:=by simp only[execOp,ho];rfl
 rw[this]
 show wpListIn (wideR rd) n P l Q [] (a.put o.dst (a.eval (.tmp p))) w
 rw[hd]
 exact hQ
theorem seq_sound (loops cuts:List Cut) {bd as_:Code} {g:Operand} {ps:Array Tmp} {c:Cut} {f:FuncId} {first cap:List SV} {p t:Tmp} {nn:Nat} {s:St} {a:Act} {w:World} {K:Ex→St→Prop} {R:Ex→Act→World→Prop}
  (ih:∀{Z:List (Nat×Obj)} {rd:Option Nat} {nn:Nat} {s:St} {a:Act} {w:World} {K:Ex→St→Prop} {R:Ex→Act→World→Prop},(rd=none∨Z≠[])→allDst N bd=true→Ok w0 F Z N s a w→code P w0 F loops cuts bd s K→
   (∀e s' a' w',K e s'→Ok w0 F Z N s' a' w'→(∃ch,Moves s s' ch)→Same (Written (written bd [])) a a'→R e a' w')→bd.wpIn (wideR rd) nn P (ExQ R) a w)
  (hasg:asgOf as_=some (t,p)) (hps:ps.toList=[p]) (hg:eval P s.T g=some (.fn f first cap)) (hp:p<N) (ht:t<N) (hbd:allDst N bd=true) (H:Ok w0 F [] N s a w) (h:seqAt P w0 F c f first cap p t (code P w0 F loops cuts bd) s K)
  (hR:∀s' a' w',K .normal s'→Ok w0 F [] N s' a' w'→(∃ch,Moves s s' ch)→a'.tmps=a.tmps→R .normal a' w'):(Code.rangeFunc g ps as_ bd).wpIn (wideR none) nn P (ExQ R) a w:=by
 unfold seqAt at h
 split at h
 rotate_left
 ·exact h.elim
 rename_i fn hfn
 split at h
 rotate_left
 ·exact h.elim
 rename_i c' hb
 split at h
 rotate_left
 ·exact h.elim
 rename_i hname
 split at h
 rotate_left
 ·exact h.elim
 rename_i hlc
 split at h
 rotate_left
 ·exact h.elim
 rename_i xs hxs
 split at h
 rotate_left
 ·exact h.elim
 rename_i sh hsh
 have hname':fn.name≠ "runtime.NumGoroutine":=by simpa using hname
 have hrun:∀(args:Array Value) (w:World),(callFunc f args).run P w= .ok (.enter f args) w:=fun args w=>by simp[callFunc,hfn,hname',hb]
 refine wpIn_rangeFunc ?_
 intro fn0 _
 obtain⟨rc,hrc⟩:∃rc:Loop,rc={state:= .ready,pending:=none,fn:=fn0,tmps:=a.tmps,params:=ps,assign:=as_,body:=bd,defers:=w.heap.size}:=⟨_,rfl⟩
 obtain⟨rb,hrb⟩:∃rb:Loop,rb={rc with state:= .busy}:=⟨_,rfl⟩
 have hst:rc.state= .ready:=by rw[hrc]
 have hpe:rc.pending=none:=by rw[hrc]
 have hback:({rb with state:=if(none:Option Code).isNone then .ready else .done,pending:=none}:Loop)=rc:=by
  rw[hrb,hrc];rfl
 obtain⟨d,hd⟩:∃d,d=w.heap.size:=⟨_,rfl⟩
 obtain⟨l,hl⟩:∃l,l=w.heap.size+1:=⟨_,rfl⟩
 obtain⟨W1,hW1⟩:∃W1,W1=(w.alloc (.deferred (some []))).alloc (.loop rc):=⟨_,rfl⟩
 have hs1:W1.heap.size=w.heap.size+2:=by rw[hW1,alloc_size,alloc_size]
 have hWl:W1.heap[l]? =some (.loop rc):=by
  have:=alloc_here (w.alloc (.deferred (some []))) (.loop rc)
  rw[alloc_size] at this
  rw[hW1,hl]
  exact this
 have hWd:W1.heap[d]? =some (.deferred (some [])):=by
  rw[hW1,hd,alloc_heap _ _ _ (by rw[alloc_size];omega)]
  exact alloc_here w _
 have hWo:∀k,k<w.heap.size→W1.heap[k]? =w.heap[k]? :=fun k hk=>by
  rw[hW1,alloc_heap _ _ _ (by rw[alloc_size];omega),alloc_heap _ _ _ hk]
 obtain⟨V1,hV1⟩:∃V1,V1=W1.putObj l (.loop rb):=⟨_,rfl⟩
 have hT1:Twin l W1 V1:=by rw[hV1];exact Twin.put ..
 have hVl:V1.heap[l]? =some (.loop rb):=by rw[hV1];exact World.putObj_heap_same (by rw[hs1,hl];omega)
 have hVo:∀k,k<w.heap.size→V1.heap[k]? =w.heap[k]? :=fun k hk=>(hT1.heap k (by omega)).trans (hWo k hk)
 have hwos:W1.os=w.os∧W1.tape=w.tape∧W1.output=w.output:=by rw[hW1];exact⟨rfl,rfl,rfl⟩
 have hw0:w0.heap.size≤w.heap.size:=H.keeps.size
 obtain⟨vs,Need,I,hseq,h0,hround,hend⟩:=h l d (by rw[hd];exact H.grow.size) (by omega)
 obtain⟨a2,ha2⟩:∃a2:Act,a2={a with defers:=mark d::a.defers}:=⟨_,rfl⟩
 have hat:a2.tmps=a.tmps:=by rw[ha2]
 have hdM:d∉s.M:=fun hm=>absurd (H.hd.lt (List.mem_append_left _ hm)) (by omega)
 let K':Nat→List SV→Ex→St→Prop:=fun i ys e s'=>match e with
  | .normal=>match sameVers c.locs 0 (setLocs c.locs ys s.L) s'.L,locVals s'.L c.locs with
   |true,some zs=>∀w2,grow s'.wb s'.D w2→app sh (I (i+1)) (measZero sh) zs fun J _=>J w2∧Need w2
   |_,_=>False
  |_=>False
 let NFp:Nat→List SV→(World→Prop)→Prop:=fun i ys J=>
  (∀x,vs[i]? =some x→∀w1,Keeps F w0 w1→l<w1.heap.size→J w1→Need w1→code P w0 F loops cuts bd (roundAt c p t x s ys w1 l d) (K' i ys))∧
  (i=vs.length→∀w1 w2,Keeps F w0 w1→l<w1.heap.size→J w1→Need w1→Ext w1 [l] w2→Keeps F w0 w2→K .normal (behindOf c s ys w2 d))
 have step:∀(β:List Nat) (i:Nat) (zs:List SV) (V:World),i≤vs.length→(∀v∈zs,∀n,v= .val n→n.oneCell'=true)→app sh (I i) (measZero sh) zs (fun J _=>J V∧Need V)→
   ∃ys J,NFp i ys J∧J V∧Need V∧reals β ys=reals β zs∧okvs 0 ys∧ys.all SV.scalar=true:=by
  intro β i zs V hi hz happ
  rcases Nat.lt_or_ge i vs.length with hlt|hge
  ·obtain⟨ys,J,m,q1,q2,q3,q4,q5⟩:=app_all (β:=β) hz happ (hround i vs[i] (List.getElem?_eq_getElem hlt))
   refine⟨ys,J,⟨fun x hx w1 k1 k2 k3 k4=>?_,fun e=>by omega⟩,q1.1,q1.2,q3,q4,q5⟩
   rw[List.getElem?_eq_getElem hlt] at hx
   cases hx
   exact q2 w1 k1 k2 k3 k4
  ·obtain rfl:i=vs.length:=by omega
   obtain⟨ys,J,m,q1,q2,q3,q4,q5⟩:=app_all (β:=β) hz happ hend
   refine⟨ys,J,⟨fun x hx=>?_,fun _ w1 w2=>q2 w1 w2⟩,q1.1,q1.2,q3,q4,q5⟩
   rw[List.getElem?_eq_none (Nat.le_refl _)] at hx
   cases hx
 let Inv:Nat→World→Prop:=fun i V=>i≤vs.length∧V.heap[l]? =some (.loop rc)∧∃V0 ys J,V0.heap[l]? =some (.loop rb)∧Twin l V0 V∧NFp i ys J∧J V0∧Need V0∧Ok w0 F [] N (behindOf c s ys V0 d) a2 V0∧Old s (behindOf c s ys V0 d) c.locs
 have hHd:∀(ys:List SV) (V:World),(∀D∈d::s.M,V.heap[D]? =some (.deferred (some [])))→Hd w0 [] (behindOf c s ys V d) a2.defers V:=fun ys V hm=>
  ⟨(by rw[ha2];show mark d::a.defers=(d::s.M).map mark;rw[H.hd.defers];rfl),fun D hD=>⟨(by
   rcases List.mem_cons.1 hD with rfl|hD
   ·omega
   ·exact(H.hd.marks D hD).1),hm D hD⟩,fun q hq=>(by cases hq),H.hd.nums,List.nodup_cons.2 ⟨hdM,H.hd.nodup⟩⟩
 have hI0:Inv 0 W1:=by
  have HV:Ok w0 F [] N (s.at s.L V1) a V1:=H.big0 (hT1.os.trans hwos.1) (hT1.tape.trans hwos.2.1) (hT1.output.trans hwos.2.2) (by rw[hT1.size,hs1];omega) (fun i h1 _=>hVo i (by omega)) (fun b hb=>by
   obtain⟨k,lk,hlk,rfl⟩:=blks_mem hb
   exact hVo _ (Whole.lt (H.lies k lk hlk).1)) (fun k hk=>hVo k (H.hd.lt hk))
  have hgr:Ext s.wb s.D V1:=⟨(hT1.os.trans hwos.1).trans H.grow.os,(hT1.tape.trans hwos.2.1).trans H.grow.tape,(hT1.output.trans hwos.2.2).trans H.grow.output,by rw[hT1.size,hs1];have:=H.grow.size;omega,fun i h1 h2=>by
   rw[hVo i (Nat.lt_of_lt_of_le h1 H.grow.size)];exact H.grow.heap i h1 h2⟩
  obtain⟨ys,J,q1,q2,q3,q4,q5,q6⟩:=step (blks s.L) 0 xs V1 (Nat.zero_le _) (fun v hv n e=>by
   have:=okvs_iff.1 (locVals_ok H.cells hxs) v hv
   rw[e] at this
   exact this) (h0 V1 hgr.grow (by rw[hT1.size,hs1];omega))
  obtain⟨p1,p2⟩:=head_gen (N2:=N) (c:=c) (ch:=[]) H HV (fun k lk hk=>⟨lk,hk,rfl,Nat.le_refl _,fun _=>rfl,fun _=>rfl,rfl,rfl⟩) hlc (fun k lk lk' _ e1 e2=>by
   have e2':s.L[k]? =some lk':=e2
   rw[e1] at e2';rw[Option.some.inj e2']) (cs:=xs) hxs (rest:=ys) q4 q5 q6 (behindOf c s ys V1 d) rfl rfl rfl rfl (a2:=a2) (by rw[hat];exact H.env) (by rw[hat];exact H.size) (hHd ys V1 fun D hD=>by
    rcases List.mem_cons.1 hD with rfl|hD
    ·exact(hT1.heap _ (by omega)).trans hWd
    ·exact(hVo D (H.hd.lt (List.mem_append_left _ hD))).trans (H.hd.marks D hD).2)
  exact⟨Nat.zero_le _,hWl,V1,ys,J,hVl,hT1.symm,q1,q2,q3,p1,p2⟩
 have hfree:∀(ys:List SV) (V0:World),V0.heap[l]? =some (.loop rb)→Ok w0 F [] N (behindOf c s ys V0 d) a2 V0→(∀b∈blks (behindOf c s ys V0 d).L,b≠l)∧∀k∈d::s.M,k≠l:=fun ys V0 hv ho=>by
  refine⟨fun b hb e=>?_,fun k hk e=>?_⟩
  ·obtain⟨j,m,hm,rfl⟩:=blks_mem hb
   have:=(ho.lies j m hm).1
   unfold Whole at this
   rw[e,hv] at this
   cases this
  ·have:=(ho.hd.marks k hk).2
   rw[e,hv] at this
   cases this
 refine⟨l,[mark d],W1,{target:= .fn (.func f) (reals (blks s.L) cap).toArray,args:=(reals (blks s.L) first).toArray++#[.func (.yield l) #[] #[]]},W1,f,_,W1,?_,?_,fun _ _=>trivial,?_,fun h=>(by cases h),CallsIn.mono (callsIn_of (hseq l Inv W1 ?_ ?_ ?_ hI0)) ?_⟩
 ·rw[hW1,hrc,hl,hd];exact run_enterLoop_outer _ _ _ _ _
 ·have hev:=(eval_sound H.env hg).2
  simp only[resolve,hev,real]
  simp[go_sem]
 ·exact hrun _ _
 ·rintro i V V' ⟨k0,k1,V0,ys,J,k2,k3,k4⟩ e1 e2 e3 e4
  exact⟨k0,by rw[e1];exact k1,V0,ys,J,k2,⟨e2.trans k3.os,e3.trans k3.tape,e4.trans k3.output,by rw[e1];exact k3.size,fun k hk=>by rw[e1];exact k3.heap k hk⟩,k4⟩
 ·rintro i V ⟨_,k1,V0,ys,J,k2,k3,k4,k5,k6,_⟩
  exact⟨V0,rb,k2,k3.ext,k6⟩
 ·
  rintro i x V hx ⟨_,k1,V0,ys,J,k2,k3,k4,k5,k6,hok,hold⟩
  have hil:i<vs.length:=(List.getElem?_eq_some_iff.1 hx).1
  have hpsz:rc.params=#[p]:=by
   rw[hrc]
   show ps=#[p]
   rw[←Array.toArray_toList (xs:=ps),hps]
  refine⟨rc.fn,_,rc.assign,rc.body,run_yield k1 (by rw[hpsz];rfl),fun n=>?_⟩
  refine roundIn_of_wpIn (F:=wideR none) trivial ?_
  rw[hpsz,show rc.assign=as_ by rw[hrc],show rc.body=bd by rw[hrc],show rc.tmps=a.tmps by rw[hrc]]
  refine asg_run (rd:=some l) hasg ?_
  refine⟨_,run_beginRound k1 hst,?_⟩
  have hVb:(V.putObj l (.loop {rc with state:= .busy})).heap=V0.heap:=by
   apply Array.ext_getElem?
   intro k
   by_cases e:k=l
   ·rw[e,World.putObj_heap_same (Array.getElem?_eq_some_iff.1 k1).1,k2,hrb]
   ·rw[World.putObj_heap_other e,k3.heap k e]
  have hlen:(#[p].zip #[Value.pointer (some x)]).foldl (fun tmps (t,a)=>tmps.setIfInBounds t a) a.tmps=a.tmps.setIfInBounds p (.pointer (some x)):=by simp
  rw[hlen]
  have hpN:p<a.tmps.size:=by rw[H.size];exact hp
  have hev:({tmps:=a.tmps.setIfInBounds p (.pointer (some x)),defers:=[]}:Act).eval (.tmp p)= .pointer (some x):=by
   simp[Act.eval,hpN]
  rw[hev]
  have hoR:Ok w0 F ((l, .loop rb)::(d, .deferred (some []))::s.M.map fun k=>(k, .deferred (some []))) N (roundAt c p t x s ys V0 l d) {tmps:=(a.tmps.setIfInBounds p (.pointer (some x))).setIfInBounds t (.pointer (some x)),defers:=[]} V0:=by
   have e1:EnvOk (setLocs c.locs ys s.L).length (blks (setLocs c.locs ys s.L)) s.T a.tmps:=by have:=hok.env;rw[hat] at this;exact this
   have e2:=e1.put (d:=p) (v:= .adr x 0) hpN trivial
   have e3:=e2.put (d:=t) (v:= .adr x 0) (by rw[Array.size_setIfInBounds,H.size];exact ht) trivial
   refine⟨e3,by simp[H.size],⟨rfl,fun D hD=>(by cases hD),fun q hq=>?_,(by show l::d::s.M=_;simp[Function.comp_def]),List.nodup_nil⟩,hok.cells,hok.lies,hok.apart,hok.nb,hok.newer,Ext.refl _ _,hok.frame,fun b hb=>by cases hb⟩
   rcases List.mem_cons.1 hq with rfl|hq
   ·exact⟨by show w0.heap.size≤l;omega,k2,rfl⟩
   ·have:q.1∈d::s.M∧q.2= .deferred (some []):=by
     rcases List.mem_cons.1 hq with rfl|hq
     ·exact⟨List.mem_cons_self,rfl⟩
     ·obtain⟨k,hk,rfl⟩:=List.mem_map.1 hq
      exact⟨List.mem_cons_of_mem _ hk,rfl⟩
    obtain⟨m1,m2⟩:=hok.hd.marks q.1 this.1
    exact⟨m1,by rw[this.2];exact m2,by rw[this.2];rfl⟩
  have hoV:Ok w0 F ((l, .loop rb)::(d, .deferred (some []))::s.M.map fun k=>(k, .deferred (some []))) N (roundAt c p t x s ys V0 l d) {tmps:=(a.tmps.setIfInBounds p (.pointer (some x))).setIfInBounds t (.pointer (some x)),defers:=[]} (V.putObj l (.loop {rc with state:= .busy})):=hoR.drawn hVb k3.os k3.tape k3.output
  have hlV:l<V0.heap.size:=(Array.getElem?_eq_some_iff.1 k2).1
  refine wpIn_mono (ih (rd:=some l) (nn:=n) (R:=fun e _ w'=>match e with
   | .normal=>∃v w'',(Instr.endRound l none).run P w'= .ok v w''∧(Ending.returned v= .returned (.bool true)∧Inv (i+1) w'')
   |_=>False) (.inr (by simp)) hbd hoV (k4.1 x hx V0 hok.keeps hlV k5 k6) ?_) ?_
  ·rintro e s' a' w' q1 q2 ⟨ch,q3⟩ _
   cases e with
   |exit j=>exact q1.elim
   |ret=>exact q1.elim
   |normal=>
    simp only[K'] at q1
    split at q1
    rotate_left
    ·exact q1.elim
    rename_i zs hv hz
    have hlw:=(q2.hd.recs (l, .loop rb) List.mem_cons_self).2.1
    refine⟨_,_,run_endRound none hlw,rfl,?_⟩
    rw[hback]
    have hq3:Old (behindOf c s ys V0 d) s' ch:=q3.old
    obtain⟨ys',J',r1,r2,r3,r4,r5,r6⟩:=step (blks s'.L) (i+1) zs w' hil (fun v hv n e=>by
     have:=okvs_iff.1 (locVals_ok q2.cells hz) v hv
     rw[e] at this
     exact this) (q1 w' q2.grow.grow)
    obtain⟨p1,p2⟩:=head_gen (N2:=N) (c:=c) H q2 (hold.trans hq3) hlc (fun k lk lk' hk e1 e2=>by
     obtain⟨lh,t1,_,_,_,t5,_⟩:=hold k lk e1
     obtain rfl:=t5 hk
     obtain⟨l2,u1,_,_,u4,_⟩:=hq3 k lh t1
     obtain rfl:lk'=l2:=by rw[e2] at u1;exact Option.some.inj u1
     exact u4 (sameVers_get hv t1 e2 (by simpa using hk)).symm) hz r4 r5 r6 (behindOf c s ys' w' d) rfl rfl rfl rfl (a2:=a2) (by rw[hat];exact H.env) (by rw[hat];exact H.size) (hHd ys' w' fun D hD=>by
      have hmem:(D,Obj.deferred (some []))∈((l,Obj.loop rb)::(d,Obj.deferred (some []))::s.M.map fun k=>(k,Obj.deferred (some []))):=by
       rcases List.mem_cons.1 hD with rfl|hD
       ·exact List.mem_cons_of_mem _ List.mem_cons_self
       ·exact List.mem_cons_of_mem _ (List.mem_cons_of_mem _ (List.mem_map.2 ⟨D,hD,rfl⟩))
      exact(q2.hd.recs _ hmem).2.1)
    exact⟨hil,World.putObj_heap_same (Array.getElem?_eq_some_iff.1 hlw).1,w',ys',J',hlw,Twin.put ..,r1,r2,r3,p1,p2⟩
  ·intro e a' w' hq
   cases e with
   |normal=>exact hq
   |_=>exact hq.elim
 ·
  rintro e W' ⟨⟨v,rfl⟩,_,k1,V0,ys,J,k2,k3,k4,k5,k6,hok,hold⟩
  have hel:=run_endLoop (P:=P) k1 (by rw[hst];intro hx;cases hx)
  have hel:(Instr.endLoop l).run P W'= .ok none (W'.putObj l (.loop {rc with state:= .exhausted})):=by rw[hel,hpe]
  refine⟨none,_,hel,?_⟩
  obtain⟨W2,hW2⟩:∃W2,W2=W'.putObj l (.loop {rc with state:= .exhausted}):=⟨_,rfl⟩
  rw[←hW2]
  have htw:Twin l V0 W2:=k3.trans (by rw[hW2];exact Twin.put ..)
  obtain⟨f1,f2⟩:=hfree ys V0 k2 hok
  have hlV:l<V0.heap.size:=(Array.getElem?_eq_some_iff.1 k2).1
  have hfin:Ok w0 F [] N (behindOf c s ys W2 d) a2 W2:=by
   have:=hok.big0 (w':=W2) htw.os htw.tape htw.output (by rw[htw.size];exact Nat.le_refl _) (fun i h1 _=>htw.heap i (by omega)) (fun b hb=>htw.heap b (f1 b hb)) (fun k hk=>htw.heap k (by
    rcases List.mem_append.1 hk with hk|hk
    ·exact f2 k hk
    ·have:k∈s.Z:=hk
     rw[H.hd.nums] at this
     cases this))
   have e:(behindOf c s ys V0 d).at (behindOf c s ys V0 d).L W2=behindOf c s ys W2 d:=by simp[St.at,behindOf,setLocs_len]
   rw[e] at this
   exact this
  have hfin':Ok w0 F [] N (behindOf c s ys W2 d) {a with defers:=[mark d]++a.defers} W2:=by rw[ha2] at hfin;exact hfin
  exact hR _ _ _ (k4.2 rfl V0 W2 hok.keeps hlV k5 k6 htw.ext hfin.keeps) hfin' ⟨c.locs,hold,⟨[d],rfl⟩,rfl⟩ rfl
theorem code_sound (hm:P.follows .mixedOrders=true) (loops cuts:List Cut):∀(c:Code) {Z:List (Nat×Obj)} {rd:Option Nat} {nn:Nat} {s:St} {a:Act} {w:World} {K:Ex→St→Prop} {R:Ex→Act→World→Prop},(rd=none∨Z≠[])→allDst N c=true→Ok w0 F Z N s a w→code P w0 F loops cuts c s K→
  (∀e s' a' w',K e s'→Ok w0 F Z N s' a' w'→(∃ch,Moves s s' ch)→Same (Written (written c [])) a a'→R e a' w')→c.wpIn (wideR rd) nn P (ExQ R) a w:=by
 intro c
 induction c with
 |skip=>
  intro Z rd nn s a w K R hrd _ H h hR
  exact wpIn_skip (hR .normal s a w h H ⟨[],Moves.refl _ _⟩ (Same.refl _ _))
 |region id l d=>
  intro Z rd nn s a w K R hrd hd H h hR
  refine wpIn_mono (region_sound hm (fun o ho t ht=>?_) H h (R:=R .normal) (fun s' a' w' k1 k2 k3 k4=>hR .normal s' a' w' k1 k2 k3 (k4.mono fun t ht=>written_region ht))) fun e a w hq=>hq.exq
  have:=List.all_eq_true.1 hd o ho
  rw[ht] at this
  simpa using this
 |seq x y ihx ihy=>
  intro Z rd nn s a w K R hrd hd H h hR
  simp only[allDst,Bool.and_eq_true] at hd
  unfold code at h
  split at h
  ·rename_i c hc
   split at h
   ·unfold cutThere at h
    split at h
    ·exact h.elim
    ·rename_i hlc
     split at h
     ·rename_i sh hsh
      obtain⟨I,hx,hy⟩:=h
      refine wpIn_seq (wpIn_mono (ihx (R:=fun e a w=>match e with| .normal=>y.wpIn (wideR rd) nn P (ExQ R) a w|e=>R e a w) hrd hd.1 H hx ?_) fun e a w hq=>hq.seq)
      intro e s' a' w' k1 k2 k3 k4
      cases e with
      |normal=>
       simp only[] at k1⊢
       split at k1
       ·rename_i zs hv hz
        simp only[Bool.and_eq_true] at hv
        obtain⟨ys,J,m,q1,q2,q3,q4,q5⟩:=app_all (β:=blks s'.L) (valsOf_ok k2 hz) (k1 w' k2.grow.grow) hy
        have hver:∀(k:Nat) (l l':Loc),k∉c.locs→s.L[k]? =some l→s'.L[k]? =some l'→l'.cells=l.cells:=by
         intro k l l' hk hl hl'
         obtain⟨ch,k3⟩:=k3
         obtain⟨l2,r1,_,_,r4,_⟩:=k3.old k l hl
         obtain rfl:l'=l2:=by rw[hl'] at r1;exact Option.some.inj r1
         exact r4 (sameVers_get hv.1 hl hl' (by simpa using hk)).symm
        obtain⟨p1,p2⟩:=head_ok H k2 k3 k4 hlc hv.2 hver hz q3 q4 q5
        refine ihy hrd hd.2 p1 (q2 w' k2.keeps q1) fun e2 s2 a2 w2 l1 l2 ⟨ch,l3⟩ l4=>hR e2 s2 a2 w2 l1 l2 ⟨_,p2.trans l3⟩ ((k4.mono fun t=>written_left).trans (l4.mono fun t=>written_right))
       ·exact k1.elim
      |exit i=>exact hR _ s' a' w' k1 k2 k3 (k4.mono fun t=>written_left)
      |ret=>exact hR _ s' a' w' k1 k2 k3 (k4.mono fun t=>written_left)
     ·exact h.elim
   ·rename_i n ns hns
    unfold cutNew at h
    generalize plainN c=c at h
    split at h
    ·exact h.elim
    ·rename_i hlc
     split at h
     ·rename_i sh es hsh hes
      split at h
      ·rename_i sh2 hsh2
       obtain⟨I,hx,hy⟩:=h
       refine wpIn_seq (wpIn_mono (ihx (R:=fun e a w=>match e with| .normal=>y.wpIn (wideR rd) nn P (ExQ R) a w|e=>R e a w) hrd hd.1 H hx ?_) fun e a w hq=>hq.seq)
       intro e s' a' w' k1 k2 k3 k4
       cases e with
       |normal=>
        simp only[] at k1⊢
        split at k1
        ·rename_i zs us hv hz hu
         simp only[Bool.and_eq_true] at hv
         have hval:∀v∈zs++us,∀n,v= .val n→n.oneCell'=true:=fun v hm n hn=>by
          rcases List.mem_append.1 hm with q|q
          ·exact valsOf_ok k2 hz v q n hn
          ·exact newVals_ok k2 hu v q n hn
         obtain⟨ys,J,m,q1,q2,q3,q4,q5⟩:=app_all (β:=blks s'.L) hval (k1 w' k2.grow.grow) hy
         have hver:∀(k:Nat) (l l':Loc),k∉c.locs→s.L[k]? =some l→s'.L[k]? =some l'→l'.cells=l.cells:=by
          intro k l l' hk hl hl'
          obtain⟨ch,k3⟩:=k3
          obtain⟨l2,r1,_,_,r4,_⟩:=k3.old k l hl
          obtain rfl:l'=l2:=by rw[hl'] at r1;exact Option.some.inj r1
          exact r4 (sameVers_get hv.1 hl hl' (by simpa using hk)).symm
         have hzl:zs.length=sh.length:=cutSh_len (s':=s') hsh hz (fun k l hl=>by
          obtain⟨ch,k3⟩:=k3
          obtain⟨l2,r1,_,_,_,_,_,r8⟩:=k3.old k l hl
          exact⟨l2,r1,r8⟩)
         have t1:reals (blks s'.L) (ys.take sh.length)=reals (blks s'.L) zs:=by
          have:=congrArg (List.take sh.length) q3
          simp only[reals_eq,List.map_append,←List.map_take] at this⊢
          rw[this,←hzl]
          simp
         have t2:reals (blks s'.L) (ys.drop sh.length)=reals (blks s'.L) us:=by
          have:=congrArg (List.drop sh.length) q3
          simp only[reals_eq,List.map_append,←List.map_drop] at this⊢
          rw[this,←hzl]
          simp
         have a1:okvs 0 (ys.take sh.length):=okvs_iff.2 fun u hu=>okvs_iff.1 q4 u (List.mem_of_mem_take hu)
         have a2:okvs 0 (ys.drop sh.length):=okvs_iff.2 fun u hu=>okvs_iff.1 q4 u (List.mem_of_mem_drop hu)
         have a3:(ys.take sh.length).all SV.scalar=true:=List.all_eq_true.2 fun u hu=>List.all_eq_true.1 q5 u (List.mem_of_mem_take hu)
         have a4:(ys.drop sh.length).all SV.scalar=true:=List.all_eq_true.2 fun u hu=>List.all_eq_true.1 q5 u (List.mem_of_mem_drop hu)
         obtain⟨p1,p2⟩:=head_ok H k2 k3 k4 hlc hv.2 hver hz t1 a1 a3
         obtain⟨bs,b1,b2,b3,b4⟩:=addNews_ok k2 (n::ns) es [] (ys.drop sh.length) us _ p1 rfl rfl (by
          show s.L.length=_
          exact head_len.symm) hu t2 a2 a4 (fun b hb=>by
          have hlen:=head_len (c:=c) (wr:=written x []) (s:=s) (ys:=ys.take sh.length) (w:=w')
          obtain⟨k,l,hl,rfl⟩:=blks_mem hb
          have hk:k<s.L.length:=by rw[←hlen];exact(List.getElem?_eq_some_iff.1 hl).1
          obtain⟨l0,hl0⟩:∃l0,s.L[k]? =some l0:=⟨_,List.getElem?_eq_getElem hk⟩
          obtain⟨l1,u1,u2,_⟩:=p2.old k l0 hl0
          obtain rfl:l=l1:=by rw[hl] at u1;exact Option.some.inj u1
          obtain⟨ch,k3⟩:=k3
          obtain⟨l2,r1,r2,_⟩:=k3.old k l0 hl0
          exact⟨k,l2, .inl hk,r1,by rw[r2,u2]⟩)
         refine ihy hrd hd.2 b3 (forBlks_elim q2 b1 b2 w' k2.keeps q1) fun e2 s2 a2 w2 l1 l2 ⟨ch,l3⟩ l4=>hR e2 s2 a2 w2 l1 l2 ⟨_,(p2.trans b4).trans l3⟩ ((k4.mono fun t=>written_left).trans (l4.mono fun t=>written_right))
        ·exact k1.elim
       |exit i=>exact hR _ s' a' w' k1 k2 k3 (k4.mono fun t=>written_left)
       |ret=>exact hR _ s' a' w' k1 k2 k3 (k4.mono fun t=>written_left)
      ·exact h.elim
     ·exact h.elim
  ·refine wpIn_seq (wpIn_mono (ihx (R:=fun e a w=>match e with| .normal=>y.wpIn (wideR rd) nn P (ExQ R) a w|e=>R e a w) hrd hd.1 H h ?_) fun e a w hq=>hq.seq)
   intro e s' a' w' k1 k2 ⟨ch,k3⟩ k4
   cases e with
   |normal=>exact ihy hrd hd.2 k2 k1 fun e2 s2 a2 w2 l1 l2 ⟨ch',l3⟩ l4=>hR e2 s2 a2 w2 l1 l2 ⟨_,k3.trans l3⟩ ((k4.mono fun t=>written_left).trans (l4.mono fun t=>written_right))
   |exit i=>exact hR _ s' a' w' k1 k2 ⟨_,k3⟩ (k4.mono fun t=>written_left)
   |ret=>exact hR _ s' a' w' k1 k2 ⟨_,k3⟩ (k4.mono fun t=>written_left)
 |cond c x y ihx ihy=>
  intro Z rd nn s a w K R hrd hd H h hR
  simp only[allDst,Bool.and_eq_true] at hd
  have h':condAt (eval P s.T c) (code P w0 F loops cuts x s K) (code P w0 F loops cuts y s K):=h
  unfold condAt at h'
  split at h'
  ·rename_i hc
   exact wpIn_cond_true ((eval_sound H.env hc).2) (ihx hrd hd.1 H h' fun e s' a' w' k1 k2 k3 k4=>hR e s' a' w' k1 k2 k3 (k4.mono fun t=>written_left))
  ·rename_i hc
   exact wpIn_cond_false ((eval_sound H.env hc).2) (ihy hrd hd.2 H h' fun e s' a' w' k1 k2 k3 k4=>hR e s' a' w' k1 k2 k3 (k4.mono fun t=>written_right))
  ·rename_i e hc
   have hv:=(eval_sound H.env hc).2
   refine BE.split h' (fun ht hk=>?_) (fun ht hk=>?_)
   ·exact wpIn_cond_true (by rw[hv,real,ht]) (ihx hrd hd.1 H hk fun e s' a' w' k1 k2 k3 k4=>hR e s' a' w' k1 k2 k3 (k4.mono fun t=>written_left))
   ·exact wpIn_cond_false (by rw[hv,real,ht]) (ihy hrd hd.2 H hk fun e s' a' w' k1 k2 k3 k4=>hR e s' a' w' k1 k2 k3 (k4.mono fun t=>written_right))
  ·exact h'.elim
 |block id b ih=>
  intro Z rd nn s a w K R hrd hd H h hR
  refine wpIn_block (wpIn_mono (ih (R:=fun e a w=>match e with| .exit j=>if j=id then R .normal a w else R (.exit j) a w|e=>R e a w) hrd hd H h ?_) ?_)
  ·intro e s' a' w' k1 k2 k3 k4
   cases e with
   |normal=>exact hR _ s' a' w' k1 k2 k3 k4
   |ret=>exact hR _ s' a' w' k1 k2 k3 k4
   |exit j=>
    simp only[] at k1⊢
    cases hj:Nat.beq j id with
    |true=>
     rw[hj] at k1
     rw[if_pos (Nat.eq_of_beq_eq_true hj)]
     exact hR _ s' a' w' k1 k2 k3 k4
    |false=>
     rw[hj] at k1
     rw[if_neg (fun e=>by rw[e,Nat.beq_refl] at hj;cases hj)]
     exact hR _ s' a' w' k1 k2 k3 k4
  ·intro e a w hq
   cases e with
   |exit j=>
    simp only[Exit.inBlock]
    have hq':(if j=id then R .normal a w else R (.exit j) a w):=hq
    by_cases hj:j=id
    ·rw[if_pos hj] at hq'⊢;exact hq'
    ·rw[if_neg hj] at hq'⊢;exact hq'
   |normal=>exact hq
   |ret=>exact hq
   |_=>exact hq.elim
 |loop b ih=>
  intro Z rd nn s a w K R hrd hd H h hR
  unfold code at h
  split at h
  ·rename_i c hc
   split at h
   ·clear hc
    unfold loopG at h
    generalize plainC c=c at h
    split at h
    ·exact h.elim
    ·rename_i hlc
     split at h
     ·rename_i xs hxs
      split at h
      ·rename_i sh hsh
       obtain⟨I,μ,⟨g0,h0⟩,hall⟩:=h
       let wr:=written b []
       let K':Nat→Ex→St→List Loc→Prop:=fun n e s' L=>match e with
        | .normal=>match sameVers c.locs 0 L s'.L&&Nat.beq s'.M.length s.M.length,valsOf c s' with
         |true,some zs=>∃g':Int,∀w2,grow s'.wb s'.D w2→app sh (I g') (μ g') zs fun J' m'=>J' w2∧m'<n
         |_,_=>False
        |e=>K e s'
       let Inv:Nat→Act→World→Prop:=fun n a' w'=>Same (Written wr) a a'∧∃(ys:List SV) (J:World→Prop),(∀w1,Keeps F w0 w1→J w1→code P w0 F loops cuts b (headOf c wr s ys w1) fun e s'=>K' n e s' (headOf c wr s ys w1).L)∧J w'∧
        Ok w0 F Z N (headOf c wr s ys w') a' w'∧Moves s (headOf c wr s ys w') c.locs
       obtain⟨ys0,J0,m0,q1,q2,q3,q4,q5⟩:=app_all (β:=blks s.L) (valsOf_ok H hxs) (h0 w H.grow.grow) (hall g0)
       obtain⟨p1,p2⟩:=head_ok H H ⟨[],Moves.refl _ _⟩ (Same.refl (Written wr) a) hlc (Nat.beq_refl _) (fun k l l' _ h1 h2=>by rw[h1] at h2;rw[Option.some.inj h2]) hxs q3 q4 q5
       refine wp_loop_count Inv ?_ m0 a w ⟨Same.refl _ _,ys0,J0,fun w1 h1 h2=>?_,q1,p1,p2⟩
       ·rintro n a1 w1 ⟨i1,ys,J,i2,i3,i4,i5⟩
        refine wpIn_mono (ih (R:=fun e a2 w2=>match e with| .normal=>∃m,m<n∧Inv m a2 w2|e=>R e a2 w2) hrd hd i4 (i2 w1 i4.keeps i3) ?_) fun e a w hq=>hq.seq
        intro e s' a2 w2 k1 k2 ⟨ch,k3⟩ k4
        have hmv:=i5.trans k3
        have hsame:Same (Written wr) a a2:=i1.trans k4
        cases e with
        |normal=>
         simp only[K'] at k1⊢
         split at k1
         ·rename_i zs hv hz
          simp only[Bool.and_eq_true] at hv
          obtain⟨g1,k1⟩:=k1
          obtain⟨ys',J',m',r1,r2,r3,r4,r5⟩:=app_all (β:=blks s'.L) (valsOf_ok k2 hz) (k1 w2 k2.grow.grow) (hall g1)
          have hver:∀(k:Nat) (l l':Loc),k∉c.locs→s.L[k]? =some l→s'.L[k]? =some l'→l'.cells=l.cells:=by
           intro k l l' hk hl hl'
           obtain⟨lh,t1,_,_,_,t5,_⟩:=i5.old k l hl
           obtain rfl:=t5 hk
           obtain⟨l2,u1,_,_,u4,_⟩:=k3.old k lh t1
           obtain rfl:l'=l2:=by rw[hl'] at u1;exact Option.some.inj u1
           exact u4 (sameVers_get hv.1 t1 hl' (by simpa using hk)).symm
          obtain⟨p1,p2⟩:=head_ok H k2 ⟨_,hmv⟩ hsame hlc hv.2 hver hz r3 r4 r5
          exact⟨m',r1.2,hsame,ys',J',fun w3 h1 h2=>r2 w3 h1 h2,r1.1,p1,p2⟩
         ·exact k1.elim
        |exit i=>exact hR _ s' a2 w2 k1 k2 ⟨_,hmv⟩ hsame
        |ret=>exact hR _ s' a2 w2 k1 k2 ⟨_,hmv⟩ hsame
       ·exact q2 w1 h1 h2
      ·exact h.elim
     ·exact h.elim
   ·skip
    unfold loopAt at h
    split at h
    ·exact h.elim
    ·rename_i hlc
     split at h
     ·rename_i xs hxs
      split at h
      ·rename_i sh hsh
       obtain⟨I,μ,h0,hall⟩:=h
       let wr:=written b []
       let K':Nat→Ex→St→List Loc→Prop:=fun n e s' L=>match e with
        | .normal=>match sameVers c.locs 0 L s'.L&&Nat.beq s'.M.length s.M.length,valsOf c s' with
         |true,some zs=>∀w2,grow s'.wb s'.D w2→app sh I μ zs fun J' m'=>J' w2∧m'<n
         |_,_=>False
        |e=>K e s'
       let Inv:Nat→Act→World→Prop:=fun n a' w'=>Same (Written wr) a a'∧∃(ys:List SV) (J:World→Prop),(∀w1,Keeps F w0 w1→J w1→code P w0 F loops cuts b (headOf c wr s ys w1) fun e s'=>K' n e s' (headOf c wr s ys w1).L)∧J w'∧
        Ok w0 F Z N (headOf c wr s ys w') a' w'∧Moves s (headOf c wr s ys w') c.locs
       obtain⟨ys0,J0,m0,q1,q2,q3,q4,q5⟩:=app_all (β:=blks s.L) (valsOf_ok H hxs) (h0 w H.grow.grow) hall
       obtain⟨p1,p2⟩:=head_ok H H ⟨[],Moves.refl _ _⟩ (Same.refl (Written wr) a) hlc (Nat.beq_refl _) (fun k l l' _ h1 h2=>by rw[h1] at h2;rw[Option.some.inj h2]) hxs q3 q4 q5
       refine wp_loop_count Inv ?_ m0 a w ⟨Same.refl _ _,ys0,J0,fun w1 h1 h2=>?_,q1,p1,p2⟩
       ·rintro n a1 w1 ⟨i1,ys,J,i2,i3,i4,i5⟩
        refine wpIn_mono (ih (R:=fun e a2 w2=>match e with| .normal=>∃m,m<n∧Inv m a2 w2|e=>R e a2 w2) hrd hd i4 (i2 w1 i4.keeps i3) ?_) fun e a w hq=>hq.seq
        intro e s' a2 w2 k1 k2 ⟨ch,k3⟩ k4
        have hmv:=i5.trans k3
        have hsame:Same (Written wr) a a2:=i1.trans k4
        cases e with
        |normal=>
         simp only[K'] at k1⊢
         split at k1
         ·rename_i zs hv hz
          simp only[Bool.and_eq_true] at hv
          obtain⟨ys',J',m',r1,r2,r3,r4,r5⟩:=app_all (β:=blks s'.L) (valsOf_ok k2 hz) (k1 w2 k2.grow.grow) hall
          have hver:∀(k:Nat) (l l':Loc),k∉c.locs→s.L[k]? =some l→s'.L[k]? =some l'→l'.cells=l.cells:=by
           intro k l l' hk hl hl'
           obtain⟨lh,t1,_,_,_,t5,_⟩:=i5.old k l hl
           obtain rfl:=t5 hk
           obtain⟨l2,u1,_,_,u4,_⟩:=k3.old k lh t1
           obtain rfl:l'=l2:=by rw[hl'] at u1;exact Option.some.inj u1
           exact u4 (sameVers_get hv.1 t1 hl' (by simpa using hk)).symm
          obtain⟨p1,p2⟩:=head_ok H k2 ⟨_,hmv⟩ hsame hlc hv.2 hver hz r3 r4 r5
          exact⟨m',r1.2,hsame,ys',J',fun w3 h1 h2=>r2 w3 h1 h2,r1.1,p1,p2⟩
         ·exact k1.elim
        |exit i=>exact hR _ s' a2 w2 k1 k2 ⟨_,hmv⟩ hsame
        |ret=>exact hR _ s' a2 w2 k1 k2 ⟨_,hmv⟩ hsame
       ·exact q2 w1 h1 h2
      ·exact h.elim
     ·exact h.elim
  ·exact h.elim
 |scope b ih=>
  intro Z rd nn s a w K R hrd hd H h hR
  unfold code at h
  split at h
  ·rename_i hz
   obtain rfl:rd=none:=by
    rcases hrd with e|e
    ·exact e
    ·refine absurd ?_ e
     have:=H.hd.nums
     rw[hz] at this
     exact List.map_eq_nil_iff.1 this.symm
   have hb:=ih (rd:=none) (nn:=nn) (R:=R) (.inl rfl) (by simpa[allDst] using hd) H h fun e s' a' w' k1 k2 k3 k4=>hR e s' a' w' k1 k2 k3 (by simpa[written] using k4)
   have hb':b.wp P (ExQ R) a w:=wpIn_wide.1 hb
   have:(Code.scope b).wp P (ExQ R) a w:=wp_scope_straight (wp_mono hb' fun e a w hq=>by cases e<;>first|exact hq|exact hq.elim)
   exact(wpIn_wide (n:=nn)).2 this
  ·exact h.elim
 |label l=>
  intro Z rd nn s a w K R hrd _ H h hR
  exact wpIn_label (hR .normal s a w h H ⟨[],Moves.refl _ _⟩ (Same.refl _ _))
 |exit id=>
  intro Z rd nn s a w K R hrd _ H h hR
  exact wpIn_exit (hR (.exit id) s a w h H ⟨[],Moves.refl _ _⟩ (Same.refl _ _))
 |ret=>
  intro Z rd nn s a w K R hrd _ H h hR
  exact wpIn_ret (hR .ret s a w h H ⟨[],Moves.refl _ _⟩ (Same.refl _ _))
 |rangeFunc g ps as_ bd _ ih=>
  intro Z rd nn s a w K R hrd hd H h hR
  unfold code at h
  split at h
  rotate_left
  ·exact h.elim
  rename_i t p' p c f first cap hz hasg hps hc hg
  split at h
  rotate_left
  ·exact h.elim
  rename_i hpp hsl
  obtain rfl:Z=[]:=by
   have:=H.hd.nums
   rw[hz] at this
   exact List.map_eq_nil_iff.1 this.symm
  obtain rfl:rd=none:=by
   rcases hrd with e|e
   ·exact e
   ·exact absurd rfl e
  have hpe:=Nat.eq_of_beq_eq_true hpp
  subst hpe
  simp only[allDst,Bool.and_eq_true] at hd
  have hpN:p<N:=by
   have:=List.all_eq_true.1 hd.1.1 p (by rw[hps];simp)
   simpa using this
  have htN:t<N:=by
   obtain⟨id,l,o,rfl,hl,_,hdo,_⟩:=asgOf_some hasg
   have:=List.all_eq_true.1 hd.1.2 o (by rw[hl];simp)
   rw[hdo] at this
   simpa using this
  exact seq_sound loops cuts (fun{Z rd nn s a w K R}=>ih (Z:=Z) (rd:=rd) (nn:=nn) (s:=s) (a:=a) (w:=w) (K:=K) (R:=R)) hasg hps hg hpN htN hd.2 H h fun s' a' w' k1 k2 k3 k4=>hR .normal s' a' w' k1 k2 k3 fun t _=>by rw[k4]
 |_=>
  intro Z rd nn s a w K R hrd _ H h hR
  exact h.elim
end Go.Sy
namespace Go.Sy
open Go.RowKit (Below)
variable [Codecs]
variable {P:Program} {w0:World} {F:Nat→Prop} {Z:List (Nat×Obj)} {N:Nat}
theorem outs_sound {s:St} {a:Act} {w:World} (H:Ok w0 F Z N s a w) {g:ResultVar→Sem Value} (hg1:∀(t:Tmp) (v:Value),a.tmps.getD t undef=v→(g (.tmp t)).run P w= .ok v w)
  (hg2:∀(c:Tmp) (t:TypeId) (ad:Addr) (v:Value),a.tmps.getD c undef= .pointer (some ad)→(loadVar t ad).run P w= .ok v w→(g (.cell c t)).run P w= .ok v w):
  ∀{rs:List ResultVar} {vs:List SV},outs P s rs=some vs→(rs.mapM g).run P w= .ok (reals (blks s.L) vs) w∧okvs s.L.length vs
 |[],vs,h=>by cases h;exact⟨rfl,trivial⟩
 | .tmp t::rs,vs,h=>by
  simp only[outs,Option.bind_eq_some_iff,Option.map_eq_some_iff] at h
  obtain⟨v,hv,us,hu,rfl⟩:=h
  obtain⟨h1,h2⟩:=H.env t v hv
  obtain⟨k1,k2⟩:=outs_sound H hg1 hg2 hu
  exact⟨by simp only[List.mapM_cons,Sem.run_bind,hg1 t _ h2,Result.andThen_ok,k1,Sem.run_pure,reals],h1,k2⟩
 | .cell c t::rs,vs,h=>by
  unfold outs at h
  split at h
  ·rename_i k o hc
   simp only[Option.bind_eq_some_iff] at h
   obtain⟨n,hn,g',hg,cs,hcs,h⟩:=h
   obtain⟨h1,h2⟩:=H.env c _ hc
   obtain⟨l,hl,hle,hcc⟩:=readLoc_sound hcs
   obtain⟨o1,o2⟩:=H.cells k l hl
   have hat:=At.own (m:=n) (cs:=cs) hl (H.lies k l hl).1 hcc
   have hlen:cs.length=n:=by rw[hcc];simp<;>omega
   have hok:okvs s.L.length cs:=by rw[hcc];exact okvs_iff.2 fun u hu=>okvs_iff.1 o1 u (List.mem_of_mem_drop (List.mem_of_mem_take hu))
   have hsc:cs.all SV.scalar=true:=by rw[hcc];exact List.all_eq_true.2 fun u hu=>List.all_eq_true.1 o2 u (List.mem_of_mem_drop (List.mem_of_mem_take hu))
   have hptr:a.tmps.getD c undef= .pointer (some ⟨(blks s.L).getD k 0,o,none⟩):=h2
   have hrun:∀(h1':g'=false→n=1),(loadVar t ⟨(blks s.L).getD k 0,o,none⟩).run P w= .ok (loadVal g' (reals (blks s.L) cs)) w:=fun h1'=>by
    have:=run_loadAt (P:=P) hn hg (a:=⟨(blks s.L).getD k 0,o,none⟩) (o:=0) (vs:=reals (blks s.L) cs) (by rw[reals_length,hlen]) h1' hat
    simpa[Addr.add] using this
   cases g' with
   |true=>
    simp only[Option.map_eq_some_iff] at h
    obtain⟨us,hu,rfl⟩:=h
    obtain⟨k1,k2⟩:=outs_sound H hg1 hg2 hu
    refine⟨?_,⟨hok,hsc⟩,k2⟩
    have:=hg2 c t _ _ hptr (hrun fun e=>by cases e)
    simp only[List.mapM_cons,Sem.run_bind,this,Result.andThen_ok,k1,Sem.run_pure,reals,real,loadVal]
   |false=>
    cases cs with
    |nil=>cases h
    |cons v rest=>
     cases rest with
     |cons _ _=>cases h
     |nil=>
      simp only[Option.map_eq_some_iff] at h
      obtain⟨us,hu,rfl⟩:=h
      obtain⟨k1,k2⟩:=outs_sound H hg1 hg2 hu
      refine⟨?_,hok.1,k2⟩
      have:=hg2 c t _ _ hptr (hrun fun _=>hlen.symm)
      simp only[List.mapM_cons,Sem.run_bind,this,Result.andThen_ok,k1,Sem.run_pure,reals,loadVal]
      rfl
  ·cases h
theorem outs_same {s s2:St} (hT:s2.T=s.T) (hL:s2.L=s.L):∀rs:List ResultVar,outs P s2 rs=outs P s rs
 |[]=>rfl
 | .tmp t::rs=>by simp only[outs,hT,outs_same hT hL rs]
 | .cell c t::rs=>by simp only[outs,hT,hL,outs_same hT hL rs]
theorem results_sound {s:St} {a:Act} {w:World} (H:Ok w0 F Z N s a w) {fn:Func} {vs:List SV} (h:outs P s fn.results.toList=some vs):(results fn a.tmps).run P w= .ok (real (blks s.L) (resVal vs)) w:=by
 have hm:∀g:ResultVar→Sem Value,(∀(t:Tmp) (v:Value),a.tmps.getD t undef=v→(g (.tmp t)).run P w= .ok v w)→
   (∀(c:Tmp) (t:TypeId) (ad:Addr) (v:Value),a.tmps.getD c undef= .pointer (some ad)→(loadVar t ad).run P w= .ok v w→(g (.cell c t)).run P w= .ok v w)→(fn.results.mapM g).run P w= .ok (reals (blks s.L) vs).toArray w:=by
  intro g h1 h2
  rw[Array.mapM_eq_mapM_toList,map_eq_pure_bind,Sem.run_bind,(outs_sound H h1 h2 h).1]
  rfl
 unfold results
 rw[Sem.run_bind,hm _ (fun t v hv=>by simp only[Sem.run_pure,hv]) (fun c t ad v hc hl=>by simp only[hc,asAddr,Sem.run_bind,Sem.run_pure,Result.andThen_ok,hl])]
 simp only[Result.andThen_ok]
 match vs with
 |[u]=>rfl
 |[]=>rfl
 |u::u2::us=>rfl
theorem enter_ok {args:List SV} (n:Nat) (hargs:okvs 0 args):EnvOk 0 [] (enterAt 0 args .leaf) ((reals [] args).toArray++Array.replicate n undef):=by
 have key:∀(l:List SV) (i:Nat) (T:Env) (t:Nat) (v:SV),(enterAt i l T).at t=some v→T.at t=some v∨∃j,t=i+j∧l[j]? =some v:=by
  intro l
  induction l with
  |nil=>intro i T t v h;exact .inl h
  |cons x l ih=>
   intro i T t v h
   rcases ih (i+1) _ t v h with h1|⟨j,h1,h2⟩
   ·rw[at_set] at h1
    split at h1
    ·rename_i e
     exact .inr ⟨0,by omega,h1⟩
    ·exact .inl h1
   ·exact .inr ⟨j+1,by omega,h2⟩
 intro t v hv
 rcases key args 0 .leaf t v hv with h1|⟨j,h1,h2⟩
 ·unfold Env.at at h1
  rw[Abs.Tr.get_leaf] at h1
  cases h1
 ·obtain rfl:t=j:=by omega
  have hlt:=(List.getElem?_eq_some_iff.1 h2).1
  refine⟨okvs_iff.1 hargs v (List.mem_iff_getElem?.2 ⟨_,h2⟩),?_⟩
  have:((reals [] args).toArray++Array.replicate n undef)[t]? =some (real [] v):=by
   rw[Array.getElem?_append_left (by simpa[reals_length] using hlt)]
   simp[reals_eq,h2]
  rw[Array.getD_eq_getD_getElem?,this]
  rfl
theorem allDst_mono {m n:Nat} (h:m≤n):∀c,allDst m c=true→allDst n c=true:=by
 intro c
 induction c with
 |region id l d=>
  intro hg
  simp only[allDst,List.all_eq_true] at hg⊢
  intro o ho
  have:=hg o ho
  split
  ·rename_i d hd
   rw[hd] at this
   simp only[Nat.blt_eq] at this⊢
   omega
  ·rfl
 |seq x y ihx ihy=>intro hg;simp only[allDst,Bool.and_eq_true] at hg⊢;exact⟨ihx hg.1,ihy hg.2⟩
 |cond c x y ihx ihy=>intro hg;simp only[allDst,Bool.and_eq_true] at hg⊢;exact⟨ihx hg.1,ihy hg.2⟩
 |block id c ih=>exact ih
 |loop c ih=>exact ih
 |scope c ih=>exact ih
 |rangeFunc g ps x y ihx ihy=>
  intro hg
  simp only[allDst,Bool.and_eq_true,List.all_eq_true,Nat.blt_eq] at hg⊢
  exact⟨⟨fun p hp=>by have:=hg.1.1 p hp;omega,ihx hg.1.2⟩,ihy hg.2⟩
 |_=>intro _;rfl
theorem leaves_marks {Fc:Fence} {n:Nat} {fn:Func} {tmps:Array Value} {R:Ending→World→Prop}:∀(M:List Nat) (w:World),M.Nodup→(∀D∈M,w.heap[D]? =some (.deferred (some [])))→
  (∀w2:World,w2.os=w.os→w2.tape=w.tape→w2.output=w.output→w2.heap.size=w.heap.size→(∀k,k∉M→w2.heap[k]? =w.heap[k]?)→∃v,(results fn tmps).run P w2= .ok v w2∧R (.returned v) w2)→LeavesInM Fc n P fn tmps R (M.map mark) .returning w
 |[],w,_,_,hR=>hR w rfl rfl rfl rfl fun _ _=>rfl
 |D::M,w,hn,hm,hR=>by
  refine⟨by simp, .inl ⟨D,_,rfl,run_takeDeferred (hm D List.mem_cons_self),?_⟩⟩
  refine leaves_marks M _ (List.nodup_cons.1 hn).2 (fun D' hD'=>?_) fun w2 e1 e2 e3 e4 e5=>hR w2 e1 e2 e3 (e4.trans (World.putObj_size ..)) fun k hk=>?_
  ·have hne:D'≠D:=by
    rintro rfl
    exact(List.nodup_cons.1 hn).1 hD'
   rw[World.putObj_heap_other hne]
   exact hm D' (List.mem_cons_of_mem _ hD')
  ·rw[e5 k fun h=>hk (List.mem_cons_of_mem _ h),World.putObj_heap_other fun e=>hk (by rw[e];exact List.mem_cons_self)]
theorem func_sound (hm:P.follows .mixedOrders=true) {loops cuts:List Cut} {f:FuncId} {args:List SV} {Q:Value→World→Prop} (hargs:okvs 0 args) (h:func P w0 F loops cuts f args Q):
  Calls P f (reals [] args).toArray w0 fun e w'=>∃v,e= .returned v∧Keeps F w0 w'∧Q v w':=by
 unfold func at h
 split at h
 ·rename_i fn hfn
  split at h
  ·rename_i c hb
   split at h
   ·exact h.elim
   ·rename_i hdst
    refine CallsIn.calls (F:=wideR none) (n:=0) (callsIn_of_wp_marks (F:=wideR none) hfn hb trivial ?_) (fun k=>wideR_room none k)
    have hH:Ok w0 F [] ((reals [] args).toArray++Array.replicate (fn.ntmps-(reals [] args).toArray.size) undef).size {T:=enterAt 0 args .leaf,L:=[],nb:=0,D:=[],wb:=w0,M:=[],Z:=[]} {tmps:=(reals [] args).toArray++Array.replicate (fn.ntmps-(reals [] args).toArray.size) undef,defers:=[]} w0:=
     ⟨enter_ok _ hargs,rfl,⟨rfl,fun D hD=>(by cases hD),fun q hq=>(by cases hq),rfl,List.nodup_nil⟩,fun k l hl=>by simp at hl,fun k l hl=>by simp at hl,fun j k l m hl=>by simp at hl,Nat.le_refl _,fun k l _ hl=>by simp at hl,Ext.refl _ _,⟨rfl,rfl,rfl,Nat.le_refl _,fun _ _ _=>rfl⟩,fun b hb=>by cases hb⟩
    have fin:∀{s':St} {a':Act} {w':World},Ok w0 F [] ((reals [] args).toArray++Array.replicate (fn.ntmps-(reals [] args).toArray.size) undef).size s' a' w'→finish P w0 F fn Q s'→
      LeavesInM (wideR none) 0 P fn a'.tmps (fun e w'=>∃v,e= .returned v∧Keeps F w0 w'∧Q v w') a'.defers .returning w':=fun{s' a' w'} k2 hf=>by
     unfold finish at hf
     split at hf
     ·rename_i vs hvs
      rw[k2.hd.defers]
      refine leaves_marks s'.M w' k2.hd.nodup (fun D hD=>(k2.hd.marks D hD).2) fun w2 e1 e2 e3 e4 e5=>?_
      have hno:∀b∈blks s'.L,b∉s'.M:=fun b hb hm=>by
       obtain⟨j,m,hm',rfl⟩:=blks_mem hb
       have:=(k2.lies j m hm').1
       unfold Whole at this
       rw[(k2.hd.marks _ hm).2] at this
       cases this
      have hk3:Keeps F w0 w2:=⟨e1.trans k2.keeps.os,e2.trans k2.keeps.tape,e3.trans k2.keeps.output,by rw[e4];exact k2.keeps.size,fun i h1 h2=>by
       rw[e5 i fun hi=>absurd (k2.hd.marks i hi).1 (by omega)]
       exact k2.keeps.heap i h1 h2⟩
      have k3:Ok w0 F [] ((reals [] args).toArray++Array.replicate (fn.ntmps-(reals [] args).toArray.size) undef).size {T:=s'.T,L:=s'.L,nb:=s'.L.length,D:=[],wb:=w2,M:=[],Z:=s'.Z} {a' with defers:=[]} w2:=by
       refine⟨k2.env,k2.size,⟨rfl,fun D hD=>(by cases hD),fun q hq=>(by cases hq),k2.hd.nums,List.nodup_nil⟩,k2.cells,fun j m hm=>⟨?_,(k2.lies j m hm).2⟩,k2.apart,Nat.le_refl _,fun j m hj hm=>?_,Ext.refl _ _,hk3,fun b hb=>by cases hb⟩
       ·unfold Whole
        rw[e5 _ (hno _ (mem_blks hm))]
        exact(k2.lies j m hm).1
       ·have hm':s'.L[j]? =some m:=hm
        have hj':s'.L.length≤j:=hj
        rw[List.getElem?_eq_none hj'] at hm'
        cases hm'
      have hgr:Ext s'.wb (s'.M++s'.D) w2:=⟨e1.trans k2.grow.os,e2.trans k2.grow.tape,e3.trans k2.grow.output,by rw[e4];exact k2.grow.size,fun i h1 h2=>by
       rw[e5 i fun hi=>h2 (List.mem_append_left _ hi)]
       exact k2.grow.heap i h1 fun hi=>h2 (List.mem_append_right _ hi)⟩
      have hvs':outs P {T:=s'.T,L:=s'.L,nb:=s'.L.length,D:=[],wb:=w2,M:=[],Z:=s'.Z} fn.results.toList=some vs:=by
       rw[←hvs]
       refine outs_same (s:=s') (s2:={T:=s'.T,L:=s'.L,nb:=s'.L.length,D:=[],wb:=w2,M:=[],Z:=s'.Z}) ?_ ?_ _<;>rfl
      exact⟨_,results_sound k3 hvs',_,rfl,hk3,liesIf_elim k3 (hf w2 hgr.grow hk3)⟩
     ·exact hf.elim
    refine wpIn_mono (code_sound hm loops cuts c (rd:=none) (nn:=0) (R:=fun e a w=>match e with
     | .exit _=>False
     |_=>LeavesInM (wideR none) 0 P fn a.tmps (fun e w'=>∃v,e= .returned v∧Keeps F w0 w'∧Q v w') a.defers .returning w) (.inl rfl) (allDst_mono (by simp<;>omega) c hdst) hH h ?_) ?_
    ·intro e s' a' w' k1 k2 _ _
     cases e with
     |normal=>exact fin k2 k1
     |ret=>exact fin k2 k1
     |exit i=>exact k1
    ·intro e a w hq
     cases e with
     |normal=>exact hq
     |ret=>exact hq
     |exit i=>exact hq.elim
     |_=>exact hq.elim
  ·exact h.elim
 ·exact h.elim
end Go.Sy
namespace Go.Sy
open Go.RowKit (Below)
def Gets (P:Program) (f:FuncId) (args:Array Value) (w:World) (F:Nat→Prop) (Q:Value→World→Prop):Prop:=
 Calls P f args w fun e w'=>∃v,e= .returned v∧Keeps F w w'∧Q v w'
theorem func_run [Codecs] {P:Program} (hm:P.follows .mixedOrders=true) {w0:World} {F:Nat→Prop} {Q:Value→World→Prop} (loops cuts:List Cut) (f:FuncId) (args:List SV) {A:Array Value} {M:Prop} (ha:okvs 0 args) (hA:A=(reals [] args).toArray)
  (hN:M=func P w0 F loops cuts f args Q) (h:M):Gets P f A w0 F Q:=by
 subst hA
 exact func_sound hm ha (hN▸h)
theorem okA (c:Codec) (x:c.T):okv 0 (.agg (c.enc x)):=⟨(c.ok x).1,(c.ok x).2.1⟩
theorem Gets.runs {P:Program} {f:FuncId} {args:Array Value} {w:World} {F:Nat→Prop} {Q:Value→World→Prop} {R:Ending→World→Prop} (h:Gets P f args w F Q) (hR:∀v w',Keeps F w w'→Q v w'→R (.returned v) w'):Runs P f args w R:=
 ⟨h.mono fun e w' ⟨v,he,hk,hq⟩=>by subst he;exact hR v w' hk hq⟩
theorem Gets.mono {P:Program} {f:FuncId} {args:Array Value} {w:World} {F F':Nat→Prop} {Q Q':Value→World→Prop} (h:Gets P f args w F Q) (hF:∀i,F i→F' i) (hq:∀v w',Keeps F w w'→Q v w'→Q' v w'):Gets P f args w F' Q':=
 Calls.mono h fun e w' ⟨v,he,hk,hqq⟩=>⟨v,he,⟨hk.os,hk.tape,hk.output,hk.size,fun i h1 h2=>hk.heap i h1 fun h3=>h2 (hF i h3)⟩,hq v w' hk hqq⟩
def Nix (_:Nat):Prop:=False
theorem Keeps.kept {lo:Nat} {F F':Nat→Prop} {bs:List Nat} {w w':World} (h:Keeps F' w w') (h1:∀i,F' i→i<lo→F i) (h2:∀i,F' i→lo≤i→i∉bs):Kept lo F bs w w':=
 ⟨h.os,h.tape,h.output,h.size,fun i a b c=>h.heap i b fun d=>c (h1 i d a),fun i a b c=>h.heap i c fun d=>h2 i d b a⟩
theorem Keeps.nix {lo:Nat} {F:Nat→Prop} {bs:List Nat} {w w':World} (h:Keeps Nix w w'):Kept lo F bs w w':=h.kept (fun _ h=>h.elim) (fun _ h=>h.elim)
theorem Keeps.kept0 {lo:Nat} {F F':Nat→Prop} {w w':World} (h:Keeps F' w w') (h1:∀i,F' i→i<lo→F i):Kept lo F [] w w':=h.kept h1 (fun _ _ _=>by simp)
theorem Keeps.refl (F:Nat→Prop) (w:World):Keeps F w w:=⟨rfl,rfl,rfl,Nat.le_refl _,fun _ _ _=>rfl⟩
theorem Keeps.trans {F:Nat→Prop} {a b c:World} (h:Keeps F a b) (k:Keeps F b c):Keeps F a c:=
 ⟨k.os.trans h.os,k.tape.trans h.tape,k.output.trans h.output,Nat.le_trans h.size k.size,fun i h1 h2=>(k.heap i (Nat.lt_of_lt_of_le h1 h.size) h2).trans (h.heap i h1 h2)⟩
theorem Keeps.mono {F F':Nat→Prop} {w w':World} (h:Keeps F w w') (hF:∀i,F i→F' i):Keeps F' w w':=⟨h.os,h.tape,h.output,h.size,fun i h1 h2=>h.heap i h1 fun h3=>h2 (hF i h3)⟩
theorem Keeps.below {w w':World} (h:Keeps Nix w w'):Below w.heap.size w w':=⟨h.os,h.tape,h.output,h.size,fun i hi=>h.heap i hi id⟩
theorem Below.keeps {w w':World} (h:Below w.heap.size w w') (F:Nat→Prop):Keeps F w w':=⟨h.os,h.tape,h.output,h.size,fun i hi _=>h.block i hi⟩
theorem Gets.below {P:Program} {f:FuncId} {args:Array Value} {w:World} {v:Value} (h:Gets P f args w Nix fun u _=>u=v):Calls P f args w fun e w'=>e= .returned v∧Below w.heap.size w w':=
 Calls.mono h fun _ _ ⟨_,he,hk,hv⟩=>⟨by rw[he,hv],hk.below⟩
theorem At.keeps {w w':World} {a:Addr} {o:Nat} {vs:List Value} {F:Nat→Prop} (h:At w a o vs) (hk:Keeps F w w') (hF:¬F a.block):At w' a o vs:=by
 intro i v hv
 have h1:=h i v hv
 have hb:(a.add (o+i)).block=a.block:=by unfold Addr.add;split<;>rfl
 rw[←h1]
 exact World.cell?_of_block (hk.heap _ (World.block_lt_of_cell? w _ h1) (by rw[hb];exact hF))
theorem At.sub {w:World} {a:Addr} {o:Nat} {vs us:List Value} (h:At w a o vs) (j:Nat) (hu:us=(vs.drop j).take us.length):At w a (o+j) us:=by
 intro i v hv
 have:vs[j+i]? =some v:=by
  rw[hu,List.getElem?_take] at hv
  split at hv
  ·rwa[List.getElem?_drop] at hv
  ·cases hv
 have:=h (j+i) v this
 rwa[←Nat.add_assoc] at this
theorem At.one {w:World} {a:Addr} {o:Nat} {vs:List Value} {v:Value} (h:At w a o vs) (j:Nat) (hv:vs[j]? =some v):At w a (o+j) [v]:=by
 intro i u hu
 cases i with
 |zero=>cases hu;exact h j _ hv
 |succ i=>simp at hu
end Go.Sy
namespace Go.Rep
open Go.RowKit
structure Col where
 (k i r g b:Int)
 deriving DecidableEq
structure Pn where
 (f b:Col) (fl:Int)
 deriving DecidableEq
structure Cl where
 (r m0 m1 m2 w:Int) (p:Pn)
 deriving DecidableEq
abbrev Col.arr (c:Col):Array Value:=#[.int .i64 c.k, .int .u8 c.i, .int .u8 c.r, .int .u8 c.g, .int .u8 c.b]
abbrev Pn.arr (p:Pn):Array Value:=#[.int .i64 p.f.k, .int .u8 p.f.i, .int .u8 p.f.r, .int .u8 p.f.g, .int .u8 p.f.b, .int .i64 p.b.k, .int .u8 p.b.i, .int .u8 p.b.r, .int .u8 p.b.g, .int .u8 p.b.b, .int .u8 p.fl]
abbrev Cl.arr (c:Cl):Array Value:=#[.int .i32 c.r, .int .i32 c.m0, .int .i32 c.m1, .int .i32 c.m2, .int .i64 c.w, .int .i64 c.p.f.k, .int .u8 c.p.f.i, .int .u8 c.p.f.r, .int .u8 c.p.f.g, .int .u8 c.p.f.b, .int .i64 c.p.b.k, .int .u8 c.p.b.i, .int .u8 c.p.b.r, .int .u8 c.p.b.g, .int .u8 c.p.b.b, .int .u8 c.p.fl]
def cvals (l:List Cl):List Value:=(l.map fun c=>c.arr.toList).flatten
theorem cvals_nil:cvals []=[]:=rfl
theorem cvals_cons (c:Cl) (l:List Cl):cvals (c::l)=c.arr.toList++cvals l:=rfl
theorem cvals_append (l m:List Cl):cvals (l++m)=cvals l++cvals m:=by simp[cvals]
theorem cvals_length (l:List Cl):(cvals l).length=l.length*16:=by
 induction l with
 |nil=>rfl
 |cons c l ih=>rw[cvals_cons,List.length_append,ih];show 16+l.length*16=(l.length+1)*16;omega
theorem cvals_drop (l:List Cl) (k:Nat):(cvals l).drop (k*16)=cvals (l.drop k):=by
 induction k generalizing l with
 |zero=>rw[Nat.zero_mul];rfl
 |succ k ih=>
  cases l with
  |nil=>simp[cvals_nil]
  |cons c l=>
   rw[cvals_cons,show(k+1)*16=16+k*16 by omega,←List.drop_drop]
   exact ih l
theorem cvals_take (l:List Cl) (k:Nat):(cvals l).take (k*16)=cvals (l.take k):=by
 induction k generalizing l with
 |zero=>rw[Nat.zero_mul];rfl
 |succ k ih=>
  cases l with
  |nil=>simp[cvals_nil]
  |cons c l=>
   rw[cvals_cons,show(k+1)*16=16+k*16 by omega,List.take_append,List.take_of_length_le (Nat.le_add_right 16 _)]
   show c.arr.toList++(cvals l).take (16+k*16-16)=c.arr.toList++cvals (l.take k)
   rw[show 16+k*16-16=k*16 by omega,ih]
theorem cvals_one (l:List Cl):∀u∈cvals l,u.oneCell'=true:=by
 induction l with
 |nil=>intro u hu;cases hu
 |cons c l ih=>
  intro u hu
  rw[cvals_cons,List.mem_append] at hu
  rcases hu with hu|hu
  ·simp only[List.mem_cons,List.not_mem_nil,or_false] at hu
   rcases hu with rfl|rfl|rfl|rfl|rfl|rfl|rfl|rfl|rfl|rfl|rfl|rfl|rfl|rfl|rfl|rfl<;>rfl
  ·exact ih u hu
structure Ln where
 (ad:Option Addr) (cap:Nat) (cs:List Cl) (soft:Bool)
abbrev Ln.arr (l:Ln):Array Value:=#[.slice l.ad l.cs.length l.cap, .bool l.soft]
def hdrs (ls:List Ln):List Value:=(ls.map fun l=>l.arr.toList).flatten
theorem hdrs_cons (l:Ln) (ls:List Ln):hdrs (l::ls)=l.arr.toList++hdrs ls:=rfl
theorem hdrs_append (l m:List Ln):hdrs (l++m)=hdrs l++hdrs m:=by simp[hdrs]
theorem hdrs_length (ls:List Ln):(hdrs ls).length=ls.length*2:=by
 induction ls with
 |nil=>rfl
 |cons c l ih=>rw[hdrs_cons,List.length_append,ih];show 2+l.length*2=(l.length+1)*2;omega
theorem hdrs_one (ls:List Ln):∀u∈hdrs ls,u.oneCell'=true:=by
 induction ls with
 |nil=>intro u hu;cases hu
 |cons c l ih=>
  intro u hu
  rw[hdrs_cons,List.mem_append] at hu
  rcases hu with hu|hu
  ·simp only[List.mem_cons,List.not_mem_nil,or_false] at hu
   rcases hu with rfl|rfl<;>rfl
  ·exact ih u hu
end Go.Rep
namespace Go.Rep
open Go.RowKit
structure Sl where
 (p:Option Addr) (n c:Nat)
def Col.cod:Sy.Codec:=⟨Col,5,fun x=>[.int .i64 x.k, .int .u8 x.i, .int .u8 x.r, .int .u8 x.g, .int .u8 x.b],fun x=>⟨by repeat' (first|trivial|constructor),rfl,rfl⟩⟩
def Pn.cod:Sy.Codec:=⟨Pn,11,fun x=>[.int .i64 x.f.k, .int .u8 x.f.i, .int .u8 x.f.r, .int .u8 x.f.g, .int .u8 x.f.b, .int .i64 x.b.k, .int .u8 x.b.i, .int .u8 x.b.r, .int .u8 x.b.g, .int .u8 x.b.b, .int .u8 x.fl],fun x=>⟨by repeat' (first|trivial|constructor),rfl,rfl⟩⟩
def Cl.cod:Sy.Codec:=⟨Cl,16,fun x=>[.int .i32 x.r, .int .i32 x.m0, .int .i32 x.m1, .int .i32 x.m2, .int .i64 x.w, .int .i64 x.p.f.k, .int .u8 x.p.f.i, .int .u8 x.p.f.r, .int .u8 x.p.f.g, .int .u8 x.p.f.b, .int .i64 x.p.b.k, .int .u8 x.p.b.i, .int .u8 x.p.b.r, .int .u8 x.p.b.g, .int .u8 x.p.b.b, .int .u8 x.p.fl],fun x=>⟨by repeat' (first|trivial|constructor),rfl,rfl⟩⟩
structure Cf where
 rows:Int
 cols:Int
 hist:Int
abbrev Cf.arr (x:Cf):Array Value:=#[.int .i64 x.rows, .int .i64 x.cols, .int .i64 x.hist]
def Cf.cod:Sy.Codec:=⟨Cf,3,fun x=>[.int .i64 x.rows, .int .i64 x.cols, .int .i64 x.hist],fun x=>⟨by repeat' (first|trivial|constructor),rfl,rfl⟩⟩
structure Cu where
 row:Int
 col:Int
 pend:Bool
abbrev Cu.arr (x:Cu):Array Value:=#[.int .i64 x.row, .int .i64 x.col, .bool x.pend]
def Cu.cod:Sy.Codec:=⟨Cu,3,fun x=>[.int .i64 x.row, .int .i64 x.col, .bool (.ok x.pend)],fun x=>⟨by repeat' (first|trivial|constructor),rfl,rfl⟩⟩
structure Rg where
 top:Int
 bot:Int
abbrev Rg.arr (x:Rg):Array Value:=#[.int .i64 x.top, .int .i64 x.bot]
def Rg.cod:Sy.Codec:=⟨Rg,2,fun x=>[.int .i64 x.top, .int .i64 x.bot],fun x=>⟨by repeat' (first|trivial|constructor),rfl,rfl⟩⟩
structure Ar where
 rows:Int
 cols:Int
 rg:Rg
 org:Bool
abbrev Ar.arr (x:Ar):Array Value:=#[.int .i64 x.rows, .int .i64 x.cols, .int .i64 x.rg.top, .int .i64 x.rg.bot, .bool x.org]
def Ar.cod:Sy.Codec:=⟨Ar,5,fun x=>[.int .i64 x.rows, .int .i64 x.cols, .int .i64 x.rg.top, .int .i64 x.rg.bot, .bool (.ok x.org)],fun x=>⟨by repeat' (first|trivial|constructor),rfl,rfl⟩⟩
structure Md where
 aw:Bool
 org:Bool
 ins:Bool
 vis:Bool
 app:Bool
 pas:Bool
 sgr:Bool
 ptr:Int
 alt:Int
abbrev Md.arr (x:Md):Array Value:=#[.bool x.aw, .bool x.org, .bool x.ins, .bool x.vis, .bool x.app, .bool x.pas, .bool x.sgr, .int .i64 x.ptr, .int .i64 x.alt]
def Md.cod:Sy.Codec:=⟨Md,9,fun x=>[.bool (.ok x.aw), .bool (.ok x.org), .bool (.ok x.ins), .bool (.ok x.vis), .bool (.ok x.app), .bool (.ok x.pas), .bool (.ok x.sgr), .int .i64 x.ptr, .int .i64 x.alt],fun x=>⟨by repeat' (first|trivial|constructor),rfl,rfl⟩⟩
structure Cs where
 g0:Int
 g1:Int
 act:Int
abbrev Cs.arr (x:Cs):Array Value:=#[.int .i64 x.g0, .int .i64 x.g1, .int .i64 x.act]
def Cs.cod:Sy.Codec:=⟨Cs,3,fun x=>[.int .i64 x.g0, .int .i64 x.g1, .int .i64 x.act],fun x=>⟨by repeat' (first|trivial|constructor),rfl,rfl⟩⟩
structure Sv where
 cu:Cu
 p:Pn
 org:Bool
 cs:Cs
abbrev Sv.arr (x:Sv):Array Value:=#[.int .i64 x.cu.row, .int .i64 x.cu.col, .bool x.cu.pend, .int .i64 x.p.f.k, .int .u8 x.p.f.i, .int .u8 x.p.f.r, .int .u8 x.p.f.g, .int .u8 x.p.f.b, .int .i64 x.p.b.k, .int .u8 x.p.b.i, .int .u8 x.p.b.r, .int .u8 x.p.b.g, .int .u8 x.p.b.b, .int .u8 x.p.fl, .bool x.org, .int .i64 x.cs.g0, .int .i64 x.cs.g1, .int .i64 x.cs.act]
def Sv.cod:Sy.Codec:=⟨Sv,18,fun x=>[.int .i64 x.cu.row, .int .i64 x.cu.col, .bool (.ok x.cu.pend), .int .i64 x.p.f.k, .int .u8 x.p.f.i, .int .u8 x.p.f.r, .int .u8 x.p.f.g, .int .u8 x.p.f.b, .int .i64 x.p.b.k, .int .u8 x.p.b.i, .int .u8 x.p.b.r, .int .u8 x.p.b.g, .int .u8 x.p.b.b, .int .u8 x.p.fl, .bool (.ok x.org), .int .i64 x.cs.g0, .int .i64 x.cs.g1, .int .i64 x.cs.act],fun x=>⟨by repeat' (first|trivial|constructor),rfl,rfl⟩⟩
structure Lh where
 cells:Sl
 soft:Bool
abbrev Lh.arr (x:Lh):Array Value:=#[.slice x.cells.p x.cells.n x.cells.c, .bool x.soft]
def Lh.cod:Sy.Codec:=⟨Lh,2,fun x=>[.sl x.cells.p x.cells.n x.cells.c, .bool (.ok x.soft)],fun x=>⟨by repeat' (first|trivial|constructor),rfl,rfl⟩⟩
structure Ac where
 kind:Int
 rune:Int
 pre:Int
 inter:List UInt8
 par:Sl
 text:List UInt8
abbrev Ac.arr (x:Ac):Array Value:=#[.int .i64 x.kind, .int .i32 x.rune, .int .i32 x.pre, .string ⟨x.inter.toArray⟩, .slice x.par.p x.par.n x.par.c, .string ⟨x.text.toArray⟩]
def Ac.cod:Sy.Codec:=⟨Ac,6,fun x=>[.int .i64 x.kind, .int .i32 x.rune, .int .i32 x.pre, .str x.inter, .sl x.par.p x.par.n x.par.c, .str x.text],fun x=>⟨by repeat' (first|trivial|constructor),rfl,rfl⟩⟩
structure Sn where
 lines:Sl
 cols:Int
 first:Int
 back:Int
 hist:Int
 cu:Cu
 md:Md
 pen:Pn
 title:List UInt8
abbrev Sn.arr (x:Sn):Array Value:=#[.slice x.lines.p x.lines.n x.lines.c, .int .i64 x.cols, .int .i64 x.first, .int .i64 x.back, .int .i64 x.hist, .int .i64 x.cu.row, .int .i64 x.cu.col, .bool x.cu.pend, .bool x.md.aw, .bool x.md.org, .bool x.md.ins, .bool x.md.vis, .bool x.md.app, .bool x.md.pas, .bool x.md.sgr, .int .i64 x.md.ptr, .int .i64 x.md.alt, .int .i64 x.pen.f.k, .int .u8 x.pen.f.i, .int .u8 x.pen.f.r, .int .u8 x.pen.f.g, .int .u8 x.pen.f.b, .int .i64 x.pen.b.k, .int .u8 x.pen.b.i, .int .u8 x.pen.b.r, .int .u8 x.pen.b.g, .int .u8 x.pen.b.b, .int .u8 x.pen.fl, .string ⟨x.title.toArray⟩]
def Sn.cod:Sy.Codec:=⟨Sn,29,fun x=>[.sl x.lines.p x.lines.n x.lines.c, .int .i64 x.cols, .int .i64 x.first, .int .i64 x.back, .int .i64 x.hist, .int .i64 x.cu.row, .int .i64 x.cu.col, .bool (.ok x.cu.pend), .bool (.ok x.md.aw), .bool (.ok x.md.org), .bool (.ok x.md.ins), .bool (.ok x.md.vis), .bool (.ok x.md.app), .bool (.ok x.md.pas), .bool (.ok x.md.sgr), .int .i64 x.md.ptr, .int .i64 x.md.alt, .int .i64 x.pen.f.k, .int .u8 x.pen.f.i, .int .u8 x.pen.f.r, .int .u8 x.pen.f.g, .int .u8 x.pen.f.b, .int .i64 x.pen.b.k, .int .u8 x.pen.b.i, .int .u8 x.pen.b.r, .int .u8 x.pen.b.g, .int .u8 x.pen.b.b, .int .u8 x.pen.fl, .str x.title],fun x=>⟨by repeat' (first|trivial|constructor),rfl,rfl⟩⟩
structure Sc where
 kind:Int
 id:List UInt8
 text:List UInt8
def Sc.cod:Sy.Codec:=⟨Sc,3,fun x=>[.int .i64 x.kind, .str x.id, .str x.text],fun x=>⟨by repeat' (first|trivial|constructor),rfl,rfl⟩⟩
structure Ev where
 first:Int
 scr:Int
 next:Int
 deriving DecidableEq
abbrev Ev.arr (x:Ev):Array Value:=#[.int .i64 x.first, .int .i64 x.scr, .int .i64 x.next]
def Ev.cod:Sy.Codec:=⟨Ev,3,fun x=>[.int .i64 x.first, .int .i64 x.scr, .int .i64 x.next],fun x=>⟨by repeat' (first|trivial|constructor),rfl,rfl⟩⟩
structure Pl where
 line:Int
 col:Int
 deriving DecidableEq
abbrev Pl.arr (x:Pl):Array Value:=#[.int .i64 x.line, .int .i64 x.col]
def Pl.cod:Sy.Codec:=⟨Pl,2,fun x=>[.int .i64 x.line, .int .i64 x.col],fun x=>⟨by repeat' (first|trivial|constructor),rfl,rfl⟩⟩
end Go.Rep
namespace Go.Proofs.YtjhhiindeignaaaGreatDoor
abbrev X.scrollbacklaw37_EvictCounts:Nat:=3
abbrev X.scrollbacklaw37_known:Nat:=4
abbrev X.term_New:Nat:=5
abbrev X.term_Write:Nat:=6
abbrev X.scrollbacklaw37_there:Nat:=7
abbrev X.scrollbacklaw37_kept:Nat:=8
abbrev X.scrollbacklaw37_rows:Nat:=9
abbrev X.scrollbacklaw37_line:Nat:=10
abbrev X.evict_Clamp:Nat:=11
abbrev X.term_clamp_int:Nat:=12
abbrev X.screen_New:Nat:=13
abbrev X.view_New:Nat:=14
abbrev X.term_zero:Nat:=15
abbrev X.parser_Write:Nat:=16
abbrev X.screen_Do:Nat:=17
abbrev X.term_follow:Nat:=18
abbrev X.evict_Of:Nat:=19
abbrev X.evict_Kept:Nat:=20
abbrev X.scrollbackref37_Same:Nat:=21
abbrev X.scrollbacklaw37_of:Nat:=22
abbrev X.evict_Line:Nat:=23
abbrev X.scrollbackref06_Same:Nat:=24
abbrev X.place_Clamp:Nat:=25
abbrev X.term_Snapshot:Nat:=26
abbrev X.screen_right:Nat:=27
abbrev X.history_New:Nat:=28
abbrev X.screen_reset:Nat:=29
abbrev X.utf_Decoder_Feed:Nat:=30
abbrev X.parser_Step:Nat:=31
abbrev X.screen_zero:Nat:=32
abbrev X.screen_act:Nat:=33
abbrev X.view_Back:Nat:=34
abbrev X.screen_Modes:Nat:=35
abbrev X.view_Bottom:Nat:=36
abbrev X.view_Pushed:Nat:=37
abbrev X.screen_History:Nat:=38
abbrev X.evict_all:Nat:=39
abbrev X.scrollbackref04_Same:Nat:=40
abbrev X.place_wide:Nat:=41
abbrev X.view_Lines:Nat:=42
abbrev X.screen_Lines:Nat:=43
abbrev X.screen_Cols:Nat:=44
abbrev X.history_Len:Nat:=45
abbrev X.screen_Cursor:Nat:=46
abbrev X.screen_Pen:Nat:=47
abbrev X.screen_Title:Nat:=48
abbrev X.ring_New:Nat:=49
abbrev X.alternate_New:Nat:=50
abbrev X.tabs_New:Nat:=51
abbrev X.region_Whole:Nat:=52
abbrev X.modes_New:Nat:=53
abbrev X.saved_New:Nat:=54
abbrev X.utf_Decoder_Step:Nat:=55
abbrev X.parser_between:Nat:=56
abbrev X.parser_enter:Nat:=57
abbrev X.parser_ground:Nat:=58
abbrev X.parser_string:Nat:=59
abbrev X.parser_escaped:Nat:=60
abbrev X.parser_control:Nat:=61
abbrev X.utf_Valid:Nat:=62
abbrev X.reply_Answer:Nat:=63
abbrev X.screen_area:Nat:=64
abbrev X.screen_answer:Nat:=65
abbrev X.screen_print:Nat:=66
abbrev X.screen_execute:Nat:=67
abbrev X.screen_escape:Nat:=68
abbrev X.screen_control:Nat:=69
abbrev X.screen_command:Nat:=70
abbrev X.view_zero:Nat:=71
abbrev X.view_nothing:Nat:=72
abbrev X.view_clamped:Nat:=73
abbrev X.history_Copy:Nat:=74
abbrev X.term_All:Nat:=75
abbrev X.history_Last:Nat:=76
abbrev X.slices_Clone_Cell:Nat:=77
abbrev X.history_Next:Nat:=78
abbrev X.alternate_Pair_Grid:Nat:=79
abbrev X.grid_Lines:Nat:=80
abbrev X.history_none:Nat:=81
abbrev X.ring_Len:Nat:=82
abbrev X.grid_New:Nat:=83
abbrev X.tabs_Stops_fill:Nat:=84
abbrev X.utf_Decoder_begin:Nat:=85
abbrev X.reply_Attributes:Nat:=91
abbrev X.params_Get:Nat:=92
abbrev X.reply_Status:Nat:=93
abbrev X.reply_Mode:Nat:=94
abbrev X.charset_Map:Nat:=95
abbrev X.width_Of:Nat:=96
abbrev X.alternate_Pair_Do:Nat:=97
abbrev X.screen_print_1:Nat:=98
abbrev X.printer_Mark:Nat:=99
abbrev X.screen_print_2:Nat:=100
abbrev X.printer_Wraps:Nat:=101
abbrev X.screen_wrap:Nat:=102
abbrev X.screen_print_3:Nat:=103
abbrev X.printer_Print:Nat:=104
abbrev X.motion_Left:Nat:=105
abbrev X.screen_tab:Nat:=106
abbrev X.screen_index:Nat:=107
abbrev X.motion_Return:Nat:=108
abbrev X.charset_Shift:Nat:=109
abbrev X.screen_used:Nat:=113
abbrev X.screen_blank:Nat:=118
abbrev X.ring_Copy:Nat:=125
abbrev X.history_All:Nat:=126
abbrev X.history_First:Nat:=127
abbrev X.ring_Range:Nat:=128
abbrev X.ring_Next:Nat:=129
abbrev X.alternate_Pair_none:Nat:=130
abbrev X.grid_Copy:Nat:=131
abbrev X.grid_none:Nat:=132
abbrev X.line_Copy:Nat:=133
abbrev X.ring_First:Nat:=134
abbrev X.grid_blanks:Nat:=135
abbrev X.charset_Valid:Nat:=142
abbrev X.width_in:Nat:=143
abbrev X.printer_check:Nat:=144
abbrev X.grid_Cell:Nat:=145
abbrev X.cell_Written:Nat:=146
abbrev X.cell_Mark:Nat:=147
abbrev X.grid_Put:Nat:=148
abbrev X.printer_wraps:Nat:=149
abbrev X.screen_soften:Nat:=150
abbrev X.cell_Valid:Nat:=151
abbrev X.cell_Blank:Nat:=152
abbrev X.cell_Of:Nat:=153
abbrev X.grid_Cols:Nat:=154
abbrev X.grid_Shift:Nat:=155
abbrev X.motion_check:Nat:=156
abbrev X.motion_Column:Nat:=159
abbrev X.screen_index_1:Nat:=160
abbrev X.region_Index:Nat:=161
abbrev X.screen_keep:Nat:=162
abbrev X.charset_known:Nat:=164
abbrev X.alternate_Pair_Alternate:Nat:=166
abbrev X.region_at:Nat:=169
abbrev X.ring_zero:Nat:=193
abbrev X.ring_pages:Nat:=194
abbrev X.sheet_Copy:Nat:=195
abbrev X.sheet_Len:Nat:=196
abbrev X.sheet_Get:Nat:=197
abbrev X.slices_Repeat_Cell:Nat:=198
abbrev X.slices_BinarySearchFunc_rune:Nat:=203
abbrev X.width_in_1:Nat:=204
abbrev X.grid_Rows:Nat:=205
abbrev X.grid_at:Nat:=206
abbrev X.grid_split:Nat:=207
abbrev X.cell_Spacer:Nat:=208
abbrev X.screen_soften_1:Nat:=209
abbrev X.grid_SetSoft:Nat:=210
abbrev X.pen_Valid:Nat:=211
abbrev X.grid_inked:Nat:=212
abbrev X.grid_wipe:Nat:=213
abbrev X.motion_Valid:Nat:=214
abbrev X.motion_near:Nat:=216
abbrev X.region_Up:Nat:=217
abbrev X.history_Push:Nat:=218
abbrev X.region_check:Nat:=221
abbrev X.grid_Roll:Nat:=222
abbrev X.motion_right:Nat:=227
abbrev X.sheet_zero:Nat:=249
abbrev X.sheet_Lines:Nat:=250
abbrev X.bits_Mul:Nat:=251
abbrev X.grid_there:Nat:=254
abbrev X.pen_ValidColor:Nat:=255
abbrev X.history_valid:Nat:=256
abbrev X.history_push:Nat:=257
abbrev X.region_Right:Nat:=258
abbrev X.slices_Clone_Line:Nat:=259
abbrev X.bits_Mul64:Nat:=288
abbrev X.pen_Index:Nat:=294
abbrev X.pen_True:Nat:=295
abbrev X.line_Valid:Nat:=296
abbrev X.ring_Push:Nat:=297
abbrev X.cell_Row:Nat:=323
abbrev X.sheet_Room:Nat:=324
abbrev X.sheet_New:Nat:=325
abbrev X.sheet_Push:Nat:=326
abbrev X.ring_evict:Nat:=327
abbrev X.sheet_Cap:Nat:=338
abbrev X.sheet_Gone:Nat:=339
abbrev X.sheet_Drop:Nat:=340
abbrev T.int:Nat:=3
abbrev T.bool:Nat:=4
abbrev T.uint8:Nat:=5
abbrev T.string:Nat:=9
abbrev T.int32:Nat:=21
abbrev T.TermConfig:Nat:=27
abbrev T.Errno:Nat:=29
abbrev T.Eviction:Nat:=35
abbrev T.Line:Nat:=39
abbrev T.s_Line:Nat:=40
abbrev T.Place:Nat:=45
abbrev T.p_screen_Screen:Nat:=49
abbrev T.parser_Parser:Nat:=63
abbrev T.term_Term:Nat:=65
abbrev T.Action:Nat:=70
abbrev T.Cursor:Nat:=85
abbrev T.Modes:Nat:=87
abbrev T.Color:Nat:=90
abbrev T.Pen:Nat:=93
abbrev T.Snapshot:Nat:=95
abbrev T.Region:Nat:=103
abbrev T.Charsets:Nat:=108
abbrev T.Saved:Nat:=110
abbrev T.screen_Screen:Nat:=113
abbrev T.view_View:Nat:=116
abbrev T.a3_int32:Nat:=127
abbrev T.Cell:Nat:=129
abbrev T.history_History:Nat:=142
abbrev T.Area:Nat:=159
abbrev T.ring_Ring:Nat:=173
abbrev T.alternate_Pair:Nat:=177
abbrev T.tabs_Stops:Nat:=182
abbrev T.grid_Grid:Nat:=224
abbrev T.p_sheet_Sheet:Nat:=282
abbrev T.sheet_Sheet:Nat:=331
abbrev Y.charset_lines:Nat:=0
abbrev Y.width_marks:Nat:=1
abbrev Y.width_wide:Nat:=2
abbrev Y.count:Nat:=15
end Go.Proofs.YtjhhiindeignaaaGreatDoor
namespace Go.Proofs.YtjhhiindeignaaaGreatDoor
open Go.Rep
instance:Sy.Codecs:=⟨fun t=>bif Nat.beq t 90 then some Col.cod else bif Nat.beq t 93 then some Pn.cod else bif Nat.beq t 129 then some Cl.cod else bif Nat.beq t 27 then some Cf.cod else bif Nat.beq t 85 then some Cu.cod else bif Nat.beq t 103 then some Rg.cod else bif Nat.beq t 159 then some Ar.cod else bif Nat.beq t 87 then some Md.cod else bif Nat.beq t 108 then some Cs.cod else bif Nat.beq t 110 then some Sv.cod else bif Nat.beq t 39 then some Lh.cod else bif Nat.beq t 70 then some Ac.cod else bif Nat.beq t 95 then some Sn.cod else bif Nat.beq t 217 then some Sc.cod else bif Nat.beq t 35 then some Ev.cod else bif Nat.beq t 45 then some Pl.cod else none⟩
theorem mixed:Tryz.prog.follows .mixedOrders=true:=by kernel_rfl
end Go.Proofs.YtjhhiindeignaaaGreatDoor
namespace Go.Sy
open Go.RowKit (Below)
def Fin (w0:World) (F:Nat→Prop) (w:World) (Q:Value→World→Prop) (v:Value):Prop:=∀w',Below w.heap.size w w'→Keeps F w0 w'→Q v w'
def FinE (w0:World) (F:Nat→Prop) (w:World) (ds:List Nat) (Q:Value→World→Prop) (v:Value):Prop:=∀w',Ext w ds w'→Keeps F w0 w'→Q v w'
theorem Fin.of {w0:World} {F:Nat→Prop} {w:World} {Q:Value→World→Prop} {v:Value} (h:∀w',Q v w'):Fin w0 F w Q v:=fun w' _ _=>h w'
theorem FinE.of {w0:World} {F:Nat→Prop} {w:World} {ds:List Nat} {Q:Value→World→Prop} {v:Value} (h:∀w',Q v w'):FinE w0 F w ds Q v:=fun w' _ _=>h w'
theorem Keeps.back {F:Nat→Prop} {a b c:World} (k:Keeps F b c) (h:Keeps F a b):Keeps F a c:=h.trans k
theorem Keeps.backB {F:Nat→Prop} {a b c:World} (k:Below b.heap.size b c) (h:Keeps F a b):Keeps F a c:=h.trans (Below.keeps k F)
end Go.Sy
namespace Go.Rep
structure Ar.ok (a:Ar):Prop where
 r1:1≤a.rows
 r2:a.rows≤1000
 c1:1≤a.cols
 c2:a.cols≤1000
 t:0≤a.rg.top
 tb:a.rg.top≤a.rg.bot
 b:a.rg.bot<a.rows
structure Cu.ok (c:Cu) (a:Ar):Prop where
 r1:0≤c.row
 r2:c.row<a.rows
 c1:0≤c.col
 c2:c.col<a.cols
 p:c.pend=true→c.col=a.cols-1
end Go.Rep
namespace Go.Proofs.YtjhhiindeignaaaGreatDoor
open Go Go.RowKit Go.Sy Go.Rep
def linesT:List Int:=[0xa0,0x25c6,0x2592,0x2409,0x240c,0x240d,0x240a,0xb0,0xb1,0x2424,0x240b,0x2518,0x2510,0x250c,0x2514,0x253c,0x23ba,0x23bb,0x2500,0x23bc,0x23bd,0x251c,0x2524,0x2534,0x252c,0x2502,0x2264,0x2265,0x3c0,0x2260,0xa3,0xb7]
def pointersT:List Int:=[1000,1002,1003]
def screensT:List Int:=[47,1047,1049]
def marksT:List (Int×Int):=[(0x300,0x36f),(0x483,0x489),(0x591,0x5bd),(0x610,0x61a),(0x64b,0x65f),(0x6d6,0x6dc),(0xe31,0xe31),(0xe34,0xe3a),(0xe47,0xe4e),(0x1ab0,0x1aff),(0x1dc0,0x1dff),(0x200b,0x200f),(0x20d0,0x20ff),(0x302a,0x302f),(0x3099,0x309a),(0xfe00,0xfe0f),(0xfe20,0xfe2f),(0xe0100,0xe01ef)]
def wideT:List (Int×Int):=[(0x1100,0x115f),(0x2329,0x232a),(0x2e80,0x3029),(0x3030,0x303e),(0x3041,0x3098),(0x309b,0x33ff),(0x3400,0x4dbf),(0x4e00,0xa4cf),(0xa960,0xa97f),(0xac00,0xd7a3),(0xf900,0xfaff),(0xfe30,0xfe6f),(0xff00,0xff60),(0xffe0,0xffe6),(0x1f300,0x1f64f),(0x1f680,0x1f6ff),(0x1f900,0x1f9ff),(0x20000,0x2fffd),(0x30000,0x3fffd)]
def runesV (l:List Int):List Value:=l.map fun n=> .int .i32 n
def intsV (l:List Int):List Value:=l.map fun n=> .int .i64 n
def pairsV (l:List (Int×Int)):List Value:=(l.map fun p=>[.int .i32 p.1, .int .i32 p.2]).flatten
structure Laid (w:World):Prop where
 size:Y.count≤w.heap.size
 lines:At w ⟨Y.charset_lines,0,none⟩ 0 (runesV linesT)
 marks:At w ⟨Y.width_marks,0,none⟩ 0 (pairsV marksT)
 wide:At w ⟨Y.width_wide,0,none⟩ 0 (pairsV wideT)
theorem Laid.keeps {w w':World} {F:Nat→Prop} (h:Laid w) (hk:Keeps F w w') (hF:∀i,F i→Y.count≤i):Laid w':=
 ⟨Nat.le_trans h.size hk.size,h.lines.keeps hk fun e=>absurd (hF _ e) (by decide),h.marks.keeps hk fun e=>absurd (hF _ e) (by decide),h.wide.keeps hk fun e=>absurd (hF _ e) (by decide)⟩
theorem Laid.nix {w w':World} (hk:Keeps Nix w w') (h:Laid w):Laid w':=h.keeps hk fun _ e=>e.elim
theorem Laid.below {w w':World} (hb:Below w.heap.size w w') (h:Laid w):Laid w':=Laid.nix (Go.Sy.Below.keeps hb Nix) h
def Ret (f:FuncId) (args:Array Value) (w:World) (v:Value):Prop:=Gets Tryz.prog f args w Nix fun u _=>u=v
theorem Ret.runs {f:FuncId} {args:Array Value} {v:Value} {w:World} (h:Ret f args w v) {R:Ending→World→Prop} (hR:∀w',Keeps Nix w w'→R (.returned v) w'):Runs Tryz.prog f args w R:=
 Gets.runs h fun _ w' hk hq=>by subst hq;exact hR w' hk
def Pure (f:FuncId) (args:Array Value) (v:Value):Prop:=∀w:World,Laid w→Ret f args w v
theorem Pure.runs {f:FuncId} {args:Array Value} {v:Value} (h:Pure f args v) {w:World} (hL:Laid w) {R:Ending→World→Prop} (hR:∀w',Keeps Nix w w'→Laid w'→R (.returned v) w'):Runs Tryz.prog f args w R:=
 (h w hL).runs fun w' hk=>hR w' hk (Laid.nix hk hL)
theorem beval (e:BE) (b:Bool):BE.val e=b↔e.is b:=(BE.val_iff e b).symm
theorem bval_dec (e:BE) {p:Prop} [Decidable p] (h:e.is true↔p):BE.val e=decide p:=by
 rw[beval]
 by_cases hp:p
 ·rw[decide_eq_true hp];exact h.2 hp
 ·rw[decide_eq_false hp,←beval]
  cases hv:BE.val e with
  |false=>rfl
  |true=>exact absurd (h.1 ((beval e true).1 hv)) hp
theorem bv_lt (a b:Int):BE.val (.lt a b)=decide (a<b):=bval_dec _ Iff.rfl
theorem bv_le (a b:Int):BE.val (.le a b)=decide (a≤b):=bval_dec _ Iff.rfl
theorem bv_eq (a b:Int):BE.val (.eq a b)=decide (a=b):=bval_dec _ Iff.rfl
theorem bv_ok (b:Bool):BE.val (.ok b)=b:=by
 rw[beval]
 cases b<;>rfl
theorem bv_no (e:BE):BE.val (.no e)= !BE.val e:=BE.not_val e
end Go.Proofs.YtjhhiindeignaaaGreatDoor
namespace Go.Proofs.YtjhhiindeignaaaGreatDoor
open Go Go.RowKit Go.Sy Go.Rep
set_option maxRecDepth 100000
theorem v_parser_Write {w0:World} {F:Nat→Prop} {Q:Value→World→Prop} (p:Addr) (pb:Option Addr) (nb:Nat) (cb:Nat) (h:∀w1:World,(Below w0.heap.size w0 w1)→Runs Tryz.prog X.utf_Decoder_Feed #[(.pointer (some p)),(.slice pb nb cb)] w1 (fun e1 w2=>∃p1:Option Addr,∃n1 n2:Nat,(e1=(.returned (.slice p1 n1 n2)))∧((Kept w0.heap.size F [] w1 w2)∧∃I1:Option Addr→Nat→Nat→Int→World→Prop,∃I2:Option Addr→Nat→Nat→Int→Nat,(∀w9:World,(Below w2.heap.size w2 w9)→I1 none 0 0 0 w9)∧∀p2:Option Addr,∀n3 n4:Nat,∀i1:Int,∀w3:World,(Keeps F w0 w3)→(I1 p2 n3 n4 i1 w3)→((i1<(n1:Int))→∃a1:Addr,(p1=(some a1))∧((((0:Int)≤i1)∧(i1<(n1:Int)))∧∃i2:Int,(At w3 a1 ((Int.toNat i1)*1) [(.int .i32 i2)])∧∀w5:World,(Below w3.heap.size w3 w5)→Runs Tryz.prog X.parser_Step #[(.pointer (some p)),(.int .i32 i2)] w5 (fun e2 w6=>∃p3:Option Addr,∃n5 n6:Nat,(e2=(.returned (.slice p3 n5 n6)))∧((Kept w0.heap.size F [] w5 w6)∧∃s1:List Value,(Room w0.heap.size F [] w6 T.Action 6 p2 n3 n4 s1 n5)∧∃s2:List Value,(((s2.length)=(n5*6))∧((∀v1:Value,(v1∈s2)→(v1.oneCell')=true)∧(((p3=none)→n5=0)∧∀a2:Addr,(p3=(some a2))→At w6 a2 0 s2)))∧((((n3+n5)*72)≤140737488355328)∧∀w7:World,∀p4:Option Addr,∀n7:Nat,(Grown w6 [] p2 n3 n4 T.Action 6 (n3+n5) (s1++s2) w7 p4 n7)→(I64 (i1+1))∧∀w8:World,(Below w7.heap.size w7 w8)→(I1 p4 (n3+n5) n7 (i1+1) w8)∧(I2 p4 (n3+n5) n7 (i1+1)<I2 p2 n3 n4 i1))))))∧(((n1:Int)≤i1)→Fin w0 F w3 Q (.slice p2 n3 n4))))):Gets Tryz.prog X.parser_Write #[(.pointer (some p)),(.slice pb nb cb)] w0 F Q:=
 func_run mixed [⟨5,[5,16],[]⟩] [] X.parser_Write [SV.adr p 0,SV.sl pb nb cb] ⟨by trivial,by trivial,trivial⟩ (by kernel_rfl) (by kernel_rfl) h
end Go.Proofs.YtjhhiindeignaaaGreatDoor
namespace Go.Proofs.YtjhhiindeignaaaGreatDoor
open Go Go.RowKit Go.Sy Go.Rep
set_option maxRecDepth 100000
theorem v_parser_Step {w0:World} {F:Nat→Prop} {Q:Value→World→Prop} (p:Addr) (r:Int) (h:∀w1:World,(Below w0.heap.size w0 w1)→Runs Tryz.prog X.parser_between #[(.int .i32 r),(.int .i32 128),(.int .i32 159)] w1 (fun e1 w2=>∃b1:Bool,(e1=(.returned (.bool b1)))∧((Kept w0.heap.size F [] w1 w2)∧(((b1=true)→∀w54:World,(Below w2.heap.size w2 w54)→Runs Tryz.prog X.parser_Step #[(.pointer (some p)),(.int .i32 27)] w54 (fun e8 w55=>∃p8:Option Addr,∃n20 n21:Nat,(e8=(.returned (.slice p8 n20 n21)))∧((Kept w0.heap.size F [] w54 w55)∧∀w56:World,(Below w55.heap.size w55 w56)→Runs Tryz.prog X.parser_Step #[(.pointer (some p)),(.int .i32 (IntKind.wrap .i32 (r-64)))] w56 (fun e9 w57=>∃p9:Option Addr,∃n22 n23:Nat,(e9=(.returned (.slice p9 n22 n23)))∧((Kept w0.heap.size F [] w56 w57)∧∃s2:List Value,(Room w0.heap.size F [] w57 T.Action 6 p8 n20 n21 s2 n22)∧∃s3:List Value,(((s3.length)=(n22*6))∧((∀v1:Value,(v1∈s3)→(v1.oneCell')=true)∧(((p9=none)→n22=0)∧∀a1:Addr,(p9=(some a1))→At w57 a1 0 s3)))∧((((n20+n22)*72)≤140737488355328)∧∀w58:World,∀p10:Option Addr,∀n24:Nat,(Grown w57 [] p8 n20 n21 T.Action 6 (n20+n22) (s2++s3) w58 p10 n24)→Fin w0 F w58 Q (.slice p10 (n20+n22) n24)))))))∧((b1=false)→∃I1:World→Prop,(((r=27)→∃I6:Option Addr→Nat→Nat→World→Prop,(∃i5:Int,(At w2 p 4 [(.int .i64 i5)])∧(((i5=7)→∃p7:Option Addr,∃n17 n18:Nat,(At w2 p 25 [(.slice p7 n17 n18)])∧∃s1:List UInt8,∀w51:World,(Below w2.heap.size w2 w51)→(BytesAt w51 p7 n17 s1)∧(((p7=none)→n17=0)∧∀w52:World,∀n19:Nat,(Litr w51 [] T.Action [(.int .i64 5),(.int .i32 0),(.int .i32 0),(.string ⟨[].toArray⟩),(.slice none 0 0),(.string ⟨s1.toArray⟩)] w52 n19)→∀w53:World,(Below w52.heap.size w52 w53)→I6 (some ⟨n19,0,none⟩) 1 1 w53))∧((i5≠7)→∀w50:World,(Below w2.heap.size w2 w50)→I6 none 0 0 w50)))∧∀p5:Option Addr,∀n13 n14:Nat,∀w46:World,(Keeps F w0 w46)→(I6 p5 n13 n14 w46)→∀w47:World,(Below w46.heap.size w46 w47)→Runs Tryz.prog X.parser_enter #[(.pointer (some p)),(.int .i64 1)] w47 (fun e7 w48=>∃p6:Option Addr,∃n15 n16:Nat,(e7=(.returned (.slice p6 n15 n16)))∧((Kept w0.heap.size F [] w47 w48)∧Fin w0 F w48 Q (.slice p5 n13 n14))))∧((r≠27)→∃I5:Bool→World→Prop,(((r=24)→∀w45:World,(Below w2.heap.size w2 w45)→((r=24)→I5 true w45)∧((r≠24)→I5 false w45))∧((r≠24)→∀w44:World,(Below w2.heap.size w2 w44)→((r=26)→I5 true w44)∧((r≠26)→I5 false w44)))∧∀b5:Bool,∀w26:World,(Keeps F w0 w26)→(I5 b5 w26)→((b5=true)→∀w40:World,∀n10:Nat,(Litr w26 [] T.Action [(.int .i64 2),(.int .i32 r),(.int .i32 0),(.string ⟨[].toArray⟩),(.slice none 0 0),(.string ⟨[].toArray⟩)] w40 n10)→∀w41:World,(Below w40.heap.size w40 w41)→Runs Tryz.prog X.parser_ground #[(.pointer (some p)),(.slice (some ⟨n10,0,none⟩) 1 1)] w41 (fun e6 w42=>∃p4:Option Addr,∃n11 n12:Nat,(e6=(.returned (.slice p4 n11 n12)))∧((Kept w0.heap.size F [] w41 w42)∧Fin w0 F w42 Q (.slice p4 n11 n12))))∧((b5=false)→∃i2:Int,(At w26 p 4 [(.int .i64 i2)])∧(((i2=7)→∀w37:World,(Below w26.heap.size w26 w37)→Runs Tryz.prog X.parser_string #[(.pointer (some p)),(.int .i32 r)] w37 (fun e5 w38=>∃p3:Option Addr,∃n8 n9:Nat,(e5=(.returned (.slice p3 n8 n9)))∧((Kept w0.heap.size F [] w37 w38)∧Fin w0 F w38 Q (.slice p3 n8 n9))))∧((i2≠7)→∃i3:Int,(At w26 p 4 [(.int .i64 i3)])∧(((i3=8)→Fin w0 F w26 Q (.slice none 0 0))∧((i3≠8)→((r=127)→∃i4:Int,(At w26 p 4 [(.int .i64 i4)])∧(((i4≠0)→Fin w0 F w26 Q (.slice none 0 0))∧((i4=0)→(((0:Int)≤r)→((r<32)→∀w33:World,∀n7:Nat,(Litr w26 [] T.Action [(.int .i64 2),(.int .i32 r),(.int .i32 0),(.string ⟨[].toArray⟩),(.slice none 0 0),(.string ⟨[].toArray⟩)] w33 n7)→Fin w0 F w33 Q (.slice (some ⟨n7,0,none⟩) 1 1))∧(((32:Int)≤r)→∀w32:World,(Below w26.heap.size w26 w32)→I1 w32))∧((r<0)→∀w31:World,(Below w26.heap.size w26 w31)→I1 w31))))∧((r≠127)→(((0:Int)≤r)→((r<32)→∀w29:World,∀n6:Nat,(Litr w26 [] T.Action [(.int .i64 2),(.int .i32 r),(.int .i32 0),(.string ⟨[].toArray⟩),(.slice none 0 0),(.string ⟨[].toArray⟩)] w29 n6)→Fin w0 F w29 Q (.slice (some ⟨n6,0,none⟩) 1 1))∧(((32:Int)≤r)→∀w28:World,(Below w26.heap.size w26 w28)→I1 w28))∧((r<0)→∀w27:World,(Below w26.heap.size w26 w27)→I1 w27)))))))))∧∀w3:World,(Keeps F w0 w3)→(I1 w3)→∃I2:World→Prop,(∃i1:Int,(At w3 p 4 [(.int .i64 i1)])∧∃I3:Bool→World→Prop,(((i1=1)→∀w25:World,(Below w3.heap.size w3 w25)→((i1=1)→I3 true w25)∧((i1≠1)→I3 false w25))∧((i1≠1)→∀w24:World,(Below w3.heap.size w3 w24)→((i1=2)→I3 true w24)∧((i1≠2)→I3 false w24)))∧∀b3:Bool,∀w11:World,(Keeps F w0 w11)→(I3 b3 w11)→((b3=true)→∀w21:World,(Below w11.heap.size w11 w21)→Runs Tryz.prog X.parser_escaped #[(.pointer (some p)),(.int .i32 r)] w21 (fun e4 w22=>∃p2:Option Addr,∃n4 n5:Nat,(e4=(.returned (.slice p2 n4 n5)))∧((Kept w0.heap.size F [] w21 w22)∧Fin w0 F w22 Q (.slice p2 n4 n5))))∧((b3=false)→∃I4:Bool→World→Prop,(((i1=3)→∀w20:World,(Below w11.heap.size w11 w20)→((i1=3)→I4 true w20)∧((i1≠3)→I4 false w20))∧((i1≠3)→((i1=4)→∀w19:World,(Below w11.heap.size w11 w19)→((i1=4)→I4 true w19)∧((i1≠4)→I4 false w19))∧((i1≠4)→((i1=5)→∀w18:World,(Below w11.heap.size w11 w18)→((i1=5)→I4 true w18)∧((i1≠5)→I4 false w18))∧((i1≠5)→∀w17:World,(Below w11.heap.size w11 w17)→((i1=6)→I4 true w17)∧((i1≠6)→I4 false w17)))))∧∀b4:Bool,∀w12:World,(Keeps F w0 w12)→(I4 b4 w12)→((b4=true)→∀w14:World,(Below w12.heap.size w12 w14)→Runs Tryz.prog X.parser_control #[(.pointer (some p)),(.int .i32 r)] w14 (fun e3 w15=>∃p1:Option Addr,∃n2 n3:Nat,(e3=(.returned (.slice p1 n2 n3)))∧((Kept w0.heap.size F [] w14 w15)∧Fin w0 F w15 Q (.slice p1 n2 n3))))∧((b4=false)→∀w13:World,(Below w12.heap.size w12 w13)→I2 w13)))∧∀w4:World,(Keeps F w0 w4)→(I2 w4)→((r=127)→Fin w0 F w4 Q (.slice none 0 0))∧((r≠127)→∀w5:World,(Below w4.heap.size w4 w5)→Runs Tryz.prog X.utf_Valid #[(.int .i32 r)] w5 (fun e2 w6=>∃b2:Bool,(e2=(.returned (.bool b2)))∧((Kept w0.heap.size F [] w5 w6)∧(((b2=false)→Fin w0 F w6 Q (.slice none 0 0))∧((b2=true)→∀w7:World,∀n1:Nat,(Litr w6 [] T.Action [(.int .i64 1),(.int .i32 r),(.int .i32 0),(.string ⟨[].toArray⟩),(.slice none 0 0),(.string ⟨[].toArray⟩)] w7 n1)→Fin w0 F w7 Q (.slice (some ⟨n1,0,none⟩) 1 1))))))))))):Gets Tryz.prog X.parser_Step #[(.pointer (some p)),(.int .i32 r)] w0 F Q:=
 func_run mixed [] [⟨9,[5],[]⟩,⟨13,[35],[]⟩,⟨22,[],[]⟩,⟨25,[84],[]⟩,⟨30,[90],[]⟩,⟨31,[],[]⟩] X.parser_Step [SV.adr p 0,SV.int IntKind.i32 r] ⟨by trivial,by trivial,trivial⟩ (by kernel_rfl) (by kernel_rfl) h
end Go.Proofs.YtjhhiindeignaaaGreatDoor
namespace Go.Proofs.YtjhhiindeignaaaGreatDoor
open Go Go.RowKit Go.Sy Go.Rep
set_option maxRecDepth 100000
theorem v_cell_Valid {w0:World} {F:Nat→Prop} {Q:Value→World→Prop} (c:Cl) (h:∀n1:Nat,(w0.heap.size≤n1)→∀w1:World,(Below w0.heap.size w0 w1)→(Mine w1 w0.heap.size [(n1,T.Cell)])→Runs Tryz.prog X.pen_Valid #[(.agg c.p.arr)] w1 (fun e1 w2=>∃b1:Bool,(e1=(.returned (.bool b1)))∧((Kept w0.heap.size F [n1] w1 w2)∧(((b1=false)→Fin w0 F w2 Q (.bool false))∧((b1=true)→((c.r=0)→((c.w=0)→∃b3:Bool,(∀w46:World,(Op.equal T.a3_int32 (.agg #[(.int .i32 c.m0),(.int .i32 c.m1),(.int .i32 c.m2)]) (.agg #[(.int .i32 0),(.int .i32 0),(.int .i32 0)])).run (Tryz.prog) w46= .ok b3 w46)∧Fin w0 F w2 Q (.bool b3))∧((c.w≠0)→((c.w=1)→∃b2:Bool,(∀w44:World,(Op.equal T.a3_int32 (.agg #[(.int .i32 c.m0),(.int .i32 c.m1),(.int .i32 c.m2)]) (.agg #[(.int .i32 0),(.int .i32 0),(.int .i32 0)])).run (Tryz.prog) w44= .ok b2 w44)∧Fin w0 F w2 Q (.bool b2))∧((c.w≠1)→Fin w0 F w2 Q (.bool false))))∧((c.r≠0)→∃I1:Int→World→Prop,∃I2:Int→Nat,(∀w41:World,(Below w2.heap.size w2 w41)→I1 0 w41)∧∀i1:Int,∀w3:World,(Keeps F w0 w3)→(I1 i1 w3)→((i1<3)→(((0:Int)≤i1)∧(i1<3))∧(((i1=0)→((c.m0≠0)→∀w31:World,(Below w3.heap.size w3 w31)→(Mine w31 w0.heap.size [(n1,T.Cell)])→Runs Tryz.prog X.width_Of #[(.int .i32 c.m0)] w31 (fun e5 w32=>∃i5:Int,(e5=(.returned (.int .i64 i5)))∧((Kept w0.heap.size F [n1] w31 w32)∧(((i5≠0)→Fin w0 F w32 Q (.bool false))∧((i5=0)→(((0:Int)<i1)→(I64 (i1-1))∧((((0:Int)≤(i1-1))∧((i1-1)<3))∧((((i1-1)=0)→((c.m0=0)→Fin w0 F w32 Q (.bool false))∧((c.m0≠0)→(I64 (i1+1))∧∀w38:World,(Below w32.heap.size w32 w38)→(I1 (i1+1) w38)∧(I2 (i1+1)<I2 i1)))∧((((i1-1)=1)→((c.m1=0)→Fin w0 F w32 Q (.bool false))∧((c.m1≠0)→(I64 (i1+1))∧∀w36:World,(Below w32.heap.size w32 w36)→(I1 (i1+1) w36)∧(I2 (i1+1)<I2 i1)))∧((((i1-1)=2)→((c.m2=0)→Fin w0 F w32 Q (.bool false))∧((c.m2≠0)→(I64 (i1+1))∧∀w34:World,(Below w32.heap.size w32 w34)→(I1 (i1+1) w34)∧(I2 (i1+1)<I2 i1)))∧(True))))))∧((i1≤0)→(I64 (i1+1))∧∀w33:World,(Below w32.heap.size w32 w33)→(I1 (i1+1) w33)∧(I2 (i1+1)<I2 i1)))))))∧((c.m0=0)→(I64 (i1+1))∧∀w30:World,(Below w3.heap.size w3 w30)→(I1 (i1+1) w30)∧(I2 (i1+1)<I2 i1)))∧(((i1=1)→((c.m1≠0)→∀w20:World,(Below w3.heap.size w3 w20)→(Mine w20 w0.heap.size [(n1,T.Cell)])→Runs Tryz.prog X.width_Of #[(.int .i32 c.m1)] w20 (fun e4 w21=>∃i4:Int,(e4=(.returned (.int .i64 i4)))∧((Kept w0.heap.size F [n1] w20 w21)∧(((i4≠0)→Fin w0 F w21 Q (.bool false))∧((i4=0)→(((0:Int)<i1)→(I64 (i1-1))∧((((0:Int)≤(i1-1))∧((i1-1)<3))∧((((i1-1)=0)→((c.m0=0)→Fin w0 F w21 Q (.bool false))∧((c.m0≠0)→(I64 (i1+1))∧∀w27:World,(Below w21.heap.size w21 w27)→(I1 (i1+1) w27)∧(I2 (i1+1)<I2 i1)))∧((((i1-1)=1)→((c.m1=0)→Fin w0 F w21 Q (.bool false))∧((c.m1≠0)→(I64 (i1+1))∧∀w25:World,(Below w21.heap.size w21 w25)→(I1 (i1+1) w25)∧(I2 (i1+1)<I2 i1)))∧((((i1-1)=2)→((c.m2=0)→Fin w0 F w21 Q (.bool false))∧((c.m2≠0)→(I64 (i1+1))∧∀w23:World,(Below w21.heap.size w21 w23)→(I1 (i1+1) w23)∧(I2 (i1+1)<I2 i1)))∧(True))))))∧((i1≤0)→(I64 (i1+1))∧∀w22:World,(Below w21.heap.size w21 w22)→(I1 (i1+1) w22)∧(I2 (i1+1)<I2 i1)))))))∧((c.m1=0)→(I64 (i1+1))∧∀w19:World,(Below w3.heap.size w3 w19)→(I1 (i1+1) w19)∧(I2 (i1+1)<I2 i1)))∧(((i1=2)→((c.m2≠0)→∀w9:World,(Below w3.heap.size w3 w9)→(Mine w9 w0.heap.size [(n1,T.Cell)])→Runs Tryz.prog X.width_Of #[(.int .i32 c.m2)] w9 (fun e3 w10=>∃i3:Int,(e3=(.returned (.int .i64 i3)))∧((Kept w0.heap.size F [n1] w9 w10)∧(((i3≠0)→Fin w0 F w10 Q (.bool false))∧((i3=0)→(((0:Int)<i1)→(I64 (i1-1))∧((((0:Int)≤(i1-1))∧((i1-1)<3))∧((((i1-1)=0)→((c.m0=0)→Fin w0 F w10 Q (.bool false))∧((c.m0≠0)→(I64 (i1+1))∧∀w16:World,(Below w10.heap.size w10 w16)→(I1 (i1+1) w16)∧(I2 (i1+1)<I2 i1)))∧((((i1-1)=1)→((c.m1=0)→Fin w0 F w10 Q (.bool false))∧((c.m1≠0)→(I64 (i1+1))∧∀w14:World,(Below w10.heap.size w10 w14)→(I1 (i1+1) w14)∧(I2 (i1+1)<I2 i1)))∧((((i1-1)=2)→((c.m2=0)→Fin w0 F w10 Q (.bool false))∧((c.m2≠0)→(I64 (i1+1))∧∀w12:World,(Below w10.heap.size w10 w12)→(I1 (i1+1) w12)∧(I2 (i1+1)<I2 i1)))∧(True))))))∧((i1≤0)→(I64 (i1+1))∧∀w11:World,(Below w10.heap.size w10 w11)→(I1 (i1+1) w11)∧(I2 (i1+1)<I2 i1)))))))∧((c.m2=0)→(I64 (i1+1))∧∀w8:World,(Below w3.heap.size w3 w8)→(I1 (i1+1) w8)∧(I2 (i1+1)<I2 i1)))∧(True)))))∧(((3:Int)≤i1)→(((0:Int)<c.w)→∀w5:World,(Below w3.heap.size w3 w5)→(Mine w5 w0.heap.size [(n1,T.Cell)])→Runs Tryz.prog X.width_Of #[(.int .i32 c.r)] w5 (fun e2 w6=>∃i2:Int,(e2=(.returned (.int .i64 i2)))∧((Kept w0.heap.size F [n1] w5 w6)∧Fin w0 F w6 Q (.bool (BE.val (.eq c.w i2))))))∧((c.w≤0)→Fin w0 F w3 Q (.bool false))))))))):Gets Tryz.prog X.cell_Valid #[(.agg c.arr)] w0 F Q:=
 func_run mixed [⟨6,[28],[]⟩] [] X.cell_Valid [SV.agg (Cl.cod.enc c)] ⟨okA _ _,trivial⟩ (by kernel_rfl) (by kernel_rfl) h
theorem v_cell_Mark {w0:World} {F:Nat→Prop} {Q:Value→World→Prop} (c:Cl) (r:Int) (h:∀n1:Nat,(w0.heap.size≤n1)→∀n2:Nat,(w0.heap.size≤n2)→∀w1:World,(Below w0.heap.size w0 w1)→(Mine w1 w0.heap.size [(n1,T.Cell),(n2,T.Cell)])→Runs Tryz.prog X.cell_Valid #[(.agg c.arr)] w1 (fun e1 w2=>∃b1:Bool,(e1=(.returned (.bool b1)))∧((Kept w0.heap.size F [n1,n2] w1 w2)∧(((b1=false)→FinE w0 F w2 [n2] Q (.tuple #[(.agg #[(.int .i32 0),(.int .i32 0),(.int .i32 0),(.int .i32 0),(.int .i64 0),(.int .i64 0),(.int .u8 0),(.int .u8 0),(.int .u8 0),(.int .u8 0),(.int .i64 0),(.int .u8 0),(.int .u8 0),(.int .u8 0),(.int .u8 0),(.int .u8 0)]),(.int .i64 2)]))∧((b1=true)→∀w3:World,(Below w2.heap.size w2 w3)→(Mine w3 w0.heap.size [(n1,T.Cell),(n2,T.Cell)])→Runs Tryz.prog X.width_Of #[(.int .i32 r)] w3 (fun e2 w4=>∃i1:Int,(e2=(.returned (.int .i64 i1)))∧((Kept w0.heap.size F [n1,n2] w3 w4)∧(((i1≠0)→FinE w0 F w4 [n2] Q (.tuple #[(.agg #[(.int .i32 0),(.int .i32 0),(.int .i32 0),(.int .i32 0),(.int .i64 0),(.int .i64 0),(.int .u8 0),(.int .u8 0),(.int .u8 0),(.int .u8 0),(.int .i64 0),(.int .u8 0),(.int .u8 0),(.int .u8 0),(.int .u8 0),(.int .u8 0)]),(.int .i64 2)]))∧((i1=0)→∀w5:World,(Below w4.heap.size w4 w5)→(Mine w5 w0.heap.size [(n1,T.Cell),(n2,T.Cell)])→Runs Tryz.prog X.cell_Written #[(.agg c.arr)] w5 (fun e3 w6=>∃b2:Bool,(e3=(.returned (.bool b2)))∧((Kept w0.heap.size F [n1,n2] w5 w6)∧(((b2=false)→FinE w0 F w6 [n2] Q (.tuple #[(.agg #[(.int .i32 0),(.int .i32 0),(.int .i32 0),(.int .i32 0),(.int .i64 0),(.int .i64 0),(.int .u8 0),(.int .u8 0),(.int .u8 0),(.int .u8 0),(.int .i64 0),(.int .u8 0),(.int .u8 0),(.int .u8 0),(.int .u8 0),(.int .u8 0)]),(.int .i64 8)]))∧((b2=true)→∃I1:Int→Int→Int→Int→Int→Int→Int→Int→Int→Int→Int→Int→Int→Int→Int→Int→Int→World→Prop,∃I2:Int→Int→Int→Int→Int→Int→Int→Int→Int→Int→Int→Int→Int→Int→Int→Int→Int→Nat,(∀w21:World,(Below w6.heap.size w6 w21)→I1 0 c.r c.m0 c.m1 c.m2 c.w c.p.f.k c.p.f.i c.p.f.r c.p.f.g c.p.f.b c.p.b.k c.p.b.i c.p.b.r c.p.b.g c.p.b.b c.p.fl w21)∧∀i2 i3 i4 i5 i6 i7 i8 i9 i10 i11 i12 i13 i14 i15 i16 i17 i18:Int,∀w7:World,(Keeps F w0 w7)→(I1 i2 i3 i4 i5 i6 i7 i8 i9 i10 i11 i12 i13 i14 i15 i16 i17 i18 w7)→((i2<3)→(((0:Int)≤i2)∧(i2<3))∧(((i2=0)→((c.m0=0)→(((0:Int)≤i2)∧(i2<3))∧(((i2=0)→FinE w0 F w7 [n2,n1] Q (.tuple #[(.agg #[(.int .i32 i3),(.int .i32 r),(.int .i32 i5),(.int .i32 i6),(.int .i64 i7),(.int .i64 i8),(.int .u8 i9),(.int .u8 i10),(.int .u8 i11),(.int .u8 i12),(.int .i64 i13),(.int .u8 i14),(.int .u8 i15),(.int .u8 i16),(.int .u8 i17),(.int .u8 i18)]),(.int .i64 0)]))∧(((i2=1)→FinE w0 F w7 [n2,n1] Q (.tuple #[(.agg #[(.int .i32 i3),(.int .i32 i4),(.int .i32 r),(.int .i32 i6),(.int .i64 i7),(.int .i64 i8),(.int .u8 i9),(.int .u8 i10),(.int .u8 i11),(.int .u8 i12),(.int .i64 i13),(.int .u8 i14),(.int .u8 i15),(.int .u8 i16),(.int .u8 i17),(.int .u8 i18)]),(.int .i64 0)]))∧(((i2=2)→FinE w0 F w7 [n2,n1] Q (.tuple #[(.agg #[(.int .i32 i3),(.int .i32 i4),(.int .i32 i5),(.int .i32 r),(.int .i64 i7),(.int .i64 i8),(.int .u8 i9),(.int .u8 i10),(.int .u8 i11),(.int .u8 i12),(.int .i64 i13),(.int .u8 i14),(.int .u8 i15),(.int .u8 i16),(.int .u8 i17),(.int .u8 i18)]),(.int .i64 0)]))∧(True)))))∧((c.m0≠0)→(I64 (i2+1))∧∀w17:World,(Below w7.heap.size w7 w17)→(I1 (i2+1) i3 i4 i5 i6 i7 i8 i9 i10 i11 i12 i13 i14 i15 i16 i17 i18 w17)∧(I2 (i2+1) i3 i4 i5 i6 i7 i8 i9 i10 i11 i12 i13 i14 i15 i16 i17 i18<I2 i2 i3 i4 i5 i6 i7 i8 i9 i10 i11 i12 i13 i14 i15 i16 i17 i18)))∧(((i2=1)→((c.m1=0)→(((0:Int)≤i2)∧(i2<3))∧(((i2=0)→FinE w0 F w7 [n2,n1] Q (.tuple #[(.agg #[(.int .i32 i3),(.int .i32 r),(.int .i32 i5),(.int .i32 i6),(.int .i64 i7),(.int .i64 i8),(.int .u8 i9),(.int .u8 i10),(.int .u8 i11),(.int .u8 i12),(.int .i64 i13),(.int .u8 i14),(.int .u8 i15),(.int .u8 i16),(.int .u8 i17),(.int .u8 i18)]),(.int .i64 0)]))∧(((i2=1)→FinE w0 F w7 [n2,n1] Q (.tuple #[(.agg #[(.int .i32 i3),(.int .i32 i4),(.int .i32 r),(.int .i32 i6),(.int .i64 i7),(.int .i64 i8),(.int .u8 i9),(.int .u8 i10),(.int .u8 i11),(.int .u8 i12),(.int .i64 i13),(.int .u8 i14),(.int .u8 i15),(.int .u8 i16),(.int .u8 i17),(.int .u8 i18)]),(.int .i64 0)]))∧(((i2=2)→FinE w0 F w7 [n2,n1] Q (.tuple #[(.agg #[(.int .i32 i3),(.int .i32 i4),(.int .i32 i5),(.int .i32 r),(.int .i64 i7),(.int .i64 i8),(.int .u8 i9),(.int .u8 i10),(.int .u8 i11),(.int .u8 i12),(.int .i64 i13),(.int .u8 i14),(.int .u8 i15),(.int .u8 i16),(.int .u8 i17),(.int .u8 i18)]),(.int .i64 0)]))∧(True)))))∧((c.m1≠0)→(I64 (i2+1))∧∀w13:World,(Below w7.heap.size w7 w13)→(I1 (i2+1) i3 i4 i5 i6 i7 i8 i9 i10 i11 i12 i13 i14 i15 i16 i17 i18 w13)∧(I2 (i2+1) i3 i4 i5 i6 i7 i8 i9 i10 i11 i12 i13 i14 i15 i16 i17 i18<I2 i2 i3 i4 i5 i6 i7 i8 i9 i10 i11 i12 i13 i14 i15 i16 i17 i18)))∧(((i2=2)→((c.m2=0)→(((0:Int)≤i2)∧(i2<3))∧(((i2=0)→FinE w0 F w7 [n2,n1] Q (.tuple #[(.agg #[(.int .i32 i3),(.int .i32 r),(.int .i32 i5),(.int .i32 i6),(.int .i64 i7),(.int .i64 i8),(.int .u8 i9),(.int .u8 i10),(.int .u8 i11),(.int .u8 i12),(.int .i64 i13),(.int .u8 i14),(.int .u8 i15),(.int .u8 i16),(.int .u8 i17),(.int .u8 i18)]),(.int .i64 0)]))∧(((i2=1)→FinE w0 F w7 [n2,n1] Q (.tuple #[(.agg #[(.int .i32 i3),(.int .i32 i4),(.int .i32 r),(.int .i32 i6),(.int .i64 i7),(.int .i64 i8),(.int .u8 i9),(.int .u8 i10),(.int .u8 i11),(.int .u8 i12),(.int .i64 i13),(.int .u8 i14),(.int .u8 i15),(.int .u8 i16),(.int .u8 i17),(.int .u8 i18)]),(.int .i64 0)]))∧(((i2=2)→FinE w0 F w7 [n2,n1] Q (.tuple #[(.agg #[(.int .i32 i3),(.int .i32 i4),(.int .i32 i5),(.int .i32 r),(.int .i64 i7),(.int .i64 i8),(.int .u8 i9),(.int .u8 i10),(.int .u8 i11),(.int .u8 i12),(.int .i64 i13),(.int .u8 i14),(.int .u8 i15),(.int .u8 i16),(.int .u8 i17),(.int .u8 i18)]),(.int .i64 0)]))∧(True)))))∧((c.m2≠0)→(I64 (i2+1))∧∀w9:World,(Below w7.heap.size w7 w9)→(I1 (i2+1) i3 i4 i5 i6 i7 i8 i9 i10 i11 i12 i13 i14 i15 i16 i17 i18 w9)∧(I2 (i2+1) i3 i4 i5 i6 i7 i8 i9 i10 i11 i12 i13 i14 i15 i16 i17 i18<I2 i2 i3 i4 i5 i6 i7 i8 i9 i10 i11 i12 i13 i14 i15 i16 i17 i18)))∧(True)))))∧(((3:Int)≤i2)→FinE w0 F w7 [n2] Q (.tuple #[(.agg #[(.int .i32 0),(.int .i32 0),(.int .i32 0),(.int .i32 0),(.int .i64 0),(.int .i64 0),(.int .u8 0),(.int .u8 0),(.int .u8 0),(.int .u8 0),(.int .i64 0),(.int .u8 0),(.int .u8 0),(.int .u8 0),(.int .u8 0),(.int .u8 0)]),(.int .i64 7)]))))))))))))))):Gets Tryz.prog X.cell_Mark #[(.agg c.arr),(.int .i32 r)] w0 F Q:=
 func_run mixed [⟨6,[25],[0]⟩] [] X.cell_Mark [SV.agg (Cl.cod.enc c),SV.int IntKind.i32 r] ⟨okA _ _,by trivial,trivial⟩ (by kernel_rfl) (by kernel_rfl) h
theorem v_cell_Of {w0:World} {F:Nat→Prop} {Q:Value→World→Prop} (r:Int) (p:Pn) (h:∀n1:Nat,(w0.heap.size≤n1)→∀w1:World,(Below w0.heap.size w0 w1)→(Mine w1 w0.heap.size [(n1,T.Pen)])→Runs Tryz.prog X.width_Of #[(.int .i32 r)] w1 (fun e1 w2=>∃i1:Int,(e1=(.returned (.int .i64 i1)))∧((Kept w0.heap.size F [n1] w1 w2)∧(((i1<1)→Fin w0 F w2 Q (.tuple #[(.slice none 0 0),(.int .i64 2)]))∧(((1:Int)≤i1)→∀w3:World,(Below w2.heap.size w2 w3)→(Mine w3 w0.heap.size [(n1,T.Pen)])→Runs Tryz.prog X.pen_Valid #[(.agg p.arr)] w3 (fun e2 w4=>∃b1:Bool,(e2=(.returned (.bool b1)))∧((Kept w0.heap.size F [n1] w3 w4)∧(((b1=false)→Fin w0 F w4 Q (.tuple #[(.slice none 0 0),(.int .i64 2)]))∧((b1=true)→∀w5:World,∀n2:Nat,(Litr w4 [] T.Cell [(.int .i32 r),(.int .i32 0),(.int .i32 0),(.int .i32 0),(.int .i64 i1),(.int .i64 p.f.k),(.int .u8 p.f.i),(.int .u8 p.f.r),(.int .u8 p.f.g),(.int .u8 p.f.b),(.int .i64 p.b.k),(.int .u8 p.b.i),(.int .u8 p.b.r),(.int .u8 p.b.g),(.int .u8 p.b.b),(.int .u8 p.fl)] w5 n2)→(¬(n2∈[n1]))→((i1=2)→∀w7:World,(Below w5.heap.size w5 w7)→(Mine w7 w0.heap.size [(n1,T.Pen)])→Runs Tryz.prog X.cell_Spacer #[(.agg p.arr)] w7 (fun e3 w8=>∃cl1:Cl,(e3=(.returned (.agg cl1.arr)))∧((Kept w0.heap.size F [n1] w7 w8)∧∀n3:Nat,(w8.heap.size≤n3)→∃s1:List Value,(Room w0.heap.size F [n1,n3] w8 T.Cell 16 (some ⟨n2,0,none⟩) 1 1 s1 1)∧((128≤140737488355328)∧∀w9:World,∀p1:Option Addr,∀n4:Nat,(Grown w8 [] (some ⟨n2,0,none⟩) 1 1 T.Cell 16 2 (s1++cl1.arr.toList) w9 p1 n4)→(∀a1:Addr,(p1=(some a1))→¬(a1.block∈[n1,n3]))→Fin w0 F w9 Q (.tuple #[(.slice p1 2 n4),(.int .i64 0)])))))∧((i1≠2)→Fin w0 F w5 Q (.tuple #[(.slice (some ⟨n2,0,none⟩) 1 1),(.int .i64 0)]))))))))))):Gets Tryz.prog X.cell_Of #[(.int .i32 r),(.agg p.arr)] w0 F Q:=
 func_run mixed [] [] X.cell_Of [SV.int IntKind.i32 r,SV.agg (Pn.cod.enc p)] ⟨by trivial,okA _ _,trivial⟩ (by kernel_rfl) (by kernel_rfl) h
theorem v_cell_Row {w0:World} {F:Nat→Prop} {Q:Value→World→Prop} (pl:Option Addr) (nl:Nat) (cl:Nat) (h:∃I1:Int→World→Prop,∃I2:Int→Nat,(∀w22:World,(Below w0.heap.size w0 w22)→I1 0 w22)∧∀i1:Int,∀w1:World,(Keeps F w0 w1)→(I1 i1 w1)→((i1<(nl:Int))→∃a1:Addr,(pl=(some a1))∧((((0:Int)≤i1)∧(i1<(nl:Int)))∧∃cl1:Cl,(At w1 a1 ((Int.toNat i1)*16) cl1.arr.toList)∧∀n1:Nat,(w1.heap.size≤n1)→(((0:Int)<i1)→(I64 (i1-1))∧∃a2:Addr,(pl=(some a2))∧((((0:Int)≤(i1-1))∧((i1-1)<(nl:Int)))∧∃i2:Int,(At w1 a2 (((Int.toNat (i1-1))*16)+4) [(.int .i64 i2)])∧∀w10:World,(Below w1.heap.size w1 w10)→(Mine w10 w0.heap.size [(n1,T.Cell)])→Runs Tryz.prog X.cell_Valid #[(.agg cl1.arr)] w10 (fun e2 w11=>∃b2:Bool,(e2=(.returned (.bool b2)))∧((Kept w0.heap.size F [n1] w10 w11)∧(((b2=false)→Fin w0 F w11 Q (.bool false))∧((b2=true)→((¬((BE.val (.eq cl1.w 0))=(BE.val (.eq i2 2))))→Fin w0 F w11 Q (.bool false))∧(((BE.val (.eq cl1.w 0))=(BE.val (.eq i2 2)))→((i2=2)→(I64 (i1-1))∧∃a3:Addr,(pl=(some a3))∧((((0:Int)≤(i1-1))∧((i1-1)<(nl:Int)))∧∃pn1:Pn,(At w11 a3 (((Int.toNat (i1-1))*16)+5) pn1.arr.toList)∧∃b3:Bool,(∀w19:World,(Op.equal T.Pen (.agg cl1.p.arr) (.agg pn1.arr)).run (Tryz.prog) w19= .ok b3 w19)∧(((b3=false)→Fin w0 F w11 Q (.bool false))∧((b3=true)→((cl1.w=2)→(I64 ((nl:Int)-1))∧(((i1=((nl:Int)-1))→Fin w0 F w11 Q (.bool false))∧((i1≠((nl:Int)-1))→(I64 (i1+1))∧∀w16:World,(Below w11.heap.size w11 w16)→(I1 (i1+1) w16)∧(I2 (i1+1)<I2 i1))))∧((cl1.w≠2)→(I64 (i1+1))∧∀w15:World,(Below w11.heap.size w11 w15)→(I1 (i1+1) w15)∧(I2 (i1+1)<I2 i1))))))∧((i2≠2)→((cl1.w=2)→(I64 ((nl:Int)-1))∧(((i1=((nl:Int)-1))→Fin w0 F w11 Q (.bool false))∧((i1≠((nl:Int)-1))→(I64 (i1+1))∧∀w13:World,(Below w11.heap.size w11 w13)→(I1 (i1+1) w13)∧(I2 (i1+1)<I2 i1))))∧((cl1.w≠2)→(I64 (i1+1))∧∀w12:World,(Below w11.heap.size w11 w12)→(I1 (i1+1) w12)∧(I2 (i1+1)<I2 i1))))))))))∧((i1≤0)→∀w3:World,(Below w1.heap.size w1 w3)→(Mine w3 w0.heap.size [(n1,T.Cell)])→Runs Tryz.prog X.cell_Valid #[(.agg cl1.arr)] w3 (fun e1 w4=>∃b1:Bool,(e1=(.returned (.bool b1)))∧((Kept w0.heap.size F [n1] w3 w4)∧(((b1=false)→Fin w0 F w4 Q (.bool false))∧((b1=true)→((cl1.w=0)→Fin w0 F w4 Q (.bool false))∧((cl1.w≠0)→((cl1.w=2)→(I64 ((nl:Int)-1))∧(((i1=((nl:Int)-1))→Fin w0 F w4 Q (.bool false))∧((i1≠((nl:Int)-1))→(I64 (i1+1))∧∀w6:World,(Below w4.heap.size w4 w6)→(I1 (i1+1) w6)∧(I2 (i1+1)<I2 i1))))∧((cl1.w≠2)→(I64 (i1+1))∧∀w5:World,(Below w4.heap.size w4 w5)→(I1 (i1+1) w5)∧(I2 (i1+1)<I2 i1))))))))))∧(((nl:Int)≤i1)→Fin w0 F w1 Q (.bool true))):Gets Tryz.prog X.cell_Row #[(.slice pl nl cl)] w0 F Q:=
 func_run mixed [⟨2,[8],[]⟩] [] X.cell_Row [SV.sl pl nl cl] ⟨by trivial,trivial⟩ (by kernel_rfl) (by kernel_rfl) h
theorem v_charset_Map {w0:World} {F:Nat→Prop} {Q:Value→World→Prop} (c:Cs) (r:Int) (h:∀n1:Nat,(w0.heap.size≤n1)→∀w1:World,(Below w0.heap.size w0 w1)→(Mine w1 w0.heap.size [(n1,T.Charsets)])→Runs Tryz.prog X.charset_Valid #[(.agg c.arr)] w1 (fun e1 w2=>∃b1:Bool,(e1=(.returned (.bool b1)))∧((Kept w0.heap.size F [n1] w1 w2)∧(((b1=false)→Fin w0 F w2 Q (.int .i32 r))∧((b1=true)→(((0:Int)≤c.act)∧(c.act<2))∧(((c.act=0)→((c.g0≠1)→Fin w0 F w2 Q (.int .i32 r))∧((c.g0=1)→((r<95)→Fin w0 F w2 Q (.int .i32 r))∧(((95:Int)≤r)→(I64 (IntKind.wrap .i32 (r-95)))∧((((32:Int)≤(IntKind.wrap .i32 (r-95)))→Fin w0 F w2 Q (.int .i32 r))∧(((IntKind.wrap .i32 (r-95))<32)→(((0:Int)≤(IntKind.wrap .i32 (r-95)))∧((IntKind.wrap .i32 (r-95))<32))∧∃i2:Int,(At w2 ⟨Y.charset_lines,0,none⟩ (0+((Int.toNat (IntKind.wrap .i32 (r-95)))*1)) [(.int .i32 i2)])∧Fin w0 F w2 Q (.int .i32 i2))))))∧(((c.act=1)→((c.g1≠1)→Fin w0 F w2 Q (.int .i32 r))∧((c.g1=1)→((r<95)→Fin w0 F w2 Q (.int .i32 r))∧(((95:Int)≤r)→(I64 (IntKind.wrap .i32 (r-95)))∧((((32:Int)≤(IntKind.wrap .i32 (r-95)))→Fin w0 F w2 Q (.int .i32 r))∧(((IntKind.wrap .i32 (r-95))<32)→(((0:Int)≤(IntKind.wrap .i32 (r-95)))∧((IntKind.wrap .i32 (r-95))<32))∧∃i1:Int,(At w2 ⟨Y.charset_lines,0,none⟩ (0+((Int.toNat (IntKind.wrap .i32 (r-95)))*1)) [(.int .i32 i1)])∧Fin w0 F w2 Q (.int .i32 i1))))))∧(True)))))))):Gets Tryz.prog X.charset_Map #[(.agg c.arr),(.int .i32 r)] w0 F Q:=
 func_run mixed [] [] X.charset_Map [SV.agg (Cs.cod.enc c),SV.int IntKind.i32 r] ⟨okA _ _,by trivial,trivial⟩ (by kernel_rfl) (by kernel_rfl) h
end Go.Proofs.YtjhhiindeignaaaGreatDoor
namespace Go.Sy
open Go.RowKit (Below)
theorem Keeps.of_below {w w':World} (h:Below w.heap.size w w'):Keeps Nix w w':=Below.keeps h Nix
structure Row (w:World) (p:Option Addr) (n es:Nat) (vs:List Value):Prop where
 len:vs.length=n*es
 lies:∀a,p=some a→At w a 0 vs
 some_:0<n→∃a,p=some a
variable {w w':World} {p:Option Addr} {n es:Nat} {vs:List Value}
theorem Row.keeps {F:Nat→Prop} (h:Row w p n es vs) (hk:Keeps F w w') (hF:∀a,p=some a→¬F a.block):Row w' p n es vs:=⟨h.len,fun a e=>(h.lies a e).keeps hk (hF a e),h.some_⟩
theorem Row.nix (h:Row w p n es vs) (hk:Keeps Nix w w'):Row w' p n es vs:=h.keeps hk fun _ _ e=>e
theorem Row.below (h:Row w p n es vs) (hb:Below w.heap.size w w'):Row w' p n es vs:=h.nix (Keeps.of_below hb)
theorem At.nix {a:Addr} {o:Nat} (h:At w a o vs) (hk:Keeps Nix w w'):At w' a o vs:=h.keeps hk fun e=>e
theorem Row.at_ (h:Row w p n es vs) {a:Addr} (e:p=some a) (j:Nat) {us:List Value} (hu:us=(vs.drop j).take us.length):At w a j us:=by
 have:=(h.lies a e).sub j hu
 rwa[Nat.zero_add] at this
end Go.Sy
namespace Go.Proofs.YtjhhiindeignaaaGreatDoor
open Go Go.RowKit Go.Sy Go.Rep
theorem runesV_one (l:List Int) (i:Nat) (h:i<l.length):[Value.int .i32 (l.getD i 0)]=((runesV l).drop (i*1)).take [Value.int .i32 (l.getD i 0)].length:=by
 rw[Nat.mul_one,List.drop_eq_getElem_cons (by simpa[runesV] using h)]
 simp[runesV,h]
def IRow (w:World) (p:Option Addr) (n:Nat) (l:List Int):Prop:=Row w p n 1 (intsV l)
def idx (l:List Int) (v:Int) (k:Nat):Int:=match l with
 |[]=> -1
 |x::l=>if v=x then k else idx l v (k+1)
theorem glob_row {w:World} {g:Nat} {vs:List Value} {n es:Nat} (h:At w ⟨g,0,none⟩ 0 vs) (hl:vs.length=n*es):Row w (some ⟨g,0,none⟩) n es vs:=⟨hl,fun a e=>by cases e;exact h,fun _=>⟨_,rfl⟩⟩
end Go.Proofs.YtjhhiindeignaaaGreatDoor
namespace Go.Proofs.YtjhhiindeignaaaGreatDoor
open Go Go.RowKit Go.Sy Go.Rep
set_option maxRecDepth 100000
theorem v_width_in_1 {w0:World} {F:Nat→Prop} {Q:Value→World→Prop} (x0:Int) (x1:Int) (r:Int) (h:∀n1:Nat,(w0.heap.size≤n1)→((x1<r)→Fin w0 F w0 Q (.int .i64 (-1)))∧((r≤x1)→((r<x0)→Fin w0 F w0 Q (.int .i64 1))∧((x0≤r)→Fin w0 F w0 Q (.int .i64 0)))):Gets Tryz.prog X.width_in_1 #[(.agg #[(.int .i32 x0),(.int .i32 x1)]),(.int .i32 r)] w0 F Q:=
 func_run mixed [] [] X.width_in_1 [SV.agg [SV.int IntKind.i32 x0,SV.int IntKind.i32 x1],SV.int IntKind.i32 r] ⟨by trivial,by trivial,trivial⟩ (by kernel_rfl) (by kernel_rfl) h
theorem v_width_in {w0:World} {F:Nat→Prop} {Q:Value→World→Prop} (pl:Option Addr) (nl:Nat) (cl:Nat) (r:Int) (h:∀w1:World,(Below w0.heap.size w0 w1)→Runs Tryz.prog X.slices_BinarySearchFunc_rune #[(.slice pl nl cl),(.int .i32 r),(.func (.func X.width_in_1) #[] #[])] w1 (fun e1 w2=>∃i1:Int,∃b1:Bool,(e1=(.returned (.tuple #[(.int .i64 i1),(.bool b1)])))∧((Kept w0.heap.size F [] w1 w2)∧Fin w0 F w2 Q (.bool b1)))):Gets Tryz.prog X.width_in #[(.slice pl nl cl),(.int .i32 r)] w0 F Q:=
 func_run mixed [] [] X.width_in [SV.sl pl nl cl,SV.int IntKind.i32 r] ⟨by trivial,by trivial,trivial⟩ (by kernel_rfl) (by kernel_rfl) h
theorem v_width_Of {w0:World} {F:Nat→Prop} {Q:Value→World→Prop} (r:Int) (h:((r<32)→Fin w0 F w0 Q (.int .i64 (-1)))∧(((32:Int)≤r)→(((127:Int)≤r)→((r<160)→Fin w0 F w0 Q (.int .i64 (-1)))∧(((160:Int)≤r)→(((55296:Int)≤r)→((r≤57343)→Fin w0 F w0 Q (.int .i64 (-1)))∧(((57343:Int)<r)→(((1114111:Int)<r)→Fin w0 F w0 Q (.int .i64 (-1)))∧((r≤1114111)→(((0:Int)≤0)∧(((0:Int)≤18)∧((18:Int)≤18)))∧∀w26:World,(Below w0.heap.size w0 w26)→Runs Tryz.prog X.width_in #[(.slice (some ⟨Y.width_marks,0,none⟩) 18 18),(.int .i32 r)] w26 (fun e7 w27=>∃b7:Bool,(e7=(.returned (.bool b7)))∧((Kept w0.heap.size F [] w26 w27)∧(((b7=true)→Fin w0 F w27 Q (.int .i64 0))∧((b7=false)→(((0:Int)≤0)∧(((0:Int)≤19)∧((19:Int)≤19)))∧∀w28:World,(Below w27.heap.size w27 w28)→Runs Tryz.prog X.width_in #[(.slice (some ⟨Y.width_wide,0,none⟩) 19 19),(.int .i32 r)] w28 (fun e8 w29=>∃b8:Bool,(e8=(.returned (.bool b8)))∧((Kept w0.heap.size F [] w28 w29)∧(((b8=true)→Fin w0 F w29 Q (.int .i64 2))∧((b8=false)→Fin w0 F w29 Q (.int .i64 1))))))))))))∧((r<55296)→(((1114111:Int)<r)→Fin w0 F w0 Q (.int .i64 (-1)))∧((r≤1114111)→(((0:Int)≤0)∧(((0:Int)≤18)∧((18:Int)≤18)))∧∀w18:World,(Below w0.heap.size w0 w18)→Runs Tryz.prog X.width_in #[(.slice (some ⟨Y.width_marks,0,none⟩) 18 18),(.int .i32 r)] w18 (fun e5 w19=>∃b5:Bool,(e5=(.returned (.bool b5)))∧((Kept w0.heap.size F [] w18 w19)∧(((b5=true)→Fin w0 F w19 Q (.int .i64 0))∧((b5=false)→(((0:Int)≤0)∧(((0:Int)≤19)∧((19:Int)≤19)))∧∀w20:World,(Below w19.heap.size w19 w20)→Runs Tryz.prog X.width_in #[(.slice (some ⟨Y.width_wide,0,none⟩) 19 19),(.int .i32 r)] w20 (fun e6 w21=>∃b6:Bool,(e6=(.returned (.bool b6)))∧((Kept w0.heap.size F [] w20 w21)∧(((b6=true)→Fin w0 F w21 Q (.int .i64 2))∧((b6=false)→Fin w0 F w21 Q (.int .i64 1)))))))))))))∧((r<127)→(((55296:Int)≤r)→((r≤57343)→Fin w0 F w0 Q (.int .i64 (-1)))∧(((57343:Int)<r)→(((1114111:Int)<r)→Fin w0 F w0 Q (.int .i64 (-1)))∧((r≤1114111)→(((0:Int)≤0)∧(((0:Int)≤18)∧((18:Int)≤18)))∧∀w9:World,(Below w0.heap.size w0 w9)→Runs Tryz.prog X.width_in #[(.slice (some ⟨Y.width_marks,0,none⟩) 18 18),(.int .i32 r)] w9 (fun e3 w10=>∃b3:Bool,(e3=(.returned (.bool b3)))∧((Kept w0.heap.size F [] w9 w10)∧(((b3=true)→Fin w0 F w10 Q (.int .i64 0))∧((b3=false)→(((0:Int)≤0)∧(((0:Int)≤19)∧((19:Int)≤19)))∧∀w11:World,(Below w10.heap.size w10 w11)→Runs Tryz.prog X.width_in #[(.slice (some ⟨Y.width_wide,0,none⟩) 19 19),(.int .i32 r)] w11 (fun e4 w12=>∃b4:Bool,(e4=(.returned (.bool b4)))∧((Kept w0.heap.size F [] w11 w12)∧(((b4=true)→Fin w0 F w12 Q (.int .i64 2))∧((b4=false)→Fin w0 F w12 Q (.int .i64 1))))))))))))∧((r<55296)→(((1114111:Int)<r)→Fin w0 F w0 Q (.int .i64 (-1)))∧((r≤1114111)→(((0:Int)≤0)∧(((0:Int)≤18)∧((18:Int)≤18)))∧∀w1:World,(Below w0.heap.size w0 w1)→Runs Tryz.prog X.width_in #[(.slice (some ⟨Y.width_marks,0,none⟩) 18 18),(.int .i32 r)] w1 (fun e1 w2=>∃b1:Bool,(e1=(.returned (.bool b1)))∧((Kept w0.heap.size F [] w1 w2)∧(((b1=true)→Fin w0 F w2 Q (.int .i64 0))∧((b1=false)→(((0:Int)≤0)∧(((0:Int)≤19)∧((19:Int)≤19)))∧∀w3:World,(Below w2.heap.size w2 w3)→Runs Tryz.prog X.width_in #[(.slice (some ⟨Y.width_wide,0,none⟩) 19 19),(.int .i32 r)] w3 (fun e2 w4=>∃b2:Bool,(e2=(.returned (.bool b2)))∧((Kept w0.heap.size F [] w3 w4)∧(((b2=true)→Fin w0 F w4 Q (.int .i64 2))∧((b2=false)→Fin w0 F w4 Q (.int .i64 1)))))))))))))):Gets Tryz.prog X.width_Of #[(.int .i32 r)] w0 F Q:=
 func_run mixed [] [] X.width_Of [SV.int IntKind.i32 r] ⟨by trivial,trivial⟩ (by kernel_rfl) (by kernel_rfl) h
end Go.Proofs.YtjhhiindeignaaaGreatDoor
namespace Go.Proofs.YtjhhiindeignaaaGreatDoor
open Go Go.RowKit Go.Sy Go.Rep
set_option maxRecDepth 100000
theorem v_charset_known {w0:World} {F:Nat→Prop} {Q:Value→World→Prop} (k:Int) (h:(((0:Int)≤k)→Fin w0 F w0 Q (.bool (BE.val (.lt k 2))))∧((k<0)→Fin w0 F w0 Q (.bool false))):Gets Tryz.prog X.charset_known #[(.int .i64 k)] w0 F Q:=
 func_run mixed [] [] X.charset_known [SV.int IntKind.i64 k] ⟨by trivial,trivial⟩ (by kernel_rfl) (by kernel_rfl) h
theorem v_charset_Valid {w0:World} {F:Nat→Prop} {Q:Value→World→Prop} (c:Cs) (h:∀n1:Nat,(w0.heap.size≤n1)→∀w1:World,(Below w0.heap.size w0 w1)→(Mine w1 w0.heap.size [(n1,T.Charsets)])→Runs Tryz.prog X.charset_known #[(.int .i64 c.g0)] w1 (fun e1 w2=>∃b1:Bool,(e1=(.returned (.bool b1)))∧((Kept w0.heap.size F [n1] w1 w2)∧(((b1=true)→∀w4:World,(Below w2.heap.size w2 w4)→(Mine w4 w0.heap.size [(n1,T.Charsets)])→Runs Tryz.prog X.charset_known #[(.int .i64 c.g1)] w4 (fun e2 w5=>∃b2:Bool,(e2=(.returned (.bool b2)))∧((Kept w0.heap.size F [n1] w4 w5)∧(((b2=true)→((c.act=0)→Fin w0 F w5 Q (.bool true))∧((c.act≠0)→Fin w0 F w5 Q (.bool (BE.val (.eq c.act 1)))))∧((b2=false)→Fin w0 F w5 Q (.bool false))))))∧((b1=false)→Fin w0 F w2 Q (.bool false)))))):Gets Tryz.prog X.charset_Valid #[(.agg c.arr)] w0 F Q:=
 func_run mixed [] [] X.charset_Valid [SV.agg (Cs.cod.enc c)] ⟨okA _ _,trivial⟩ (by kernel_rfl) (by kernel_rfl) h
theorem v_saved_New {w0:World} {F:Nat→Prop} {Q:Value→World→Prop} (h:∀n1:Nat,(w0.heap.size≤n1)→Fin w0 F w0 Q (.agg #[(.int .i64 0),(.int .i64 0),(.bool false),(.int .i64 0),(.int .u8 0),(.int .u8 0),(.int .u8 0),(.int .u8 0),(.int .i64 0),(.int .u8 0),(.int .u8 0),(.int .u8 0),(.int .u8 0),(.int .u8 0),(.bool false),(.int .i64 0),(.int .i64 0),(.int .i64 0)])):Gets Tryz.prog X.saved_New #[] w0 F Q:=
 func_run mixed [] [] X.saved_New [] trivial (by kernel_rfl) (by kernel_rfl) h
theorem v_region_Right {w0:World} {F:Nat→Prop} {Q:Value→World→Prop} (rows:Int) (r:Rg) (h:∀n1:Nat,(w0.heap.size≤n1)→(((1:Int)≤rows)→((rows≤1000)→(((0:Int)≤r.top)→((r.top≤r.bot)→Fin w0 F w0 Q (.bool (BE.val (.lt r.bot rows))))∧((r.bot<r.top)→Fin w0 F w0 Q (.bool false)))∧((r.top<0)→Fin w0 F w0 Q (.bool false)))∧(((1000:Int)<rows)→Fin w0 F w0 Q (.bool false)))∧((rows<1)→Fin w0 F w0 Q (.bool false))):Gets Tryz.prog X.region_Right #[(.int .i64 rows),(.agg r.arr)] w0 F Q:=
 func_run mixed [] [] X.region_Right [SV.int IntKind.i64 rows,SV.agg (Rg.cod.enc r)] ⟨by trivial,okA _ _,trivial⟩ (by kernel_rfl) (by kernel_rfl) h
theorem v_region_Whole {w0:World} {F:Nat→Prop} {Q:Value→World→Prop} (rows:Int) (h:∀n1:Nat,(w0.heap.size≤n1)→((rows<1)→Fin w0 F w0 Q (.tuple #[(.agg #[(.int .i64 0),(.int .i64 0)]),(.int .i64 2)]))∧(((1:Int)≤rows)→(((1000:Int)<rows)→Fin w0 F w0 Q (.tuple #[(.agg #[(.int .i64 0),(.int .i64 0)]),(.int .i64 2)]))∧((rows≤1000)→(I64 (rows-1))∧Fin w0 F w0 Q (.tuple #[(.agg #[(.int .i64 0),(.int .i64 (rows-1))]),(.int .i64 0)])))):Gets Tryz.prog X.region_Whole #[(.int .i64 rows)] w0 F Q:=
 func_run mixed [] [] X.region_Whole [SV.int IntKind.i64 rows] ⟨by trivial,trivial⟩ (by kernel_rfl) (by kernel_rfl) h
theorem v_pen_ValidColor {w0:World} {F:Nat→Prop} {Q:Value→World→Prop} (c:Col) (h:∀n1:Nat,(w0.heap.size≤n1)→((c.k=0)→∃b3:Bool,(∀w11:World,(Op.equal T.Color (.agg c.arr) (.agg #[(.int .i64 0),(.int .u8 0),(.int .u8 0),(.int .u8 0),(.int .u8 0)])).run (Tryz.prog) w11= .ok b3 w11)∧Fin w0 F w0 Q (.bool b3))∧((c.k≠0)→((c.k=1)→∀w6:World,(Below w0.heap.size w0 w6)→(Mine w6 w0.heap.size [(n1,T.Color)])→Runs Tryz.prog X.pen_Index #[(.int .u8 c.i)] w6 (fun e2 w7=>∃col2:Col,(e2=(.returned (.agg col2.arr)))∧((Kept w0.heap.size F [n1] w6 w7)∧∃b2:Bool,(∀w9:World,(Op.equal T.Color (.agg c.arr) (.agg col2.arr)).run (Tryz.prog) w9= .ok b2 w9)∧Fin w0 F w7 Q (.bool b2))))∧((c.k≠1)→((c.k=2)→∀w2:World,(Below w0.heap.size w0 w2)→(Mine w2 w0.heap.size [(n1,T.Color)])→Runs Tryz.prog X.pen_True #[(.int .u8 c.r),(.int .u8 c.g),(.int .u8 c.b)] w2 (fun e1 w3=>∃col1:Col,(e1=(.returned (.agg col1.arr)))∧((Kept w0.heap.size F [n1] w2 w3)∧∃b1:Bool,(∀w5:World,(Op.equal T.Color (.agg c.arr) (.agg col1.arr)).run (Tryz.prog) w5= .ok b1 w5)∧Fin w0 F w3 Q (.bool b1))))∧((c.k≠2)→Fin w0 F w0 Q (.bool false))))):Gets Tryz.prog X.pen_ValidColor #[(.agg c.arr)] w0 F Q:=
 func_run mixed [] [] X.pen_ValidColor [SV.agg (Col.cod.enc c)] ⟨okA _ _,trivial⟩ (by kernel_rfl) (by kernel_rfl) h
theorem v_pen_Valid {w0:World} {F:Nat→Prop} {Q:Value→World→Prop} (p:Pn) (h:∀n1:Nat,(w0.heap.size≤n1)→∀w1:World,(Below w0.heap.size w0 w1)→(Mine w1 w0.heap.size [(n1,T.Pen)])→Runs Tryz.prog X.pen_ValidColor #[(.agg p.f.arr)] w1 (fun e1 w2=>∃b1:Bool,(e1=(.returned (.bool b1)))∧((Kept w0.heap.size F [n1] w1 w2)∧(((b1=true)→∀w4:World,(Below w2.heap.size w2 w4)→(Mine w4 w0.heap.size [(n1,T.Pen)])→Runs Tryz.prog X.pen_ValidColor #[(.agg p.b.arr)] w4 (fun e2 w5=>∃b2:Bool,(e2=(.returned (.bool b2)))∧((Kept w0.heap.size F [n1] w4 w5)∧Fin w0 F w5 Q (.bool b2))))∧((b1=false)→Fin w0 F w2 Q (.bool false)))))):Gets Tryz.prog X.pen_Valid #[(.agg p.arr)] w0 F Q:=
 func_run mixed [] [] X.pen_Valid [SV.agg (Pn.cod.enc p)] ⟨okA _ _,trivial⟩ (by kernel_rfl) (by kernel_rfl) h
theorem v_pen_Index {w0:World} {F:Nat→Prop} {Q:Value→World→Prop} (n:Int) (h:∀n1:Nat,(w0.heap.size≤n1)→Fin w0 F w0 Q (.agg #[(.int .i64 1),(.int .u8 n),(.int .u8 0),(.int .u8 0),(.int .u8 0)])):Gets Tryz.prog X.pen_Index #[(.int .u8 n)] w0 F Q:=
 func_run mixed [] [] X.pen_Index [SV.int IntKind.u8 n] ⟨by trivial,trivial⟩ (by kernel_rfl) (by kernel_rfl) h
theorem v_pen_True {w0:World} {F:Nat→Prop} {Q:Value→World→Prop} (r:Int) (g:Int) (b:Int) (h:∀n1:Nat,(w0.heap.size≤n1)→Fin w0 F w0 Q (.agg #[(.int .i64 2),(.int .u8 0),(.int .u8 r),(.int .u8 g),(.int .u8 b)])):Gets Tryz.prog X.pen_True #[(.int .u8 r),(.int .u8 g),(.int .u8 b)] w0 F Q:=
 func_run mixed [] [] X.pen_True [SV.int IntKind.u8 r,SV.int IntKind.u8 g,SV.int IntKind.u8 b] ⟨by trivial,by trivial,by trivial,trivial⟩ (by kernel_rfl) (by kernel_rfl) h
theorem v_cell_Blank {w0:World} {F:Nat→Prop} {Q:Value→World→Prop} (p:Pn) (h:∀n1:Nat,(w0.heap.size≤n1)→∀n2:Nat,(w0.heap.size≤n2)→Fin w0 F w0 Q (.agg #[(.int .i32 0),(.int .i32 0),(.int .i32 0),(.int .i32 0),(.int .i64 1),(.int .i64 p.f.k),(.int .u8 p.f.i),(.int .u8 p.f.r),(.int .u8 p.f.g),(.int .u8 p.f.b),(.int .i64 p.b.k),(.int .u8 p.b.i),(.int .u8 p.b.r),(.int .u8 p.b.g),(.int .u8 p.b.b),(.int .u8 p.fl)])):Gets Tryz.prog X.cell_Blank #[(.agg p.arr)] w0 F Q:=
 func_run mixed [] [] X.cell_Blank [SV.agg (Pn.cod.enc p)] ⟨okA _ _,trivial⟩ (by kernel_rfl) (by kernel_rfl) h
theorem v_cell_Spacer {w0:World} {F:Nat→Prop} {Q:Value→World→Prop} (p:Pn) (h:∀n1:Nat,(w0.heap.size≤n1)→∀n2:Nat,(w0.heap.size≤n2)→Fin w0 F w0 Q (.agg #[(.int .i32 0),(.int .i32 0),(.int .i32 0),(.int .i32 0),(.int .i64 0),(.int .i64 p.f.k),(.int .u8 p.f.i),(.int .u8 p.f.r),(.int .u8 p.f.g),(.int .u8 p.f.b),(.int .i64 p.b.k),(.int .u8 p.b.i),(.int .u8 p.b.r),(.int .u8 p.b.g),(.int .u8 p.b.b),(.int .u8 p.fl)])):Gets Tryz.prog X.cell_Spacer #[(.agg p.arr)] w0 F Q:=
 func_run mixed [] [] X.cell_Spacer [SV.agg (Pn.cod.enc p)] ⟨okA _ _,trivial⟩ (by kernel_rfl) (by kernel_rfl) h
theorem v_cell_Written {w0:World} {F:Nat→Prop} {Q:Value→World→Prop} (c:Cl) (h:∀n1:Nat,(w0.heap.size≤n1)→Fin w0 F w0 Q (.bool (BE.val (.no (.eq c.r 0))))):Gets Tryz.prog X.cell_Written #[(.agg c.arr)] w0 F Q:=
 func_run mixed [] [] X.cell_Written [SV.agg (Cl.cod.enc c)] ⟨okA _ _,trivial⟩ (by kernel_rfl) (by kernel_rfl) h
theorem v_utf_Valid {w0:World} {F:Nat→Prop} {Q:Value→World→Prop} (r:Int) (h:(((0:Int)≤r)→((r≤1114111)→((r<55296)→Fin w0 F w0 Q (.bool true))∧(((55296:Int)≤r)→Fin w0 F w0 Q (.bool (BE.val (.lt 57343 r)))))∧(((1114111:Int)<r)→Fin w0 F w0 Q (.bool false)))∧((r<0)→Fin w0 F w0 Q (.bool false))):Gets Tryz.prog X.utf_Valid #[(.int .i32 r)] w0 F Q:=
 func_run mixed [] [] X.utf_Valid [SV.int IntKind.i32 r] ⟨by trivial,trivial⟩ (by kernel_rfl) (by kernel_rfl) h
theorem v_parser_between {w0:World} {F:Nat→Prop} {Q:Value→World→Prop} (r:Int) (first:Int) (last:Int) (h:((first≤r)→Fin w0 F w0 Q (.bool (BE.val (.le r last))))∧((r<first)→Fin w0 F w0 Q (.bool false))):Gets Tryz.prog X.parser_between #[(.int .i32 r),(.int .i32 first),(.int .i32 last)] w0 F Q:=
 func_run mixed [] [] X.parser_between [SV.int IntKind.i32 r,SV.int IntKind.i32 first,SV.int IntKind.i32 last] ⟨by trivial,by trivial,by trivial,trivial⟩ (by kernel_rfl) (by kernel_rfl) h
theorem v_grid_inked {w0:World} {F:Nat→Prop} {Q:Value→World→Prop} (p:Pn) (h:∀n1:Nat,(w0.heap.size≤n1)→∀w1:World,(Below w0.heap.size w0 w1)→(Mine w1 w0.heap.size [(n1,T.Pen)])→Runs Tryz.prog X.cell_Blank #[(.agg p.arr)] w1 (fun e1 w2=>∃cl1:Cl,(e1=(.returned (.agg cl1.arr)))∧((Kept w0.heap.size F [n1] w1 w2)∧∀w3:World,(Below w2.heap.size w2 w3)→(Mine w3 w0.heap.size [(n1,T.Pen)])→Runs Tryz.prog X.cell_Valid #[(.agg cl1.arr)] w3 (fun e2 w4=>∃b1:Bool,(e2=(.returned (.bool b1)))∧((Kept w0.heap.size F [n1] w3 w4)∧Fin w0 F w4 Q (.bool b1)))))):Gets Tryz.prog X.grid_inked #[(.agg p.arr)] w0 F Q:=
 func_run mixed [] [] X.grid_inked [SV.agg (Pn.cod.enc p)] ⟨okA _ _,trivial⟩ (by kernel_rfl) (by kernel_rfl) h
theorem v_modes_New {w0:World} {F:Nat→Prop} {Q:Value→World→Prop} (h:∀n1:Nat,(w0.heap.size≤n1)→Fin w0 F w0 Q (.agg #[(.bool true),(.bool false),(.bool false),(.bool true),(.bool false),(.bool false),(.bool false),(.int .i64 0),(.int .i64 0)])):Gets Tryz.prog X.modes_New #[] w0 F Q:=
 func_run mixed [] [] X.modes_New [] trivial (by kernel_rfl) (by kernel_rfl) h
theorem v_term_clamp_int {w0:World} {F:Nat→Prop} {Q:Value→World→Prop} (n:Int) (least:Int) (most:Int) (h:Fin w0 F w0 Q (.int .i64 (max least (min n most)))):Gets Tryz.prog X.term_clamp_int #[(.int .i64 n),(.int .i64 least),(.int .i64 most)] w0 F Q:=
 func_run mixed [] [] X.term_clamp_int [SV.int IntKind.i64 n,SV.int IntKind.i64 least,SV.int IntKind.i64 most] ⟨by trivial,by trivial,by trivial,trivial⟩ (by kernel_rfl) (by kernel_rfl) h
theorem v_screen_right {w0:World} {F:Nat→Prop} {Q:Value→World→Prop} (c:Cf) (h:∀n1:Nat,(w0.heap.size≤n1)→(((1:Int)≤c.rows)→((c.rows≤1000)→(((1:Int)≤c.cols)→((c.cols≤1000)→(((0:Int)≤c.hist)→Fin w0 F w0 Q (.bool (BE.val (.le c.hist 1048576))))∧((c.hist<0)→Fin w0 F w0 Q (.bool false)))∧(((1000:Int)<c.cols)→Fin w0 F w0 Q (.bool false)))∧((c.cols<1)→Fin w0 F w0 Q (.bool false)))∧(((1000:Int)<c.rows)→Fin w0 F w0 Q (.bool false)))∧((c.rows<1)→Fin w0 F w0 Q (.bool false))):Gets Tryz.prog X.screen_right #[(.agg c.arr)] w0 F Q:=
 func_run mixed [] [] X.screen_right [SV.agg (Cf.cod.enc c)] ⟨okA _ _,trivial⟩ (by kernel_rfl) (by kernel_rfl) h
end Go.Proofs.YtjhhiindeignaaaGreatDoor
namespace Go.Proofs.YtjhhiindeignaaaGreatDoor
open Go Go.RowKit Go.Sy Go.Rep
set_option maxRecDepth 100000
set_option maxHeartbeats 4000000
theorem marks_eq (n:Nat) (x y z x' y' z':Int) (w:World):(Op.equalIn (n+2) T.a3_int32 (.agg #[.int .i32 x, .int .i32 y, .int .i32 z]) (.agg #[.int .i32 x', .int .i32 y', .int .i32 z'])).run Tryz.prog w= .ok (decide (x=x')&&(decide (y=y')&&decide (z=z'))) w:=by
 rw[Op.equalIn]
 simp[go_sem,show List.range' 0 3=[0,1,2] from rfl]
 repeat' split
 all_goals simp[*]
theorem eq_marks (x y z x' y' z':Int) (w:World):(Op.equal T.a3_int32 (.agg #[.int .i32 x, .int .i32 y, .int .i32 z]) (.agg #[.int .i32 x', .int .i32 y', .int .i32 z'])).run Tryz.prog w= .ok (decide (x=x')&&(decide (y=y')&&decide (z=z'))) w:=by
 have:=marks_eq 9998 x y z x' y' z' w
 simp[Op.equal,Op.maxDepth,go_sem,this]
theorem eq_col (a b:Col) (w:World):(Op.equal T.Color (.agg a.arr) (.agg b.arr)).run Tryz.prog w= .ok (decide (a=b)) w:=by
 obtain⟨a1,a2,a3,a4,a5⟩:=a
 obtain⟨b1,b2,b3,b4,b5⟩:=b
 simp only[Col.mk.injEq]
 simp[Op.equal,Op.maxDepth,go_sem]
 repeat' split
 all_goals simp[*]
theorem eq_pen (a b:Pn) (w:World):(Op.equal T.Pen (.agg a.arr) (.agg b.arr)).run Tryz.prog w= .ok (decide (a=b)) w:=by
 obtain⟨⟨a1,a2,a3,a4,a5⟩,⟨a6,a7,a8,a9,a10⟩,a11⟩:=a
 obtain⟨⟨b1,b2,b3,b4,b5⟩,⟨b6,b7,b8,b9,b10⟩,b11⟩:=b
 simp only[Col.mk.injEq,Pn.mk.injEq]
 simp[Op.equal,Op.maxDepth,go_sem]
 repeat' split
 all_goals simp[*]
theorem eq_cell (a b:Cl) (w:World):(Op.equal T.Cell (.agg a.arr) (.agg b.arr)).run Tryz.prog w= .ok (decide (a=b)) w:=by
 obtain⟨a12,a13,a14,a15,a16,⟨⟨a1,a2,a3,a4,a5⟩,⟨a6,a7,a8,a9,a10⟩,a11⟩⟩:=a
 obtain⟨b12,b13,b14,b15,b16,⟨⟨b1,b2,b3,b4,b5⟩,⟨b6,b7,b8,b9,b10⟩,b11⟩⟩:=b
 simp only[Col.mk.injEq,Pn.mk.injEq,Cl.mk.injEq]
 have hm:=fun x y z u v t W=>marks_eq 9997 x y z u v t W
 simp[Op.equal,Op.maxDepth,go_sem,hm]
 by_cases h12:a12=b12
 case neg=>simp[h12]
 subst h12
 by_cases h13:a13=b13
 case neg=>simp[h13]
 subst h13
 by_cases h14:a14=b14
 case neg=>simp[h14]
 subst h14
 by_cases h15:a15=b15
 case neg=>simp[h15]
 subst h15
 by_cases h16:a16=b16
 case neg=>simp[h16]
 subst h16
 simp
 repeat' split
 all_goals simp[*]
end Go.Proofs.YtjhhiindeignaaaGreatDoor
namespace Go.Proofs.YtjhhiindeignaaaGreatDoor
open Go Go.RowKit Go.Sy Go.Rep
set_option maxRecDepth 100000
theorem v_motion_near {w0:World} {F:Nat→Prop} {Q:Value→World→Prop} (n:Int) (low:Int) (high:Int) (h:Fin w0 F w0 Q (.int .i64 (max low (min n high)))):Gets Tryz.prog X.motion_near #[(.int .i64 n),(.int .i64 low),(.int .i64 high)] w0 F Q:=
 func_run mixed [] [] X.motion_near [SV.int IntKind.i64 n,SV.int IntKind.i64 low,SV.int IntKind.i64 high] ⟨by trivial,by trivial,by trivial,trivial⟩ (by kernel_rfl) (by kernel_rfl) h
theorem v_motion_right {w0:World} {F:Nat→Prop} {Q:Value→World→Prop} (a:Ar) (h:∀n1:Nat,(w0.heap.size≤n1)→(((1:Int)≤a.rows)→((a.rows≤1000)→(((1:Int)≤a.cols)→((a.cols≤1000)→(((0:Int)≤a.rg.top)→((a.rg.top≤a.rg.bot)→Fin w0 F w0 Q (.bool (BE.val (.lt a.rg.bot a.rows))))∧((a.rg.bot<a.rg.top)→Fin w0 F w0 Q (.bool false)))∧((a.rg.top<0)→Fin w0 F w0 Q (.bool false)))∧(((1000:Int)<a.cols)→Fin w0 F w0 Q (.bool false)))∧((a.cols<1)→Fin w0 F w0 Q (.bool false)))∧(((1000:Int)<a.rows)→Fin w0 F w0 Q (.bool false)))∧((a.rows<1)→Fin w0 F w0 Q (.bool false))):Gets Tryz.prog X.motion_right #[(.agg a.arr)] w0 F Q:=
 func_run mixed [] [] X.motion_right [SV.agg (Ar.cod.enc a)] ⟨okA _ _,trivial⟩ (by kernel_rfl) (by kernel_rfl) h
theorem v_motion_Valid {w0:World} {F:Nat→Prop} {Q:Value→World→Prop} (a:Ar) (c:Cu) (h:∀n1:Nat,(w0.heap.size≤n1)→∀n2:Nat,(w0.heap.size≤n2)→∀w1:World,(Below w0.heap.size w0 w1)→(Mine w1 w0.heap.size [(n1,T.Area),(n2,T.Cursor)])→Runs Tryz.prog X.motion_right #[(.agg a.arr)] w1 (fun e1 w2=>∃b1:Bool,(e1=(.returned (.bool b1)))∧((Kept w0.heap.size F [n1,n2] w1 w2)∧(((b1=false)→Fin w0 F w2 Q (.bool false))∧((b1=true)→((c.row<0)→Fin w0 F w2 Q (.bool false))∧(((0:Int)≤c.row)→((a.rows≤c.row)→Fin w0 F w2 Q (.bool false))∧((c.row<a.rows)→((c.col<0)→Fin w0 F w2 Q (.bool false))∧(((0:Int)≤c.col)→((a.cols≤c.col)→Fin w0 F w2 Q (.bool false))∧((c.col<a.cols)→((c.pend=false)→Fin w0 F w2 Q (.bool true))∧((c.pend=true)→(I64 (a.cols-1))∧Fin w0 F w2 Q (.bool (BE.val (.eq c.col (a.cols-1)))))))))))))):Gets Tryz.prog X.motion_Valid #[(.agg a.arr),(.agg c.arr)] w0 F Q:=
 func_run mixed [] [] X.motion_Valid [SV.agg (Ar.cod.enc a),SV.agg (Cu.cod.enc c)] ⟨okA _ _,okA _ _,trivial⟩ (by kernel_rfl) (by kernel_rfl) h
theorem v_motion_check {w0:World} {F:Nat→Prop} {Q:Value→World→Prop} (a:Ar) (c:Cu) (n:Int) (h:∀n1:Nat,(w0.heap.size≤n1)→∀n2:Nat,(w0.heap.size≤n2)→∀w1:World,(Below w0.heap.size w0 w1)→(Mine w1 w0.heap.size [(n1,T.Area),(n2,T.Cursor)])→Runs Tryz.prog X.motion_Valid #[(.agg a.arr),(.agg c.arr)] w1 (fun e1 w2=>∃b1:Bool,(e1=(.returned (.bool b1)))∧((Kept w0.heap.size F [n1,n2] w1 w2)∧(((b1=false)→Fin w0 F w2 Q (.int .i64 2))∧((b1=true)→((n<0)→Fin w0 F w2 Q (.int .i64 2))∧(((0:Int)≤n)→Fin w0 F w2 Q (.int .i64 0))))))):Gets Tryz.prog X.motion_check #[(.agg a.arr),(.agg c.arr),(.int .i64 n)] w0 F Q:=
 func_run mixed [] [] X.motion_check [SV.agg (Ar.cod.enc a),SV.agg (Cu.cod.enc c),SV.int IntKind.i64 n] ⟨okA _ _,okA _ _,by trivial,trivial⟩ (by kernel_rfl) (by kernel_rfl) h
theorem v_motion_Column {w0:World} {F:Nat→Prop} {Q:Value→World→Prop} (a:Ar) (c:Cu) (col:Int) (h:∀n1:Nat,(w0.heap.size≤n1)→∀n2:Nat,(w0.heap.size≤n2)→∀n3:Nat,(w0.heap.size≤n3)→∀w1:World,(Below w0.heap.size w0 w1)→(Mine w1 w0.heap.size [(n1,T.Area),(n2,T.Cursor),(n3,T.Cursor)])→Runs Tryz.prog X.motion_check #[(.agg a.arr),(.agg c.arr),(.int .i64 0)] w1 (fun e1 w2=>∃i1:Int,(e1=(.returned (.int .i64 i1)))∧((Kept w0.heap.size F [n1,n2,n3] w1 w2)∧(((i1≠0)→FinE w0 F w2 [n3] Q (.tuple #[(.agg #[(.int .i64 0),(.int .i64 0),(.bool false)]),(.int .i64 i1)]))∧((i1=0)→(I64 (a.cols-1))∧∀w3:World,(Below w2.heap.size w2 w3)→(Mine w3 w0.heap.size [(n1,T.Area),(n2,T.Cursor),(n3,T.Cursor)])→Runs Tryz.prog X.motion_near #[(.int .i64 col),(.int .i64 0),(.int .i64 (a.cols-1))] w3 (fun e2 w4=>∃i2:Int,(e2=(.returned (.int .i64 i2)))∧((Kept w0.heap.size F [n1,n2,n3] w3 w4)∧FinE w0 F w4 [n3] Q (.tuple #[(.agg #[(.int .i64 c.row),(.int .i64 i2),(.bool false)]),(.int .i64 0)])))))))):Gets Tryz.prog X.motion_Column #[(.agg a.arr),(.agg c.arr),(.int .i64 col)] w0 F Q:=
 func_run mixed [] [] X.motion_Column [SV.agg (Ar.cod.enc a),SV.agg (Cu.cod.enc c),SV.int IntKind.i64 col] ⟨okA _ _,okA _ _,by trivial,trivial⟩ (by kernel_rfl) (by kernel_rfl) h
theorem v_motion_Return {w0:World} {F:Nat→Prop} {Q:Value→World→Prop} (a:Ar) (c:Cu) (h:∀n1:Nat,(w0.heap.size≤n1)→∀n2:Nat,(w0.heap.size≤n2)→∀n3:Nat,(w0.heap.size≤n3)→∀w1:World,(Below w0.heap.size w0 w1)→(Mine w1 w0.heap.size [(n1,T.Area),(n2,T.Cursor),(n3,T.Cursor)])→Runs Tryz.prog X.motion_Column #[(.agg a.arr),(.agg c.arr),(.int .i64 0)] w1 (fun e1 w2=>∃cu1:Cu,∃i1:Int,(e1=(.returned (.tuple #[(.agg cu1.arr),(.int .i64 i1)])))∧((Kept w0.heap.size F [n1,n2,n3] w1 w2)∧FinE w0 F w2 [n3] Q (.tuple #[(.agg cu1.arr),(.int .i64 i1)])))):Gets Tryz.prog X.motion_Return #[(.agg a.arr),(.agg c.arr)] w0 F Q:=
 func_run mixed [] [] X.motion_Return [SV.agg (Ar.cod.enc a),SV.agg (Cu.cod.enc c)] ⟨okA _ _,okA _ _,trivial⟩ (by kernel_rfl) (by kernel_rfl) h
end Go.Proofs.YtjhhiindeignaaaGreatDoor
namespace Go.Proofs.YtjhhiindeignaaaGreatDoor
open Go Go.RowKit Go.Sy Go.Rep
set_option maxRecDepth 100000
set_option maxHeartbeats 2000000
theorem c_motion_near {n low high:Int}:Pure X.motion_near #[.int .i64 n, .int .i64 low, .int .i64 high] (.int .i64 (max low (min n high))):=by
 intro w hL
 refine v_motion_near n low high ?_
 repeat' (first|(refine Fin.of fun _=>?_)|(refine FinE.of fun _=>?_)|(refine And.intro ?_ ?_)|intro _)
 all_goals first|rfl|(unfold I64;omega)|(exfalso;first|omega|contradiction|(simp_all;done))|(simp[bv_lt,bv_le,bv_eq,bv_ok,bv_no, *];done)|grind [bv_lt,bv_le,bv_eq,bv_ok,bv_no]
theorem c_motion_right {a:Ar} (h:a.ok):Pure X.motion_right #[.agg a.arr] (.bool true):=by
 obtain⟨h1,h2,h3,h4,h5,h6,h7⟩:=h
 intro w hL
 refine v_motion_right a ?_
 repeat' (first|(refine Fin.of fun _=>?_)|(refine FinE.of fun _=>?_)|(refine And.intro ?_ ?_)|intro _)
 all_goals first|rfl|(unfold I64;omega)|(exfalso;first|omega|contradiction|(simp_all;done))|(simp[bv_lt,bv_le,bv_eq,bv_ok,bv_no, *];done)|grind [bv_lt,bv_le,bv_eq,bv_ok,bv_no]
theorem c_motion_Valid {a:Ar} {c:Cu} (h:a.ok) (hc:c.ok a):Pure X.motion_Valid #[.agg a.arr, .agg c.arr] (.bool true):=by
 have hr:=h;obtain⟨h1,h2,h3,h4,h5,h6,h7⟩:=h;obtain⟨k1,k2,k3,k4,k5⟩:=hc
 intro w hL
 refine v_motion_Valid a c ?_
 repeat' (first|(refine Fin.of fun _=>?_)|(refine FinE.of fun _=>?_)|(refine Pure.runs (c_motion_right hr) (by first|assumption|exact Laid.below (by assumption) (by assumption)|exact Laid.nix (by first|assumption|exact Keeps.refl _ _|exact Keeps.back (by assumption) (by first|assumption|exact Keeps.refl _ _|exact Keeps.back (by assumption) (by first|assumption|exact Keeps.refl _ _|exact Keeps.back (by assumption) (by first|assumption|exact Keeps.refl _ _)|exact Keeps.backB (by assumption) (by first|assumption|exact Keeps.refl _ _))|exact Keeps.backB (by assumption) (by first|assumption|exact Keeps.refl _ _|exact Keeps.back (by assumption) (by first|assumption|exact Keeps.refl _ _)|exact Keeps.backB (by assumption) (by first|assumption|exact Keeps.refl _ _)))|exact Keeps.backB (by assumption) (by first|assumption|exact Keeps.refl _ _|exact Keeps.back (by assumption) (by first|assumption|exact Keeps.refl _ _|exact Keeps.back (by assumption) (by first|assumption|exact Keeps.refl _ _)|exact Keeps.backB (by assumption) (by first|assumption|exact Keeps.refl _ _))|exact Keeps.backB (by assumption) (by first|assumption|exact Keeps.refl _ _|exact Keeps.back (by assumption) (by first|assumption|exact Keeps.refl _ _)|exact Keeps.backB (by assumption) (by first|assumption|exact Keeps.refl _ _)))) hL) fun _ hk hl=>?_;first|refine⟨_,rfl,hk.nix,?_⟩|refine⟨_,_,rfl,hk.nix,?_⟩|refine⟨_,_,_,rfl,hk.nix,?_⟩)|(refine And.intro ?_ ?_)|intro _)
 all_goals first|rfl|(unfold I64;omega)|(exfalso;first|omega|contradiction|(simp_all;done))|(simp[bv_lt,bv_le,bv_eq,bv_ok,bv_no, *];done)|grind [bv_lt,bv_le,bv_eq,bv_ok,bv_no]
theorem c_motion_check {a:Ar} {c:Cu} {n:Int} (h:a.ok) (hc:c.ok a) (hn:0≤n):Pure X.motion_check #[.agg a.arr, .agg c.arr, .int .i64 n] (.int .i64 0):=by
 intro w hL
 refine v_motion_check a c n ?_
 repeat' (first|(refine Fin.of fun _=>?_)|(refine FinE.of fun _=>?_)|(refine Pure.runs (c_motion_Valid h hc) (by first|assumption|exact Laid.below (by assumption) (by assumption)|exact Laid.nix (by first|assumption|exact Keeps.refl _ _|exact Keeps.back (by assumption) (by first|assumption|exact Keeps.refl _ _|exact Keeps.back (by assumption) (by first|assumption|exact Keeps.refl _ _|exact Keeps.back (by assumption) (by first|assumption|exact Keeps.refl _ _)|exact Keeps.backB (by assumption) (by first|assumption|exact Keeps.refl _ _))|exact Keeps.backB (by assumption) (by first|assumption|exact Keeps.refl _ _|exact Keeps.back (by assumption) (by first|assumption|exact Keeps.refl _ _)|exact Keeps.backB (by assumption) (by first|assumption|exact Keeps.refl _ _)))|exact Keeps.backB (by assumption) (by first|assumption|exact Keeps.refl _ _|exact Keeps.back (by assumption) (by first|assumption|exact Keeps.refl _ _|exact Keeps.back (by assumption) (by first|assumption|exact Keeps.refl _ _)|exact Keeps.backB (by assumption) (by first|assumption|exact Keeps.refl _ _))|exact Keeps.backB (by assumption) (by first|assumption|exact Keeps.refl _ _|exact Keeps.back (by assumption) (by first|assumption|exact Keeps.refl _ _)|exact Keeps.backB (by assumption) (by first|assumption|exact Keeps.refl _ _)))) hL) fun _ hk hl=>?_;first|refine⟨_,rfl,hk.nix,?_⟩|refine⟨_,_,rfl,hk.nix,?_⟩|refine⟨_,_,_,rfl,hk.nix,?_⟩)|(refine And.intro ?_ ?_)|intro _)
 all_goals first|rfl|(unfold I64;omega)|(exfalso;first|omega|contradiction|(simp_all;done))|(simp[bv_lt,bv_le,bv_eq,bv_ok,bv_no, *];done)|grind [bv_lt,bv_le,bv_eq,bv_ok,bv_no]
theorem c_motion_Column {a:Ar} {c:Cu} {col:Int} (h:a.ok) (hc:c.ok a):Pure X.motion_Column #[.agg a.arr, .agg c.arr, .int .i64 col] (.tuple #[.agg (Cu.arr ⟨c.row,max 0 (min col (a.cols-1)),false⟩), .int .i64 0]):=by
 have hk:=c_motion_check h hc (Int.le_refl 0);obtain⟨h1,h2,h3,h4,h5,h6,h7⟩:=h;obtain⟨k1,k2,k3,k4,k5⟩:=hc
 intro w hL
 refine v_motion_Column a c col ?_
 repeat' (first|(refine Fin.of fun _=>?_)|(refine FinE.of fun _=>?_)|(refine Pure.runs (hk) (by first|assumption|exact Laid.below (by assumption) (by assumption)|exact Laid.nix (by first|assumption|exact Keeps.refl _ _|exact Keeps.back (by assumption) (by first|assumption|exact Keeps.refl _ _|exact Keeps.back (by assumption) (by first|assumption|exact Keeps.refl _ _|exact Keeps.back (by assumption) (by first|assumption|exact Keeps.refl _ _)|exact Keeps.backB (by assumption) (by first|assumption|exact Keeps.refl _ _))|exact Keeps.backB (by assumption) (by first|assumption|exact Keeps.refl _ _|exact Keeps.back (by assumption) (by first|assumption|exact Keeps.refl _ _)|exact Keeps.backB (by assumption) (by first|assumption|exact Keeps.refl _ _)))|exact Keeps.backB (by assumption) (by first|assumption|exact Keeps.refl _ _|exact Keeps.back (by assumption) (by first|assumption|exact Keeps.refl _ _|exact Keeps.back (by assumption) (by first|assumption|exact Keeps.refl _ _)|exact Keeps.backB (by assumption) (by first|assumption|exact Keeps.refl _ _))|exact Keeps.backB (by assumption) (by first|assumption|exact Keeps.refl _ _|exact Keeps.back (by assumption) (by first|assumption|exact Keeps.refl _ _)|exact Keeps.backB (by assumption) (by first|assumption|exact Keeps.refl _ _)))) hL) fun _ hk hl=>?_;first|refine⟨_,rfl,hk.nix,?_⟩|refine⟨_,_,rfl,hk.nix,?_⟩|refine⟨_,_,_,rfl,hk.nix,?_⟩)|(refine Pure.runs (c_motion_near) (by first|assumption|exact Laid.below (by assumption) (by assumption)|exact Laid.nix (by first|assumption|exact Keeps.refl _ _|exact Keeps.back (by assumption) (by first|assumption|exact Keeps.refl _ _|exact Keeps.back (by assumption) (by first|assumption|exact Keeps.refl _ _|exact Keeps.back (by assumption) (by first|assumption|exact Keeps.refl _ _)|exact Keeps.backB (by assumption) (by first|assumption|exact Keeps.refl _ _))|exact Keeps.backB (by assumption) (by first|assumption|exact Keeps.refl _ _|exact Keeps.back (by assumption) (by first|assumption|exact Keeps.refl _ _)|exact Keeps.backB (by assumption) (by first|assumption|exact Keeps.refl _ _)))|exact Keeps.backB (by assumption) (by first|assumption|exact Keeps.refl _ _|exact Keeps.back (by assumption) (by first|assumption|exact Keeps.refl _ _|exact Keeps.back (by assumption) (by first|assumption|exact Keeps.refl _ _)|exact Keeps.backB (by assumption) (by first|assumption|exact Keeps.refl _ _))|exact Keeps.backB (by assumption) (by first|assumption|exact Keeps.refl _ _|exact Keeps.back (by assumption) (by first|assumption|exact Keeps.refl _ _)|exact Keeps.backB (by assumption) (by first|assumption|exact Keeps.refl _ _)))) hL) fun _ hk hl=>?_;first|refine⟨_,rfl,hk.nix,?_⟩|refine⟨_,_,rfl,hk.nix,?_⟩|refine⟨_,_,_,rfl,hk.nix,?_⟩)|(refine And.intro ?_ ?_)|intro _)
 all_goals first|rfl|(unfold I64;omega)|(exfalso;first|omega|contradiction|(simp_all;done))|(simp[bv_lt,bv_le,bv_eq,bv_ok,bv_no, *];done)|grind [bv_lt,bv_le,bv_eq,bv_ok,bv_no]
theorem c_motion_Return {a:Ar} {c:Cu} (h:a.ok) (hc:c.ok a):Pure X.motion_Return #[.agg a.arr, .agg c.arr] (.tuple #[.agg (Cu.arr ⟨c.row,max 0 (min 0 (a.cols-1)),false⟩), .int .i64 0]):=by
 intro w hL
 refine v_motion_Return a c ?_
 repeat' (first|(refine Fin.of fun _=>?_)|(refine FinE.of fun _=>?_)|(refine Pure.runs (c_motion_Column h hc) (by first|assumption|exact Laid.below (by assumption) (by assumption)|exact Laid.nix (by first|assumption|exact Keeps.refl _ _|exact Keeps.back (by assumption) (by first|assumption|exact Keeps.refl _ _|exact Keeps.back (by assumption) (by first|assumption|exact Keeps.refl _ _|exact Keeps.back (by assumption) (by first|assumption|exact Keeps.refl _ _)|exact Keeps.backB (by assumption) (by first|assumption|exact Keeps.refl _ _))|exact Keeps.backB (by assumption) (by first|assumption|exact Keeps.refl _ _|exact Keeps.back (by assumption) (by first|assumption|exact Keeps.refl _ _)|exact Keeps.backB (by assumption) (by first|assumption|exact Keeps.refl _ _)))|exact Keeps.backB (by assumption) (by first|assumption|exact Keeps.refl _ _|exact Keeps.back (by assumption) (by first|assumption|exact Keeps.refl _ _|exact Keeps.back (by assumption) (by first|assumption|exact Keeps.refl _ _)|exact Keeps.backB (by assumption) (by first|assumption|exact Keeps.refl _ _))|exact Keeps.backB (by assumption) (by first|assumption|exact Keeps.refl _ _|exact Keeps.back (by assumption) (by first|assumption|exact Keeps.refl _ _)|exact Keeps.backB (by assumption) (by first|assumption|exact Keeps.refl _ _)))) hL) fun _ hk hl=>?_;first|refine⟨_,rfl,hk.nix,?_⟩|refine⟨_,_,rfl,hk.nix,?_⟩|refine⟨_,_,_,rfl,hk.nix,?_⟩)|(refine And.intro ?_ ?_)|intro _)
 all_goals first|rfl|(unfold I64;omega)|(exfalso;first|omega|contradiction|(simp_all;done))|(simp[bv_lt,bv_le,bv_eq,bv_ok,bv_no, *];done)|grind [bv_lt,bv_le,bv_eq,bv_ok,bv_no]
end Go.Proofs.YtjhhiindeignaaaGreatDoor
namespace Go.Proofs.YtjhhiindeignaaaGreatDoor
open Go Go.RowKit Go.Sy Go.Rep
set_option maxRecDepth 100000
set_option maxHeartbeats 2000000
def okCol (c:Col):Bool:=if c.k=0 then decide (c=⟨0,0,0,0,0⟩) else if c.k=1 then decide (c=⟨1,c.i,0,0,0⟩) else if c.k=2 then decide (c=⟨2,0,c.r,c.g,c.b⟩) else false
def okPn (p:Pn):Bool:=okCol p.f&&okCol p.b
def bCl (p:Pn):Cl:=⟨0,0,0,0,1,p⟩
def sCl (p:Pn):Cl:=⟨0,0,0,0,0,p⟩
def zCol:Col:=⟨0,0,0,0,0⟩
def zPn:Pn:=⟨zCol,zCol,0⟩
def zCu:Cu:=⟨0,0,false⟩
def zCs:Cs:=⟨0,0,0⟩
def zSv:Sv:=⟨zCu,zPn,false,zCs⟩
def zRg:Rg:=⟨0,0⟩
def okK (k:Int):Bool:=decide (0≤k)&&decide (k<2)
def okCs (c:Cs):Bool:=okK c.g0&&okK c.g1&&(decide (c.act=0)||decide (c.act=1))
def okSv (s:Sv):Bool:=decide (0≤s.cu.row)&&decide (s.cu.row<1000)&&decide (0≤s.cu.col)&&decide (s.cu.col<1000)&&okPn s.p&&okCs s.cs
def okRune (r:Int):Bool:=decide (0≤r)&&decide (r≤1114111)&&(decide (r<55296)||decide (57343<r))
theorem c_pen_Index {n:Int}:Pure X.pen_Index #[.int .u8 n] (.agg (Col.arr ⟨1,n,0,0,0⟩)):=by
 intro w hL
 refine v_pen_Index n ?_
 repeat' (first|(refine Fin.of fun _=>?_)|(refine FinE.of fun _=>?_)|(refine And.intro ?_ ?_)|intro _)
 all_goals first|rfl|(unfold I64;omega)|(exfalso;first|omega|contradiction|(simp_all;done))|(simp[bv_lt,bv_le,bv_eq,bv_ok,bv_no, *];done)|grind [bv_lt,bv_le,bv_eq,bv_ok,bv_no]
theorem c_pen_True {r g b:Int}:Pure X.pen_True #[.int .u8 r, .int .u8 g, .int .u8 b] (.agg (Col.arr ⟨2,0,r,g,b⟩)):=by
 intro w hL
 refine v_pen_True r g b ?_
 repeat' (first|(refine Fin.of fun _=>?_)|(refine FinE.of fun _=>?_)|(refine And.intro ?_ ?_)|intro _)
 all_goals first|rfl|(unfold I64;omega)|(exfalso;first|omega|contradiction|(simp_all;done))|(simp[bv_lt,bv_le,bv_eq,bv_ok,bv_no, *];done)|grind [bv_lt,bv_le,bv_eq,bv_ok,bv_no]
theorem c_pen_ValidColor {c:Col}:Pure X.pen_ValidColor #[.agg c.arr] (.bool (okCol c)):=by
 intro w hL
 refine v_pen_ValidColor c ?_
 repeat' (first|(refine Fin.of fun _=>?_)|(refine FinE.of fun _=>?_)|(refine Pure.runs (c_pen_Index) (by first|assumption|exact Laid.below (by assumption) (by assumption)|exact Laid.nix (by first|assumption|exact Keeps.refl _ _|exact Keeps.back (by assumption) (by first|assumption|exact Keeps.refl _ _|exact Keeps.back (by assumption) (by first|assumption|exact Keeps.refl _ _|exact Keeps.back (by assumption) (by first|assumption|exact Keeps.refl _ _)|exact Keeps.backB (by assumption) (by first|assumption|exact Keeps.refl _ _))|exact Keeps.backB (by assumption) (by first|assumption|exact Keeps.refl _ _|exact Keeps.back (by assumption) (by first|assumption|exact Keeps.refl _ _)|exact Keeps.backB (by assumption) (by first|assumption|exact Keeps.refl _ _)))|exact Keeps.backB (by assumption) (by first|assumption|exact Keeps.refl _ _|exact Keeps.back (by assumption) (by first|assumption|exact Keeps.refl _ _|exact Keeps.back (by assumption) (by first|assumption|exact Keeps.refl _ _)|exact Keeps.backB (by assumption) (by first|assumption|exact Keeps.refl _ _))|exact Keeps.backB (by assumption) (by first|assumption|exact Keeps.refl _ _|exact Keeps.back (by assumption) (by first|assumption|exact Keeps.refl _ _)|exact Keeps.backB (by assumption) (by first|assumption|exact Keeps.refl _ _)))) hL) fun _ hk hl=>?_;first|refine⟨_,rfl,hk.nix,?_⟩|refine⟨_,_,rfl,hk.nix,?_⟩|refine⟨_,_,_,rfl,hk.nix,?_⟩)|(refine Pure.runs (c_pen_True) (by first|assumption|exact Laid.below (by assumption) (by assumption)|exact Laid.nix (by first|assumption|exact Keeps.refl _ _|exact Keeps.back (by assumption) (by first|assumption|exact Keeps.refl _ _|exact Keeps.back (by assumption) (by first|assumption|exact Keeps.refl _ _|exact Keeps.back (by assumption) (by first|assumption|exact Keeps.refl _ _)|exact Keeps.backB (by assumption) (by first|assumption|exact Keeps.refl _ _))|exact Keeps.backB (by assumption) (by first|assumption|exact Keeps.refl _ _|exact Keeps.back (by assumption) (by first|assumption|exact Keeps.refl _ _)|exact Keeps.backB (by assumption) (by first|assumption|exact Keeps.refl _ _)))|exact Keeps.backB (by assumption) (by first|assumption|exact Keeps.refl _ _|exact Keeps.back (by assumption) (by first|assumption|exact Keeps.refl _ _|exact Keeps.back (by assumption) (by first|assumption|exact Keeps.refl _ _)|exact Keeps.backB (by assumption) (by first|assumption|exact Keeps.refl _ _))|exact Keeps.backB (by assumption) (by first|assumption|exact Keeps.refl _ _|exact Keeps.back (by assumption) (by first|assumption|exact Keeps.refl _ _)|exact Keeps.backB (by assumption) (by first|assumption|exact Keeps.refl _ _)))) hL) fun _ hk hl=>?_;first|refine⟨_,rfl,hk.nix,?_⟩|refine⟨_,_,rfl,hk.nix,?_⟩|refine⟨_,_,_,rfl,hk.nix,?_⟩)|(refine⟨_,eq_col c ⟨0,0,0,0,0⟩,?_⟩)|(refine⟨_,eq_col c ⟨1,c.i,0,0,0⟩,?_⟩)|(refine⟨_,eq_col c ⟨2,0,c.r,c.g,c.b⟩,?_⟩)|(refine And.intro ?_ ?_)|intro _)
 all_goals first|rfl|(unfold I64;omega)|(exfalso;first|omega|contradiction|(simp_all;done))|(simp[bv_lt,bv_le,bv_eq,bv_ok,bv_no, *,okCol];done)|grind [bv_lt,bv_le,bv_eq,bv_ok,bv_no,okCol]
theorem c_pen_Valid {p:Pn}:Pure X.pen_Valid #[.agg p.arr] (.bool (okPn p)):=by
 intro w hL
 refine v_pen_Valid p ?_
 repeat' (first|(refine Fin.of fun _=>?_)|(refine FinE.of fun _=>?_)|(refine Pure.runs (c_pen_ValidColor) (by first|assumption|exact Laid.below (by assumption) (by assumption)|exact Laid.nix (by first|assumption|exact Keeps.refl _ _|exact Keeps.back (by assumption) (by first|assumption|exact Keeps.refl _ _|exact Keeps.back (by assumption) (by first|assumption|exact Keeps.refl _ _|exact Keeps.back (by assumption) (by first|assumption|exact Keeps.refl _ _)|exact Keeps.backB (by assumption) (by first|assumption|exact Keeps.refl _ _))|exact Keeps.backB (by assumption) (by first|assumption|exact Keeps.refl _ _|exact Keeps.back (by assumption) (by first|assumption|exact Keeps.refl _ _)|exact Keeps.backB (by assumption) (by first|assumption|exact Keeps.refl _ _)))|exact Keeps.backB (by assumption) (by first|assumption|exact Keeps.refl _ _|exact Keeps.back (by assumption) (by first|assumption|exact Keeps.refl _ _|exact Keeps.back (by assumption) (by first|assumption|exact Keeps.refl _ _)|exact Keeps.backB (by assumption) (by first|assumption|exact Keeps.refl _ _))|exact Keeps.backB (by assumption) (by first|assumption|exact Keeps.refl _ _|exact Keeps.back (by assumption) (by first|assumption|exact Keeps.refl _ _)|exact Keeps.backB (by assumption) (by first|assumption|exact Keeps.refl _ _)))) hL) fun _ hk hl=>?_;first|refine⟨_,rfl,hk.nix,?_⟩|refine⟨_,_,rfl,hk.nix,?_⟩|refine⟨_,_,_,rfl,hk.nix,?_⟩)|(refine And.intro ?_ ?_)|intro _)
 all_goals first|rfl|(unfold I64;omega)|(exfalso;first|omega|contradiction|(simp_all;done))|(simp[bv_lt,bv_le,bv_eq,bv_ok,bv_no, *,okPn];done)|grind [bv_lt,bv_le,bv_eq,bv_ok,bv_no,okPn]
theorem c_cell_Blank {p:Pn}:Pure X.cell_Blank #[.agg p.arr] (.agg (bCl p).arr):=by
 intro w hL
 refine v_cell_Blank p ?_
 repeat' (first|(refine Fin.of fun _=>?_)|(refine FinE.of fun _=>?_)|(refine And.intro ?_ ?_)|intro _)
 all_goals first|rfl|(unfold I64;omega)|(exfalso;first|omega|contradiction|(simp_all;done))|(simp[bv_lt,bv_le,bv_eq,bv_ok,bv_no, *];done)|grind [bv_lt,bv_le,bv_eq,bv_ok,bv_no]
theorem c_cell_Spacer {p:Pn}:Pure X.cell_Spacer #[.agg p.arr] (.agg (sCl p).arr):=by
 intro w hL
 refine v_cell_Spacer p ?_
 repeat' (first|(refine Fin.of fun _=>?_)|(refine FinE.of fun _=>?_)|(refine And.intro ?_ ?_)|intro _)
 all_goals first|rfl|(unfold I64;omega)|(exfalso;first|omega|contradiction|(simp_all;done))|(simp[bv_lt,bv_le,bv_eq,bv_ok,bv_no, *];done)|grind [bv_lt,bv_le,bv_eq,bv_ok,bv_no]
theorem c_cell_Written {c:Cl}:Pure X.cell_Written #[.agg c.arr] (.bool (decide (c.r≠0))):=by
 intro w hL
 refine v_cell_Written c ?_
 repeat' (first|(refine Fin.of fun _=>?_)|(refine FinE.of fun _=>?_)|(refine And.intro ?_ ?_)|intro _)
 all_goals first|rfl|(unfold I64;omega)|(exfalso;first|omega|contradiction|(simp_all;done))|(simp[bv_lt,bv_le,bv_eq,bv_ok,bv_no, *];done)|grind [bv_lt,bv_le,bv_eq,bv_ok,bv_no]
theorem c_charset_known {k:Int}:Pure X.charset_known #[.int .i64 k] (.bool (okK k)):=by
 intro w hL
 refine v_charset_known k ?_
 repeat' (first|(refine Fin.of fun _=>?_)|(refine FinE.of fun _=>?_)|(refine And.intro ?_ ?_)|intro _)
 all_goals first|rfl|(unfold I64;omega)|(exfalso;first|omega|contradiction|(simp_all;done))|(simp[bv_lt,bv_le,bv_eq,bv_ok,bv_no, *,okK];done)|grind [bv_lt,bv_le,bv_eq,bv_ok,bv_no,okK]
theorem c_charset_Valid {c:Cs}:Pure X.charset_Valid #[.agg c.arr] (.bool (okCs c)):=by
 intro w hL
 refine v_charset_Valid c ?_
 repeat' (first|(refine Fin.of fun _=>?_)|(refine FinE.of fun _=>?_)|(refine Pure.runs (c_charset_known) (by first|assumption|exact Laid.below (by assumption) (by assumption)|exact Laid.nix (by first|assumption|exact Keeps.refl _ _|exact Keeps.back (by assumption) (by first|assumption|exact Keeps.refl _ _|exact Keeps.back (by assumption) (by first|assumption|exact Keeps.refl _ _|exact Keeps.back (by assumption) (by first|assumption|exact Keeps.refl _ _)|exact Keeps.backB (by assumption) (by first|assumption|exact Keeps.refl _ _))|exact Keeps.backB (by assumption) (by first|assumption|exact Keeps.refl _ _|exact Keeps.back (by assumption) (by first|assumption|exact Keeps.refl _ _)|exact Keeps.backB (by assumption) (by first|assumption|exact Keeps.refl _ _)))|exact Keeps.backB (by assumption) (by first|assumption|exact Keeps.refl _ _|exact Keeps.back (by assumption) (by first|assumption|exact Keeps.refl _ _|exact Keeps.back (by assumption) (by first|assumption|exact Keeps.refl _ _)|exact Keeps.backB (by assumption) (by first|assumption|exact Keeps.refl _ _))|exact Keeps.backB (by assumption) (by first|assumption|exact Keeps.refl _ _|exact Keeps.back (by assumption) (by first|assumption|exact Keeps.refl _ _)|exact Keeps.backB (by assumption) (by first|assumption|exact Keeps.refl _ _)))) hL) fun _ hk hl=>?_;first|refine⟨_,rfl,hk.nix,?_⟩|refine⟨_,_,rfl,hk.nix,?_⟩|refine⟨_,_,_,rfl,hk.nix,?_⟩)|(refine And.intro ?_ ?_)|intro _)
 all_goals first|rfl|(unfold I64;omega)|(exfalso;first|omega|contradiction|(simp_all;done))|(simp[bv_lt,bv_le,bv_eq,bv_ok,bv_no, *,okCs];done)|grind [bv_lt,bv_le,bv_eq,bv_ok,bv_no,okCs]
theorem c_saved_New:Pure X.saved_New #[] (.agg zSv.arr):=by
 intro w hL
 refine v_saved_New ?_
 repeat' (first|(refine Fin.of fun _=>?_)|(refine FinE.of fun _=>?_)|(refine And.intro ?_ ?_)|intro _)
 all_goals first|rfl|(unfold I64;omega)|(exfalso;first|omega|contradiction|(simp_all;done))|(simp[bv_lt,bv_le,bv_eq,bv_ok,bv_no, *];done)|grind [bv_lt,bv_le,bv_eq,bv_ok,bv_no]
theorem c_region_Right {rows:Int} {r:Rg} (h1:1≤rows) (h2:rows≤1000) (h3:0≤r.top) (h4:r.top≤r.bot) (h5:r.bot<rows):Pure X.region_Right #[.int .i64 rows, .agg r.arr] (.bool true):=by
 intro w hL
 refine v_region_Right rows r ?_
 repeat' (first|(refine Fin.of fun _=>?_)|(refine FinE.of fun _=>?_)|(refine And.intro ?_ ?_)|intro _)
 all_goals first|rfl|(unfold I64;omega)|(exfalso;first|omega|contradiction|(simp_all;done))|(simp[bv_lt,bv_le,bv_eq,bv_ok,bv_no, *];done)|grind [bv_lt,bv_le,bv_eq,bv_ok,bv_no]
theorem c_region_Whole {rows:Int} (h1:1≤rows) (h2:rows≤1000):Pure X.region_Whole #[.int .i64 rows] (.tuple #[.agg (Rg.arr ⟨0,rows-1⟩), .int .i64 0]):=by
 intro w hL
 refine v_region_Whole rows ?_
 repeat' (first|(refine Fin.of fun _=>?_)|(refine FinE.of fun _=>?_)|(refine And.intro ?_ ?_)|intro _)
 all_goals first|rfl|(unfold I64;omega)|(exfalso;first|omega|contradiction|(simp_all;done))|(simp[bv_lt,bv_le,bv_eq,bv_ok,bv_no, *];done)|grind [bv_lt,bv_le,bv_eq,bv_ok,bv_no]
theorem c_utf_Valid {r:Int}:Pure X.utf_Valid #[.int .i32 r] (.bool (okRune r)):=by
 intro w hL
 refine v_utf_Valid r ?_
 repeat' (first|(refine Fin.of fun _=>?_)|(refine FinE.of fun _=>?_)|(refine And.intro ?_ ?_)|intro _)
 all_goals first|rfl|(unfold I64;omega)|(exfalso;first|omega|contradiction|(simp_all;done))|(simp[bv_lt,bv_le,bv_eq,bv_ok,bv_no, *,okRune];done)|grind [bv_lt,bv_le,bv_eq,bv_ok,bv_no,okRune]
theorem c_parser_between {r first last:Int}:Pure X.parser_between #[.int .i32 r, .int .i32 first, .int .i32 last] (.bool (decide (first≤r)&&decide (r≤last))):=by
 intro w hL
 refine v_parser_between r first last ?_
 repeat' (first|(refine Fin.of fun _=>?_)|(refine FinE.of fun _=>?_)|(refine And.intro ?_ ?_)|intro _)
 all_goals first|rfl|(unfold I64;omega)|(exfalso;first|omega|contradiction|(simp_all;done))|(simp[bv_lt,bv_le,bv_eq,bv_ok,bv_no, *];done)|grind [bv_lt,bv_le,bv_eq,bv_ok,bv_no]
theorem c_modes_New:Pure X.modes_New #[] (.agg (Md.arr ⟨true,false,false,true,false,false,false,0,0⟩)):=by
 intro w hL
 refine v_modes_New ?_
 repeat' (first|(refine Fin.of fun _=>?_)|(refine FinE.of fun _=>?_)|(refine And.intro ?_ ?_)|intro _)
 all_goals first|rfl|(unfold I64;omega)|(exfalso;first|omega|contradiction|(simp_all;done))|(simp[bv_lt,bv_le,bv_eq,bv_ok,bv_no, *];done)|grind [bv_lt,bv_le,bv_eq,bv_ok,bv_no]
theorem c_term_clamp_int {n least most:Int}:Pure X.term_clamp_int #[.int .i64 n, .int .i64 least, .int .i64 most] (.int .i64 (max least (min n most))):=by
 intro w hL
 refine v_term_clamp_int n least most ?_
 repeat' (first|(refine Fin.of fun _=>?_)|(refine FinE.of fun _=>?_)|(refine And.intro ?_ ?_)|intro _)
 all_goals first|rfl|(unfold I64;omega)|(exfalso;first|omega|contradiction|(simp_all;done))|(simp[bv_lt,bv_le,bv_eq,bv_ok,bv_no, *];done)|grind [bv_lt,bv_le,bv_eq,bv_ok,bv_no]
end Go.Proofs.YtjhhiindeignaaaGreatDoor
namespace Go.Proofs.YtjhhiindeignaaaGreatDoor
open Go Go.RowKit Go.Sy Go.Rep
set_option maxRecDepth 100000
def inP (n:Int):Bool:=decide (0≤idx pointersT n 0)
def inS (n:Int):Bool:=decide (0≤idx screensT n 0)
def okMd (m:Md):Bool:=(decide (m.ptr=0)||inP m.ptr)&&(decide (m.alt=0)||inS m.alt)
end Go.Proofs.YtjhhiindeignaaaGreatDoor
namespace Go.Proofs.YtjhhiindeignaaaGreatDoor
open Go Go.RowKit Go.Sy Go.Rep
set_option maxRecDepth 100000
theorem v_slices_BinarySearchFunc_rune {w0:World} {F:Nat→Prop} {Q:Value→World→Prop} (px:Option Addr) (nx:Nat) (cx:Nat) (target:Int) (h:∃I1:Int→Int→World→Prop,∃I2:Int→Int→Nat,(∀w10:World,(Below w0.heap.size w0 w10)→I1 0 (nx:Int) w10)∧∀i1 i2:Int,∀w1:World,(Keeps F w0 w1)→(I1 i1 i2 w1)→((i1<i2)→(I64 (i1+i2))∧(((0:Int)≤1)∧((I64 (shrI .u64 (IntKind.wrap .u64 (i1+i2)) 1))∧∃a2:Addr,(px=(some a2))∧((((0:Int)≤(shrI .u64 (IntKind.wrap .u64 (i1+i2)) 1))∧((shrI .u64 (IntKind.wrap .u64 (i1+i2)) 1)<(nx:Int)))∧∃i6 i7:Int,(At w1 a2 ((Int.toNat (shrI .u64 (IntKind.wrap .u64 (i1+i2)) 1))*2) [(.int .i32 i6),(.int .i32 i7)])∧∀w6:World,(Below w1.heap.size w1 w6)→Runs Tryz.prog X.width_in_1 #[(.agg #[(.int .i32 i6),(.int .i32 i7)]),(.int .i32 target)] w6 (fun e2 w7=>∃i8:Int,(e2=(.returned (.int .i64 i8)))∧((Kept w0.heap.size F [] w6 w7)∧(((i8<0)→(I64 ((shrI .u64 (IntKind.wrap .u64 (i1+i2)) 1)+1))∧∀w9:World,(Below w7.heap.size w7 w9)→(I1 ((shrI .u64 (IntKind.wrap .u64 (i1+i2)) 1)+1) i2 w9)∧(I2 ((shrI .u64 (IntKind.wrap .u64 (i1+i2)) 1)+1) i2<I2 i1 i2))∧(((0:Int)≤i8)→∀w8:World,(Below w7.heap.size w7 w8)→(I1 i1 (shrI .u64 (IntKind.wrap .u64 (i1+i2)) 1) w8)∧(I2 i1 (shrI .u64 (IntKind.wrap .u64 (i1+i2)) 1)<I2 i1 i2)))))))))∧((i2≤i1)→((i1<(nx:Int))→∃a1:Addr,(px=(some a1))∧((((0:Int)≤i1)∧(i1<(nx:Int)))∧∃i3 i4:Int,(At w1 a1 ((Int.toNat i1)*2) [(.int .i32 i3),(.int .i32 i4)])∧∀w3:World,(Below w1.heap.size w1 w3)→Runs Tryz.prog X.width_in_1 #[(.agg #[(.int .i32 i3),(.int .i32 i4)]),(.int .i32 target)] w3 (fun e1 w4=>∃i5:Int,(e1=(.returned (.int .i64 i5)))∧((Kept w0.heap.size F [] w3 w4)∧Fin w0 F w4 Q (.tuple #[(.int .i64 i1),(.bool (BE.val (.eq i5 0)))])))))∧(((nx:Int)≤i1)→Fin w0 F w1 Q (.tuple #[(.int .i64 i1),(.bool false)])))):Gets Tryz.prog X.slices_BinarySearchFunc_rune #[(.slice px nx cx),(.int .i32 target),(.func (.func X.width_in_1) #[] #[])] w0 F Q:=
 func_run mixed [⟨3,[9,10],[]⟩] [] X.slices_BinarySearchFunc_rune [SV.sl px nx cx,SV.int IntKind.i32 target,SV.fn X.width_in_1 [] []] ⟨by trivial,by trivial,by trivial,trivial⟩ (by kernel_rfl) (by kernel_rfl) h
end Go.Proofs.YtjhhiindeignaaaGreatDoor
