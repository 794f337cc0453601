/- A part of the proof of EvictCounts. -/
import Derived.Orders
import GoSem.Core.Utf8
import Derived.Laws.Externs
import Derived.Lib.Bytealg
import Derived.Below
import Derived.Laws.Cells
import Derived.Laws.Tables
import Derived.Laws.NewBlocks
import Derived.LaidLaws
import Derived.Lib.LaidTab
import Derived.Handed
import Derived.Carry
import Derived.ChangeSame
import Derived.RowKit
import Derived.OpenShut
import Derived.LaidMore
import Derived.LaidHandle
import Derived.MakeChecks
import Derived.JoinedOf
import Derived.Stop.Joined
import Derived.RangeFuncIn
import Derived.Laws.Strings
import Derived.Laws.StructEq
import Derived.Laws.Entries
import Derived.Laws.AppendOwn
import Derived.Tactics
import Derived.RangeFuncLeaves
import Derived.Laws.MakeOwn
import Derived.Laws.IdiomStrings
import Derived.ArgAppend
set_option linter.unusedVariables false
set_option linter.unusedSimpArgs false
set_option linter.unusedSectionVars false
namespace Go.Abs
noncomputable section
inductive Tr (α:Type) where
 |leaf
 |node (l:Tr α) (v:Option α) (r:Tr α)
namespace Tr
variable {α:Type}
noncomputable def get (t:Tr α):Nat→Option α:=
 Tr.rec (motive:=fun _=>Nat→Option α) (fun _=>none)
  (fun _ v _ gl gr k=>Bool.rec (Bool.rec (gr (Nat.div (Nat.sub k 1) 2)) (gl (Nat.div (Nat.sub k 1) 2)) (Nat.beq (Nat.mod k 2) 1)) v (Nat.beq k 0)) t
noncomputable def single (d:Nat):Nat→α→Tr α:=
 Nat.rec (motive:=fun _=>Nat→α→Tr α) (fun _ x=>node leaf (some x) leaf)
  (fun _ s k x=>Bool.rec (Bool.rec (node leaf none (s (Nat.div (Nat.sub k 1) 2) x)) (node (s (Nat.div (Nat.sub k 1) 2) x) none leaf) (Nat.beq (Nat.mod k 2) 1))
   (node leaf (some x) leaf) (Nat.beq k 0)) d
noncomputable def set (t:Tr α):Nat→α→Tr α:=
 Tr.rec (motive:=fun _=>Nat→α→Tr α) (fun k x=>single k k x)
  (fun l v r sl sr k x=>Bool.rec (Bool.rec (node l v (sr (Nat.div (Nat.sub k 1) 2) x)) (node (sl (Nat.div (Nat.sub k 1) 2) x) v r) (Nat.beq (Nat.mod k 2) 1))
   (node l (some x) r) (Nat.beq k 0)) t
end Tr
structure APtr where
 fam:Nat
 gen:Nat
 off:Nat
inductive ACap where
 |exact(n:Nat)
 |toEnd
inductive AVal where
 |bool (b:Bool)
 |int (k:IntKind) (n:Int)
 |str (s:List UInt8)
 |ptr (p:Option APtr)
 |slice (p:Option APtr) (len:Nat) (cap:ACap)
 |zslice (p:APtr) (low es:Nat)
 |map (r:Option Nat)
 |func (fn:Fn) (first captured:List AVal)
 |nilFunc
 |iface (t:TypeId) (v:AVal)
 |nilIface
 |agg (cs:List AVal)
 |tuple (vs:List AVal)
structure ACells where
 ety:TypeId
 es:Nat
 size:Nat
 elems:Tr (List AVal×Nat)
 flex:Bool
 gen:Nat
 start:Nat
 frz:Nat
 mark:Bool
 ro:Bool
inductive AObj where
 |cells (c:ACells)
 |siter (s:List UInt8) (pos:Nat)
 |amap (k:IntKind) (es:List (Int×AVal))
 |miter (m:Option Nat)
structure L1 where
 a0:Option AObj
 a1:Option AObj
 a2:Option AObj
 a3:Option AObj
 a4:Option AObj
 a5:Option AObj
 a6:Option AObj
 a7:Option AObj
 a8:Option AObj
 a9:Option AObj
 a10:Option AObj
 a11:Option AObj
 a12:Option AObj
 a13:Option AObj
 a14:Option AObj
 a15:Option AObj
structure L2 where
 a0:L1
 a1:L1
 a2:L1
 a3:L1
 a4:L1
 a5:L1
 a6:L1
 a7:L1
 a8:L1
 a9:L1
 a10:L1
 a11:L1
 a12:L1
 a13:L1
 a14:L1
 a15:L1
structure L3 where
 a0:L2
 a1:L2
 a2:L2
 a3:L2
 a4:L2
 a5:L2
 a6:L2
 a7:L2
 a8:L2
 a9:L2
 a10:L2
 a11:L2
 a12:L2
 a13:L2
 a14:L2
 a15:L2
structure L4 where
 a0:L3
 a1:L3
 a2:L3
 a3:L3
 a4:L3
 a5:L3
 a6:L3
 a7:L3
 a8:L3
 a9:L3
 a10:L3
 a11:L3
 a12:L3
 a13:L3
 a14:L3
 a15:L3
structure Heap where
 objs:L4
 next:Nat
 low:Nat
section
variable (P:Program)
def maskOf (ms:List Nat):List Edge→Nat
 |[]=>0
 |e::es=>match Region.binds .any e with
  |false=>maskOf ms es
  |true=>match ms[e.on]? with
   |some x=>Nat.lor (Nat.lor (maskOf ms es) x) (Nat.shiftLeft 1 e.on)
   |none=>maskOf ms es
def masksFrom:List Nat→List Oper→List Nat
 |ms,[]=>ms
 |ms,o::rest=>masksFrom (ms++[maskOf ms o.after.toList]) rest
def masks (ops:Array Oper):List Nat:=masksFrom [] ops.toList
def ahead (ms:List Nat) (i j:Nat):Bool:=match ms[j]? with
 |some m=>Nat.testBit m i
 |none=>false
end
end
end Go.Abs
namespace Go.Abs
theorem ite_rec {β:Type} (b:Bool) (x y:β):(Bool.rec x y b:β)=if b then y else x:=by cases b<;>rfl
namespace Tr
variable {α:Type}
theorem get_leaf (k:Nat):get (leaf:Tr α) k=none:=rfl
theorem get_node (l r:Tr α) (v:Option α) (k:Nat):
  get (node l v r) k=if k=0 then v else if k%2=1 then get l ((k-1)/2) else get r ((k-1)/2):=by
 show(Bool.rec (Bool.rec (get r ((k-1)/2)) (get l ((k-1)/2)) (Nat.beq (k%2) 1)) v (Nat.beq k 0):Option α)=_
 rw[ite_rec,ite_rec];simp only[Nat.beq_eq]
theorem set_node (l r:Tr α) (v:Option α) (k:Nat) (x:α):
  set (node l v r) k x=if k=0 then node l (some x) r else if k%2=1 then node (set l ((k-1)/2) x) v r else node l v (set r ((k-1)/2) x):=by
 show(Bool.rec (Bool.rec (node l v (set r ((k-1)/2) x)) (node (set l ((k-1)/2) x) v r) (Nat.beq (k%2) 1)) (node l (some x) r) (Nat.beq k 0):Tr α)=_
 rw[ite_rec,ite_rec];simp only[Nat.beq_eq]
theorem single_succ (d k:Nat) (x:α):
  single (d+1) k x=if k=0 then node leaf (some x) leaf else if k%2=1 then node (single d ((k-1)/2) x) none leaf else node leaf none (single d ((k-1)/2) x):=by
 show(Bool.rec (Bool.rec (node leaf none (single d ((k-1)/2) x)) (node (single d ((k-1)/2) x) none leaf) (Nat.beq (k%2) 1)) (node leaf (some x) leaf) (Nat.beq k 0):Tr α)=_
 rw[ite_rec,ite_rec];simp only[Nat.beq_eq]
theorem get_single:∀(d k:Nat) (x:α),k≤d→∀j,get (single d k x) j=if j=k then some x else none:=by
 intro d
 induction d with
 |zero=>
  intro k x hk j
  obtain rfl:k=0:=by omega
  show get (node leaf (some x) leaf) j=_
  rw[get_node]
  by_cases hj:j=0
  ·simp[hj]
  ·simp[hj,get_leaf]
 |succ d ih=>
  intro k x hk j
  rw[single_succ]
  by_cases h0:k=0
  ·subst h0
   simp only[if_true]
   rw[get_node]
   by_cases hj:j=0
   ·simp[hj]
   ·simp[hj,get_leaf]
  ·simp only[h0,if_false]
   by_cases h1:k%2=1
   ·simp only[h1,if_true]
    rw[get_node]
    by_cases hj:j=0
    ·subst hj;rw[if_pos rfl,if_neg (by omega)]
    ·rw[if_neg hj]
     by_cases hj1:j%2=1
     ·rw[if_pos hj1,ih _ _ (by omega)]
      by_cases he:j=k
      ·subst he;simp
      ·rw[if_neg he,if_neg (by omega)]
     ·rw[if_neg hj1,get_leaf,if_neg (by intro e;subst e;omega)]
   ·simp only[h1,if_false]
    rw[get_node]
    by_cases hj:j=0
    ·subst hj;rw[if_pos rfl,if_neg (by omega)]
    ·rw[if_neg hj]
     by_cases hj1:j%2=1
     ·rw[if_pos hj1,get_leaf,if_neg (by intro e;subst e;omega)]
     ·rw[if_neg hj1,ih _ _ (by omega)]
      by_cases he:j=k
      ·subst he;simp
      ·rw[if_neg he,if_neg (by omega)]
theorem get_set (t:Tr α):∀(k:Nat) (x:α) (j:Nat),get (set t k x) j=if j=k then some x else get t j:=by
 induction t with
 |leaf=>intro k x j;exact get_single k k x (Nat.le_refl _) j
 |node l v r ihl ihr=>
  intro k x j
  rw[set_node]
  by_cases h0:k=0
  ·subst h0
   simp only[if_true]
   rw[get_node,get_node]
   by_cases hj:j=0
   ·simp[hj]
   ·simp[hj]
  ·simp only[h0,if_false]
   by_cases h1:k%2=1
   ·simp only[h1,if_true]
    rw[get_node,get_node]
    by_cases hj:j=0
    ·subst hj;rw[if_pos rfl,if_neg (by omega),if_pos rfl]
    ·rw[if_neg hj,if_neg hj]
     by_cases hj1:j%2=1
     ·rw[if_pos hj1,if_pos hj1,ihl]
      by_cases he:j=k
      ·subst he;simp
      ·rw[if_neg he,if_neg (by omega)]
     ·rw[if_neg hj1,if_neg hj1,if_neg (by intro e;subst e;omega)]
   ·simp only[h1,if_false]
    rw[get_node,get_node]
    by_cases hj:j=0
    ·subst hj;rw[if_pos rfl,if_neg (by omega),if_pos rfl]
    ·rw[if_neg hj,if_neg hj]
     by_cases hj1:j%2=1
     ·rw[if_pos hj1,if_pos hj1,if_neg (by intro e;subst e;omega)]
     ·rw[if_neg hj1,if_neg hj1,ihr]
      by_cases he:j=k
      ·subst he;simp
      ·rw[if_neg he,if_neg (by omega)]
end Tr
end Go.Abs
namespace Go.Abs
structure RB where
 block:Nat
 base:Nat
 start:Nat
 ends:Nat
 es:Nat
def RB.at (b:RB) (off:Nat):Addr:=⟨b.block,b.base+(off-b.start),none⟩
def RB.cap (b:RB) (off:Nat):Nat:=(b.ends-off)/b.es
abbrev Real:=Nat→Nat→Option RB
def realFn (σ:Real):Fn→Fn
 | .yield f=> .yield (match σ f 0 with|some b=>b.block|none=>0)
 |fn=>fn
def okFn (σ:Real):Fn→Prop
 | .yield f=>∃b,σ f 0=some b
 |_=>True
mutual
def conc (σ:Real):AVal→Value
 | .bool b=> .bool b
 | .int k n=> .int k n
 | .str s=> .string ⟨s.toArray⟩
 | .ptr none=> .pointer none
 | .ptr (some p)=> .pointer ((σ p.fam p.gen).map fun b=>b.at p.off)
 | .slice none len cap=> .slice none len (match cap with| .exact c=>c| .toEnd=>0)
 | .slice (some p) len cap=>match σ p.fam p.gen with
  |some b=> .slice (some (b.at p.off)) len (match cap with| .exact c=>c| .toEnd=>b.cap p.off)
  |none=> .slice none len 0
 | .zslice p low es=>match σ p.fam p.gen with
  |some b=>if b.cap p.off=low then .slice (some (b.at p.off)) 0 0 else .slice (some (b.at (p.off+low*es))) 0 (b.cap p.off-low)
  |none=> .slice none 0 0
 | .map none=> .map none
 | .map (some f)=> .map ((σ f 0).map (·.block))
 | .func fn first cap=> .func (realFn σ fn) (concs σ first).toArray (concs σ cap).toArray
 | .nilFunc=> .nilFunc
 | .iface t v=> .iface t (conc σ v)
 | .nilIface=> .nilIface
 | .agg cs=> .agg (concs σ cs).toArray
 | .tuple vs=> .tuple (concs σ vs).toArray
def concs (σ:Real):List AVal→List Value
 |[]=>[]
 |v::vs=>conc σ v::concs σ vs
end
theorem concs_eq (σ:Real) (l:List AVal):concs σ l=l.map (conc σ):=by
 induction l with
 |nil=>rfl
 |cons v l ih=>simp[concs,ih]
def AVal.scalar:AVal→Bool
 | .agg _=>false
 | .tuple _=>false
 |_=>true
mutual
def okv (σ:Real):AVal→Prop
 | .ptr (some p)=>∃b,σ p.fam p.gen=some b∧b.start≤p.off
 | .slice none _ cap=>∃c,cap= .exact c
 | .slice (some p) len cap=>∃b,σ p.fam p.gen=some b∧b.start≤p.off∧(cap= .toEnd→0<b.es∧p.off+len*b.es≤b.ends)
 | .zslice p low es=>∃b,σ p.fam p.gen=some b∧b.start≤p.off∧0<b.es∧es=b.es∧p.off+low*b.es≤b.ends
 | .map (some f)=>∃b,σ f 0=some b
 | .func fn first cap=>okFn σ fn∧okvs σ first∧okvs σ cap
 | .iface _ v=>okv σ v
 | .agg cs=>okvs σ cs∧cs.all AVal.scalar=true
 | .tuple vs=>okvs σ vs
 |_=>True
def okvs (σ:Real):List AVal→Prop
 |[]=>True
 |v::vs=>okv σ v∧okvs σ vs
end
theorem okvs_iff {σ:Real} {l:List AVal}:okvs σ l↔∀v∈l,okv σ v:=by
 induction l with
 |nil=>simp[okvs]
 |cons v l ih=>simp[okvs,ih]
structure Base where
 n:Nat
 under:Real
 loops:List (Nat×Loop)
end Go.Abs
namespace Go.Abs
structure Tab where
 at':Nat
 ety:TypeId
 es:Nat
 vs:List AVal
variable {σ:Real}
theorem okvs_append {a b:List AVal}:okvs σ (a++b)↔okvs σ a∧okvs σ b:=by
 simp only[okvs_iff,List.mem_append]
 exact⟨fun h=>⟨fun v hv=>h v (.inl hv),fun v hv=>h v (.inr hv)⟩,fun h v hv=>hv.elim (h.1 v) (h.2 v)⟩
theorem concs_append (a b:List AVal):concs σ (a++b)=concs σ a++concs σ b:=by simp[concs_eq]
end Go.Abs
namespace Go.Abs
open Go.ChangeShapes
mutual
def flatD:DataW Unit→Option (List AVal)
 | .lit (.int k n)=>some [.int k n]
 | .agg ds=>flatDs ds
 |_=>none
def flatDs:List (DataW Unit)→Option (List AVal)
 |[]=>some []
 |d::ds=>(flatD d).bind fun a=>(flatDs ds).map (a++·)
end
def rowOf (P:Program):List Field→Nat→Option Nat
 |[],a=>some a
 |f::fs,a=>if f.offset=a then rowOf P fs (a+P.cellsOf f.type) else none
def plainT (P:Program):Nat→TypeId→Bool
 |0,_=>false
 |k+1,t=>match P.underlying t with
  |some (.int _)=>true
  |some (.array n e)=>plainT P k e&&Nat.beq (P.cellsOf t) (n*P.cellsOf e)
  |some (.struct fs)=>fs.toList.all (fun f=>plainT P k f.type)&&rowOf P fs.toList 0==some (P.cellsOf t)
  |_=>false
def Holds (σ:Real) (cs:List Value) (vs:List AVal):Prop:=cs=concs σ vs∧okvs σ vs∧vs.all AVal.scalar=true
theorem Holds.append {σ:Real} {a b:List Value} {u v:List AVal} (h:Holds σ a u) (k:Holds σ b v):Holds σ (a++b) (u++v):=
 ⟨by rw[h.1,k.1,concs_append],okvs_append.2 ⟨h.2.1,k.2.1⟩,by rw[List.all_append,h.2.2,k.2.2];rfl⟩
theorem holds_pieces {ι:Type} {σ:Real} {cs:List Value} {off sz:ι→Nat} {g:ι→Option (DataW Unit×List MemPlace)} (items:List ι)
  (hg:∀i∈items,∀d p vs,g i=some (d,p)→flatD d=some vs→Holds σ ((cs.drop (off i)).take (sz i)) vs):
  ∀(a b:Nat) (xs:List (DataW Unit×List MemPlace)) (vs:List AVal),(∀(l r:List ι) (i:ι),items=l++i::r→off i=a+(l.map sz).sum)→b=a+(items.map sz).sum→
   items.mapM g=some xs→flatDs (xs.map (·.1))=some vs→Holds σ ((cs.drop a).take (b-a)) vs:=by
 induction items with
 |nil=>
  intro a b xs vs _ hb hm hf
  simp only[List.mapM_nil,Option.pure_def,Option.some.injEq] at hm
  subst hm
  simp only[List.map_nil,flatDs,Option.some.injEq] at hf
  subst hf
  simp only[List.map_nil,List.sum_nil,Nat.add_zero] at hb
  rw[hb,Nat.sub_self]
  exact⟨rfl,trivial,rfl⟩
 |cons i items ih=>
  intro a b xs vs hoff hb hm hf
  rw[List.mapM_cons] at hm
  simp only[Option.bind_eq_bind,Option.bind_eq_some_iff,Option.pure_def,Option.some.injEq] at hm
  obtain⟨⟨d,p⟩,h1,ys,h2,rfl⟩:=hm
  simp only[List.map_cons,flatDs,Option.bind_eq_some_iff,Option.map_eq_some_iff] at hf
  obtain⟨u,hu,us,hus,rfl⟩:=hf
  have ho:off i=a:=by have:=hoff [] items i rfl;simpa using this
  have k1:=hg i (by simp) d p u h1 hu
  rw[ho] at k1
  have k2:=ih (fun j hj=>hg j (by simp[hj])) (a+sz i) b ys us (fun l r j hj=>by
   have:=hoff (i::l) r j (by rw[hj];rfl)
   simp only[List.map_cons,List.sum_cons] at this
   omega) (by simp only[List.map_cons,List.sum_cons] at hb;omega) h2 hus
  have hb':b-a=sz i+(b-(a+sz i)):=by simp only[List.map_cons,List.sum_cons] at hb;omega
  rw[hb',List.take_add,List.drop_drop]
  exact k1.append k2
theorem rowOf_off (P:Program):∀(fs:List Field) (a b:Nat),rowOf P fs a=some b→
  (∀(l r:List Field) (f:Field),fs=l++f::r→f.offset=a+(l.map fun f=>P.cellsOf f.type).sum)∧b=a+(fs.map fun f=>P.cellsOf f.type).sum
 |[],a,b,h=>by
  simp only[rowOf,Option.some.injEq] at h
  subst h
  exact⟨fun l r f hf=>by simp at hf,by simp⟩
 |f::fs,a,b,h=>by
  unfold rowOf at h
  split at h
  ·rename_i ho
   obtain⟨h1,h2⟩:=rowOf_off P fs _ _ h
   refine⟨fun l r g hg=>?_,by simp only[List.map_cons,List.sum_cons];omega⟩
   cases l with
   |nil=>simp only[List.nil_append,List.cons.injEq] at hg;rw[←hg.1];simpa using ho
   |cons x l=>
    simp only[List.cons_append,List.cons.injEq] at hg
    have:=h1 l r g hg.2
    simp only[List.map_cons,List.sum_cons,←hg.1]
    omega
  ·cases h
theorem sum_const (c:Nat):∀l:List Nat,(l.map fun _=>c).sum=l.length*c
 |[]=>by simp
 |x::l=>by simp only[List.map_cons,List.sum_cons,sum_const c l,List.length_cons,Nat.succ_mul];omega
theorem holds_trod {P:Program} {w:World} {base:Nat} {sp:Nat→Bool} {held:Bool} {σ:Real}:∀(k fuel:Nat) (t:TypeId) (cs:List Value) (d:DataW Unit) (p:List MemPlace) (vs:List AVal),
  plainT P k t=true→DataW.trod (fun _=>()) P w base sp held fuel t cs=some (d,p)→flatD d=some vs→Holds σ cs vs:=by
 intro k
 induction k with
 |zero=>intro fuel t cs d p vs hp;cases hp
 |succ k ih=>
  intro fuel t cs d p vs hp ht hf
  unfold plainT at hp
  split at hp
  ·rename_i ik hu
   obtain⟨n,rfl,hx,_⟩:=DataW.trod_int hu ht
   cases hx
   simp only[flatD,Option.some.injEq] at hf
   subst hf
   exact⟨rfl,⟨trivial,trivial⟩,rfl⟩
  ·rename_i n e hu
   rw[Bool.and_eq_true,Nat.beq_eq] at hp
   cases fuel with
   |zero=>simp[DataW.trod] at ht
   |succ fuel=>
    simp only[DataW.trod,hu] at ht
    split at ht
    ·rename_i hl
     obtain⟨xs,hm,hx⟩:=Option.map_eq_some_iff.1 ht
     cases hx
     rw[flatD] at hf
     have:=holds_pieces (σ:=σ) (cs:=cs) (off:=fun i=>i*P.cellsOf e) (sz:=fun _=>P.cellsOf e) (List.range n) (fun i _ d p vs h1 h2=>ih fuel e _ d p vs hp.1 h1 h2) 0 (n*P.cellsOf e) xs vs
      (fun l r i hi=>by
       have hli:i=l.length:=by
        have h3:(List.range n)[l.length]? =some i:=by rw[hi];simp
        rw[List.getElem?_range] at h3
        ·simpa using h3.symm
        ·have:=congrArg List.length hi;simp at this;omega
       rw[sum_const,hli];omega)
      (by rw[sum_const];simp) hm hf
     rw[Nat.sub_zero,List.drop_zero,List.take_of_length_le (by omega)] at this
     exact this
    ·cases ht
  ·rename_i fs hu
   rw[Bool.and_eq_true] at hp
   obtain⟨hp1,hp2⟩:=hp
   have hp3:rowOf P fs.toList 0=some (P.cellsOf t):=by simpa using hp2
   obtain⟨o1,o2⟩:=rowOf_off P _ _ _ hp3
   cases fuel with
   |zero=>simp[DataW.trod] at ht
   |succ fuel=>
    simp only[DataW.trod,hu] at ht
    split at ht
    ·rename_i hl
     obtain⟨xs,hm,hx⟩:=Option.map_eq_some_iff.1 ht
     cases hx
     rw[flatD] at hf
     have:=holds_pieces (σ:=σ) (cs:=cs) (off:=fun f:Field=>f.offset) (sz:=fun f=>P.cellsOf f.type) fs.toList (fun f hf' d p vs h1 h2=>ih fuel f.type _ d p vs (List.all_eq_true.1 hp1 f hf') h1 h2) 0 (P.cellsOf t) xs vs
      o1 o2 hm hf
     rw[Nat.sub_zero,List.drop_zero,List.take_of_length_le (by omega)] at this
     exact this
    ·cases ht
  ·cases hp
end Go.Abs
namespace Go.Abs
variable {P:Program}
theorem laid_get {W:World}:∀{laid:List (String×DataW Unit)} {ps:List MemPlace},DataW.LaidVars P W laid ps→∀x∈laid,∃g t cs fuel p,P.globalNamed x.1=some g∧(P.globals[g]?).map (·.type)=some t∧W.var? P x.1=some cs∧
  DataW.trod (fun _=>()) P W 0 (fun _=>true) false fuel t cs.toList=some (x.2,p)
 |[],_,_,x,hx=>by cases hx
 |(n,d)::r,ps,h,x,hx=>by
  obtain⟨g,t,cs,fuel,p,q,h1,h2,h3,h4,h5,_⟩:=h
  rcases List.mem_cons.1 hx with rfl|hx
  ·exact⟨g,t,cs,fuel,p,h1,h2,h3,h4⟩
  ·exact laid_get h5 x hx
structure Tab.Is (P:Program) (laid:List (String×DataW Unit)) (t:Tab) (x:String×DataW Unit) (ty:TypeId) (k:Nat):Prop where
 mem:x∈laid
 named:P.globalNamed x.1=some t.at'
 lt:t.at'<P.globals.size
 type:(P.globals[t.at']?).map (·.type)=some ty
 plain:plainT P k ty=true
 flat:flatD x.2=some t.vs
 pos:0<t.es
 fits:t.vs.length%t.es=0
 made:∃zero,((begin P (fun _ _=>0) default).world.heap[t.at']?).bind Obj.row?=some (zero,t.ety)
theorem tab_met {W:World} {laid:List (String×DataW Unit)} {t:Tab} {x:String×DataW Unit} {ty:TypeId} {k:Nat} (hW:W.ShapedOpen P) (hL:laidMet P laid W) (h:t.Is P laid x ty k):
  t.at'<P.globals.size∧0<t.es∧t.vs.length%t.es=0∧okvs (fun _ _=>none) t.vs∧t.vs.all AVal.scalar=true∧W.heap[t.at']? =some (.cells (concs (fun _ _=>none) t.vs).toArray t.ety (0,0)):=by
 obtain⟨ps,hv,_⟩:=hL
 obtain⟨g,ty',cs,fuel,p,h1,h2,h3,h4⟩:=laid_get hv x h.mem
 obtain rfl:g=t.at':=Option.some.inj (h1.symm.trans h.named)
 obtain rfl:ty'=ty:=Option.some.inj (h2.symm.trans h.type)
 obtain⟨zero,hz⟩:=h.made
 obtain⟨cs',c1,_,_⟩:=hW.1 t.at' zero t.ety h.lt hz
 have hcs:cs'=cs:=by
  unfold World.var? at h3
  rw[h.named] at h3
  simp only[Option.bind_some,c1] at h3
  exact Option.some.inj h3
 subst hcs
 obtain⟨e1,e2,e3⟩:=holds_trod (σ:=fun _ _=>none) k fuel ty' cs'.toList x.2 p t.vs h.plain h4 h.flat
 refine⟨h.lt,h.pos,h.fits,e2,e3,?_⟩
 rw[c1,←e1]
theorem globals_in {W:World} (hW:W.ShapedOpen P) (h:∀g,P.globals.size=g+1→∃zero t,((begin P (fun _ _=>0) default).world.heap[g]?).bind Obj.row?=some (zero,t)):P.globals.size≤W.heap.size:=by
 cases hs:P.globals.size with
 |zero=>exact Nat.zero_le _
 |succ g=>
  obtain⟨zero,t,hz⟩:=h g hs
  obtain⟨cs,c1,_⟩:=hW.1 g zero t (by omega) hz
  exact(Array.getElem?_eq_some_iff.1 c1).1
end Go.Abs
namespace Go.Abs
open Go.RowKit Go.ChangeShapes Go.WideShapes
section
variable {H:Type} {enc:TypeId×Value→H} {P:Program}
theorem trodAll_long {w:World} {base:Nat} {spare:Nat→Bool} {held:Bool}:∀{ts:List TypeId} {vs:List Value} {ds:List (DataW H)} {ps:List MemPlace},DataW.TrodAll enc P w base spare held ts vs ds ps→vs.length=ts.length∧ds.length=ts.length
 |[],_,_,_,h=>by
  obtain⟨rfl,rfl,_⟩:=trodAll_nil h
  exact⟨rfl,rfl⟩
 |_::_,_,_,_,h=>by
  obtain⟨v,vs1,d,ds1,a,b,rfl,rfl,rfl,_,h2⟩:=trodAll_cons h
  have:=trodAll_long h2
  simp[this.1,this.2]
theorem trodAll_carry (hl:laidOutB P=true) {W W':World} (hb:Below W.heap.size W W'):∀{ts:List TypeId} {vs:List Value} {ds:List (DataW H)} {ps:List MemPlace},
  ts.all (fun t=>P.readableRec t&&decide (t<P.types.size))=true→DataW.TrodAll enc P W 0 (fun _=>true) true ts vs ds ps→(∀x∈ps,x.block<W.heap.size)→∀sp:Nat→Bool,(∀p∈ps,sp p.block=true)→DataW.TrodAll enc P W' 0 sp true ts vs ds ps
 |[],_,_,_,_,h,_,_,_=>by
  obtain⟨rfl,rfl,rfl⟩:=trodAll_nil h
  rfl
 |t::ts,_,_,_,ht,h,hlt,sp,hsp=>by
  obtain⟨v,vs,d,ds,p,q,rfl,rfl,rfl,h1,h2⟩:=trodAll_cons h
  simp only[List.all_cons,Bool.and_eq_true,decide_eq_true_eq] at ht
  exact trodAll_cons_mk (WideElems.Trod_stays hl ht.1.1 ht.1.2 h1 (fun x hx=>hb.same (hlt x (by simp[hx]))) (fun x hx=>hsp x (by simp[hx])))
   (trodAll_carry hl hb (by simpa using ht.2) h2 (fun x hx=>hlt x (by simp[hx])) sp (fun x hx=>hsp x (by simp[hx])))
theorem post_true {f:Func} {s:ChangeSpec} {apart fresh handsOn again:Bool} {W W':World} {args:Array Value} {ds gs:List (DataW H)} {before:List MemPlace} {bt:TypeId}
  (hl:laidOutB P=true) (hpar:f.params.toList.all (fun t=>P.readableRec t&&decide (t<P.types.size))=true) (hvars:s.vars=[]) (hres:f.resultTypes=#[bt]) (hbt:P.underlying bt=some .bool)
  (hW:DataW.Whole enc P f.params.toList s.vars apart W args.toList ds gs before) (hs:s.fn H (ds++gs)={results:=[.lit (.bool true)],args:=ds}) (hb:Below W.heap.size W W'):
  s.post enc P f apart fresh handsOn again W args (.bool true) W':=by
 have hlt:∀p∈before,p.block<W.heap.size:=fun p hp=>hW.lt p hp
 have hold:∀p∈before,(fun b=>decide (b<W.heap.size)) p.block=true:=fun p hp=>by simpa using hlt p hp
 have hW0:=hW
 obtain⟨p,q,hA,hV,he,hz,hn⟩:=hW
 rw[hvars] at hV
 obtain⟨rfl,rfl⟩:=trodVars_none hV
 rw[List.append_nil] at he
 subst he
 have hr:∀(b:Nat) (sp:Nat→Bool) (hd:Bool),DataW.TrodAll enc P W' b sp hd f.resultTypes.toList ((Value.bool true).resultList f.resultTypes.size) (s.fn H (ds++[])).results []:=fun b sp hd=>by
  rw[hs,hres]
  exact trodAll_mk1 (shut_bool hbt _)
 have ha:∀sp:Nat→Bool,(∀x∈before,sp x.block=true)→DataW.TrodAll enc P W' 0 sp true f.params.toList args.toList (s.fn H (ds++[])).args before:=fun sp hsp=>by
  rw[hs]
  exact trodAll_carry hl hb hpar hA hlt sp hsp
 have hv:∀sp:Nat→Bool,DataW.TrodVars enc P W' sp s.vars (s.fn H (ds++[])).vars []:=fun sp=>by
  rw[hs,hvars]
  rfl
 refine⟨ds,[],before,[],before,[],hW0,hr _ _ _,ha _ hold,hv _,World.keptBut_mono (fun x hx=>⟨hx,by simpa using hx⟩) (hb.frame (· ∈before)),fun _=>?_⟩
 refine⟨ok_one hres rfl (okWide_bool_mk hbt _),_,_,([]++before)++[],⟨[]++before,[],trodAll_append (ha _ (fun _ _=>rfl)) (hr _ _ _),hv _,by simp,?_,?_⟩,?_⟩
 ·intro b off hp
  have hin:MemPlace.cell b off∈before:=by simpa using hp
  rw[hb.frozen (hlt _ hin)]
  exact hz b off hin
 ·intro hap
  simpa using hn hap
 ·intro x hx _
  simpa using hx
end
theorem law_row {H:Type} {enc:TypeId×Value→H} {a:Assume} {C:Checked} {os:Os} {f:FuncId} {fn:Func} {s:ChangeSpec} {conds:List PathCond} {apart fresh handsOn again:Bool} {laid:List (String×DataW Unit)} {bt:TypeId}
  (own:ownKnob C.prog.godebug=none) (started:os.Started) (noInit:C.prog.inits.idxOf? f=none) (hfn:C.prog.funcs[f]? =some fn)
  (hl:laidOutB C.prog=true) (hpar:fn.params.toList.all (fun t=>C.prog.readableRec t&&decide (t<C.prog.types.size))=true) (hvars:s.vars=[]) (hres:fn.resultTypes=#[bt]) (hbt:C.prog.underlying bt=some .bool)
  (hs:∀ds:List (DataW H),ds.length=fn.params.toList.length→s.fn H ds={results:=[.lit (.bool true)],args:=ds})
  (witness:∃(w:World) (tape:Tape) (i:Input),w.os=os∧(w.forCall tape i).Shaped C.prog∧i.vars=[]∧Input.okWide C.prog (w.forCall tape i) .any w.heap.size f i∧
   ((s.pre enc C.prog fn conds apart (w.forCall tape i).memory i.args∧laidMetH C.prog laid (w.forCall tape i).memory)∧sizedMet enc C.prog fn (OpenSpec.ofChange s) apart (w.forCall tape i).memory i.args)∧a.holds C.prog (lone (Frame.enter C.prog f i.args .normal) [] (w.forCall tape i)))
  (contract:∀(W:World) (base:Nat) (args:Array Value) (ds:List (DataW H)) (before:List MemPlace),
   (∀(j:Nat) t v,fn.params[j]? =some t→args[j]? =some v→Value.okWide C.prog W .any base t v)→
   DataW.TrodAll enc C.prog W 0 (fun _=>true) true fn.params.toList args.toList ds before→
   (DataW.weightsEach C.prog fn.params.toList ds).all (· ≤reachBytes)=true→W.ShapedOpen C.prog→laidMetH C.prog laid W→
   Calls C.prog f args W fun e W'=>e= .returned (.bool true)∧Below W.heap.size W W'):
  ReturnsInHanded a C os f .any (fun w args=>(s.pre enc C.prog fn conds apart w args∧laidMetH C.prog laid w)∧sizedMet enc C.prog fn (OpenSpec.ofChange s) apart w args) (s.post enc C.prog fn apart fresh handsOn again):=by
 refine returnsInHanded_of_calls own started noInit witness ?_
 intro w tape i _ hsh _ hok hpre hholds
 obtain⟨_,_,_,fn',hfn',_,_,_,_,hval⟩:=hok
 have e:fn'=fn:=Option.some.inj (hfn'.symm.trans hfn)
 subst e
 obtain⟨⟨⟨ds,gs,before,hw,hc⟩,hx⟩,hz⟩:=hpre
 have hw':=DataW.Whole.of_heap (w':=w.forCall tape i) (by rfl) hw
 have hwe:=hz.weights hw
 have hx':laidMetH C.prog laid (w.forCall tape i):=hx.of_heap (by rfl)
 have hw0:=hw'
 obtain⟨p,q,hA,hV,he,hfz,hnd⟩:=hw'
 rw[hvars] at hV
 obtain⟨rfl,rfl⟩:=trodVars_none hV
 rw[List.append_nil] at hwe
 have hwe':(DataW.weightsEach C.prog fn'.params.toList ds).all (· ≤reachBytes)=true:=by
  have e1:(OpenSpec.ofChange s).bare.plain.varTypes C.prog=[]:=by
   show(s.vars.filterMap _)=[]
   rw[hvars];rfl
  rw[e1,List.append_nil] at hwe
  exact hwe
 refine(contract (w.forCall tape i) w.heap.size i.args ds p hval hA hwe' hsh hx').mono fun e W' ⟨h1,h2⟩=>?_
 subst h1
 exact ChangeSpec.post_blind (post_true hl hpar hvars hres hbt hw0 (by rw[List.append_nil];exact hs ds (trodAll_long hA).2) h2)
end Go.Abs
namespace Go.Abs
def runsOk:List MemPlace→Nat→Nat→List Nat→Bool
 |[],_,_,_=>true
 | .map _::_,_,_,_=>false
 | .cell b off::ps,cb,co,seen=>match Nat.beq b cb with
  |true=>Nat.ble co off&&runsOk ps cb (off+1) seen
  |false=> !(seen.any (Nat.beq b))&&runsOk ps b (off+1) (b::seen)
theorem runsOk_sound:∀{ps:List MemPlace} {cb co:Nat} {seen:List Nat},runsOk ps cb co seen=true→cb∈seen→
  ps.Nodup∧∀p∈ps,∃b off,p= .cell b off∧(b=cb∧co≤off∨b∉seen)
 |[],_,_,_,_,_=>⟨List.nodup_nil,fun p hp=>by cases hp⟩
 | .map _::_,_,_,_,h,_=>by cases h
 | .cell b off::ps,cb,co,seen,h,hc=>by
  unfold runsOk at h
  split at h
  ·rename_i hb
   obtain rfl:b=cb:=Nat.eq_of_beq_eq_true hb
   rw[Bool.and_eq_true] at h
   have hle:=Nat.le_of_ble_eq_true h.1
   obtain⟨h1,h2⟩:=runsOk_sound h.2 hc
   refine⟨List.nodup_cons.2 ⟨fun hm=>?_,h1⟩,fun p hp=>?_⟩
   ·obtain⟨b',off',e,h3⟩:=h2 _ hm
    cases e
    rcases h3 with h3|h3
    ·omega
    ·exact h3 hc
   ·rcases List.mem_cons.1 hp with rfl|hp
    ·exact⟨b,off,rfl, .inl ⟨rfl,hle⟩⟩
    ·obtain⟨b',off',e,h3⟩:=h2 p hp
     refine⟨b',off',e,h3.imp (fun h4=>⟨h4.1,by omega⟩) id⟩
  ·rw[Bool.and_eq_true,Bool.not_eq_true'] at h
   have hns:b∉seen:=fun hm=>by
    have:seen.any (Nat.beq b)=true:=List.any_eq_true.2 ⟨b,hm,Nat.beq_refl b⟩
    rw[this] at h
    cases h.1
   obtain⟨h1,h2⟩:=runsOk_sound h.2 List.mem_cons_self
   refine⟨List.nodup_cons.2 ⟨fun hm=>?_,h1⟩,fun p hp=>?_⟩
   ·obtain⟨b',off',e,h3⟩:=h2 _ hm
    cases e
    rcases h3 with h3|h3
    ·omega
    ·exact h3 List.mem_cons_self
   ·rcases List.mem_cons.1 hp with rfl|hp
    ·exact⟨b,off,rfl, .inr hns⟩
    ·obtain⟨b',off',e,h3⟩:=h2 p hp
     refine⟨b',off',e, .inr ?_⟩
     rcases h3 with h3|h3
     ·rw[h3.1];exact hns
     ·exact fun hm=>h3 (List.mem_cons_of_mem _ hm)
theorem runsOk_nodup {ps:List MemPlace} {n:Nat} (h:runsOk ps n 0 [n]=true):ps.Nodup:=(runsOk_sound h List.mem_cons_self).1
theorem laidMet_runs {P:Program} {w:World} {l:List (String×DataW Unit)} (fuel n:Nat) (h:(DataW.laidRun P w fuel (l.map (·.1))).map (·.1)=some l)
  (hr:(DataW.laidRun P w fuel (l.map (·.1))).map (fun x=>runsOk x.2 n 0 [n]&&laidRowsB P w x.2)=some true):laidMet P l w:=by
 cases hx:DataW.laidRun P w fuel (l.map (·.1)) with
 |none=>simp[hx] at h
 |some x=>
  obtain⟨l',ps⟩:=x
  simp only[hx,Option.map_some,Option.some.injEq] at h hr
  subst h
  simp only[Bool.and_eq_true] at hr
  exact laidMet_of_run fuel hx (decide_eq_true (runsOk_nodup hr.1)) hr.2
end Go.Abs
namespace Go.Sy
noncomputable section
inductive BE where
 |lt (a b:Int)
 |le (a b:Int)
 |eq (a b:Int)
 |ok (x:Bool)
 |pr (q:Prop)
 |no (e:BE)
def BE.is:BE→Bool→Prop
 | .lt a b,true=>a<b
 | .lt a b,false=>b≤a
 | .le a b,true=>a≤b
 | .le a b,false=>b<a
 | .eq a b,true=>a=b
 | .eq a b,false=>a≠b
 | .ok x,true=>x=true
 | .ok x,false=>x=false
 | .pr q,true=>q
 | .pr q,false=>¬q
 | .no e,true=>e.is false
 | .no e,false=>e.is true
def BE.val (e:BE):Bool:=@decide (e.is true) (Classical.propDecidable _)
def BE.toB:BE→Bool
 | .ok x=>x
 |e=>e.val
inductive SV where
 |int (k:IntKind) (n:Int)
 |lit (b:Bool)
 |bool (e:BE)
 |str (s:List UInt8)
 |ptr (p:Option Addr)
 |adr (a:Addr) (o:Nat)
 |sl (p:Option Addr) (n c:Nat)
 |loc (k off:Nat)
 |lsl (k off n c:Nat)
 |agg (cs:List SV)
 |tup (cs:List SV)
 |fn (f:Nat) (first cap:List SV)
 |val (v:Value)
def SV.scalar:SV→Bool
 | .agg _=>false
 | .tup _=>false
 |_=>true
mutual
def okv (n:Nat):SV→Prop
 | .loc k _=>k<n
 | .lsl k _ _ _=>k<n
 | .agg cs=>okvs n cs∧cs.all SV.scalar=true
 | .tup cs=>okvs n cs
 | .fn _ a b=>okvs n a∧okvs n b
 | .val v=>v.oneCell'=true
 |_=>True
def okvs (n:Nat):List SV→Prop
 |[]=>True
 |v::vs=>okv n v∧okvs n vs
end
structure Codec where
 T:Type
 n:Nat
 enc:T→List SV
 ok:∀x,okvs 0 (enc x)∧(enc x).all SV.scalar=true∧(enc x).length=n
class Codecs where
 tab:TypeId→Option Codec
structure Loc where
 blk:Nat
 ty:TypeId
 cells:List SV
 ver:Nat
def adrVal (a:Addr):Nat→Value
 |0=> .pointer (some a)
 |n+1=> .pointer (some (a.add (n+1)))
mutual
def real (β:List Nat):SV→Value
 | .int k n=> .int k n
 | .lit b=> .bool b
 | .bool e=> .bool e.toB
 | .str s=> .string ⟨s.toArray⟩
 | .ptr p=> .pointer p
 | .adr a o=>adrVal a o
 | .sl p n c=> .slice p n c
 | .loc k off=> .pointer (some ⟨β.getD k 0,off,none⟩)
 | .lsl k off n c=> .slice (some ⟨β.getD k 0,off,none⟩) n c
 | .agg cs=> .agg (reals β cs).toArray
 | .tup cs=> .tuple (reals β cs).toArray
 | .fn f first cap=> .func (.func f) (reals β first).toArray (reals β cap).toArray
 | .val v=>v
def reals (β:List Nat):List SV→List Value
 |[]=>[]
 |v::vs=>real β v::reals β vs
end
def blks:List Loc→List Nat
 |[]=>[]
 |l::ls=>l.blk::blks ls
def SV.flat:SV→List SV
 | .agg cs=>cs
 |v=>[v]
def At (w:World) (a:Addr) (o:Nat) (vs:List Value):Prop:=∀i v,vs[i]? =some v→w.cell? (a.add (o+i))=some v
abbrev Env:=Abs.Tr (Option SV)
def Env.at (T:Env) (t:Nat):Option SV:=match T.get t with
 |some (some v)=>some v
 |_=>none
def ofScalar:Value→Option SV
 | .bool b=>some (.lit b)
 | .int k n=>some (.int k n)
 | .string s=>some (.str s.data.toList)
 | .pointer none=>some (.ptr none)
 | .slice none n c=>some (.sl none n c)
 | .map none=>some (.val (.map none))
 | .nilFunc=>some (.val .nilFunc)
 | .nilIface=>some (.val .nilIface)
 |_=>none
def ofScalars:List Value→Option (List SV)
 |[]=>some []
 |v::vs=>(ofScalar v).bind fun a=>(ofScalars vs).map (a::·)
def ofConst:Value→Option SV
 | .agg cs=>(ofScalars cs.toList).map .agg
 | .tuple cs=>(ofScalars cs.toList).map .tup
 |v=>ofScalar v
section
variable (P:Program)
def eval (T:Env):Operand→Option SV
 | .tmp t=>T.at t
 | .const v=>ofConst v
 | .global g=>match Nat.blt g P.globals.size with
  |true=>some (.adr ⟨g,0,none⟩ 0)
  |false=>none
 | .func f=>some (.fn f [] [])
def evals (T:Env):List Operand→Option (List SV)
 |[]=>some []
 |x::xs=>(eval P T x).bind fun a=>(evals T xs).map (a::·)
def size? (t:TypeId):Option Nat:=(P.info? t).map (·.size)
def isAgg? (t:TypeId):Option Bool:=
 match P.underlying t with
 |some (.struct _)=>some true
 |some (.array _ _)=>some true
 |some _=>some false
 |none=>none
def zero? (t:TypeId):Option SV:=(P.info? t).bind fun i=>i.zero.bind fun v=>(ofConst v).bind fun z=>match z.flat.all SV.scalar with
 |true=>some z
 |false=>none
inductive Sh where
 |int (k:IntKind)
 |bool
 |str
 |ptr
 |sl
 |val
def shOf:SV→Option Sh
 | .int k _=>some (.int k)
 | .lit _=>some .bool
 | .bool _=>some .bool
 | .str _=>some .str
 | .ptr _=>some .ptr
 | .adr _ _=>some .ptr
 | .sl _ _ _=>some .sl
 | .val _=>some .val
 |_=>none
def shsOf:List SV→Option (List Sh)
 |[]=>some []
 |v::vs=>(shOf v).bind fun a=>(shsOf vs).map (a::·)
def exV:List Sh→(List SV→Prop)→Prop
 |[],K=>K []
 | .int k::s,K=>∃n:Int,exV s fun xs=>K (.int k n::xs)
 | .bool::s,K=>∃b:Bool,exV s fun xs=>K (.bool (.ok b)::xs)
 | .str::s,K=>∃l:List UInt8,exV s fun xs=>K (.str l::xs)
 | .ptr::s,K=>∃p:Option Addr,exV s fun xs=>K (.ptr p::xs)
 | .sl::s,K=>∃(p:Option Addr) (n c:Nat),exV s fun xs=>K (.sl p n c::xs)
 | .val::s,K=>∃v:Value,v.oneCell'=true∧exV s fun xs=>K (.val v::xs)
def exC [Codecs] (t:TypeId) (s:List Sh) (K:List SV→Prop):Prop:=match Codecs.tab t with
 |some c=>match Nat.beq c.n s.length with
  |true=>∃x:c.T,K (c.enc x)
  |false=>False
 |none=>exV s K
def PredT:List Sh→Type
 |[]=>World→Prop
 | .int _::s=>Int→PredT s
 | .bool::s=>Bool→PredT s
 | .str::s=>List UInt8→PredT s
 | .ptr::s=>Option Addr→PredT s
 | .sl::s=>Option Addr→Nat→Nat→PredT s
 | .val::s=>Value→PredT s
def MeasT:List Sh→Type
 |[]=>Nat
 | .int _::s=>Int→MeasT s
 | .bool::s=>Bool→MeasT s
 | .str::s=>List UInt8→MeasT s
 | .ptr::s=>Option Addr→MeasT s
 | .sl::s=>Option Addr→Nat→Nat→MeasT s
 | .val::s=>Value→MeasT s
def allV:(s:List Sh)→PredT s→MeasT s→(List SV→(World→Prop)→Nat→Prop)→Prop
 |[],I,μ,K=>K [] I μ
 | .int k::s,I,μ,K=>∀n:Int,allV s (I n) (μ n) fun xs=>K (.int k n::xs)
 | .bool::s,I,μ,K=>∀b:Bool,allV s (I b) (μ b) fun xs=>K (.bool (.ok b)::xs)
 | .str::s,I,μ,K=>∀l:List UInt8,allV s (I l) (μ l) fun xs=>K (.str l::xs)
 | .ptr::s,I,μ,K=>∀p:Option Addr,allV s (I p) (μ p) fun xs=>K (.ptr p::xs)
 | .sl::s,I,μ,K=>∀(p:Option Addr) (n c:Nat),allV s (I p n c) (μ p n c) fun xs=>K (.sl p n c::xs)
 | .val::s,I,μ,K=>∀v:Value,v.oneCell'=true→allV s (I v) (μ v) fun xs=>K (.val v::xs)
def kindEq (a b:IntKind):Bool:=match a,b with
 | .i8, .i8| .i16, .i16| .i32, .i32| .i64, .i64| .u8, .u8| .u16, .u16| .u32, .u32| .u64, .u64=>true
 |_,_=>false
def app:(s:List Sh)→PredT s→MeasT s→List SV→((World→Prop)→Nat→Prop)→Prop
 |[],I,μ,[],K=>K I μ
 | .int k::s,I,μ, .int k' n::xs,K=>match kindEq k k' with
  |true=>app s (I n) (μ n) xs K
  |false=>False
 | .bool::s,I,μ, .lit b::xs,K=>app s (I b) (μ b) xs K
 | .bool::s,I,μ, .bool (.ok b)::xs,K=>app s (I b) (μ b) xs K
 | .bool::s,I,μ, .bool e::xs,K=>(e.is true→app s (I true) (μ true) xs K)∧(e.is false→app s (I false) (μ false) xs K)
 | .str::s,I,μ, .str l::xs,K=>app s (I l) (μ l) xs K
 | .ptr::s,I,μ, .ptr p::xs,K=>app s (I p) (μ p) xs K
 | .ptr::s,I,μ, .adr a o::xs,K=>app s (I (some (a.add o))) (μ (some (a.add o))) xs K
 | .sl::s,I,μ, .sl p n c::xs,K=>app s (I p n c) (μ p n c) xs K
 | .val::s,I,μ, .val v::xs,K=>app s (I v) (μ v) xs K
 |_,_,_,_,_=>False
def I64 (x:Int):Prop:= -9223372036854775808≤x∧x≤9223372036854775807
def arith (k:IntKind) (x:Int) (K:SV→Prop):Prop:=match k with
 | .i64=>I64 x∧K (.int .i64 x)
 |k=>K (.int k (k.wrap x))
def intBin (op:BinOp) (k:IntKind) (a b:Int) (K:SV→Prop):Prop:=match op with
 | .add=>arith k (a+b) K
 | .sub=>arith k (a-b) K
 | .mul=>arith k (a*b) K
 | .eql=>K (.bool (.eq a b))
 | .neq=>K (.bool (.no (.eq a b)))
 | .lss=>K (.bool (.lt a b))
 | .leq=>K (.bool (.le a b))
 | .gtr=>K (.bool (.lt b a))
 | .geq=>K (.bool (.le b a))
 | .and=>K (.int k (bits .and k a b))
 | .or=>K (.int k (bits .or k a b))
 | .xor=>K (.int k (bits .xor k a b))
 | .andNot=>K (.int k (bits .andNot k a b))
 | .quo=>match k with
  | .i64=>(0≤a∧I64 a∧0<b)∧K (.int .i64 (a/b))
  |_=>False
 | .rem=>match k with
  | .i64=>(0≤a∧I64 a∧0<b)∧K (.int .i64 (a%b))
  |_=>False
 |_=>False
def shlI (k:IntKind) (a b:Int):Int:=k.wrap (a*2^(min b.toNat k.bits))
def shrI (k:IntKind) (a b:Int):Int:=a.fdiv (2^(min b.toNat k.bits))
def isShift:BinOp→Bool
 | .shl| .shr=>true
 |_=>false
def shiftBin (op:BinOp) (k:IntKind) (a b:Int) (K:SV→Prop):Prop:=match op with
 | .shl=>(0≤b)∧K (.int k (shlI k a b))
 | .shr=>(0≤b)∧K (.int k (shrI k a b))
 |_=>False
def strBin (op:BinOp) (a b:List UInt8) (K:SV→Prop):Prop:=match op with
 | .add=>a.length+b.length<9223372036854775807∧K (.str (a++b))
 | .eql=>K (.bool (.pr (a=b)))
 | .neq=>K (.bool (.no (.pr (a=b))))
 |_=>False
def flag (op:BinOp) (e:BE) (K:SV→Prop):Prop:=match op with
 | .eql=>K (.bool e)
 | .neq=>K (.bool (.no e))
 |_=>False
def known (op:BinOp) (b:Bool) (K:SV→Prop):Prop:=match op with
 | .eql=>K (.lit b)
 | .neq=>match b with
  |true=>K (.lit false)
  |false=>K (.lit true)
 |_=>False
def aggBin (β:List Nat) (op:BinOp) (t:TypeId) (x y:List SV) (K:SV→Prop):Prop:=
 match P.eqGuardType P.depth t with
 |false=>∃b:Bool,(∀w,(Op.equal t (.agg (reals β x).toArray) (.agg (reals β y).toArray)).run P w= .ok b w)∧flag op (.ok b) K
 |true=>False
def isPtr? (t:TypeId):Bool:=match P.underlying t with
 |some (.pointer _)=>true
 |_=>false
def isSlice? (t:TypeId):Bool:=match P.underlying t with
 |some (.slice _)=>true
 |_=>false
def isFunc? (t:TypeId):Bool:=match P.underlying t with
 |some (.func _ _ _)=>true
 |_=>false
def isBool? (t:TypeId):Bool:=match P.underlying t with
 |some .bool=>true
 |_=>false
def isConst:Operand→Bool
 | .const _=>true
 |_=>false
def bin (β:List Nat) (c:Bool) (op:BinOp) (t:TypeId) (x y:SV) (K:SV→Prop):Prop:=match x,y with
 | .int k a, .int k' b=>match isShift op with
  |true=>shiftBin op k a b K
  |false=>match kindEq k k' with
   |true=>intBin op k a b K
   |false=>False
 | .str a, .str b=>strBin op a b K
 | .agg a, .agg b=>aggBin P β op t a b K
 | .ptr p, .ptr none=>match isPtr? P t with
  |true=>flag op (.pr (p=none)) K
  |false=>False
 | .adr _ _, .ptr none=>match isPtr? P t with
  |true=>known op false K
  |false=>False
 | .loc _ _, .ptr none=>match isPtr? P t with
  |true=>known op false K
  |false=>False
 | .fn _ _ _, .val .nilFunc=>match isFunc? P t with
  |true=>known op false K
  |false=>False
 | .val v, .val .nilIface=>match c with
  |true=>∃b:Bool,(∀w,(Op.equal t v .nilIface).run P w= .ok b w)∧flag op (.ok b) K
  |false=>False
 | .sl p _ _, .sl none _ _=>match isSlice? P t with
  |true=>flag op (.pr (p=none)) K
  |false=>False
 | .lit a, .lit b=>match isBool? P t with
  |true=>match a,b with
   |true,true=>known op true K
   |false,false=>known op true K
   |_,_=>known op false K
  |false=>False
 | .bool e, .lit b=>match isBool? P t with
  |true=>match b with
   |true=>flag op e K
   |false=>flag op (.no e) K
  |false=>False
 | .lit b, .bool e=>match isBool? P t with
  |true=>match b with
   |true=>flag op e K
   |false=>flag op (.no e) K
  |false=>False
 | .bool e, .bool f=>match isBool? P t with
  |true=>flag op (.pr (e.val=f.val)) K
  |false=>False
 |_,_=>False
def un (op:UnOp) (x:SV) (K:SV→Prop):Prop:=match op,x with
 | .not, .lit b=>match b with
  |true=>K (.lit false)
  |false=>K (.lit true)
 | .not, .bool e=>K (.bool (.no e))
 | .neg, .int .i64 n=>I64 (0-n)∧K (.int .i64 (0-n))
 |_,_=>False
def fieldAt (s:TypeId) (x:SV) (i:Nat) (K:SV→Prop):Prop:=match P.underlying s with
 |some (.struct fields)=>match fields[i]? with
  |some f=>match size? P f.type with
   |some n=>match Nat.blt 0 n with
    |true=>match x with
     | .loc k o=>K (.loc k (o+f.offset))
     | .adr a o=>K (.adr a (o+f.offset))
     | .ptr p=>∃a,p=some a∧K (.adr a f.offset)
     |_=>False
    |false=>False
   |none=>False
  |none=>False
 |_=>False
def part (t:TypeId) (cs:List SV) (off:Nat) (K:SV→Prop):Prop:=match isAgg? P t with
 |some true=>match size? P t with
  |some n=>match Nat.ble (off+n) cs.length with
   |true=>K (.agg ((cs.drop off).take n))
   |false=>False
  |none=>False
 |some false=>match cs[off]? with
  |some v=>K v
  |none=>False
 |none=>False
def field (s:TypeId) (x:SV) (i:Nat) (K:SV→Prop):Prop:=match P.underlying s,x with
 |some (.struct fields), .agg cs=>match fields[i]? with
  |some f=>part P f.type cs f.offset K
  |none=>False
 |_,_=>False
def eachIx (i:Int):Nat→Nat→(Nat→Prop)→Prop
 |0,_,_=>True
 |n+1,j,K=>(i=j→K j)∧eachIx i n (j+1) K
def ixLit (i:Int) (n:Nat) (K:Nat→Prop):Prop:=match i with
 | .ofNat m=>match Nat.blt m n with
  |true=>K m
  |false=>False
 |_=>False
def isNum:Operand→Bool
 | .const _=>true
 |_=>false
def withIx (lit:Bool) (i:Int) (n:Nat) (K:Nat→Prop):Prop:=match lit with
 |true=>ixLit i n K
 |false=>(0≤i∧i<n)∧eachIx i n 0 K
def indexAt (t:TypeId) (x:SV) (lit:Bool) (i:Int) (K:SV→Prop):Prop:=match P.underlying t,x with
 |some (.array n e), .loc k o=>match size? P e with
  |some s=>withIx lit i n fun j=>K (.loc k (o+j*s))
  |none=>False
 |some (.array n e), .adr a o=>match size? P e with
  |some s=>match lit with
   |true=>ixLit i n fun j=>K (.adr a (o+j*s))
   |false=>(0≤i∧i<n)∧K (.adr a (o+i.toNat*s))
  |none=>False
 |some (.slice e), .sl p n _=>match size? P e with
  |some s=>∃a,p=some a∧(0≤i∧i<n)∧K (.adr a (i.toNat*s))
  |none=>False
 |some (.slice e), .lsl k o n _=>match size? P e with
  |some s=>withIx lit i n fun j=>K (.loc k (o+j*s))
  |none=>False
 |_,_=>False
def byteAt (s:List UInt8) (i:Int):Int:=(s.getD i.toNat 0).toNat
def index (t:TypeId) (x:SV) (lit:Bool) (i:Int) (K:SV→Prop):Prop:=match P.underlying t,x with
 |some (.array n e), .agg cs=>match size? P e with
  |some s=>withIx lit i n fun j=>part P e cs (j*s) K
  |none=>False
 |some .string, .str s=>(0≤i∧i<s.length)∧K (.int .u8 (byteAt s i))
 |_,_=>False
def runeStr (n:Int):List UInt8:=(Utf8.encode n).data.toList
def slA (a:Addr):Nat→Option Addr
 |0=>some a
 |n+1=>some (a.add (n+1))
def cutP (p:Option Addr) (c lo es:Nat):Option Addr:=if c=lo then p else p.map (·.add (lo*es))
def optI (ev:Operand→Option SV) (d:Int):Option Operand→Option Int
 |none=>some d
 |some x=>match ev x with
  |some (.int .i64 n)=>some n
  |_=>none
def slice (t:TypeId) (x:SV) (lo hi mx:Option Operand) (ev:Operand→Option SV) (K:SV→Prop):Prop:=match mx with
 |some _=>match P.underlying t,x,hi with
  |some (.slice e), .sl p _ c,some hi=>match size? P e,optI ev 0 lo,optI ev 0 (some hi),optI ev 0 mx with
   |some s,some l,some h,some m=>(0≤l∧l≤h∧h≤m∧m≤c)∧K (.sl (cutP p m.toNat l.toNat s) (h-l).toNat (m-l).toNat)
   |_,_,_,_=>False
  |_,_,_=>False
 |none=>match P.underlying t,x with
  |some .string, .str s=>match optI ev 0 lo,optI ev s.length hi with
   |some l,some h=>(0≤l∧l≤h∧h≤s.length)∧K (.str ((s.drop l.toNat).take (h-l).toNat))
   |_,_=>False
  |some (.slice e), .sl p n c=>match size? P e,optI ev 0 lo,optI ev n hi with
   |some s,some l,some h=>(0≤l∧l≤h∧h≤c)∧K (.sl (cutP p c l.toNat s) (h-l).toNat (c-l.toNat))
   |_,_,_=>False
  |some (.array n e), .adr a o=>match size? P e,optI ev 0 lo,optI ev n hi with
   |some s,some l,some h=>(0≤l∧l≤h∧h≤n)∧K (.sl (cutP (slA a o) n l.toNat s) (h-l).toNat (n-l.toNat))
   |_,_,_=>False
  |_,_=>False
def extract (x:SV) (i:Nat) (K:SV→Prop):Prop:=match x with
 | .tup vs=>match vs[i]? with
  |some v=>K v
  |none=>False
 |_=>False
def convert (s d:TypeId) (x:SV) (K:SV→Prop):Prop:=match P.underlying s,P.underlying d,x with
 |some (.int _),some (.int k), .int k' n=>match kindEq k k' with
  |true=>match k with
   | .i64=>I64 n∧K (.int .i64 n)
   |k=>K (.int k (k.wrap n))
  |false=>match k with
   | .i64=>I64 n∧K (.int .i64 n)
   |k=>K (.int k (k.wrap n))
 |some .string,some .string, .str l=>K (.str l)
 |some (.int _),some .string, .int _ n=>K (.str (runeStr n))
 |_,_,_=>False
def minmax (less:Bool) (a:Int):List SV→(SV→Prop)→Prop
 |[],K=>K (.int .i64 a)
 | .int .i64 b::vs,K=>match less with
  |true=>minmax less (min a b) vs K
  |false=>minmax less (max a b) vs K
 |_,_=>False
def lenOf (t:TypeId) (x:SV) (K:SV→Prop):Prop:=match P.underlying t,x with
 |some .string, .str s=>K (.int .i64 s.length)
 |some (.slice _), .sl _ n _=>K (.int .i64 n)
 |some (.slice _), .lsl _ _ n _=>K (.int .i64 n)
 |some (.array n _),_=>K (.int .i64 n)
 |_,_=>False
def calmBuiltin (b:Builtin) (ats:List TypeId) (args:List SV) (K:SV→Prop):Prop:=match b,ats,args with
 | .len,[t],[x]=>lenOf P t x K
 | .cap,[t],[x]=>match P.underlying t,x with
  |some (.slice _), .sl _ _ c=>K (.int .i64 c)
  |_,_=>False
 | .min,_, .int .i64 a::vs=>minmax true a vs K
 | .max,_, .int .i64 a::vs=>minmax false a vs K
 |_,_,_=>False
def places?:List Field→Option (List (Nat×Nat))
 |[]=>some []
 |f::fs=>(size? P f.type).bind fun s=>(places? fs).map ((f.offset,s)::·)
def fill (place:Nat→Option (Nat×Nat)) (cells:List SV):List (Nat×SV)→Option (List SV)
 |[]=>some cells
 |(i,v)::rest=>match place i with
  |none=>none
  |some (off,n)=>match Nat.beq v.flat.length n&&Nat.ble (off+n) cells.length&&v.flat.all SV.scalar with
   |true=>fill place (cells.take off++(v.flat++cells.drop (off+n))) rest
   |false=>none
def parts? (T:Env):List (Nat×Operand)→Option (List (Nat×SV))
 |[]=>some []
 |(i,x)::xs=>(eval P T x).bind fun a=>(parts? T xs).map ((i,a)::·)
def build (t:TypeId) (ps:List (Nat×SV)):Option SV:=(zero? P t).bind fun z=>match P.underlying t with
 |some (.struct fields)=>(places? P fields.toList).bind fun pl=>(fill (fun i=>pl[i]?) z.flat ps).map .agg
 |some (.array _ e)=>(size? P e).bind fun s=>(fill (fun i=>some (i*s,s)) z.flat ps).map .agg
 |_=>none
def repeated (z:List SV):Nat→List SV
 |0=>[]
 |n+1=>z++repeated z n
def buildRow (t:TypeId) (n:Nat) (ps:List (Nat×SV)):Option (TypeId×List SV):=match P.underlying t with
 |some (.slice e)=>(size? P e).bind fun s=>(zero? P e).bind fun z=>match Nat.blt 0 s&&Nat.blt 0 n&&Nat.blt (n*s) 16777216&&Nat.beq z.flat.length s with
  |true=>(fill (fun i=>some (i*s,s)) (repeated z.flat n) ps).map fun cs=>(e,cs)
  |false=>none
 |_=>none
def bytesV (l:List UInt8):List Value:=l.map fun x=> .int .u8 x.toNat
def readLoc (L:List Loc) (k off n:Nat):Option (List SV):=match L[k]? with
 |some l=>match Nat.ble (off+n) l.cells.length with
  |true=>some ((l.cells.drop off).take n)
  |false=>none
 |none=>none
def writeLoc (L:List Loc) (k off:Nat) (vs:List SV):Option (List Loc):=match L[k]? with
 |some l=>match Nat.ble (off+vs.length) l.cells.length with
  |true=>some (L.take k++{l with cells:=l.cells.take off++(vs++l.cells.drop (off+vs.length)),ver:=l.ver+1}::L.drop (k+1))
  |false=>none
 |none=>none
def asLoad (agg:Bool) (cs:List SV) (K:SV→Prop):Prop:=match agg with
 |true=>K (.agg cs)
 |false=>match cs with
  |[v]=>K v
  |_=>False
def notIn (D:List Nat) (b:Nat) (Q:Prop):Prop:=match D with
 |[]=>Q
 |d::ds=>b∉d::ds∧Q
variable [Codecs]
def load (L:List Loc) (D:List Nat) (w:World) (t:TypeId) (x:SV) (K:SV→Prop):Prop:=match size? P t,isAgg? P t,zero? P t with
 |some n,some g,some z=>match Nat.beq z.flat.length n with
  |false=>False
  |true=>match x with
  | .loc k o=>match readLoc L k o n with
   |some cs=>asLoad g cs K
   |none=>False
  | .adr a o=>match shsOf z.flat with
   |some s=>notIn D a.block (exC t s fun cs=>At w a o (reals (blks L) cs)∧asLoad g cs K)
   |none=>False
  | .ptr p=>match shsOf z.flat with
   |some s=>∃a,p=some a∧notIn D a.block (exC t s fun cs=>At w a 0 (reals (blks L) cs)∧asLoad g cs K)
   |none=>False
  |_=>False
 |_,_,_=>False
def on (x:Option SV) (K:SV→Prop):Prop:=match x with
 |some v=>K v
 |none=>False
def calmB (o:Op):Bool:=match o with
 | .move _| .assign _| .pick _ _ _| .build _ _| .nilCheck _| .binOp _ _ _ _ _| .unOp _ _ _| .slice _ _ _ _ _| .fieldAddr _ _ _
 | .field _ _ _| .indexAddr _ _ _| .index _ _ _| .extract _ _| .makeFunc _ _ _| .load _ _=>true
 | .convert s d _=>match P.underlying s,P.underlying d with
  |some .string,some (.slice _)=>false
  |some (.slice _),some .string=>false
  |some (.slice _),some (.slice _)=>false
  |_,_=>true
 | .call {callee:= .builtin b, .. }=>match b with
  | .len| .cap| .min| .max=>true
  |_=>false
 |_=>false
def calm (L:List Loc) (D:List Nat) (w:World) (T:Env) (o:Op) (K:SV→Prop):Prop:=match o with
 | .move x=>on (eval P T x) K
 | .assign x=>on (eval P T x) K
 | .pick c a b=>match eval P T c with
  |some (.lit true)=>on (eval P T a) K
  |some (.lit false)=>on (eval P T b) K
  |_=>False
 | .build t ps=>on ((parts? P T ps.toList).bind fun ps=>build P t ps) K
 | .nilCheck x=>match eval P T x with
  |some (.adr a o)=>K (.adr a o)
  |some (.loc k o)=>K (.loc k o)
  |some (.ptr p)=>∃a,p=some a∧K (.adr a 0)
  |some (.sl p n c)=>K (.sl p n c)
  |some (.fn f x y)=>K (.fn f x y)
  |_=>False
 | .binOp op t x y _=>on (eval P T x) fun a=>on (eval P T y) fun b=>bin P (blks L) (isConst y) op t a b K
 | .unOp op _ x=>on (eval P T x) fun a=>un op a K
 | .convert s d x=>on (eval P T x) fun a=>convert P s d a K
 | .slice t x lo hi mx=>on (eval P T x) fun a=>slice P t a lo hi mx (eval P T) K
 | .fieldAddr s x i=>on (eval P T x) fun a=>fieldAt P s a i K
 | .field s x i=>on (eval P T x) fun a=>field P s a i K
 | .indexAddr t x i=>on (eval P T x) fun a=>match eval P T i with
  |some (.int _ n)=>indexAt P t a (isNum i) n K
  |_=>False
 | .index t x i=>on (eval P T x) fun a=>match eval P T i with
  |some (.int _ n)=>index P t a (isNum i) n K
  |_=>False
 | .extract x i=>on (eval P T x) fun a=>extract a i K
 | .makeFunc (.func f) first cap=>match evals P T first.toList,evals P T cap.toList with
  |some a,some b=>K (.fn f a b)
  |_,_=>False
 | .load t x=>on (eval P T x) fun a=>load P L D w t a K
 | .call {callee:= .builtin b,args,argTypes}=>match evals P T args.toList with
  |some vs=>calmBuiltin P b argTypes.toList vs K
  |none=>False
 |_=>False
end
end
end Go.Sy
namespace Go.Abs
theorem masksFrom_prefix:∀(rest:List Oper) (ms:List Nat),∃tl,masksFrom ms rest=ms++tl∧tl.length=rest.length
 |[],ms=>⟨[],by simp[masksFrom],rfl⟩
 |o::rest,ms=>by
  obtain⟨tl,h1,h2⟩:=masksFrom_prefix rest (ms++[maskOf ms o.after.toList])
  exact⟨maskOf ms o.after.toList::tl,by rw[masksFrom,h1];simp,by simp[h2]⟩
theorem masksFrom_get:∀(rest:List Oper) (ms:List Nat) (k:Nat) (o:Oper),rest[k]? =some o→
  (masksFrom ms rest)[ms.length+k]? =some (maskOf ((masksFrom ms rest).take (ms.length+k)) o.after.toList)
 |[],ms,k,o,h=>by simp at h
 |x::rest,ms,0,o,h=>by
  simp only[List.getElem?_cons_zero,Option.some.injEq] at h
  subst h
  obtain⟨tl,h1,_⟩:=masksFrom_prefix rest (ms++[maskOf ms x.after.toList])
  rw[masksFrom,h1]
  simp
 |x::rest,ms,k+1,o,h=>by
  have:=masksFrom_get rest (ms++[maskOf ms x.after.toList]) k o (by simpa using h)
  have e:(ms++[maskOf ms x.after.toList]).length+k=ms.length+(k+1):=by simp<;>omega
  rw[e] at this
  exact this
theorem masks_get {ops:Array Oper} {j:Nat} {o:Oper} (h:ops[j]? =some o):(masks ops)[j]? =some (maskOf ((masks ops).take j) o.after.toList):=by
 have:=masksFrom_get ops.toList [] j o (by simpa using h)
 simpa[masks] using this
theorem maskOf_bit {ms:List Nat} {i:Nat}:∀{es:List Edge},Nat.testBit (maskOf ms es) i=true→
  ∃e∈es,Region.binds .any e=true∧∃x,ms[e.on]? =some x∧(i=e.on∨Nat.testBit x i=true)
 |[],h=>by simp[maskOf] at h
 |e::es,h=>by
  have ih:=maskOf_bit (ms:=ms) (i:=i) (es:=es)
  unfold maskOf at h
  split at h
  ·obtain⟨e',h1,h2⟩:=ih h
   exact⟨e',by simp[h1],h2⟩
  ·rename_i hb
   split at h
   ·rename_i x hx
    have h':((maskOf ms es|||x)|||(1<<<e.on)).testBit i=true:=h
    rw[Nat.testBit_or,Nat.testBit_or,Bool.or_eq_true,Bool.or_eq_true] at h'
    rcases h' with(h'|h')|h'
    ·obtain⟨e',h1,h2⟩:=ih h'
     exact⟨e',by simp[h1],h2⟩
    ·exact⟨e,by simp,hb,x,hx, .inr h'⟩
    ·refine⟨e,by simp,hb,x,hx, .inl ?_⟩
     rw[Nat.one_shiftLeft,Nat.testBit_two_pow] at h'
     simpa using (of_decide_eq_true h').symm
   ·obtain⟨e',h1,h2⟩:=ih h
    exact⟨e',by simp[h1],h2⟩
def Closed (ops:Array Oper) (L:Nat→Prop):Prop:=∀j o,ops[j]? =some o→L j→∀e∈o.after,Region.binds .any e=true→L e.on
theorem ahead_sound {ops:Array Oper} {L:Nat→Prop} (hL:Closed ops L):∀(j i:Nat) (o:Oper),ops[j]? =some o→(∀e∈o.after,Region.binds .any e=true→L e.on)→ahead (masks ops) i j=true→L i:=by
 intro j
 induction j using Nat.strongRecOn with
 |_ j ih=>
  intro i o ho he ha
  unfold ahead at ha
  rw[masks_get ho] at ha
  simp only[] at ha
  obtain⟨e,h1,h2,x,h3,h4⟩:=maskOf_bit ha
  have hLe:=he e (by simpa using h1) h2
  rcases h4 with rfl|h4
  ·exact hLe
  ·rw[List.getElem?_take] at h3
   split at h3
   ·rename_i hlt
    cases hoe:ops[e.on]? with
    |none=>
     have hlen:(masks ops).length=ops.size:=by
      obtain⟨tl,m1,m2⟩:=masksFrom_prefix ops.toList []
      unfold masks
      rw[m1]
      simpa using m2
     have:=(List.getElem?_eq_some_iff.1 h3).1
     rw[hlen] at this
     rw[Array.getElem?_eq_none_iff] at hoe
     omega
    |some o'=>
     exact ih e.on hlt i o' hoe (hL e.on o' hoe hLe) (by unfold ahead;rw[h3];exact h4)
   ·cases h3
end Go.Abs
namespace Go.Sy
open Go.RowKit (Below)
noncomputable section
variable [Codecs]
structure St where
 T:Env
 L:List Loc
 nb:Nat
 D:List Nat
 wb:World
 M:List Nat
 Z:List Nat
structure Ext (w:World) (ds:List Nat) (w':World):Prop where
 os:w'.os=w.os
 tape:w'.tape=w.tape
 output:w'.output=w.output
 size:w.heap.size≤w'.heap.size
 heap:∀i,i<w.heap.size→i∉ds→w'.heap[i]? =w.heap[i]?
def grow (w:World) (ds:List Nat) (w':World):Prop:=match ds with
 |[]=>Below w.heap.size w w'
 |d::ds=>Ext w (d::ds) w'
def wideR (r:Option Nat):Fence:={fn:=fun _=>True,depth:=none,alive:=false,round:=r}
def Turn (P:Program) (l:Nat) (x:Value) (V:World) (R:World→Prop):Prop:=
 ∃fn tmps asg body,(Instr.yield l #[x]).run P V= .ok (.round l fn tmps asg body) V∧∀n,RoundIn (wideR none) n P l fn tmps asg body V fun e V'=>e= .returned (.bool true)∧R V'
def Seq1 (P:Program) (f:FuncId) (first cap:Array Value) (vs:List Addr) (Need:World→Prop):Prop:=
 ∀(l:Nat) (J:Nat→World→Prop) (W:World),(∀i V V',J i V→V'.heap=V.heap→V'.os=V.os→V'.tape=V.tape→V'.output=V.output→J i V')→
  (∀i V,J i V→∃V0 rc,V0.heap[l]? =some (.loop rc)∧Ext V0 [l] V∧Need V0)→(∀i x V,vs[i]? =some x→J i V→Turn P l (.pointer (some x)) V (J (i+1)))→J 0 W→
  Calls P f (first++#[.func (.yield l) #[] #[]]++cap) W fun e W'=>(∃v,e= .returned v)∧J vs.length W'
structure Kept (lo:Nat) (F:Nat→Prop) (bs:List Nat) (w w':World):Prop where
 os:w'.os=w.os
 tape:w'.tape=w.tape
 output:w'.output=w.output
 size:w.heap.size≤w'.heap.size
 old:∀i,i<lo→i<w.heap.size→¬F i→w'.heap[i]? =w.heap[i]?
 own:∀i∈bs,lo≤i→i<w.heap.size→w'.heap[i]? =w.heap[i]?
structure Keeps (F:Nat→Prop) (w w':World):Prop where
 os:w'.os=w.os
 tape:w'.tape=w.tape
 output:w'.output=w.output
 size:w.heap.size≤w'.heap.size
 heap:∀i,i<w.heap.size→¬F i→w'.heap[i]? =w.heap[i]?
def Whole (w:World) (b:Nat) (t:TypeId) (cs:List Value):Prop:=w.heap[b]? =some (.cells cs.toArray t (0,0))
def CanPut (w:World) (a:Addr) (o n:Nat):Prop:=a.spot=none∧∃cs t,w.heap[a.block]? =some (.cells cs t (0,0))∧a.off+o+n≤cs.size
def Away (lo:Nat) (F:Nat→Prop) (bs:List Nat) (b:Nat):Prop:=b∉bs∧(b<lo→F b)
structure Put (w:World) (ds:List Nat) (a:Addr) (o:Nat) (vs:List Value) (w':World):Prop where
 os:w'.os=w.os
 tape:w'.tape=w.tape
 output:w'.output=w.output
 size:w.heap.size≤w'.heap.size
 heap:∀i,i<w.heap.size→i∉ds→i≠a.block→w'.heap[i]? =w.heap[i]?
 here:∀cs t,w.heap[a.block]? =some (.cells cs t (0,0))→∃cs',w'.heap[a.block]? =some (.cells cs' t (0,0))∧cs'.size=cs.size∧
  ∀j,cs'[j]? =if a.off+o≤j∧j<a.off+o+vs.length then vs[j-(a.off+o)]? else cs[j]?
structure Runs (P:Program) (f:FuncId) (args:Array Value) (w:World) (R:Ending→World→Prop):Prop where
 out:Calls P f args w R
inductive Ex where
 |normal
 |exit (id:Nat)
 |ret
structure Cut where
 key:Nat
 slots:List Nat
 locs:List Nat
section
variable (P:Program) (w0:World) (F:Nat→Prop)
def St.put (s:St) (d:Option Tmp) (v:SV):St:=match d with
 |some d=>{s with T:=s.T.set d (some v)}
 |none=>s
def St.at (s:St) (L:List Loc) (w:World):St:={s with L:=L,nb:=L.length,D:=[],wb:=w}
def fork (T:Env) (d:Tmp) (K:Env→Bool→Prop):Prop:=match T.at d with
 |some (.lit b)=>K T b
 |some (.bool e)=>(e.is true→K (T.set d (some (.lit true))) true)∧(e.is false→K (T.set d (some (.lit false))) false)
 |_=>False
def wantIs (b want:Bool) (K:Bool→Prop):Prop:=match b,want with
 |true,w=>K w
 |false,true=>K false
 |false,false=>K true
def guarded (all:List Oper) (o:Oper) (s:St) (K:St→Bool→Prop):Prop:=match o.guard with
 |none=>K s true
 |some (j,want)=>match all[j]? with
  |some oj=>match oj.dst with
   |some d=>match s.T.at d with
    |some (.tup [])=>K s false
    |_=>fork s.T d fun T b=>wantIs b want (K {s with T:=T})
   |none=>False
  |none=>False
def picked (o:Op) (s:St) (K:St→Prop):Prop:=match o with
 | .pick (.tmp d) _ _=>fork s.T d fun T _=>K {s with T:=T}
 |_=>K s
def locsIn:SV→List Nat
 | .loc k _=>[k]
 | .lsl k _ _ _=>[k]
 | .agg cs=>cs.filterMap fun c=>match c with
  | .loc k _=>some k
  | .lsl k _ _ _=>some k
  |_=>none
 | .fn _ a b=>(a++b).filterMap fun c=>match c with
  | .loc k _=>some k
  | .lsl k _ _ _=>some k
  |_=>none
 |_=>[]
def locsAll:List SV→List Nat
 |[]=>[]
 |v::vs=>locsIn v++locsAll vs
def dedup:List Nat→List Nat
 |[]=>[]
 |x::xs=>match(dedup xs).elem x with
  |true=>dedup xs
  |false=>x::dedup xs
def lies (β:List Nat) (w:World):List Loc→Prop→Prop
 |[],Q=>Q
 |l::ls,Q=>(w0.heap.size≤l.blk∧Whole w l.blk l.ty (reals β l.cells))→lies β w ls Q
def liesIf (c:Bool) (L:List Loc) (w:World) (Q:Prop):Prop:=match c with
 |true=>lies w0 (blks L) w L Q
 |false=>Q
def Mine (w:World) (lo:Nat) (ls:List (Nat×TypeId)):Prop:=∀p∈ls,lo≤p.1∧∃cs:Array Value,w.heap[p.1]? =some (.cells cs p.2 (0,0))
def kinds:List Loc→List (Nat×TypeId)
 |[]=>[]
 |l::ls=>(l.blk,l.ty)::kinds ls
def apartQ (L:List Loc) (Q:Prop):Prop:=match L with
 |l::m::ls=>(blks (l::m::ls)).Nodup→Q
 |_=>Q
def callLies (c:Bool) (L:List Loc) (w:World) (Q:Prop):Prop:=match c with
 |true=>lies w0 (blks L) w L (apartQ L Q)
 |false=>match L with
  |[]=>Q
  |l::ls=>Mine w w0.heap.size (kinds (l::ls))→Q
def offOwn (bs:List Nat) (p:Option Addr) (Q:Prop):Prop:=match bs with
 |[]=>Q
 |b::bs=>(∀a,p=some a→a.block∉b::bs)→Q
def notOwn (bs:List Nat) (x:Nat) (Q:Prop):Prop:=match bs with
 |[]=>Q
 |b::bs=>x∉b::bs→Q
def again (β:List Nat) (w:World):List Nat→List Loc→(List Loc→Prop)→Prop
 |[],L,K=>K L
 |k::ks,L,K=>match L[k]? with
  |some l=>match shsOf l.cells with
   |some s=>exC l.ty s fun cs=>Whole w l.blk l.ty (reals β cs)∧again β w ks (L.take k++{l with cells:=cs,ver:=l.ver+1}::L.drop (k+1)) K
   |none=>(Whole w l.blk l.ty (reals β l.cells))∧again β w ks L K
  |none=>False
def keptBlks (E:List Nat):Nat→List Loc→List Nat
 |_,[]=>[]
 |k,l::ls=>match E.elem k with
  |true=>keptBlks E (k+1) ls
  |false=>l.blk::keptBlks E (k+1) ls
def resForms:List TypeId→Option (List (TypeId×Bool×List Sh))
 |[]=>some []
 |t::ts=>(isAgg? P t).bind fun g=>(zero? P t).bind fun z=>(shsOf z.flat).bind fun s=>(resForms ts).map ((t,g,s)::·)
def exRes:List (TypeId×Bool×List Sh)→(List SV→Prop)→Prop
 |[],K=>K []
 |(t,g,s)::rs,K=>exC t s fun cs=>match g with
  |true=>exRes rs fun vs=>K (.agg cs::vs)
  |false=>match cs with
   |[c]=>exRes rs fun vs=>K (c::vs)
   |_=>False
def resVal:List SV→SV
 |[v]=>v
 |vs=> .tup vs
def callAt (f:FuncId) (args:List SV) (s:St) (K:SV→St→List Nat→Prop):Prop:=match P.funcs[f]? with
 |some fn=>match fn.body with
  |some _=>match fn.name== "runtime.NumGoroutine" with
   |false=>match resForms P fn.resultTypes.toList with
    |some rs=>∀w1,grow s.wb s.D w1→callLies w0 (!(dedup (locsAll args)).isEmpty) s.L w1
      (Runs P f (reals (blks s.L) args).toArray w1 fun e w2=>exRes rs fun vs=>e= .returned (real (blks s.L) (resVal vs))∧Kept w0.heap.size F (keptBlks (dedup (locsAll args)) 0 s.L++(s.M++s.Z)) w1 w2∧
       again (blks s.L) w2 (dedup (locsAll args)) s.L fun L=>K (resVal vs) (s.at L w2) (dedup (locsAll args)))
    |none=>False
   |true=>False
  |none=>False
 |none=>False
def source (L:List Loc) (D:List Nat) (w:World) (es k:Nat) (x:SV) (K:List Value→Prop):Prop:=match x with
 | .lsl j o _ _=>match readLoc L j o (k*es) with
  |some cs=>K (reals (blks L) cs)
  |none=>False
 | .sl p _ _=>∃xs:List Value,(xs.length=k*es∧(∀v∈xs,v.oneCell'=true)∧(p=none→k=0)∧(∀a,p=some a→notIn D a.block (At w a 0 xs)))∧K xs
 |_=>False
def countOf:SV→Nat
 | .lsl _ _ m _=>m
 | .sl _ m _=>m
 |_=>0
def bytes? (t:TypeId):Option Nat:=(P.info? t).map (·.bytes)
structure RoomO (lo:Nat) (F:Nat→Prop) (bs:List Nat) (w:World) (e:TypeId) (es:Nat) (p:Option Addr) (n c:Nat) (cs:List Value):Prop where
 row:w.ownsRow 0 e es (.slice p n c) n cs
 away:∀a,p=some a→a.block∉bs∧(n<c→a.block<lo→F a.block)
def Room (lo:Nat) (F:Nat→Prop) (bs:List Nat) (w:World) (e:TypeId) (es:Nat) (p:Option Addr) (n c:Nat) (cs:List Value) (m:Nat):Prop:=
 RoomO lo F bs w e es p n c cs∨(0<m∧n=c∧cs.length=n*es∧∃a,p=some a∧a.block∉bs∧At w a 0 cs)
structure Grown (w:World) (ds:List Nat) (p:Option Addr) (n0 c0:Nat) (e:TypeId) (es n:Nat) (cs:List Value) (w':World) (p':Option Addr) (c':Nat):Prop where
 row:w'.ownsRow 0 e es (.slice p' n c') n cs
 os:w'.os=w.os
 tape:w'.tape=w.tape
 output:w'.output=w.output
 size:w.heap.size≤w'.heap.size
 heap:∀i,i<w.heap.size→i∉ds→(n0<c0→∀a,p=some a→i≠a.block)→w'.heap[i]? =w.heap[i]?
 place:∀a,p'=some a→(∃b,p=some b∧a.block=b.block∧(n0=n∨n0<c0))∨w.heap.size≤a.block
def appendAt (t:TypeId) (x y:SV) (s:St) (K:SV→St→List Nat→Prop):Prop:=match P.underlying t,x with
 |some (.slice e), .sl p n c=>match size? P e,bytes? P e,zero? P e with
  |some es,some by_,some z=>match Nat.blt 0 es&&Nat.blt 0 by_&&Nat.beq z.flat.length es with
   |true=>∃cs:List Value,Room w0.heap.size F (blks s.L) s.wb e es p n c cs (countOf y)∧source s.L s.D s.wb es (countOf y) y fun xs=>((n+countOf y)*by_≤140737488355328)∧
     ∀w2 p2 c2,Grown s.wb s.D p n c e es (n+countOf y) (cs++xs) w2 p2 c2→offOwn (blks s.L) p2 (K (.sl p2 (n+countOf y) c2) (s.at s.L w2) [])
   |false=>False
  |_,_,_=>False
 |_,_=>False
def copyAt (t:TypeId) (x y:SV) (s:St) (K:SV→St→List Nat→Prop):Prop:=match P.underlying t,x with
 |some (.slice e), .sl p n _=>match size? P e with
  |some es=>∃a,p=some a∧source s.L s.D s.wb es (min (countOf y) n) y fun xs=>(CanPut s.wb a 0 (min (countOf y) n*es)∧Away w0.heap.size F (blks s.L) a.block)∧
    ∀w2,Put s.wb s.D a 0 xs w2→K (.int .i64 (min (countOf y) n:Nat)) (s.at s.L w2) []
  |none=>False
 |_,_=>False
structure Made (w:World) (ds:List Nat) (e:TypeId) (es n c:Nat) (z:List Value) (w':World) (b:Nat):Prop where
 os:w'.os=w.os
 tape:w'.tape=w.tape
 output:w'.output=w.output
 new:w.heap.size≤b
 size:b<w'.heap.size
 heap:∀i,i<w.heap.size→i∉ds→w'.heap[i]? =w.heap[i]?
 row:Whole w' b e (List.replicate c z).flatten
structure Litr (w:World) (ds:List Nat) (e:TypeId) (cs:List Value) (w':World) (b:Nat):Prop where
 os:w'.os=w.os
 tape:w'.tape=w.tape
 output:w'.output=w.output
 new:w.heap.size≤b
 size:b<w'.heap.size
 heap:∀i,i<w.heap.size→i∉ds→w'.heap[i]? =w.heap[i]?
 row:Whole w' b e cs
def isPub (all:List Oper) (o:Oper):Bool:=match o.op,o.dst with
 | .buildSlice _ _ _,some d=> !(all.any fun q=>match q.op with
  | .call {callee:= .builtin .append,args:=xs, .. }=>match(xs:Array Operand)[1]? with
   |some (Operand.tmp t)=>Nat.beq t d
   |_=>false
  |_=>false)
 |_,_=>false
structure FromStr (w:World) (ds:List Nat) (e:TypeId) (l:List UInt8) (w':World) (b c:Nat):Prop where
 os:w'.os=w.os
 tape:w'.tape=w.tape
 output:w'.output=w.output
 new:w.heap.size≤b
 size:b<w'.heap.size
 heap:∀i,i<w.heap.size→i∉ds→w'.heap[i]? =w.heap[i]?
 row:At w' ⟨b,0,none⟩ 0 (bytesV l)
 cap:l.length≤c
 shape:∃cs fr,w'.heap[b]? =some (.cells cs e fr)
def BytesAt (w:World) (p:Option Addr) (n:Nat) (l:List UInt8):Prop:=l.length=n∧∀a,p=some a→At w a 0 (bytesV l)
structure Marked (w:World) (ds:List Nat) (a:Addr) (w':World):Prop where
 os:w'.os=w.os
 tape:w'.tape=w.tape
 output:w'.output=w.output
 size:w.heap.size≤w'.heap.size
 heap:∀i,i<w.heap.size→i∉ds→i≠a.block→w'.heap[i]? =w.heap[i]?
 here:∀cs t,w.heap[a.block]? =some (.cells cs t (0,0))→∃fr,w'.heap[a.block]? =some (.cells cs t fr)
def convLoud (w0:World) (F:Nat→Prop) (t d:TypeId) (x:SV) (s:St) (K:SV→St→List Nat→Prop):Prop:=match P.underlying t,P.underlying d,x with
 |some .string,some (.slice e), .str l=>match P.underlying e with
  |some (.int .u8)=>∀w2 b c,FromStr s.wb s.D e l w2 b c→notOwn (blks s.L) b (K (.sl (some ⟨b,0,none⟩) l.length c) (s.at s.L w2) [])
  |_=>False
 |some (.slice e),some .string, .sl p n _=>match P.underlying e with
  |some (.int .u8)=>∃l,∀w1,grow s.wb s.D w1→BytesAt w1 p n l∧(p=none→n=0)∧K (.str l) (s.at s.L w1) []
  |_=>False
 |some (.slice _),some (.slice e), .sl p n c=>match Nat.beq t d with
  |true=>match P.underlying e with
   |some (.int .u8)=>∃a,p=some a∧(CanPut s.wb a 0 0∧Away w0.heap.size F (blks s.L) a.block)∧∀w2,Marked s.wb s.D a w2→K (.sl p n c) (s.at s.L w2) []
   |_=>False
  |false=>False
 |_,_,_=>False
def SetAt (w:World) (b:Nat) (l:List Int):Prop:=∃(ents:Array MapEntry) (clock:Nat),w.heap[b]? =some (.map ents clock)∧ents.toList.map (fun e=>(e.key,e.val))=l.map fun n=>(Value.int .i64 n,Value.bool true)
def setAdd (n:Int) (l:List Int):List Int:=if l.contains n then l else l++[n]
structure SetTo (w:World) (b:Nat) (l:List Int) (w':World):Prop where
 os:w'.os=w.os
 tape:w'.tape=w.tape
 output:w'.output=w.output
 size:w'.heap.size=w.heap.size
 heap:∀i,i≠b→w'.heap[i]? =w.heap[i]?
 row:SetAt w' b l
def SetAdd (w:World) (b:Nat) (l:List Int) (n:Int) (w':World):Prop:=SetTo w b (setAdd n l) w'
def SetDel (w:World) (b:Nat) (l:List Int) (n:Int) (w':World):Prop:=SetTo w b (l.erase n) w'
def SetNil (w:World) (b:Nat) (w':World):Prop:=SetTo w b [] w'
structure SetNew (w w':World) (b:Nat):Prop where
 os:w'.os=w.os
 tape:w'.tape=w.tape
 output:w'.output=w.output
 new:w.heap.size≤b
 size:b<w'.heap.size
 heap:∀i,i<w.heap.size→w'.heap[i]? =w.heap[i]?
 row:SetAt w' b []
def SetHas (l:List Int) (n:Int) (x:Bool):Prop:=x=l.contains n
def set? (t:TypeId):Option TypeId:=match P.underlying t with
 |some (.map k e)=>match P.underlying k,P.underlying e,zero? P e with
  |some (.int .i64),some .bool,some (.lit false)=>some e
  |_,_,_=>none
 |_=>none
def setOf (m:SV) (w:World) (K:Nat→List Int→Prop):Prop:=match m with
 | .val v=>∃b:Nat,v= .map (some b)∧∃l:List Int,SetAt w b l∧K b l
 |_=>False
def setPut (t:TypeId) (m:SV) (s:St) (R:World→Nat→List Int→World→Prop) (K:SV→St→List Nat→Prop):Prop:=match set? P t with
 |some _=>∀w1,grow s.wb s.D w1→setOf m w1 fun b l=>(b<w0.heap.size→F b)∧∀w2,R w1 b l w2→K (.tup []) (s.at s.L w2) []
 |none=>False
def loud (all:List Oper) (o:Oper) (s:St) (K:SV→St→List Nat→Prop):Prop:=match o.op with
 | .alloc t=>match zero? P t with
  |some z=>∀b,s.wb.heap.size≤b→K (.loc s.L.length 0) {s with L:=s.L++[⟨b,t,z.flat,0⟩]} []
  |none=>False
 | .box t x=>on (eval P s.T x) fun v=>match v.flat.all SV.scalar with
  |false=>False
  |true=>∀b,s.wb.heap.size≤b→K (.loc s.L.length 0) {s with L:=s.L++[⟨b,t,v.flat,0⟩]} []
 | .buildSlice t n ps=>match(parts? P s.T ps.toList).bind fun ps=>buildRow P t n ps with
  |some (e,cs)=>match isPub all o with
   |true=>∀w2 b,Litr s.wb s.D e (reals (blks s.L) cs) w2 b→notOwn (blks s.L) b (K (.sl (some ⟨b,0,none⟩) n n) (s.at s.L w2) [])
   |false=>∀b,s.wb.heap.size≤b→K (.lsl s.L.length 0 n n) {s with L:=s.L++[⟨b,e,cs,0⟩]} []
  |none=>match n,ps.toList,P.underlying t with
   |0,[],some (.slice e)=>match size? P e with
    |some _=>∀w2 b,Litr s.wb s.D e [] w2 b→notOwn (blks s.L) b (K (.sl (some ⟨b,0,none⟩) 0 0) (s.at s.L w2) [])
    |none=>False
   |_,_,_=>False
 | .convert t d x=>on (eval P s.T x) fun v=>convLoud P w0 F t d v s K
 | .makeSlice t n c=>match P.underlying t,eval P s.T n,eval P s.T c with
  |some (.slice e),some (.int .i64 n),some (.int .i64 c)=>match size? P e,bytes? P e,zero? P e with
   |some es,some by_,some z=>match Nat.blt 0 es&&Nat.blt 0 by_&&Nat.beq z.flat.length es with
    |true=>(0≤n∧n≤c∧c*by_≤140737488355328)∧∀w2 b,Made s.wb s.D e es n.toNat c.toNat (reals [] z.flat) w2 b→notOwn (blks s.L) b (K (.sl (some ⟨b,0,none⟩) n.toNat c.toNat) (s.at s.L w2) [])
    |false=>False
   |_,_,_=>False
  |_,_,_=>False
 | .store t a x=>on (eval P s.T a) fun a=>on (eval P s.T x) fun v=>match size? P t with
  |some n=>match Nat.beq v.flat.length n&&v.flat.all SV.scalar with
   |true=>match a with
    | .loc k off=>match writeLoc s.L k off v.flat,s.L[k]? with
     |some L,some l=>match Nat.blt k s.nb with
      |true=>K (.tup []) {s with L:=L,D:=l.blk::s.D} [k]
      |false=>K (.tup []) {s with L:=L} [k]
     |_,_=>False
    | .adr a o=>(CanPut s.wb a o n∧Away w0.heap.size F (blks s.L) a.block)∧∀w2,Put s.wb s.D a o (reals (blks s.L) v.flat) w2→liesIf w0 (!(locsIn v).isEmpty) s.L w2 (K (.tup []) (s.at s.L w2) [])
    | .ptr p=>∃a,p=some a∧(CanPut s.wb a 0 n∧Away w0.heap.size F (blks s.L) a.block)∧∀w2,Put s.wb s.D a 0 (reals (blks s.L) v.flat) w2→liesIf w0 (!(locsIn v).isEmpty) s.L w2 (K (.tup []) (s.at s.L w2) [])
    |_=>False
   |false=>False
  |none=>False
 | .call {callee:= .value f,args, .. }=>match eval P s.T f,evals P s.T args.toList with
  |some (.fn g first cap),some vs=>callAt P w0 F g (first++vs++cap) s K
  |_,_=>False
 | .makeMap t none=>match set? P t with
  |some _=>∀w1,grow s.wb s.D w1→∀w2 b,SetNew w1 w2 b→K (.val (.map (some b))) (s.at s.L w2) []
  |none=>False
 | .mapUpdate t m k v=>match eval P s.T m,eval P s.T k,eval P s.T v with
  |some m,some (.int .i64 n),some (.lit true)=>setPut P w0 F t m s (fun w1 b l w2=>SetAdd w1 b l n w2) K
  |_,_,_=>False
 | .lookup t m k false=>match set? P t,eval P s.T m,eval P s.T k with
  |some _,some m,some (.int .i64 n)=>∀w1,grow s.wb s.D w1→setOf m w1 fun b l=>∀x:Bool,SetHas l n x→K (.bool (.ok x)) (s.at s.L w1) []
  |_,_,_=>False
 | .call {callee:= .builtin .delete,args,argTypes}=>match argTypes.toList,evals P s.T args.toList with
  |[t,_],some [m, .int .i64 n]=>setPut P w0 F t m s (fun w1 b l w2=>SetDel w1 b l n w2) K
  |_,_=>False
 | .call {callee:= .builtin .clear,args,argTypes}=>match argTypes.toList,evals P s.T args.toList with
  |[t],some [m]=>setPut P w0 F t m s (fun w1 b _ w2=>SetNil w1 b w2) K
  |_,_=>False
 | .call {callee:= .builtin .copy,args,argTypes}=>match argTypes.toList,evals P s.T args.toList with
  |[t,_],some [x,y]=>copyAt P w0 F t x y s K
  |_,_=>False
 | .call {callee:= .builtin .append,args,argTypes}=>match argTypes.toList,evals P s.T args.toList with
  |[t,u],some [x,y]=>match Nat.beq t u with
   |true=>appendAt P w0 F t x y s K
   |false=>False
  |_,_=>False
 |_=>False
def run1 (all:List Oper) (o:Oper) (s:St) (K:St→List Nat→Prop):Prop:=match calmB P o.op with
 |true=>picked o.op s fun s=>calm P s.L s.D s.wb s.T o.op fun v=>K (s.put o.dst v) []
 |false=>loud P w0 F all o s fun v s ch=>K (s.put o.dst v) ch
def ops (all:List Oper):List Oper→St→(St→Prop)→Prop
 |[],s,K=>K s
 |o::rest,s,K=>guarded all o s fun s b=>match b with
  |false=>ops all rest (s.put o.dst (.tup [])) K
  |true=>run1 P w0 F all o s fun s _=>ops all rest s K
structure Pend where
 i:Nat
 own:Option Nat
 old:Option (Addr×Nat×List Value)
def stillOk (ms:List Nat) (i:Nat) (big:Bool) (ch D:List Nat) (w:World):List Pend→Prop→Prop
 |[],Q=>Q
 |p::ps,Q=>match Abs.ahead ms p.i i with
  |true=>stillOk ms i big ch D w ps Q
  |false=>match p.own with
   |some k=>match ch.elem k with
    |true=>False
    |false=>stillOk ms i big ch D w ps Q
   |none=>match p.old with
    |some (a,o,vs)=>match big with
     |true=>At w a o vs∧stillOk ms i big ch D w ps Q
     |false=>notIn D a.block (stillOk ms i big ch D w ps Q)
    |none=>stillOk ms i big ch D w ps Q
def pendOf (i:Nat) (o:Op) (s:St) (v:SV):Option Pend:=match o with
 | .load _ x=>match eval P s.T x with
  |some (.loc k _)=>some ⟨i,some k,none⟩
  |some (.adr a o)=>some ⟨i,none,some (a,o,reals (blks s.L) v.flat)⟩
  |_=>none
 |_=>some ⟨i,none,none⟩
def isLoad:Op→Bool
 | .load _ _=>true
 |_=>false
def isBig (all:List Oper) (o:Oper) (s:St):Bool:=match o.op with
 | .alloc _| .box _ _=>false
 | .buildSlice t n ps=>match(parts? P s.T ps.toList).bind fun ps=>buildRow P t n ps with
  |some _=>isPub all o
  |none=>true
 | .store _ a _=>match eval P s.T a with
  |some (.loc _ _)=>false
  |_=>true
 |_=>true
def firstCalm (all:List Oper):List Nat→Option Nat
 |[]=>none
 |i::is=>match all[i]? with
  |some o=>match calmB P o.op with
   |true=>some i
   |false=>firstCalm all is
  |none=>firstCalm all is
def alts (all:Array Oper) (ms:List Nat) (listed:Array Bool) (pend:List Pend) (go:Nat→List Pend→St→Prop):List Nat→St→Prop
 |[],_=>True
 |r::rs,s=>match all[r]? with
  |some o=>guarded all.toList o s fun s b=>match b with
   |false=>match Region.free .any all listed r with
    |true=>go r pend (s.put o.dst (.tup []))
    |false=>False
   |true=>match rs with
    |[]=>loud P w0 F all.toList o s fun v s' ch=>stillOk ms r (isBig P all.toList o s) ch s'.D s'.wb pend (go r (pend.filter fun p=> !Abs.ahead ms p.i r) (s'.put o.dst v))
    |x::xs=>(loud P w0 F all.toList o s fun v s' ch=>stillOk ms r (isBig P all.toList o s) ch s'.D s'.wb pend (go r (pend.filter fun p=> !Abs.ahead ms p.i r) (s'.put o.dst v)))∧alts all ms listed pend go (x::xs) s
  |none=>False
def draw (all:Array Oper) (ms:List Nat):Nat→Array Bool→List Pend→St→(St→Prop)→Prop
 |0,listed,_,s,K=>match Region.ready .any all listed with
  |[]=>K s
  |_::_=>False
 |n+1,listed,pend,s,K=>match Region.ready .any all listed with
  |[]=>K s
  |r::rs=>match firstCalm P all.toList (r::rs) with
   |some i=>match Region.free .any all listed i,all[i]? with
    |true,some o=>guarded all.toList o s fun s b=>match b with
     |false=>draw all ms n (listed.setIfInBounds i true) pend (s.put o.dst (.tup [])) K
     |true=>picked o.op s fun s=>calm P s.L s.D s.wb s.T o.op fun v=>match isLoad o.op,pendOf P i o.op s v with
      |true,some p=>draw all ms n (listed.setIfInBounds i true) (p::pend) (s.put o.dst v) K
      |true,none=>False
      |false,_=>draw all ms n (listed.setIfInBounds i true) pend (s.put o.dst v) K
    |_,_=>False
   |none=>alts P w0 F all ms listed pend (fun i pend s=>draw all ms n (listed.setIfInBounds i true) pend s K) (r::rs) s
end
end
end Go.Sy
namespace Go.Sy
open Go.RowKit (Below)
noncomputable section
variable [Codecs]
section
variable (P:Program) (w0:World) (F:Nat→Prop) (loops cuts:List Cut)
def isDefer:Op→Bool
 | .defer _=>true
 |_=>false
def regionAt (l:Array Oper) (d:Bool) (s:St) (K:St→Prop):Prop:=match l.toList.any (fun o=>isDefer o.op) with
 |true=>False
 |false=>match d with
  |false=>ops P w0 F l.toList l.toList s K
  |true=>match Region.noSelect l with
   |true=>draw P w0 F l (Abs.masks l) l.size (Array.replicate l.size false) [] s K
   |false=>False
def keyOf:Code→Option Nat
 | .region id _ _=>some id
 | .seq a b=>match keyOf a with
  |some k=>some k
  |none=>keyOf b
 | .cond _ a b=>match keyOf a with
  |some k=>some k
  |none=>keyOf b
 | .block _ b=>keyOf b
 | .loop b=>keyOf b
 | .scope b=>keyOf b
 |_=>none
def cutAt:List Cut→Option Nat→Option Cut
 |_,none=>none
 |[],_=>none
 |c::cs,some k=>match Nat.beq c.key k with
  |true=>some c
  |false=>cutAt cs (some k)
def dsts:List Oper→List (Nat×TypeId)→List (Nat×TypeId)
 |[],acc=>acc
 |o::os,acc=>match o.dst with
  |some d=>(d,o.type)::dsts os acc
  |none=>dsts os acc
def written:Code→List (Nat×TypeId)→List (Nat×TypeId)
 | .region _ l _,acc=>dsts l.toList acc
 | .seq a b,acc=>written a (written b acc)
 | .cond _ a b,acc=>written a (written b acc)
 | .block _ b,acc=>written b acc
 | .loop b,acc=>written b acc
 | .scope b,acc=>written b acc
 |_,acc=>acc
def kill:List (Nat×TypeId)→Env→Env
 |[],T=>T
 |(d,_)::ds,T=>kill ds (T.set d none)
def slotVals (T:Env):List Nat→Option (List SV)
 |[]=>some []
 |t::ts=>(T.at t).bind fun v=>(slotVals T ts).map (v::·)
def locVals (L:List Loc):List Nat→Option (List SV)
 |[]=>some []
 |k::ks=>(L[k]?).bind fun l=>(locVals L ks).map (l.cells++·)
def valsOf (c:Cut) (s:St):Option (List SV):=(slotVals s.T c.slots).bind fun a=>(locVals s.L c.locs).map (a++·)
def setSlots:List Nat→List SV→Env→Env×List SV
 |[],vs,T=>(T,vs)
 |_::_,[],T=>(T,[])
 |t::ts,v::vs,T=>setSlots ts vs (T.set t (some v))
def setLocs:List Nat→List SV→List Loc→List Loc
 |[],_,L=>L
 |k::ks,vs,L=>match L[k]? with
  |some l=>setLocs ks (vs.drop l.cells.length) (L.take k++{l with cells:=vs.take l.cells.length,ver:=l.ver+1}::L.drop (k+1))
  |none=>L
def headOf (c:Cut) (wr:List (Nat×TypeId)) (s:St) (ys:List SV) (w:World):St:=
 {T:=(setSlots c.slots ys (kill wr s.T)).1,L:=setLocs c.locs (setSlots c.slots ys (kill wr s.T)).2 s.L,nb:=s.L.length,D:=[],wb:=w,M:=s.M,Z:=s.Z}
def sameVers (ls:List Nat):Nat→List Loc→List Loc→Bool
 |_,[],_=>true
 |_,_::_,[]=>false
 |k,l::L,l'::L'=>(ls.elem k||Nat.beq l.ver l'.ver)&&sameVers ls (k+1) L L'
def locsOk (c:Cut) (s:St):Bool:=c.locs.all fun k=>Nat.blt k s.L.length
def loopAt (c:Cut) (wr:List (Nat×TypeId)) (body:St→(Ex→St→Prop)→Prop) (s:St) (K:Ex→St→Prop):Prop:=match locsOk c s with
 |false=>False
 |true=>match valsOf c s with
 |some xs=>match shsOf xs with
  |some sh=>∃(I:PredT sh) (μ:MeasT sh),(∀w1,grow s.wb s.D w1→app sh I μ xs fun J _=>J w1)∧
    allV sh I μ fun ys J m=>∀w1,Keeps F w0 w1→J w1→body (headOf c wr s ys w1) fun e s'=>match e with
     | .normal=>match sameVers c.locs 0 (headOf c wr s ys w1).L s'.L&&Nat.beq s'.M.length s.M.length,valsOf c s' with
      |true,some zs=>∀w2,grow s'.wb s'.D w2→app sh I μ zs fun J' m'=>J' w2∧m'<m
      |_,_=>False
     |e=>K e s'
  |none=>False
 |none=>False
def ghost (c:Cut):Bool:=c.slots.elem 100000
def plainC (c:Cut):Cut:={c with slots:=c.slots.filter fun n=> !Nat.beq n 100000}
def loopG (c:Cut) (wr:List (Nat×TypeId)) (body:St→(Ex→St→Prop)→Prop) (s:St) (K:Ex→St→Prop):Prop:=match locsOk c s with
 |false=>False
 |true=>match valsOf c s with
 |some xs=>match shsOf xs with
  |some sh=>∃(I:Int→PredT sh) (μ:Int→MeasT sh),(∃g:Int,∀w1,grow s.wb s.D w1→app sh (I g) (μ g) xs fun J _=>J w1)∧
    ∀g:Int,allV sh (I g) (μ g) fun ys J m=>∀w1,Keeps F w0 w1→J w1→body (headOf c wr s ys w1) fun e s'=>match e with
     | .normal=>match sameVers c.locs 0 (headOf c wr s ys w1).L s'.L&&Nat.beq s'.M.length s.M.length,valsOf c s' with
      |true,some zs=>∃g':Int,∀w2,grow s'.wb s'.D w2→app sh (I g') (μ g') zs fun J' m'=>J' w2∧m'<m
      |_,_=>False
     |e=>K e s'
  |none=>False
 |none=>False
def measZero:(s:List Sh)→MeasT s
 |[]=>(0:Nat)
 | .int _::s=>fun _=>measZero s
 | .bool::s=>fun _=>measZero s
 | .str::s=>fun _=>measZero s
 | .ptr::s=>fun _=>measZero s
 | .sl::s=>fun _ _ _=>measZero s
 | .val::s=>fun _=>measZero s
def slotSh (wr:List (Nat×TypeId)):List Nat→Option (List Sh)
 |[]=>some []
 |t::ts=>(wr.find? fun d=>Nat.beq d.1 t).bind fun d=>(zero? P d.2).bind fun z=>(shOf z).bind fun a=>(slotSh wr ts).map (a::·)
def cutSh (c:Cut) (wr:List (Nat×TypeId)) (s:St):Option (List Sh):=(slotSh P wr c.slots).bind fun a=>((locVals s.L c.locs).bind shsOf).map (a++·)
def cutThere (c:Cut) (wr:List (Nat×TypeId)) (x:St→(Ex→St→Prop)→Prop) (y:St→(Ex→St→Prop)→Prop) (s:St) (K:Ex→St→Prop):Prop:=match locsOk c s with
 |false=>False
 |true=>match cutSh P c wr s with
 |some sh=>∃I:PredT sh,(x s fun e s'=>match e with
    | .normal=>match sameVers c.locs 0 s.L s'.L&&Nat.beq s'.M.length s.M.length,valsOf c s' with
     |true,some zs=>∀w2,grow s'.wb s'.D w2→app sh I (measZero sh) zs fun J _=>J w2
     |_,_=>False
    |e=>K e s')∧
   allV sh I (measZero sh) fun ys J _=>∀w1,Keeps F w0 w1→J w1→y (headOf c wr s ys w1) K
 |none=>False
def newsOf (c:Cut):List Nat:=c.slots.filterMap fun n=>match Nat.ble 200000 n with
 |true=>some (n-200000)
 |false=>none
def plainN (c:Cut):Cut:={c with slots:=c.slots.filter fun n=> !Nat.ble 200000 n}
def allocOps:List Oper→List (Nat×TypeId)→List (Nat×TypeId)
 |[],acc=>acc
 |o::os,acc=>match o.op,o.dst with
  | .alloc e,some d=>(d,e)::allocOps os acc
  | .box e _,some d=>(d,e)::allocOps os acc
  |_,_=>allocOps os acc
def allocsIn:Code→List (Nat×TypeId)→List (Nat×TypeId)
 | .region _ l _,acc=>allocOps l.toList acc
 | .seq a b,acc=>allocsIn a (allocsIn b acc)
 | .cond _ a b,acc=>allocsIn a (allocsIn b acc)
 | .block _ b,acc=>allocsIn b acc
 | .loop b,acc=>allocsIn b acc
 | .scope b,acc=>allocsIn b acc
 |_,acc=>acc
def newTys (al:List (Nat×TypeId)):List Nat→Option (List (TypeId×List SV))
 |[]=>some []
 |t::ts=>(al.find? fun d=>Nat.beq d.1 t).bind fun d=>(zero? P d.2).bind fun z=>(newTys al ts).map ((d.2,z.flat)::·)
def newVals (lo:Nat) (s':St):List Nat→List (TypeId×List SV)→List Nat→Option (List SV)
 |[],[],_=>some []
 |t::ts,(e,z)::es,used=>match s'.T.at t with
  |some (.loc k 0)=>match s'.L[k]?,Nat.ble lo k&& !used.elem k with
   |some l,true=>match Nat.beq l.ty e&&Nat.beq l.cells.length z.length with
    |true=>(newVals lo s' ts es (k::used)).map (l.cells++·)
    |false=>none
   |_,_=>none
  |_=>none
 |_,_,_=>none
def forBlks (lo:Nat):List (TypeId×List SV)→(List Nat→Prop)→Prop
 |[],K=>K []
 |_::es,K=>∀b,lo≤b→forBlks lo es fun bs=>K (b::bs)
def addNews:List Nat→List (TypeId×List SV)→List Nat→List SV→St→St
 |t::ts,(e,z)::es,b::bs,vs,s=>addNews ts es bs (vs.drop z.length) {T:=s.T.set t (some (.loc s.L.length 0)),L:=s.L++[⟨b,e,vs.take z.length,0⟩],nb:=s.L.length+1,D:=s.D,wb:=s.wb,M:=s.M,Z:=s.Z}
 |_,_,_,_,s=>s
def cellsAll:List (TypeId×List SV)→List SV
 |[]=>[]
 |(_,z)::es=>z++cellsAll es
def cutNew (c:Cut) (ns:List Nat) (wr al:List (Nat×TypeId)) (x:St→(Ex→St→Prop)→Prop) (y:St→(Ex→St→Prop)→Prop) (s:St) (K:Ex→St→Prop):Prop:=match locsOk c s with
 |false=>False
 |true=>match cutSh P c wr s,newTys P al ns with
 |some sh,some es=>match shsOf (cellsAll es) with
  |some sh2=>∃I:PredT (sh++sh2),(x s fun e s'=>match e with
    | .normal=>match sameVers c.locs 0 s.L s'.L&&Nat.beq s'.M.length s.M.length,valsOf c s',newVals s.L.length s' ns es [] with
     |true,some zs,some us=>∀w2,grow s'.wb s'.D w2→app (sh++sh2) I (measZero (sh++sh2)) (zs++us) fun J _=>J w2
     |_,_,_=>False
    |e=>K e s')∧
   allV (sh++sh2) I (measZero (sh++sh2)) fun ys J _=>forBlks w0.heap.size es fun bs=>∀w1,Keeps F w0 w1→J w1→y (addNews ns es bs (ys.drop sh.length) (headOf c wr s (ys.take sh.length) w1)) K
  |none=>False
 |_,_=>False
def condAt (c:Option SV) (x y:Prop):Prop:=match c with
 |some (.lit true)=>x
 |some (.lit false)=>y
 |some (.bool e)=>(e.is true→x)∧(e.is false→y)
 |_=>False
def asgOf:Code→Option (Tmp×Tmp)
 | .region _ l false=>match l.toList with
  |[o]=>match o.op,o.dst,o.guard with
   | .assign (.tmp p),some t,none=>some (t,p)
   |_,_,_=>none
  |_=>none
 |_=>none
def roundAt (c:Cut) (p t:Tmp) (x:Addr) (s:St) (ys:List SV) (w:World) (l d:Nat):St:=
 {T:=(s.T.set p (some (.adr x 0))).set t (some (.adr x 0)),L:=setLocs c.locs ys s.L,nb:=s.L.length,D:=[],wb:=w,M:=[],Z:=l::d::s.M}
def behindOf (c:Cut) (s:St) (ys:List SV) (w:World) (d:Nat):St:=
 {T:=s.T,L:=setLocs c.locs ys s.L,nb:=s.L.length,D:=[],wb:=w,M:=d::s.M,Z:=s.Z}
def seqAt (c:Cut) (f:FuncId) (first cap:List SV) (p t:Tmp) (bd:St→(Ex→St→Prop)→Prop) (s:St) (K:Ex→St→Prop):Prop:=match P.funcs[f]? with
 |some fn=>match fn.body with
  |some _=>match fn.name== "runtime.NumGoroutine" with
   |false=>match locsOk c s with
    |true=>match locVals s.L c.locs with
     |some xs=>match shsOf xs with
      |some sh=>∀l d:Nat,s.wb.heap.size≤d→d<l→∃(vs:List Addr) (Need:World→Prop) (I:Nat→PredT sh),
        Seq1 P f (reals (blks s.L) first).toArray (reals (blks s.L) cap).toArray vs Need∧
        (∀w1,grow s.wb s.D w1→l<w1.heap.size→app sh (I 0) (measZero sh) xs fun J _=>J w1∧Need w1)∧
        (∀i x,vs[i]? =some x→allV sh (I i) (measZero sh) fun ys J _=>∀w1,Keeps F w0 w1→l<w1.heap.size→J w1→Need w1→bd (roundAt c p t x s ys w1 l d) fun e s'=>match e with
         | .normal=>match sameVers c.locs 0 (roundAt c p t x s ys w1 l d).L s'.L,locVals s'.L c.locs with
          |true,some zs=>∀w2,grow s'.wb s'.D w2→app sh (I (i+1)) (measZero sh) zs fun J _=>J w2∧Need w2
          |_,_=>False
         |_=>False)∧
        (allV sh (I vs.length) (measZero sh) fun ys J _=>∀w1 w2,Keeps F w0 w1→l<w1.heap.size→J w1→Need w1→Ext w1 [l] w2→Keeps F w0 w2→K .normal (behindOf c s ys w2 d))
      |none=>False
     |none=>False
    |false=>False
   |true=>False
  |none=>False
 |none=>False
def code:Code→St→(Ex→St→Prop)→Prop
 | .skip,s,K=>K .normal s
 | .region _ l d,s,K=>regionAt P w0 F l d s fun s=>K .normal s
 | .seq a b,s,K=>match cutAt cuts (keyOf b) with
  |some c=>match newsOf c with
   |[]=>cutThere P w0 F c (written a []) (code a) (code b) s K
   |n::ns=>cutNew P w0 F (plainN c) (n::ns) (written a []) (allocsIn a []) (code a) (code b) s K
  |none=>code a s fun e s=>match e with
   | .normal=>code b s K
   |e=>K e s
 | .cond c a b,s,K=>condAt (eval P s.T c) (code a s K) (code b s K)
 | .block id b,s,K=>code b s fun e s=>match e with
  | .exit j=>match Nat.beq j id with
   |true=>K .normal s
   |false=>K (.exit j) s
  |e=>K e s
 | .loop b,s,K=>match cutAt loops (keyOf b) with
  |some c=>match ghost c with
   |true=>loopG w0 F (plainC c) (written b []) (code b) s K
   |false=>loopAt w0 F c (written b []) (code b) s K
  |none=>False
 | .exit id,s,K=>K (.exit id) s
 | .ret,s,K=>K .ret s
 | .scope b,s,K=>match s.Z with
  |[]=>code b s K
  |_::_=>False
 | .label _,s,K=>K .normal s
 | .rangeFunc g ps as_ bd,s,K=>match s.Z,asgOf as_,ps.toList,cutAt loops (keyOf bd),eval P s.T g with
  |[],some (t,p'),[p],some c,some (.fn f first cap)=>match Nat.beq p p',c.slots with
   |true,[]=>seqAt P w0 F c f first cap p t (code bd) s K
   |_,_=>False
  |_,_,_,_,_=>False
 |_,_,_=>False
def enterAt (i:Nat):List SV→Env→Env
 |[],T=>T
 |v::vs,T=>enterAt (i+1) vs (T.set i (some v))
def outs (s:St):List ResultVar→Option (List SV)
 |[]=>some []
 | .tmp t::rs=>(s.T.at t).bind fun v=>(outs s rs).map (v::·)
 | .cell c t::rs=>match s.T.at c with
  |some (.loc k o)=>(size? P t).bind fun n=>(isAgg? P t).bind fun g=>(readLoc s.L k o n).bind fun cs=>match g with
   |true=>(outs s rs).map (.agg cs::·)
   |false=>match cs with
    |[v]=>(outs s rs).map (v::·)
    |_=>none
  |_=>none
def finish (fn:Func) (Q:Value→World→Prop) (s:St):Prop:=match outs P s fn.results.toList with
 |some vs=>∀w1,grow s.wb (s.M++s.D) w1→Keeps F w0 w1→liesIf w0 (!(dedup (locsAll vs)).isEmpty) s.L w1 (Q (real (blks s.L) (resVal vs)) w1)
 |none=>False
def allDst (n:Nat):Code→Bool
 | .region _ l _=>l.toList.all fun o=>match o.dst with
  |some d=>Nat.blt d n
  |none=>true
 | .seq a b=>allDst n a&&allDst n b
 | .cond _ a b=>allDst n a&&allDst n b
 | .block _ b=>allDst n b
 | .loop b=>allDst n b
 | .scope b=>allDst n b
 | .rangeFunc _ ps a b=>(ps.toList.all fun p=>Nat.blt p n)&&allDst n a&&allDst n b
 |_=>true
def func (f:FuncId) (args:List SV) (Q:Value→World→Prop):Prop:=match P.funcs[f]? with
 |some fn=>match fn.body with
  |some c=>match allDst fn.ntmps c with
   |false=>False
   |true=>code P w0 F loops cuts c {T:=enterAt 0 args .leaf,L:=[],nb:=0,D:=[],wb:=w0,M:=[],Z:=[]} fun e s=>match e with
   | .normal=>finish P w0 F fn Q s
   | .ret=>finish P w0 F fn Q s
   | .exit _=>False
  |none=>False
 |none=>False
end
end
end Go.Sy
namespace Go.Sy
variable {P:Program}
theorem BE.is_iff:∀(e:BE) (w:Bool),e.is w↔(e.is true↔w=true)
 | .lt a b,true=>by simp
 | .lt a b,false=>by simp[BE.is]
 | .le a b,true=>by simp
 | .le a b,false=>by simp[BE.is]
 | .eq a b,true=>by simp
 | .eq a b,false=>by simp[BE.is]
 | .ok x,true=>by simp
 | .ok x,false=>by simp[BE.is]
 | .pr q,true=>by simp
 | .pr q,false=>by simp[BE.is]
 | .no e,true=>by simp
 | .no e,false=>by
  have h1:=BE.is_iff e false
  have h2:=BE.is_iff e true
  simp only[BE.is]
  rw[h1]
  simp
theorem BE.toB_val (e:BE):e.toB=e.val:=by
 cases e with
 |ok x=>cases x<;>simp[BE.toB,BE.val,BE.is]
 |_=>rfl
theorem BE.val_iff (e:BE) (w:Bool):e.is w↔e.val=w:=by
 rw[BE.is_iff]
 unfold BE.val
 cases w<;>simp
theorem BE.toB_iff (e:BE) (w:Bool):e.is w↔e.toB=w:=by rw[BE.toB_val,BE.val_iff]
theorem BE.not_val (e:BE):(BE.no e).val= !e.val:=by
 have h1:=BE.val_iff e false
 have h2:=BE.val_iff (.no e) true
 simp only[BE.is] at h2
 cases he:e.val with
 |true=>
  cases hn:(BE.no e).val with
  |false=>rfl
  |true=>rw[hn] at h2;rw[he] at h1;simp at h2;exact absurd h2 (by rw[h1];simp)
 |false=>
  rw[he] at h1
  have:e.is false:=h1.2 rfl
  rw[h2.1 this];rfl
theorem BE.split {e:BE} {A B C:Prop} (h:(e.is true→A)∧(e.is false→B)) (ha:e.toB=true→A→C) (hb:e.toB=false→B→C):C:=by
 cases he:e.toB with
 |true=>exact ha he (h.1 ((BE.toB_iff e true).2 he))
 |false=>exact hb he (h.2 ((BE.toB_iff e false).2 he))
theorem okvs_iff {n:Nat} {l:List SV}:okvs n l↔∀v∈l,okv n v:=by
 induction l with
 |nil=>simp[okvs]
 |cons v l ih=>simp[okvs,ih]
theorem reals_eq (β:List Nat) (l:List SV):reals β l=l.map (real β):=by
 induction l with
 |nil=>rfl
 |cons v l ih=>simp[reals,ih]
theorem reals_length (β:List Nat) (l:List SV):(reals β l).length=l.length:=by simp[reals_eq]
def Alike (n:Nat) (β β':List Nat):Prop:=∀k,k<n→β'.getD k 0=β.getD k 0
mutual
theorem real_alike {n:Nat} {β β':List Nat} (h:Alike n β β'):∀v,okv n v→real β' v=real β v
 | .int _ _,_=>rfl
 | .lit _,_=>rfl
 | .bool _,_=>rfl
 | .str _,_=>rfl
 | .ptr _,_=>rfl
 | .adr _ _,_=>rfl
 | .sl _ _ _,_=>rfl
 | .loc k _,hk=>by simp only[real,h k hk]
 | .lsl k _ _ _,hk=>by simp only[real,h k hk]
 | .agg cs,hc=>by simp only[real,reals_alike h cs hc.1]
 | .tup cs,hc=>by simp only[real,reals_alike h cs hc]
 | .fn _ a b,hc=>by simp only[real,reals_alike h a hc.1,reals_alike h b hc.2]
 | .val _,_=>rfl
theorem reals_alike {n:Nat} {β β':List Nat} (h:Alike n β β'):∀l,okvs n l→reals β' l=reals β l
 |[],_=>rfl
 |v::vs,hv=>by simp only[reals,real_alike h v hv.1,reals_alike h vs hv.2]
end
mutual
theorem okv_mono {n m:Nat} (h:n≤m):∀v,okv n v→okv m v
 | .int _ _,_=>trivial
 | .lit _,_=>trivial
 | .bool _,_=>trivial
 | .str _,_=>trivial
 | .ptr _,_=>trivial
 | .adr _ _,_=>trivial
 | .sl _ _ _,_=>trivial
 | .loc k _,hk=>Nat.lt_of_lt_of_le hk h
 | .lsl k _ _ _,hk=>Nat.lt_of_lt_of_le hk h
 | .agg cs,hc=>⟨okvs_mono h cs hc.1,hc.2⟩
 | .tup cs,hc=>okvs_mono h cs hc
 | .fn _ a b,hc=>⟨okvs_mono h a hc.1,okvs_mono h b hc.2⟩
 | .val _,hv=>hv
theorem okvs_mono {n m:Nat} (h:n≤m):∀l,okvs n l→okvs m l
 |[],_=>trivial
 |v::vs,hv=>⟨okv_mono h v hv.1,okvs_mono h vs hv.2⟩
end
theorem adrVal_eq (a:Addr) (o:Nat):adrVal a o= .pointer (some (a.add o)):=by
 cases o with
 |zero=>simp[adrVal,Addr.add]
 |succ n=>rfl
theorem add_add (a:Addr) (m n:Nat):(a.add m).add n=a.add (m+n):=by
 unfold Addr.add
 by_cases hm:m=0
 ·subst hm;simp
 ·by_cases hn:n=0
  ·subst hn;simp
  ·rw[if_neg hm,if_neg hn,if_neg (by omega)]
   simp[Nat.add_assoc]
theorem scalar_cells {n:Nat} {β:List Nat} {v:SV} (h:okv n v) (hs:v.scalar=true):(real β v).oneCell'=true∧(real β v).cells=#[real β v]:=by
 cases v with
 |agg cs=>cases hs
 |tup cs=>cases hs
 |adr a o=>rw[real,adrVal_eq];exact⟨rfl,rfl⟩
 |val v=>
  refine⟨h,?_⟩
  have h':v.oneCell'=true:=h
  cases v<;>first|rfl|cases h'
 |_=>exact⟨rfl,rfl⟩
theorem flat_sound {n:Nat} {β:List Nat} {v:SV} (h:okv n v):(real β v).cells=(reals β v.flat).toArray∧okvs n v.flat∧((∀cs,v≠ .tup cs)→v.flat.all SV.scalar=true):=by
 cases v with
 |agg cs=>exact⟨rfl,h.1,fun _=>h.2⟩
 |tup cs=>exact⟨rfl,⟨h,trivial⟩,fun hn=>absurd rfl (hn cs)⟩
 |_=>exact⟨(scalar_cells (β:=β) h rfl).2,⟨h,trivial⟩,fun _=>rfl⟩
theorem mem_one {n:Nat} {β:List Nat} {l:List SV} (h:okvs n l) (hs:l.all SV.scalar=true):∀v∈reals β l,v.oneCell'=true:=by
 intro v hv
 rw[reals_eq,List.mem_map] at hv
 obtain⟨x,hx,rfl⟩:=hv
 exact(scalar_cells (okvs_iff.1 h x hx) (List.all_eq_true.1 hs x hx)).1
theorem ofScalar_sound {n:Nat} {β:List Nat} {v:Value} {a:SV} (h:ofScalar v=some a):okv n a∧real β a=v∧a.scalar=true:=by
 cases v with
 |bool b=>cases h;exact⟨trivial,rfl,rfl⟩
 |int k n=>cases h;exact⟨trivial,rfl,rfl⟩
 |string s=>cases h;exact⟨trivial,rfl,rfl⟩
 |pointer p=>cases p with
  |none=>cases h;exact⟨trivial,rfl,rfl⟩
  |some p=>cases h
 |slice p n c=>cases p with
  |none=>cases h;exact⟨trivial,rfl,rfl⟩
  |some p=>cases h
 |map r=>cases r with
  |none=>cases h;exact⟨rfl,rfl,rfl⟩
  |some r=>cases h
 |nilFunc=>cases h;exact⟨rfl,rfl,rfl⟩
 |nilIface=>cases h;exact⟨rfl,rfl,rfl⟩
 |_=>cases h
theorem ofScalars_sound {n:Nat} {β:List Nat}:∀{l:List Value} {as:List SV},ofScalars l=some as→okvs n as∧reals β as=l∧as.all SV.scalar=true
 |[],as,h=>by cases h;exact⟨trivial,rfl,rfl⟩
 |v::l,as,h=>by
  simp only[ofScalars,Option.bind_eq_some_iff,Option.map_eq_some_iff] at h
  obtain⟨a,ha,bs,hb,rfl⟩:=h
  obtain⟨h1,h2,h3⟩:=ofScalar_sound (n:=n) (β:=β) ha
  obtain⟨k1,k2,k3⟩:=ofScalars_sound (n:=n) (β:=β) hb
  exact⟨⟨h1,k1⟩,by simp only[reals,h2,k2],by simp[h3,k3]⟩
theorem ofConst_else (v:Value) (h1:∀cs,v≠ .agg cs) (h2:∀cs,v≠ .tuple cs):ofConst v=ofScalar v:=by
 cases v<;>first|rfl|exact absurd rfl (h1 _)|exact absurd rfl (h2 _)
theorem ofConst_sound {n:Nat} {β:List Nat} {v:Value} {a:SV} (h:ofConst v=some a):okv n a∧real β a=v:=by
 cases v with
 |agg cs=>
  simp only[ofConst,Option.map_eq_some_iff] at h
  obtain⟨as,h1,rfl⟩:=h
  obtain⟨k1,k2,k3⟩:=ofScalars_sound (n:=n) (β:=β) h1
  exact⟨⟨k1,k3⟩,by simp only[real,k2,Array.toArray_toList]⟩
 |tuple cs=>
  simp only[ofConst,Option.map_eq_some_iff] at h
  obtain⟨as,h1,rfl⟩:=h
  obtain⟨k1,k2,k3⟩:=ofScalars_sound (n:=n) (β:=β) h1
  exact⟨k1,by simp only[real,k2,Array.toArray_toList]⟩
 |_=>
  rw[ofConst_else _ (by intros;simp) (by intros;simp)] at h
  have:=ofScalar_sound (n:=n) (β:=β) h
  exact⟨this.1,this.2.1⟩
def EnvOk (n:Nat) (β:List Nat) (T:Env) (tmps:Array Value):Prop:=∀t v,T.at t=some v→okv n v∧tmps.getD t undef=real β v
theorem at_set (T:Env) (d:Nat) (v:Option SV) (t:Nat):Env.at (T.set d v) t=if t=d then v else T.at t:=by
 unfold Env.at
 rw[Abs.Tr.get_set]
 by_cases h:t=d
 ·simp only[if_pos h];cases v<;>rfl
 ·simp only[if_neg h]
theorem EnvOk.put {n:Nat} {β:List Nat} {T:Env} {tmps:Array Value} (h:EnvOk n β T tmps) {d:Tmp} (hd:d<tmps.size) {v:SV} (hv:okv n v):EnvOk n β (T.set d (some v)) (tmps.setIfInBounds d (real β v)):=by
 intro t u hu
 rw[at_set] at hu
 by_cases ht:t=d
 ·subst ht
  rw[if_pos rfl] at hu
  cases hu
  exact⟨hv,by simp[hd]⟩
 ·rw[if_neg ht] at hu
  obtain⟨h1,h2⟩:=h t u hu
  exact⟨h1,by rw[←h2];simp[Array.getElem?_setIfInBounds_ne (Ne.symm ht)]⟩
theorem EnvOk.known {n:Nat} {β:List Nat} {T:Env} {tmps:Array Value} (h:EnvOk n β T tmps) {d:Tmp} {e:BE} {b:Bool} (hd:T.at d=some (.bool e)) (hb:e.toB=b):EnvOk n β (T.set d (some (.lit b))) tmps:=by
 intro t u hu
 rw[at_set] at hu
 by_cases ht:t=d
 ·rw[if_pos ht] at hu
  cases hu
  obtain⟨_,h2⟩:=h d _ hd
  exact⟨trivial,by rw[ht,h2];simp only[real,hb]⟩
 ·rw[if_neg ht] at hu;exact h t u hu
theorem EnvOk.alike {n m:Nat} {β β':List Nat} {T:Env} {tmps:Array Value} (h:EnvOk n β T tmps) (hn:n≤m) (ha:Alike n β β'):EnvOk m β' T tmps:=by
 intro t v hv
 obtain⟨h1,h2⟩:=h t v hv
 exact⟨okv_mono hn v h1,by rw[h2,real_alike ha v h1]⟩
theorem eval_sound {n:Nat} {β:List Nat} {T:Env} {a:Act} (hT:EnvOk n β T a.tmps) {x:Operand} {v:SV} (h:eval P T x=some v):okv n v∧a.eval x=real β v:=by
 cases x with
 |tmp t=>exact hT t v h
 |const c=>
  obtain⟨h1,h2⟩:=ofConst_sound (n:=n) (β:=β) (show ofConst c=some v from h)
  exact⟨h1,h2.symm⟩
 |global g=>
  simp only[eval] at h
  split at h
  ·cases h;exact⟨trivial,rfl⟩
  ·cases h
 |func f=>cases h;exact⟨⟨trivial,trivial⟩,rfl⟩
theorem evals_sound {n:Nat} {β:List Nat} {T:Env} {a:Act} (hT:EnvOk n β T a.tmps):∀{xs:List Operand} {vs:List SV},evals P T xs=some vs→
  okvs n vs∧xs.map a.eval=reals β vs
 |[],vs,h=>by cases h;exact⟨trivial,rfl⟩
 |x::xs,vs,h=>by
  simp only[evals,Option.bind_eq_some_iff,Option.map_eq_some_iff] at h
  obtain⟨v,hv,us,hu,rfl⟩:=h
  obtain⟨h1,h2⟩:=eval_sound hT hv
  obtain⟨k1,k2⟩:=evals_sound hT hu
  exact⟨⟨h1,k1⟩,by simp only[List.map_cons,reals,h2,k2]⟩
theorem run_sizeOf {t:TypeId} {n:Nat} (h:size? P t=some n) (w:World):(sizeOf t).run P w= .ok n w:=by
 unfold size? at h
 cases hi:P.info? t with
 |none=>rw[hi] at h;cases h
 |some i=>rw[hi] at h;cases h;simp[sizeOf,typeInfo,hi]
theorem run_isAgg {t:TypeId} {b:Bool} (h:isAgg? P t=some b) (w:World):(isAgg t).run P w= .ok b w:=by
 unfold isAgg? at h
 cases hu:P.underlying t with
 |none=>rw[hu] at h;cases h
 |some d=>rw[hu] at h;unfold isAgg;rw[Sem.run_bind,run_underlying hu w];cases d<;>(cases h;rfl)
theorem run_zero {t:TypeId} {z:SV} (h:zero? P t=some z) (w:World):∃v,(zeroValue t).run P w= .ok v w∧(∀n β,okv n z∧real β z=v)∧z.flat.all SV.scalar=true∧∃i,P.info? t=some i∧i.zero=some v:=by
 unfold zero? at h
 simp only[Option.bind_eq_some_iff] at h
 obtain⟨i,hi,v,hv,z',hz,h⟩:=h
 split at h
 ·rename_i hs
  cases h
  exact⟨v,by simp[zeroValue,typeInfo,hi,hv],fun n β=>ofConst_sound hz,hs,i,hi,hv⟩
 ·cases h
theorem exV_elim:∀{s:List Sh} {K:List SV→Prop},exV s K→∃xs,okvs 0 xs∧xs.all SV.scalar=true∧xs.length=s.length∧K xs
 |[],K,h=>⟨[],trivial,rfl,rfl,h⟩
 | .int k::s,K,h=>by
  obtain⟨n,h⟩:=h
  obtain⟨xs,h1,h2,h3,h4⟩:=exV_elim h
  exact⟨.int k n::xs,⟨trivial,h1⟩,by simp[SV.scalar,h2],by simp[h3],h4⟩
 | .bool::s,K,h=>by
  obtain⟨n,h⟩:=h
  obtain⟨xs,h1,h2,h3,h4⟩:=exV_elim h
  exact⟨.bool (.ok n)::xs,⟨trivial,h1⟩,by simp[SV.scalar,h2],by simp[h3],h4⟩
 | .str::s,K,h=>by
  obtain⟨n,h⟩:=h
  obtain⟨xs,h1,h2,h3,h4⟩:=exV_elim h
  exact⟨.str n::xs,⟨trivial,h1⟩,by simp[SV.scalar,h2],by simp[h3],h4⟩
 | .ptr::s,K,h=>by
  obtain⟨n,h⟩:=h
  obtain⟨xs,h1,h2,h3,h4⟩:=exV_elim h
  exact⟨.ptr n::xs,⟨trivial,h1⟩,by simp[SV.scalar,h2],by simp[h3],h4⟩
 | .sl::s,K,h=>by
  obtain⟨p,n,c,h⟩:=h
  obtain⟨xs,h1,h2,h3,h4⟩:=exV_elim h
  exact⟨.sl p n c::xs,⟨trivial,h1⟩,by simp[SV.scalar,h2],by simp[h3],h4⟩
 | .val::s,K,h=>by
  obtain⟨v,hv,h⟩:=h
  obtain⟨xs,h1,h2,h3,h4⟩:=exV_elim h
  exact⟨.val v::xs,⟨hv,h1⟩,by simp[SV.scalar,h2],by simp[h3],h4⟩
theorem exC_elim [Codecs] {t:TypeId} {s:List Sh} {K:List SV→Prop} (h:exC t s K):∃xs,okvs 0 xs∧xs.all SV.scalar=true∧xs.length=s.length∧K xs:=by
 unfold exC at h
 split at h
 ·split at h
  ·rename_i c _ _ hn
   obtain⟨x,hx⟩:=h
   obtain⟨h1,h2,h3⟩:=c.ok x
   exact⟨_,h1,h2,h3.trans (Nat.eq_of_beq_eq_true hn),hx⟩
  ·exact h.elim
 ·exact exV_elim h
theorem shsOf_length:∀{l:List SV} {s:List Sh},shsOf l=some s→s.length=l.length
 |[],s,h=>by cases h;rfl
 |v::l,s,h=>by
  simp only[shsOf,Option.bind_eq_some_iff,Option.map_eq_some_iff] at h
  obtain⟨a,_,r,hr,rfl⟩:=h
  simp[shsOf_length hr]
theorem kindEq_sound {a b:IntKind} (h:kindEq a b=true):a=b:=by
 cases a<;>cases b<;>first|rfl|cases h
end Go.Sy
namespace Go.Sy
variable [Codecs]
variable {P:Program}
def Gives (P:Program) (n:Nat) (β:List Nat) (S:World→Prop) (m:Sem Value) (K:SV→Prop):Prop:=
 ∃v,okv n v∧K v∧∀w,S w→m.run P w= .ok (real β v) w
theorem Gives.of {n:Nat} {β:List Nat} {S:World→Prop} {m:Sem Value} {K:SV→Prop} {v:SV} (hv:okv n v) (hk:K v) (h:∀w,m.run P w= .ok (real β v) w):Gives P n β S m K:=⟨v,hv,hk,fun w _=>h w⟩
theorem Gives.bool {n:Nat} {β:List Nat} {S:World→Prop} {m:Sem Value} {K:SV→Prop} (e:BE) {b:Bool} (he:e.is true↔b=true) (hk:K (.bool e)) (h:∀w,S w→m.run P w= .ok (.bool b) w):Gives P n β S m K:=by
 refine⟨.bool e,trivial,hk,fun w hw=>?_⟩
 have:e.toB=b:=by
  have h1:=BE.toB_iff e true
  rw[he] at h1
  cases b<;>cases h2:e.toB<;>simp_all
 rw[h w hw]
 simp only[real,this]
theorem wrap_i64 {x:Int} (h:I64 x):IntKind.i64.wrap x=x:=by
 unfold I64 at h
 simp[IntKind.wrap,IntKind.bits,IntKind.signed]
 omega
theorem arith_sound {k:IntKind} {x:Int} {K:SV→Prop} (h:arith k x K):∃y,k.wrap x=y∧K (.int k y):=by
 unfold arith at h
 split at h
 ·obtain⟨h1,h2⟩:=h
  exact⟨x,wrap_i64 h1,h2⟩
 ·exact⟨_,rfl,h⟩
theorem intBin_sound {n:Nat} {β:List Nat} {S:World→Prop} {op:BinOp} {t:TypeId} {k:IntKind} {a b:Int} {K:SV→Prop} (h:intBin op k a b K):Gives P n β S (Go.binOp op t (.int k a) (.int k b)) K:=by
 cases op<;>simp only[intBin] at h
 case add=>
  obtain⟨y,hy,hk⟩:=arith_sound h
  exact Gives.of (v:= .int k y) trivial hk fun w=>by simp[Go.binOp,Op.intArith,hy,real]
 case sub=>
  obtain⟨y,hy,hk⟩:=arith_sound h
  exact Gives.of (v:= .int k y) trivial hk fun w=>by simp[Go.binOp,Op.intArith,hy,real]
 case mul=>
  obtain⟨y,hy,hk⟩:=arith_sound h
  exact Gives.of (v:= .int k y) trivial hk fun w=>by simp[Go.binOp,Op.intArith,hy,real]
 case quo=>
  split at h
  ·obtain⟨⟨h1,h2,h3⟩,hk⟩:=h
   refine Gives.of (v:= .int .i64 (a/b)) trivial hk fun w=>?_
   have hb:b≠0:=by omega
   have hd:a.tdiv b=a/b:=Int.tdiv_eq_ediv_of_nonneg h1
   have h4:0≤a/b:=Int.ediv_nonneg h1 (by omega)
   have h5:a/b≤a:=Int.ediv_le_self _ h1
   have hw:IntKind.i64.wrap (a/b)=a/b:=wrap_i64 (by unfold I64 at*;omega)
   simp[Go.binOp,Op.intDiv,real,hb,hd,hw]
  ·exact h.elim
 case rem=>
  split at h
  ·obtain⟨⟨h1,h2,h3⟩,hk⟩:=h
   refine Gives.of (v:= .int .i64 (a%b)) trivial hk fun w=>?_
   have hb:b≠0:=by omega
   have hd:a.tmod b=a%b:=Int.tmod_eq_emod_of_nonneg h1
   simp[Go.binOp,Op.intDiv,real,hb,hd]
  ·exact h.elim
 case and=>exact Gives.of (v:= .int k (bits .and k a b)) trivial h fun w=>by simp[Go.binOp,intBits_and,real]
 case or=>exact Gives.of (v:= .int k (bits .or k a b)) trivial h fun w=>by simp[Go.binOp,intBits_or,real]
 case xor=>exact Gives.of (v:= .int k (bits .xor k a b)) trivial h fun w=>by simp[Go.binOp,intBits_xor,real]
 case andNot=>exact Gives.of (v:= .int k (bits .andNot k a b)) trivial h fun w=>by simp[Go.binOp,intBits_andNot,real]
 case eql=>exact Gives.bool (.eq a b) (b:=a==b) (by simp[BE.is]) h fun w _=>by simp[Go.binOp,Op.intCmp]
 case neq=>exact Gives.bool (.no (.eq a b)) (b:=a !=b) (by simp[BE.is]) h fun w _=>by simp[Go.binOp,Op.intCmp]
 case lss=>exact Gives.bool (.lt a b) (b:=decide (a<b)) (by simp[BE.is]) h fun w _=>by simp[Go.binOp,Op.intCmp]
 case leq=>exact Gives.bool (.le a b) (b:=decide (a≤b)) (by simp[BE.is]) h fun w _=>by simp[Go.binOp,Op.intCmp]
 case gtr=>exact Gives.bool (.lt b a) (b:=decide (a>b)) (by simp[BE.is]) h fun w _=>by simp[Go.binOp,Op.intCmp]
 case geq=>exact Gives.bool (.le b a) (b:=decide (a≥b)) (by simp[BE.is]) h fun w _=>by simp[Go.binOp,Op.intCmp]
theorem str_size (s:List UInt8):(ByteArray.mk s.toArray).size=s.length:=by simp[ByteArray.size]
theorem str_append (a b:List UInt8):(ByteArray.mk a.toArray++ByteArray.mk b.toArray)=ByteArray.mk (a++b).toArray:=by
 apply ByteArray.ext
 simp
theorem flag_sound {n:Nat} {β:List Nat} {S:World→Prop} {op:BinOp} {e:BE} {K:SV→Prop} {m:Sem Value} (h:flag op e K)
  (h1:op= .eql→∀w,S w→m.run P w= .ok (.bool e.toB) w) (h2:op= .neq→∀w,S w→m.run P w= .ok (.bool !e.toB) w):Gives P n β S m K:=by
 cases op<;>simp only[flag] at h
 case eql=>exact⟨.bool e,trivial,h,fun w hw=>h1 rfl w hw⟩
 case neq=>exact Gives.bool (.no e) (b:= !e.toB) (by rw[show(BE.no e).is true=e.is false from rfl,BE.toB_iff];simp) h fun w hw=>h2 rfl w hw
theorem known_sound {n:Nat} {β:List Nat} {S:World→Prop} {op:BinOp} {b:Bool} {K:SV→Prop} {m:Sem Value} (h:known op b K)
  (h1:op= .eql→∀w,S w→m.run P w= .ok (.bool b) w) (h2:op= .neq→∀w,S w→m.run P w= .ok (.bool !b) w):Gives P n β S m K:=by
 cases op<;>simp only[known] at h
 case eql=>exact⟨.lit b,trivial,h,fun w hw=>h1 rfl w hw⟩
 case neq=>
  cases b with
  |true=>exact⟨.lit false,trivial,h,fun w hw=>h2 rfl w hw⟩
  |false=>exact⟨.lit true,trivial,h,fun w hw=>h2 rfl w hw⟩
theorem strBin_sound {n:Nat} {β:List Nat} {S:World→Prop} {op:BinOp} {t:TypeId} {a b:List UInt8} {K:SV→Prop} (h:strBin op a b K):Gives P n β S (Go.binOp op t (.string ⟨a.toArray⟩) (.string ⟨b.toArray⟩)) K:=by
 cases op<;>simp only[strBin] at h
 case add=>
  obtain⟨h1,hk⟩:=h
  refine Gives.of (v:= .str (a++b)) trivial hk fun w=>?_
  simp only[Go.binOp,Op.stringOp,str_size,str_append,real]
  rw[if_neg (by simp only[IntKind.max_i64];omega)]
  rfl
 case eql=>exact Gives.bool (.pr (a=b)) (b:=a==b) (by simp[BE.is]) h fun w _=>by simp[Go.binOp,Op.stringOp]
 case neq=>exact Gives.bool (.no (.pr (a=b))) (b:= !(a==b)) (by simp[BE.is]) h fun w _=>by simp[Go.binOp,Op.stringOp]
theorem eqGuard_none (op:BinOp) (t:TypeId) (x y:Operand) (a b:Value) (h:(a= .nilIface→b≠ .nilIface)) (h2:∀cs ds,a= .agg cs→b= .agg ds→P.eqGuardType P.depth t=false) (w:World):(eqGuard op t x y a b).run P w= .ok () w:=by
 unfold eqGuard
 cases op<;>try (simp;done)
 all_goals
  cases a with
  |nilIface=>cases b<;>first|exact absurd rfl (h rfl)|simp
  |agg cs=>cases b with
   |agg ds=>simp[h2 cs ds rfl rfl]
   |_=>simp
  |_=>simp
theorem equal_ptr {t e:TypeId} (hu:P.underlying t=some (.pointer e)) (p:Option Addr) (w:World):(Op.equal t (.pointer p) (.pointer none)).run P w= .ok (decide (p=none)) w:=by
 have key:∀D,(Op.equalIn (D+1) t (.pointer p) (.pointer none)).run P w= .ok (decide (p=none)) w:=fun D=>by cases p<;>simp[Op.equalIn,run_underlying hu]
 exact key 9999
theorem equal_slice {t e:TypeId} (hu:P.underlying t=some (.slice e)) (p:Option Addr) (n c m d:Nat) (w:World):(Op.equal t (.slice p n c) (.slice none m d)).run P w= .ok (decide (p=none)) w:=by
 have key:∀D,(Op.equalIn (D+1) t (.slice p n c) (.slice none m d)).run P w= .ok (decide (p=none)) w:=fun D=>by cases p<;>simp[Op.equalIn,run_underlying hu]
 exact key 9999
theorem equal_bool {t:TypeId} (hu:P.underlying t=some .bool) (a b:Bool) (w:World):(Op.equal t (.bool a) (.bool b)).run P w= .ok (a==b) w:=by
 have key:∀D,(Op.equalIn (D+1) t (.bool a) (.bool b)).run P w= .ok (a==b) w:=fun D=>by simp[Op.equalIn,run_underlying hu]
 exact key 9999
theorem isPtr_of {t:TypeId} (h:isPtr? P t=true):∃e,P.underlying t=some (.pointer e):=by
 unfold isPtr? at h
 split at h
 ·exact⟨_,by assumption⟩
 ·cases h
theorem isFunc_of {t:TypeId} (h:isFunc? P t=true):∃a b c,P.underlying t=some (.func a b c):=by
 unfold isFunc? at h
 split at h
 ·exact⟨_,_,_,by assumption⟩
 ·cases h
theorem equal_func {t:TypeId} (hu:∃a b c,P.underlying t=some (.func a b c)) (f:Fn) (x y:Array Value) (w:World):(Op.equal t (.func f x y) .nilFunc).run P w= .ok false w:=by
 obtain⟨a,b,c,hu⟩:=hu
 have key:∀D,(Op.equalIn (D+1) t (.func f x y) .nilFunc).run P w= .ok false w:=fun D=>by simp[Op.equalIn,run_underlying hu]
 exact key 9999
theorem isSlice_of {t:TypeId} (h:isSlice? P t=true):∃e,P.underlying t=some (.slice e):=by
 unfold isSlice? at h
 split at h
 ·exact⟨_,by assumption⟩
 ·cases h
theorem isBool_of {t:TypeId} (h:isBool? P t=true):P.underlying t=some .bool:=by
 unfold isBool? at h
 split at h
 ·assumption
 ·cases h
theorem eql_run {t:TypeId} {x y:Value} {b:Bool} {w:World} (hx:∀k n,x≠ .int k n) (h1:∀k n,x≠ .float k n) (h2:∀k n m,x≠ .complex k n m) (h3:∀s,x≠ .string s) (h:(Op.equal t x y).run P w= .ok b w):
  (Go.binOp .eql t x y).run P w= .ok (.bool b) w∧(Go.binOp .neq t x y).run P w= .ok (.bool !b) w:=by
 cases x<;>first|exact absurd rfl (hx _ _)|exact absurd rfl (h1 _ _)|exact absurd rfl (h2 _ _ _)|exact absurd rfl (h3 _)|(constructor<;>(unfold Go.binOp;simp[h]))
end Go.Sy
namespace Go.Sy
variable [Codecs]
variable {P:Program} {n:Nat} {β:List Nat} {S:World→Prop} {K:SV→Prop}
theorem Gives.guard {g:Sem Unit} {m:Sem Value} (hg:∀w,g.run P w= .ok () w) (h:Gives P n β S m K):Gives P n β S (do g;m) K:=by
 obtain⟨v,h1,h2,h3⟩:=h
 exact⟨v,h1,h2,fun w hw=>by rw[Sem.run_bind,hg];exact h3 w hw⟩
theorem toB_pr (q:Prop) [Decidable q]:(BE.pr q).toB=decide q:=by
 have:=BE.toB_iff (.pr q) true
 simp only[BE.is] at this
 cases h:(BE.pr q).toB<;>simp_all
theorem toB_no (e:BE):(BE.no e).toB= !e.toB:=by rw[BE.toB_val,BE.toB_val,BE.not_val]
theorem eql_run_nil {t:TypeId} {x:Value} {b:Bool} {w:World} (h:(Op.equal t x .nilIface).run P w= .ok b w):
  (Go.binOp .eql t x .nilIface).run P w= .ok (.bool b) w∧(Go.binOp .neq t x .nilIface).run P w= .ok (.bool !b) w:=by
 cases x<;>(constructor<;>(unfold Go.binOp;simp[h]))
theorem bin_sound {c:Bool} {op:BinOp} {t:TypeId} {x y:SV} (xo yo:Operand) (hc:c=true→∃k,yo= .const k) (h:bin P β c op t x y K) (hx:okv n x) (hy:okv n y):
  Gives P n β S (do eqGuard op t xo yo (real β x) (real β y);Go.binOp op t (real β x) (real β y)) K:=by
 unfold bin at h
 split at h
 ·split at h
  ·refine Gives.guard (eqGuard_none _ _ _ _ _ _ (by intro e;cases e) (by intro _ _ e;cases e)) ?_
   rename_i k a k' b x1 x2
   cases op<;>first|exact h.elim|skip
   ·refine Gives.of (v:= .int k (shlI k a b)) trivial h.2 fun w=>?_
    have h1:=h.1
    simp[Go.binOp,Op.shift,real,shlI,show ¬b<0 by omega]
   ·refine Gives.of (v:= .int k (shrI k a b)) trivial h.2 fun w=>?_
    have h1:=h.1
    simp[Go.binOp,Op.shift,real,shrI,show ¬b<0 by omega]
  ·split at h
   ·rename_i hk
    have he:=kindEq_sound hk
    subst he
    exact Gives.guard (eqGuard_none _ _ _ _ _ _ (by intro e;cases e) (by intro _ _ e;cases e)) (intBin_sound h)
   ·exact h.elim
 ·exact Gives.guard (eqGuard_none _ _ _ _ _ _ (by intro e;cases e) (by intro _ _ e;cases e)) (strBin_sound h)
 ·rename_i a b
  unfold aggBin at h
  split at h
  ·rename_i hg
   obtain⟨r,hr,h⟩:=h
   refine Gives.guard (eqGuard_none _ _ _ _ _ _ (by intro e;cases e) (fun _ _ _ _=>hg)) ?_
   refine flag_sound h (fun e w _=>?_) (fun e w _=>?_)
   ·subst e;exact(eql_run (by intros;simp[real]) (by intros;simp[real]) (by intros;simp[real]) (by intros;simp[real]) (hr w)).1
   ·subst e;exact(eql_run (by intros;simp[real]) (by intros;simp[real]) (by intros;simp[real]) (by intros;simp[real]) (hr w)).2
  ·exact h.elim
 ·rename_i p
  split at h
  ·rename_i ht
   obtain⟨e,hu⟩:=isPtr_of ht
   have key:=fun w=>eql_run (by intros;simp) (by intros;simp) (by intros;simp) (by intros;simp) (equal_ptr hu p w)
   refine Gives.guard (eqGuard_none _ _ _ _ _ _ (by intro e;cases e) (by intro _ _ e;cases e)) (flag_sound h (fun e w _=>?_) (fun e w _=>?_))
   ·subst e;rw[toB_pr];exact(key w).1
   ·subst e;rw[toB_pr];exact(key w).2
  ·exact h.elim
 ·rename_i a o
  split at h
  ·rename_i ht
   obtain⟨e,hu⟩:=isPtr_of ht
   have key:=fun w=>eql_run (by intros;simp) (by intros;simp) (by intros;simp) (by intros;simp) (equal_ptr hu (some (a.add o)) w)
   refine Gives.guard (eqGuard_none _ _ _ _ _ _ (by simp[real,adrVal_eq]) (by simp[real,adrVal_eq])) (known_sound h (fun e w _=>?_) (fun e w _=>?_))
   ·subst e;simpa[real,adrVal_eq] using (key w).1
   ·subst e;simpa[real,adrVal_eq] using (key w).2
  ·exact h.elim
 ·rename_i k o
  split at h
  ·rename_i ht
   obtain⟨e,hu⟩:=isPtr_of ht
   have key:=fun w=>eql_run (by intros;simp) (by intros;simp) (by intros;simp) (by intros;simp) (equal_ptr hu (some ⟨β.getD k 0,o,none⟩) w)
   refine Gives.guard (eqGuard_none _ _ _ _ _ _ (by intro e;cases e) (by intro _ _ e;cases e)) (known_sound h (fun e w _=>?_) (fun e w _=>?_))
   ·subst e;simpa[real] using (key w).1
   ·subst e;simpa[real] using (key w).2
  ·exact h.elim
 ·rename_i f fs cs
  split at h
  ·rename_i ht
   have key:=fun w=>eql_run (by intros;simp) (by intros;simp) (by intros;simp) (by intros;simp) (equal_func (isFunc_of ht) (.func f) (reals β fs).toArray (reals β cs).toArray w)
   refine Gives.guard (eqGuard_none _ _ _ _ _ _ (by intro e;cases e) (by intro _ _ e;cases e)) (known_sound h (fun e w _=>?_) (fun e w _=>?_))
   ·subst e;exact(key w).1
   ·subst e;exact(key w).2
  ·exact h.elim
 ·rename_i v
  split at h
  ·obtain⟨b,hb,hK⟩:=h
   obtain⟨k,rfl⟩:=hc rfl
   have hg:∀w,(eqGuard op t xo (.const k) v .nilIface).run P w= .ok () w:=fun w=>by
    unfold eqGuard
    cases op<;>try (simp;done)
    all_goals cases v<;>simp
   refine Gives.guard hg (flag_sound hK (fun e w _=>?_) (fun e w _=>?_))
   ·subst e;exact(eql_run_nil (hb w)).1
   ·subst e;exact(eql_run_nil (hb w)).2
  ·exact h.elim
 ·rename_i p m c m' c'
  split at h
  ·rename_i ht
   obtain⟨e,hu⟩:=isSlice_of ht
   have key:=fun w=>eql_run (by intros;simp) (by intros;simp) (by intros;simp) (by intros;simp) (equal_slice hu p m c m' c' w)
   refine Gives.guard (eqGuard_none _ _ _ _ _ _ (by intro e;cases e) (by intro _ _ e;cases e)) (flag_sound h (fun e w _=>?_) (fun e w _=>?_))
   ·subst e;rw[toB_pr];exact(key w).1
   ·subst e;rw[toB_pr];exact(key w).2
  ·exact h.elim
 ·rename_i a b
  split at h
  ·rename_i ht
   have key:=fun w=>eql_run (by intros;simp) (by intros;simp) (by intros;simp) (by intros;simp) (equal_bool (isBool_of ht) a b w)
   refine Gives.guard (eqGuard_none _ _ _ _ _ _ (by intro e;cases e) (by intro _ _ e;cases e)) ?_
   have h':known op (a==b) K:=by cases a<;>cases b<;>exact h
   refine known_sound h' (fun e w _=>?_) (fun e w _=>?_)
   ·subst e;exact(key w).1
   ·subst e;exact(key w).2
  ·exact h.elim
 ·rename_i e b
  split at h
  ·rename_i ht
   have key:=fun w=>eql_run (by intros;simp) (by intros;simp) (by intros;simp) (by intros;simp) (equal_bool (isBool_of ht) e.toB b w)
   refine Gives.guard (eqGuard_none _ _ _ _ _ _ (by intro e;cases e) (by intro _ _ e;cases e)) ?_
   cases b
   ·refine flag_sound h (fun e' w _=>?_) (fun e' w _=>?_)
    ·subst e';have:=(key w).1;rw[real,real,this,toB_no];simp
    ·subst e';have:=(key w).2;rw[real,real,this,toB_no];simp
   ·refine flag_sound h (fun e' w _=>?_) (fun e' w _=>?_)
    ·subst e';have:=(key w).1;rw[real,real,this];simp
    ·subst e';have:=(key w).2;rw[real,real,this];simp
  ·exact h.elim
 ·rename_i b e
  split at h
  ·rename_i ht
   have key:=fun w=>eql_run (by intros;simp) (by intros;simp) (by intros;simp) (by intros;simp) (equal_bool (isBool_of ht) b e.toB w)
   refine Gives.guard (eqGuard_none _ _ _ _ _ _ (by intro e;cases e) (by intro _ _ e;cases e)) ?_
   cases b
   ·refine flag_sound h (fun e' w _=>?_) (fun e' w _=>?_)
    ·subst e';have:=(key w).1;rw[real,real,this,toB_no];simp
    ·subst e';have:=(key w).2;rw[real,real,this,toB_no];simp
   ·refine flag_sound h (fun e' w _=>?_) (fun e' w _=>?_)
    ·subst e';have:=(key w).1;rw[real,real,this];simp
    ·subst e';have:=(key w).2;rw[real,real,this];simp
  ·exact h.elim
 ·rename_i e f
  split at h
  ·rename_i ht
   have key:=fun w=>eql_run (by intros;simp) (by intros;simp) (by intros;simp) (by intros;simp) (equal_bool (isBool_of ht) e.toB f.toB w)
   refine Gives.guard (eqGuard_none _ _ _ _ _ _ (by intro e;cases e) (by intro _ _ e;cases e)) ?_
   have hv:(BE.pr (e.val=f.val)).toB=(e.toB==f.toB):=by
    rw[BE.toB_val,BE.toB_val,BE.toB_val]
    have:=BE.val_iff (.pr (e.val=f.val)) true
    simp only[BE.is] at this
    cases h1:(BE.pr (e.val=f.val)).val<;>cases h2:e.val<;>cases h3:f.val<;>simp_all
   refine flag_sound h (fun e' w _=>?_) (fun e' w _=>?_)
   ·subst e';rw[hv];exact(key w).1
   ·subst e';rw[hv];exact(key w).2
  ·exact h.elim
 ·exact h.elim
theorem un_sound {op:UnOp} {x:SV} (h:un op x K):Gives P n β S (Op.unary op (real β x)) K:=by
 unfold un at h
 split at h
 ·rename_i b
  cases b
  ·exact⟨.lit true,trivial,h,fun w _=>rfl⟩
  ·exact⟨.lit false,trivial,h,fun w _=>rfl⟩
 ·rename_i e
  exact⟨.bool (.no e),trivial,h,fun w _=>by simp[Op.unary,real,toB_no]⟩
 ·rename_i m
  obtain⟨h1,h2⟩:=h
  exact⟨.int .i64 (0-m),trivial,h2,fun w _=>by simp only[Op.unary,Op.intArith,real,wrap_i64 h1,Sem.run_pure]⟩
 ·exact h.elim
theorem fieldAt_sound {s:TypeId} {x:SV} {i:Nat} (h:fieldAt P s x i K) (hx:okv n x):Gives P n β S (Instr.fieldAt s (real β x) i) K:=by
 unfold fieldAt at h
 split at h
 ·rename_i fields hu
  split at h
  ·rename_i f hf
   split at h
   ·rename_i m hm
    split at h
    ·rename_i hlt
     rw[Nat.blt_eq] at hlt
     have key:∀(a:Addr) (w:World),(Instr.fieldAt s (.pointer (some a)) i).run P w= .ok (.pointer (some (a.add f.offset))) w:=by
      intro a w
      simp[Instr.fieldAt,run_underlying hu,hf,Instr.sureAddr,fieldPlace,run_sizeOf hm,show m≠0 by omega]
     split at h
     ·rename_i k o
      refine⟨_,(show okv n (.loc k (o+f.offset)) from hx),h,fun w _=>?_⟩
      simp only[real]
      rw[key]
      congr 3
      unfold Addr.add
      split
      ·rename_i h0;rw[h0];rfl
      ·rfl
     ·rename_i a o
      refine⟨_,(show okv n (.adr a (o+f.offset)) from trivial),h,fun w _=>?_⟩
      rw[real,real,adrVal_eq,adrVal_eq,key,add_add]
     ·rename_i p
      obtain⟨a,rfl,h⟩:=h
      refine⟨_,(show okv n (.adr a f.offset) from trivial),h,fun w _=>?_⟩
      rw[real,real,adrVal_eq,key]
     ·exact h.elim
    ·exact h.elim
   ·exact h.elim
  ·exact h.elim
 ·exact h.elim
theorem part_sound {t:TypeId} {cs:List SV} {off:Nat} (h:part P t cs off K) (hc:okvs n cs) (hs:cs.all SV.scalar=true):Gives P n β S (Go.part t (reals β cs).toArray off) K:=by
 unfold part at h
 split at h
 ·rename_i ha
  split at h
  ·rename_i m hm
   split at h
   ·rename_i hle
    refine⟨.agg ((cs.drop off).take m),⟨okvs_iff.2 fun u hu=>okvs_iff.1 hc u (List.mem_of_mem_drop (List.mem_of_mem_take hu)),List.all_eq_true.2 fun u hu=>List.all_eq_true.1 hs u (List.mem_of_mem_drop (List.mem_of_mem_take hu))⟩,h,fun w _=>?_⟩
    simp only[Go.part,Sem.run_bind,run_isAgg ha,Result.andThen_ok,if_true,run_sizeOf hm,Sem.run_pure,real]
    congr 2
    apply Array.ext'
    simp[reals_eq,List.map_drop,List.map_take]
   ·exact h.elim
  ·exact h.elim
 ·rename_i ha
  split at h
  ·rename_i v hv
   refine⟨v,okvs_iff.1 hc v (List.mem_iff_getElem?.2 ⟨_,hv⟩),h,fun w _=>?_⟩
   have:(reals β cs).toArray[off]? =some (real β v):=by simp[reals_eq,hv]
   simp only[Go.part,Sem.run_bind,run_isAgg ha,Result.andThen_ok,Bool.false_eq_true,if_false,this]
   rfl
  ·exact h.elim
 ·exact h.elim
theorem field_sound {s:TypeId} {x:SV} {i:Nat} (h:field P s x i K) (hx:okv n x):Gives P n β S (Instr.field s (real β x) i) K:=by
 unfold field at h
 split at h
 ·rename_i fields cs hu
  split at h
  ·rename_i f hf
   obtain⟨v,h1,h2,h3⟩:=part_sound (S:=S) (β:=β) h hx.1 hx.2
   refine⟨v,h1,h2,fun w hw=>?_⟩
   simp only[real]
   simp[Instr.field,run_underlying hu,hf,asAgg,h3 w hw]
  ·exact h.elim
 ·exact h.elim
theorem eachIx_get {i:Int} {Kn:Nat→Prop}:∀{m j:Nat},eachIx i m j Kn→∀k:Nat,i=((j+k:Nat):Int)→k<m→Kn (j+k)
 |0,_,_,k,_,hk=>by omega
 |m+1,j,h,k,hi,hk=>by
  cases k with
  |zero=>exact h.1 (by simpa using hi)
  |succ k=>
   have:=eachIx_get h.2 k (by rw[hi];congr 1;omega) (by omega)
   rwa[show j+1+k=j+(k+1) by omega] at this
theorem withIx_sound {lit:Bool} {i:Int} {m:Nat} {Kn:Nat→Prop} (h:withIx lit i m Kn):∃k:Nat,i=k∧k<m∧Kn k:=by
 unfold withIx at h
 split at h
 ·cases i with
  |ofNat k=>
   cases hb:Nat.blt k m with
   |true=>
    simp only[ixLit,hb] at h
    exact⟨k,rfl,by rwa[Nat.blt_eq] at hb,h⟩
   |false=>simp only[ixLit,hb] at h
  |negSucc k=>exact h.elim
 ·obtain⟨⟨h1,h2⟩,h3⟩:=h
  have:=eachIx_get h3 i.toNat (by omega) (by omega)
  exact⟨i.toNat,by omega,by omega,by simpa using this⟩
theorem indexAt_sound {t:TypeId} {x:SV} {lit:Bool} {k:IntKind} {i:Int} (h:indexAt P t x lit i K) (hx:okv n x):Gives P n β S (Instr.indexAt t (real β x) (.int k i)) K:=by
 unfold indexAt at h
 split at h
 ·rename_i len e l o hu
  split at h
  ·rename_i s hs
   obtain⟨j,rfl,hj,h⟩:=withIx_sound h
   refine⟨.loc l (o+j*s),hx,h,fun w _=>?_⟩
   simp only[real]
   simp[Instr.indexAt,asIntOf,run_underlying hu,Instr.sureAddr,hj,run_sizeOf hs]
   unfold Addr.add
   split
   ·rename_i h0;simp[h0]
   ·rfl
  ·exact h.elim
 ·rename_i len e a o hu
  split at h
  ·rename_i s hs
   have key:∀(j:Nat) (w:World),j<len→(Instr.indexAt t (adrVal a o) (.int k (j:Int))).run P w= .ok (adrVal a (o+j*s)) w:=by
    intro j w hj
    rw[adrVal_eq,adrVal_eq,←add_add]
    simp[Instr.indexAt,asIntOf,run_underlying hu,Instr.sureAddr,hj,run_sizeOf hs]
   split at h
   ·obtain⟨j,rfl,hj,h⟩:=withIx_sound (lit:=true) h
    exact⟨.adr a (o+j*s),trivial,h,fun w _=>key j w hj⟩
   ·obtain⟨⟨h1,h2⟩,h⟩:=h
    refine⟨.adr a (o+i.toNat*s),trivial,h,fun w _=>?_⟩
    have:=key i.toNat w (by omega)
    rwa[Int.toNat_of_nonneg h1] at this
  ·exact h.elim
 ·rename_i e p m c hu
  split at h
  ·rename_i s hs
   obtain⟨a,rfl,⟨h1,h2⟩,h⟩:=h
   refine⟨.adr a (i.toNat*s),trivial,h,fun w _=>?_⟩
   simp only[real,adrVal_eq]
   simp[Instr.indexAt,asIntOf,run_underlying hu,h1,h2,run_sizeOf hs]
  ·exact h.elim
 ·rename_i e l o m c hu
  split at h
  ·rename_i s hs
   obtain⟨j,rfl,hj,h⟩:=withIx_sound h
   refine⟨.loc l (o+j*s),hx,h,fun w _=>?_⟩
   simp only[real]
   simp[Instr.indexAt,asIntOf,run_underlying hu,hj,run_sizeOf hs]
   unfold Addr.add
   split
   ·rename_i h0;simp[h0]
   ·rfl
  ·exact h.elim
 ·exact h.elim
theorem index_sound {t:TypeId} {x:SV} {lit:Bool} {k:IntKind} {i:Int} (h:index P t x lit i K) (hx:okv n x):Gives P n β S (Instr.index t (real β x) (.int k i)) K:=by
 unfold index at h
 split at h
 ·rename_i len e cs hu
  split at h
  ·rename_i s hs
   obtain⟨j,rfl,hj,h⟩:=withIx_sound h
   obtain⟨v,h1,h2,h3⟩:=part_sound (S:=S) (β:=β) h hx.1 hx.2
   refine⟨v,h1,h2,fun w hw=>?_⟩
   simp only[real]
   simp[Instr.index,asIntOf,run_underlying hu,hj,run_sizeOf hs,h3 w hw]
  ·exact h.elim
 ·rename_i s hu
  obtain⟨⟨h1,h2⟩,h⟩:=h
  refine⟨.int .u8 (byteAt s i),trivial,h,fun w _=>?_⟩
  have hlt:i.toNat<s.length:=by omega
  have:(ByteArray.mk s.toArray)[i.toNat]? =some (s.getD i.toNat 0):=by
   have hlt2:i.toNat<(ByteArray.mk s.toArray).size:=by rw[str_size];exact hlt
   rw[getElem?_pos (ByteArray.mk s.toArray) i.toNat hlt2]
   simp[List.getD_eq_getElem?_getD,List.getElem?_eq_getElem hlt]
   rfl
  simp only[real,byteAt]
  simp[Instr.index,asIntOf,run_underlying hu,this,h1]
 ·exact h.elim
theorem extract_sound {x:SV} {i:Nat} (h:extract x i K) (hx:okv n x):Gives P n β S (Instr.extract (real β x) i) K:=by
 unfold extract at h
 split at h
 ·rename_i vs
  split at h
  ·rename_i v hv
   refine⟨v,okvs_iff.1 hx v (List.mem_iff_getElem?.2 ⟨_,hv⟩),h,fun w _=>?_⟩
   have:(reals β vs).toArray[i]? =some (real β v):=by simp[reals_eq,hv]
   simp[Instr.extract,real,this]
  ·exact h.elim
 ·exact h.elim
theorem convert_sound {s d:TypeId} {x:SV} (h:convert P s d x K):Gives P n β S (Go.convert s d (real β x)) K:=by
 unfold convert at h
 split at h
 ·rename_i k0 k k' m hs hd
  have key:∀w:World,(Go.convert s d (.int k' m)).run P w= .ok (.int k (k.wrap m)) w:=by
   intro w
   simp[Go.convert,run_underlying hs,run_underlying hd,Conv.intToInt]
  have fin:arith k m K→Gives P n β S (Go.convert s d (.int k' m)) K:=fun h=>by
   obtain⟨y,hy,hk⟩:=arith_sound h
   exact⟨.int k y,trivial,hk,fun w _=>by rw[key,hy];rfl⟩
  apply fin
  unfold arith
  split at h<;>exact h
 ·rename_i l hs hd
  exact⟨.str l,trivial,h,fun w _=>by simp[Go.convert,run_underlying hs,run_underlying hd,real]⟩
 ·rename_i k0 k m hs hd
  exact⟨.str (runeStr m),trivial,h,fun w _=>by simp[Go.convert,run_underlying hs,run_underlying hd,real,Conv.intToString,runeStr]⟩
 ·exact h.elim
end Go.Sy
namespace Go.Sy
variable [Codecs]
variable {P:Program} {n:Nat} {β:List Nat} {S:World→Prop} {K:SV→Prop}
theorem optI_sound {T:Env} {a:Act} (hT:EnvOk n β T a.tmps) {d l:Int} {x:Option Operand} (h:optI (eval P T) d x=some l):(x=none∧l=d)∨∃y k,x=some y∧a.eval y= .int k l:=by
 unfold optI at h
 split at h
 ·cases h;exact .inl ⟨rfl,rfl⟩
 ·rename_i y
  split at h
  ·rename_i hy
   cases h
   exact .inr ⟨y,_,rfl,(eval_sound hT hy).2⟩
  ·cases h
theorem run_bound (k:IntKind) (i:Int) (y:Nat) (h1:0≤i) (h2:i≤y) (code:BoundsCode) (w:World):(Instr.sliceBound (.int k i) y code).run P w= .ok i.toNat w:=by
 simp[Instr.sliceBound,asIntOf,h1,h2]
theorem sliceBounds_run {T:Env} {a:Act} (hT:EnvOk n β T a.tmps) (isSlice:Bool) (len cap:Nat) {lo hi:Option Operand} {l h:Int}
  (hl:optI (eval P T) 0 lo=some l) (hh:optI (eval P T) len hi=some h) (h1:0≤l) (h2:l≤h) (h3:h≤cap) (w:World):
  (Instr.sliceBounds isSlice len cap (lo.map a.eval) (hi.map a.eval) none).run P w= .ok (l.toNat,h.toNat,cap) w:=by
 unfold Instr.sliceBounds
 rcases optI_sound hT hh with⟨rfl,rfl⟩|⟨y,k,rfl,hy⟩
 ·rcases optI_sound hT hl with⟨rfl,rfl⟩|⟨x,k2,rfl,hx⟩
  ·simp
  ·simp[hx,run_bound k2 l len h1 h2]
 ·have hc:h≤(h.toNat:Int):=by omega
  rcases optI_sound hT hl with⟨rfl,rfl⟩|⟨x,k2,rfl,hx⟩
  ·simp[hy,run_bound k h cap (by omega) h3]
  ·simp[hy,hx,run_bound k h cap (by omega) h3,run_bound k2 l h.toNat h1 (by omega)]
theorem sliceBounds3_run {T:Env} {a:Act} (hT:EnvOk n β T a.tmps) (len cap:Nat) {lo mx:Option Operand} {hi:Operand} {l h m:Int}
  (hl:optI (eval P T) 0 lo=some l) (hh:optI (eval P T) 0 (some hi)=some h) (hm:optI (eval P T) 0 mx=some m) (hmx:mx.isSome=true) (h1:0≤l) (h2:l≤h) (h3:h≤m) (h4:m≤cap) (w:World):
  (Instr.sliceBounds true len cap (lo.map a.eval) (some (a.eval hi)) (mx.map a.eval)).run P w= .ok (l.toNat,h.toNat,m.toNat) w:=by
 unfold Instr.sliceBounds
 rcases optI_sound hT hm with⟨rfl,_⟩|⟨z,k3,rfl,hz⟩
 ·cases hmx
 rcases optI_sound hT hh with⟨e,_⟩|⟨y,k,e,hy⟩
 ·cases e
 cases e
 rcases optI_sound hT hl with⟨rfl,rfl⟩|⟨x,k2,rfl,hx⟩
 ·simp[hz,hy,run_bound k3 m cap (by omega) h4,run_bound k h m.toNat (by omega) (by omega)]
 ·simp[hz,hy,hx,run_bound k3 m cap (by omega) h4,run_bound k h m.toNat (by omega) (by omega),run_bound k2 l h.toNat h1 (by omega)]
theorem slice_sound {T:Env} {a:Act} (hT:EnvOk n β T a.tmps) {t:TypeId} {x:SV} {lo hi mx:Option Operand} (h:slice P t x lo hi mx (eval P T) K):
  Gives P n β S (Instr.sliceAt t (real β x) (lo.map a.eval) (hi.map a.eval) (mx.map a.eval)) K:=by
 unfold slice at h
 split at h
 ·rename_i mo
  split at h
  ·rename_i e p m c hi' hu
   split at h
   ·rename_i s l h' mm hs hl hh hm
    obtain⟨⟨h1,h2,h3,h4⟩,h⟩:=h
    refine⟨_,(show okv n (.sl (cutP p mm.toNat l.toNat s) (h'-l).toNat (mm-l).toNat) from trivial),h,fun w _=>?_⟩
    have hb:=sliceBounds3_run (P:=P) hT m c hl hh hm rfl h1 h2 h3 h4 w
    simp only[Option.map_some] at hb
    simp only[real,Instr.sliceAt,Instr.slice,Sem.run_bind,run_underlying hu,Result.andThen_ok,Option.map_some,hb,run_sizeOf hs,Sem.run_pure,cutP]
    congr 2<;>omega
   ·exact h.elim
  ·exact h.elim
 ·split at h
  ·rename_i s hu
   split at h
   ·rename_i l h' hl hh
    obtain⟨⟨h1,h2,h3⟩,h⟩:=h
    refine⟨_,(show okv n (.str ((s.drop l.toNat).take (h'-l).toNat)) from trivial),h,fun w _=>?_⟩
    have hb:=sliceBounds_run (P:=P) hT false s.length s.length hl hh h1 h2 h3 w
    have hsz:(ByteArray.mk s.toArray).size=s.length:=str_size s
    have hex:(ByteArray.mk s.toArray).extract l.toNat h'.toNat=ByteArray.mk ((s.drop l.toNat).take (h'-l).toNat).toArray:=by
     apply ByteArray.ext
     simp[ByteArray.data_extract]
     congr 1
     omega
    simp only[real]
    simp[Instr.sliceAt,Instr.slice,run_underlying hu,hsz,hb,hex]
   ·exact h.elim
  ·rename_i e p m c hu
   split at h
   ·rename_i s l h' hs hl hh
    obtain⟨⟨h1,h2,h3⟩,h⟩:=h
    refine⟨_,(show okv n (.sl (cutP p c l.toNat s) (h'-l).toNat (c-l.toNat)) from trivial),h,fun w _=>?_⟩
    have hb:=sliceBounds_run (P:=P) hT true m c hl hh h1 h2 h3 w
    simp only[real,Instr.sliceAt,Instr.slice,Sem.run_bind,run_underlying hu,Result.andThen_ok,Option.map_none,hb,run_sizeOf hs,Sem.run_pure,cutP]
    congr 2;omega
   ·exact h.elim
  ·rename_i m e ad o hu
   split at h
   ·rename_i s l h' hs hl hh
    obtain⟨⟨h1,h2,h3⟩,h⟩:=h
    refine⟨_,(show okv n (.sl (cutP (slA ad o) m l.toNat s) (h'-l).toNat (m-l.toNat)) from trivial),h,fun w _=>?_⟩
    have hb:=sliceBounds_run (P:=P) hT false m m hl hh h1 h2 h3 w
    have he:real β (.adr ad o)= .pointer (slA ad o):=by cases o<;>rfl
    obtain⟨q,hq⟩:∃q,slA ad o=some q:=by cases o<;>exact⟨_,rfl⟩
    rw[he,hq]
    simp only[real,Instr.sliceAt,Instr.sureAddr,Sem.run_bind,run_underlying hu,Result.andThen_ok,Option.map_none,hb,run_sizeOf hs,Sem.run_pure,cutP,hq,Option.map_some]
    split
    ·congr 2;omega
    ·congr 2;omega
   ·exact h.elim
  ·exact h.elim
theorem lenOf_sound {t ty:TypeId} {x:SV} (h:lenOf P t x K):Gives P n β S (Builtin.len_ #[t] ty #[real β x]) K:=by
 unfold lenOf at h
 split at h
 ·rename_i s hu
  exact⟨.int .i64 s.length,trivial,h,fun w _=>by simp[Builtin.len_,run_underlying hu,real,goInt,str_size]⟩
 ·rename_i e p m c hu
  exact⟨.int .i64 m,trivial,h,fun w _=>by simp[Builtin.len_,run_underlying hu,real,goInt]⟩
 ·rename_i e k o m c hu
  exact⟨.int .i64 m,trivial,h,fun w _=>by simp[Builtin.len_,run_underlying hu,real,goInt]⟩
 ·rename_i m e hu
  exact⟨.int .i64 m,trivial,h,fun w _=>by simp[Builtin.len_,run_underlying hu,goInt,real]⟩
 ·exact h.elim
theorem min_run:∀{vs:List SV} {a:Int},minmax true a vs K→∃b,K (.int .i64 b)∧∀w,((reals β vs).foldlM Builtin.min2 (.int .i64 a)).run P w= .ok (.int .i64 b) w
 |[],a,h=>⟨a,h,fun w=>rfl⟩
 |v::vs,a,h=>by
  cases v with
  |int k m=>
   cases k<;>first|exact h.elim|skip
   obtain⟨b,hb,hr⟩:=min_run (show minmax true (min a m) vs K from h)
   refine⟨b,hb,fun w=>?_⟩
   have:(if m<a then m else a)=min a m:=by omega
   simp only[reals,real,List.foldlM_cons,Sem.run_bind,Builtin.min2,Sem.run_pure,Result.andThen_ok,this]
   exact hr w
  |_=>exact h.elim
theorem max_run:∀{vs:List SV} {a:Int},minmax false a vs K→∃b,K (.int .i64 b)∧∀w,((reals β vs).foldlM Builtin.max2 (.int .i64 a)).run P w= .ok (.int .i64 b) w
 |[],a,h=>⟨a,h,fun w=>rfl⟩
 |v::vs,a,h=>by
  cases v with
  |int k m=>
   cases k<;>first|exact h.elim|skip
   obtain⟨b,hb,hr⟩:=max_run (show minmax false (max a m) vs K from h)
   refine⟨b,hb,fun w=>?_⟩
   have:(if m>a then m else a)=max a m:=by omega
   simp only[reals,real,List.foldlM_cons,Sem.run_bind,Builtin.max2,Sem.run_pure,Result.andThen_ok,this]
   exact hr w
  |_=>exact h.elim
theorem calmBuiltin_sound {b:Builtin} {ats:Array TypeId} {ty:TypeId} {consts:Array Bool} {args:List SV} (h:calmBuiltin P b ats.toList args K):
  ∃v,okv n v∧K v∧∀w,(Go.builtin b ats ty consts (reals β args).toArray).run P w= .ok (.value (real β v)) w:=by
 obtain⟨ats⟩:=ats
 simp only at h
 unfold calmBuiltin at h
 split at h
 ·rename_i t x
  obtain⟨v,h1,h2,h3⟩:=lenOf_sound (n:=n) (β:=β) (S:=fun _=>True) (ty:=ty) h
  exact⟨v,h1,h2,fun w=>by simp[Go.builtin,reals,h3 w trivial]⟩
 ·rename_i t x
  split at h
  ·rename_i e p m c hu
   exact⟨.int .i64 c,trivial,h,fun w=>by simp[Go.builtin,Builtin.cap_,reals,run_underlying hu,real,goInt]⟩
  ·exact h.elim
 ·rename_i a vs
  obtain⟨b,h1,h2⟩:=min_run (P:=P) (β:=β) h
  exact⟨.int .i64 b,trivial,h1,fun w=>by simp[Go.builtin,Builtin.min_,reals,real,h2]⟩
 ·rename_i a vs
  obtain⟨b,h1,h2⟩:=max_run (P:=P) (β:=β) h
  exact⟨.int .i64 b,trivial,h1,fun w=>by simp[Go.builtin,Builtin.max_,reals,real,h2]⟩
 ·exact h.elim
theorem foldl_get (off:Nat):∀(vs:List Value) (cells:Array Value) (j:Nat),off+j+vs.length≤cells.size→∀k,
  ((vs.zipIdx j).foldl (fun cs (x:Value×Nat)=>cs.setIfInBounds (off+x.2) x.1) cells)[k]? =if off+j≤k∧k<off+j+vs.length then vs[k-(off+j)]? else cells[k]?
 |[],cells,j,_,k=>by rw[if_neg (by simp)];rfl
 |v::vs,cells,j,hle,k=>by
  simp only[List.length_cons] at hle
  rw[List.zipIdx_cons,List.foldl_cons,foldl_get off vs _ (j+1) (by simp<;>omega)]
  by_cases h1:off+(j+1)≤k∧k<off+(j+1)+vs.length
  ·rw[if_pos h1,if_pos (by simp<;>omega)]
   have:k-(off+j)=(k-(off+(j+1)))+1:=by omega
   rw[this,List.getElem?_cons_succ]
  ·rw[if_neg h1]
   by_cases h2:k=off+j
   ·subst h2
    rw[if_pos (by simp)]
    simp[show off+j<cells.size by omega]
   ·rw[if_neg (by simp<;>omega),Array.getElem?_setIfInBounds_ne (by simp<;>omega)]
theorem foldl_set (off:Nat) (vs:List Value) (cells:Array Value) (hle:off+vs.length≤cells.size):
  ((vs.zipIdx 0).foldl (fun cs (x:Value×Nat)=>cs.setIfInBounds (off+x.2) x.1) cells).toList=cells.toList.take off++(vs++cells.toList.drop (off+vs.length)):=by
 apply List.ext_getElem?
 intro k
 rw[Array.getElem?_toList,foldl_get off vs cells 0 (by omega)]
 have htl:(cells.toList.take off).length=off:=by simp<;>omega
 by_cases h1:k<off
 ·rw[if_neg (by omega),List.getElem?_append_left (by omega),List.getElem?_take,if_pos h1,Array.getElem?_toList]
 ·rw[List.getElem?_append_right (by omega),htl]
  by_cases h2:k-off<vs.length
  ·rw[if_pos (by omega),List.getElem?_append_left h2];rfl
  ·rw[if_neg (by omega),List.getElem?_append_right (by omega),List.getElem?_drop,Array.getElem?_toList]
   congr 1;omega
theorem foldl_zipIdx_array (cells:Array Value) (vs:Array Value) (off:Nat):
  vs.zipIdx.foldl (fun cs (c,j)=>cs.setIfInBounds (off+j) c) cells=(vs.toList.zipIdx.foldl (fun cs (x:Value×Nat)=>cs.setIfInBounds (off+x.2) x.1) cells):=by
 rw[←Array.foldl_toList,Array.toList_zipIdx]
theorem fill_sound {place:Nat→Option (Nat×Nat)}:∀{ps:List (Nat×SV)} {cells out:List SV},fill place cells ps=some out→
  okvs n cells→cells.all SV.scalar=true→(∀p∈ps,okv n p.2)→
  Instr.fill place (reals β cells).toArray (ps.map fun p=>(p.1,real β p.2))=some (reals β out).toArray∧okvs n out∧out.all SV.scalar=true∧out.length=cells.length
 |[],cells,out,h,h1,h2,_=>by cases h;exact⟨rfl,h1,h2,rfl⟩
 |(i,v)::ps,cells,out,h,h1,h2,h3=>by
  simp only[fill] at h
  split at h
  ·cases h
  ·rename_i off size hp
   split at h
   ·rename_i hc
    simp only[Bool.and_eq_true,Nat.beq_eq,Nat.ble_eq] at hc
    obtain⟨⟨hc1,hc2⟩,o2⟩:=hc
    have o1:=h3 (i,v) (by simp)
    obtain⟨f1,f2,_⟩:=flat_sound (β:=β) o1
    have hok:okvs n (cells.take off++(v.flat++cells.drop (off+size))):=by
     rw[okvs_iff] at*
     intro u hu
     simp only[List.mem_append] at hu
     rcases hu with hu|hu|hu
     ·exact h1 u (List.mem_of_mem_take hu)
     ·exact f2 u hu
     ·exact h1 u (List.mem_of_mem_drop hu)
    have hsc:(cells.take off++(v.flat++cells.drop (off+size))).all SV.scalar=true:=by
     rw[List.all_eq_true] at*
     intro u hu
     simp only[List.mem_append] at hu
     rcases hu with hu|hu|hu
     ·exact h2 u (List.mem_of_mem_take hu)
     ·exact o2 u hu
     ·exact h2 u (List.mem_of_mem_drop hu)
    obtain⟨r1,r2,r3,r4⟩:=fill_sound h hok hsc (fun p hp=>h3 p (by simp[hp]))
    refine⟨?_,r2,r3,by rw[r4];simp<;>omega⟩
    rw[←r1]
    simp only[List.map_cons,Instr.fill,hp,f1]
    have e1:(reals β v.flat).toArray.size=size:=by simp[reals_length,hc1]
    rw[if_neg (by rw[e1];simp[reals_length];omega)]
    congr 1
    apply Array.ext'
    rw[foldl_zipIdx_array,foldl_set off _ _ (by simp[reals_length];omega)]
    simp[reals_eq,hc1]
   ·cases h
theorem parts_sound {T:Env} {a:Act} (hT:EnvOk n β T a.tmps):∀{xs:List (Nat×Operand)} {ps:List (Nat×SV)},parts? P T xs=some ps→
  (∀p∈ps,okv n p.2)∧xs.map (fun x=>(x.1,a.eval x.2))=ps.map fun p=>(p.1,real β p.2)
 |[],ps,h=>by cases h;exact⟨by simp,rfl⟩
 |(i,x)::xs,ps,h=>by
  simp only[parts?,Option.bind_eq_some_iff,Option.map_eq_some_iff] at h
  obtain⟨v,hv,us,hu,rfl⟩:=h
  obtain⟨h1,h2⟩:=eval_sound hT hv
  obtain⟨k1,k2⟩:=parts_sound hT hu
  refine⟨fun p hp=>?_,by simp only[List.map_cons,h2,k2]⟩
  rcases List.mem_cons.1 hp with rfl|hp
  ·exact h1
  ·exact k1 p hp
theorem places_sound:∀{fs:List Field} {pl:List (Nat×Nat)},places? P fs=some pl→fs.mapM (fun f=>(P.info? f.type).map fun i=>(f.offset,i.size))=some pl
 |[],pl,h=>by cases h;rfl
 |f::fs,pl,h=>by
  simp only[places?,Option.bind_eq_some_iff,Option.map_eq_some_iff] at h
  obtain⟨s,hs,qs,hq,rfl⟩:=h
  unfold size? at hs
  cases hi:P.info? f.type with
  |none=>rw[hi] at hs;cases hs
  |some i=>
   rw[hi] at hs
   cases hs
   simp[List.mapM_cons,hi,places_sound hq]
end Go.Sy
namespace Go.Sy
variable [Codecs]
variable {P:Program} {n:Nat} {β:List Nat} {S:World→Prop} {K:SV→Prop}
theorem build_sound {t:TypeId} {ps:List (Nat×SV)} {v:SV} (hb:build P t ps=some v) (hps:∀p∈ps,okv n p.2) (parts:Array (Nat×Value))
  (hparts:parts.toList=ps.map fun p=>(p.1,real β p.2)) (w:World):(Instr.build t parts).run P w= .ok (real β v) w∧okv n v:=by
 unfold build at hb
 simp only[Option.bind_eq_some_iff] at hb
 obtain⟨z,hz,hb⟩:=hb
 obtain⟨zv,_,hzc,hzt,it,hit,hiz⟩:=run_zero hz w
 obtain⟨o1,o2⟩:=hzc n β
 obtain⟨f1,f2,f3⟩:=flat_sound (β:=β) o1
 rw[o2] at f1
 split at hb
 ·rename_i fields hu
  simp only[Option.bind_eq_some_iff,Option.map_eq_some_iff] at hb
  obtain⟨pl,hpl,out,hfill,rfl⟩:=hb
  obtain⟨r1,r2,r3,_⟩:=fill_sound (β:=β) hfill f2 hzt hps
  refine⟨run_build w t parts _ ?_,r2,r3⟩
  simp only[Program.built,hit,hu,hiz,places_sound hpl,f1,hparts]
  rw[←r1]
  congr 1
  funext i
  simp
 ·rename_i e hu
  simp only[Option.bind_eq_some_iff,Option.map_eq_some_iff] at hb
  obtain⟨s,hs,out,hfill,rfl⟩:=hb
  obtain⟨r1,r2,r3,_⟩:=fill_sound (β:=β) hfill f2 hzt hps
  unfold size? at hs
  cases hi:P.info? e with
  |none=>rw[hi] at hs;cases hs
  |some i=>
   rw[hi] at hs
   cases hs
   exact⟨run_build w t parts _ (by simp only[Program.built,hit,hu,hiz,hi,f1,hparts];exact r1),r2,r3⟩
 ·cases hb
theorem repeated_length (z:List SV):∀n,(repeated z n).length=n*z.length
 |0=>by simp[repeated]
 |n+1=>by simp[repeated,repeated_length z n,Nat.succ_mul,Nat.add_comm]
theorem repeated_get (z:List SV) (hz:0<z.length):∀n i,i<n*z.length→(repeated z n)[i]? =z[i%z.length]?
 |0,i,h=>by simp at h
 |n+1,i,h=>by
  simp only[repeated]
  by_cases hi:i<z.length
  ·rw[List.getElem?_append_left hi,Nat.mod_eq_of_lt hi]
  ·rw[List.getElem?_append_right (by omega),repeated_get z hz n _ (by rw[Nat.succ_mul] at h;omega),Nat.mod_eq_sub_mod (a:=i) (b:=z.length) (by omega)]
theorem repeated_mem {z:List SV} {n:Nat} {v:SV} (h:v∈repeated z n):v∈z:=by
 induction n with
 |zero=>simp[repeated] at h
 |succ n ih=>
  simp only[repeated,List.mem_append] at h
  exact h.elim id ih
theorem zeros_eq (zs:List SV) (hz:0<zs.length) (n:Nat) (m:Nat) (hm:m=n*zs.length):
  (Array.range m).map (fun i=>(reals β zs).toArray[i%(reals β zs).toArray.size]!)=(reals β (repeated zs n)).toArray:=by
 subst hm
 apply Array.ext'
 apply List.ext_getElem?
 intro i
 simp only[Array.toList_map,Array.toList_range,List.getElem?_map,List.size_toArray,reals_eq,List.length_map]
 by_cases hi:i<n*zs.length
 ·rw[List.getElem?_range hi,repeated_get zs hz n i hi]
  have hlt:i%zs.length<zs.length:=Nat.mod_lt _ hz
  simp[List.getElem?_eq_getElem hlt,List.getElem!_eq_getElem?_getD]
 ·rw[List.getElem?_eq_none (by simp<;>omega),List.getElem?_eq_none (by rw[repeated_length];omega)];rfl
set_option maxRecDepth 100000 in
theorem buildRow_sound {t e:TypeId} {len:Nat} {ps:List (Nat×SV)} {cs:List SV} (hb:buildRow P t len ps=some (e,cs)) (hps:∀p∈ps,okv n p.2) (parts:Array (Nat×Value))
  (hparts:parts.toList=ps.map fun p=>(p.1,real β p.2)) (w:World):
  (Instr.buildSlice t len parts).run P w= .ok (.slice (some ⟨w.heap.size,0,none⟩) len len) (w.alloc (.cells (reals β cs).toArray e))∧okvs n cs∧cs.all SV.scalar=true:=by
 unfold buildRow at hb
 split at hb
 ·rename_i e' hu
  simp only[Option.bind_eq_some_iff] at hb
  obtain⟨s,hs,z,hz,hb⟩:=hb
  split at hb
  ·rename_i hc
   simp only[Bool.and_eq_true,Nat.blt_eq,Nat.beq_eq] at hc
   obtain⟨⟨⟨c1,c2⟩,c3⟩,c4⟩:=hc
   simp only[Option.map_eq_some_iff] at hb
   obtain⟨vs,hfill,hb⟩:=hb
   cases hb
   obtain⟨zv,hzr,hzc,hzt,_⟩:=run_zero hz w
   obtain⟨o1,o2⟩:=hzc n β
   obtain⟨f1,f2,f3⟩:=flat_sound (β:=β) o1
   rw[o2] at f1
   have hrok:okvs n (repeated z.flat len):=okvs_iff.2 fun v hv=>okvs_iff.1 f2 v (repeated_mem hv)
   have hrsc:(repeated z.flat len).all SV.scalar=true:=List.all_eq_true.2 fun v hv=>List.all_eq_true.1 hzt v (repeated_mem hv)
   obtain⟨r1,r2,r3,r4⟩:=fill_sound (β:=β) hfill hrok hrsc hps
   refine⟨?_,r2,r3⟩
   have hz2:=zeros_eq (β:=β) z.flat (by omega) len (len*s) (by rw[c4])
   have h0:¬len*s=0:=by
    have:=Nat.mul_pos c2 c1
    omega
   have hcells:((if len*s=0 then pure #[] else do let __do_lift←zeroValue e;pure __do_lift.cells:Sem (Array Value)).run P w)= .ok (reals β z.flat).toArray w:=by
    rw[if_neg h0]
    simp[hzr,f1]
   simp only[Instr.buildSlice,Sem.run_bind,run_underlying hu,Result.andThen_ok,run_sizeOf hs,Sem.run_ite]
   rw[if_neg (by omega),if_neg h0]
   rw[hzr,Result.andThen_ok,Sem.run_pure,Result.andThen_ok,f1,hz2,hparts,r1]
   rfl
  ·cases hb
 ·cases hb
theorem readLoc_sound {L:List Loc} {k off m:Nat} {cs:List SV} (h:readLoc L k off m=some cs):∃l,L[k]? =some l∧off+m≤l.cells.length∧cs=(l.cells.drop off).take m:=by
 unfold readLoc at h
 split at h
 ·rename_i l hl
  split at h
  ·rename_i hle
   cases h
   exact⟨l,hl,Nat.le_of_ble_eq_true hle,rfl⟩
  ·cases h
 ·cases h
def loadVal (g:Bool) (vs:List Value):Value:=match g with
 |true=> .agg vs.toArray
 |false=>vs.getD 0 undef
theorem run_loadAt {t:TypeId} {m:Nat} {g:Bool} (hm:size? P t=some m) (hg:isAgg? P t=some g) {a:Addr} {o:Nat} {vs:List Value} (hl:vs.length=m) (h1:g=false→m=1) {w:World} (h:At w a o vs):
  (loadVar t (a.add o)).run P w= .ok (loadVal g vs) w:=by
 have hc:∀j v,vs[j]? =some v→w.cell? ((a.add o).add j)=some v:=fun j v hv=>by rw[add_add];exact h j v hv
 cases g with
 |true=>
  have hr:=run_loadCells_list (P:=P) w (a.add o) vs hc
  rw[hl] at hr
  simp only[loadVar,Sem.run_bind,run_isAgg hg,Result.andThen_ok,if_true,run_sizeOf hm,hr,Sem.run_pure,loadVal]
 |false=>
  have hl1:vs.length=1:=by rw[hl,h1 rfl]
  obtain⟨v,rfl⟩:=List.length_eq_one_iff.1 hl1
  have h0:=hc 0 v rfl
  rw[show(a.add o).add 0=a.add o from by rw[add_add,Nat.add_zero]] at h0
  simp[loadVar,run_isAgg hg,h0,loadVal]
theorem asLoad_sound {g:Bool} {cs:List SV} (h:asLoad g cs K) (hc:okvs n cs) (hs:cs.all SV.scalar=true):
  ∃v,okv n v∧K v∧v.flat=cs∧(g=false→cs.length=1)∧real β v=loadVal g (reals β cs):=by
 cases g with
 |true=>exact⟨.agg cs,⟨hc,hs⟩,h,rfl,fun e=>(by cases e),rfl⟩
 |false=>
  cases cs with
  |nil=>exact h.elim
  |cons v rest=>
   cases rest with
   |cons _ _=>exact h.elim
   |nil=>
    refine⟨v,hc.1,h,?_,fun _=>rfl,rfl⟩
    have:v.scalar=true:=by simpa using hs
    cases v<;>first|rfl|cases this
def readsAt (L:List Loc) (x:SV) (v:SV) (w:World):Prop:=match x with
 | .loc k o=>At w ⟨(blks L).getD k 0,o,none⟩ 0 (reals (blks L) v.flat)
 | .adr a o=>At w a o (reals (blks L) v.flat)
 | .ptr (some a)=>At w a 0 (reals (blks L) v.flat)
 |_=>True
theorem notIn_sound {D:List Nat} {b:Nat} {Q:Prop} (h:notIn D b Q):b∉D∧Q:=by
 cases D with
 |nil=>exact⟨by simp,h⟩
 |cons d ds=>exact h
theorem load_sound {L:List Loc} {wb:World} {t:TypeId} {x:SV} {D:List Nat} (h:load P L D wb t x K) (hn:n=L.length) (hL:∀(k:Nat) (l:Loc),L[k]? =some l→okvs n l.cells∧l.cells.all SV.scalar=true):
  ∃v,okv n v∧K v∧(∀w,readsAt L x v w→(Instr.loadAt t (real (blks L) x)).run P w= .ok (real (blks L) v) w)∧
   (match x with
    | .loc k o=>∃l,L[k]? =some l∧o+v.flat.length≤l.cells.length∧v.flat=(l.cells.drop o).take v.flat.length
    | .adr a o=>a.block∉D∧At wb a o (reals (blks L) v.flat)
    | .ptr p=>∃a,p=some a∧a.block∉D∧At wb a 0 (reals (blks L) v.flat)
    |_=>False):=by
 unfold load at h
 split at h
 ·rename_i m g z hm hg hz
  cases hzb:Nat.beq z.flat.length m with
  |false=>rw[hzb] at h;exact h.elim
  |true=>
  rw[hzb] at h
  simp only[] at h
  have hzl:z.flat.length=m:=Nat.eq_of_beq_eq_true hzb
  have main:∀(a:Addr) (o:Nat) (cs:List SV),okvs n cs→cs.all SV.scalar=true→cs.length=m→asLoad g cs K→
    ∃v,okv n v∧K v∧v.flat=cs∧∀w,At w a o (reals (blks L) cs)→(loadVar t (a.add o)).run P w= .ok (real (blks L) v) w:=by
   intro a o cs h1 h2 h3 h4
   obtain⟨v,k1,k2,k3,k4,k5⟩:=asLoad_sound (β:=blks L) h4 h1 h2
   refine⟨v,k1,k2,k3,fun w hw=>?_⟩
   rw[k5]
   exact run_loadAt hm hg (by rw[reals_length,h3]) (fun e=>by rw[←h3];exact k4 e) hw
  cases x with
  |loc k o=>
   simp only[] at h
   split at h
   ·rename_i cs hcs
    obtain⟨l,hl,hle,rfl⟩:=readLoc_sound hcs
    obtain⟨o1,o2⟩:=hL k l hl
    have hlen:((l.cells.drop o).take m).length=m:=by simp<;>omega
    obtain⟨v,k1,k2,k3,k4⟩:=main ⟨(blks L).getD k 0,o,none⟩ 0 _ (okvs_iff.2 fun u hu=>okvs_iff.1 o1 u (List.mem_of_mem_drop (List.mem_of_mem_take hu))) (List.all_eq_true.2 fun u hu=>List.all_eq_true.1 o2 u (List.mem_of_mem_drop (List.mem_of_mem_take hu))) hlen h
    refine⟨v,k1,k2,fun w hw=>?_,l,hl,by rw[k3,hlen];exact hle,by rw[k3,hlen]⟩
    have:=k4 w (by rw[←k3];exact hw)
    simpa[Instr.loadAt,Instr.sureAddr,real,Addr.add] using this
   ·exact h.elim
  |adr a o=>
   simp only[] at h
   split at h
   ·rename_i s hs
    obtain⟨hd,h⟩:=notIn_sound h
    obtain⟨cs,h1,h2,h3,h4,h5⟩:=exC_elim h
    obtain⟨v,k1,k2,k3,k4⟩:=main a o cs (okvs_mono (Nat.zero_le _) _ h1) h2 (by rw[h3,shsOf_length hs,hzl]) h5
    refine⟨v,k1,k2,fun w hw=>?_,hd,by rw[k3];exact h4⟩
    rw[real,adrVal_eq]
    exact k4 w (by rw[←k3];exact hw)
   ·exact h.elim
  |ptr p=>
   simp only[] at h
   split at h
   ·rename_i s hs
    obtain⟨a,rfl,h'⟩:=h
    obtain⟨hd,h'⟩:=notIn_sound h'
    obtain⟨cs,h1,h2,h3,h4,h5⟩:=exC_elim h'
    obtain⟨v,k1,k2,k3,k4⟩:=main a 0 cs (okvs_mono (Nat.zero_le _) _ h1) h2 (by rw[h3,shsOf_length hs,hzl]) h5
    refine⟨v,k1,k2,fun w hw=>?_,a,rfl,hd,by rw[k3];exact h4⟩
    have:=k4 w (by rw[←k3];exact hw)
    simpa[Instr.loadAt,Instr.sureAddr,real,Addr.add] using this
   ·exact h.elim
  |_=>exact h.elim
 ·exact h.elim
end Go.Sy
namespace Go.Sy
open Go.RowKit (Below)
variable [Codecs]
variable {P:Program}
theorem blks_get:∀{L:List Loc} {k:Nat} {l:Loc},L[k]? =some l→(blks L).getD k 0=l.blk
 |[],k,l,h=>by simp at h
 |x::L,0,l,h=>by cases h;rfl
 |x::L,k+1,l,h=>by
  have:=blks_get (L:=L) (k:=k) (by simpa using h)
  simpa[blks] using this
theorem blks_append (L:List Loc) (l:Loc):blks (L++[l])=blks L++[l.blk]:=by
 induction L with
 |nil=>rfl
 |cons x L ih=>simp[blks,ih]
theorem blks_length (L:List Loc):(blks L).length=L.length:=by
 induction L with
 |nil=>rfl
 |cons x L ih=>simp[blks,ih]
theorem blks_mem {L:List Loc} {b:Nat} (h:b∈blks L):∃(k:Nat) (l:Loc),L[k]? =some l∧l.blk=b:=by
 induction L with
 |nil=>simp[blks] at h
 |cons x L ih=>
  simp only[blks,List.mem_cons] at h
  rcases h with rfl|h
  ·exact⟨0,x,rfl,rfl⟩
  ·obtain⟨k,l,h1,h2⟩:=ih h
   exact⟨k+1,l,by simpa using h1,h2⟩
theorem mem_blks {L:List Loc} {k:Nat} {l:Loc} (h:L[k]? =some l):l.blk∈blks L:=by
 induction L generalizing k with
 |nil=>simp at h
 |cons x L ih=>
  cases k with
  |zero=>cases h;simp[blks]
  |succ k=>exact List.mem_cons_of_mem _ (ih (by simpa using h))
theorem alike_of {L L':List Loc} (h:∀(k:Nat) (l:Loc),L[k]? =some l→∃l',L'[k]? =some l'∧l'.blk=l.blk):Alike L.length (blks L) (blks L'):=by
 intro k hk
 obtain⟨l',h1,h2⟩:=h k L[k] (List.getElem?_eq_getElem hk)
 rw[blks_get h1,blks_get (List.getElem?_eq_getElem hk),h2]
theorem Ext.refl (w:World) (ds:List Nat):Ext w ds w:=⟨rfl,rfl,rfl,Nat.le_refl _,fun _ _ _=>rfl⟩
theorem Ext.grow {w w':World} {ds:List Nat} (h:Ext w ds w'):Go.Sy.grow w ds w':=by
 cases ds with
 |nil=>exact⟨h.os,h.tape,h.output,h.size,fun k hk=>h.heap k hk (by simp)⟩
 |cons d ds=>exact h
def cellsO:Obj→Bool
 | .cells .. =>true
 | .map .. =>true
 |_=>false
def mark (D:Nat):Deferred:={target:= .collected D,args:=#[]}
structure Hd (w0:World) (Z:List (Nat×Obj)) (s:St) (ds:List Deferred) (w:World):Prop where
 defers:ds=s.M.map mark
 marks:∀D∈s.M,w0.heap.size≤D∧w.heap[D]? =some (.deferred (some []))
 recs:∀q∈Z,w0.heap.size≤q.1∧w.heap[q.1]? =some q.2∧cellsO q.2=false
 nums:s.Z=Z.map (·.1)
 nodup:s.M.Nodup
theorem Hd.no_cells {w0:World} {Z:List (Nat×Obj)} {s:St} {ds:List Deferred} {w:World} (h:Hd w0 Z s ds w) {k:Nat} (hk:k∈s.M++s.Z):w0.heap.size≤k∧∃o:Obj,w.heap[k]? =some o∧cellsO o=false:=by
 rcases List.mem_append.1 hk with q|q
 ·exact⟨(h.marks k q).1,_,(h.marks k q).2,rfl⟩
 ·rw[h.nums] at q
  obtain⟨z,hz,rfl⟩:=List.mem_map.1 q
  obtain⟨a,b,c⟩:=h.recs z hz
  exact⟨a,_,b,c⟩
theorem Hd.lt {w0:World} {Z:List (Nat×Obj)} {s:St} {ds:List Deferred} {w:World} (h:Hd w0 Z s ds w) {k:Nat} (hk:k∈s.M++s.Z):k<w.heap.size:=by
 obtain⟨_,o,ho,_⟩:=h.no_cells hk
 exact(Array.getElem?_eq_some_iff.1 ho).1
theorem Hd.ne {w0:World} {Z:List (Nat×Obj)} {s:St} {ds:List Deferred} {w:World} (h:Hd w0 Z s ds w) {k b:Nat} (hk:k∈s.M++s.Z) {cs:Array Value} {t:TypeId} {fr:Nat×Nat} (hb:w.heap[b]? =some (.cells cs t fr)):k≠b:=by
 rintro rfl
 obtain⟨_,o,ho,hc⟩:=h.no_cells hk
 rw[hb] at ho
 cases ho
 cases hc
theorem Hd.neM {w0:World} {Z:List (Nat×Obj)} {s:St} {ds:List Deferred} {w:World} (h:Hd w0 Z s ds w) {k b:Nat} (hk:k∈s.M++s.Z) {es:Array MapEntry} {c:Nat} (hb:w.heap[b]? =some (.map es c)):k≠b:=by
 rintro rfl
 obtain⟨_,o,ho,hc⟩:=h.no_cells hk
 rw[hb] at ho
 cases ho
 cases hc
theorem Hd.same {w0:World} {Z:List (Nat×Obj)} {s s':St} {ds:List Deferred} {w w':World} (h:Hd w0 Z s ds w) (hk:∀k∈s.M++s.Z,w'.heap[k]? =w.heap[k]?) (hM:s'.M=s.M) (hZ:s'.Z=s.Z):Hd w0 Z s' ds w':=
 ⟨by rw[hM];exact h.defers,fun D hD=>by rw[hM] at hD;exact⟨(h.marks D hD).1,by rw[hk D (List.mem_append_left _ hD)];exact(h.marks D hD).2⟩,fun q hq=>⟨(h.recs q hq).1,by
  rw[hk q.1 (List.mem_append_right _ (by rw[h.nums];exact List.mem_map.2 ⟨q,hq,rfl⟩))];exact(h.recs q hq).2.1,(h.recs q hq).2.2⟩,by rw[hZ];exact h.nums,by rw[hM];exact h.nodup⟩
structure Ok (w0:World) (F:Nat→Prop) (Z:List (Nat×Obj)) (N:Nat) (s:St) (a:Act) (w:World):Prop where
 env:EnvOk s.L.length (blks s.L) s.T a.tmps
 size:a.tmps.size=N
 hd:Hd w0 Z s a.defers w
 cells:∀(k:Nat) (l:Loc),s.L[k]? =some l→okvs s.L.length l.cells∧l.cells.all SV.scalar=true
 lies:∀(k:Nat) (l:Loc),s.L[k]? =some l→Whole w l.blk l.ty (reals (blks s.L) l.cells)∧w0.heap.size≤l.blk
 apart:∀(j k:Nat) (l m:Loc),s.L[j]? =some l→s.L[k]? =some m→l.blk=m.blk→j=k
 nb:s.nb≤s.L.length
 newer:∀(k:Nat) (l:Loc),s.nb≤k→s.L[k]? =some l→s.wb.heap.size≤l.blk
 grow:Ext s.wb s.D w
 frame:Keeps F w0 s.wb
 dirty:∀b∈s.D,b∈blks s.L
variable {w0:World} {F:Nat→Prop} {Z:List (Nat×Obj)} {N:Nat} {s:St} {a:Act} {w:World}
theorem Ok.withT (h:Ok w0 F Z N s a w) {T:Env} (hT:EnvOk s.L.length (blks s.L) T a.tmps):Ok w0 F Z N {s with T:=T} a w:=
 ⟨hT,h.size,h.hd.same (fun _ _=>rfl) rfl rfl,h.cells,h.lies,h.apart,h.nb,h.newer,h.grow,h.frame,h.dirty⟩
theorem Ok.put (h:Ok w0 F Z N s a w) {d:Option Tmp} (hd:∀t,d=some t→t<N) {v:SV} (hv:okv s.L.length v):Ok w0 F Z N (s.put d v) (a.put d (real (blks s.L) v)) w:=by
 cases d with
 |none=>exact h
 |some d=>exact⟨h.env.put (by rw[h.size];exact hd d rfl) hv,by simp[Act.put,h.size],h.hd.same (fun _ _=>rfl) rfl rfl,h.cells,h.lies,h.apart,h.nb,h.newer,h.grow,h.frame,h.dirty⟩
theorem Ok.drawn (h:Ok w0 F Z N s a w) {w':World} (e:w'.heap=w.heap) (eo:w'.os=w.os) (et:w'.tape=w.tape) (eu:w'.output=w.output):Ok w0 F Z N s a w':=by
 refine⟨h.env,h.size,h.hd.same (fun _ _=>by rw[e]) rfl rfl,h.cells,fun k l hl=>?_,h.apart,h.nb,h.newer,⟨eo.trans h.grow.os,et.trans h.grow.tape,eu.trans h.grow.output,by rw[e];exact h.grow.size,fun i h1 h2=>by rw[e];exact h.grow.heap i h1 h2⟩,h.frame,h.dirty⟩
 obtain⟨h1,h2⟩:=h.lies k l hl
 exact⟨by unfold Whole at*;rw[e];exact h1,h2⟩
def needs (P:Program) (s:St) (o:Op) (v:SV) (w:World):Prop:=match o with
 | .load _ x=>match eval P s.T x with
  |some y=>readsAt s.L y v w
  |none=>True
 |_=>True
def fact (P:Program) (s:St) (o:Op) (v:SV):Prop:=match o with
 | .load _ x=>match eval P s.T x with
  |some (.loc k o)=>∃l,s.L[k]? =some l∧o+v.flat.length≤l.cells.length∧v.flat=(l.cells.drop o).take v.flat.length
  |some (.adr a o)=>a.block∉s.D∧At s.wb a o (reals (blks s.L) v.flat)
  |some (.ptr p)=>∃a,p=some a∧a.block∉s.D∧At s.wb a 0 (reals (blks s.L) v.flat)
  |_=>False
 |_=>True
theorem on_sound {x:Option SV} {K:SV→Prop} (h:on x K):∃v,x=some v∧K v:=by
 cases x with
 |none=>exact h.elim
 |some v=>exact⟨v,rfl,h⟩
theorem calm_sound (hT:EnvOk s.L.length (blks s.L) s.T a.tmps) (hL:∀(k:Nat) (l:Loc),s.L[k]? =some l→okvs s.L.length l.cells∧l.cells.all SV.scalar=true) {o:Oper} {K:SV→Prop}
  (h:calm P s.L s.D s.wb s.T o.op K):∃v,okv s.L.length v∧K v∧fact P s o.op v∧∀w,needs P s o.op v w→(execOp a.eval o).run P w= .ok (.value (real (blks s.L) v)) w:=by
 have fin:∀{m:Sem Value} {K':SV→Prop} (e:execOp a.eval o=(do pure (.value (←m)))),(∀v,fact P s o.op v)→Gives P s.L.length (blks s.L) (fun _=>True) m K'→(∀v,K' v→K v)→
   ∃v,okv s.L.length v∧K v∧fact P s o.op v∧∀w,needs P s o.op v w→(execOp a.eval o).run P w= .ok (.value (real (blks s.L) v)) w:=by
  intro m K' e hf ⟨v,h1,h2,h3⟩ hk
  exact⟨v,h1,hk v h2,hf v,fun w _=>by rw[e,Sem.run_bind,h3 w trivial];rfl⟩
 obtain⟨dst,op,ty,pos,after,guard⟩:=o
 have one:∀{v:SV} {x:Operand},eval P s.T x=some v→okv s.L.length v∧a.eval x=real (blks s.L) v:=fun hx=>eval_sound hT hx
 cases op with
 |move x=>
  obtain⟨v,hv,h⟩:=on_sound h
  exact⟨v,(one hv).1,h,trivial,fun w _=>by rw[←(one hv).2];rfl⟩
 |assign x=>
  obtain⟨v,hv,h⟩:=on_sound h
  exact⟨v,(one hv).1,h,trivial,fun w _=>by rw[←(one hv).2];rfl⟩
 |pick c x y=>
  unfold calm at h
  simp only[] at h
  split at h
  ·rename_i hc
   obtain⟨v,hv,h⟩:=on_sound h
   exact⟨v,(one hv).1,h,trivial,fun w _=>by simp[execOp,(one hc).2,(one hv).2,real,asBool]⟩
  ·rename_i hc
   obtain⟨v,hv,h⟩:=on_sound h
   exact⟨v,(one hv).1,h,trivial,fun w _=>by simp[execOp,(one hc).2,(one hv).2,real,asBool]⟩
  ·exact h.elim
 |build t ps=>
  obtain⟨v,hv,h⟩:=on_sound h
  simp only[Option.bind_eq_some_iff] at hv
  obtain⟨qs,hq,hb⟩:=hv
  obtain⟨p1,p2⟩:=parts_sound hT hq
  have key:=fun w=>build_sound (β:=blks s.L) hb p1 (ps.map fun(i,x)=>(i,a.eval x)) (by rw[Array.toList_map];exact p2) w
  exact⟨v,(key default).2,h,trivial,fun w _=>by simp only[execOp,Sem.run_bind,(key w).1];rfl⟩
 |nilCheck x=>
  unfold calm at h
  simp only[] at h
  split at h
  ·rename_i ad o' hx
   exact⟨.adr ad o',trivial,h,trivial,fun w _=>by simp[execOp,(one hx).2,real,adrVal_eq]⟩
  ·rename_i k o' hx
   exact⟨.loc k o',(one hx).1,h,trivial,fun w _=>by simp[execOp,(one hx).2,real]⟩
  ·rename_i p hx
   obtain⟨ad,rfl,h⟩:=h
   exact⟨.adr ad 0,trivial,h,trivial,fun w _=>by simp[execOp,(one hx).2,real,adrVal]⟩
  ·rename_i p m c hx
   exact⟨.sl p m c,trivial,h,trivial,fun w _=>by simp[execOp,(one hx).2,real]⟩
  ·rename_i f x1 y1 hx
   exact⟨.fn f x1 y1,(one hx).1,h,trivial,fun w _=>by simp[execOp,(one hx).2,real]⟩
  ·exact h.elim
 |binOp bop t x y yt=>
  obtain⟨u,hu,h⟩:=on_sound h
  obtain⟨v,hv,h⟩:=on_sound h
  refine fin (m:=do eqGuard bop t x y (a.eval x) (a.eval y);Go.binOp bop t (a.eval x) (a.eval y)) rfl (fun _=>trivial) ?_ (fun _=>id)
  rw[(one hu).2,(one hv).2]
  exact bin_sound x y (fun e=>by unfold isConst at e;split at e;exact⟨_,rfl⟩;cases e) h (one hu).1 (one hv).1
 |unOp uop t x=>
  obtain⟨u,hu,h⟩:=on_sound h
  refine fin (m:=Op.unary uop (a.eval x)) rfl (fun _=>trivial) ?_ (fun _=>id)
  rw[(one hu).2]
  exact un_sound h
 |convert src dst' x=>
  obtain⟨u,hu,h⟩:=on_sound h
  refine fin (m:=Go.convert src dst' (a.eval x)) rfl (fun _=>trivial) ?_ (fun _=>id)
  rw[(one hu).2]
  exact convert_sound h
 |slice t x lo hi mx=>
  obtain⟨u,hu,h⟩:=on_sound h
  refine fin (m:=Instr.sliceAt t (a.eval x) (lo.map a.eval) (hi.map a.eval) (mx.map a.eval)) rfl (fun _=>trivial) ?_ (fun _=>id)
  rw[(one hu).2]
  exact slice_sound hT h
 |fieldAddr t x i=>
  obtain⟨u,hu,h⟩:=on_sound h
  refine fin (m:=Instr.fieldAt t (a.eval x) i) rfl (fun _=>trivial) ?_ (fun _=>id)
  rw[(one hu).2]
  exact fieldAt_sound h (one hu).1
 |field t x i=>
  obtain⟨u,hu,h⟩:=on_sound h
  refine fin (m:=Instr.field t (a.eval x) i) rfl (fun _=>trivial) ?_ (fun _=>id)
  rw[(one hu).2]
  exact field_sound h (one hu).1
 |indexAddr t x i=>
  obtain⟨u,hu,h⟩:=on_sound h
  split at h
  ·rename_i k m hi
   refine fin (m:=Instr.indexAt t (a.eval x) (a.eval i)) rfl (fun _=>trivial) ?_ (fun _=>id)
   rw[(one hu).2,(one hi).2]
   exact indexAt_sound h (one hu).1
  ·exact h.elim
 |index t x i=>
  obtain⟨u,hu,h⟩:=on_sound h
  split at h
  ·rename_i k m hi
   refine fin (m:=Instr.index t (a.eval x) (a.eval i)) rfl (fun _=>trivial) ?_ (fun _=>id)
   rw[(one hu).2,(one hi).2]
   exact index_sound h (one hu).1
  ·exact h.elim
 |extract x i=>
  obtain⟨u,hu,h⟩:=on_sound h
  refine fin (m:=Instr.extract (a.eval x) i) rfl (fun _=>trivial) ?_ (fun _=>id)
  rw[(one hu).2]
  exact extract_sound h (one hu).1
 |makeFunc fn first cap=>
  cases fn with
  |func f=>
   unfold calm at h
   simp only[] at h
   split at h
   ·rename_i xs ys hx hy
    obtain⟨x1,x2⟩:=evals_sound hT hx
    obtain⟨y1,y2⟩:=evals_sound hT hy
    have ex:first.map a.eval=(reals (blks s.L) xs).toArray:=by apply Array.ext';simpa using x2
    have ey:cap.map a.eval=(reals (blks s.L) ys).toArray:=by apply Array.ext';simpa using y2
    exact⟨.fn f xs ys,⟨x1,y1⟩,h,trivial,fun w _=>by simp[execOp,Instr.makeFunc,ex,ey,real]⟩
   ·exact h.elim
  |_=>exact h.elim
 |load t x=>
  obtain⟨u,hu,h⟩:=on_sound h
  obtain⟨v,h1,h2,h3,h4⟩:=load_sound h rfl hL
  refine⟨v,h1,h2,?_,fun w hw=>?_⟩
  ·simp only[fact,hu]
   cases u<;>first|exact h4|exact h4.elim
  ·simp only[needs,hu] at hw
   simp only[execOp,(one hu).2,Sem.run_bind,h3 w hw]
   rfl
 |call c=>
  obtain⟨callee,args,ats⟩:=c
  cases callee with
  |builtin b=>
   unfold calm at h
   simp only[] at h
   split at h
   ·rename_i vs hvs
    obtain⟨x1,x2⟩:=evals_sound hT hvs
    have ex:args.map a.eval=(reals (blks s.L) vs).toArray:=by apply Array.ext';simpa using x2
    obtain⟨v,h1,h2,h3⟩:=calmBuiltin_sound (n:=s.L.length) (β:=blks s.L) (ty:=ty) (consts:=args.map fun| .const _=>true|_=>false) h
    exact⟨v,h1,h2,trivial,fun w _=>by simp only[execOp,resolve,ex,Sem.run_bind,Sem.run_pure,Result.andThen_ok,invoke];exact h3 w⟩
   ·exact h.elim
  |_=>exact h.elim
 |_=>exact h.elim
theorem At.grown {wb w:World} {D:List Nat} (hg:Ext wb D w) {ad:Addr} {o:Nat} {vs:List Value} (hd:ad.block∉D) (h:At wb ad o vs):At w ad o vs:=by
 intro i v hv
 have h1:=h i v hv
 have hb:(ad.add (o+i)).block=ad.block:=by unfold Addr.add;split<;>rfl
 have hlt:=World.block_lt_of_cell? wb _ h1
 rw[←h1]
 exact World.cell?_of_block (hg.heap _ hlt (by rw[hb];exact hd))
theorem At.own {L:List Loc} {w:World} {k:Nat} {l:Loc} (hl:L[k]? =some l) (hw:Whole w l.blk l.ty (reals (blks L) l.cells)) {o m:Nat} {cs:List SV} (hc:cs=(l.cells.drop o).take m):
  At w ⟨(blks L).getD k 0,o,none⟩ 0 (reals (blks L) cs):=by
 intro i v hv
 subst hc
 rw[blks_get hl]
 have e:((⟨l.blk,o,none⟩:Addr).add (0+i))=⟨l.blk,o+i,none⟩:=by unfold Addr.add;split<;>simp_all
 rw[e]
 unfold Whole at hw
 simp only[World.cell?,hw]
 rw[reals_eq,List.getElem?_map,List.getElem?_take] at hv
 split at hv
 ·rw[List.getElem?_drop] at hv
  simpa[reals_eq] using hv
 ·cases hv
theorem Ok.needs (h:Ok w0 F Z N s a w) {o:Op} {v:SV} (hf:fact P s o v):needs P s o v w:=by
 cases o with
 |load t x=>
  simp only[fact] at hf
  simp only[Go.Sy.needs]
  split
  ·rename_i y hy
   rw[hy] at hf
   cases y with
   |loc k o=>
    obtain⟨l,hl,_,hc⟩:=hf
    exact At.own hl (h.lies k l hl).1 hc
   |adr ad o=>exact hf.2.grown h.grow hf.1
   |ptr p=>
    obtain⟨ad,rfl,hd,hat⟩:=hf
    exact hat.grown h.grow hd
   |_=>exact hf.elim
  ·trivial
 |_=>trivial
end Go.Sy
namespace Go.Abs
variable {P:Program} {B:Base} {σ:Real} {h:Heap} {w:World}
structure Spliced (w w':World) (blk:Nat) (k:Nat) (vs:List Value) (cs:Array Value) (ty:TypeId) (fr:Nat×Nat):Prop where
 os:w'.os=w.os
 tape:w'.tape=w.tape
 output:w'.output=w.output
 size:w'.heap.size=w.heap.size
 other:∀j,j≠blk→w'.heap[j]? =w.heap[j]?
 here:∃cs',w'.heap[blk]? =some (.cells cs' ty fr)∧cs'.size=cs.size∧∀j,cs'[j]? =if k≤j∧j<k+vs.length then vs[j-k]? else cs[j]?
theorem run_storeCells (blk off:Nat) (ty:TypeId) (fr:Nat×Nat):∀(vs:List Value) (i:Nat) (w:World) (cs:Array Value),w.heap[blk]? =some (.cells cs ty fr)→
  off+i+vs.length≤cs.size→(∀k,off+i≤k→k<off+i+vs.length→¬(fr.1≤k∧k<fr.2))→(∀v∈vs,v.oneCell'=true)→
  ∃w',(storeCells ⟨blk,off,none⟩ vs i).run P w= .ok () w'∧Spliced w w' blk (off+i) vs cs ty fr:=by
 intro vs
 induction vs with
 |nil=>
  intro i w cs hh _ _ _
  exact⟨w,rfl,rfl,rfl,rfl,rfl,fun _ _=>rfl,cs,hh,rfl,fun j=>by rw[if_neg (by simp)]⟩
 |cons v vs ih=>
  intro i w cs hh hlen hfr hone
  simp only[List.length_cons] at hlen hfr
  have hadd:(⟨blk,off,none⟩:Addr).add i=⟨blk,off+i,none⟩:=by unfold Addr.add;split<;>simp_all
  have hcell:w.cell? ⟨blk,off+i,none⟩=some cs[off+i]:=by simp[World.cell?,hh,show off+i<cs.size by omega]
  have hfro:w.frozen? ⟨blk,off+i,none⟩=false:=by
   have:=hfr (off+i) (by omega) (by omega)
   simp only[World.frozen?,hh]
   rw[Bool.and_eq_false_iff]
   by_cases h1:fr.1≤off+i
   ·right;simp<;>omega
   ·left;simp<;>omega
  have hst:(Go.store ((⟨blk,off,none⟩:Addr).add i) v).run P w= .ok () (w.setRow blk (cs.setIfInBounds (off+i) v)):=by
   rw[hadd,run_store P w _ v _ (hone v (by simp)),hcell]
   simp[hfro,setCell_eq_setRow w blk (off+i) cs ty fr v hh]
  have hh':=setRow_heap w blk cs (cs.setIfInBounds (off+i) v) ty fr hh
  obtain⟨w',hrun,hsp⟩:=ih (i+1) (w.setRow blk (cs.setIfInBounds (off+i) v)) (cs.setIfInBounds (off+i) v) hh' (by simp<;>omega)
   (fun k h1 h2=>hfr k (by omega) (by omega)) (fun x hx=>hone x (by simp[hx]))
  refine⟨w',by simp only[storeCells,Sem.run_bind,hst,Result.andThen_ok,hrun],hsp.os,hsp.tape,hsp.output,by rw[hsp.size];simp,fun j hj=>?_,?_⟩
  ·rw[hsp.other j hj,setRow_other w blk j _ hj]
  ·obtain⟨cs',h1,h2,h3⟩:=hsp.here
   refine⟨cs',h1,by rw[h2];simp,fun j=>?_⟩
   rw[h3 j]
   by_cases hj:off+(i+1)≤j∧j<off+(i+1)+vs.length
   ·rw[if_pos hj,if_pos (by simp<;>omega)]
    have:j-(off+i)=(j-(off+(i+1)))+1:=by omega
    rw[this,List.getElem?_cons_succ]
   ·rw[if_neg hj]
    by_cases hj2:j=off+i
    ·subst hj2
     rw[if_pos (by simp)]
     simp[show off+i<cs.size by omega]
    ·rw[if_neg (by simp<;>omega),Array.getElem?_setIfInBounds_ne (by omega)]
end Go.Abs
namespace Go.Sy
open Go.RowKit (Below)
variable [Codecs]
variable {P:Program} {w0:World} {F:Nat→Prop} {Z:List (Nat×Obj)} {N:Nat} {s:St} {a:Act} {w:World}
structure Moves (s s':St) (ch:List Nat):Prop where
 old:∀(k:Nat) (l:Loc),s.L[k]? =some l→∃l',s'.L[k]? =some l'∧l'.blk=l.blk∧l.ver≤l'.ver∧(l'.ver=l.ver→l'.cells=l.cells)∧(k∉ch→l'=l)∧l'.ty=l.ty∧l'.cells.length=l.cells.length
 more:∃l,s'.M=l++s.M
 recs:s'.Z=s.Z
theorem Moves.refl (s:St) (ch:List Nat):Moves s s ch:=⟨fun _ l hl=>⟨l,hl,rfl,Nat.le_refl _,fun _=>rfl,fun _=>rfl,rfl,rfl⟩,⟨[],rfl⟩,rfl⟩
theorem alloc_heap (w:World) (o:Obj) (k:Nat) (h:k<w.heap.size):(w.alloc o).heap[k]? =w.heap[k]? :=Below.heap_alloc w o k h
theorem alloc_here (w:World) (o:Obj):(w.alloc o).heap[w.heap.size]? =some o:=by
 show(w.heap.push o)[w.heap.size]? =_
 simp
theorem alloc_size (w:World) (o:Obj):(w.alloc o).heap.size=w.heap.size+1:=by
 show(w.heap.push o).size=_
 simp
theorem Whole.lt {w:World} {b:Nat} {t:TypeId} {cs:List Value} (h:Whole w b t cs):b<w.heap.size:=(Array.getElem?_eq_some_iff.1 h).1
theorem Ok.alloc (H:Ok w0 F Z N s a w) {t:TypeId} {cs:List SV} (hc:okvs s.L.length cs) (hs:cs.all SV.scalar=true):
  Ok w0 F Z N {s with L:=s.L++[⟨w.heap.size,t,cs,0⟩]} a (w.alloc (.cells (reals (blks s.L) cs).toArray t))∧
  (∀v,okv s.L.length v→real (blks (s.L++[⟨w.heap.size,t,cs,0⟩])) v=real (blks s.L) v)∧(blks (s.L++[⟨w.heap.size,t,cs,0⟩])).getD s.L.length 0=w.heap.size∧Moves s {s with L:=s.L++[⟨w.heap.size,t,cs,0⟩]} []:=by
 have hget:∀(k:Nat) (l:Loc),s.L[k]? =some l→(s.L++[⟨w.heap.size,t,cs,0⟩])[k]? =some l:=fun k l hl=>by
  rw[List.getElem?_append_left (List.getElem?_eq_some_iff.1 hl).1];exact hl
 have hcase:∀(k:Nat) (l:Loc),(s.L++[⟨w.heap.size,t,cs,0⟩])[k]? =some l→s.L[k]? =some l∨(k=s.L.length∧l=⟨w.heap.size,t,cs,0⟩):=fun k l hl=>by
  rcases Nat.lt_or_ge k s.L.length with h|h
  ·rw[List.getElem?_append_left h] at hl;exact .inl hl
  ·rw[List.getElem?_append_right h] at hl
   cases hk:k-s.L.length with
   |zero=>rw[hk] at hl;cases hl;exact .inr ⟨by omega,rfl⟩
   |succ m=>rw[hk] at hl;simp at hl
 have hal:Alike s.L.length (blks s.L) (blks (s.L++[⟨w.heap.size,t,cs,0⟩])):=alike_of fun k l hl=>⟨l,hget k l hl,rfl⟩
 have hlen:(s.L++[(⟨w.heap.size,t,cs,0⟩:Loc)]).length=s.L.length+1:=by simp
 have hnew:(s.L++[(⟨w.heap.size,t,cs,0⟩:Loc)])[s.L.length]? =some ⟨w.heap.size,t,cs,0⟩:=by rw[List.getElem?_append_right (Nat.le_refl _)];simp
 have hlo:w0.heap.size≤w.heap.size:=Nat.le_trans H.frame.size H.grow.size
 refine⟨⟨by rw[hlen];exact H.env.alike (Nat.le_succ _) hal,H.size,H.hd.same (fun k hk=>alloc_heap _ _ _ (H.hd.lt hk)) rfl rfl,fun k l hl=>?_,fun k l hl=>?_,fun j k l m hl hm e=>?_,by rw[hlen];exact Nat.le_succ_of_le H.nb,fun k l hk hl=>?_,?_,H.frame,fun b hb=>?_⟩,
  fun v hv=>real_alike hal v hv,blks_get hnew,⟨fun k l hl=>⟨l,hget k l hl,rfl,Nat.le_refl _,fun _=>rfl,fun _=>rfl,rfl,rfl⟩,⟨[],rfl⟩,rfl⟩⟩
 ·rw[hlen]
  rcases hcase k l hl with h|⟨_,rfl⟩
  ·exact⟨okvs_mono (Nat.le_succ _) _ (H.cells k l h).1,(H.cells k l h).2⟩
  ·exact⟨okvs_mono (Nat.le_succ _) _ hc,hs⟩
 ·rcases hcase k l hl with h|⟨_,rfl⟩
  ·obtain⟨h1,h2⟩:=H.lies k l h
   refine⟨?_,h2⟩
   show Whole _ _ _ (reals (blks (s.L++[⟨w.heap.size,t,cs,0⟩])) l.cells)
   rw[reals_alike hal _ (H.cells k l h).1]
   unfold Whole at*
   rw[alloc_heap _ _ _ (Whole.lt h1)]
   exact h1
  ·refine⟨?_,hlo⟩
   show Whole _ _ _ (reals (blks (s.L++[⟨w.heap.size,t,cs,0⟩])) cs)
   rw[reals_alike hal _ hc]
   exact alloc_here w _
 ·rcases hcase j l hl with h|⟨rfl,rfl⟩
  ·rcases hcase k m hm with h'|⟨rfl,rfl⟩
   ·exact H.apart j k l m h h' e
   ·have:=Whole.lt (H.lies j l h).1;simp only at e;omega
  ·rcases hcase k m hm with h'|⟨rfl,rfl⟩
   ·have:=Whole.lt (H.lies k m h').1;simp only at e;omega
   ·rfl
 ·rcases hcase k l hl with h|⟨_,rfl⟩
  ·exact H.newer k l hk h
  ·exact H.grow.size
 ·exact⟨H.grow.os,H.grow.tape,H.grow.output,by rw[alloc_size];exact Nat.le_succ_of_le H.grow.size,fun i h1 h2=>by
   rw[alloc_heap _ _ _ (Nat.lt_of_lt_of_le h1 H.grow.size)];exact H.grow.heap i h1 h2⟩
 ·show b∈blks (s.L++_)
  rw[blks_append]
  exact List.mem_append_left _ (H.dirty b hb)
theorem Ok.big (H:Ok w0 F Z N s a w) {w':World} {L':List Loc} (hlen:L'.length=s.L.length) (hos:w'.os=w.os) (htape:w'.tape=w.tape) (hout:w'.output=w.output) (hsize:w.heap.size≤w'.heap.size)
  (hold:∀i,i<w0.heap.size→¬F i→w'.heap[i]? =w.heap[i]?) (hH:∀k∈s.M++s.Z,w'.heap[k]? =w.heap[k]?) (hL:∀(k:Nat) (l:Loc),L'[k]? =some l→∃l0,s.L[k]? =some l0∧l.blk=l0.blk∧okvs s.L.length l.cells∧l.cells.all SV.scalar=true∧Whole w' l.blk l.ty (reals (blks s.L) l.cells)):
  Ok w0 F Z N (s.at L' w') a w'∧blks L'=blks s.L:=by
 have hb:blks L'=blks s.L:=by
  apply List.ext_getElem?
  intro k
  rcases Nat.lt_or_ge k L'.length with h|h
  ·obtain⟨l0,h1,h2,_⟩:=hL k L'[k] (List.getElem?_eq_getElem h)
   have e1:(blks L').getD k 0=L'[k].blk:=blks_get (List.getElem?_eq_getElem h)
   have e2:(blks s.L).getD k 0=l0.blk:=blks_get h1
   have l1:k<(blks L').length:=by rw[blks_length];exact h
   have l2:k<(blks s.L).length:=by rw[blks_length,←hlen];exact h
   rw[List.getD_eq_getElem?_getD,List.getElem?_eq_getElem l1] at e1
   rw[List.getD_eq_getElem?_getD,List.getElem?_eq_getElem l2] at e2
   simp only[Option.getD_some] at e1 e2
   rw[List.getElem?_eq_getElem l1,List.getElem?_eq_getElem l2,e1,e2,h2]
  ·rw[List.getElem?_eq_none (by rw[blks_length];exact h),List.getElem?_eq_none (by rw[blks_length,←hlen];exact h)]
 refine⟨⟨?_,H.size,H.hd.same hH rfl rfl,fun k l hl=>?_,fun k l hl=>?_,fun j k l m hl hm e=>?_,Nat.le_refl _,fun k l hk hl=>?_,Ext.refl _ _,?_,fun b hb=>(by cases hb)⟩,hb⟩
 ·show EnvOk L'.length (blks L') s.T a.tmps
  rw[hb,hlen];exact H.env
 ·obtain⟨_,_,_,h1,h2,_⟩:=hL k l hl
  exact⟨by show okvs L'.length _;rw[hlen];exact h1,h2⟩
 ·obtain⟨l0,h0,h1,_,_,h2⟩:=hL k l hl
  exact⟨by show Whole w' _ _ (reals (blks L') _);rw[hb];exact h2,by rw[h1];exact(H.lies k l0 h0).2⟩
 ·obtain⟨l0,h0,h1,_⟩:=hL j l hl
  obtain⟨m0,k0,k1,_⟩:=hL k m hm
  exact H.apart j k l0 m0 h0 k0 (by rw[←h1,←k1,e])
 ·have:k<L'.length:=(List.getElem?_eq_some_iff.1 hl).1
  have hk':L'.length≤k:=hk
  exact absurd this (by omega)
 ·refine⟨?_,?_,?_,?_,fun i h1 h2=>?_⟩
  ·show w'.os=w0.os;rw[hos,H.grow.os,H.frame.os]
  ·show w'.tape=w0.tape;rw[htape,H.grow.tape,H.frame.tape]
  ·show w'.output=w0.output;rw[hout,H.grow.output,H.frame.output]
  ·exact Nat.le_trans H.frame.size (Nat.le_trans H.grow.size hsize)
  ·show w'.heap[i]? =_
   rw[hold i h1 h2,H.grow.heap i (Nat.lt_of_lt_of_le h1 H.frame.size) ?_,H.frame.heap i h1 h2]
   intro hm
   obtain⟨k,l,hl,rfl⟩:=blks_mem (H.dirty i hm)
   exact absurd (H.lies k l hl).2 (by omega)
theorem Ok.big0 (H:Ok w0 F Z N s a w) {w':World} (hos:w'.os=w.os) (htape:w'.tape=w.tape) (hout:w'.output=w.output) (hsize:w.heap.size≤w'.heap.size)
  (hold:∀i,i<w0.heap.size→¬F i→w'.heap[i]? =w.heap[i]?) (hown:∀b∈blks s.L,w'.heap[b]? =w.heap[b]?) (hH:∀k∈s.M++s.Z,w'.heap[k]? =w.heap[k]?):Ok w0 F Z N (s.at s.L w') a w':=
 (H.big rfl hos htape hout hsize hold hH fun k l hl=>⟨l,hl,rfl,(H.cells k l hl).1,(H.cells k l hl).2,by
  have:=(H.lies k l hl).1
  unfold Whole at*
  rw[hown _ (mem_blks hl)];exact this⟩).1
theorem writeLoc_sound {L L':List Loc} {k off:Nat} {vs:List SV} (h:writeLoc L k off vs=some L'):∃l,L[k]? =some l∧off+vs.length≤l.cells.length∧
  L'=L.take k++{l with cells:=l.cells.take off++(vs++l.cells.drop (off+vs.length)),ver:=l.ver+1}::L.drop (k+1):=by
 unfold writeLoc at h
 split at h
 ·rename_i l hl
  split at h
  ·rename_i hle
   cases h
   exact⟨l,hl,Nat.le_of_ble_eq_true hle,rfl⟩
  ·cases h
 ·cases h
theorem splice_get {L:List Loc} {k:Nat} {l x:Loc} (hl:L[k]? =some l) (j:Nat):(L.take k++x::L.drop (k+1))[j]? =if j=k then some x else L[j]? :=by
 have hk:=(List.getElem?_eq_some_iff.1 hl).1
 have ht:(L.take k).length=k:=by simp<;>omega
 by_cases hj:j=k
 ·subst hj
  rw[if_pos rfl,List.getElem?_append_right (by omega),ht,Nat.sub_self];rfl
 ·rw[if_neg hj]
  rcases Nat.lt_or_ge j k with h|h
  ·rw[List.getElem?_append_left (by omega),List.getElem?_take,if_pos h]
  ·rw[List.getElem?_append_right (by omega),ht]
   obtain⟨m,rfl⟩:∃m,j=k+1+m:=⟨j-k-1,by omega⟩
   rw[show k+1+m-k=m+1 by omega,List.getElem?_cons_succ,List.getElem?_drop]
theorem run_storeAt {t:TypeId} {m:Nat} (hm:size? P t=some m) {ad:Addr} {o:Nat} {v:Value} {vs:List Value} (hv:v.cells=vs.toArray) (hl:vs.length=m) (h1:∀u∈vs,u.oneCell'=true)
  (hsp:ad.spot=none) {cs:Array Value} {ty:TypeId} (hh:w.heap[ad.block]? =some (.cells cs ty (0,0))) (hle:ad.off+o+m≤cs.size):
  ∃w',(Instr.storeAt t (adrVal ad o) v).run P w= .ok () w'∧Abs.Spliced w w' ad.block (ad.off+o) vs cs ty (0,0):=by
 obtain⟨w',hr,hs⟩:=Abs.run_storeCells (P:=P) ad.block (ad.off+o) ty (0,0) vs 0 w cs hh (by omega) (fun k _ _=>by simp) h1
 refine⟨w',?_,hs⟩
 have e:ad.add o=⟨ad.block,ad.off+o,none⟩:=by
  unfold Addr.add
  split
  ·rename_i h0;subst h0;cases ad;simp_all
  ·rfl
 rw[adrVal_eq,e]
 simp only[Instr.storeAt,Instr.sureAddr,Sem.run_bind,Sem.run_pure,Result.andThen_ok,storeVar,run_sizeOf hm,hv]
 rw[if_neg (by simp[hl])]
 exact hr
end Go.Sy
namespace Go.Sy
open Go.RowKit (Below)
variable [Codecs]
variable {P:Program} {w0:World} {F:Nat→Prop} {Z:List (Nat×Obj)} {N:Nat} {s:St} {a:Act} {w:World} {all:List Oper}
def Next (P:Program) (w0:World) (F:Nat→Prop) (Z:List (Nat×Obj)) (N:Nat) (all:List Oper) (s:St) (o:Oper) (a:Act) (K:SV→St→List Nat→Prop) (next:Act→World→Prop):Prop:=
 ∀v s' ch w',K v s' ch→Moves s s' ch→(isBig P all o s=true→s'.D=[])→(isBig P all o s=false→s'.wb=s.wb)→Ok w0 F Z N s' a w'→okv s'.L.length v→next (a.put o.dst (real (blks s'.L) v)) w'
theorem lies_elim {β:List Nat} {w:World}:∀{L:List Loc} {Q:Prop},lies w0 β w L Q→(∀l∈L,w0.heap.size≤l.blk∧Whole w l.blk l.ty (reals β l.cells))→Q
 |[],Q,h,_=>h
 |l::L,Q,h,hl=>lies_elim (h (hl l (by simp))) fun m hm=>hl m (by simp[hm])
theorem liesIf_elim (H:Ok w0 F Z N s a w) {c:Bool} {Q:Prop} (h:liesIf w0 c s.L w Q):Q:=by
 unfold liesIf at h
 cases c with
 |false=>exact h
 |true=>
  refine lies_elim h fun l hl=>?_
  obtain⟨k,hk⟩:=List.mem_iff_getElem?.1 hl
  exact⟨(H.lies k l hk).2,(H.lies k l hk).1⟩
theorem kinds_mem:∀{L:List Loc} {p:Nat×TypeId},p∈kinds L→∃(k:Nat) (l:Loc),L[k]? =some l∧p=(l.blk,l.ty)
 |[],_,h=>(by cases h)
 |l::L,p,h=>by
  rcases List.mem_cons.1 h with rfl|h
  ·exact⟨0,l,rfl,rfl⟩
  ·obtain⟨k,m,h1,h2⟩:=kinds_mem h
   exact⟨k+1,m,h1,h2⟩
theorem nodup_blks:∀{L:List Loc},(∀(j k:Nat) (l m:Loc),L[j]? =some l→L[k]? =some m→l.blk=m.blk→j=k)→(blks L).Nodup
 |[],_=>List.nodup_nil
 |l::L,h=>List.nodup_cons.2 ⟨fun hm=>by
   obtain⟨k,m,h1,h2⟩:=blks_mem hm
   have:=h 0 (k+1) l m rfl h1 h2.symm
   omega,nodup_blks fun j k a b h1 h2 e=>by have:=h (j+1) (k+1) a b h1 h2 e;omega⟩
theorem apartQ_elim (H:Ok w0 F Z N s a w) {Q:Prop} (h:apartQ s.L Q):Q:=by
 unfold apartQ at h
 have hn:=nodup_blks H.apart
 revert h hn
 generalize s.L=L
 intro h hn
 split at h
 ·exact h hn
 ·exact h
theorem callLies_elim (H:Ok w0 F Z N s a w) {c:Bool} {Q:Prop} (h:callLies w0 c s.L w Q):Q:=by
 unfold callLies at h
 cases c with
 |true=>exact apartQ_elim H (liesIf_elim H (c:=true) h)
 |false=>
  have key:Mine w w0.heap.size (kinds s.L):=fun p hp=>by
   obtain⟨k,l,h1,rfl⟩:=kinds_mem hp
   exact⟨(H.lies k l h1).2,_,(H.lies k l h1).1⟩
  revert h key
  generalize s.L=L
  intro h key
  cases L with
  |nil=>exact h
  |cons l ls=>exact h key
theorem offOwn_elim {bs:List Nat} {p:Option Addr} {Q:Prop} (h:offOwn bs p Q) (hp:∀a,p=some a→a.block∉bs):Q:=by
 cases bs with
 |nil=>exact h
 |cons b bs=>exact h hp
theorem notOwn_elim {bs:List Nat} {x:Nat} {Q:Prop} (h:notOwn bs x Q) (hx:x∉bs):Q:=by
 cases bs with
 |nil=>exact h
 |cons b bs=>exact h hx
theorem blk_old (H:Ok w0 F Z N s a w) {b:Nat} (hb:w.heap.size≤b):b∉blks s.L:=fun hm=>by
 obtain⟨k,l,hl,rfl⟩:=blks_mem hm
 exact absurd (Whole.lt (H.lies k l hl).1) (by omega)
theorem exRes_elim:∀{rs:List (TypeId×Bool×List Sh)} {K:List SV→Prop},exRes rs K→∃vs,okvs 0 vs∧K vs
 |[],K,h=>⟨[],trivial,h⟩
 |(t,g,sh)::rs,K,h=>by
  obtain⟨cs,h1,h2,_,h⟩:=exC_elim (show exC t sh _ from h)
  cases g with
  |true=>
   obtain⟨vs,k1,k2⟩:=exRes_elim h
   exact⟨.agg cs::vs,⟨⟨h1,h2⟩,k1⟩,k2⟩
  |false=>
   cases cs with
   |nil=>exact h.elim
   |cons c rest=>
    cases rest with
    |cons _ _=>exact h.elim
    |nil=>
     obtain⟨vs,k1,k2⟩:=exRes_elim h
     exact⟨c::vs,⟨h1.1,k1⟩,k2⟩
theorem resVal_ok {n:Nat} {vs:List SV} (h:okvs n vs):okv n (resVal vs):=by
 unfold resVal
 split
 ·exact h.1
 ·exact h
theorem again_elim {β:List Nat} {w:World}:∀{ks:List Nat} {L:List Loc} {K:List Loc→Prop},again β w ks L K→
  ∃L',K L'∧L'.length=L.length∧(∀(k:Nat) (l:Loc),L[k]? =some l→∃l',L'[k]? =some l'∧l'.blk=l.blk∧l'.ty=l.ty∧l.ver≤l'.ver∧(l'.ver=l.ver→l'=l)∧(k∉ks→l'=l)∧(k∈ks→Whole w l.blk l.ty (reals β l'.cells))∧
   (l'=l∨(okvs 0 l'.cells∧l'.cells.all SV.scalar=true))∧l'.cells.length=l.cells.length)
 |[],L,K,h=>⟨L,h,rfl,fun k l hl=>⟨l,hl,rfl,rfl,Nat.le_refl _,fun _=>rfl,fun _=>rfl,fun hk=>(by cases hk), .inl rfl,rfl⟩⟩
 |k0::ks,L,K,h=>by
  unfold again at h
  split at h
  ·rename_i l0 hl0
   split at h
   ·rename_i sh hsh
    obtain⟨cs,c1,c2,clen,hw,h⟩:=exC_elim h
    have hcl:cs.length=l0.cells.length:=by rw[clen,shsOf_length hsh]
    obtain⟨L',k1,k2,k3⟩:=again_elim h
    have hlen:(L.take k0++{l0 with cells:=cs,ver:=l0.ver+1}::L.drop (k0+1)).length=L.length:=by
     have:=(List.getElem?_eq_some_iff.1 hl0).1
     simp<;>omega
    refine⟨L',k1,by rw[k2,hlen],fun k l hl=>?_⟩
    by_cases hk:k=k0
    ·subst hk
     obtain rfl:l0=l:=by rw[hl0] at hl;exact Option.some.inj hl
     obtain⟨l',q1,q2,q3,q4,q5,q6,q7,q8,q9⟩:=k3 k {l0 with cells:=cs,ver:=l0.ver+1} (by rw[splice_get hl0];simp)
     simp only at q2 q3 q4 q5 q7 q9
     refine⟨l',q1,q2,q3,by omega,fun e=>by omega,fun e=>absurd (by simp) e,fun _=>?_,?_,by rw[q9,hcl]⟩
     ·by_cases hm:k∈ks
      ·exact q7 hm
      ·rw[q6 hm];exact hw
     ·rcases q8 with rfl|q8
      ·exact .inr ⟨c1,c2⟩
      ·exact .inr q8
    ·obtain⟨l',q1,q2,q3,q4,q5,q6,q7,q8,q9⟩:=k3 k l (by rw[splice_get hl0,if_neg hk];exact hl)
     exact⟨l',q1,q2,q3,q4,q5,fun hn=>q6 fun hm=>hn (List.mem_cons_of_mem _ hm),fun hm=>q7 ((List.mem_cons.1 hm).resolve_left hk),q8,q9⟩
   ·obtain⟨hw,h⟩:=h
    obtain⟨L',k1,k2,k3⟩:=again_elim h
    refine⟨L',k1,k2,fun k l hl=>?_⟩
    obtain⟨l',q1,q2,q3,q4,q5,q6,q7,q8,q9⟩:=k3 k l hl
    refine⟨l',q1,q2,q3,q4,q5,fun hn=>q6 fun hm=>hn (List.mem_cons_of_mem _ hm),fun hm=>?_,q8,q9⟩
    rcases List.mem_cons.1 hm with rfl|hm
    ·obtain rfl:l0=l:=by rw[hl0] at hl;exact Option.some.inj hl
     by_cases hm:k∈ks
     ·exact q7 hm
     ·rw[q6 hm];exact hw
    ·exact q7 hm
  ·exact h.elim
theorem keptBlks_mem {E:List Nat}:∀{L:List Loc} {b k:Nat} {l:Loc},L[k]? =some l→(b+k)∉E→l.blk∈keptBlks E b L
 |[],b,k,l,h,_=>by simp at h
 |x::L,b,0,l,h,hk=>by
  cases h
  have:E.elem b=false:=by simpa using hk
  unfold keptBlks
  rw[this]
  exact List.mem_cons_self ..
 |x::L,b,k+1,l,h,hk=>by
  have ih:=keptBlks_mem (E:=E) (L:=L) (b:=b+1) (k:=k) (l:=l) (by simpa using h) (by rw[show b+1+k=b+(k+1) by omega];exact hk)
  unfold keptBlks
  split
  ·exact ih
  ·exact List.mem_cons_of_mem _ ih
theorem callAt_sound (H:Ok w0 F Z N s a w) {o:Oper} {f:FuncId} {args:List SV} {K:SV→St→List Nat→Prop} {next:Act→World→Prop} {Q:Exit→Act→World→Prop} (hbig:isBig P all o s=true)
  (h:callAt P w0 F f args s K) (hK:Next P w0 F Z N all s o a K next):o.upon P a next Q ((callFunc f (reals (blks s.L) args).toArray).run P w):=by
 unfold callAt at h
 split at h
 ·rename_i fn hfn
  split at h
  ·rename_i c hb
   split at h
   ·rename_i hname
    split at h
    ·rename_i rs hrs
     have h1:fn.name≠ "runtime.NumGoroutine":=by simpa using hname
     have hcf:(callFunc f (reals (blks s.L) args).toArray).run P w= .ok (.enter f (reals (blks s.L) args).toArray) w:=by simp[callFunc,hfn,h1,hb]
     rw[hcf,Oper.upon_enter]
     refine(callLies_elim H (h w H.grow.grow)).out.mono ?_
     intro e w2 he
     obtain⟨vs,k1,rfl,hk,ha⟩:=exRes_elim he
     obtain⟨L',q1,q2,q3⟩:=again_elim ha
     have hcase:∀(k:Nat) (l:Loc),L'[k]? =some l→∃l0,s.L[k]? =some l0∧l.blk=l0.blk∧okvs s.L.length l.cells∧l.cells.all SV.scalar=true∧Whole w2 l.blk l.ty (reals (blks s.L) l.cells):=by
      intro k l hl
      have hlt:k<s.L.length:=by rw[←q2];exact(List.getElem?_eq_some_iff.1 hl).1
      obtain⟨l',r1,r2,r3,r4,r5,r6,r7,r8,_⟩:=q3 k s.L[k] (List.getElem?_eq_getElem hlt)
      obtain rfl:l=l':=by rw[hl] at r1;exact Option.some.inj r1
      have hh:=H.cells k s.L[k] (List.getElem?_eq_getElem hlt)
      refine⟨s.L[k],List.getElem?_eq_getElem hlt,r2,?_,?_,?_⟩
      ·rcases r8 with r8|r8
       ·rw[r8];exact hh.1
       ·exact okvs_mono (Nat.zero_le _) _ r8.1
      ·rcases r8 with r8|r8
       ·rw[r8];exact hh.2
       ·exact r8.2
      ·by_cases hm:k∈dedup (locsAll args)
       ·rw[r2,r3];exact r7 hm
       ·rw[r6 hm]
        have hw:=(H.lies k s.L[k] (List.getElem?_eq_getElem hlt)).1
        unfold Whole at*
        rw[hk.own _ (List.mem_append_left _<|keptBlks_mem (b:=0) (List.getElem?_eq_getElem hlt) (by simpa using hm)) (H.lies k s.L[k] (List.getElem?_eq_getElem hlt)).2 (Array.getElem?_eq_some_iff.1 hw).1]
        exact hw
     obtain⟨hok,hbl⟩:=H.big q2 hk.os hk.tape hk.output hk.size (fun i h1 h2=>hk.old i h1 (Nat.lt_of_lt_of_le h1 (Nat.le_trans H.frame.size H.grow.size)) h2) (fun k hm=>hk.own k (List.mem_append_right _ hm) (H.hd.no_cells hm).1 (H.hd.lt hm)) hcase
     have hv:okv (s.at L' w2).L.length (resVal vs):=okv_mono (Nat.zero_le _) _ (resVal_ok k1)
     have hr:real (blks (s.at L' w2).L) (resVal vs)=real (blks s.L) (resVal vs):=by show real (blks L') _=_;rw[hbl]
     have:=hK _ (s.at L' w2) _ w2 q1 ⟨fun k l hl=>?_,⟨[],rfl⟩,rfl⟩ (fun _=>rfl) (fun e=>by rw[hbig] at e;cases e) hok hv
     ·rwa[hr] at this
     ·obtain⟨l',r1,r2,r3,r4,r5,r6,_,_,r9⟩:=q3 k l hl
      exact⟨l',r1,r2,r4,fun e=>by rw[r5 e],r6,r3,r9⟩
    ·exact h.elim
   ·exact h.elim
  ·exact h.elim
 ·exact h.elim
theorem put_upon {o:Oper} {next:Act→World→Prop} {Q:Exit→Act→World→Prop} {v:Value} {w':World} {m:Sem Value} (hr:m.run P w= .ok v w') (h:next (a.put o.dst v) w'):
  o.upon P a next Q ((do pure (.value (←m)):Sem Go.Next).run P w):=by
 rw[Sem.run_bind,hr];exact h
end Go.Sy
namespace Go.Sy
open Go.RowKit (Below)
variable [Codecs]
variable {P:Program} {w0:World} {F:Nat→Prop} {Z:List (Nat×Obj)} {N:Nat} {s:St} {a:Act} {w:World} {all:List Oper}
theorem owned_at {L:List Loc} {w:World} {k off m:Nat} {cs:List SV} (hL:∀(k:Nat) (l:Loc),L[k]? =some l→Whole w l.blk l.ty (reals (blks L) l.cells)) (h:readLoc L k off m=some cs):At w ⟨(blks L).getD k 0,off,none⟩ 0 (reals (blks L) cs):=by
 obtain⟨l,hl,_,hc⟩:=readLoc_sound h
 exact At.own hl (hL k l hl) hc
theorem source_sound (H:Ok w0 F Z N s a w) {es k:Nat} {y:SV} {K:List Value→Prop} (h:source s.L s.D s.wb es k y K):
  ∃xs,K xs∧xs.length=k*es∧(∀u∈xs,u.oneCell'=true)∧∃p c,real (blks s.L) y= .slice p (countOf y) c∧(p=none→k=0)∧∀ad,p=some ad→∀j u,xs[j]? =some u→w.cell? (ad.add j)=some u:=by
 unfold source at h
 split at h
 ·rename_i j o m c
  split at h
  ·rename_i cs hcs
   obtain⟨l,hl,hle,hc⟩:=readLoc_sound hcs
   refine⟨_,h,?_,?_,some ⟨(blks s.L).getD j 0,o,none⟩,c,rfl,(fun e=>by cases e),fun ad e j u hu=>?_⟩
   ·rw[reals_length,hc];simp<;>omega
   ·obtain⟨o1,o2⟩:=H.cells j l hl
    subst hc
    exact mem_one (okvs_iff.2 fun u hu=>okvs_iff.1 o1 u (List.mem_of_mem_drop (List.mem_of_mem_take hu))) (List.all_eq_true.2 fun u hu=>List.all_eq_true.1 o2 u (List.mem_of_mem_drop (List.mem_of_mem_take hu)))
   ·cases e
    have:=owned_at (fun k l hl=>(H.lies k l hl).1) hcs j u hu
    rwa[Nat.zero_add] at this
  ·exact h.elim
 ·rename_i p m c
  obtain⟨xs,⟨h1,h2,h3,h4⟩,h⟩:=h
  refine⟨xs,h,h1,h2,p,c,rfl,h3,fun ad e j u hu=>?_⟩
  obtain⟨hd,hat⟩:=notIn_sound (h4 ad e)
  have:=hat.grown H.grow hd j u hu
  rwa[Nat.zero_add] at this
 ·exact h.elim
theorem run_append_zero {P:Program} {w:World} (t ty e:TypeId) (i:TypeInfo) (ht:P.underlying t=some (.slice e)) (hi:P.info? e=some i) (p q:Option Addr) (n c c':Nat) (hnc:n≤c):
  (Builtin.append_ #[t,t] ty #[.slice p n c, .slice q 0 c']).run P w= .ok (.slice p n c) w:=by
 have hl:∀ad:Addr,(loadCells ad 0).run P w= .ok #[] w:=fun ad=>by
  have:=run_loadCells_list (P:=P) w ad [] (fun j u hu=>by simp at hu)
  simpa using this
 cases p with
 |none=>cases q<;>simp[Builtin.append_,run_underlying ht,sizeOf,typeInfo,hi,Builtin.lenOf,Builtin.firstCells,hnc,hl]
 |some ad=>cases q<;>simp[Builtin.append_,run_underlying ht,sizeOf,typeInfo,hi,Builtin.lenOf,Builtin.firstCells,hnc,hl,storeCells]
theorem ownsRow_move {w w':World} {e:TypeId} {es:Nat} {p:Option Addr} {n c:Nat} {cs:List Value} (h:w.ownsRow 0 e es (.slice p n c) n cs) (hb:∀ad,p=some ad→ad.block<w.heap.size→w'.heap[ad.block]? =w.heap[ad.block]?):w'.ownsRow 0 e es (.slice p n c) n cs:=by
 refine⟨h.1,?_⟩
 rcases h.2 with h2|⟨g,cap,cur,e1,e2,e3,e4⟩
 ·exact .inl h2
 ·cases e1
  exact .inr ⟨g,c,cur,rfl,e2,by rw[hb _ rfl (Array.getElem?_eq_some_iff.1 e3).1];exact e3,e4⟩
set_option maxRecDepth 10000 in
theorem appendAt_sound (H:Ok w0 F Z N s a w) {o:Oper} {t:TypeId} {x y:SV} {K:SV→St→List Nat→Prop} {next:Act→World→Prop} {Q:Exit→Act→World→Prop} (hbig:isBig P all o s=true) (ty:TypeId)
  (h:appendAt P w0 F t x y s K) (hK:Next P w0 F Z N all s o a K next):o.upon P a next Q ((do pure (.value (←Builtin.append_ #[t,t] ty #[real (blks s.L) x,real (blks s.L) y])):Sem Go.Next).run P w):=by
 unfold appendAt at h
 split at h
 ·rename_i e p n c hu
  split at h
  ·rename_i es by_ z hes hby hz
   split at h
   ·rename_i hpos
    simp only[Bool.and_eq_true,Nat.blt_eq,Nat.beq_eq] at hpos
    obtain⟨hpos,hzl⟩:=hpos
    obtain⟨zv,_,hzc,hzt,i0,hi0,hiz⟩:=run_zero hz w
    obtain⟨zf,_,_⟩:=flat_sound (β:=blks s.L) (hzc s.L.length (blks s.L)).1
    rw[(hzc s.L.length (blks s.L)).2] at zf
    have hzs:zv.cells.size=es:=by rw[zf];simp[reals_length,hzl]
    obtain⟨cs,hroom,h⟩:=h
    obtain⟨xs,⟨hbound,h⟩,hl,hone,q,c',hy,hq0,hatq⟩:=source_sound H h
    generalize hm:countOf y=m at*
    obtain⟨i,hi,hisz⟩:=Option.map_eq_some_iff.1 (show(P.info? e).map (·.size)=some es from hes)
    obtain⟨i',hi',hiby⟩:=Option.map_eq_some_iff.1 (show(P.info? e).map (·.bytes)=some by_ from hby)
    obtain rfl:i=i':=by rw[hi] at hi';exact Option.some.inj hi'
    rw[hy]
    have fin:(∀ad',p=some ad'→ad'.block∉blks s.L∧(n<c→ad'.block<w0.heap.size→F ad'.block))→(n<c→∀ad':Addr,p=some ad'→∃(t':TypeId) (cs':Array Value) (fr':Nat×Nat),w.heap[ad'.block]? =some (.cells cs' t' fr'))→∀(w':World) (p2:Option Addr) (c2:Nat),(Builtin.append_ #[t,t] ty #[real (blks s.L) (.sl p n c), .slice q m c']).run P w= .ok (.slice p2 (n+m) c2) w'→w'.ownsRow 0 e es (.slice p2 (n+m) c2) (n+m) (cs++xs)→
      (w'.os=w.os∧w'.tape=w.tape∧w'.output=w.output∧w.heap.size≤w'.heap.size)→(∀k,k<w.heap.size→(n<c→∀ad',p=some ad'→k≠ad'.block)→w'.heap[k]? =w.heap[k]?)→
      (∀ad2,p2=some ad2→(∃b,p=some b∧ad2.block=b.block∧(n=n+m∨n<c))∨w.heap.size≤ad2.block)→
      o.upon P a next Q ((do pure (.value (←Builtin.append_ #[t,t] ty #[real (blks s.L) (.sl p n c), .slice q m c'])):Sem Go.Next).run P w):=by
     intro haway hcellsb w' p2 c2 hr hown ⟨g1,g2,g3,g4⟩ hsame hplace
     refine put_upon hr ?_
     have hgrown:Grown s.wb s.D p n c e es (n+m) (cs++xs) w' p2 c2:=by
      refine⟨hown,g1.trans H.grow.os,g2.trans H.grow.tape,g3.trans H.grow.output,Nat.le_trans H.grow.size g4,fun i h1 h2 h3=>?_,fun ad2 h2=>?_⟩
      ·rw[hsame i (Nat.lt_of_lt_of_le h1 H.grow.size) h3];exact H.grow.heap i h1 h2
      ·rcases hplace ad2 h2 with h3|h3
       ·exact .inl h3
       ·exact .inr (Nat.le_trans H.grow.size h3)
     have hok:=H.big0 g1 g2 g3 g4 (fun i h1 h2=>hsame i (Nat.lt_of_lt_of_le h1 (Nat.le_trans H.frame.size H.grow.size)) fun hlt ad' hp he=>h2 (by rw[he];exact(haway ad' hp).2 hlt (by omega)))
      (fun b hb=>by
       obtain⟨k,l,hl',rfl⟩:=blks_mem hb
       exact hsame _ (Whole.lt (H.lies k l hl').1) fun _ ad' hp he=>(haway ad' hp).1 (by rw[←he];exact hb))
      (fun k hk=>hsame k (H.hd.lt hk) fun hlt ad' hp he=>by
       obtain⟨t',cs',fr',hc'⟩:=hcellsb hlt ad' hp
       exact H.hd.ne hk hc' he)
     have hoff:∀ad2,p2=some ad2→ad2.block∉blks s.L:=fun ad2 h2=>by
      rcases hplace ad2 h2 with⟨b,hb,h3,_⟩|h3
      ·rw[h3];exact(haway b hb).1
      ·exact blk_old H h3
     exact hK _ (s.at s.L w') [] w' (offOwn_elim (h w' p2 c2 hgrown) hoff) ⟨fun k l hl=>⟨l,hl,rfl,Nat.le_refl _,fun _=>rfl,fun _=>rfl,rfl,rfl⟩,⟨[],rfl⟩,rfl⟩ (fun _=>rfl) (fun e=>by rw[hbig] at e;cases e) hok trivial
    rcases hroom with hroom|⟨hmp,hnc0,hlo,b0,rfl,hb0,hat0⟩
    rotate_left
    ·
     subst hnc0
     obtain⟨ad,rfl⟩:∃ad,q=some ad:=by
      cases q with
      |none=>have:=hq0 rfl;omega
      |some ad=>exact⟨ad,rfl⟩
     obtain rfl:i=i0:=by rw[hi] at hi0;exact Option.some.inj hi0
     have holds:∀j u,cs[j]? =some u→w.cell? (b0.add j)=some u:=fun j u hu=>by
      have h1:=hat0 j u hu
      rw[Nat.zero_add] at h1
      have hb:(b0.add j).block=b0.block:=by unfold Addr.add;split<;>rfl
      rw[←h1]
      refine World.cell?_of_block ?_
      rw[hb]
      exact H.grow.heap _ (by rw[←hb];exact World.block_lt_of_cell? _ _ h1) fun hm=>hb0 (H.dirty _ hm)
     have hnm:n+m≤(n+m)*by_:=Nat.le_mul_of_pos_right _ hpos.2
     obtain⟨v',w',hr,hown,hg⟩:=run_append_arg_grows (P:=P) w t ty e i zv es by_ hu hi hiz hisz hiby hzs hpos.1 b0 n n cs hlo holds ad m c' xs hl (hatq ad rfl) (by omega) (by simp only[maxLen];omega) hbound
     have hown0:=hown
     rcases hown.2 with⟨_,hz⟩|⟨g,cap,cur,rfl,hg1,hg2,hg3⟩
     ·omega
     ·refine fin (fun ad' e'=>by cases e';exact⟨hb0,fun h=>absurd h (by omega)⟩) (fun h=>absurd h (by omega)) w' (some ⟨g,0,none⟩) cap hr ⟨hown.1, .inr ⟨g,cap,cur,rfl,Nat.zero_le _,hg2,hg3⟩⟩ ⟨hg.os,hg.tape,hg.output,hg.size⟩ (fun k hk _=>hg.block k hk (by simp)) fun ad2 e2=>by cases e2;exact .inr hg1
    have hblk:∀ad',p=some ad'→ad'.block<s.wb.heap.size→w.heap[ad'.block]? =s.wb.heap[ad'.block]? :=fun ad' hp hlt=>
     H.grow.heap _ hlt fun hm=>(hroom.away ad' hp).1 (H.dirty _ hm)
    have hrow:=ownsRow_move hroom.row hblk
    have hnc:n≤c:=by
     rcases hrow.2 with⟨he,hn0⟩|⟨g,cap,cur,he,_,hg0,hnc,hcm,hcs,htake⟩
     ·cases he;omega
     ·cases he;exact hnc
    have hcellsb:∀ad':Addr,p=some ad'→∃(t':TypeId) (cs':Array Value) (fr':Nat×Nat),w.heap[ad'.block]? =some (.cells cs' t' fr'):=by
     intro ad' hp
     subst hp
     rcases hrow.2 with⟨he,_⟩|⟨g,cap,cur,he,_,hg0,_⟩
     ·cases he
     ·cases he;exact⟨_,_,_,hg0⟩
    have fin:=fin hroom.away fun _=>hcellsb
    by_cases hm0:m=0
    ·subst hm0
     have hxs:xs=[]:=List.eq_nil_of_length_eq_zero (by rw[hl];simp)
     subst hxs
     refine fin w p c (run_append_zero t ty e i hu hi p q n c c' hnc) (by simpa using hrow) ⟨rfl,rfl,rfl,Nat.le_refl _⟩ (fun _ _ _=>rfl) fun ad2 e2=> .inl ⟨ad2,e2,rfl, .inl (by omega)⟩
    ·obtain⟨ad,rfl⟩:∃ad,q=some ad:=by
      cases q with
      |none=>exact absurd (hq0 rfl) hm0
      |some ad=>exact⟨ad,rfl⟩
     have hat:=hatq ad rfl
     have hnm:n+m≤(n+m)*by_:=Nat.le_mul_of_pos_right _ hpos.2
     obtain rfl:i=i0:=by rw[hi] at hi0;exact Option.some.inj hi0
     obtain⟨v',w',hr,hown,hg,hnil⟩:=run_append_own (P:=P) w 0 t ty e i zv es by_ hu hi hiz hisz hiby hzs hpos.1 (.slice p n c) n cs hrow ad m c' xs hl hat hone
      (by simp only[maxLen];omega) hbound (Nat.zero_le _)
     have hsame:∀k,k<w.heap.size→(∀ad',p=some ad'→k≠ad'.block)→w'.heap[k]? =w.heap[k]? :=fun k hk hne=>hg.block k hk (fun e=>by
      cases p with
      |none=>simp[Value.ownBlock] at e
      |some ad'=>simp only[Value.ownBlock,Option.some.injEq] at e;exact hne ad' rfl e)
     have hform:∃p2 c2,v'= .slice p2 (n+m) c2∧(∀ad2,p2=some ad2→(∃b,p=some b∧ad2.block=b.block∧(n=n+m∨n<c))∨w.heap.size≤ad2.block)∧(¬n<c→∀k,k<w.heap.size→w'.heap[k]? =w.heap[k]?):=by
      rcases hrow.2 with⟨he,hn0⟩|⟨g,cap,cur,he,_,hg0,hnc,hcm,hcs,htake⟩
      ·cases he
       clear hn0
       have hr2:=run_append_nil (P:=P) w t ty e i zv hu hi hiz ad m c' xs (by rw[hisz];exact hl) hat (by omega) (by omega) (by rw[hiby];have hb:=hbound;simp only[Nat.zero_add] at hb;omega)
       have:=hr.symm.trans hr2
       injection this with e1 _
       exact⟨_,_,by rw[e1,Nat.zero_add],(fun ad2 e2=>by cases e2;exact .inr (Nat.le_refl _)),fun _ k hk=>hsame k hk fun _ e=>by cases e⟩
      ·cases he
       by_cases hfit:n+m≤c
       ·have hr2:=run_append_room (P:=P) w t ty e i hu hi g n c cur hg0 ad m c' xs (by rw[hisz];exact hl) hat hone hfit (by rw[hisz,hl,hcs,←Nat.add_mul];exact Nat.mul_le_mul_right _ hfit)
        have:=hr.symm.trans hr2
        injection this with e1 _
        exact⟨_,_,e1,(fun ad2 e2=>by cases e2;exact .inl ⟨_,rfl,rfl, .inr (by omega)⟩),fun h=>absurd (by omega) h⟩
       ·have hr2:=run_append_grow (P:=P) w t ty e i zv hu hi hiz ⟨g,0,none⟩ n c cs (by rw[hisz];exact hrow.1) (World.ownsRow.cells hrow rfl) ad m c' xs (by rw[hisz];exact hl) hat (by omega) (by omega) (growslice_fits (by omega) (by rw[hiby];exact hbound))
        have:=hr.symm.trans hr2
        injection this with e1 e2
        refine⟨_,_,e1,(fun ad2 e2=>by cases e2;exact .inr (Nat.le_refl _)),fun _ k hk=>?_⟩
        rw[e2]
        exact alloc_heap _ _ _ hk
     obtain⟨p2,c2,rfl,hplace,hfull⟩:=hform
     refine fin w' p2 c2 hr hown ⟨hg.os,hg.tape,hg.output,hg.size⟩ (fun k hk h3=>?_) hplace
     by_cases hlt:n<c
     ·exact hsame k hk (h3 hlt)
     ·exact hfull hlt k hk
   ·exact h.elim
  ·exact h.elim
 ·exact h.elim
set_option maxRecDepth 10000 in
theorem copyAt_sound (H:Ok w0 F Z N s a w) {o:Oper} {t u:TypeId} {x y:SV} {K:SV→St→List Nat→Prop} {next:Act→World→Prop} {Q:Exit→Act→World→Prop} (hbig:isBig P all o s=true) (ty:TypeId)
  (h:copyAt P w0 F t x y s K) (hK:Next P w0 F Z N all s o a K next):o.upon P a next Q ((do pure (.value (←Builtin.copy_ #[t,u] ty #[real (blks s.L) x,real (blks s.L) y])):Sem Go.Next).run P w):=by
 unfold copyAt at h
 split at h
 ·rename_i e p n c hu
  split at h
  ·rename_i es hes
   obtain⟨ad,rfl,h⟩:=h
   obtain⟨xs,⟨⟨hc,haw⟩,h⟩,hl,hone,q,c',hy,hq0,hatq⟩:=source_sound H h
   generalize hm:countOf y=m at*
   obtain⟨hsp,cs,ct,hh,hle⟩:=hc
   have hlt:ad.block<s.wb.heap.size:=(Array.getElem?_eq_some_iff.1 hh).1
   have hw:w.heap[ad.block]? =some (.cells cs ct (0,0)):=by rw[H.grow.heap _ hlt fun hmm=>haw.1 (H.dirty _ hmm)];exact hh
   obtain⟨w',hst,sp⟩:=Abs.run_storeCells (P:=P) ad.block ad.off ct (0,0) xs 0 w cs hw (by rw[hl];omega) (fun k _ _=>by simp) hone
   have had:ad=⟨ad.block,ad.off,none⟩:=by cases ad;simp_all
   have hfirst:(Builtin.firstCells es (min m n) (.slice q m c')).run P w= .ok xs.toArray w:=by
    cases q with
    |none=>
     have h0:=hq0 rfl
     have:xs=[]:=List.eq_nil_of_length_eq_zero (by rw[hl,h0];simp)
     subst this
     simp[Builtin.firstCells]
    |some b=>
     have:=run_loadCells_list (P:=P) w b xs (fun j u hu=>hatq b rfl j u hu)
     rw[hl] at this
     simpa[Builtin.firstCells] using this
   have hr:(Builtin.copy_ #[t,u] ty #[.slice (some ad) n c, .slice q m c']).run P w= .ok (.int .i64 (min m n:Nat)) w':=by
    have hst':(storeCells ad xs).run P w= .ok () w':=by rw[had];exact hst
    have hmin:Nat.min m n=min m n:=rfl
    simp[Builtin.copy_,run_underlying hu,Builtin.lenOf,run_sizeOf hes,hmin,hfirst,hst',goInt]
   rw[hy]
   refine put_upon hr ?_
   have hput:Put s.wb s.D ad 0 xs w':=by
    refine⟨sp.os.trans H.grow.os,sp.tape.trans H.grow.tape,sp.output.trans H.grow.output,by rw[sp.size];exact H.grow.size,fun i h1 h2 h3=>by rw[sp.other i h3];exact H.grow.heap i h1 h2,fun cs2 t2 h2=>?_⟩
    rw[hh] at h2
    cases h2
    have:=sp.here
    simpa using this
   have hok:=H.big0 sp.os sp.tape sp.output (by rw[sp.size];exact Nat.le_refl _) (fun i h1 h2=>sp.other i fun e=>h2 (by rw[e];exact haw.2 (by omega))) (fun b hb=>sp.other b fun e=>haw.1 (by rw[←e];exact hb)) (fun k hk=>sp.other k fun e=>H.hd.ne hk hw e)
   exact hK (.int .i64 (min m n:Nat)) (s.at s.L w') [] w' (h w' hput) ⟨fun k l hl=>⟨l,hl,rfl,Nat.le_refl _,fun _=>rfl,fun _=>rfl,rfl,rfl⟩,⟨[],rfl⟩,rfl⟩ (fun _=>rfl) (fun e=>by rw[hbig] at e;cases e) hok trivial
  ·exact h.elim
 ·exact h.elim
theorem cell_bytes {l:List UInt8} {j:Nat} (hj:j<l.length):(bytesV l)[j]? =some (.int .u8 (l[j].toNat:Int)):=by
 simp[bytesV,List.getElem?_eq_getElem hj]
theorem conv_sound2 (H:Ok w0 F Z N s a w) {o:Oper} (hbig:isBig P all o s=true) {t d:TypeId} {v:SV} {K:SV→St→List Nat→Prop} {next:Act→World→Prop} {Q:Exit→Act→World→Prop}
  (h:convLoud P w0 F t d v s K) (hK:Next P w0 F Z N all s o a K next):o.upon P a next Q ((do pure (.value (←Go.convert t d (real (blks s.L) v))):Sem Go.Next).run P w):=by
 have hmv:Moves s (s.at s.L w) []:=⟨fun k l hl=>⟨l,hl,rfl,Nat.le_refl _,fun _=>rfl,fun _=>rfl,rfl,rfl⟩,⟨[],rfl⟩,rfl⟩
 unfold convLoud at h
 split at h
 ·rename_i e l hs hd
  split at h
  ·rename_i he
   have hr:=run_bytes_of_string (P:=P) w t d e ⟨l.toArray⟩ hs hd he
   refine put_upon hr ?_
   have hsz:(⟨l.toArray⟩:ByteArray).size=l.length:=by show l.toArray.size=_;simp
   generalize hC:bytesRow ⟨l.toArray⟩ (grownCap w (⟨l.toArray⟩:ByteArray).size 0 e)=C
   rw[hsz] at*
   have hcap:l.length≤grownCap w l.length 0 e:=by
    first
     |exact grownCap_ge w l.length 0 e
     |(unfold grownCap;omega)
   have hcell:∀j v,(bytesV l)[j]? =some v→C[j]? =some v:=fun j v hj=>by
    have hjl:j<l.length:=by
     have:=(List.getElem?_eq_some_iff.1 hj).1
     simpa[bytesV] using this
    rw[←hC,bytesRow_at _ _ _ (by show j<l.toArray.size;simpa using hjl)]
    rw[cell_bytes hjl] at hj
    rw[←hj]
    simp
   have hf:FromStr s.wb s.D e l (w.drew.alloc (.cells C e (C.size,C.size+1))) w.heap.size (grownCap w l.length 0 e):=by
    refine⟨H.grow.os,H.grow.tape,H.grow.output,H.grow.size,?_,fun i h1 h2=>?_,fun j v hj=>?_,hcap,_,_,alloc_here w.drew _⟩
    ·have:=alloc_size w.drew (.cells C e (C.size,C.size+1))
     have e:w.drew.heap=w.heap:=rfl
     rw[e] at this
     omega
    ·have e:w.drew.heap=w.heap:=rfl
     rw[alloc_heap _ _ _ (by rw[e];exact Nat.lt_of_lt_of_le h1 H.grow.size),e]
     exact H.grow.heap i h1 h2
    ·have e:(⟨w.heap.size,0,none⟩:Addr).add (0+j)=⟨w.drew.heap.size,j,none⟩:=by
      have e1:w.drew.heap=w.heap:=rfl
      rw[e1,Addr.add_lit]
      simp
     rw[e,World.cell?_alloc_mark]
     exact hcell j v hj
   have hnew:w.heap.size∉blks s.L:=blk_old H (Nat.le_refl _)
   have hkeep:∀i,i<w.heap.size→(w.drew.alloc (.cells C e (C.size,C.size+1))).heap[i]? =w.heap[i]? :=fun i hi=>by
    have e:w.drew.heap=w.heap:=rfl
    rw[alloc_heap _ _ _ (by rw[e];exact hi),e]
   have hok:=H.big0 (w':=w.drew.alloc (.cells C e (C.size,C.size+1))) rfl rfl rfl (by have:=alloc_size w.drew (.cells C e (C.size,C.size+1));have e:w.drew.heap=w.heap:=rfl;rw[e] at this;omega)
    (fun j h1 h2=>hkeep j (Nat.lt_of_lt_of_le h1 (Nat.le_trans H.frame.size H.grow.size))) (fun b hb=>by
     obtain⟨k,l,hl,rfl⟩:=blks_mem hb
     exact hkeep _ (Whole.lt (H.lies k l hl).1)) (fun k hk=>hkeep k (H.hd.lt hk))
   exact hK _ (s.at s.L _) [] _ (notOwn_elim (h _ _ _ hf) hnew) ⟨fun k l hl=>⟨l,hl,rfl,Nat.le_refl _,fun _=>rfl,fun _=>rfl,rfl,rfl⟩,⟨[],rfl⟩,rfl⟩ (fun _=>rfl) (fun e=>by rw[hbig] at e;cases e) hok trivial
  ·exact h.elim
 ·rename_i e p n c hs hd
  split at h
  ·rename_i he
   obtain⟨l,h⟩:=h
   obtain⟨⟨hl,hat⟩,hnil,hk⟩:=h w H.grow.grow
   have hok:=H.big0 (w':=w) rfl rfl rfl (Nat.le_refl _) (fun _ _ _=>rfl) (fun _ _=>rfl) (fun _ _=>rfl)
   have hr:(Go.convert t d (.slice p n c)).run P w= .ok (.string ⟨l.toArray⟩) w:=by
    cases p with
    |none=>
     have hn:=hnil rfl
     subst hn
     have:l=[]:=List.eq_nil_of_length_eq_zero hl
     subst this
     rw[run_convert_bytes_string w t d e none 0 c hs he hd]
     simp[Conv.bytesToString]
     rfl
    |some ad=>
     subst hl
     exact run_convert_bytes_back w t d e ad c l hs he hd (fun j hj=>by
      have:=hat ad rfl j _ (cell_bytes hj)
      rwa[Nat.zero_add] at this)
   exact put_upon hr (hK (.str l) (s.at s.L w) [] w hk hmv (fun _=>rfl) (fun e=>by rw[hbig] at e;cases e) hok trivial)
  ·exact h.elim
 ·rename_i e0 e p n c hs hd
  split at h
  ·rename_i htd
   split at h
   ·rename_i he
    obtain⟨ad,rfl,⟨⟨hsp,cs,ty,hh,hle⟩,haw⟩,h⟩:=h
    have htd':t=d:=Nat.eq_of_beq_eq_true htd
    subst htd'
    have hlt:ad.block<s.wb.heap.size:=(Array.getElem?_eq_some_iff.1 hh).1
    have hw:w.heap[ad.block]? =some (.cells cs ty (0,0)):=by rw[H.grow.heap _ hlt fun hmm=>haw.1 (H.dirty _ hmm)];exact hh
    have hr:(Go.convert t t (.slice (some ad) n c)).run P w= .ok (.slice (some ad) n c) (w.freeze ⟨ad.block,cs.size,none⟩ 1):=by
     have hsh:w.shape? ad.block=some (ty,cs.size):=by unfold World.shape?;rw[hw]
     simp[Go.convert,run_underlying hd,run_underlying he,markStringish,hsh]
    have hz:(w.freeze ⟨ad.block,cs.size,none⟩ 1).heap.size=w.heap.size:=by
     unfold World.freeze
     rw[if_neg (by decide)]
     exact Array.size_modify ..
    have ho:∀i,i≠ad.block→(w.freeze ⟨ad.block,cs.size,none⟩ 1).heap[i]? =w.heap[i]? :=fun i hi=>by
     unfold World.freeze
     rw[if_neg (by decide)]
     show(w.heap.modify ad.block _)[i]? =_
     rw[Array.getElem?_modify,if_neg (Ne.symm hi)]
    have hb:∃fr,(w.freeze ⟨ad.block,cs.size,none⟩ 1).heap[ad.block]? =some (.cells cs ty fr):=by
     unfold World.freeze
     rw[if_neg (by decide)]
     refine⟨(cs.size,cs.size+1),?_⟩
     show(w.heap.modify ad.block _)[ad.block]? =_
     rw[Array.getElem?_modify,if_pos rfl,hw]
     rfl
    have hos:(w.freeze ⟨ad.block,cs.size,none⟩ 1).os=w.os∧(w.freeze ⟨ad.block,cs.size,none⟩ 1).tape=w.tape∧(w.freeze ⟨ad.block,cs.size,none⟩ 1).output=w.output:=by
     unfold World.freeze
     rw[if_neg (by decide)]
     exact⟨rfl,rfl,rfl⟩
    generalize w.freeze ⟨ad.block,cs.size,none⟩ 1=w' at*
    have hput:Marked s.wb s.D ad w':=by
     refine⟨hos.1.trans H.grow.os,hos.2.1.trans H.grow.tape,hos.2.2.trans H.grow.output,by rw[hz];exact H.grow.size,fun i h1 h2 h3=>by rw[ho i h3];exact H.grow.heap i h1 h2,fun cs2 t2 h2=>?_⟩
     rw[hh] at h2
     cases h2
     exact hb
    have hok:=H.big0 hos.1 hos.2.1 hos.2.2 (by rw[hz];exact Nat.le_refl _) (fun i h1 h2=>ho i fun e=>h2 (by rw[e];exact haw.2 (by omega))) (fun b hb=>ho b fun e=>haw.1 (by rw[←e];exact hb)) (fun k hk=>ho k fun e=>H.hd.ne hk hw e)
    exact put_upon hr (hK (.sl (some ad) n c) (s.at s.L w') [] w' (h w' hput) ⟨fun k l hl=>⟨l,hl,rfl,Nat.le_refl _,fun _=>rfl,fun _=>rfl,rfl,rfl⟩,⟨[],rfl⟩,rfl⟩ (fun _=>rfl) (fun e=>by rw[hbig] at e;cases e) hok trivial)
   ·exact h.elim
  ·exact h.elim
 ·exact h.elim
theorem isBig_adr {o:Oper} {t:TypeId} {x y:Operand} (ho:o.op= .store t x y) {v:SV} (hv:eval P s.T x=some v) (hn:∀k o,v≠ .loc k o):isBig P all o s=true:=by
 unfold isBig
 rw[ho]
 simp only[hv]
 try (split<;>first|rfl|(rename_i k o' e;injection e with e;exact absurd e (hn k o')))
theorem store_sound (H:Ok w0 F Z N s a w) {o:Oper} (hbig:isBig P all o s=true) {t:TypeId} {m:Nat} (hm:size? P t=some m) {ad:Addr} {ofs:Nat} {v:SV} (hv:okv s.L.length v) (hs:v.flat.all SV.scalar=true) (hl:v.flat.length=m) {K:SV→St→List Nat→Prop} {next:Act→World→Prop} {Q:Exit→Act→World→Prop} {c:Bool}
  (hc:CanPut s.wb ad ofs m) (haw:Away w0.heap.size F (blks s.L) ad.block) (h:∀w2,Put s.wb s.D ad ofs (reals (blks s.L) v.flat) w2→liesIf w0 c s.L w2 (K (.tup []) (s.at s.L w2) [])) (hK:Next P w0 F Z N all s o a K next):
  o.upon P a next Q ((do Instr.storeAt t (adrVal ad ofs) (real (blks s.L) v);pure .skip:Sem Go.Next).run P w):=by
 obtain⟨hsp,cs,ty,hh,hle⟩:=hc
 have hlt:ad.block<s.wb.heap.size:=(Array.getElem?_eq_some_iff.1 hh).1
 have hw:w.heap[ad.block]? =some (.cells cs ty (0,0)):=by rw[H.grow.heap _ hlt fun hmm=>haw.1 (H.dirty _ hmm)];exact hh
 obtain⟨f1,f2,_⟩:=flat_sound (β:=blks s.L) hv
 obtain⟨w',hr,sp⟩:=run_storeAt (P:=P) (w:=w) hm (o:=ofs) f1 (by rw[reals_length];exact hl) (mem_one f2 hs) hsp hw hle
 rw[Sem.run_bind,hr]
 have hput:Put s.wb s.D ad ofs (reals (blks s.L) v.flat) w':=by
  refine⟨sp.os.trans H.grow.os,sp.tape.trans H.grow.tape,sp.output.trans H.grow.output,by rw[sp.size];exact H.grow.size,fun i h1 h2 h3=>by rw[sp.other i h3];exact H.grow.heap i h1 h2,fun cs2 t2 h2=>?_⟩
  rw[hh] at h2
  cases h2
  exact sp.here
 have hok:=H.big0 sp.os sp.tape sp.output (by rw[sp.size];exact Nat.le_refl _) (fun i h1 h2=>sp.other i fun e=>h2 (by rw[e];exact haw.2 (by omega))) (fun b hb=>sp.other b fun e=>haw.1 (by rw[←e];exact hb)) (fun k hk=>sp.other k fun e=>H.hd.ne hk hw e)
 exact hK (.tup []) (s.at s.L w') [] w' (liesIf_elim (s:=s.at s.L w') hok (h w' hput)) ⟨fun k l hl=>⟨l,hl,rfl,Nat.le_refl _,fun _=>rfl,fun _=>rfl,rfl,rfl⟩,⟨[],rfl⟩,rfl⟩ (fun _=>rfl) (fun e=>by rw[hbig] at e;cases e) hok trivial
end Go.Sy
namespace Go.Sy
open Go.RowKit (Below)
variable [Codecs]
variable {P:Program} {w0:World} {F:Nat→Prop} {Z:List (Nat×Obj)} {N:Nat} {s:St} {a:Act} {w:World} {all:List Oper}
theorem set_kind {t e:TypeId} (h:set? P t=some e):∃k,P.underlying t=some (.map k e)∧P.underlying k=some (.int .i64)∧zero? P e=some (.lit false):=by
 unfold set? at h
 split at h
 ·rename_i k e' hu
  split at h
  ·rename_i h1 h2 h3
   cases h
   exact⟨k,hu,h1,h3⟩
  ·cases h
 ·cases h
def SetEs (ents:List MapEntry) (l:List Int):Prop:=ents.map (fun e=>(e.key,e.val))=l.map fun n=>(Value.int .i64 n,Value.bool true)
theorem SetEs.cons {ents:List MapEntry} {m:Int} {l:List Int} (h:SetEs ents (m::l)):∃e es,ents=e::es∧e.key= .int .i64 m∧e.val= .bool true∧SetEs es l:=by
 cases ents with
 |nil=>cases h
 |cons e es=>
  unfold SetEs at h
  simp only[List.map_cons,List.cons.injEq,Prod.mk.injEq] at h
  exact⟨e,es,rfl,h.1.1,h.1.2,h.2⟩
theorem SetEs.nil {ents:List MapEntry} (h:SetEs ents []):ents=[]:=by
 cases ents with
 |nil=>rfl
 |cons e es=>cases h
def posOf (n:Int):List Int→Option Nat
 |[]=>none
 |m::l=>if n==m then some 0 else(posOf n l).map (· +1)
theorem posOf_has (n:Int):∀l:List Int,(posOf n l).isSome=l.contains n
 |[]=>rfl
 |m::l=>by
  unfold posOf
  rw[List.contains_cons]
  cases hb:(n==m) with
  |true=>rfl
  |false=>
   have:=posOf_has n l
   simpa using this
theorem findNow_set (n:Int):∀(l:List Int) (ents:List MapEntry) (i:Nat),SetEs ents l→Instr.findNow (.int .i64) (.int .i64 n) ents i=some ((posOf n l).map fun j=>(i+j,Value.bool true))
 |[],ents,i,h=>by rw[h.nil];rfl
 |m::l,ents,i,h=>by
  obtain⟨e,es,rfl,h1,h2,h3⟩:=h.cons
  have hs:Instr.sameNow (.int .i64) (.int .i64 n) e.key=some (n==m):=by rw[h1];simp[Instr.sameNow]
  unfold Instr.findNow posOf
  rw[hs]
  cases hb:(n==m) with
  |true=>simp[h2]
  |false=>
   simp only[]
   rw[findNow_set n l es (i+1) h3]
   simp only[Bool.false_eq_true,if_false,Option.map_map]
   congr 1
   cases posOf n l with
   |none=>rfl
   |some r=>simp only[Option.map_some,Function.comp];congr 2;omega
theorem findKey_set {k:TypeId} (hu:P.underlying k=some (.int .i64)) (n:Int) {l:List Int} {ents:List MapEntry} (hl:SetEs ents l) (w:World):(Instr.findKey k (.int .i64 n) ents).run P w= .ok ((posOf n l).map fun j=>(j,Value.bool true)) w:=by
 unfold Instr.findKey
 simp only[Sem.run_bind,run_underlying hu,Result.andThen_ok,findNow_set n l ents 0 hl,Sem.run_pure,Nat.zero_add]
theorem checkKey_set {k:TypeId} (hu:P.underlying k=some (.int .i64)) (b:Bool) (n:Int) (w:World):(Instr.checkKey b 10000 k (.int .i64 n)).run P w= .ok () w:=by
 unfold Instr.checkKey
 simp only[Sem.run_bind,run_underlying hu,Result.andThen_ok,Sem.run_pure]
theorem posOf_key {n:Int}:∀{l:List Int} {ents:List MapEntry} {j:Nat},SetEs ents l→posOf n l=some j→∃e,ents[j]? =some e∧e.key= .int .i64 n∧e.val= .bool true∧l[j]? =some n
 |[],_,_,_,h=>by cases h
 |m::l,ents,j,hl,hj=>by
  obtain⟨e,es,rfl,h1,h2,h3⟩:=hl.cons
  unfold posOf at hj
  split at hj
  ·rename_i hb
   cases hj
   have:n=m:=by simpa using hb
   exact⟨e,rfl,by rw[h1,this],h2,by rw[this];rfl⟩
  ·simp only[Option.map_eq_some_iff] at hj
   obtain⟨j',hj',rfl⟩:=hj
   obtain⟨e',q1,q2,q3,q4⟩:=posOf_key h3 hj'
   exact⟨e',by simpa using q1,q2,q3,by simpa using q4⟩
theorem modify_set {n:Int}:∀{l:List Int} {ents:List MapEntry} {j:Nat},SetEs ents l→posOf n l=some j→SetEs (ents.modify j fun e=>{e with key:= .int .i64 n,val:= .bool true}) l
 |[],_,_,_,h=>by cases h
 |m::l,ents,j,hl,hj=>by
  obtain⟨e,es,rfl,h1,h2,h3⟩:=hl.cons
  unfold posOf at hj
  split at hj
  ·rename_i hb
   cases hj
   have hnm:n=m:=by simpa using hb
   have h3':es.map (fun e=>(e.key,e.val))=l.map fun n=>(Value.int .i64 n,Value.bool true):=h3
   simp only[List.modify_zero_cons]
   unfold SetEs
   simp only[List.map_cons,h3',hnm]
  ·simp only[Option.map_eq_some_iff] at hj
   obtain⟨j',hj',rfl⟩:=hj
   have ih:=modify_set h3 hj'
   unfold SetEs at ih⊢
   simp only[List.modify_succ_cons,List.map_cons,ih,h1,h2]
theorem erase_set {n:Int}:∀{l:List Int} {ents:List MapEntry} {j:Nat},SetEs ents l→posOf n l=some j→SetEs (ents.eraseIdx j) (l.erase n)
 |[],_,_,_,h=>by cases h
 |m::l,ents,j,hl,hj=>by
  obtain⟨e,es,rfl,h1,h2,h3⟩:=hl.cons
  unfold posOf at hj
  rw[List.erase_cons]
  split at hj
  ·rename_i hb
   cases hj
   have hnm:n=m:=by simpa using hb
   simpa[hnm] using h3
  ·rename_i hb
   simp only[Option.map_eq_some_iff] at hj
   obtain⟨j',hj',rfl⟩:=hj
   have ih:=erase_set h3 hj'
   have hmn:(m==n)=false:=by
    rw[beq_eq_false_iff_ne]
    intro e
    exact hb (by simp[e])
   rw[hmn]
   unfold SetEs at ih⊢
   simp only[List.eraseIdx_cons_succ,List.map_cons,ih,h1,h2]
   rfl
theorem getMap_run {r:Nat} {ents:Array MapEntry} {clock:Nat} (h1:w.heap[r]? =some (.map ents clock)):(getObj r).run P w= .ok (.map ents clock) w:=by simp[getObj,Sem.run,h1]
theorem setMap_run {r:Nat} {ents:Array MapEntry} {clock:Nat} (h1:w.heap[r]? =some (.map ents clock)) (o:Obj):(setObj r o).run P w= .ok () {w with heap:=w.heap.setIfInBounds r o}:=by simp[setObj,Sem.run,h1]
theorem setTo_of {b:Nat} {ents ents':Array MapEntry} {clock clock':Nat} {l:List Int} (h1:w.heap[b]? =some (.map ents clock)) (h2:SetEs ents'.toList l):SetTo w b l {w with heap:=w.heap.setIfInBounds b (.map ents' clock')}:=by
 have hlt:=(Array.getElem?_eq_some_iff.1 h1).1
 exact⟨rfl,rfl,rfl,by simp,fun i hi=>by simp only[Array.getElem?_setIfInBounds_ne (Ne.symm hi)],ents',clock',by simp[hlt],h2⟩
theorem Ok.setTo (H:Ok w0 F Z N s a w) {b:Nat} {l l':List Int} {w':World} (hb:SetAt w b l) (hF:b<w0.heap.size→F b) (hs:SetTo w b l' w'):Ok w0 F Z N (s.at s.L w') a w':=by
 obtain⟨ents,clock,h1,h2⟩:=hb
 refine H.big0 hs.os hs.tape hs.output (by rw[hs.size];exact Nat.le_refl _) (fun i h3 h4=>hs.heap i fun e=>h4 (by rw[e];exact hF (by omega))) (fun c hc=>hs.heap c fun e=>?_) (fun k hk=>hs.heap k (H.hd.neM hk h1))
 obtain⟨k,m,hm,rfl⟩:=blks_mem hc
 have:=(H.lies k m hm).1
 unfold Whole at this
 rw[e,h1] at this
 cases this
theorem setOf_elim {m:SV} {w:World} {K:Nat→List Int→Prop} (h:setOf m w K):∃b l,m= .val (.map (some b))∧SetAt w b l∧K b l:=by
 unfold setOf at h
 split at h
 ·obtain⟨b,rfl,l,h1,h2⟩:=h
  exact⟨b,l,rfl,h1,h2⟩
 ·exact h.elim
theorem moves_at:Moves s (s.at s.L w) []:=⟨fun k l hl=>⟨l,hl,rfl,Nat.le_refl _,fun _=>rfl,fun _=>rfl,rfl,rfl⟩,⟨[],rfl⟩,rfl⟩
theorem mapUpdate_set {t e:TypeId} (ht:set? P t=some e) {b:Nat} {l:List Int} (n:Int) (hb:SetAt w b l):∃w',(Instr.mapUpdate t (.map (some b)) (.int .i64 n) (.bool true)).run P w= .ok () w'∧SetTo w b (setAdd n l) w':=by
 obtain⟨k,hu,hk,_⟩:=set_kind ht
 obtain⟨ents,clock,h1,h2⟩:=hb
 have hck:=checkKey_set (P:=P) hk false n w
 have hfk:=findKey_set hk n h2 w
 have hp:=posOf_has n l
 unfold setAdd
 cases hl:posOf n l with
 |none=>
  rw[hl] at hfk hp
  rw[←hp]
  refine⟨_,?_,setTo_of (ents':=ents.push {key:= .int .i64 n,val:= .bool true,born:=clock}) (clock':=clock+1) h1 ?_⟩
  ·simp only[Instr.mapUpdate,Sem.run_bind,run_underlying hu,Result.andThen_ok,getMap_run h1,hck,hfk,Option.map_none,setMap_run h1]
  ·simp only[Option.isSome_none,Bool.false_eq_true,if_false]
   unfold SetEs
   rw[Array.toList_push,List.map_append,h2,List.map_append]
   rfl
 |some j=>
  rw[hl] at hfk hp
  rw[←hp]
  obtain⟨e',q1,q2,q3,_⟩:=posOf_key h2 hl
  have q1':ents[j]? =some e':=by rw[←Array.getElem?_toList];exact q1
  have hst:(Instr.keyThatStays (((ents[j]?).map (·.key)).getD (.int .i64 n)) (.int .i64 n)).run P w= .ok (.int .i64 n) w:=by
   rw[q1']
   simp[Instr.keyThatStays,q2,Instr.sameBits]
  refine⟨_,?_,setTo_of (ents':=ents.modify j fun e=>{e with key:= .int .i64 n,val:= .bool true}) (clock':=clock) h1 ?_⟩
  ·simp only[Instr.mapUpdate,Sem.run_bind,run_underlying hu,Result.andThen_ok,getMap_run h1,hck,hfk,Option.map_some,hst,setMap_run h1]
  ·rw[Array.toList_modify]
   exact modify_set h2 hl
theorem delete_set {t e ty:TypeId} {ats:Array TypeId} (ht:set? P t=some e) (h0:ats[0]? =some t) {b:Nat} {l:List Int} (n:Int) (hb:SetAt w b l):∃w',(Builtin.delete_ ats ty #[.map (some b), .int .i64 n]).run P w= .ok (.tuple #[]) w'∧SetTo w b (l.erase n) w':=by
 obtain⟨k,hu,hk,_⟩:=set_kind ht
 obtain⟨ents,clock,h1,h2⟩:=hb
 have hck:=checkKey_set (P:=P) hk ents.isEmpty n w
 have hfk:=findKey_set hk n h2 w
 have hp:=posOf_has n l
 have h0':(ats[0]?,(#[Value.map (some b),Value.int .i64 n]:Array Value)[0]?,(#[Value.map (some b),Value.int .i64 n]:Array Value)[1]?)=(some t,some (Value.map (some b)),some (Value.int .i64 n)):=by rw[h0];rfl
 cases hl:posOf n l with
 |none=>
  rw[hl] at hfk hp
  refine⟨_,?_,setTo_of (ents':=ents) (clock':=clock) h1 ?_⟩
  ·unfold Builtin.delete_
   rw[h0']
   simp only[Sem.run_bind,run_underlying hu,Result.andThen_ok,getMap_run h1,hck,hfk,Option.map_none,setMap_run h1,Sem.run_pure]
  ·rw[List.erase_of_not_mem (by intro hm;have:=List.contains_iff_mem.2 hm;rw[←hp] at this;cases this)]
   exact h2
 |some j=>
  rw[hl] at hfk
  refine⟨_,?_,setTo_of (ents':=ents.eraseIdxIfInBounds j) (clock':=clock) h1 ?_⟩
  ·unfold Builtin.delete_
   rw[h0']
   simp only[Sem.run_bind,run_underlying hu,Result.andThen_ok,getMap_run h1,hck,hfk,Option.map_some,setMap_run h1,Sem.run_pure]
  ·rw[Array.toList_eraseIdxIfInBounds]
   exact erase_set h2 hl
theorem clear_set {t e ty:TypeId} {ats:Array TypeId} (ht:set? P t=some e) (h0:ats[0]? =some t) {b:Nat} {l:List Int} (hb:SetAt w b l):∃w',(Builtin.clear_ ats ty #[.map (some b)]).run P w= .ok (.tuple #[]) w'∧SetTo w b [] w':=by
 obtain⟨k,hu,hk,_⟩:=set_kind ht
 obtain⟨ents,clock,h1,h2⟩:=hb
 have h0':(ats[0]?,(#[Value.map (some b)]:Array Value)[0]?)=(some t,some (Value.map (some b))):=by rw[h0];rfl
 refine⟨_,?_,setTo_of (ents':=#[]) (clock':=clock) h1 rfl⟩
 unfold Builtin.clear_
 rw[h0']
 simp only[Sem.run_bind,run_underlying hu,Result.andThen_ok,getMap_run h1,setMap_run h1,Sem.run_pure]
theorem lookup_set {t e:TypeId} (ht:set? P t=some e) {b:Nat} {l:List Int} (n:Int) (hb:SetAt w b l):(Instr.lookup t (.map (some b)) (.int .i64 n) false).run P w= .ok (.bool (l.contains n)) w:=by
 obtain⟨k,hu,hk,hz⟩:=set_kind ht
 obtain⟨ents,clock,h1,h2⟩:=hb
 have hck:=checkKey_set (P:=P) hk ents.isEmpty n w
 have hfk:=findKey_set hk n h2 w
 have hp:=posOf_has n l
 rw[←hp]
 obtain⟨zv,hr,hzc,_,_⟩:=run_zero hz w
 have hzv:zv= .bool false:=((hzc 0 []).2).symm
 rw[hzv] at hr
 cases hl:posOf n l with
 |none=>
  rw[hl] at hfk
  simp only[Instr.lookup,Sem.run_bind,run_underlying hu,Result.andThen_ok,getMap_run h1,hck,hfk,Option.map_none,hr,Sem.run_pure,Bool.false_eq_true,if_false,Option.isSome_none]
 |some j=>
  rw[hl] at hfk
  simp only[Instr.lookup,Sem.run_bind,run_underlying hu,Result.andThen_ok,getMap_run h1,hck,hfk,Option.map_some,Sem.run_pure,Bool.false_eq_true,if_false,Option.isSome_some]
theorem makeMap_set {t:TypeId}:(Instr.makeMap t none).run P w= .ok (.map (some w.heap.size)) (w.alloc (.map #[] 0))∧SetNew w (w.alloc (.map #[] 0)) w.heap.size:=by
 constructor
 ·simp only[Instr.makeMap,Option.map_none,Sem.run_bind,Sem.run_pure,run_newObj,Result.andThen_ok]
  rfl
 ·refine⟨rfl,rfl,rfl,Nat.le_refl _,by rw[alloc_size];omega,fun i hi=>alloc_heap _ _ _ hi,#[],0,alloc_here w _,rfl⟩
theorem Ok.setNew (H:Ok w0 F Z N s a w):Ok w0 F Z N (s.at s.L (w.alloc (.map #[] 0))) a (w.alloc (.map #[] 0)):=
 H.big0 rfl rfl rfl (by rw[alloc_size];omega) (fun j h1 h2=>alloc_heap _ _ _ (Nat.lt_of_lt_of_le h1 (Nat.le_trans H.frame.size H.grow.size))) (fun b hb=>by
  obtain⟨k,l,hl,rfl⟩:=blks_mem hb
  exact alloc_heap _ _ _ (Whole.lt (H.lies k l hl).1)) (fun k hk=>alloc_heap _ _ _ (H.hd.lt hk))
theorem Ok.again (H:Ok w0 F Z N s a w):Ok w0 F Z N (s.at s.L w) a w:=H.big0 rfl rfl rfl (Nat.le_refl _) (fun _ _ _=>rfl) (fun _ _=>rfl) (fun _ _=>rfl)
theorem setPut_sound (H:Ok w0 F Z N s a w) {o:Oper} (hbig:isBig P all o s=true) {t:TypeId} {m:SV} {R:World→Nat→List Int→World→Prop} {K:SV→St→List Nat→Prop} {next:Act→World→Prop} {G:Prop}
  (h:setPut P w0 F t m s R K) (hK:Next P w0 F Z N all s o a K next)
  (hrun:∀e b l,set? P t=some e→m= .val (.map (some b))→SetAt w b l→∃w' l',R w b l w'∧SetTo w b l' w'∧(next (a.put o.dst undef) w'→G)):G:=by
 unfold setPut at h
 split at h
 ·rename_i e he
  obtain⟨b,l,rfl,hb,hF,hk⟩:=setOf_elim (h w H.grow.grow)
  obtain⟨w',l',hR,hs,hG⟩:=hrun e b l he rfl hb
  exact hG (hK (.tup []) (s.at s.L w') [] w' (hk w' hR) moves_at (fun _=>rfl) (fun e=>by rw[hbig] at e;cases e) (H.setTo hb hF hs) trivial)
 ·exact h.elim
end Go.Sy
