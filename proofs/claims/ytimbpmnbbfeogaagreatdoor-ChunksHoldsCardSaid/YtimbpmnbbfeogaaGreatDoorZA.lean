/- A part of the proof of ChunksHolds. -/
import Derived.KernelRfl
import Derived.Below
import Derived.Orders
import GoSem.Core.Utf8
import Derived.Laws.Externs
import Derived.Lib.Bytealg
import Derived.RangeFuncIn
import Derived.Laws.Strings
import Derived.Laws.StructEq
import Derived.Laws.Tables
import Derived.Laws.Cells
import Derived.Laws.Entries
import Derived.Laws.AppendOwn
import Derived.Tactics
import Derived.RangeFuncLeaves
import Derived.Laws.NewBlocks
import Derived.Laws.MakeOwn
import Derived.Laws.IdiomStrings
import Derived.ArgAppend
import Derived.OrdersHeld
import Derived.TacticsIn
import Derived.OrdersIn
import Derived.Scope
import Derived.RangeFuncRecord
set_option linter.unusedVariables false
set_option linter.unusedSimpArgs false
set_option linter.unusedSectionVars false
set_option maxHeartbeats 16000000
set_option maxRecDepth 100000
namespace Go
abbrev ao:=Option Addr
theorem Xx{P:Prop}(h:P:=by first|kernel_rfl|(intros;kernel_rfl)|(intros;rfl)|decide):P:=h
theorem aBt{P:Prop}(h:P:=by first|exact Xx|(constructor<;>exact Xx)):P:=h
theorem aBu{P:Prop}(h:P:=by first|exact Xx|(constructor<;>exact aBt)):P:=h
theorem qP{P:Prop}(h:P:=by constructor<;>exact aBu):P:=h
abbrev O3:=@List.cons.injEq
abbrev k6:=@Option.bind_eq_some_iff
abbrev il:=@Option.map_eq_some_iff
abbrev ef:=@Nat.zero_le
abbrev fR:=@Bool.and_eq_true
abbrev cL:=@Nat.le_refl
abbrev el:=@List.getElem?_eq_getElem
abbrev dx:=@congrArg
abbrev l9:=@List.map_append
abbrev xk:=@List.map_take
abbrev AU:=@List.map_drop
abbrev kA:=@List.mem_of_mem_take
abbrev ka:=@List.mem_of_mem_drop
abbrev js:=@List.all_eq_true
abbrev e7:=@List.mem_cons
abbrev ek:=@Nat.le_trans
abbrev gp:=@Nat.lt_of_lt_of_le
abbrev vJ:=@List.mem_append_right
abbrev pd:=@List.mem_append_left
abbrev yY:=@Nat.blt_eq
abbrev s8:=@List.ext_getElem?
abbrev pV:=@List.getElem?_map
abbrev h8:=@Nat.lt_or_ge
abbrev nu:=@List.getElem?_eq_none
abbrev h9:=@Option.some.inj
abbrev nv:=@List.getElem?_eq_some_iff
abbrev uC:=@Nat.eq_of_beq_eq_true
abbrev gh:=@List.length_append
abbrev n2:=@List.eq_nil_of_length_eq_zero
abbrev vK:=@Bool.or_eq_true
abbrev kB:=@List.mem_cons_self
abbrev mv:=@List.length_drop
abbrev gw:=@List.length_map
abbrev lr:=@List.mem_map
abbrev jt:=@List.mem_cons_of_mem
abbrev ko:=@List.length_cons
abbrev iR:=@Nat.zero_add
abbrev pW:=@List.nil_append
abbrev JR:=@Nat.le_add_right
abbrev xh:=@List.perm_append_comm
abbrev O_:=@List.perm_append_singleton
abbrev aA:=@if_pos
abbrev ag:=@if_neg
abbrev JS:=@List.mapM_cons
abbrev JT:=@List.mem_iff_getElem?
abbrev O':=@Array.getD_eq_getD_getElem?
abbrev xi:=@List.nodup_cons
abbrev F':=@List.nodup_nil
abbrev jh:=@List.take_of_length_le
abbrev kb:=@List.getD_eq_getElem?_getD
abbrev uD:=@List.getElem?_take
abbrev s9:=@List.getElem?_drop
abbrev nw:=@Nat.eq_zero_or_pos
abbrev ait:=@List.replicate_append_replicate
abbrev Pa:=@Nat.le_of_lt
abbrev JU:=@Nat.lt_of_le_of_lt
abbrev ju:=@List.append_assoc
abbrev AX:=@List.drop_zero
abbrev kC:=@List.length_take
abbrev AY:=@Nat.min_eq_left
abbrev aiu:=@Int.fdiv_eq_ediv_of_nonneg
abbrev jN:=@Int.toNat_natCast
abbrev n3:=@List.length_replicate
abbrev Dv:=@Nat.zero_mul
abbrev Dw:=@List.take_zero
abbrev X4:=@List.drop_replicate
abbrev X5:=@List.take_append_of_le_length
abbrev vL:=@List.drop_append
abbrev AZ:=@Nat.sub_self
abbrev nx:=@List.append_nil
abbrev lM:=@decide_eq_true_eq
abbrev s_:=@List.size_toArray
abbrev Pb:=@Array.replicate_succ
abbrev Pc:=@List.push_toArray
abbrev Pd:=@List.append_toArray
abbrev X6:=@Nat.mul_le_mul
abbrev aiv:=@Int.tmod_eq_emod_of_nonneg
abbrev X7:=@List.range_succ
abbrev gi:=@List.mem_append
abbrev uE:=@List.mem_of_getElem?
abbrev oC:=@Nat.mul_one
abbrev mw:=@List.drop_eq_getElem_cons
abbrev ny:=@List.take_add_one
abbrev kp:=@decide_eq_false
abbrev l8:=@decide_eq_true
abbrev Ga:=@Bool.true_and
abbrev Gb:=@Bool.false_and
abbrev X8:=@Nat.lt_succ_iff_lt_or_eq
abbrev rU:=@List.drop_of_length_le
abbrev X9:=@Nat.add_sub_cancel_left
abbrev xj:=@List.take_append
abbrev n4:=@Int.le_refl
abbrev JV:=@List.eq_of_mem_replicate
abbrev Pe:=@List.any_eq_true
abbrev vM:=@List.getElem_mem
abbrev X_:=@List.any_eq_false
abbrev A0:=@List.Perm.append_left
abbrev oD:=@Array.getElem?_eq_some_iff
abbrev mx:=@of_decide_eq_false
abbrev lu:=@of_decide_eq_true
abbrev vH:=@List.drop_drop
abbrev F3:=@Nat.add_mul
abbrev JJ:=@Nat.mul_le_mul_right
abbrev JK:=@decide_eq_false_iff_not
abbrev AT:=@Nat.beq_eq
abbrev Dp:=@if_true
abbrev yX:=@if_false
abbrev uz:=@List.pairwise_append
abbrev xd:=@List.pairwise_cons
abbrev gg:=@List.mem_singleton
abbrev Dq:=@Array.getElem?_setIfInBounds_ne
abbrev xe:=@Ne.symm
abbrev Dr:=@List.pairwise_singleton
abbrev xf:=@List.foldl_append
abbrev AV:=@List.take_append_drop
abbrev JL:=@List.getElem_map
abbrev XN:=@List.replicate_succ
abbrev JM:=@List.flatten_cons
abbrev Ds:=@Nat.succ_mul
abbrev JN:=@Nat.add_comm
abbrev nr:=@List.getElem?_append_left
abbrev XO:=@Nat.mod_eq_of_lt
abbrev mu:=@List.getElem?_append_right
abbrev n1:=@Array.ext'
abbrev O4:=@Array.toList_map
abbrev F4:=@List.getElem?_range
abbrev aiq:=@List.getElem!_eq_getElem?_getD
abbrev JO:=@List.map_nil
abbrev uA:=@Array.getElem?_toList
abbrev AW:=@Nat.add_zero
abbrev F5:=@Nat.le_succ
abbrev vI:=@List.mem_or_eq_of_mem_set
abbrev F6:=@List.set_eq_of_length_le
abbrev F7:=@Int.eq_ofNat_of_zero_le
abbrev F8:=@Nat.sub_zero
abbrev XP:=@List.drop_eq_nil_of_le
abbrev ns:=@List.not_mem_nil
abbrev nt:=@or_false
abbrev XQ:=@List.getElem?_take_of_lt
abbrev O5:=@List.set_eq_take_append_cons_drop
abbrev F9:=@List.getElem?_set
abbrev uB:=@List.length_set
abbrev XR:=@List.drop_append_of_le_length
abbrev JP:=@Bool.false_eq_true
abbrev XS:=@Int.toNat_of_nonneg
abbrev XT:=@Bool.not_eq_true'
abbrev F_:=@Bool.and_eq_false_iff
abbrev XU:=@and_congr_right
abbrev XV:=@Nat.le_succ_of_le
abbrev xg:=@Option.some.injEq
abbrev XW:=@Array.getElem?_modify
abbrev XX:=@Classical.byContradiction
abbrev O6:=@Option.getD_some
abbrev O7:=@Nat.le_of_ble_eq_true
abbrev XY:=@List.getElem?_cons_succ
abbrev Dt:=@Array.getElem?_eq_none
abbrev Du:=@List.map_map
abbrev pU:=@List.map_cons
abbrev XZ:=@List.foldl_cons
abbrev X0:=@List.mem_range
abbrev X1:=@List.take_length
abbrev O8:=@decide_eq_decide
abbrev X2:=@Array.toArray_toList
abbrev O9:=@Nat.beq_refl
abbrev X3:=@forall_eq_or_imp
abbrev air:=@List.take_succ_eq_append_getElem
abbrev ais:=@List.take_length_add_append
abbrev JQ:=@List.mem_filter
theorem aS{P:Prop}(h:P:=by simp):P:=h
theorem M{P:Prop}(h:P:=by omega):P:=h
theorem du{P:Prop}(h:P:=by decide):P:=h
theorem yW{P:Prop}(h:P:=by cases u):P:=h
theorem mR{P:Prop}(h:P:=by cases e):P:=h
theorem F2{P:Prop}(h:P:=by cases ha):P:=h
theorem JI{P:Prop}(h:P:=by simp[hl]):P:=h
theorem JH{P:Prop}(h:P:=by cases hx):P:=h
theorem yV{P:Prop}(h:P:=by simp[hx]):P:=h
theorem jr{P:Prop}(h:P:=by kernel_rfl):P:=h
theorem cx{P:Prop}(h:P:=by assumption):P:=h
theorem ej{P:Prop}(h:P:=by simp;omega):P:=h
theorem AR{P:Prop}(h:P:=by simp[bL.g_]):P:=h
theorem hF{P:Prop}(h:P:=by intros;simp):P:=h
theorem AQ{P:Prop}(h:P:=by rw[e];decide):P:=h
theorem O2{P:Prop}(h:P:=by rw[BH];decide):P:=h
theorem FZ{P:Prop}(h:P:=by rw[xu];decide):P:=h
theorem O1{P:Prop}(h:P:=by split<;>omega):P:=h
theorem O0{P:Prop}(h:P:=by rw[j3];omega):P:=h
theorem FY{P:Prop}(h:P:=by simpa using h):P:=h
theorem Dn{P:Prop}(h:P:=by rw[c];exact hr):P:=h
theorem JG{P:Prop}(h:P:=by simpa using hk):P:=h
theorem FX{P:Prop}(h:P:=by simpa using hn):P:=h
theorem JF{P:Prop}(h:P:=by simpa using hi):P:=h
theorem Dm{P:Prop}(h:P:=by simpa using g1):P:=h
theorem s7{P:Prop}(h:P:=by simp;try omega):P:=h
theorem OZ{P:Prop}(h:P:=by rw[h.len];omega):P:=h
theorem OY{P:Prop}(h:P:=by simpa using x_):P:=h
theorem qR{P:Prop}(h:P:=by intro e;cases e):P:=h
theorem XK{P:Prop}(h:P:=by rw[<-k3];exact hw):P:=h
theorem XJ{P:Prop}(h:P:=by rw[<-hi];exact hl):P:=h
theorem AP{P:Prop}(h:P:=by intros;simp[real]):P:=h
theorem XI{P:Prop}(h:P:=by simp;exact⟨q1,q2⟩):P:=h
theorem OX{P:Prop}(h:P:=by show 4+3<=73;omega):P:=h
theorem XH{P:Prop}(h:P:=by show 26+1<=73;omega):P:=h
theorem OW{P:Prop}(h:P:=by show 70+1<=73;omega):P:=h
theorem OV{P:Prop}(h:P:=by show 27+2<=73;omega):P:=h
theorem FW{P:Prop}(h:P:=by show 30+3<=73;omega):P:=h
theorem JE{P:Prop}(h:P:=by show 7+11<=73;omega):P:=h
theorem OU{P:Prop}(h:P:=by show 18+9<=73;omega):P:=h
theorem XG{P:Prop}(h:P:=by have:=aj.size;omega):P:=h
theorem OT{P:Prop}(h:P:=by unfold maxLen;omega):P:=h
theorem OS{P:Prop}(h:P:=by rw[hm] at e;cases e):P:=h
theorem vG{P:Prop}(h:P:=by intro _ _ e;cases e):P:=h
theorem XF{P:Prop}(h:P:=by rw[hp] at e;cases e):P:=h
theorem OR{P:Prop}(h:P:=by simp[Value.oneCell']):P:=h
theorem XE{P:Prop}(h:P:=by unfold cV.ptr;rw[aw]):P:=h
theorem JD{P:Prop}(h:P:=by rw[vW];omega):P:=h
theorem OQ{P:Prop}(h:P:=by intro e;subst e;omega):P:=h
theorem XD{P:Prop}(h:P:=by rw[mv];omega):P:=h
theorem XC{P:Prop}(h:P:=by rw[qG,aA M]):P:=h
theorem XB{P:Prop}(h:P:=by rw[e];exact xX.2 M):P:=h
theorem rT{P:Prop}(h:P:=by first|assumption|(simp;omega)):P:=h
theorem XA{P:Prop}(h:P:=by rw[Lib.byteCells_length];omega):P:=h
theorem aij{P:Prop}(h:P:=by show w.heap.size<=w.heap.size+1;omega):P:=h
theorem aii{P:Prop}(h:P:=by show w.heap.size+1≠w.heap.size;omega):P:=h
theorem aih{P:Prop}(h:P:=by show w.heap.size≠w.heap.size+1;omega):P:=h
theorem aif{P:Prop}(h:P:=by rw[show b+1+k=b+(k+1) by omega];exact hk):P:=h
theorem Xz{P:Prop}(h:P:=by rw[gw,kC];omega):P:=h
theorem aie{P:Prop}(h:P:=by rw[tY,ag M,ag M]):P:=h
theorem aid{P:Prop}(h:P:=by rw[tH,ag M,ag M]):P:=h
theorem aic{P:Prop}(h:P:=by rw[show wI s.av.bu n=false from DU];decide):P:=h
theorem Xy{P:Prop}(h:P:=by rw[ra,ag M,aA M]):P:=h
theorem XM{P:Prop}(h:P:=by show 33+(Int.toNat (s.aJ.c_:Int))*18+18<=73;omega):P:=h
theorem aip{P:Prop}(h:P:=by have:=dx List.length u;rw[j3,j3] at this;omega):P:=h
theorem XL{P:Prop}(h:P:=by rw[ag M,ag M,ag M]):P:=h
theorem aio{P:Prop}(h:P:=by rw[he];rintro⟨q1,q2⟩;rcases aW with r|r;exact r q1;exact q2 r):P:=h
theorem ain{P:Prop}(h:P:=by have:=hc _ hmx;show(bb xs i.toNat).cs.length<=1073741824;omega):P:=h
theorem aim{P:Prop}(h:P:=by first|assumption|exact Laid.below cx cx):P:=h
theorem ail{P:Prop}(h:P:=by first|assumption|exact U.refl _ _|exact U.dD cx (by first|assumption|exact U.refl _ _)|exact U.Qj cx (by first|assumption|exact U.refl _ _)):P:=h
theorem aik{P:Prop}(h:P:=by first|assumption|exact U.refl _ _|exact U.dD cx ail|exact U.Qj cx ail):P:=h
theorem qQ{P:Prop}(h:P:=by first|assumption|exact U.refl _ _|exact U.dD cx aik|exact U.Qj cx aik):P:=h
theorem gv{P:Prop}(h:P:=by first|assumption|exact Laid.below cx cx|exact Laid.O qQ aj):P:=h
end Go
namespace Go.Abs
noncomputable section
inductive Tr(eg:Type) where
 |leaf
 |node (l:Tr eg) (v:Option eg) (r:Tr eg)
namespace Tr
variable{eg:Type}
noncomputable def get(t:Tr eg):Nat->Option eg:=
 Tr.rec (motive:=λ_=>Nat->Option eg) (λ_=>none)
  (λ_ v _ amq aC k=>Bool.rec (Bool.rec (aC (Nat.div (Nat.sub k 1) 2)) (amq (Nat.div (Nat.sub k 1) 2)) (Nat.beq (Nat.mod k 2) 1)) v (Nat.beq k 0)) t
noncomputable def Db(d:Nat):Nat->eg->Tr eg:=
 Nat.rec (motive:=λ_=>Nat->eg->Tr eg) (λ_ x=>node leaf (some x) leaf)
  (λ_ s k x=>Bool.rec (Bool.rec (node leaf none (s (Nat.div (Nat.sub k 1) 2) x)) (node (s (Nat.div (Nat.sub k 1) 2) x) none leaf) (Nat.beq (Nat.mod k 2) 1))
   (node leaf (some x) leaf) (Nat.beq k 0)) d
noncomputable def set(t:Tr eg):Nat->eg->Tr eg:=
 Tr.rec (motive:=λ_=>Nat->eg->Tr eg) (λk x=>Db k k x)
  (λl v r cJ awb k x=>Bool.rec (Bool.rec (node l v (awb (Nat.div (Nat.sub k 1) 2) x)) (node (cJ (Nat.div (Nat.sub k 1) 2) x) v r) (Nat.beq (Nat.mod k 2) 1))
   (node l (some x) r) (Nat.beq k 0)) t
end Tr
structure Pl where
 DX:Nat
 gen:Nat
 off:Nat
inductive aix where
 |exact(n:Nat)
 |WR
inductive AVal where
 |bool (b:Bool)
 |int (k:IntKind) (n:Int)
 |str (s:List UInt8)
 |ptr (p:Option Pl)
 |slice (p:Option Pl) (len:Nat) (cap:aix)
 |aiw (p:Pl) (low es:Nat)
 |map (r:Option Nat)
 |func (fn:Fn) (first captured:List AVal)
 |nilFunc
 |iface (t:TypeId) (v:AVal)
 |nilIface
 |agg (cs:List AVal)
 |tuple (vs:List AVal)
structure aiy where
 ety:TypeId
 es:Nat
 size:Nat
 elems:Tr (List AVal×Nat)
 aBH:Bool
 gen:Nat
 start:Nat
 aBI:Nat
 mark:Bool
 NQ:Bool
inductive pe where
 |cells (c:aiy)
 |aDM (s:List UInt8) (pos:Nat)
 |aBE (k:IntKind) (es:List (Int×AVal))
 |aDB (m:Option Nat)
structure l_ where
 a0:Option pe
 dd:Option pe
 a2:Option pe
 a3:Option pe
 a4:Option pe
 a5:Option pe
 iG:Option pe
 nC:Option pe
 nD:Option pe
 a9:Option pe
 Ba:Option pe
 xx:Option pe
 xy:Option pe
 Bb:Option pe
 Bc:Option pe
 Bd:Option pe
structure pk where
 a0:l_
 dd:l_
 a2:l_
 a3:l_
 a4:l_
 a5:l_
 iG:l_
 nC:l_
 nD:l_
 a9:l_
 Ba:l_
 xx:l_
 xy:l_
 Bb:l_
 Bc:l_
 Bd:l_
structure pn where
 a0:pk
 dd:pk
 a2:pk
 a3:pk
 a4:pk
 a5:pk
 iG:pk
 nC:pk
 nD:pk
 a9:pk
 Ba:pk
 xx:pk
 xy:pk
 Bb:pk
 Bc:pk
 Bd:pk
structure aiL where
 a0:pn
 dd:pn
 a2:pn
 a3:pn
 a4:pn
 a5:pn
 iG:pn
 nC:pn
 nD:pn
 a9:pn
 Ba:pn
 xx:pn
 xy:pn
 Bb:pn
 Bc:pn
 Bd:pn
structure aiI where
 aDJ:aiL
 next:Nat
 low:Nat
section
variable(P:Program)
def qx(ms:List Nat):List Edge->Nat
 |[]=>0
 |e::es=>match Region.binds .any e with
  |false=>qx ms es
  |true=>match ms[e.on]? with
   |some x=>Nat.lor (Nat.lor (qx ms es) x) (Nat.shiftLeft 1 e.on)
   |none=>qx ms es
def z8:List Nat->List Oper->List Nat
 |ms,[]=>ms
 |ms,o::rest=>z8 (ms++[qx ms o.after.toList]) rest
def je(kj:Array Oper):List Nat:=z8 [] kj.toList
def k_(ms:List Nat)(i j:Nat):Bool:=match ms[j]? with
 |some m=>Nat.testBit m i
 |none=>false
end
end
end Go.Abs
namespace Go.Sy
noncomputable section
inductive bL where
 |lt (a b:Int)
 |le (a b:Int)
 |eq (a b:Int)
 |ok (x:Bool)
 |i_ (q:Prop)
 |fF (e:bL)
def bL.g_:bL->Bool->Prop
 | .lt a b,true=>a<b
 | .lt a b,false=>b<=a
 | .le a b,true=>a<=b
 | .le a b,false=>b<a
 | .eq a b,true=>a=b
 | .eq a b,false=>a≠b
 | .ok x,true=>x=true
 | .ok x,false=>x=false
 | .i_ q,true=>q
 | .i_ q,false=>¬q
 | .fF e,true=>e.g_ false
 | .fF e,false=>e.g_ true
def bL.val(e:bL):Bool:=@decide (e.g_ true) (Classical.propDecidable _)
def bL.ll:bL->Bool
 | .ok x=>x
 |e=>e.val
inductive aE where
 |int (k:IntKind) (n:Int)
 |lit (b:Bool)
 |bool (e:bL)
 |str (s:List UInt8)
 |ptr (p:ao)
 |aY (a:Addr) (o:Nat)
 |cJ (p:ao) (n c:Nat)
 |gU (k off:Nat)
 |rz (k off n c:Nat)
 |agg (cs:List aE)
 |j' (cs:List aE)
 |fn (f:Nat) (first cap:List aE)
 |val (v:Value)
def aE.scalar:aE->Bool
 | .agg _=>false
 | .j' _=>false
 |_=>true
mutual
def eX(n:Nat):aE->Prop
 | .gU k _=>k<n
 | .rz k _ _ _=>k<n
 | .agg cs=>okvs n cs/\cs.all aE.scalar=true
 | .j' cs=>okvs n cs
 | .fn _ a b=>okvs n a/\okvs n b
 | .val v=>v.oneCell'=true
 |_=>True
def okvs(n:Nat):List aE->Prop
 |[]=>True
 |v::vs=>eX n v/\okvs n vs
end
structure ph where
 G:Type
 n:Nat
 enc:G->List aE
 ok:∀x,okvs 0 (enc x)/\(enc x).all aE.scalar=true/\(enc x).length=n
class k7 where
 awt:TypeId->Option ph
structure dh where
 aF:Nat
 ty:TypeId
 cells:List aE
 gK:Nat
def vU(a:Addr):Nat->Value
 |0=> .pointer (some a)
 |n+1=> .pointer (some (a.add (n+1)))
mutual
def real(β:List Nat):aE->Value
 | .int k n=> .int k n
 | .lit b=> .bool b
 | .bool e=> .bool e.ll
 | .str s=> .string ⟨s.toArray⟩
 | .ptr p=> .pointer p
 | .aY a o=>vU a o
 | .cJ p n c=> .slice p n c
 | .gU k off=> .pointer (some ⟨β.getD k 0,off,none⟩)
 | .rz k off n c=> .slice (some ⟨β.getD k 0,off,none⟩) n c
 | .agg cs=> .agg (bx β cs).toArray
 | .j' cs=> .tuple (bx β cs).toArray
 | .fn f first cap=> .func (.func f) (bx β first).toArray (bx β cap).toArray
 | .val v=>v
def bx(β:List Nat):List aE->List Value
 |[]=>[]
 |v::vs=>real β v::bx β vs
end
def a6:List dh->List Nat
 |[]=>[]
 |l::ab=>l.aF::a6 ab
def aE.dI:aE->List aE
 | .agg cs=>cs
 |v=>[v]
def At(w:World)(a:Addr)(o:Nat)(vs:List Value):Prop:=∀i v,vs[i]? =some v->w.cell? (a.add (o+i))=some v
abbrev hM:=Abs.Tr (Option aE)
def hM.at(G:hM)(t:Nat):Option aE:=match G.get t with
 |some (some v)=>some v
 |_=>none
def M7:Value->Option aE
 | .bool b=>some (.lit b)
 | .int k n=>some (.int k n)
 | .string s=>some (.str s.data.toList)
 | .pointer none=>some (.ptr none)
 | .slice none n c=>some (.cJ none n c)
 | .map none=>some (.val (.map none))
 | .nilFunc=>some (.val .nilFunc)
 | .nilIface=>some (.val .nilIface)
 |_=>none
def IP:List Value->Option (List aE)
 |[]=>some []
 |v::vs=>(M7 v).bind λa=>(IP vs).map (a::·)
def CM:Value->Option aE
 | .agg cs=>(IP cs.toList).map .agg
 | .tuple cs=>(IP cs.toList).map .j'
 |v=>M7 v
section
variable(P:Program)
def eval(G:hM):Operand->Option aE
 | .tmp t=>G.at t
 | .const v=>CM v
 | .global g=>match Nat.blt g P.globals.size with
  |true=>some (.aY ⟨g,0,none⟩ 0)
  |false=>none
 | .func f=>some (.fn f [] [])
def u1(G:hM):List Operand->Option (List aE)
 |[]=>some []
 |x::xs=>(eval P G x).bind λa=>(u1 G xs).map (a::·)
def kx(t:TypeId):Option Nat:=(P.info? t).map (·.size)
def Cw(t:TypeId):Option Bool:=
 match P.underlying t with
 |some (.struct _)=>some true
 |some (.array _ _)=>some true
 |some _=>some false
 |none=>none
def ta(t:TypeId):Option aE:=(P.info? t).bind λi=>i.zero.bind λv=>(CM v).bind λz=>match z.dI.all aE.scalar with
 |true=>some z
 |false=>none
inductive mC where
 |int (k:IntKind)
 |bool
 |str
 |ptr
 |cJ
 |val
def ag5:aE->Option mC
 | .int k _=>some (.int k)
 | .lit _=>some .bool
 | .bool _=>some .bool
 | .str _=>some .str
 | .ptr _=>some .ptr
 | .aY _ _=>some .ptr
 | .cJ _ _ _=>some .cJ
 | .val _=>some .val
 |_=>none
def rL:List aE->Option (List mC)
 |[]=>some []
 |v::vs=>(ag5 v).bind λa=>(rL vs).map (a::·)
def zm:List mC->(List aE->Prop)->Prop
 |[],K=>K []
 | .int k::s,K=>∃n:Int,zm s λxs=>K (.int k n::xs)
 | .bool::s,K=>∃b:Bool,zm s λxs=>K (.bool (.ok b)::xs)
 | .str::s,K=>∃l:List UInt8,zm s λxs=>K (.str l::xs)
 | .ptr::s,K=>∃p:ao,zm s λxs=>K (.ptr p::xs)
 | .cJ::s,K=>∃(p:ao) (n c:Nat),zm s λxs=>K (.cJ p n c::xs)
 | .val::s,K=>∃v:Value,v.oneCell'=true/\zm s λxs=>K (.val v::xs)
def BK[k7](t:TypeId)(s:List mC)(K:List aE->Prop):Prop:=match k7.awt t with
 |some c=>match Nat.beq c.n s.length with
  |true=>∃x:c.G,K (c.enc x)
  |false=>False
 |none=>zm s K
def qY:List mC->Type
 |[]=>World->Prop
 | .int _::s=>Int->qY s
 | .bool::s=>Bool->qY s
 | .str::s=>List UInt8->qY s
 | .ptr::s=>Option Addr->qY s
 | .cJ::s=>Option Addr->Nat->Nat->qY s
 | .val::s=>Value->qY s
def tg:List mC->Type
 |[]=>Nat
 | .int _::s=>Int->tg s
 | .bool::s=>Bool->tg s
 | .str::s=>List UInt8->tg s
 | .ptr::s=>Option Addr->tg s
 | .cJ::s=>Option Addr->Nat->Nat->tg s
 | .val::s=>Value->tg s
def r0:(s:List mC)->qY s->tg s->(List aE->(World->Prop)->Nat->Prop)->Prop
 |[],bo,e8,K=>K [] bo e8
 | .int k::s,bo,e8,K=>∀n:Int,r0 s (bo n) (e8 n) λxs=>K (.int k n::xs)
 | .bool::s,bo,e8,K=>∀b:Bool,r0 s (bo b) (e8 b) λxs=>K (.bool (.ok b)::xs)
 | .str::s,bo,e8,K=>∀l:List UInt8,r0 s (bo l) (e8 l) λxs=>K (.str l::xs)
 | .ptr::s,bo,e8,K=>∀p:ao,r0 s (bo p) (e8 p) λxs=>K (.ptr p::xs)
 | .cJ::s,bo,e8,K=>∀(p:ao) (n c:Nat),r0 s (bo p n c) (e8 p n c) λxs=>K (.cJ p n c::xs)
 | .val::s,bo,e8,K=>∀v:Value,v.oneCell'=true->r0 s (bo v) (e8 v) λxs=>K (.val v::xs)
def MD(a b:IntKind):Bool:=match a,b with
 | .i8, .i8| .i16, .i16| .i32, .i32| .i64, .i64| .u8, .u8| .u16, .u16| .u32, .u32| .u64, .u64=>true
 |_,_=>false
def gF:(s:List mC)->qY s->tg s->List aE->((World->Prop)->Nat->Prop)->Prop
 |[],bo,e8,[],K=>K bo e8
 | .int k::s,bo,e8, .int k' n::xs,K=>match MD k k' with
  |true=>gF s (bo n) (e8 n) xs K
  |false=>False
 | .bool::s,bo,e8, .lit b::xs,K=>gF s (bo b) (e8 b) xs K
 | .bool::s,bo,e8, .bool (.ok b)::xs,K=>gF s (bo b) (e8 b) xs K
 | .bool::s,bo,e8, .bool e::xs,K=>(e.g_ true->gF s (bo true) (e8 true) xs K)/\(e.g_ false->gF s (bo false) (e8 false) xs K)
 | .str::s,bo,e8, .str l::xs,K=>gF s (bo l) (e8 l) xs K
 | .ptr::s,bo,e8, .ptr p::xs,K=>gF s (bo p) (e8 p) xs K
 | .ptr::s,bo,e8, .aY a o::xs,K=>gF s (bo (some (a.add o))) (e8 (some (a.add o))) xs K
 | .cJ::s,bo,e8, .cJ p n c::xs,K=>gF s (bo p n c) (e8 p n c) xs K
 | .val::s,bo,e8, .val v::xs,K=>gF s (bo v) (e8 v) xs K
 |_,_,_,_,_=>False
def ay(x:Int):Prop:= -9223372036854775808<=x/\x<=9223372036854775807
def arith(k:IntKind)(x:Int)(K:aE->Prop):Prop:=match k with
 | .i64=>ay x/\K (.int .i64 x)
 |k=>K (.int k (k.wrap x))
def TG(op:BinOp)(k:IntKind)(a b:Int)(K:aE->Prop):Prop:=match op with
 | .add=>arith k (a+b) K
 | .sub=>arith k (a-b) K
 | .mul=>arith k (a*b) K
 | .eql=>K (.bool (.eq a b))
 | .neq=>K (.bool (.fF (.eq a b)))
 | .lss=>K (.bool (.lt a b))
 | .leq=>K (.bool (.le a b))
 | .gtr=>K (.bool (.lt b a))
 | .geq=>K (.bool (.le b a))
 | .and=>K (.int k (bits .and k a b))
 | .or=>K (.int k (bits .or k a b))
 | .xor=>K (.int k (bits .xor k a b))
 | .andNot=>K (.int k (bits .andNot k a b))
 | .quo=>match k with
  | .i64=>(0<=a/\ay a/\0<b)/\K (.int .i64 (a/b))
  |_=>False
 | .rem=>match k with
  | .i64=>(0<=a/\ay a/\0<b)/\K (.int .i64 (a%b))
  |_=>False
 |_=>False
def yO(k:IntKind)(a b:Int):Int:=k.wrap (a*2^(min b.toNat k.bits))
def iA(k:IntKind)(a b:Int):Int:=a.fdiv (2^(min b.toNat k.bits))
def apT:BinOp->Bool
 | .shl| .shr=>true
 |_=>false
def avZ(op:BinOp)(k:IntKind)(a b:Int)(K:aE->Prop):Prop:=match op with
 | .shl=>(0<=b)/\K (.int k (yO k a b))
 | .shr=>(0<=b)/\K (.int k (iA k a b))
 |_=>False
def Ws(op:BinOp)(a b:List UInt8)(K:aE->Prop):Prop:=match op with
 | .add=>a.length+b.length<9223372036854775807/\K (.str (a++b))
 | .eql=>K (.bool (.i_ (a=b)))
 | .neq=>K (.bool (.fF (.i_ (a=b))))
 |_=>False
def u3(op:BinOp)(e:bL)(K:aE->Prop):Prop:=match op with
 | .eql=>K (.bool e)
 | .neq=>K (.bool (.fF e))
 |_=>False
def tW(op:BinOp)(b:Bool)(K:aE->Prop):Prop:=match op with
 | .eql=>K (.lit b)
 | .neq=>match b with
  |true=>K (.lit false)
  |false=>K (.lit true)
 |_=>False
def Zn(β:List Nat)(op:BinOp)(t:TypeId)(x y:List aE)(K:aE->Prop):Prop:=
 match P.eqGuardType P.depth t with
 |false=>∃b:Bool,(∀w,(Op.equal t (.agg (bx β x).toArray) (.agg (bx β y).toArray)).run P w= .ok b w)/\u3 op (.ok b) K
 |true=>False
def Ik(t:TypeId):Bool:=match P.underlying t with
 |some (.pointer _)=>true
 |_=>false
def TK(t:TypeId):Bool:=match P.underlying t with
 |some (.slice _)=>true
 |_=>false
def TH(t:TypeId):Bool:=match P.underlying t with
 |some (.func _ _ _)=>true
 |_=>false
def EF(t:TypeId):Bool:=match P.underlying t with
 |some .bool=>true
 |_=>false
def adM:Operand->Bool
 | .const _=>true
 |_=>false
def Qk(β:List Nat)(c:Bool)(op:BinOp)(t:TypeId)(x y:aE)(K:aE->Prop):Prop:=match x,y with
 | .int k a, .int k' b=>match apT op with
  |true=>avZ op k a b K
  |false=>match MD k k' with
   |true=>TG op k a b K
   |false=>False
 | .str a, .str b=>Ws op a b K
 | .agg a, .agg b=>Zn P β op t a b K
 | .ptr p, .ptr none=>match Ik P t with
  |true=>u3 op (.i_ (p=none)) K
  |false=>False
 | .aY _ _, .ptr none=>match Ik P t with
  |true=>tW op false K
  |false=>False
 | .gU _ _, .ptr none=>match Ik P t with
  |true=>tW op false K
  |false=>False
 | .fn _ _ _, .val .nilFunc=>match TH P t with
  |true=>tW op false K
  |false=>False
 | .val v, .val .nilIface=>match c with
  |true=>∃b:Bool,(∀w,(Op.equal t v .nilIface).run P w= .ok b w)/\u3 op (.ok b) K
  |false=>False
 | .cJ p _ _, .cJ none _ _=>match TK P t with
  |true=>u3 op (.i_ (p=none)) K
  |false=>False
 | .lit a, .lit b=>match EF P t with
  |true=>match a,b with
   |true,true=>tW op true K
   |false,false=>tW op true K
   |_,_=>tW op false K
  |false=>False
 | .bool e, .lit b=>match EF P t with
  |true=>match b with
   |true=>u3 op e K
   |false=>u3 op (.fF e) K
  |false=>False
 | .lit b, .bool e=>match EF P t with
  |true=>match b with
   |true=>u3 op e K
   |false=>u3 op (.fF e) K
  |false=>False
 | .bool e, .bool f=>match EF P t with
  |true=>u3 op (.i_ (e.val=f.val)) K
  |false=>False
 |_,_=>False
def WT(op:UnOp)(x:aE)(K:aE->Prop):Prop:=match op,x with
 | .not, .lit b=>match b with
  |true=>K (.lit false)
  |false=>K (.lit true)
 | .not, .bool e=>K (.bool (.fF e))
 | .neg, .int .i64 n=>ay (0-n)/\K (.int .i64 (0-n))
 |_,_=>False
def fieldAt(s:TypeId)(x:aE)(i:Nat)(K:aE->Prop):Prop:=match P.underlying s with
 |some (.struct fields)=>match fields[i]? with
  |some f=>match kx P f.type with
   |some n=>match Nat.blt 0 n with
    |true=>match x with
     | .gU k o=>K (.gU k (o+f.offset))
     | .aY a o=>K (.aY a (o+f.offset))
     | .ptr p=>∃a,p=some a/\K (.aY a f.offset)
     |_=>False
    |false=>False
   |none=>False
  |none=>False
 |_=>False
def part(t:TypeId)(cs:List aE)(off:Nat)(K:aE->Prop):Prop:=match Cw P t with
 |some true=>match kx P t with
  |some n=>match Nat.ble (off+n) cs.length with
   |true=>K (.agg ((cs.drop off).take n))
   |false=>False
  |none=>False
 |some false=>match cs[off]? with
  |some v=>K v
  |none=>False
 |none=>False
def field(s:TypeId)(x:aE)(i:Nat)(K:aE->Prop):Prop:=match P.underlying s,x with
 |some (.struct fields), .agg cs=>match fields[i]? with
  |some f=>part P f.type cs f.offset K
  |none=>False
 |_,_=>False
def Q9(i:Int):Nat->Nat->(Nat->Prop)->Prop
 |0,_,_=>True
 |n+1,j,K=>(i=j->K j)/\Q9 i n (j+1) K
def My(i:Int)(n:Nat)(K:Nat->Prop):Prop:=match i with
 | .ofNat m=>match Nat.blt m n with
  |true=>K m
  |false=>False
 |_=>False
def adO:Operand->Bool
 | .const _=>true
 |_=>false
def JA(lit:Bool)(i:Int)(n:Nat)(K:Nat->Prop):Prop:=match lit with
 |true=>My i n K
 |false=>(0<=i/\i<n)/\Q9 i n 0 K
def indexAt(t:TypeId)(x:aE)(lit:Bool)(i:Int)(K:aE->Prop):Prop:=match P.underlying t,x with
 |some (.array n e), .gU k o=>match kx P e with
  |some s=>JA lit i n λj=>K (.gU k (o+j*s))
  |none=>False
 |some (.array n e), .aY a o=>match kx P e with
  |some s=>match lit with
   |true=>My i n λj=>K (.aY a (o+j*s))
   |false=>(0<=i/\i<n)/\K (.aY a (o+i.toNat*s))
  |none=>False
 |some (.slice e), .cJ p n _=>match kx P e with
  |some s=>∃a,p=some a/\(0<=i/\i<n)/\K (.aY a (i.toNat*s))
  |none=>False
 |some (.slice e), .rz k o n _=>match kx P e with
  |some s=>JA lit i n λj=>K (.gU k (o+j*s))
  |none=>False
 |_,_=>False
def ir(s:List UInt8)(i:Int):Int:=(s.getD i.toNat 0).toNat
def index(t:TypeId)(x:aE)(lit:Bool)(i:Int)(K:aE->Prop):Prop:=match P.underlying t,x with
 |some (.array n e), .agg cs=>match kx P e with
  |some s=>JA lit i n λj=>part P e cs (j*s) K
  |none=>False
 |some .string, .str s=>(0<=i/\i<s.length)/\K (.int .u8 (ir s i))
 |_,_=>False
def kk(n:Int):List UInt8:=(Utf8.encode n).data.toList
def Ob(a:Addr):Nat->Option Addr
 |0=>some a
 |n+1=>some (a.add (n+1))
def cM(p:ao)(c lo es:Nat):Option Addr:=if c=lo then p else p.map (·.add (lo*es))
def pL(lC:Operand->Option aE)(d:Int):Option Operand->Option Int
 |none=>some d
 |some x=>match lC x with
  |some (.int .i64 n)=>some n
  |_=>none
def slice(t:TypeId)(x:aE)(lo hi o1:Option Operand)(lC:Operand->Option aE)(K:aE->Prop):Prop:=match o1 with
 |some _=>match P.underlying t,x,hi with
  |some (.slice e), .cJ p _ c,some hi=>match kx P e,pL lC 0 lo,pL lC 0 (some hi),pL lC 0 o1 with
   |some s,some l,some h,some m=>(0<=l/\l<=h/\h<=m/\m<=c)/\K (.cJ (cM p m.toNat l.toNat s) (h-l).toNat (m-l).toNat)
   |_,_,_,_=>False
  |_,_,_=>False
 |none=>match P.underlying t,x with
  |some .string, .str s=>match pL lC 0 lo,pL lC s.length hi with
   |some l,some h=>(0<=l/\l<=h/\h<=s.length)/\K (.str ((s.drop l.toNat).take (h-l).toNat))
   |_,_=>False
  |some (.slice e), .cJ p n c=>match kx P e,pL lC 0 lo,pL lC n hi with
   |some s,some l,some h=>(0<=l/\l<=h/\h<=c)/\K (.cJ (cM p c l.toNat s) (h-l).toNat (c-l.toNat))
   |_,_,_=>False
  |some (.array n e), .aY a o=>match kx P e,pL lC 0 lo,pL lC n hi with
   |some s,some l,some h=>(0<=l/\l<=h/\h<=n)/\K (.cJ (cM (Ob a o) n l.toNat s) (h-l).toNat (n-l.toNat))
   |_,_,_=>False
  |_,_=>False
def extract(x:aE)(i:Nat)(K:aE->Prop):Prop:=match x with
 | .j' vs=>match vs[i]? with
  |some v=>K v
  |none=>False
 |_=>False
def convert(s d:TypeId)(x:aE)(K:aE->Prop):Prop:=match P.underlying s,P.underlying d,x with
 |some (.int _),some (.int k), .int k' n=>match MD k k' with
  |true=>match k with
   | .i64=>ay n/\K (.int .i64 n)
   |k=>K (.int k (k.wrap n))
  |false=>match k with
   | .i64=>ay n/\K (.int .i64 n)
   |k=>K (.int k (k.wrap n))
 |some .string,some .string, .str l=>K (.str l)
 |some (.int _),some .string, .int _ n=>K (.str (kk n))
 |_,_,_=>False
def z_(less:Bool)(a:Int):List aE->(aE->Prop)->Prop
 |[],K=>K (.int .i64 a)
 | .int .i64 b::vs,K=>match less with
  |true=>z_ less (min a b) vs K
  |false=>z_ less (max a b) vs K
 |_,_=>False
def lenOf(t:TypeId)(x:aE)(K:aE->Prop):Prop:=match P.underlying t,x with
 |some .string, .str s=>K (.int .i64 s.length)
 |some (.slice _), .cJ _ n _=>K (.int .i64 n)
 |some (.slice _), .rz _ _ n _=>K (.int .i64 n)
 |some (.array n _),_=>K (.int .i64 n)
 |_,_=>False
def QC(b:Builtin)(jF:List TypeId)(args:List aE)(K:aE->Prop):Prop:=match b,jF,args with
 | .len,[t],[x]=>lenOf P t x K
 | .cap,[t],[x]=>match P.underlying t,x with
  |some (.slice _), .cJ _ _ c=>K (.int .i64 c)
  |_,_=>False
 | .min,_, .int .i64 a::vs=>z_ true a vs K
 | .max,_, .int .i64 a::vs=>z_ false a vs K
 |_,_,_=>False
def Np:List Field->Option (List (Nat×Nat))
 |[]=>some []
 |f::lV=>(kx P f.type).bind λs=>(Np lV).map ((f.offset,s)::·)
def fill(j6:Nat->Option (Nat×Nat))(cells:List aE):List (Nat×aE)->Option (List aE)
 |[]=>some cells
 |(i,v)::rest=>match j6 i with
  |none=>none
  |some (off,n)=>match Nat.beq v.dI.length n&&Nat.ble (off+n) cells.length&&v.dI.all aE.scalar with
   |true=>fill j6 (cells.take off++(v.dI++cells.drop (off+n))) rest
   |false=>none
def EX(G:hM):List (Nat×Operand)->Option (List (Nat×aE))
 |[]=>some []
 |(i,x)::xs=>(eval P G x).bind λa=>(EX G xs).map ((i,a)::·)
def build(t:TypeId)(a_:List (Nat×aE)):Option aE:=(ta P t).bind λz=>match P.underlying t with
 |some (.struct fields)=>(Np P fields.toList).bind λaP=>(fill (λi=>aP[i]?) z.dI a_).map .agg
 |some (.array _ e)=>(kx P e).bind λs=>(fill (λi=>some (i*s,s)) z.dI a_).map .agg
 |_=>none
def sS(z:List aE):Nat->List aE
 |0=>[]
 |n+1=>z++sS z n
def KF(t:TypeId)(n:Nat)(a_:List (Nat×aE)):Option (TypeId×List aE):=match P.underlying t with
 |some (.slice e)=>(kx P e).bind λs=>(ta P e).bind λz=>match Nat.blt 0 s&&Nat.blt 0 n&&Nat.blt (n*s) 16777216&&Nat.beq z.dI.length s with
  |true=>(fill (λi=>some (i*s,s)) (sS z.dI n) a_).map λcs=>(e,cs)
  |false=>none
 |_=>none
def tv(l:List UInt8):List Value:=l.map λx=> .int .u8 x.toNat
def E_(L:List dh)(k off n:Nat):Option (List aE):=match L[k]? with
 |some l=>match Nat.ble (off+n) l.cells.length with
  |true=>some ((l.cells.drop off).take n)
  |false=>none
 |none=>none
def Xq(L:List dh)(k off:Nat)(vs:List aE):Option (List dh):=match L[k]? with
 |some l=>match Nat.ble (off+vs.length) l.cells.length with
  |true=>some (L.take k++{l with cells:=l.cells.take off++(vs++l.cells.drop (off+vs.length)),gK:=l.gK+1}::L.drop (k+1))
  |false=>none
 |none=>none
def Gw(agg:Bool)(cs:List aE)(K:aE->Prop):Prop:=match agg with
 |true=>K (.agg cs)
 |false=>match cs with
  |[v]=>K v
  |_=>False
def IL(aD:List Nat)(b:Nat)(Q:Prop):Prop:=match aD with
 |[]=>Q
 |d::cf=>b∉d::cf/\Q
variable[k7]
def load(L:List dh)(aD:List Nat)(w:World)(t:TypeId)(x:aE)(K:aE->Prop):Prop:=match kx P t,Cw P t,ta P t with
 |some n,some g,some z=>match Nat.beq z.dI.length n with
  |false=>False
  |true=>match x with
  | .gU k o=>match E_ L k o n with
   |some cs=>Gw g cs K
   |none=>False
  | .aY a o=>match rL z.dI with
   |some s=>IL aD a.block (BK t s λcs=>At w a o (bx (a6 L) cs)/\Gw g cs K)
   |none=>False
  | .ptr p=>match rL z.dI with
   |some s=>∃a,p=some a/\IL aD a.block (BK t s λcs=>At w a 0 (bx (a6 L) cs)/\Gw g cs K)
   |none=>False
  |_=>False
 |_,_,_=>False
def on(x:Option aE)(K:aE->Prop):Prop:=match x with
 |some v=>K v
 |none=>False
def QB(o:Op):Bool:=match o with
 | .move _| .assign _| .pick _ _ _| .build _ _| .nilCheck _| .binOp _ _ _ _ _| .unOp _ _ _| .slice _ _ _ _ _| .fieldAddr _ _ _
 | .field _ _ _| .indexAddr _ _ _| .index _ _ _| .extract _ _| .makeFunc _ _ _| .load _ _=>true
 | .convert s d _=>match P.underlying s,P.underlying d with
  |some .string,some (.slice _)=>false
  |some (.slice _),some .string=>false
  |some (.slice _),some (.slice _)=>false
  |_,_=>true
 | .call {callee:= .builtin b, .. }=>match b with
  | .len| .cap| .min| .max=>true
  |_=>false
 |_=>false
def calm(L:List dh)(aD:List Nat)(w:World)(G:hM)(o:Op)(K:aE->Prop):Prop:=match o with
 | .move x=>on (eval P G x) K
 | .assign x=>on (eval P G x) K
 | .pick c a b=>match eval P G c with
  |some (.lit true)=>on (eval P G a) K
  |some (.lit false)=>on (eval P G b) K
  |_=>False
 | .build t a_=>on ((EX P G a_.toList).bind λa_=>build P t a_) K
 | .nilCheck x=>match eval P G x with
  |some (.aY a o)=>K (.aY a o)
  |some (.gU k o)=>K (.gU k o)
  |some (.ptr p)=>∃a,p=some a/\K (.aY a 0)
  |some (.cJ p n c)=>K (.cJ p n c)
  |some (.fn f x y)=>K (.fn f x y)
  |_=>False
 | .binOp op t x y _=>on (eval P G x) λa=>on (eval P G y) λb=>Qk P (a6 L) (adM y) op t a b K
 | .unOp op _ x=>on (eval P G x) λa=>WT op a K
 | .convert s d x=>on (eval P G x) λa=>convert P s d a K
 | .slice t x lo hi o1=>on (eval P G x) λa=>slice P t a lo hi o1 (eval P G) K
 | .fieldAddr s x i=>on (eval P G x) λa=>fieldAt P s a i K
 | .field s x i=>on (eval P G x) λa=>field P s a i K
 | .indexAddr t x i=>on (eval P G x) λa=>match eval P G i with
  |some (.int _ n)=>indexAt P t a (adO i) n K
  |_=>False
 | .index t x i=>on (eval P G x) λa=>match eval P G i with
  |some (.int _ n)=>index P t a (adO i) n K
  |_=>False
 | .extract x i=>on (eval P G x) λa=>extract a i K
 | .makeFunc (.func f) first cap=>match u1 P G first.toList,u1 P G cap.toList with
  |some a,some b=>K (.fn f a b)
  |_,_=>False
 | .load t x=>on (eval P G x) λa=>load P L aD w t a K
 | .call {callee:= .builtin b,args,argTypes}=>match u1 P G args.toList with
  |some vs=>QC P b argTypes.toList vs K
  |none=>False
 |_=>False
end
end
end Go.Sy
namespace Go.Abs
theorem T7:∀(rest:List Oper) (ms:List Nat),∃FK,z8 ms rest=ms++FK/\FK.length=rest.length
 |[],ms=>⟨[],by simp[z8],rfl⟩
 |o::rest,ms=>by
  obtain⟨FK,h1,h2⟩:=T7 rest (ms++[qx ms o.after.toList]);exact⟨qx ms o.after.toList::FK,by rw[z8,h1];simp,by simp[h2]⟩
theorem aeG:∀(rest:List Oper) (ms:List Nat) (k:Nat) (o:Oper),rest[k]? =some o->
  (z8 ms rest)[ms.length+k]? =some (qx ((z8 ms rest).take (ms.length+k)) o.after.toList)
 |[],ms,k,o,h=>by simp at h
 |x::rest,ms,0,o,h=>by
  simp only[List.getElem?_cons_zero,xg] at h;subst h;obtain⟨FK,h1,_⟩:=T7 rest (ms++[qx ms x.after.toList]);rw[z8,h1];simp
 |x::rest,ms,k+1,o,h=>by
  have:=aeG rest (ms++[qx ms x.after.toList]) k o FY;have e:(ms++[qx ms x.after.toList]).length+k=ms.length+(k+1):=by simp;omega
  rw[e] at this;exact this
theorem aq4{kj:Array Oper}{j:Nat}{o:Oper}(h:kj[j]? =some o):(je kj)[j]? =some (qx ((je kj).take j) o.after.toList):=by
 have:=aeG kj.toList [] j o FY;simpa[je] using this
theorem aeF{ms:List Nat}{i:Nat}:∀{es:List Edge},Nat.testBit (qx ms es) i=true->
  ∃e∈es,Region.binds .any e=true/\∃x,ms[e.on]? =some x/\(i=e.on∨Nat.testBit x i=true)
 |[],h=>by simp[qx] at h
 |e::es,h=>by
  have ih:=aeF (ms:=ms) (i:=i) (es:=es);unfold qx at h;split at h
  ·obtain⟨e',h1,h2⟩:=ih h
   exact⟨e',by simp[h1],h2⟩
  ·rename_i hb
   split at h
   ·rename_i x hx
    have h':((qx ms es|||x)|||(1<<<e.on)).testBit i=true:=h;rw[Nat.testBit_or,Nat.testBit_or,vK,vK] at h';rcases h' with(h'|h')|h'
    ·obtain⟨e',h1,h2⟩:=ih h'
     exact⟨e',by simp[h1],h2⟩
    ·exact⟨e,by simp,hb,x,hx, .inr h'⟩
    ·refine⟨e,by simp,hb,x,hx, .inl ?_⟩
     rw[Nat.one_shiftLeft,Nat.testBit_two_pow] at h';simpa using (lu h').symm
   ·obtain⟨e',h1,h2⟩:=ih h
    exact⟨e',by simp[h1],h2⟩
def YU(kj:Array Oper)(L:Nat->Prop):Prop:=∀j o,kj[j]? =some o->L j->∀e∈o.after,Region.binds .any e=true->L e.on
theorem ajk{kj:Array Oper}{L:Nat->Prop}(aj:YU kj L):∀(j i:Nat) (o:Oper),kj[j]? =some o->(∀e∈o.after,Region.binds .any e=true->L e.on)->k_ (je kj) i j=true->L i:=by
 intro j
 induction j using Nat.strongRecOn with
 |_ j ih=>
  intro i o ho he ha;unfold k_ at ha;rw[aq4 ho] at ha;simp only[] at ha;obtain⟨e,h1,h2,x,aw,aZ⟩:=aeF ha;have abT:=he e (by simpa using h1) h2;rcases aZ with rfl|aZ
  ·exact abT
  ·rw[uD] at aw
   split at aw
   ·rename_i hlt
    cases SJ:kj[e.on]? with
    |none=>
     have hlen:(je kj).length=kj.size:=by
      obtain⟨FK,fE,fQ⟩:=T7 kj.toList [];unfold je;rw[fE];simpa using fQ
     have:=(nv.1 aw).1;rw[hlen] at this;rw[Array.getElem?_eq_none_iff] at SJ;omega
    |some o'=>
     exact ih e.on hlt i o' SJ (aj e.on o' SJ abT) (by unfold k_;rw[aw];exact aZ)
   ·cases aw
end Go.Abs
namespace Go.Sy
open Go.RowKit (Below)
noncomputable section
variable[k7]
structure bU where
 G:hM
 L:List dh
 nb:Nat
 aD:List Nat
 b4:World
 bj:List Nat
 a1:List Nat
structure dV(w:World)(cf:List Nat)(w':World):Prop where
 os:w'.os=w.os
 tape:w'.tape=w.tape
 output:w'.output=w.output
 size:w.heap.size<=w'.heap.size
 heap:∀i,i<w.heap.size->i∉cf->w'.heap[i]? =w.heap[i]?
def grow(w:World)(cf:List Nat)(w':World):Prop:=match cf with
 |[]=>Below w.heap.size w w'
 |d::cf=>dV w (d::cf) w'
def kn(r:Option Nat):Fence:={fn:=λ_=>True,depth:=none,alive:=false,round:=r}
def ai2(P:Program)(l:Nat)(x:Value)(V:World)(R:World->Prop):Prop:=
 ∃fn tmps DH body,(Instr.yield l #[x]).run P V= .ok (.round l fn tmps DH body) V/\∀n,RoundIn (kn none) n P l fn tmps DH body V λe V'=>e= .returned (.bool true)/\R V'
def DF(P:Program)(f:FuncId)(first cap:Array Value)(vs:List Addr)(qX:World->Prop):Prop:=
 ∀(l:Nat) (J:Nat->World->Prop) (W:World),(∀i V V',J i V->V'.heap=V.heap->V'.os=V.os->V'.tape=V.tape->V'.output=V.output->J i V')->
  (∀i V,J i V->∃V0 rc,V0.heap[l]? =some (.loop rc)/\dV V0 [l] V/\qX V0)->(∀i x V,vs[i]? =some x->J i V->ai2 P l (.pointer (some x)) V (J (i+1)))->J 0 W->
  Calls P f (first++#[.func (.yield l) #[] #[]]++cap) W λe W'=>(∃v,e= .returned v)/\J vs.length W'
structure eC(lo:Nat)(F:Nat->Prop)(bs:List Nat)(w w':World):Prop where
 os:w'.os=w.os
 tape:w'.tape=w.tape
 output:w'.output=w.output
 size:w.heap.size<=w'.heap.size
 dT:∀i,i<lo->i<w.heap.size->¬F i->w'.heap[i]? =w.heap[i]?
 own:∀i∈bs,lo<=i->i<w.heap.size->w'.heap[i]? =w.heap[i]?
structure U(F:Nat->Prop)(w w':World):Prop where
 os:w'.os=w.os
 tape:w'.tape=w.tape
 output:w'.output=w.output
 size:w.heap.size<=w'.heap.size
 heap:∀i,i<w.heap.size->¬F i->w'.heap[i]? =w.heap[i]?
def Whole(w:World)(b:Nat)(t:TypeId)(cs:List Value):Prop:=w.heap[b]? =some (.cells cs.toArray t (0,0))
def ct(w:World)(a:Addr)(o n:Nat):Prop:=a.spot=none/\∃cs t,w.heap[a.block]? =some (.cells cs t (0,0))/\a.off+o+n<=cs.size
def cp(lo:Nat)(F:Nat->Prop)(bs:List Nat)(b:Nat):Prop:=b∉bs/\(b<lo->F b)
structure bH(w:World)(cf:List Nat)(a:Addr)(o:Nat)(vs:List Value)(w':World):Prop where
 os:w'.os=w.os
 tape:w'.tape=w.tape
 output:w'.output=w.output
 size:w.heap.size<=w'.heap.size
 heap:∀i,i<w.heap.size->i∉cf->i≠a.block->w'.heap[i]? =w.heap[i]?
 u7:∀cs t,w.heap[a.block]? =some (.cells cs t (0,0))->∃fD,w'.heap[a.block]? =some (.cells fD t (0,0))/\fD.size=cs.size/\
  ∀j,fD[j]? =if a.off+o<=j/\j<a.off+o+vs.length then vs[j-(a.off+o)]? else cs[j]?
structure dH(P:Program)(f:FuncId)(args:Array Value)(w:World)(R:Ending->World->Prop):Prop where
 out:Calls P f args w R
inductive k8 where
 |normal
 |exit (id:Nat)
 |ret
structure jA where
 key:Nat
 um:List Nat
 g':List Nat
section
variable(P:Program)(w0:World)(F:Nat->Prop)
def bU.put(s:bU)(d:Option Tmp)(v:aE):bU:=match d with
 |some d=>{s with G:=s.G.set d (some v)}
 |none=>s
def bU.at(s:bU)(L:List dh)(w:World):bU:={s with L:=L,nb:=L.length,aD:=[],b4:=w}
def Ln(G:hM)(d:Tmp)(K:hM->Bool->Prop):Prop:=match G.at d with
 |some (.lit b)=>K G b
 |some (.bool e)=>(e.g_ true->K (G.set d (some (.lit true))) true)/\(e.g_ false->K (G.set d (some (.lit false))) false)
 |_=>False
def ahS(b want:Bool)(K:Bool->Prop):Prop:=match b,want with
 |true,w=>K w
 |false,true=>K false
 |false,false=>K true
def Ha(all:List Oper)(o:Oper)(s:bU)(K:bU->Bool->Prop):Prop:=match o.guard with
 |none=>K s true
 |some (j,want)=>match all[j]? with
  |some vr=>match vr.dst with
   |some d=>match s.G.at d with
    |some (.j' [])=>K s false
    |_=>Ln s.G d λG b=>ahS b want (K {s with G:=G})
   |none=>False
  |none=>False
def Nn(o:Op)(s:bU)(K:bU->Prop):Prop:=match o with
 | .pick (.tmp d) _ _=>Ln s.G d λG _=>K {s with G:=G}
 |_=>K s
def T2:aE->List Nat
 | .gU k _=>[k]
 | .rz k _ _ _=>[k]
 | .agg cs=>cs.filterMap λc=>match c with
  | .gU k _=>some k
  | .rz k _ _ _=>some k
  |_=>none
 | .fn _ a b=>(a++b).filterMap λc=>match c with
  | .gU k _=>some k
  | .rz k _ _ _=>some k
  |_=>none
 |_=>[]
def CD:List aE->List Nat
 |[]=>[]
 |v::vs=>T2 v++CD vs
def xK:List Nat->List Nat
 |[]=>[]
 |x::xs=>match(xK xs).elem x with
  |true=>xK xs
  |false=>x::xK xs
def eI(β:List Nat)(w:World):List dh->Prop->Prop
 |[],Q=>Q
 |l::ab,Q=>(w0.heap.size<=l.aF/\Whole w l.aF l.ty (bx β l.cells))->eI β w ab Q
def EL(c:Bool)(L:List dh)(w:World)(Q:Prop):Prop:=match c with
 |true=>eI w0 (a6 L) w L Q
 |false=>Q
def cB(w:World)(lo:Nat)(ab:List (Nat×TypeId)):Prop:=∀p∈ab,lo<=p.1/\∃cs:Array Value,w.heap[p.1]? =some (.cells cs p.2 (0,0))
def kinds:List dh->List (Nat×TypeId)
 |[]=>[]
 |l::ab=>(l.aF,l.ty)::kinds ab
def Qb(L:List dh)(Q:Prop):Prop:=match L with
 |l::m::ab=>(a6 (l::m::ab)).Nodup->Q
 |_=>Q
def QA(c:Bool)(L:List dh)(w:World)(Q:Prop):Prop:=match c with
 |true=>eI w0 (a6 L) w L (Qb L Q)
 |false=>match L with
  |[]=>Q
  |l::ab=>cB w w0.heap.size (kinds (l::ab))->Q
def afb(bs:List Nat)(p:ao)(Q:Prop):Prop:=match bs with
 |[]=>Q
 |b::bs=>(∀a,p=some a->a.block∉b::bs)->Q
def ES(bs:List Nat)(x:Nat)(Q:Prop):Prop:=match bs with
 |[]=>Q
 |b::bs=>x∉b::bs->Q
def again(β:List Nat)(w:World):List Nat->List dh->(List dh->Prop)->Prop
 |[],L,K=>K L
 |k::ix,L,K=>match L[k]? with
  |some l=>match rL l.cells with
   |some s=>BK l.ty s λcs=>Whole w l.aF l.ty (bx β cs)/\again β w ix (L.take k++{l with cells:=cs,gK:=l.gK+1}::L.drop (k+1)) K
   |none=>(Whole w l.aF l.ty (bx β l.cells))/\again β w ix L K
  |none=>False
def EK(E:List Nat):Nat->List dh->List Nat
 |_,[]=>[]
 |k,l::ab=>match E.elem k with
  |true=>EK E (k+1) ab
  |false=>l.aF::EK E (k+1) ab
def agh:List TypeId->Option (List (TypeId×Bool×List mC))
 |[]=>some []
 |t::ts=>(Cw P t).bind λg=>(ta P t).bind λz=>(rL z.dI).bind λs=>(agh ts).map ((t,g,s)::·)
def Lg:List (TypeId×Bool×List mC)->(List aE->Prop)->Prop
 |[],K=>K []
 |(t,g,s)::rs,K=>BK t s λcs=>match g with
  |true=>Lg rs λvs=>K (.agg cs::vs)
  |false=>match cs with
   |[c]=>Lg rs λvs=>K (c::vs)
   |_=>False
def yD:List aE->aE
 |[v]=>v
 |vs=> .j' vs
def Qz(f:FuncId)(args:List aE)(s:bU)(K:aE->bU->List Nat->Prop):Prop:=match P.funcs[f]? with
 |some fn=>match fn.body with
  |some _=>match fn.name== "runtime.NumGoroutine" with
   |false=>match agh P fn.resultTypes.toList with
    |some rs=>∀w1,grow s.b4 s.aD w1->QA w0 (!(xK (CD args)).isEmpty) s.L w1
      (dH P f (bx (a6 s.L) args).toArray w1 λe ad=>Lg rs λvs=>e= .returned (real (a6 s.L) (yD vs))/\eC w0.heap.size F (EK (xK (CD args)) 0 s.L++(s.bj++s.a1)) w1 ad/\
       again (a6 s.L) ad (xK (CD args)) s.L λL=>K (yD vs) (s.at L ad) (xK (CD args)))
    |none=>False
   |true=>False
  |none=>False
 |none=>False
def Og(L:List dh)(aD:List Nat)(w:World)(es k:Nat)(x:aE)(K:List Value->Prop):Prop:=match x with
 | .rz j o _ _=>match E_ L j o (k*es) with
  |some cs=>K (bx (a6 L) cs)
  |none=>False
 | .cJ p _ _=>∃xs:List Value,(xs.length=k*es/\(∀v∈xs,v.oneCell'=true)/\(p=none->k=0)/\(∀a,p=some a->IL aD a.block (At w a 0 xs)))/\K xs
 |_=>False
def uT:aE->Nat
 | .rz _ _ m _=>m
 | .cJ _ m _=>m
 |_=>0
def ZP(t:TypeId):Option Nat:=(P.info? t).map (·.bytes)
structure aiX(lo:Nat)(F:Nat->Prop)(bs:List Nat)(w:World)(e:TypeId)(es:Nat)(p:ao)(n c:Nat)(cs:List Value):Prop where
 row:w.ownsRow 0 e es (.slice p n c) n cs
 lS:∀a,p=some a->a.block∉bs/\(n<c->a.block<lo->F a.block)
def gy(lo:Nat)(F:Nat->Prop)(bs:List Nat)(w:World)(e:TypeId)(es:Nat)(p:ao)(n c:Nat)(cs:List Value)(m:Nat):Prop:=
 aiX lo F bs w e es p n c cs∨(0<m/\n=c/\cs.length=n*es/\∃a,p=some a/\a.block∉bs/\At w a 0 cs)
structure gk(w:World)(cf:List Nat)(p:ao)(rB c0:Nat)(e:TypeId)(es n:Nat)(cs:List Value)(w':World)(p':ao)(c':Nat):Prop where
 row:w'.ownsRow 0 e es (.slice p' n c') n cs
 os:w'.os=w.os
 tape:w'.tape=w.tape
 output:w'.output=w.output
 size:w.heap.size<=w'.heap.size
 heap:∀i,i<w.heap.size->i∉cf->(rB<c0->∀a,p=some a->i≠a.block)->w'.heap[i]? =w.heap[i]?
 j6:∀a,p'=some a->(∃b,p=some b/\a.block=b.block/\(rB=n∨rB<c0))∨w.heap.size<=a.block
def Qc(t:TypeId)(x y:aE)(s:bU)(K:aE->bU->List Nat->Prop):Prop:=match P.underlying t,x with
 |some (.slice e), .cJ p n c=>match kx P e,ZP P e,ta P e with
  |some es,some eM,some z=>match Nat.blt 0 es&&Nat.blt 0 eM&&Nat.beq z.dI.length es with
   |true=>∃cs:List Value,gy w0.heap.size F (a6 s.L) s.b4 e es p n c cs (uT y)/\Og s.L s.aD s.b4 es (uT y) y λxs=>((n+uT y)*eM<=140737488355328)/\
     ∀ad cA c2,gk s.b4 s.aD p n c e es (n+uT y) (cs++xs) ad cA c2->afb (a6 s.L) cA (K (.cJ cA (n+uT y) c2) (s.at s.L ad) [])
   |false=>False
  |_,_,_=>False
 |_,_=>False
def QZ(t:TypeId)(x y:aE)(s:bU)(K:aE->bU->List Nat->Prop):Prop:=match P.underlying t,x with
 |some (.slice e), .cJ p n _=>match kx P e with
  |some es=>∃a,p=some a/\Og s.L s.aD s.b4 es (min (uT y) n) y λxs=>(ct s.b4 a 0 (min (uT y) n*es)/\cp w0.heap.size F (a6 s.L) a.block)/\
    ∀ad,bH s.b4 s.aD a 0 xs ad->K (.int .i64 (min (uT y) n:Nat)) (s.at s.L ad) []
  |none=>False
 |_,_=>False
structure Made(w:World)(cf:List Nat)(e:TypeId)(es n c:Nat)(z:List Value)(w':World)(b:Nat):Prop where
 os:w'.os=w.os
 tape:w'.tape=w.tape
 output:w'.output=w.output
 new:w.heap.size<=b
 size:b<w'.heap.size
 heap:∀i,i<w.heap.size->i∉cf->w'.heap[i]? =w.heap[i]?
 row:Whole w' b e (List.replicate c z).flatten
structure cX(w:World)(cf:List Nat)(e:TypeId)(cs:List Value)(w':World)(b:Nat):Prop where
 os:w'.os=w.os
 tape:w'.tape=w.tape
 output:w'.output=w.output
 new:w.heap.size<=b
 size:b<w'.heap.size
 heap:∀i,i<w.heap.size->i∉cf->w'.heap[i]? =w.heap[i]?
 row:Whole w' b e cs
def adP(all:List Oper)(o:Oper):Bool:=match o.op,o.dst with
 | .buildSlice _ _ _,some d=> !(all.any λq=>match q.op with
  | .call {callee:= .builtin .append,args:=xs, .. }=>match(xs:Array Operand)[1]? with
   |some (Operand.tmp t)=>Nat.beq t d
   |_=>false
  |_=>false)
 |_,_=>false
structure xq(w:World)(cf:List Nat)(e:TypeId)(l:List UInt8)(w':World)(b c:Nat):Prop where
 os:w'.os=w.os
 tape:w'.tape=w.tape
 output:w'.output=w.output
 new:w.heap.size<=b
 size:b<w'.heap.size
 heap:∀i,i<w.heap.size->i∉cf->w'.heap[i]? =w.heap[i]?
 row:At w' ⟨b,0,none⟩ 0 (tv l)
 cap:l.length<=c
 shape:∃cs lD,w'.heap[b]? =some (.cells cs e lD)
def vP(w:World)(p:ao)(n:Nat)(l:List UInt8):Prop:=l.length=n/\∀a,p=some a->At w a 0 (tv l)
structure qW(w:World)(cf:List Nat)(a:Addr)(w':World):Prop where
 os:w'.os=w.os
 tape:w'.tape=w.tape
 output:w'.output=w.output
 size:w.heap.size<=w'.heap.size
 heap:∀i,i<w.heap.size->i∉cf->i≠a.block->w'.heap[i]? =w.heap[i]?
 u7:∀cs t,w.heap[a.block]? =some (.cells cs t (0,0))->∃lD,w'.heap[a.block]? =some (.cells cs t lD)
def QY(w0:World)(F:Nat->Prop)(t d:TypeId)(x:aE)(s:bU)(K:aE->bU->List Nat->Prop):Prop:=match P.underlying t,P.underlying d,x with
 |some .string,some (.slice e), .str l=>match P.underlying e with
  |some (.int .u8)=>∀ad b c,xq s.b4 s.aD e l ad b c->ES (a6 s.L) b (K (.cJ (some ⟨b,0,none⟩) l.length c) (s.at s.L ad) [])
  |_=>False
 |some (.slice e),some .string, .cJ p n _=>match P.underlying e with
  |some (.int .u8)=>∃l,∀w1,grow s.b4 s.aD w1->vP w1 p n l/\(p=none->n=0)/\K (.str l) (s.at s.L w1) []
  |_=>False
 |some (.slice _),some (.slice e), .cJ p n c=>match Nat.beq t d with
  |true=>match P.underlying e with
   |some (.int .u8)=>∃a,p=some a/\(ct s.b4 a 0 0/\cp w0.heap.size F (a6 s.L) a.block)/\∀ad,qW s.b4 s.aD a ad->K (.cJ p n c) (s.at s.L ad) []
   |_=>False
  |false=>False
 |_,_,_=>False
def lQ(w:World)(b:Nat)(l:List Int):Prop:=∃(fr:Array MapEntry) (clock:Nat),w.heap[b]? =some (.map fr clock)/\fr.toList.map (λe=>(e.key,e.val))=l.map λn=>(Value.int .i64 n,Value.bool true)
def Aq(n:Int)(l:List Int):List Int:=if l.contains n then l else l++[n]
structure pr(w:World)(b:Nat)(l:List Int)(w':World):Prop where
 os:w'.os=w.os
 tape:w'.tape=w.tape
 output:w'.output=w.output
 size:w'.heap.size=w.heap.size
 heap:∀i,i≠b->w'.heap[i]? =w.heap[i]?
 row:lQ w' b l
def aiY(w:World)(b:Nat)(l:List Int)(n:Int)(w':World):Prop:=pr w b (Aq n l) w'
def aiZ(w:World)(b:Nat)(l:List Int)(n:Int)(w':World):Prop:=pr w b (l.erase n) w'
def ai0(w:World)(b:Nat)(w':World):Prop:=pr w b [] w'
structure Gs(w w':World)(b:Nat):Prop where
 os:w'.os=w.os
 tape:w'.tape=w.tape
 output:w'.output=w.output
 new:w.heap.size<=b
 size:b<w'.heap.size
 heap:∀i,i<w.heap.size->w'.heap[i]? =w.heap[i]?
 row:lQ w' b []
def Zg(l:List Int)(n:Int)(x:Bool):Prop:=x=l.contains n
def wZ(t:TypeId):Option TypeId:=match P.underlying t with
 |some (.map k e)=>match P.underlying k,P.underlying e,ta P e with
  |some (.int .i64),some .bool,some (.lit false)=>some e
  |_,_,_=>none
 |_=>none
def N6(m:aE)(w:World)(K:Nat->List Int->Prop):Prop:=match m with
 | .val v=>∃b:Nat,v= .map (some b)/\∃l:List Int,lQ w b l/\K b l
 |_=>False
def Jj(t:TypeId)(m:aE)(s:bU)(R:World->Nat->List Int->World->Prop)(K:aE->bU->List Nat->Prop):Prop:=match wZ P t with
 |some _=>∀w1,grow s.b4 s.aD w1->N6 m w1 λb l=>(b<w0.heap.size->F b)/\∀ad,R w1 b l ad->K (.j' []) (s.at s.L ad) []
 |none=>False
def pH(all:List Oper)(o:Oper)(s:bU)(K:aE->bU->List Nat->Prop):Prop:=match o.op with
 | .alloc t=>match ta P t with
  |some z=>∀b,s.b4.heap.size<=b->K (.gU s.L.length 0) {s with L:=s.L++[⟨b,t,z.dI,0⟩]} []
  |none=>False
 | .box t x=>on (eval P s.G x) λv=>match v.dI.all aE.scalar with
  |false=>False
  |true=>∀b,s.b4.heap.size<=b->K (.gU s.L.length 0) {s with L:=s.L++[⟨b,t,v.dI,0⟩]} []
 | .buildSlice t n a_=>match(EX P s.G a_.toList).bind λa_=>KF P t n a_ with
  |some (e,cs)=>match adP all o with
   |true=>∀ad b,cX s.b4 s.aD e (bx (a6 s.L) cs) ad b->ES (a6 s.L) b (K (.cJ (some ⟨b,0,none⟩) n n) (s.at s.L ad) [])
   |false=>∀b,s.b4.heap.size<=b->K (.rz s.L.length 0 n n) {s with L:=s.L++[⟨b,e,cs,0⟩]} []
  |none=>match n,a_.toList,P.underlying t with
   |0,[],some (.slice e)=>match kx P e with
    |some _=>∀ad b,cX s.b4 s.aD e [] ad b->ES (a6 s.L) b (K (.cJ (some ⟨b,0,none⟩) 0 0) (s.at s.L ad) [])
    |none=>False
   |_,_,_=>False
 | .convert t d x=>on (eval P s.G x) λv=>QY P w0 F t d v s K
 | .makeSlice t n c=>match P.underlying t,eval P s.G n,eval P s.G c with
  |some (.slice e),some (.int .i64 n),some (.int .i64 c)=>match kx P e,ZP P e,ta P e with
   |some es,some eM,some z=>match Nat.blt 0 es&&Nat.blt 0 eM&&Nat.beq z.dI.length es with
    |true=>(0<=n/\n<=c/\c*eM<=140737488355328)/\∀ad b,Made s.b4 s.aD e es n.toNat c.toNat (bx [] z.dI) ad b->ES (a6 s.L) b (K (.cJ (some ⟨b,0,none⟩) n.toNat c.toNat) (s.at s.L ad) [])
    |false=>False
   |_,_,_=>False
  |_,_,_=>False
 | .store t a x=>on (eval P s.G a) λa=>on (eval P s.G x) λv=>match kx P t with
  |some n=>match Nat.beq v.dI.length n&&v.dI.all aE.scalar with
   |true=>match a with
    | .gU k off=>match Xq s.L k off v.dI,s.L[k]? with
     |some L,some l=>match Nat.blt k s.nb with
      |true=>K (.j' []) {s with L:=L,aD:=l.aF::s.aD} [k]
      |false=>K (.j' []) {s with L:=L} [k]
     |_,_=>False
    | .aY a o=>(ct s.b4 a o n/\cp w0.heap.size F (a6 s.L) a.block)/\∀ad,bH s.b4 s.aD a o (bx (a6 s.L) v.dI) ad->EL w0 (!(T2 v).isEmpty) s.L ad (K (.j' []) (s.at s.L ad) [])
    | .ptr p=>∃a,p=some a/\(ct s.b4 a 0 n/\cp w0.heap.size F (a6 s.L) a.block)/\∀ad,bH s.b4 s.aD a 0 (bx (a6 s.L) v.dI) ad->EL w0 (!(T2 v).isEmpty) s.L ad (K (.j' []) (s.at s.L ad) [])
    |_=>False
   |false=>False
  |none=>False
 | .call {callee:= .value f,args, .. }=>match eval P s.G f,u1 P s.G args.toList with
  |some (.fn g first cap),some vs=>Qz P w0 F g (first++vs++cap) s K
  |_,_=>False
 | .makeMap t none=>match wZ P t with
  |some _=>∀w1,grow s.b4 s.aD w1->∀ad b,Gs w1 ad b->K (.val (.map (some b))) (s.at s.L ad) []
  |none=>False
 | .mapUpdate t m k v=>match eval P s.G m,eval P s.G k,eval P s.G v with
  |some m,some (.int .i64 n),some (.lit true)=>Jj P w0 F t m s (λw1 b l ad=>aiY w1 b l n ad) K
  |_,_,_=>False
 | .lookup t m k false=>match wZ P t,eval P s.G m,eval P s.G k with
  |some _,some m,some (.int .i64 n)=>∀w1,grow s.b4 s.aD w1->N6 m w1 λb l=>∀x:Bool,Zg l n x->K (.bool (.ok x)) (s.at s.L w1) []
  |_,_,_=>False
 | .call {callee:= .builtin .delete,args,argTypes}=>match argTypes.toList,u1 P s.G args.toList with
  |[t,_],some [m, .int .i64 n]=>Jj P w0 F t m s (λw1 b l ad=>aiZ w1 b l n ad) K
  |_,_=>False
 | .call {callee:= .builtin .clear,args,argTypes}=>match argTypes.toList,u1 P s.G args.toList with
  |[t],some [m]=>Jj P w0 F t m s (λw1 b _ ad=>ai0 w1 b ad) K
  |_,_=>False
 | .call {callee:= .builtin .copy,args,argTypes}=>match argTypes.toList,u1 P s.G args.toList with
  |[t,_],some [x,y]=>QZ P w0 F t x y s K
  |_,_=>False
 | .call {callee:= .builtin .append,args,argTypes}=>match argTypes.toList,u1 P s.G args.toList with
  |[t,u],some [x,y]=>match Nat.beq t u with
   |true=>Qc P w0 F t x y s K
   |false=>False
  |_,_=>False
 |_=>False
def ags(all:List Oper)(o:Oper)(s:bU)(K:bU->List Nat->Prop):Prop:=match QB P o.op with
 |true=>Nn o.op s λs=>calm P s.L s.aD s.b4 s.G o.op λv=>K (s.put o.dst v) []
 |false=>pH P w0 F all o s λv s aV=>K (s.put o.dst v) aV
def kj(all:List Oper):List Oper->bU->(bU->Prop)->Prop
 |[],s,K=>K s
 |o::rest,s,K=>Ha all o s λs b=>match b with
  |false=>kj all rest (s.put o.dst (.j' [])) K
  |true=>ags P w0 F all o s λs _=>kj all rest s K
structure po where
 i:Nat
 own:Option Nat
 dT:Option (Addr×Nat×List Value)
def w4(ms:List Nat)(i:Nat)(lB:Bool)(aV aD:List Nat)(w:World):List po->Prop->Prop
 |[],Q=>Q
 |p::a_,Q=>match Abs.k_ ms p.i i with
  |true=>w4 ms i lB aV aD w a_ Q
  |false=>match p.own with
   |some k=>match aV.elem k with
    |true=>False
    |false=>w4 ms i lB aV aD w a_ Q
   |none=>match p.dT with
    |some (a,o,vs)=>match lB with
     |true=>At w a o vs/\w4 ms i lB aV aD w a_ Q
     |false=>IL aD a.block (w4 ms i lB aV aD w a_ Q)
    |none=>w4 ms i lB aV aD w a_ Q
def IW(i:Nat)(o:Op)(s:bU)(v:aE):Option po:=match o with
 | .load _ x=>match eval P s.G x with
  |some (.gU k _)=>some ⟨i,some k,none⟩
  |some (.aY a o)=>some ⟨i,none,some (a,o,bx (a6 s.L) v.dI)⟩
  |_=>none
 |_=>some ⟨i,none,none⟩
def TI:Op->Bool
 | .load _ _=>true
 |_=>false
def ml(all:List Oper)(o:Oper)(s:bU):Bool:=match o.op with
 | .alloc _| .box _ _=>false
 | .buildSlice t n a_=>match(EX P s.G a_.toList).bind λa_=>KF P t n a_ with
  |some _=>adP all o
  |none=>true
 | .store _ a _=>match eval P s.G a with
  |some (.gU _ _)=>false
  |_=>true
 |_=>true
def G0(all:List Oper):List Nat->Option Nat
 |[]=>none
 |i::g_=>match all[i]? with
  |some o=>match QB P o.op with
   |true=>some i
   |false=>G0 all g_
  |none=>G0 all g_
def alts(all:Array Oper)(ms:List Nat)(listed:Array Bool)(dC:List po)(go:Nat->List po->bU->Prop):List Nat->bU->Prop
 |[],_=>True
 |r::rs,s=>match all[r]? with
  |some o=>Ha all.toList o s λs b=>match b with
   |false=>match Region.free .any all listed r with
    |true=>go r dC (s.put o.dst (.j' []))
    |false=>False
   |true=>match rs with
    |[]=>pH P w0 F all.toList o s λv s' aV=>w4 ms r (ml P all.toList o s) aV s'.aD s'.b4 dC (go r (dC.filter λp=> !Abs.k_ ms p.i r) (s'.put o.dst v))
    |x::xs=>(pH P w0 F all.toList o s λv s' aV=>w4 ms r (ml P all.toList o s) aV s'.aD s'.b4 dC (go r (dC.filter λp=> !Abs.k_ ms p.i r) (s'.put o.dst v)))/\alts all ms listed dC go (x::xs) s
  |none=>False
def rf(all:Array Oper)(ms:List Nat):Nat->Array Bool->List po->bU->(bU->Prop)->Prop
 |0,listed,_,s,K=>match Region.ready .any all listed with
  |[]=>K s
  |_::_=>False
 |n+1,listed,dC,s,K=>match Region.ready .any all listed with
  |[]=>K s
  |r::rs=>match G0 P all.toList (r::rs) with
   |some i=>match Region.free .any all listed i,all[i]? with
    |true,some o=>Ha all.toList o s λs b=>match b with
     |false=>rf all ms n (listed.setIfInBounds i true) dC (s.put o.dst (.j' [])) K
     |true=>Nn o.op s λs=>calm P s.L s.aD s.b4 s.G o.op λv=>match TI o.op,IW P i o.op s v with
      |true,some p=>rf all ms n (listed.setIfInBounds i true) (p::dC) (s.put o.dst v) K
      |true,none=>False
      |false,_=>rf all ms n (listed.setIfInBounds i true) dC (s.put o.dst v) K
    |_,_=>False
   |none=>alts P w0 F all ms listed dC (λi dC s=>rf all ms n (listed.setIfInBounds i true) dC s K) (r::rs) s
end
end
end Go.Sy
namespace Go.Sy
open Go.RowKit (Below)
noncomputable section
variable[k7]
section
variable(P:Program)(w0:World)(F:Nat->Prop)(loops me:List jA)
def Ij:Op->Bool
 | .defer _=>true
 |_=>false
def U0(l:Array Oper)(d:Bool)(s:bU)(K:bU->Prop):Prop:=match l.toList.any (λo=>Ij o.op) with
 |true=>False
 |false=>match d with
  |false=>kj P w0 F l.toList l.toList s K
  |true=>match Region.noSelect l with
   |true=>rf P w0 F l (Abs.je l) l.size (Array.replicate l.size false) [] s K
   |false=>False
def keyOf:Code->Option Nat
 | .region id _ _=>some id
 | .seq a b=>match keyOf a with
  |some k=>some k
  |none=>keyOf b
 | .cond _ a b=>match keyOf a with
  |some k=>some k
  |none=>keyOf b
 | .block _ b=>keyOf b
 | .loop b=>keyOf b
 | .scope b=>keyOf b
 |_=>none
def K1:List jA->Option Nat->Option jA
 |_,none=>none
 |[],_=>none
 |c::cs,some k=>match Nat.beq c.key k with
  |true=>some c
  |false=>K1 cs (some k)
def DS:List Oper->List (Nat×TypeId)->List (Nat×TypeId)
 |[],acc=>acc
 |o::os,acc=>match o.dst with
  |some d=>(d,o.type)::DS os acc
  |none=>DS os acc
def iD:Code->List (Nat×TypeId)->List (Nat×TypeId)
 | .region _ l _,acc=>DS l.toList acc
 | .seq a b,acc=>iD a (iD b acc)
 | .cond _ a b,acc=>iD a (iD b acc)
 | .block _ b,acc=>iD b acc
 | .loop b,acc=>iD b acc
 | .scope b,acc=>iD b acc
 |_,acc=>acc
def kill:List (Nat×TypeId)->hM->hM
 |[],G=>G
 |(d,_)::cf,G=>kill cf (G.set d none)
def As(G:hM):List Nat->Option (List aE)
 |[]=>some []
 |t::ts=>(G.at t).bind λv=>(As G ts).map (v::·)
def ry(L:List dh):List Nat->Option (List aE)
 |[]=>some []
 |k::ix=>(L[k]?).bind λl=>(ry L ix).map (l.cells++·)
def rP(c:jA)(s:bU):Option (List aE):=(As s.G c.um).bind λa=>(ry s.L c.g').map (a++·)
def Fy:List Nat->List aE->hM->hM×List aE
 |[],vs,G=>(G,vs)
 |_::_,[],G=>(G,[])
 |t::ts,v::vs,G=>Fy ts vs (G.set t (some v))
def oy:List Nat->List aE->List dh->List dh
 |[],_,L=>L
 |k::ix,vs,L=>match L[k]? with
  |some l=>oy ix (vs.drop l.cells.length) (L.take k++{l with cells:=vs.take l.cells.length,gK:=l.gK+1}::L.drop (k+1))
  |none=>L
def oh(c:jA)(wr:List (Nat×TypeId))(s:bU)(ys:List aE)(w:World):bU:=
 {G:=(Fy c.um ys (kill wr s.G)).1,L:=oy c.g' (Fy c.um ys (kill wr s.G)).2 s.L,nb:=s.L.length,aD:=[],b4:=w,bj:=s.bj,a1:=s.a1}
def uj(ab:List Nat):Nat->List dh->List dh->Bool
 |_,[],_=>true
 |_,_::_,[]=>false
 |k,l::L,l'::eD=>(ab.elem k||Nat.beq l.gK l'.gK)&&uj ab (k+1) L eD
def CE(c:jA)(s:bU):Bool:=c.g'.all λk=>Nat.blt k s.L.length
def aex(c:jA)(wr:List (Nat×TypeId))(body:bU->(k8->bU->Prop)->Prop)(s:bU)(K:k8->bU->Prop):Prop:=match CE c s with
 |false=>False
 |true=>match rP c s with
 |some xs=>match rL xs with
  |some cK=>∃(bo:qY cK) (e8:tg cK),(∀w1,grow s.b4 s.aD w1->gF cK bo e8 xs λJ _=>J w1)/\
    r0 cK bo e8 λys J m=>∀w1,U F w0 w1->J w1->body (oh c wr s ys w1) λe s'=>match e with
     | .normal=>match uj c.g' 0 (oh c wr s ys w1).L s'.L&&Nat.beq s'.bj.length s.bj.length,rP c s' with
      |true,some df=>∀ad,grow s'.b4 s'.aD ad->gF cK bo e8 df λrW m'=>rW ad/\m'<m
      |_,_=>False
     |e=>K e s'
  |none=>False
 |none=>False
def amp(c:jA):Bool:=c.um.elem 100000
def afo(c:jA):jA:={c with um:=c.um.filter λn=> !Nat.beq n 100000}
def aey(c:jA)(wr:List (Nat×TypeId))(body:bU->(k8->bU->Prop)->Prop)(s:bU)(K:k8->bU->Prop):Prop:=match CE c s with
 |false=>False
 |true=>match rP c s with
 |some xs=>match rL xs with
  |some cK=>∃(bo:Int->qY cK) (e8:Int->tg cK),(∃g:Int,∀w1,grow s.b4 s.aD w1->gF cK (bo g) (e8 g) xs λJ _=>J w1)/\
    ∀g:Int,r0 cK (bo g) (e8 g) λys J m=>∀w1,U F w0 w1->J w1->body (oh c wr s ys w1) λe s'=>match e with
     | .normal=>match uj c.g' 0 (oh c wr s ys w1).L s'.L&&Nat.beq s'.bj.length s.bj.length,rP c s' with
      |true,some df=>∃aU:Int,∀ad,grow s'.b4 s'.aD ad->gF cK (bo aU) (e8 aU) df λrW m'=>rW ad/\m'<m
      |_,_=>False
     |e=>K e s'
  |none=>False
 |none=>False
def pI:(s:List mC)->tg s
 |[]=>(0:Nat)
 | .int _::s=>λ_=>pI s
 | .bool::s=>λ_=>pI s
 | .str::s=>λ_=>pI s
 | .ptr::s=>λ_=>pI s
 | .cJ::s=>λ_ _ _=>pI s
 | .val::s=>λ_=>pI s
def Of(wr:List (Nat×TypeId)):List Nat->Option (List mC)
 |[]=>some []
 |t::ts=>(wr.find? λd=>Nat.beq d.1 t).bind λd=>(ta P d.2).bind λz=>(ag5 z).bind λa=>(Of wr ts).map (a::·)
def K2(c:jA)(wr:List (Nat×TypeId))(s:bU):Option (List mC):=(Of P wr c.um).bind λa=>((ry s.L c.g').bind rL).map (a++·)
def aay(c:jA)(wr:List (Nat×TypeId))(x:bU->(k8->bU->Prop)->Prop)(y:bU->(k8->bU->Prop)->Prop)(s:bU)(K:k8->bU->Prop):Prop:=match CE c s with
 |false=>False
 |true=>match K2 P c wr s with
 |some cK=>∃bo:qY cK,(x s λe s'=>match e with
    | .normal=>match uj c.g' 0 s.L s'.L&&Nat.beq s'.bj.length s.bj.length,rP c s' with
     |true,some df=>∀ad,grow s'.b4 s'.aD ad->gF cK bo (pI cK) df λJ _=>J ad
     |_,_=>False
    |e=>K e s')/\
   r0 cK bo (pI cK) λys J _=>∀w1,U F w0 w1->J w1->y (oh c wr s ys w1) K
 |none=>False
def arl(c:jA):List Nat:=c.um.filterMap λn=>match Nat.ble 200000 n with
 |true=>some (n-200000)
 |false=>none
def afq(c:jA):jA:={c with um:=c.um.filter λn=> !Nat.ble 200000 n}
def Kp:List Oper->List (Nat×TypeId)->List (Nat×TypeId)
 |[],acc=>acc
 |o::os,acc=>match o.op,o.dst with
  | .alloc e,some d=>(d,e)::Kp os acc
  | .box e _,some d=>(d,e)::Kp os acc
  |_,_=>Kp os acc
def y9:Code->List (Nat×TypeId)->List (Nat×TypeId)
 | .region _ l _,acc=>Kp l.toList acc
 | .seq a b,acc=>y9 a (y9 b acc)
 | .cond _ a b,acc=>y9 a (y9 b acc)
 | .block _ b,acc=>y9 b acc
 | .loop b,acc=>y9 b acc
 | .scope b,acc=>y9 b acc
 |_,acc=>acc
def aeZ(vV:List (Nat×TypeId)):List Nat->Option (List (TypeId×List aE))
 |[]=>some []
 |t::ts=>(vV.find? λd=>Nat.beq d.1 t).bind λd=>(ta P d.2).bind λz=>(aeZ vV ts).map ((d.2,z.dI)::·)
def ER(lo:Nat)(s':bU):List Nat->List (TypeId×List aE)->List Nat->Option (List aE)
 |[],[],_=>some []
 |t::ts,(e,z)::es,c_=>match s'.G.at t with
  |some (.gU k 0)=>match s'.L[k]?,Nat.ble lo k&& !c_.elem k with
   |some l,true=>match Nat.beq l.ty e&&Nat.beq l.cells.length z.length with
    |true=>(ER lo s' ts es (k::c_)).map (l.cells++·)
    |false=>none
   |_,_=>none
  |_=>none
 |_,_,_=>none
def Rv(lo:Nat):List (TypeId×List aE)->(List Nat->Prop)->Prop
 |[],K=>K []
 |_::es,K=>∀b,lo<=b->Rv lo es λbs=>K (b::bs)
def Kn:List Nat->List (TypeId×List aE)->List Nat->List aE->bU->bU
 |t::ts,(e,z)::es,b::bs,vs,s=>Kn ts es bs (vs.drop z.length) {G:=s.G.set t (some (.gU s.L.length 0)),L:=s.L++[⟨b,e,vs.take z.length,0⟩],nb:=s.L.length+1,aD:=s.aD,b4:=s.b4,bj:=s.bj,a1:=s.a1}
 |_,_,_,_,s=>s
def aaf:List (TypeId×List aE)->List aE
 |[]=>[]
 |(_,z)::es=>z++aaf es
def aax(c:jA)(dw:List Nat)(wr vV:List (Nat×TypeId))(x:bU->(k8->bU->Prop)->Prop)(y:bU->(k8->bU->Prop)->Prop)(s:bU)(K:k8->bU->Prop):Prop:=match CE c s with
 |false=>False
 |true=>match K2 P c wr s,aeZ P vV dw with
 |some cK,some es=>match rL (aaf es) with
  |some Fz=>∃bo:qY (cK++Fz),(x s λe s'=>match e with
    | .normal=>match uj c.g' 0 s.L s'.L&&Nat.beq s'.bj.length s.bj.length,rP c s',ER s.L.length s' dw es [] with
     |true,some df,some cj=>∀ad,grow s'.b4 s'.aD ad->gF (cK++Fz) bo (pI (cK++Fz)) (df++cj) λJ _=>J ad
     |_,_,_=>False
    |e=>K e s')/\
   r0 (cK++Fz) bo (pI (cK++Fz)) λys J _=>Rv w0.heap.size es λbs=>∀w1,U F w0 w1->J w1->y (Kn dw es bs (ys.drop cK.length) (oh c wr s (ys.take cK.length) w1)) K
  |none=>False
 |_,_=>False
def QX(c:Option aE)(x y:Prop):Prop:=match c with
 |some (.lit true)=>x
 |some (.lit false)=>y
 |some (.bool e)=>(e.g_ true->x)/\(e.g_ false->y)
 |_=>False
def Gx:Code->Option (Tmp×Tmp)
 | .region _ l false=>match l.toList with
  |[o]=>match o.op,o.dst,o.guard with
   | .assign (.tmp p),some t,none=>some (t,p)
   |_,_,_=>none
  |_=>none
 |_=>none
def I7(c:jA)(p t:Tmp)(x:Addr)(s:bU)(ys:List aE)(w:World)(l d:Nat):bU:=
 {G:=(s.G.set p (some (.aY x 0))).set t (some (.aY x 0)),L:=oy c.g' ys s.L,nb:=s.L.length,aD:=[],b4:=w,bj:=[],a1:=l::d::s.bj}
def ps(c:jA)(s:bU)(ys:List aE)(w:World)(d:Nat):bU:=
 {G:=s.G,L:=oy c.g' ys s.L,nb:=s.L.length,aD:=[],b4:=w,bj:=d::s.bj,a1:=s.a1}
def VX(c:jA)(f:FuncId)(first cap:List aE)(p t:Tmp)(bd:bU->(k8->bU->Prop)->Prop)(s:bU)(K:k8->bU->Prop):Prop:=match P.funcs[f]? with
 |some fn=>match fn.body with
  |some _=>match fn.name== "runtime.NumGoroutine" with
   |false=>match CE c s with
    |true=>match ry s.L c.g' with
     |some xs=>match rL xs with
      |some cK=>∀l d:Nat,s.b4.heap.size<=d->d<l->∃(vs:List Addr) (qX:World->Prop) (bo:Nat->qY cK),
        DF P f (bx (a6 s.L) first).toArray (bx (a6 s.L) cap).toArray vs qX/\
        (∀w1,grow s.b4 s.aD w1->l<w1.heap.size->gF cK (bo 0) (pI cK) xs λJ _=>J w1/\qX w1)/\
        (∀i x,vs[i]? =some x->r0 cK (bo i) (pI cK) λys J _=>∀w1,U F w0 w1->l<w1.heap.size->J w1->qX w1->bd (I7 c p t x s ys w1 l d) λe s'=>match e with
         | .normal=>match uj c.g' 0 (I7 c p t x s ys w1 l d).L s'.L,ry s'.L c.g' with
          |true,some df=>∀ad,grow s'.b4 s'.aD ad->gF cK (bo (i+1)) (pI cK) df λJ _=>J ad/\qX ad
          |_,_=>False
         |_=>False)/\
        (r0 cK (bo vs.length) (pI cK) λys J _=>∀w1 ad,U F w0 w1->l<w1.heap.size->J w1->qX w1->dV w1 [l] ad->U F w0 ad->K .normal (ps c s ys ad d))
      |none=>False
     |none=>False
    |false=>False
   |true=>False
  |none=>False
 |none=>False
def ke:Code->bU->(k8->bU->Prop)->Prop
 | .skip,s,K=>K .normal s
 | .region _ l d,s,K=>U0 P w0 F l d s λs=>K .normal s
 | .seq a b,s,K=>match K1 me (keyOf b) with
  |some c=>match arl c with
   |[]=>aay P w0 F c (iD a []) (ke a) (ke b) s K
   |n::dw=>aax P w0 F (afq c) (n::dw) (iD a []) (y9 a []) (ke a) (ke b) s K
  |none=>ke a s λe s=>match e with
   | .normal=>ke b s K
   |e=>K e s
 | .cond c a b,s,K=>QX (eval P s.G c) (ke a s K) (ke b s K)
 | .block id b,s,K=>ke b s λe s=>match e with
  | .exit j=>match Nat.beq j id with
   |true=>K .normal s
   |false=>K (.exit j) s
  |e=>K e s
 | .loop b,s,K=>match K1 loops (keyOf b) with
  |some c=>match amp c with
   |true=>aey w0 F (afo c) (iD b []) (ke b) s K
   |false=>aex w0 F c (iD b []) (ke b) s K
  |none=>False
 | .exit id,s,K=>K (.exit id) s
 | .ret,s,K=>K .ret s
 | .scope b,s,K=>match s.a1 with
  |[]=>ke b s K
  |_::_=>False
 | .label _,s,K=>K .normal s
 | .rangeFunc g a_ oJ bd,s,K=>match s.a1,Gx oJ,a_.toList,K1 loops (keyOf bd),eval P s.G g with
  |[],some (t,p'),[p],some c,some (.fn f first cap)=>match Nat.beq p p',c.um with
   |true,[]=>VX P w0 F c f first cap p t (ke bd) s K
   |_,_=>False
  |_,_,_,_,_=>False
 |_,_,_=>False
def GR(i:Nat):List aE->hM->hM
 |[],G=>G
 |v::vs,G=>GR (i+1) vs (G.set i (some v))
def sO(s:bU):List ResultVar->Option (List aE)
 |[]=>some []
 | .tmp t::rs=>(s.G.at t).bind λv=>(sO s rs).map (v::·)
 | .cell c t::rs=>match s.G.at c with
  |some (.gU k o)=>(kx P t).bind λn=>(Cw P t).bind λg=>(E_ s.L k o n).bind λcs=>match g with
   |true=>(sO s rs).map (.agg cs::·)
   |false=>match cs with
    |[v]=>(sO s rs).map (v::·)
    |_=>none
  |_=>none
def finish(fn:Func)(Q:Value->World->Prop)(s:bU):Prop:=match sO P s fn.results.toList with
 |some vs=>∀w1,grow s.b4 (s.bj++s.aD) w1->U F w0 w1->EL w0 (!(xK (CD vs)).isEmpty) s.L w1 (Q (real (a6 s.L) (yD vs)) w1)
 |none=>False
def lR(n:Nat):Code->Bool
 | .region _ l _=>l.toList.all λo=>match o.dst with
  |some d=>Nat.blt d n
  |none=>true
 | .seq a b=>lR n a&&lR n b
 | .cond _ a b=>lR n a&&lR n b
 | .block _ b=>lR n b
 | .loop b=>lR n b
 | .scope b=>lR n b
 | .rangeFunc _ a_ a b=>(a_.toList.all λp=>Nat.blt p n)&&lR n a&&lR n b
 |_=>true
def func(f:FuncId)(args:List aE)(Q:Value->World->Prop):Prop:=match P.funcs[f]? with
 |some fn=>match fn.body with
  |some c=>match lR fn.ntmps c with
   |false=>False
   |true=>ke P w0 F loops me c {G:=GR 0 args .leaf,L:=[],nb:=0,aD:=[],b4:=w0,bj:=[],a1:=[]} λe s=>match e with
   | .normal=>finish P w0 F fn Q s
   | .ret=>finish P w0 F fn Q s
   | .exit _=>False
  |none=>False
 |none=>False
end
end
end Go.Sy
namespace Go.Abs
section
end
theorem EG{β:Type}(b:Bool)(x y:β):(Bool.rec x y b:β)=if b then y else x:=by cases b<;>rfl
namespace Tr
variable{eg:Type}
theorem G3(k:Nat):get (leaf:Tr eg) k=none:=rfl
theorem wq(l r:Tr eg)(v:Option eg)(k:Nat):
  get (node l v r) k=if k=0 then v else if k%2=1 then get l ((k-1)/2) else get r ((k-1)/2):=by
 show(Bool.rec (Bool.rec (get r ((k-1)/2)) (get l ((k-1)/2)) (Nat.beq (k%2) 1)) v (Nat.beq k 0):Option eg)=_;rw[EG,EG];simp only[AT]
theorem avU(l r:Tr eg)(v:Option eg)(k:Nat)(x:eg):
  set (node l v r) k x=if k=0 then node l (some x) r else if k%2=1 then node (set l ((k-1)/2) x) v r else node l v (set r ((k-1)/2) x):=by
 show(Bool.rec (Bool.rec (node l v (set r ((k-1)/2) x)) (node (set l ((k-1)/2) x) v r) (Nat.beq (k%2) 1)) (node l (some x) r) (Nat.beq k 0):Tr eg)=_;rw[EG,EG];simp only[AT]
theorem av4(d k:Nat)(x:eg):
  Db (d+1) k x=if k=0 then node leaf (some x) leaf else if k%2=1 then node (Db d ((k-1)/2) x) none leaf else node leaf none (Db d ((k-1)/2) x):=by
 show(Bool.rec (Bool.rec (node leaf none (Db d ((k-1)/2) x)) (node (Db d ((k-1)/2) x) none leaf) (Nat.beq (k%2) 1)) (node leaf (some x) leaf) (Nat.beq k 0):Tr eg)=_;rw[EG,EG];simp only[AT]
theorem amo:∀(d k:Nat) (x:eg),k<=d->∀j,get (Db d k x) j=if j=k then some x else none:=by
 intro d
 induction d with
 |zero=>
  intro k x hk j;obtain rfl:k=0:=by omega
  show get (node leaf (some x) leaf) j=_;rw[wq]
  by_cases hj:j=0
  ·simp[hj]
  ·simp[hj,G3]
 |succ d ih=>
  intro k x hk j;rw[av4]
  by_cases aW:k=0
  ·subst aW
   simp only[Dp];rw[wq]
   by_cases hj:j=0
   ·simp[hj]
   ·simp[hj,G3]
  ·simp only[aW,yX]
   by_cases h1:k%2=1
   ·simp only[h1,Dp]
    rw[wq]
    by_cases hj:j=0
    ·subst hj;rw[aA rfl,ag M]
    ·rw[ag hj]
     by_cases nL:j%2=1
     ·rw[aA nL,ih _ _ M]
      by_cases he:j=k
      ·subst he;simp
      ·rw[ag he,ag M]
     ·rw[ag nL,G3,ag OQ]
   ·simp only[h1,yX]
    rw[wq]
    by_cases hj:j=0
    ·subst hj;rw[aA rfl,ag M]
    ·rw[ag hj]
     by_cases nL:j%2=1
     ·rw[aA nL,G3,ag OQ]
     ·rw[ag nL,ih _ _ M]
      by_cases he:j=k
      ·subst he;simp
      ·rw[ag he,ag M]
theorem amn(t:Tr eg):∀(k:Nat) (x:eg) (j:Nat),get (set t k x) j=if j=k then some x else get t j:=by
 induction t with
 |leaf=>intro k x j;exact amo k k x (cL _) j
 |node l v r apJ TD=>
  intro k x j;rw[avU]
  by_cases aW:k=0
  ·subst aW
   simp only[Dp];rw[wq,wq]
   by_cases hj:j=0
   ·simp[hj]
   ·simp[hj]
  ·simp only[aW,yX]
   by_cases h1:k%2=1
   ·simp only[h1,Dp]
    rw[wq,wq]
    by_cases hj:j=0
    ·subst hj;rw[aA rfl,ag M,aA rfl]
    ·rw[ag hj,ag hj]
     by_cases nL:j%2=1
     ·rw[aA nL,aA nL,apJ]
      by_cases he:j=k
      ·subst he;simp
      ·rw[ag he,ag M]
     ·rw[ag nL,ag nL,ag OQ]
   ·simp only[h1,yX]
    rw[wq,wq]
    by_cases hj:j=0
    ·subst hj;rw[aA rfl,ag M,aA rfl]
    ·rw[ag hj,ag hj]
     by_cases nL:j%2=1
     ·rw[aA nL,aA nL,ag OQ]
     ·rw[ag nL,ag nL,TD]
      by_cases he:j=k
      ·subst he;simp
      ·rw[ag he,ag M]
end Tr
end Go.Abs
namespace Go.Sy
variable{P:Program}
theorem bL.TL:∀(e:bL) (w:Bool),e.g_ w↔(e.g_ true↔w=true)
 | .lt a b,true=>by simp
 | .lt a b,false=>by simp[bL.g_]
 | .le a b,true=>by simp
 | .le a b,false=>by simp[bL.g_]
 | .eq a b,true=>by simp
 | .eq a b,false=>by simp[bL.g_]
 | .ok x,true=>by simp
 | .ok x,false=>by simp[bL.g_]
 | .i_ q,true=>by simp
 | .i_ q,false=>by simp[bL.g_]
 | .fF e,true=>by simp
 | .fF e,false=>by
  have h1:=bL.TL e false;have h2:=bL.TL e true;simp only[bL.g_];rw[h1];simp
theorem bL.FL(e:bL):e.ll=e.val:=by
 cases e with
 |ok x=>cases x<;>simp[bL.ll,bL.val,bL.g_]
 |_=>rfl
theorem bL.yT(e:bL)(w:Bool):e.g_ w↔e.val=w:=by
 rw[bL.TL];unfold bL.val;cases w<;>simp
theorem bL.Jr(e:bL)(w:Bool):e.g_ w↔e.ll=w:=by rw[bL.FL,bL.yT]
theorem bL.ae8(e:bL):(bL.fF e).val= !e.val:=by
 have h1:=bL.yT e false;have h2:=bL.yT (.fF e) true;simp only[bL.g_] at h2;cases he:e.val with
 |true=>
  cases hn:(bL.fF e).val with
  |false=>rfl
  |true=>rw[hn] at h2;rw[he] at h1;simp at h2;exact absurd h2 (by rw[h1];simp)
 |false=>
  rw[he] at h1;have:e.g_ false:=h1.2 rfl;rw[h2.1 this];rfl
theorem bL.split{e:bL}{A B C:Prop}(h:(e.g_ true->A)/\(e.g_ false->B))(ha:e.ll=true->A->C)(hb:e.ll=false->B->C):C:=by
 cases he:e.ll with
 |true=>exact ha he (h.1 ((bL.Jr e true).2 he))
 |false=>exact hb he (h.2 ((bL.Jr e false).2 he))
theorem iz{n:Nat}{l:List aE}:okvs n l↔∀v∈l,eX n v:=by
 induction l with
 |nil=>simp[okvs]
 |cons v l ih=>simp[okvs,ih]
theorem ow(β:List Nat)(l:List aE):bx β l=l.map (real β):=by
 induction l with
 |nil=>rfl
 |cons v l ih=>simp[bx,ih]
theorem rH(β:List Nat)(l:List aE):(bx β l).length=l.length:=by simp[ow]
def y2(n:Nat)(β jz:List Nat):Prop:=∀k,k<n->jz.getD k 0=β.getD k 0
mutual
theorem NI{n:Nat}{β jz:List Nat}(h:y2 n β jz):∀v,eX n v->real jz v=real β v
 | .int _ _,_=>rfl
 | .lit _,_=>rfl
 | .bool _,_=>rfl
 | .str _,_=>rfl
 | .ptr _,_=>rfl
 | .aY _ _,_=>rfl
 | .cJ _ _ _,_=>rfl
 | .gU k _,hk=>by simp only[real,h k hk]
 | .rz k _ _ _,hk=>by simp only[real,h k hk]
 | .agg cs,hc=>by simp only[real,vv h cs hc.1]
 | .j' cs,hc=>by simp only[real,vv h cs hc]
 | .fn _ a b,hc=>by simp only[real,vv h a hc.1,vv h b hc.2]
 | .val _,_=>rfl
theorem vv{n:Nat}{β jz:List Nat}(h:y2 n β jz):∀l,okvs n l->bx jz l=bx β l
 |[],_=>rfl
 |v::vs,ah=>by simp only[bx,NI h v ah.1,vv h vs ah.2]
end
mutual
theorem M_{n m:Nat}(h:n<=m):∀v,eX n v->eX m v
 | .int _ _,_=>trivial
 | .lit _,_=>trivial
 | .bool _,_=>trivial
 | .str _,_=>trivial
 | .ptr _,_=>trivial
 | .aY _ _,_=>trivial
 | .cJ _ _ _,_=>trivial
 | .gU k _,hk=>gp hk h
 | .rz k _ _ _,hk=>gp hk h
 | .agg cs,hc=>⟨sN h cs hc.1,hc.2⟩
 | .j' cs,hc=>sN h cs hc
 | .fn _ a b,hc=>⟨sN h a hc.1,sN h b hc.2⟩
 | .val _,ah=>ah
theorem sN{n m:Nat}(h:n<=m):∀l,okvs n l->okvs m l
 |[],_=>trivial
 |v::vs,ah=>⟨M_ h v ah.1,sN h vs ah.2⟩
end
theorem p5(a:Addr)(o:Nat):vU a o= .pointer (some (a.add o)):=by
 cases o with
 |zero=>simp[vU,Addr.add]
 |succ n=>rfl
theorem add_add(a:Addr)(m n:Nat):(a.add m).add n=a.add (m+n):=by
 unfold Addr.add
 by_cases hm:m=0
 ·subst hm;simp
 ·by_cases hn:n=0
  ·subst hn;simp
  ·rw[ag hm,ag hn,ag M]
   simp[Nat.add_assoc]
theorem agI{n:Nat}{β:List Nat}{v:aE}(h:eX n v)(hs:v.scalar=true):(real β v).oneCell'=true/\(real β v).cells=#[real β v]:=by
 cases v with
 |agg cs=>cases hs
 |j' cs=>cases hs
 |aY a o=>rw[real,p5];exact⟨rfl,rfl⟩
 |val v=>
  refine⟨h,?_⟩;have h':v.oneCell'=true:=h;cases v<;>first|rfl|cases h'
 |_=>exact⟨rfl,rfl⟩
theorem zo{n:Nat}{β:List Nat}{v:aE}(h:eX n v):(real β v).cells=(bx β v.dI).toArray/\okvs n v.dI/\((∀cs,v≠ .j' cs)->v.dI.all aE.scalar=true):=by
 cases v with
 |agg cs=>exact⟨rfl,h.1,λ_=>h.2⟩
 |j' cs=>exact⟨rfl,⟨h,trivial⟩,λhn=>absurd rfl (hn cs)⟩
 |_=>exact⟨(agI (β:=β) h rfl).2,⟨h,trivial⟩,λ_=>rfl⟩
theorem T9{n:Nat}{β:List Nat}{l:List aE}(h:okvs n l)(hs:l.all aE.scalar=true):∀v∈bx β l,v.oneCell'=true:=by
 intro v ah;rw[ow,lr] at ah;obtain⟨x,hx,rfl⟩:=ah;exact(agI (iz.1 h x hx) (js.1 hs x hx)).1
theorem ae'{n:Nat}{β:List Nat}{v:Value}{a:aE}(h:M7 v=some a):eX n a/\real β a=v/\a.scalar=true:=by
 cases v with
 |bool b=>cases h;exact⟨trivial,rfl,rfl⟩
 |int k n=>cases h;exact⟨trivial,rfl,rfl⟩
 |string s=>cases h;exact⟨trivial,rfl,rfl⟩
 |pointer p=>cases p with
  |none=>cases h;exact⟨trivial,rfl,rfl⟩
  |some p=>cases h
 |slice p n c=>cases p with
  |none=>cases h;exact⟨trivial,rfl,rfl⟩
  |some p=>cases h
 |map r=>cases r with
  |none=>cases h;exact⟨rfl,rfl,rfl⟩
  |some r=>cases h
 |nilFunc=>cases h;exact⟨rfl,rfl,rfl⟩
 |nilIface=>cases h;exact⟨rfl,rfl,rfl⟩
 |_=>cases h
theorem Uj{n:Nat}{β:List Nat}:∀{l:List Value} {as:List aE},IP l=some as->okvs n as/\bx β as=l/\as.all aE.scalar=true
 |[],as,h=>by cases h;exact⟨trivial,rfl,rfl⟩
 |v::l,as,h=>by
  simp only[IP,k6,il] at h;obtain⟨a,ha,bs,hb,rfl⟩:=h;obtain⟨h1,h2,aw⟩:=ae' (n:=n) (β:=β) ha;obtain⟨a8,aK,k3⟩:=Uj (n:=n) (β:=β) hb;exact⟨⟨h1,a8⟩,by simp only[bx,h2,aK],by simp[aw,k3]⟩
theorem aru(v:Value)(h1:∀cs,v≠ .agg cs)(h2:∀cs,v≠ .tuple cs):CM v=M7 v:=by
 cases v<;>first|rfl|exact absurd rfl (h1 _)|exact absurd rfl (h2 _)
theorem ae9{n:Nat}{β:List Nat}{v:Value}{a:aE}(h:CM v=some a):eX n a/\real β a=v:=by
 cases v with
 |agg cs=>
  simp only[CM,il] at h;obtain⟨as,h1,rfl⟩:=h;obtain⟨a8,aK,k3⟩:=Uj (n:=n) (β:=β) h1;exact⟨⟨a8,k3⟩,by simp only[real,aK,X2]⟩
 |tuple cs=>
  simp only[CM,il] at h;obtain⟨as,h1,rfl⟩:=h;obtain⟨a8,aK,k3⟩:=Uj (n:=n) (β:=β) h1;exact⟨a8,by simp only[real,aK,X2]⟩
 |_=>
  rw[aru _ hF hF] at h;have:=ae' (n:=n) (β:=β) h;exact⟨this.1,this.2.1⟩
def jj(n:Nat)(β:List Nat)(G:hM)(tmps:Array Value):Prop:=∀t v,G.at t=some v->eX n v/\tmps.getD t undef=real β v
theorem za(G:hM)(d:Nat)(v:Option aE)(t:Nat):hM.at (G.set d v) t=if t=d then v else G.at t:=by
 unfold hM.at;rw[Abs.Tr.amn]
 by_cases h:t=d
 ·simp only[aA h];cases v<;>rfl
 ·simp only[ag h]
theorem jj.put{n:Nat}{β:List Nat}{G:hM}{tmps:Array Value}(h:jj n β G tmps){d:Tmp}(hd:d<tmps.size){v:aE}(ah:eX n v):jj n β (G.set d (some v)) (tmps.setIfInBounds d (real β v)):=by
 intro t u hu;rw[za] at hu
 by_cases ht:t=d
 ·subst ht
  rw[aA rfl] at hu;cases hu;exact⟨ah,by simp[hd]⟩
 ·rw[ag ht] at hu
  obtain⟨h1,h2⟩:=h t u hu;exact⟨h1,by rw[<-h2];simp[Dq (xe ht)]⟩
theorem jj.tW{n:Nat}{β:List Nat}{G:hM}{tmps:Array Value}(h:jj n β G tmps){d:Tmp}{e:bL}{b:Bool}(hd:G.at d=some (.bool e))(hb:e.ll=b):jj n β (G.set d (some (.lit b))) tmps:=by
 intro t u hu;rw[za] at hu
 by_cases ht:t=d
 ·rw[aA ht] at hu
  cases hu;obtain⟨_,h2⟩:=h d _ hd;exact⟨trivial,by rw[ht,h2];simp only[real,hb]⟩
 ·rw[ag ht] at hu;exact h t u hu
theorem jj.alike{n m:Nat}{β jz:List Nat}{G:hM}{tmps:Array Value}(h:jj n β G tmps)(hn:n<=m)(ha:y2 n β jz):jj m jz G tmps:=by
 intro t v ah;obtain⟨h1,h2⟩:=h t v ah;exact⟨M_ hn v h1,by rw[h2,NI ha v h1]⟩
theorem xN{n:Nat}{β:List Nat}{G:hM}{a:Act}(ez:jj n β G a.tmps){x:Operand}{v:aE}(h:eval P G x=some v):eX n v/\a.eval x=real β v:=by
 cases x with
 |tmp t=>exact ez t v h
 |const c=>
  obtain⟨h1,h2⟩:=ae9 (n:=n) (β:=β) (show CM c=some v from h);exact⟨h1,h2.symm⟩
 |global g=>
  simp only[eval] at h;split at h
  ·cases h;exact⟨trivial,rfl⟩
  ·cases h
 |func f=>cases h;exact⟨⟨trivial,trivial⟩,rfl⟩
theorem xO{n:Nat}{β:List Nat}{G:hM}{a:Act}(ez:jj n β G a.tmps):∀{xs:List Operand} {vs:List aE},u1 P G xs=some vs->
  okvs n vs/\xs.map a.eval=bx β vs
 |[],vs,h=>by cases h;exact⟨trivial,rfl⟩
 |x::xs,vs,h=>by
  simp only[u1,k6,il] at h;obtain⟨v,ah,cj,hu,rfl⟩:=h;obtain⟨h1,h2⟩:=xN ez ah;obtain⟨a8,aK⟩:=xO ez hu;exact⟨⟨h1,a8⟩,by simp only[pU,bx,h2,aK]⟩
theorem qH{t:TypeId}{n:Nat}(h:kx P t=some n)(w:World):(sizeOf t).run P w= .ok n w:=by
 unfold kx at h;cases hi:P.info? t with
 |none=>rw[hi] at h;cases h
 |some i=>rw[hi] at h;cases h;simp[sizeOf,typeInfo,hi]
theorem NT{t:TypeId}{b:Bool}(h:Cw P t=some b)(w:World):(isAgg t).run P w= .ok b w:=by
 unfold Cw at h;cases hu:P.underlying t with
 |none=>rw[hu] at h;cases h
 |some d=>rw[hu] at h;unfold isAgg;rw[Sem.run_bind,run_underlying hu w];cases d<;>(cases h;rfl)
theorem Fi{t:TypeId}{z:aE}(h:ta P t=some z)(w:World):∃v,(zeroValue t).run P w= .ok v w/\(∀n β,eX n z/\real β z=v)/\z.dI.all aE.scalar=true/\∃i,P.info? t=some i/\i.zero=some v:=by
 unfold ta at h;simp only[k6] at h;obtain⟨i,hi,v,ah,Dk,hz,h⟩:=h;split at h
 ·rename_i hs
  cases h;exact⟨v,by simp[zeroValue,typeInfo,hi,ah],λn β=>ae9 hz,hs,i,hi,ah⟩
 ·cases h
theorem BL:∀{s:List mC} {K:List aE->Prop},zm s K->∃xs,okvs 0 xs/\xs.all aE.scalar=true/\xs.length=s.length/\K xs
 |[],K,h=>⟨[],trivial,rfl,rfl,h⟩
 | .int k::s,K,h=>by
  obtain⟨n,h⟩:=h;obtain⟨xs,h1,h2,aw,aZ⟩:=BL h;exact⟨.int k n::xs,⟨trivial,h1⟩,by simp[aE.scalar,h2],by simp[aw],aZ⟩
 | .bool::s,K,h=>by
  obtain⟨n,h⟩:=h;obtain⟨xs,h1,h2,aw,aZ⟩:=BL h;exact⟨.bool (.ok n)::xs,⟨trivial,h1⟩,by simp[aE.scalar,h2],by simp[aw],aZ⟩
 | .str::s,K,h=>by
  obtain⟨n,h⟩:=h;obtain⟨xs,h1,h2,aw,aZ⟩:=BL h;exact⟨.str n::xs,⟨trivial,h1⟩,by simp[aE.scalar,h2],by simp[aw],aZ⟩
 | .ptr::s,K,h=>by
  obtain⟨n,h⟩:=h;obtain⟨xs,h1,h2,aw,aZ⟩:=BL h;exact⟨.ptr n::xs,⟨trivial,h1⟩,by simp[aE.scalar,h2],by simp[aw],aZ⟩
 | .cJ::s,K,h=>by
  obtain⟨p,n,c,h⟩:=h;obtain⟨xs,h1,h2,aw,aZ⟩:=BL h;exact⟨.cJ p n c::xs,⟨trivial,h1⟩,by simp[aE.scalar,h2],by simp[aw],aZ⟩
 | .val::s,K,h=>by
  obtain⟨v,ah,h⟩:=h;obtain⟨xs,h1,h2,aw,aZ⟩:=BL h;exact⟨.val v::xs,⟨ah,h1⟩,by simp[aE.scalar,h2],by simp[aw],aZ⟩
theorem Lf[k7]{t:TypeId}{s:List mC}{K:List aE->Prop}(h:BK t s K):∃xs,okvs 0 xs/\xs.all aE.scalar=true/\xs.length=s.length/\K xs:=by
 unfold BK at h;split at h
 ·split at h
  ·rename_i c _ _ hn
   obtain⟨x,hx⟩:=h;obtain⟨h1,h2,aw⟩:=c.ok x;exact⟨_,h1,h2,aw.trans (uC hn),hx⟩
  ·exact h.elim
 ·exact BL h
theorem Oa:∀{l:List aE} {s:List mC},rL l=some s->s.length=l.length
 |[],s,h=>by cases h;rfl
 |v::l,s,h=>by
  simp only[rL,k6,il] at h;obtain⟨a,_,r,hr,rfl⟩:=h;simp[Oa hr]
theorem aeh{a b:IntKind}(h:MD a b=true):a=b:=by
 cases a<;>cases b<;>first|rfl|cases h
end Go.Sy
namespace Go.Sy
variable[k7]
variable{P:Program}
def eT(P:Program)(n:Nat)(β:List Nat)(S:World->Prop)(m:Sem Value)(K:aE->Prop):Prop:=
 ∃v,eX n v/\K v/\∀w,S w->m.run P w= .ok (real β v) w
theorem eT.of{n:Nat}{β:List Nat}{S:World->Prop}{m:Sem Value}{K:aE->Prop}{v:aE}(ah:eX n v)(hk:K v)(h:∀w,m.run P w= .ok (real β v) w):eT P n β S m K:=⟨v,ah,hk,λw _=>h w⟩
theorem eT.bool{n:Nat}{β:List Nat}{S:World->Prop}{m:Sem Value}{K:aE->Prop}(e:bL){b:Bool}(he:e.g_ true↔b=true)(hk:K (.bool e))(h:∀w,S w->m.run P w= .ok (.bool b) w):eT P n β S m K:=by
 refine⟨.bool e,trivial,hk,λw hw=>?_⟩;have:e.ll=b:=by
  have h1:=bL.Jr e true;rw[he] at h1;cases b<;>cases h2:e.ll<;>simp_all
 rw[h w hw];simp only[real,this]
theorem Xo{x:Int}(h:ay x):IntKind.i64.wrap x=x:=by
 unfold ay at h;simp[IntKind.wrap,IntKind.bits,IntKind.signed];omega
theorem Kt{k:IntKind}{x:Int}{K:aE->Prop}(h:arith k x K):∃y,k.wrap x=y/\K (.int k y):=by
 unfold arith at h;split at h
 ·obtain⟨h1,h2⟩:=h
  exact⟨x,Xo h1,h2⟩
 ·exact⟨_,rfl,h⟩
theorem apP{n:Nat}{β:List Nat}{S:World->Prop}{op:BinOp}{t:TypeId}{k:IntKind}{a b:Int}{K:aE->Prop}(h:TG op k a b K):eT P n β S (Go.binOp op t (.int k a) (.int k b)) K:=by
 cases op<;>simp only[TG] at h
 case add=>
  obtain⟨y,hy,hk⟩:=Kt h;exact eT.of (v:= .int k y) trivial hk λw=>by simp[Go.binOp,Op.intArith,hy,real]
 case sub=>
  obtain⟨y,hy,hk⟩:=Kt h;exact eT.of (v:= .int k y) trivial hk λw=>by simp[Go.binOp,Op.intArith,hy,real]
 case mul=>
  obtain⟨y,hy,hk⟩:=Kt h;exact eT.of (v:= .int k y) trivial hk λw=>by simp[Go.binOp,Op.intArith,hy,real]
 case quo=>
  split at h
  ·obtain⟨⟨h1,h2,aw⟩,hk⟩:=h
   refine eT.of (v:= .int .i64 (a/b)) trivial hk λw=>?_
   have hb:b≠0:=by omega
   have hd:a.tdiv b=a/b:=Int.tdiv_eq_ediv_of_nonneg h1;have aZ:0<=a/b:=Int.ediv_nonneg h1 M;have ca:a/b<=a:=Int.ediv_le_self _ h1;have hw:IntKind.i64.wrap (a/b)=a/b:=Xo (by unfold ay at*;omega);simp[Go.binOp,Op.intDiv,real,hb,hd,hw]
  ·exact h.elim
 case rem=>
  split at h
  ·obtain⟨⟨h1,h2,aw⟩,hk⟩:=h
   refine eT.of (v:= .int .i64 (a%b)) trivial hk λw=>?_
   have hb:b≠0:=by omega
   have hd:a.tmod b=a%b:=aiv h1;simp[Go.binOp,Op.intDiv,real,hb,hd]
  ·exact h.elim
 case and=>exact eT.of (v:= .int k (bits .and k a b)) trivial h λw=>by simp[Go.binOp,intBits_and,real]
 case or=>exact eT.of (v:= .int k (bits .or k a b)) trivial h λw=>by simp[Go.binOp,intBits_or,real]
 case xor=>exact eT.of (v:= .int k (bits .xor k a b)) trivial h λw=>by simp[Go.binOp,intBits_xor,real]
 case andNot=>exact eT.of (v:= .int k (bits .andNot k a b)) trivial h λw=>by simp[Go.binOp,intBits_andNot,real]
 case eql=>exact eT.bool (.eq a b) (b:=a==b) AR h λw _=>by simp[Go.binOp,Op.intCmp]
 case neq=>exact eT.bool (.fF (.eq a b)) (b:=a !=b) AR h λw _=>by simp[Go.binOp,Op.intCmp]
 case lss=>exact eT.bool (.lt a b) (b:=decide (a<b)) AR h λw _=>by simp[Go.binOp,Op.intCmp]
 case leq=>exact eT.bool (.le a b) (b:=decide (a<=b)) AR h λw _=>by simp[Go.binOp,Op.intCmp]
 case gtr=>exact eT.bool (.lt b a) (b:=decide (a>b)) AR h λw _=>by simp[Go.binOp,Op.intCmp]
 case geq=>exact eT.bool (.le b a) (b:=decide (a≥b)) AR h λw _=>by simp[Go.binOp,Op.intCmp]
theorem Om(s:List UInt8):(ByteArray.mk s.toArray).size=s.length:=by simp[ByteArray.size]
theorem awj(a b:List UInt8):(ByteArray.mk a.toArray++ByteArray.mk b.toArray)=ByteArray.mk (a++b).toArray:=by
 apply ByteArray.ext;simp
theorem xQ{n:Nat}{β:List Nat}{S:World->Prop}{op:BinOp}{e:bL}{K:aE->Prop}{m:Sem Value}(h:u3 op e K)
  (h1:op= .eql->∀w,S w->m.run P w= .ok (.bool e.ll) w) (h2:op= .neq->∀w,S w->m.run P w= .ok (.bool !e.ll) w):eT P n β S m K:=by
 cases op<;>simp only[u3] at h
 case eql=>exact⟨.bool e,trivial,h,λw hw=>h1 rfl w hw⟩
 case neq=>exact eT.bool (.fF e) (b:= !e.ll) (by rw[show(bL.fF e).g_ true=e.g_ false from rfl,bL.Jr];simp) h λw hw=>h2 rfl w hw
theorem ME{n:Nat}{β:List Nat}{S:World->Prop}{op:BinOp}{b:Bool}{K:aE->Prop}{m:Sem Value}(h:tW op b K)
  (h1:op= .eql->∀w,S w->m.run P w= .ok (.bool b) w) (h2:op= .neq->∀w,S w->m.run P w= .ok (.bool !b) w):eT P n β S m K:=by
 cases op<;>simp only[tW] at h
 case eql=>exact⟨.lit b,trivial,h,λw hw=>h1 rfl w hw⟩
 case neq=>
  cases b with
  |true=>exact⟨.lit false,trivial,h,λw hw=>h2 rfl w hw⟩
  |false=>exact⟨.lit true,trivial,h,λw hw=>h2 rfl w hw⟩
theorem awi{n:Nat}{β:List Nat}{S:World->Prop}{op:BinOp}{t:TypeId}{a b:List UInt8}{K:aE->Prop}(h:Ws op a b K):eT P n β S (Go.binOp op t (.string ⟨a.toArray⟩) (.string ⟨b.toArray⟩)) K:=by
 cases op<;>simp only[Ws] at h
 case add=>
  obtain⟨h1,hk⟩:=h;refine eT.of (v:= .str (a++b)) trivial hk λw=>?_
  simp only[Go.binOp,Op.stringOp,Om,awj,real];rw[ag (by simp only[IntKind.max_i64];omega)];rfl
 case eql=>exact eT.bool (.i_ (a=b)) (b:=a==b) AR h λw _=>by simp[Go.binOp,Op.stringOp]
 case neq=>exact eT.bool (.fF (.i_ (a=b))) (b:= !(a==b)) AR h λw _=>by simp[Go.binOp,Op.stringOp]
theorem sd(op:BinOp)(t:TypeId)(x y:Operand)(a b:Value)(h:(a= .nilIface->b≠ .nilIface))(h2:∀cs cf,a= .agg cs->b= .agg cf->P.eqGuardType P.depth t=false)(w:World):(eqGuard op t x y a b).run P w= .ok () w:=by
 unfold eqGuard;cases op<;>try (simp;done)
 all_goals
  cases a with
  |nilIface=>cases b<;>first|exact absurd rfl (h rfl)|simp
  |agg cs=>cases b with
   |agg cf=>simp[h2 cs cf rfl rfl]
   |_=>simp
  |_=>simp
theorem Rj{t e:TypeId}(hu:P.underlying t=some (.pointer e))(p:ao)(w:World):(Op.equal t (.pointer p) (.pointer none)).run P w= .ok (decide (p=none)) w:=by
 have key:∀aD,(Op.equalIn (aD+1) t (.pointer p) (.pointer none)).run P w= .ok (decide (p=none)) w:=λaD=>by cases p<;>simp[Op.equalIn,run_underlying hu]
 exact key 9999
theorem alJ{t e:TypeId}(hu:P.underlying t=some (.slice e))(p:ao)(n c m d:Nat)(w:World):(Op.equal t (.slice p n c) (.slice none m d)).run P w= .ok (decide (p=none)) w:=by
 have key:∀aD,(Op.equalIn (aD+1) t (.slice p n c) (.slice none m d)).run P w= .ok (decide (p=none)) w:=λaD=>by cases p<;>simp[Op.equalIn,run_underlying hu]
 exact key 9999
theorem Lc{t:TypeId}(hu:P.underlying t=some .bool)(a b:Bool)(w:World):(Op.equal t (.bool a) (.bool b)).run P w= .ok (a==b) w:=by
 have key:∀aD,(Op.equalIn (aD+1) t (.bool a) (.bool b)).run P w= .ok (a==b) w:=λaD=>by simp[Op.equalIn,run_underlying hu]
 exact key 9999
theorem TJ{t:TypeId}(h:Ik P t=true):∃e,P.underlying t=some (.pointer e):=by
 unfold Ik at h;split at h
 ·exact⟨_,by assumption⟩
 ·cases h
theorem apS{t:TypeId}(h:TH P t=true):∃a b c,P.underlying t=some (.func a b c):=by
 unfold TH at h;split at h
 ·exact⟨_,_,_,by assumption⟩
 ·cases h
theorem alI{t:TypeId}(hu:∃a b c,P.underlying t=some (.func a b c))(f:Fn)(x y:Array Value)(w:World):(Op.equal t (.func f x y) .nilFunc).run P w= .ok false w:=by
 obtain⟨a,b,c,hu⟩:=hu;have key:∀aD,(Op.equalIn (aD+1) t (.func f x y) .nilFunc).run P w= .ok false w:=λaD=>by simp[Op.equalIn,run_underlying hu]
 exact key 9999
theorem apU{t:TypeId}(h:TK P t=true):∃e,P.underlying t=some (.slice e):=by
 unfold TK at h;split at h
 ·exact⟨_,by assumption⟩
 ·cases h
theorem Mw{t:TypeId}(h:EF P t=true):P.underlying t=some .bool:=by
 unfold EF at h;split at h
 ·assumption
 ·cases h
theorem uZ{t:TypeId}{x y:Value}{b:Bool}{w:World}(hx:∀k n,x≠ .int k n)(h1:∀k n,x≠ .float k n)(h2:∀k n m,x≠ .complex k n m)(aw:∀s,x≠ .string s)(h:(Op.equal t x y).run P w= .ok b w):
  (Go.binOp .eql t x y).run P w= .ok (.bool b) w/\(Go.binOp .neq t x y).run P w= .ok (.bool !b) w:=by
 cases x<;>first|exact absurd rfl (hx _ _)|exact absurd rfl (h1 _ _)|exact absurd rfl (h2 _ _ _)|exact absurd rfl (aw _)|(constructor<;>(unfold Go.binOp;simp[h]))
end Go.Sy
namespace Go.Sy
variable[k7]
variable{P:Program}{n:Nat}{β:List Nat}{S:World->Prop}{K:aE->Prop}
theorem eT.guard{g:Sem Unit}{m:Sem Value}(hg:∀w,g.run P w= .ok () w)(h:eT P n β S m K):eT P n β S (do g;m) K:=by
 obtain⟨v,h1,h2,aw⟩:=h;exact⟨v,h1,h2,λw hw=>by rw[Sem.run_bind,hg];exact aw w hw⟩
theorem OB(q:Prop)[Decidable q]:(bL.i_ q).ll=decide q:=by
 have:=bL.Jr (.i_ q) true;simp only[bL.g_] at this;cases h:(bL.i_ q).ll<;>simp_all
theorem Js(e:bL):(bL.fF e).ll= !e.ll:=by rw[bL.FL,bL.FL,bL.ae8]
theorem aa3{t:TypeId}{x:Value}{b:Bool}{w:World}(h:(Op.equal t x .nilIface).run P w= .ok b w):
  (Go.binOp .eql t x .nilIface).run P w= .ok (.bool b) w/\(Go.binOp .neq t x .nilIface).run P w= .ok (.bool !b) w:=by
 cases x<;>(constructor<;>(unfold Go.binOp;simp[h]))
theorem ajM{c:Bool}{op:BinOp}{t:TypeId}{x y:aE}(ah9 aib:Operand)(hc:c=true->∃k,aib= .const k)(h:Qk P β c op t x y K)(hx:eX n x)(hy:eX n y):
  eT P n β S (do eqGuard op t ah9 aib (real β x) (real β y);Go.binOp op t (real β x) (real β y)) K:=by
 unfold Qk at h;split at h
 ·split at h
  ·refine eT.guard (sd _ _ _ _ _ _ qR vG) ?_
   rename_i k a k' b hE iQ;cases op<;>first|exact h.elim|skip
   ·refine eT.of (v:= .int k (yO k a b)) trivial h.2 λw=>?_
    have h1:=h.1;simp[Go.binOp,Op.shift,real,yO,show ¬b<0 by omega]
   ·refine eT.of (v:= .int k (iA k a b)) trivial h.2 λw=>?_
    have h1:=h.1;simp[Go.binOp,Op.shift,real,iA,show ¬b<0 by omega]
  ·split at h
   ·rename_i hk
    have he:=aeh hk;subst he;exact eT.guard (sd _ _ _ _ _ _ qR vG) (apP h)
   ·exact h.elim
 ·exact eT.guard (sd _ _ _ _ _ _ qR vG) (awi h)
 ·rename_i a b
  unfold Zn at h;split at h
  ·rename_i hg
   obtain⟨r,hr,h⟩:=h;refine eT.guard (sd _ _ _ _ _ _ qR (λ_ _ _ _=>hg)) ?_;refine xQ h (λe w _=>?_) (λe w _=>?_)
   ·subst e;exact(uZ AP AP AP AP (hr w)).1
   ·subst e;exact(uZ AP AP AP AP (hr w)).2
  ·exact h.elim
 ·rename_i p
  split at h
  ·rename_i ht
   obtain⟨e,hu⟩:=TJ ht;have key:=λw=>uZ hF hF hF hF (Rj hu p w)
   refine eT.guard (sd _ _ _ _ _ _ qR vG) (xQ h (λe w _=>?_) (λe w _=>?_))
   ·subst e;rw[OB];exact(key w).1
   ·subst e;rw[OB];exact(key w).2
  ·exact h.elim
 ·rename_i a o
  split at h
  ·rename_i ht
   obtain⟨e,hu⟩:=TJ ht;have key:=λw=>uZ hF hF hF hF (Rj hu (some (a.add o)) w)
   refine eT.guard (sd _ _ _ _ _ _ (by simp[real,p5]) (by simp[real,p5])) (ME h (λe w _=>?_) (λe w _=>?_))
   ·subst e;simpa[real,p5] using (key w).1
   ·subst e;simpa[real,p5] using (key w).2
  ·exact h.elim
 ·rename_i k o
  split at h
  ·rename_i ht
   obtain⟨e,hu⟩:=TJ ht;have key:=λw=>uZ hF hF hF hF (Rj hu (some ⟨β.getD k 0,o,none⟩) w)
   refine eT.guard (sd _ _ _ _ _ _ qR vG) (ME h (λe w _=>?_) (λe w _=>?_))
   ·subst e;simpa[real] using (key w).1
   ·subst e;simpa[real] using (key w).2
  ·exact h.elim
 ·rename_i f lV cs
  split at h
  ·rename_i ht
   have key:=λw=>uZ hF hF hF hF (alI (apS ht) (.func f) (bx β lV).toArray (bx β cs).toArray w)
   refine eT.guard (sd _ _ _ _ _ _ qR vG) (ME h (λe w _=>?_) (λe w _=>?_))
   ·subst e;exact(key w).1
   ·subst e;exact(key w).2
  ·exact h.elim
 ·rename_i v
  split at h
  ·obtain⟨b,hb,hK⟩:=h
   obtain⟨k,rfl⟩:=hc rfl;have hg:∀w,(eqGuard op t ah9 (.const k) v .nilIface).run P w= .ok () w:=λw=>by
    unfold eqGuard;cases op<;>try (simp;done)
    all_goals cases v<;>simp
   refine eT.guard hg (xQ hK (λe w _=>?_) (λe w _=>?_))
   ·subst e;exact(aa3 (hb w)).1
   ·subst e;exact(aa3 (hb w)).2
  ·exact h.elim
 ·rename_i p m c m' c'
  split at h
  ·rename_i ht
   obtain⟨e,hu⟩:=apU ht;have key:=λw=>uZ hF hF hF hF (alJ hu p m c m' c' w)
   refine eT.guard (sd _ _ _ _ _ _ qR vG) (xQ h (λe w _=>?_) (λe w _=>?_))
   ·subst e;rw[OB];exact(key w).1
   ·subst e;rw[OB];exact(key w).2
  ·exact h.elim
 ·rename_i a b
  split at h
  ·rename_i ht
   have key:=λw=>uZ hF hF hF hF (Lc (Mw ht) a b w)
   refine eT.guard (sd _ _ _ _ _ _ qR vG) ?_;have h':tW op (a==b) K:=by cases a<;>cases b<;>exact h
   refine ME h' (λe w _=>?_) (λe w _=>?_)
   ·subst e;exact(key w).1
   ·subst e;exact(key w).2
  ·exact h.elim
 ·rename_i e b
  split at h
  ·rename_i ht
   have key:=λw=>uZ hF hF hF hF (Lc (Mw ht) e.ll b w)
   refine eT.guard (sd _ _ _ _ _ _ qR vG) ?_;cases b
   ·refine xQ h (λe' w _=>?_) (λe' w _=>?_)
    ·subst e';have:=(key w).1;rw[real,real,this,Js];simp
    ·subst e';have:=(key w).2;rw[real,real,this,Js];simp
   ·refine xQ h (λe' w _=>?_) (λe' w _=>?_)
    ·subst e';have:=(key w).1;rw[real,real,this];simp
    ·subst e';have:=(key w).2;rw[real,real,this];simp
  ·exact h.elim
 ·rename_i b e
  split at h
  ·rename_i ht
   have key:=λw=>uZ hF hF hF hF (Lc (Mw ht) b e.ll w)
   refine eT.guard (sd _ _ _ _ _ _ qR vG) ?_;cases b
   ·refine xQ h (λe' w _=>?_) (λe' w _=>?_)
    ·subst e';have:=(key w).1;rw[real,real,this,Js];simp
    ·subst e';have:=(key w).2;rw[real,real,this,Js];simp
   ·refine xQ h (λe' w _=>?_) (λe' w _=>?_)
    ·subst e';have:=(key w).1;rw[real,real,this];simp
    ·subst e';have:=(key w).2;rw[real,real,this];simp
  ·exact h.elim
 ·rename_i e f
  split at h
  ·rename_i ht
   have key:=λw=>uZ hF hF hF hF (Lc (Mw ht) e.ll f.ll w)
   refine eT.guard (sd _ _ _ _ _ _ qR vG) ?_;have ah:(bL.i_ (e.val=f.val)).ll=(e.ll==f.ll):=by
    rw[bL.FL,bL.FL,bL.FL];have:=bL.yT (.i_ (e.val=f.val)) true;simp only[bL.g_] at this;cases h1:(bL.i_ (e.val=f.val)).val<;>cases h2:e.val<;>cases aw:f.val<;>simp_all
   refine xQ h (λe' w _=>?_) (λe' w _=>?_)
   ·subst e';rw[ah];exact(key w).1
   ·subst e';rw[ah];exact(key w).2
  ·exact h.elim
 ·exact h.elim
theorem awG{op:UnOp}{x:aE}(h:WT op x K):eT P n β S (Op.unary op (real β x)) K:=by
 unfold WT at h;split at h
 ·rename_i b
  cases b
  ·exact⟨.lit true,trivial,h,λw _=>rfl⟩
  ·exact⟨.lit false,trivial,h,λw _=>rfl⟩
 ·rename_i e
  exact⟨.bool (.fF e),trivial,h,λw _=>by simp[Op.unary,real,Js]⟩
 ·rename_i m
  obtain⟨h1,h2⟩:=h;exact⟨.int .i64 (0-m),trivial,h2,λw _=>by simp only[Op.unary,Op.intArith,real,Xo h1,Sem.run_pure]⟩
 ·exact h.elim
theorem al9{s:TypeId}{x:aE}{i:Nat}(h:fieldAt P s x i K)(hx:eX n x):eT P n β S (Instr.fieldAt s (real β x) i) K:=by
 unfold fieldAt at h;split at h
 ·rename_i fields hu
  split at h
  ·rename_i f bk
   split at h
   ·rename_i m hm
    split at h
    ·rename_i hlt
     rw[yY] at hlt;have key:∀(a:Addr) (w:World),(Instr.fieldAt s (.pointer (some a)) i).run P w= .ok (.pointer (some (a.add f.offset))) w:=by
      intro a w;simp[Instr.fieldAt,run_underlying hu,bk,Instr.sureAddr,fieldPlace,qH hm,show m≠0 by omega]
     split at h
     ·rename_i k o
      refine⟨_,(show eX n (.gU k (o+f.offset)) from hx),h,λw _=>?_⟩;simp only[real];rw[key];congr 3;unfold Addr.add;split
      ·rename_i aW;rw[aW];rfl
      ·rfl
     ·rename_i a o
      refine⟨_,(show eX n (.aY a (o+f.offset)) from trivial),h,λw _=>?_⟩;rw[real,real,p5,p5,key,add_add]
     ·rename_i p
      obtain⟨a,rfl,h⟩:=h;refine⟨_,(show eX n (.aY a f.offset) from trivial),h,λw _=>?_⟩;rw[real,real,p5,key]
     ·exact h.elim
    ·exact h.elim
   ·exact h.elim
  ·exact h.elim
 ·exact h.elim
theorem afk{t:TypeId}{cs:List aE}{off:Nat}(h:part P t cs off K)(hc:okvs n cs)(hs:cs.all aE.scalar=true):eT P n β S (Go.part t (bx β cs).toArray off) K:=by
 unfold part at h;split at h
 ·rename_i ha
  split at h
  ·rename_i m hm
   split at h
   ·rename_i hle
    refine⟨.agg ((cs.drop off).take m),⟨iz.2 λu hu=>iz.1 hc u (ka (kA hu)),js.2 λu hu=>js.1 hs u (ka (kA hu))⟩,h,λw _=>?_⟩;simp only[Go.part,Sem.run_bind,NT ha,Result.andThen_ok,Dp,qH hm,Sem.run_pure,real];congr 2;apply n1;simp[ow,AU,xk]
   ·exact h.elim
  ·exact h.elim
 ·rename_i ha
  split at h
  ·rename_i v ah
   refine⟨v,iz.1 hc v (JT.2 ⟨_,ah⟩),h,λw _=>?_⟩;have:(bx β cs).toArray[off]? =some (real β v):=by simp[ow,ah]
   simp only[Go.part,Sem.run_bind,NT ha,Result.andThen_ok,JP,yX,this];rfl
  ·exact h.elim
 ·exact h.elim
theorem al_{s:TypeId}{x:aE}{i:Nat}(h:field P s x i K)(hx:eX n x):eT P n β S (Instr.field s (real β x) i) K:=by
 unfold field at h;split at h
 ·rename_i fields cs hu
  split at h
  ·rename_i f bk
   obtain⟨v,h1,h2,aw⟩:=afk (S:=S) (β:=β) h hx.1 hx.2;refine⟨v,h1,h2,λw hw=>?_⟩;simp only[real];simp[Instr.field,run_underlying hu,bk,asAgg,aw w hw]
  ·exact h.elim
 ·exact h.elim
theorem aaW{i:Int}{Gp:Nat->Prop}:∀{m j:Nat},Q9 i m j Gp->∀k:Nat,i=((j+k:Nat):Int)->k<m->Gp (j+k)
 |0,_,_,k,_,hk=>by omega
 |m+1,j,h,k,hi,hk=>by
  cases k with
  |zero=>exact h.1 JF
  |succ k=>
   have:=aaW h.2 k (by rw[hi];congr 1;omega) M;rwa[show j+1+k=j+(k+1) by omega] at this
theorem ON{lit:Bool}{i:Int}{m:Nat}{Gp:Nat->Prop}(h:JA lit i m Gp):∃k:Nat,i=k/\k<m/\Gp k:=by
 unfold JA at h;split at h
 ·cases i with
  |ofNat k=>
   cases hb:Nat.blt k m with
   |true=>
    simp only[My,hb] at h;exact⟨k,rfl,by rwa[yY] at hb,h⟩
   |false=>simp only[My,hb] at h
  |negSucc k=>exact h.elim
 ·obtain⟨⟨h1,h2⟩,aw⟩:=h
  have:=aaW aw i.toNat M M;exact⟨i.toNat,by omega,by omega,by simpa using this⟩
theorem apK{t:TypeId}{x:aE}{lit:Bool}{k:IntKind}{i:Int}(h:indexAt P t x lit i K)(hx:eX n x):eT P n β S (Instr.indexAt t (real β x) (.int k i)) K:=by
 unfold indexAt at h;split at h
 ·rename_i len e l o hu
  split at h
  ·rename_i s hs
   obtain⟨j,rfl,hj,h⟩:=ON h;refine⟨.gU l (o+j*s),hx,h,λw _=>?_⟩;simp only[real];simp[Instr.indexAt,asIntOf,run_underlying hu,Instr.sureAddr,hj,qH hs];unfold Addr.add;split
   ·rename_i aW;simp[aW]
   ·rfl
  ·exact h.elim
 ·rename_i len e a o hu
  split at h
  ·rename_i s hs
   have key:∀(j:Nat) (w:World),j<len->(Instr.indexAt t (vU a o) (.int k (j:Int))).run P w= .ok (vU a (o+j*s)) w:=by
    intro j w hj;rw[p5,p5,<-add_add];simp[Instr.indexAt,asIntOf,run_underlying hu,Instr.sureAddr,hj,qH hs]
   split at h
   ·obtain⟨j,rfl,hj,h⟩:=ON (lit:=true) h
    exact⟨.aY a (o+j*s),trivial,h,λw _=>key j w hj⟩
   ·obtain⟨⟨h1,h2⟩,h⟩:=h
    refine⟨.aY a (o+i.toNat*s),trivial,h,λw _=>?_⟩;have:=key i.toNat w M;rwa[XS h1] at this
  ·exact h.elim
 ·rename_i e p m c hu
  split at h
  ·rename_i s hs
   obtain⟨a,rfl,⟨h1,h2⟩,h⟩:=h;refine⟨.aY a (i.toNat*s),trivial,h,λw _=>?_⟩;simp only[real,p5];simp[Instr.indexAt,asIntOf,run_underlying hu,h1,h2,qH hs]
  ·exact h.elim
 ·rename_i e l o m c hu
  split at h
  ·rename_i s hs
   obtain⟨j,rfl,hj,h⟩:=ON h;refine⟨.gU l (o+j*s),hx,h,λw _=>?_⟩;simp only[real];simp[Instr.indexAt,asIntOf,run_underlying hu,hj,qH hs];unfold Addr.add;split
   ·rename_i aW;simp[aW]
   ·rfl
  ·exact h.elim
 ·exact h.elim
theorem apN{t:TypeId}{x:aE}{lit:Bool}{k:IntKind}{i:Int}(h:index P t x lit i K)(hx:eX n x):eT P n β S (Instr.index t (real β x) (.int k i)) K:=by
 unfold index at h;split at h
 ·rename_i len e cs hu
  split at h
  ·rename_i s hs
   obtain⟨j,rfl,hj,h⟩:=ON h;obtain⟨v,h1,h2,aw⟩:=afk (S:=S) (β:=β) h hx.1 hx.2;refine⟨v,h1,h2,λw hw=>?_⟩;simp only[real];simp[Instr.index,asIntOf,run_underlying hu,hj,qH hs,aw w hw]
  ·exact h.elim
 ·rename_i s hu
  obtain⟨⟨h1,h2⟩,h⟩:=h;refine⟨.int .u8 (ir s i),trivial,h,λw _=>?_⟩;have hlt:i.toNat<s.length:=by omega
  have:(ByteArray.mk s.toArray)[i.toNat]? =some (s.getD i.toNat 0):=by
   have Ss:i.toNat<(ByteArray.mk s.toArray).size:=by rw[Om];exact hlt
   rw[getElem?_pos (ByteArray.mk s.toArray) i.toNat Ss];simp[kb,el hlt];rfl
  simp only[real,ir];simp[Instr.index,asIntOf,run_underlying hu,this,h1]
 ·exact h.elim
theorem al3{x:aE}{i:Nat}(h:extract x i K)(hx:eX n x):eT P n β S (Instr.extract (real β x) i) K:=by
 unfold extract at h;split at h
 ·rename_i vs
  split at h
  ·rename_i v ah
   refine⟨v,iz.1 hx v (JT.2 ⟨_,ah⟩),h,λw _=>?_⟩;have:(bx β vs).toArray[i]? =some (real β v):=by simp[ow,ah]
   simp[Instr.extract,real,this]
  ·exact h.elim
 ·exact h.elim
theorem akU{s d:TypeId}{x:aE}(h:convert P s d x K):eT P n β S (Go.convert s d (real β x)) K:=by
 unfold convert at h;split at h
 ·rename_i k0 k k' m hs hd
  have key:∀w:World,(Go.convert s d (.int k' m)).run P w= .ok (.int k (k.wrap m)) w:=by
   intro w;simp[Go.convert,run_underlying hs,run_underlying hd,Conv.intToInt]
  have bQ:arith k m K->eT P n β S (Go.convert s d (.int k' m)) K:=λh=>by
   obtain⟨y,hy,hk⟩:=Kt h;exact⟨.int k y,trivial,hk,λw _=>by rw[key,hy];rfl⟩
  apply bQ;unfold arith;split at h<;>exact h
 ·rename_i l hs hd
  exact⟨.str l,trivial,h,λw _=>by simp[Go.convert,run_underlying hs,run_underlying hd,real]⟩
 ·rename_i k0 k m hs hd
  exact⟨.str (kk m),trivial,h,λw _=>by simp[Go.convert,run_underlying hs,run_underlying hd,real,Conv.intToString,kk]⟩
 ·exact h.elim
end Go.Sy
namespace Go.Sy
variable[k7]
variable{P:Program}{n:Nat}{β:List Nat}{S:World->Prop}{K:aE->Prop}
theorem EU{G:hM}{a:Act}(ez:jj n β G a.tmps){d l:Int}{x:Option Operand}(h:pL (eval P G) d x=some l):(x=none/\l=d)∨∃y k,x=some y/\a.eval y= .int k l:=by
 unfold pL at h;split at h
 ·cases h;exact .inl ⟨rfl,rfl⟩
 ·rename_i y
  split at h
  ·rename_i hy
   cases h;exact .inr ⟨y,_,rfl,(xN ez hy).2⟩
  ·cases h
theorem yH(k:IntKind)(i:Int)(y:Nat)(h1:0<=i)(h2:i<=y)(ke:BoundsCode)(w:World):(Instr.sliceBound (.int k i) y ke).run P w= .ok i.toNat w:=by
 simp[Instr.sliceBound,asIntOf,h1,h2]
theorem Wk{G:hM}{a:Act}(ez:jj n β G a.tmps)(isSlice:Bool)(len cap:Nat){lo hi:Option Operand}{l h:Int}
  (hl:pL (eval P G) 0 lo=some l) (hh:pL (eval P G) len hi=some h) (h1:0<=l) (h2:l<=h) (aw:h<=cap) (w:World):
  (Instr.sliceBounds isSlice len cap (lo.map a.eval) (hi.map a.eval) none).run P w= .ok (l.toNat,h.toNat,cap) w:=by
 unfold Instr.sliceBounds;rcases EU ez hh with⟨rfl,rfl⟩|⟨y,k,rfl,hy⟩
 ·rcases EU ez hl with⟨rfl,rfl⟩|⟨x,aK,rfl,hx⟩
  ·simp
  ·simp[hx,yH aK l len h1 h2]
 ·have hc:h<=(h.toNat:Int):=by omega
  rcases EU ez hl with⟨rfl,rfl⟩|⟨x,aK,rfl,hx⟩
  ·simp[hy,yH k h cap M aw]
  ·simp[hy,hx,yH k h cap M aw,yH aK l h.toNat h1 M]
theorem av5{G:hM}{a:Act}(ez:jj n β G a.tmps)(len cap:Nat){lo o1:Option Operand}{hi:Operand}{l h m:Int}
  (hl:pL (eval P G) 0 lo=some l) (hh:pL (eval P G) 0 (some hi)=some h) (hm:pL (eval P G) 0 o1=some m) (hmx:o1.isSome=true) (h1:0<=l) (h2:l<=h) (aw:h<=m) (aZ:m<=cap) (w:World):
  (Instr.sliceBounds true len cap (lo.map a.eval) (some (a.eval hi)) (o1.map a.eval)).run P w= .ok (l.toNat,h.toNat,m.toNat) w:=by
 unfold Instr.sliceBounds;rcases EU ez hm with⟨rfl,_⟩|⟨z,k3,rfl,hz⟩
 ·cases hmx
 rcases EU ez hh with⟨e,_⟩|⟨y,k,e,hy⟩
 ·cases e
 cases e;rcases EU ez hl with⟨rfl,rfl⟩|⟨x,aK,rfl,hx⟩
 ·simp[hz,hy,yH k3 m cap M aZ,yH k h m.toNat M M]
 ·simp[hz,hy,hx,yH k3 m cap M aZ,yH k h m.toNat M M,yH aK l h.toNat h1 M]
theorem av6{G:hM}{a:Act}(ez:jj n β G a.tmps){t:TypeId}{x:aE}{lo hi o1:Option Operand}(h:slice P t x lo hi o1 (eval P G) K):
  eT P n β S (Instr.sliceAt t (real β x) (lo.map a.eval) (hi.map a.eval) (o1.map a.eval)) K:=by
 unfold slice at h;split at h
 ·rename_i aq5
  split at h
  ·rename_i e p m c dS hu
   split at h
   ·rename_i s l h' aeM hs hl hh hm
    obtain⟨⟨h1,h2,aw,aZ⟩,h⟩:=h;refine⟨_,(show eX n (.cJ (cM p aeM.toNat l.toNat s) (h'-l).toNat (aeM-l).toNat) from trivial),h,λw _=>?_⟩;have hb:=av5 (P:=P) ez m c hl hh hm rfl h1 h2 aw aZ w;simp only[Option.map_some] at hb;simp only[real,Instr.sliceAt,Instr.slice,Sem.run_bind,run_underlying hu,Result.andThen_ok,Option.map_some,hb,qH hs,Sem.run_pure,cM];congr 2<;>omega
   ·exact h.elim
  ·exact h.elim
 ·split at h
  ·rename_i s hu
   split at h
   ·rename_i l h' hl hh
    obtain⟨⟨h1,h2,aw⟩,h⟩:=h;refine⟨_,(show eX n (.str ((s.drop l.toNat).take (h'-l).toNat)) from trivial),h,λw _=>?_⟩;have hb:=Wk (P:=P) ez false s.length s.length hl hh h1 h2 aw w;have hsz:(ByteArray.mk s.toArray).size=s.length:=Om s;have LU:(ByteArray.mk s.toArray).extract l.toNat h'.toNat=ByteArray.mk ((s.drop l.toNat).take (h'-l).toNat).toArray:=by
     apply ByteArray.ext;simp[ByteArray.data_extract];congr 1;omega
    simp only[real];simp[Instr.sliceAt,Instr.slice,run_underlying hu,hsz,hb,LU]
   ·exact h.elim
  ·rename_i e p m c hu
   split at h
   ·rename_i s l h' hs hl hh
    obtain⟨⟨h1,h2,aw⟩,h⟩:=h;refine⟨_,(show eX n (.cJ (cM p c l.toNat s) (h'-l).toNat (c-l.toNat)) from trivial),h,λw _=>?_⟩;have hb:=Wk (P:=P) ez true m c hl hh h1 h2 aw w;simp only[real,Instr.sliceAt,Instr.slice,Sem.run_bind,run_underlying hu,Result.andThen_ok,Option.map_none,hb,qH hs,Sem.run_pure,cM];congr 2;omega
   ·exact h.elim
  ·rename_i m e aB o hu
   split at h
   ·rename_i s l h' hs hl hh
    obtain⟨⟨h1,h2,aw⟩,h⟩:=h;refine⟨_,(show eX n (.cJ (cM (Ob aB o) m l.toNat s) (h'-l).toNat (m-l.toNat)) from trivial),h,λw _=>?_⟩;have hb:=Wk (P:=P) ez false m m hl hh h1 h2 aw w;have he:real β (.aY aB o)= .pointer (Ob aB o):=by cases o<;>rfl
    obtain⟨q,hq⟩:∃q,Ob aB o=some q:=by cases o<;>exact⟨_,rfl⟩
    rw[he,hq];simp only[real,Instr.sliceAt,Instr.sureAddr,Sem.run_bind,run_underlying hu,Result.andThen_ok,Option.map_none,hb,qH hs,Sem.run_pure,cM,hq,Option.map_some];split
    ·congr 2;omega
    ·congr 2;omega
   ·exact h.elim
  ·exact h.elim
theorem aqy{t ty:TypeId}{x:aE}(h:lenOf P t x K):eT P n β S (Builtin.len_ #[t] ty #[real β x]) K:=by
 unfold lenOf at h;split at h
 ·rename_i s hu
  exact⟨.int .i64 s.length,trivial,h,λw _=>by simp[Builtin.len_,run_underlying hu,real,goInt,Om]⟩
 ·rename_i e p m c hu
  exact⟨.int .i64 m,trivial,h,λw _=>by simp[Builtin.len_,run_underlying hu,real,goInt]⟩
 ·rename_i e k o m c hu
  exact⟨.int .i64 m,trivial,h,λw _=>by simp[Builtin.len_,run_underlying hu,real,goInt]⟩
 ·rename_i m e hu
  exact⟨.int .i64 m,trivial,h,λw _=>by simp[Builtin.len_,run_underlying hu,goInt,real]⟩
 ·exact h.elim
theorem aeL:∀{vs:List aE} {a:Int},z_ true a vs K->∃b,K (.int .i64 b)/\∀w,((bx β vs).foldlM Builtin.min2 (.int .i64 a)).run P w= .ok (.int .i64 b) w
 |[],a,h=>⟨a,h,λw=>rfl⟩
 |v::vs,a,h=>by
  cases v with
  |int k m=>
   cases k<;>first|exact h.elim|skip
   obtain⟨b,hb,hr⟩:=aeL (show z_ true (min a m) vs K from h);refine⟨b,hb,λw=>?_⟩;have:(if m<a then m else a)=min a m:=by omega
   simp only[bx,real,List.foldlM_cons,Sem.run_bind,Builtin.min2,Sem.run_pure,Result.andThen_ok,this];exact hr w
  |_=>exact h.elim
theorem aeJ:∀{vs:List aE} {a:Int},z_ false a vs K->∃b,K (.int .i64 b)/\∀w,((bx β vs).foldlM Builtin.max2 (.int .i64 a)).run P w= .ok (.int .i64 b) w
 |[],a,h=>⟨a,h,λw=>rfl⟩
 |v::vs,a,h=>by
  cases v with
  |int k m=>
   cases k<;>first|exact h.elim|skip
   obtain⟨b,hb,hr⟩:=aeJ (show z_ false (max a m) vs K from h);refine⟨b,hb,λw=>?_⟩;have:(if m>a then m else a)=max a m:=by omega
   simp only[bx,real,List.foldlM_cons,Sem.run_bind,Builtin.max2,Sem.run_pure,Result.andThen_ok,this];exact hr w
  |_=>exact h.elim
theorem akr{b:Builtin}{jF:Array TypeId}{ty:TypeId}{consts:Array Bool}{args:List aE}(h:QC P b jF.toList args K):
  ∃v,eX n v/\K v/\∀w,(Go.builtin b jF ty consts (bx β args).toArray).run P w= .ok (.value (real β v)) w:=by
 obtain⟨jF⟩:=jF;simp only at h;unfold QC at h;split at h
 ·rename_i t x
  obtain⟨v,h1,h2,aw⟩:=aqy (n:=n) (β:=β) (S:=λ_=>True) (ty:=ty) h;exact⟨v,h1,h2,λw=>by simp[Go.builtin,bx,aw w trivial]⟩
 ·rename_i t x
  split at h
  ·rename_i e p m c hu
   exact⟨.int .i64 c,trivial,h,λw=>by simp[Go.builtin,Builtin.cap_,bx,run_underlying hu,real,goInt]⟩
  ·exact h.elim
 ·rename_i a vs
  obtain⟨b,h1,h2⟩:=aeL (P:=P) (β:=β) h;exact⟨.int .i64 b,trivial,h1,λw=>by simp[Go.builtin,Builtin.min_,bx,real,h2]⟩
 ·rename_i a vs
  obtain⟨b,h1,h2⟩:=aeJ (P:=P) (β:=β) h;exact⟨.int .i64 b,trivial,h1,λw=>by simp[Go.builtin,Builtin.max_,bx,real,h2]⟩
 ·exact h.elim
theorem abl(off:Nat):∀(vs:List Value) (cells:Array Value) (j:Nat),off+j+vs.length<=cells.size->∀k,
  ((vs.zipIdx j).foldl (λcs (x:Value×Nat)=>cs.setIfInBounds (off+x.2) x.1) cells)[k]? =if off+j<=k/\k<off+j+vs.length then vs[k-(off+j)]? else cells[k]?
 |[],cells,j,_,k=>by rw[ag aS];rfl
 |v::vs,cells,j,hle,k=>by
  simp only[ko] at hle;rw[List.zipIdx_cons,XZ,abl off vs _ (j+1) ej]
  by_cases h1:off+(j+1)<=k/\k<off+(j+1)+vs.length
  ·rw[aA h1,aA ej]
   have:k-(off+j)=(k-(off+(j+1)))+1:=by omega
   rw[this,XY]
  ·rw[ag h1]
   by_cases h2:k=off+j
   ·subst h2
    rw[aA aS];simp[show off+j<cells.size by omega]
   ·rw[ag ej,Dq ej]
theorem amg(off:Nat)(vs:List Value)(cells:Array Value)(hle:off+vs.length<=cells.size):
  ((vs.zipIdx 0).foldl (λcs (x:Value×Nat)=>cs.setIfInBounds (off+x.2) x.1) cells).toList=cells.toList.take off++(vs++cells.toList.drop (off+vs.length)):=by
 apply s8;intro k;rw[uA,abl off vs cells 0 M];have pE:(cells.toList.take off).length=off:=by simp;omega
 by_cases h1:k<off
 ·rw[ag M,nr M,uD,aA h1,uA]
 ·rw[mu M,pE]
  by_cases h2:k-off<vs.length
  ·rw[aA M,nr h2];rfl
  ·rw[ag M,mu M,s9,uA]
   congr 1;omega
theorem amh(cells:Array Value)(vs:Array Value)(off:Nat):
  vs.zipIdx.foldl (λcs (c,j)=>cs.setIfInBounds (off+j) c) cells=(vs.toList.zipIdx.foldl (λcs (x:Value×Nat)=>cs.setIfInBounds (off+x.2) x.1) cells):=by
 rw[<-Array.foldl_toList,Array.toList_zipIdx]
theorem Ll{j6:Nat->Option (Nat×Nat)}:∀{a_:List (Nat×aE)} {cells out:List aE},fill j6 cells a_=some out->
  okvs n cells->cells.all aE.scalar=true->(∀p∈a_,eX n p.2)->
  Instr.fill j6 (bx β cells).toArray (a_.map λp=>(p.1,real β p.2))=some (bx β out).toArray/\okvs n out/\out.all aE.scalar=true/\out.length=cells.length
 |[],cells,out,h,h1,h2,_=>by cases h;exact⟨rfl,h1,h2,rfl⟩
 |(i,v)::a_,cells,out,h,h1,h2,aw=>by
  simp only[fill] at h;split at h
  ·cases h
  ·rename_i off size hp
   split at h
   ·rename_i hc
    simp only[fR,AT,Nat.ble_eq] at hc;obtain⟨⟨sq,mg⟩,jf⟩:=hc;have i7:=aw (i,v) aS;obtain⟨f1,f2,_⟩:=zo (β:=β) i7;have fc:okvs n (cells.take off++(v.dI++cells.drop (off+size))):=by
     rw[iz] at*;intro u hu;simp only[gi] at hu;rcases hu with hu|hu|hu
     ·exact h1 u (kA hu)
     ·exact f2 u hu
     ·exact h1 u (ka hu)
    have H_:(cells.take off++(v.dI++cells.drop (off+size))).all aE.scalar=true:=by
     rw[js] at*;intro u hu;simp only[gi] at hu;rcases hu with hu|hu|hu
     ·exact h2 u (kA hu)
     ·exact jf u hu
     ·exact h2 u (ka hu)
    obtain⟨de,c1,r3,r4⟩:=Ll h fc H_ (λp hp=>aw p (by simp[hp]));refine⟨?_,c1,r3,by rw[r4];simp;omega⟩;rw[<-de];simp only[pU,Instr.fill,hp,f1];have e1:(bx β v.dI).toArray.size=size:=by simp[rH,sq]
    rw[ag (by rw[e1];simp[rH];omega)];congr 1;apply n1;rw[amh,amg off _ _ (by simp[rH];omega)];simp[ow,sq]
   ·cases h
theorem Uz{G:hM}{a:Act}(ez:jj n β G a.tmps):∀{xs:List (Nat×Operand)} {a_:List (Nat×aE)},EX P G xs=some a_->
  (∀p∈a_,eX n p.2)/\xs.map (λx=>(x.1,a.eval x.2))=a_.map λp=>(p.1,real β p.2)
 |[],a_,h=>by cases h;exact⟨by simp,rfl⟩
 |(i,x)::xs,a_,h=>by
  simp only[EX,k6,il] at h;obtain⟨v,ah,cj,hu,rfl⟩:=h;obtain⟨h1,h2⟩:=xN ez ah;obtain⟨a8,aK⟩:=Uz ez hu;refine⟨λp hp=>?_,by simp only[pU,h2,aK]⟩;rcases e7.1 hp with rfl|hp
  ·exact h1
  ·exact a8 p hp
theorem afn:∀{lV:List Field} {aP:List (Nat×Nat)},Np P lV=some aP->lV.mapM (λf=>(P.info? f.type).map λi=>(f.offset,i.size))=some aP
 |[],aP,h=>by cases h;rfl
 |f::lV,aP,h=>by
  simp only[Np,k6,il] at h;obtain⟨s,hs,afD,hq,rfl⟩:=h;unfold kx at hs;cases hi:P.info? f.type with
  |none=>rw[hi] at hs;cases hs
  |some i=>
   rw[hi] at hs;cases hs;simp[JS,hi,afn hq]
end Go.Sy
namespace Go.Sy
variable[k7]
variable{P:Program}{n:Nat}{β:List Nat}{S:World->Prop}{K:aE->Prop}
theorem ajR{t:TypeId}{a_:List (Nat×aE)}{v:aE}(hb:build P t a_=some v)(nN:∀p∈a_,eX n p.2)(parts:Array (Nat×Value))
  (Me:parts.toList=a_.map λp=>(p.1,real β p.2)) (w:World):(Instr.build t parts).run P w= .ok (real β v) w/\eX n v:=by
 unfold build at hb;simp only[k6] at hb;obtain⟨z,hz,hb⟩:=hb;obtain⟨tb,_,sD,zS,aDv,hit,x5⟩:=Fi hz w;obtain⟨i7,jf⟩:=sD n β;obtain⟨f1,f2,lU⟩:=zo (β:=β) i7;rw[jf] at f1;split at hb
 ·rename_i fields hu
  simp only[k6,il] at hb;obtain⟨aP,qq,out,Hy,rfl⟩:=hb;obtain⟨de,c1,r3,_⟩:=Ll (β:=β) Hy f2 zS nN;refine⟨run_build w t parts _ ?_,c1,r3⟩;simp only[Program.built,hit,hu,x5,afn qq,f1,Me];rw[<-de];congr 1;funext i;simp
 ·rename_i e hu
  simp only[k6,il] at hb;obtain⟨s,hs,out,Hy,rfl⟩:=hb;obtain⟨de,c1,r3,_⟩:=Ll (β:=β) Hy f2 zS nN;unfold kx at hs;cases hi:P.info? e with
  |none=>rw[hi] at hs;cases hs
  |some i=>
   rw[hi] at hs;cases hs;exact⟨run_build w t parts _ (by simp only[Program.built,hit,hu,x5,hi,f1,Me];exact de),c1,r3⟩
 ·cases hb
theorem age(z:List aE):∀n,(sS z n).length=n*z.length
 |0=>by simp[sS]
 |n+1=>by simp[sS,age z n,Ds,JN]
theorem agd(z:List aE)(hz:0<z.length):∀n i,i<n*z.length->(sS z n)[i]? =z[i%z.length]?
 |0,i,h=>by simp at h
 |n+1,i,h=>by
  simp only[sS]
  by_cases hi:i<z.length
  ·rw[nr hi,XO hi]
  ·rw[mu M,agd z hz n _ (by rw[Ds] at h;omega),Nat.mod_eq_sub_mod (a:=i) (b:=z.length) M]
theorem agf{z:List aE}{n:Nat}{v:aE}(h:v∈sS z n):v∈z:=by
 induction n with
 |zero=>simp[sS] at h
 |succ n ih=>
  simp only[sS,gi] at h;exact h.elim id ih
theorem aBB(df:List aE)(hz:0<df.length)(n:Nat)(m:Nat)(hm:m=n*df.length):
  (Array.range m).map (λi=>(bx β df).toArray[i%(bx β df).toArray.size]!)=(bx β (sS df n)).toArray:=by
 subst hm;apply n1;apply s8;intro i;simp only[O4,Array.toList_range,pV,s_,ow,gw]
 by_cases hi:i<n*df.length
 ·rw[F4 hi,agd df hz n i hi]
  have hlt:i%df.length<df.length:=Nat.mod_lt _ hz;simp[el hlt,aiq]
 ·rw[nu ej,nu (by rw[age];omega)];rfl
theorem ajQ{t e:TypeId}{len:Nat}{a_:List (Nat×aE)}{cs:List aE}(hb:KF P t len a_=some (e,cs))(nN:∀p∈a_,eX n p.2)(parts:Array (Nat×Value))
  (Me:parts.toList=a_.map λp=>(p.1,real β p.2)) (w:World):
  (Instr.buildSlice t len parts).run P w= .ok (.slice (some ⟨w.heap.size,0,none⟩) len len) (w.alloc (.cells (bx β cs).toArray e))/\okvs n cs/\cs.all aE.scalar=true:=by
 unfold KF at hb;split at hb
 ·rename_i e' hu
  simp only[k6] at hb;obtain⟨s,hs,z,hz,hb⟩:=hb;split at hb
  ·rename_i hc
   simp only[fR,yY,AT] at hc;obtain⟨⟨⟨bY,c2⟩,c3⟩,c4⟩:=hc;simp only[il] at hb;obtain⟨vs,Hy,hb⟩:=hb;cases hb;obtain⟨tb,adD,sD,zS,_⟩:=Fi hz w;obtain⟨i7,jf⟩:=sD n β;obtain⟨f1,f2,lU⟩:=zo (β:=β) i7;rw[jf] at f1;have aoW:okvs n (sS z.dI len):=iz.2 λv ah=>iz.1 f2 v (agf ah)
   have ao0:(sS z.dI len).all aE.scalar=true:=js.2 λv ah=>js.1 zS v (agf ah)
   obtain⟨de,c1,r3,r4⟩:=Ll (β:=β) Hy aoW ao0 nN;refine⟨?_,c1,r3⟩;have hz2:=aBB (β:=β) z.dI M len (len*s) (by rw[c4]);have aW:¬len*s=0:=by
    have:=Nat.mul_pos c2 bY;omega
   have D':((if len*s=0 then pure #[] else do let ai4<-zeroValue e;pure ai4.cells:Sem (Array Value)).run P w)= .ok (bx β z.dI).toArray w:=by
    rw[ag aW];simp[adD,f1]
   simp only[Instr.buildSlice,Sem.run_bind,run_underlying hu,Result.andThen_ok,qH hs,Sem.run_ite];rw[ag M,ag aW];rw[adD,Result.andThen_ok,Sem.run_pure,Result.andThen_ok,f1,hz2,Me,de];rfl
  ·cases hb
 ·cases hb
theorem NG{L:List dh}{k off m:Nat}{cs:List aE}(h:E_ L k off m=some cs):∃l,L[k]? =some l/\off+m<=l.cells.length/\cs=(l.cells.drop off).take m:=by
 unfold E_ at h;split at h
 ·rename_i l hl
  split at h
  ·rename_i hle
   cases h;exact⟨l,hl,O7 hle,rfl⟩
  ·cases h
 ·cases h
def CC(g:Bool)(vs:List Value):Value:=match g with
 |true=> .agg vs.toArray
 |false=>vs.getD 0 undef
theorem agx{t:TypeId}{m:Nat}{g:Bool}(hm:kx P t=some m)(hg:Cw P t=some g){a:Addr}{o:Nat}{vs:List Value}(hl:vs.length=m)(h1:g=false->m=1){w:World}(h:At w a o vs):
  (loadVar t (a.add o)).run P w= .ok (CC g vs) w:=by
 have hc:∀j v,vs[j]? =some v->w.cell? ((a.add o).add j)=some v:=λj v ah=>by rw[add_add];exact h j v ah
 cases g with
 |true=>
  have hr:=run_loadCells_list (P:=P) w (a.add o) vs hc;rw[hl] at hr;simp only[loadVar,Sem.run_bind,NT hg,Result.andThen_ok,Dp,qH hm,hr,Sem.run_pure,CC]
 |false=>
  have oU:vs.length=1:=by rw[hl,h1 rfl]
  obtain⟨v,rfl⟩:=List.length_eq_one_iff.1 oU;have aW:=hc 0 v rfl;rw[show(a.add o).add 0=a.add o from by rw[add_add,AW]] at aW;simp[loadVar,NT hg,aW,CC]
theorem ajs{g:Bool}{cs:List aE}(h:Gw g cs K)(hc:okvs n cs)(hs:cs.all aE.scalar=true):
  ∃v,eX n v/\K v/\v.dI=cs/\(g=false->cs.length=1)/\real β v=CC g (bx β cs):=by
 cases g with
 |true=>exact⟨.agg cs,⟨hc,hs⟩,h,rfl,λe=>mR,rfl⟩
 |false=>
  cases cs with
  |nil=>exact h.elim
  |cons v rest=>
   cases rest with
   |cons _ _=>exact h.elim
   |nil=>
    refine⟨v,hc.1,h,?_,λ_=>rfl,rfl⟩;have:v.scalar=true:=by simpa using hs
    cases v<;>first|rfl|cases this
def NH(L:List dh)(x:aE)(v:aE)(w:World):Prop:=match x with
 | .gU k o=>At w ⟨(a6 L).getD k 0,o,none⟩ 0 (bx (a6 L) v.dI)
 | .aY a o=>At w a o (bx (a6 L) v.dI)
 | .ptr (some a)=>At w a 0 (bx (a6 L) v.dI)
 |_=>True
theorem M4{aD:List Nat}{b:Nat}{Q:Prop}(h:IL aD b Q):b∉aD/\Q:=by
 cases aD with
 |nil=>exact⟨by simp,h⟩
 |cons d cf=>exact h
theorem aqL{L:List dh}{b4:World}{t:TypeId}{x:aE}{aD:List Nat}(h:load P L aD b4 t x K)(hn:n=L.length)(aj:∀(k:Nat) (l:dh),L[k]? =some l->okvs n l.cells/\l.cells.all aE.scalar=true):
  ∃v,eX n v/\K v/\(∀w,NH L x v w->(Instr.loadAt t (real (a6 L) x)).run P w= .ok (real (a6 L) v) w)/\
   (match x with
    | .gU k o=>∃l,L[k]? =some l/\o+v.dI.length<=l.cells.length/\v.dI=(l.cells.drop o).take v.dI.length
    | .aY a o=>a.block∉aD/\At b4 a o (bx (a6 L) v.dI)
    | .ptr p=>∃a,p=some a/\a.block∉aD/\At b4 a 0 (bx (a6 L) v.dI)
    |_=>False):=by
 unfold load at h;split at h
 ·rename_i m g z hm hg hz
  cases Tz:Nat.beq z.dI.length m with
  |false=>rw[Tz] at h;exact h.elim
  |true=>
  rw[Tz] at h;simp only[] at h;have vh:z.dI.length=m:=uC Tz;have main:∀(a:Addr) (o:Nat) (cs:List aE),okvs n cs->cs.all aE.scalar=true->cs.length=m->Gw g cs K->
    ∃v,eX n v/\K v/\v.dI=cs/\∀w,At w a o (bx (a6 L) cs)->(loadVar t (a.add o)).run P w= .ok (real (a6 L) v) w:=by
   intro a o cs h1 h2 aw aZ;obtain⟨v,a8,aK,k3,k4,dW⟩:=ajs (β:=a6 L) aZ h1 h2;refine⟨v,a8,aK,k3,λw hw=>?_⟩;rw[dW];exact agx hm hg (by rw[rH,aw]) (λe=>by rw[<-aw];exact k4 e) hw
  cases x with
  |gU k o=>
   simp only[] at h;split at h
   ·rename_i cs jH
    obtain⟨l,hl,hle,rfl⟩:=NG jH;obtain⟨i7,jf⟩:=aj k l hl;have hlen:((l.cells.drop o).take m).length=m:=by simp;omega
    obtain⟨v,a8,aK,k3,k4⟩:=main ⟨(a6 L).getD k 0,o,none⟩ 0 _ (iz.2 λu hu=>iz.1 i7 u (ka (kA hu))) (js.2 λu hu=>js.1 jf u (ka (kA hu))) hlen h;refine⟨v,a8,aK,λw hw=>?_,l,hl,by rw[k3,hlen];exact hle,by rw[k3,hlen]⟩;have:=k4 w XK;simpa[Instr.loadAt,Instr.sureAddr,real,Addr.add] using this
   ·exact h.elim
  |aY a o=>
   simp only[] at h;split at h
   ·rename_i s hs
    obtain⟨hd,h⟩:=M4 h;obtain⟨cs,h1,h2,aw,aZ,ca⟩:=Lf h;obtain⟨v,a8,aK,k3,k4⟩:=main a o cs (sN (ef _) _ h1) h2 (by rw[aw,Oa hs,vh]) ca;refine⟨v,a8,aK,λw hw=>?_,hd,by rw[k3];exact aZ⟩;rw[real,p5];exact k4 w XK
   ·exact h.elim
  |ptr p=>
   simp only[] at h;split at h
   ·rename_i s hs
    obtain⟨a,rfl,h'⟩:=h;obtain⟨hd,h'⟩:=M4 h';obtain⟨cs,h1,h2,aw,aZ,ca⟩:=Lf h';obtain⟨v,a8,aK,k3,k4⟩:=main a 0 cs (sN (ef _) _ h1) h2 (by rw[aw,Oa hs,vh]) ca;refine⟨v,a8,aK,λw hw=>?_,a,rfl,hd,by rw[k3];exact aZ⟩;have:=k4 w XK;simpa[Instr.loadAt,Instr.sureAddr,real,Addr.add] using this
   ·exact h.elim
  |_=>exact h.elim
 ·exact h.elim
end Go.Sy
namespace Go.Sy
open Go.RowKit (Below)
variable[k7]
variable{P:Program}
theorem vZ:∀{L:List dh} {k:Nat} {l:dh},L[k]? =some l->(a6 L).getD k 0=l.aF
 |[],k,l,h=>by simp at h
 |x::L,0,l,h=>by cases h;rfl
 |x::L,k+1,l,h=>by
  have:=vZ (L:=L) (k:=k) FY;simpa[a6] using this
theorem ZN(L:List dh)(l:dh):a6 (L++[l])=a6 L++[l.aF]:=by
 induction L with
 |nil=>rfl
 |cons x L ih=>simp[a6,ih]
theorem KD(L:List dh):(a6 L).length=L.length:=by
 induction L with
 |nil=>rfl
 |cons x L ih=>simp[a6,ih]
theorem q6{L:List dh}{b:Nat}(h:b∈a6 L):∃(k:Nat) (l:dh),L[k]? =some l/\l.aF=b:=by
 induction L with
 |nil=>simp[a6] at h
 |cons x L ih=>
  simp only[a6,e7] at h;rcases h with rfl|h
  ·exact⟨0,x,rfl,rfl⟩
  ·obtain⟨k,l,h1,h2⟩:=ih h
   exact⟨k+1,l,by simpa using h1,h2⟩
theorem T8{L:List dh}{k:Nat}{l:dh}(h:L[k]? =some l):l.aF∈a6 L:=by
 induction L generalizing k with
 |nil=>simp at h
 |cons x L ih=>
  cases k with
  |zero=>cases h;simp[a6]
  |succ k=>exact jt _ (ih FY)
theorem Ko{L eD:List dh}(h:∀(k:Nat) (l:dh),L[k]? =some l->∃l',eD[k]? =some l'/\l'.aF=l.aF):y2 L.length (a6 L) (a6 eD):=by
 intro k hk;obtain⟨l',h1,h2⟩:=h k L[k] (el hk);rw[vZ h1,vZ (el hk),h2]
theorem dV.refl(w:World)(cf:List Nat):dV w cf w:=⟨rfl,rfl,rfl,cL _,λ_ _ _=>rfl⟩
theorem dV.grow{w w':World}{cf:List Nat}(h:dV w cf w'):Go.Sy.grow w cf w':=by
 cases cf with
 |nil=>exact⟨h.os,h.tape,h.output,h.size,λk hk=>h.heap k hk aS⟩
 |cons d cf=>exact h
def aai:Obj->Bool
 | .cells .. =>true
 | .map .. =>true
 |_=>false
def mark(aD:Nat):Deferred:={target:= .collected aD,args:=#[]}
structure qT(w0:World)(a1:List (Nat×Obj))(s:bU)(cf:List Deferred)(w:World):Prop where
 defers:cf=s.bj.map mark
 marks:∀aD∈s.bj,w0.heap.size<=aD/\w.heap[aD]? =some (.deferred (some []))
 wS:∀q∈a1,w0.heap.size<=q.1/\w.heap[q.1]? =some q.2/\aai q.2=false
 Aa:s.a1=a1.map (·.1)
 Uh:s.bj.Nodup
theorem qT.M3{w0:World}{a1:List (Nat×Obj)}{s:bU}{cf:List Deferred}{w:World}(h:qT w0 a1 s cf w){k:Nat}(hk:k∈s.bj++s.a1):w0.heap.size<=k/\∃o:Obj,w.heap[k]? =some o/\aai o=false:=by
 rcases gi.1 hk with q|q
 ·exact⟨(h.marks k q).1,_,(h.marks k q).2,rfl⟩
 ·rw[h.Aa] at q
  obtain⟨z,hz,rfl⟩:=lr.1 q;obtain⟨a,b,c⟩:=h.wS z hz;exact⟨a,_,b,c⟩
theorem qT.lt{w0:World}{a1:List (Nat×Obj)}{s:bU}{cf:List Deferred}{w:World}(h:qT w0 a1 s cf w){k:Nat}(hk:k∈s.bj++s.a1):k<w.heap.size:=by
 obtain⟨_,o,ho,_⟩:=h.M3 hk;exact(oD.1 ho).1
theorem qT.sL{w0:World}{a1:List (Nat×Obj)}{s:bU}{cf:List Deferred}{w:World}(h:qT w0 a1 s cf w){k b:Nat}(hk:k∈s.bj++s.a1){cs:Array Value}{t:TypeId}{lD:Nat×Nat}(hb:w.heap[b]? =some (.cells cs t lD)):k≠b:=by
 rintro rfl;obtain⟨_,o,ho,hc⟩:=h.M3 hk;rw[hb] at ho;cases ho;cases hc
theorem qT.ari{w0:World}{a1:List (Nat×Obj)}{s:bU}{cf:List Deferred}{w:World}(h:qT w0 a1 s cf w){k b:Nat}(hk:k∈s.bj++s.a1){es:Array MapEntry}{c:Nat}(hb:w.heap[b]? =some (.map es c)):k≠b:=by
 rintro rfl;obtain⟨_,o,ho,hc⟩:=h.M3 hk;rw[hb] at ho;cases ho;cases hc
theorem qT.same{w0:World}{a1:List (Nat×Obj)}{s s':bU}{cf:List Deferred}{w w':World}(h:qT w0 a1 s cf w)(hk:∀k∈s.bj++s.a1,w'.heap[k]? =w.heap[k]?)(xV:s'.bj=s.bj)(am0:s'.a1=s.a1):qT w0 a1 s' cf w':=
 ⟨by rw[xV];exact h.defers,λaD hD=>by rw[xV] at hD;exact⟨(h.marks aD hD).1,by rw[hk aD (pd _ hD)];exact(h.marks aD hD).2⟩,λq hq=>⟨(h.wS q hq).1,by
  rw[hk q.1 (vJ _ (by rw[h.Aa];exact lr.2 ⟨q,hq,rfl⟩))];exact(h.wS q hq).2.1,(h.wS q hq).2.2⟩,by rw[am0];exact h.Aa,by rw[xV];exact h.Uh⟩
structure dn(w0:World)(F:Nat->Prop)(a1:List (Nat×Obj))(N:Nat)(s:bU)(a:Act)(w:World):Prop where
 env:jj s.L.length (a6 s.L) s.G a.tmps
 size:a.tmps.size=N
 hd:qT w0 a1 s a.defers w
 cells:∀(k:Nat) (l:dh),s.L[k]? =some l->okvs s.L.length l.cells/\l.cells.all aE.scalar=true
 eI:∀(k:Nat) (l:dh),s.L[k]? =some l->Whole w l.aF l.ty (bx (a6 s.L) l.cells)/\w0.heap.size<=l.aF
 apart:∀(j k:Nat) (l m:dh),s.L[j]? =some l->s.L[k]? =some m->l.aF=m.aF->j=k
 nb:s.nb<=s.L.length
 z':∀(k:Nat) (l:dh),s.nb<=k->s.L[k]? =some l->s.b4.heap.size<=l.aF
 grow:dV s.b4 s.aD w
 frame:U F w0 s.b4
 sc:∀b∈s.aD,b∈a6 s.L
variable{w0:World}{F:Nat->Prop}{a1:List (Nat×Obj)}{N:Nat}{s:bU}{a:Act}{w:World}
theorem dn.ahX(h:dn w0 F a1 N s a w){G:hM}(ez:jj s.L.length (a6 s.L) G a.tmps):dn w0 F a1 N {s with G:=G} a w:=
 ⟨ez,h.size,h.hd.same (λ_ _=>rfl) rfl rfl,h.cells,h.eI,h.apart,h.nb,h.z',h.grow,h.frame,h.sc⟩
theorem dn.put(h:dn w0 F a1 N s a w){d:Option Tmp}(hd:∀t,d=some t->t<N){v:aE}(ah:eX s.L.length v):dn w0 F a1 N (s.put d v) (a.put d (real (a6 s.L) v)) w:=by
 cases d with
 |none=>exact h
 |some d=>exact⟨h.env.put (by rw[h.size];exact hd d rfl) ah,by simp[Act.put,h.size],h.hd.same (λ_ _=>rfl) rfl rfl,h.cells,h.eI,h.apart,h.nb,h.z',h.grow,h.frame,h.sc⟩
theorem dn.drawn(h:dn w0 F a1 N s a w){w':World}(e:w'.heap=w.heap)(BH:w'.os=w.os)(Ld:w'.tape=w.tape)(alS:w'.output=w.output):dn w0 F a1 N s a w':=by
 refine⟨h.env,h.size,h.hd.same (λ_ _=>by rw[e]) rfl rfl,h.cells,λk l hl=>?_,h.apart,h.nb,h.z',⟨BH.trans h.grow.os,Ld.trans h.grow.tape,alS.trans h.grow.output,by rw[e];exact h.grow.size,λi h1 h2=>by rw[e];exact h.grow.heap i h1 h2⟩,h.frame,h.sc⟩;obtain⟨h1,h2⟩:=h.eI k l hl;exact⟨by unfold Whole at*;rw[e];exact h1,h2⟩
def ua(P:Program)(s:bU)(o:Op)(v:aE)(w:World):Prop:=match o with
 | .load _ x=>match eval P s.G x with
  |some y=>NH s.L y v w
  |none=>True
 |_=>True
def wk(P:Program)(s:bU)(o:Op)(v:aE):Prop:=match o with
 | .load _ x=>match eval P s.G x with
  |some (.gU k o)=>∃l,s.L[k]? =some l/\o+v.dI.length<=l.cells.length/\v.dI=(l.cells.drop o).take v.dI.length
  |some (.aY a o)=>a.block∉s.aD/\At s.b4 a o (bx (a6 s.L) v.dI)
  |some (.ptr p)=>∃a,p=some a/\a.block∉s.aD/\At s.b4 a 0 (bx (a6 s.L) v.dI)
  |_=>False
 |_=>True
theorem ni{x:Option aE}{K:aE->Prop}(h:on x K):∃v,x=some v/\K v:=by
 cases x with
 |none=>exact h.elim
 |some v=>exact⟨v,rfl,h⟩
theorem aad(ez:jj s.L.length (a6 s.L) s.G a.tmps)(aj:∀(k:Nat) (l:dh),s.L[k]? =some l->okvs s.L.length l.cells/\l.cells.all aE.scalar=true){o:Oper}{K:aE->Prop}
  (h:calm P s.L s.aD s.b4 s.G o.op K):∃v,eX s.L.length v/\K v/\wk P s o.op v/\∀w,ua P s o.op v w->(execOp a.eval o).run P w= .ok (.value (real (a6 s.L) v)) w:=by
 have bQ:∀{m:Sem Value} {qV:aE->Prop} (e:execOp a.eval o=(do pure (.value (<-m)))),(∀v,wk P s o.op v)->eT P s.L.length (a6 s.L) (λ_=>True) m qV->(∀v,qV v->K v)->
   ∃v,eX s.L.length v/\K v/\wk P s o.op v/\∀w,ua P s o.op v w->(execOp a.eval o).run P w= .ok (.value (real (a6 s.L) v)) w:=by
  intro m qV e bk ⟨v,h1,h2,aw⟩ hk;exact⟨v,h1,hk v h2,bk v,λw _=>by rw[e,Sem.run_bind,aw w trivial];rfl⟩
 obtain⟨dst,op,ty,pos,after,guard⟩:=o;have cw:∀{v:aE} {x:Operand},eval P s.G x=some v->eX s.L.length v/\a.eval x=real (a6 s.L) v:=λhx=>xN ez hx
 cases op with
 |move x=>
  obtain⟨v,ah,h⟩:=ni h;exact⟨v,(cw ah).1,h,trivial,λw _=>by rw[<-(cw ah).2];rfl⟩
 |assign x=>
  obtain⟨v,ah,h⟩:=ni h;exact⟨v,(cw ah).1,h,trivial,λw _=>by rw[<-(cw ah).2];rfl⟩
 |pick c x y=>
  unfold calm at h;simp only[] at h;split at h
  ·rename_i hc
   obtain⟨v,ah,h⟩:=ni h;exact⟨v,(cw ah).1,h,trivial,λw _=>by simp[execOp,(cw hc).2,(cw ah).2,real,asBool]⟩
  ·rename_i hc
   obtain⟨v,ah,h⟩:=ni h;exact⟨v,(cw ah).1,h,trivial,λw _=>by simp[execOp,(cw hc).2,(cw ah).2,real,asBool]⟩
  ·exact h.elim
 |build t a_=>
  obtain⟨v,ah,h⟩:=ni h;simp only[k6] at ah;obtain⟨afD,hq,hb⟩:=ah;obtain⟨cq,cA⟩:=Uz ez hq;have key:=λw=>ajR (β:=a6 s.L) hb cq (a_.map λ(i,x)=>(i,a.eval x)) (by rw[O4];exact cA) w
  exact⟨v,(key default).2,h,trivial,λw _=>by simp only[execOp,Sem.run_bind,(key w).1];rfl⟩
 |nilCheck x=>
  unfold calm at h;simp only[] at h;split at h
  ·rename_i aB o' hx
   exact⟨.aY aB o',trivial,h,trivial,λw _=>by simp[execOp,(cw hx).2,real,p5]⟩
  ·rename_i k o' hx
   exact⟨.gU k o',(cw hx).1,h,trivial,λw _=>by simp[execOp,(cw hx).2,real]⟩
  ·rename_i p hx
   obtain⟨aB,rfl,h⟩:=h;exact⟨.aY aB 0,trivial,h,trivial,λw _=>by simp[execOp,(cw hx).2,real,vU]⟩
  ·rename_i p m c hx
   exact⟨.cJ p m c,trivial,h,trivial,λw _=>by simp[execOp,(cw hx).2,real]⟩
  ·rename_i f hE h5 hx
   exact⟨.fn f hE h5,(cw hx).1,h,trivial,λw _=>by simp[execOp,(cw hx).2,real]⟩
  ·exact h.elim
 |binOp ZO t x y aD_=>
  obtain⟨u,hu,h⟩:=ni h;obtain⟨v,ah,h⟩:=ni h;refine bQ (m:=do eqGuard ZO t x y (a.eval x) (a.eval y);Go.binOp ZO t (a.eval x) (a.eval y)) rfl (λ_=>trivial) ?_ (λ_=>id);rw[(cw hu).2,(cw ah).2];exact ajM x y (λe=>by unfold adM at e;split at e;exact⟨_,rfl⟩;cases e) h (cw hu).1 (cw ah).1
 |unOp awH t x=>
  obtain⟨u,hu,h⟩:=ni h;refine bQ (m:=Op.unary awH (a.eval x)) rfl (λ_=>trivial) ?_ (λ_=>id);rw[(cw hu).2];exact awG h
 |convert src alp x=>
  obtain⟨u,hu,h⟩:=ni h;refine bQ (m:=Go.convert src alp (a.eval x)) rfl (λ_=>trivial) ?_ (λ_=>id);rw[(cw hu).2];exact akU h
 |slice t x lo hi o1=>
  obtain⟨u,hu,h⟩:=ni h;refine bQ (m:=Instr.sliceAt t (a.eval x) (lo.map a.eval) (hi.map a.eval) (o1.map a.eval)) rfl (λ_=>trivial) ?_ (λ_=>id);rw[(cw hu).2];exact av6 ez h
 |fieldAddr t x i=>
  obtain⟨u,hu,h⟩:=ni h;refine bQ (m:=Instr.fieldAt t (a.eval x) i) rfl (λ_=>trivial) ?_ (λ_=>id);rw[(cw hu).2];exact al9 h (cw hu).1
 |field t x i=>
  obtain⟨u,hu,h⟩:=ni h;refine bQ (m:=Instr.field t (a.eval x) i) rfl (λ_=>trivial) ?_ (λ_=>id);rw[(cw hu).2];exact al_ h (cw hu).1
 |indexAddr t x i=>
  obtain⟨u,hu,h⟩:=ni h;split at h
  ·rename_i k m hi
   refine bQ (m:=Instr.indexAt t (a.eval x) (a.eval i)) rfl (λ_=>trivial) ?_ (λ_=>id);rw[(cw hu).2,(cw hi).2];exact apK h (cw hu).1
  ·exact h.elim
 |index t x i=>
  obtain⟨u,hu,h⟩:=ni h;split at h
  ·rename_i k m hi
   refine bQ (m:=Instr.index t (a.eval x) (a.eval i)) rfl (λ_=>trivial) ?_ (λ_=>id);rw[(cw hu).2,(cw hi).2];exact apN h (cw hu).1
  ·exact h.elim
 |extract x i=>
  obtain⟨u,hu,h⟩:=ni h;refine bQ (m:=Instr.extract (a.eval x) i) rfl (λ_=>trivial) ?_ (λ_=>id);rw[(cw hu).2];exact al3 h (cw hu).1
 |makeFunc fn first cap=>
  cases fn with
  |func f=>
   unfold calm at h;simp only[] at h;split at h
   ·rename_i xs ys hx hy
    obtain⟨hE,iQ⟩:=xO ez hx;obtain⟨h5,h6⟩:=xO ez hy;have fU:first.map a.eval=(bx (a6 s.L) xs).toArray:=by apply n1;simpa using iQ
    have xP:cap.map a.eval=(bx (a6 s.L) ys).toArray:=by apply n1;simpa using h6
    exact⟨.fn f xs ys,⟨hE,h5⟩,h,trivial,λw _=>by simp[execOp,Instr.makeFunc,fU,xP,real]⟩
   ·exact h.elim
  |_=>exact h.elim
 |load t x=>
  obtain⟨u,hu,h⟩:=ni h;obtain⟨v,h1,h2,aw,aZ⟩:=aqL h rfl aj;refine⟨v,h1,h2,?_,λw hw=>?_⟩
  ·simp only[wk,hu]
   cases u<;>first|exact aZ|exact aZ.elim
  ·simp only[ua,hu] at hw
   simp only[execOp,(cw hu).2,Sem.run_bind,aw w hw];rfl
 |call c=>
  obtain⟨callee,args,jF⟩:=c;cases callee with
  |builtin b=>
   unfold calm at h;simp only[] at h;split at h
   ·rename_i vs hvs
    obtain⟨hE,iQ⟩:=xO ez hvs;have fU:args.map a.eval=(bx (a6 s.L) vs).toArray:=by apply n1;simpa using iQ
    obtain⟨v,h1,h2,aw⟩:=akr (n:=s.L.length) (β:=a6 s.L) (ty:=ty) (consts:=args.map λ| .const _=>true|_=>false) h;exact⟨v,h1,h2,trivial,λw _=>by simp only[execOp,resolve,fU,Sem.run_bind,Sem.run_pure,Result.andThen_ok,invoke];exact aw w⟩
   ·exact h.elim
  |_=>exact h.elim
 |_=>exact h.elim
theorem At.grown{b4 w:World}{aD:List Nat}(hg:dV b4 aD w){aB:Addr}{o:Nat}{vs:List Value}(hd:aB.block∉aD)(h:At b4 aB o vs):At w aB o vs:=by
 intro i v ah;have h1:=h i v ah;have hb:(aB.add (o+i)).block=aB.block:=by unfold Addr.add;split<;>rfl
 have hlt:=World.block_lt_of_cell? b4 _ h1;rw[<-h1];exact World.cell?_of_block (hg.heap _ hlt (by rw[hb];exact hd))
theorem At.own{L:List dh}{w:World}{k:Nat}{l:dh}(hl:L[k]? =some l)(hw:Whole w l.aF l.ty (bx (a6 L) l.cells)){o m:Nat}{cs:List aE}(hc:cs=(l.cells.drop o).take m):
  At w ⟨(a6 L).getD k 0,o,none⟩ 0 (bx (a6 L) cs):=by
 intro i v ah;subst hc;rw[vZ hl];have e:((⟨l.aF,o,none⟩:Addr).add (0+i))=⟨l.aF,o+i,none⟩:=by unfold Addr.add;split<;>simp_all
 rw[e];unfold Whole at hw;simp only[World.cell?,hw];rw[ow,pV,uD] at ah;split at ah
 ·rw[s9] at ah
  simpa[ow] using ah
 ·cases ah
theorem dn.ua(h:dn w0 F a1 N s a w){o:Op}{v:aE}(bk:wk P s o v):ua P s o v w:=by
 cases o with
 |load t x=>
  simp only[wk] at bk;simp only[Go.Sy.ua];split
  ·rename_i y hy
   rw[hy] at bk;cases y with
   |gU k o=>
    obtain⟨l,hl,_,hc⟩:=bk;exact At.own hl (h.eI k l hl).1 hc
   |aY aB o=>exact bk.2.grown h.grow bk.1
   |ptr p=>
    obtain⟨aB,rfl,hd,dB⟩:=bk;exact dB.grown h.grow hd
   |_=>exact bk.elim
  ·trivial
 |_=>trivial
end Go.Sy
namespace Go.Abs
structure Gr where
 block:Nat
 base:Nat
 start:Nat
 Re:Nat
 es:Nat
def Gr.at(b:Gr)(off:Nat):Addr:=⟨b.block,b.base+(off-b.start),none⟩
def Gr.cap(b:Gr)(off:Nat):Nat:=(b.Re-off)/b.es
abbrev p2:=Nat->Nat->Option Gr
def auM(eN:p2):Fn->Fn
 | .yield f=> .yield (match eN f 0 with|some b=>b.block|none=>0)
 |fn=>fn
def arx(eN:p2):Fn->Prop
 | .yield f=>∃b,eN f 0=some b
 |_=>True
mutual
def QW(eN:p2):AVal->Value
 | .bool b=> .bool b
 | .int k n=> .int k n
 | .str s=> .string ⟨s.toArray⟩
 | .ptr none=> .pointer none
 | .ptr (some p)=> .pointer ((eN p.DX p.gen).map λb=>b.at p.off)
 | .slice none len cap=> .slice none len (match cap with| .exact c=>c| .WR=>0)
 | .slice (some p) len cap=>match eN p.DX p.gen with
  |some b=> .slice (some (b.at p.off)) len (match cap with| .exact c=>c| .WR=>b.cap p.off)
  |none=> .slice none len 0
 | .aiw p low es=>match eN p.DX p.gen with
  |some b=>if b.cap p.off=low then .slice (some (b.at p.off)) 0 0 else .slice (some (b.at (p.off+low*es))) 0 (b.cap p.off-low)
  |none=> .slice none 0 0
 | .map none=> .map none
 | .map (some f)=> .map ((eN f 0).map (·.block))
 | .func fn first cap=> .func (auM eN fn) (concs eN first).toArray (concs eN cap).toArray
 | .nilFunc=> .nilFunc
 | .iface t v=> .iface t (QW eN v)
 | .nilIface=> .nilIface
 | .agg cs=> .agg (concs eN cs).toArray
 | .tuple vs=> .tuple (concs eN vs).toArray
def concs(eN:p2):List AVal->List Value
 |[]=>[]
 |v::vs=>QW eN v::concs eN vs
end
theorem akR(eN:p2)(l:List AVal):concs eN l=l.map (QW eN):=by
 induction l with
 |nil=>rfl
 |cons v l ih=>simp[concs,ih]
def AVal.scalar:AVal->Bool
 | .agg _=>false
 | .tuple _=>false
 |_=>true
mutual
def eX(eN:p2):AVal->Prop
 | .ptr (some p)=>∃b,eN p.DX p.gen=some b/\b.start<=p.off
 | .slice none _ cap=>∃c,cap= .exact c
 | .slice (some p) len cap=>∃b,eN p.DX p.gen=some b/\b.start<=p.off/\(cap= .WR->0<b.es/\p.off+len*b.es<=b.Re)
 | .aiw p low es=>∃b,eN p.DX p.gen=some b/\b.start<=p.off/\0<b.es/\es=b.es/\p.off+low*b.es<=b.Re
 | .map (some f)=>∃b,eN f 0=some b
 | .func fn first cap=>arx eN fn/\okvs eN first/\okvs eN cap
 | .iface _ v=>eX eN v
 | .agg cs=>okvs eN cs/\cs.all AVal.scalar=true
 | .tuple vs=>okvs eN vs
 |_=>True
def okvs(eN:p2):List AVal->Prop
 |[]=>True
 |v::vs=>eX eN v/\okvs eN vs
end
theorem iz{eN:p2}{l:List AVal}:okvs eN l↔∀v∈l,eX eN v:=by
 induction l with
 |nil=>simp[okvs]
 |cons v l ih=>simp[okvs,ih]
structure aiC where
 n:Nat
 under:p2
 loops:List (Nat×Loop)
end Go.Abs
namespace Go.Abs
variable{P:Program}{B:aiC}{eN:p2}{h:aiI}{w:World}
structure Zh(w w':World)(aF:Nat)(k:Nat)(vs:List Value)(cs:Array Value)(ty:TypeId)(lD:Nat×Nat):Prop where
 os:w'.os=w.os
 tape:w'.tape=w.tape
 output:w'.output=w.output
 size:w'.heap.size=w.heap.size
 pM:∀j,j≠aF->w'.heap[j]? =w.heap[j]?
 u7:∃fD,w'.heap[aF]? =some (.cells fD ty lD)/\fD.size=cs.size/\∀j,fD[j]? =if k<=j/\j<k+vs.length then vs[j-k]? else cs[j]?
theorem agz(aF off:Nat)(ty:TypeId)(lD:Nat×Nat):∀(vs:List Value) (i:Nat) (w:World) (cs:Array Value),w.heap[aF]? =some (.cells cs ty lD)->
  off+i+vs.length<=cs.size->(∀k,off+i<=k->k<off+i+vs.length->¬(lD.1<=k/\k<lD.2))->(∀v∈vs,v.oneCell'=true)->
  ∃w',(storeCells ⟨aF,off,none⟩ vs i).run P w= .ok () w'/\Zh w w' aF (off+i) vs cs ty lD:=by
 intro vs
 induction vs with
 |nil=>
  intro i w cs hh _ _ _;exact⟨w,rfl,rfl,rfl,rfl,rfl,λ_ _=>rfl,cs,hh,rfl,λj=>by rw[ag aS]⟩
 |cons v vs ih=>
  intro i w cs hh hlen va wC;simp only[ko] at hlen va;have am3:(⟨aF,off,none⟩:Addr).add i=⟨aF,off+i,none⟩:=by unfold Addr.add;split<;>simp_all
  have hcell:w.cell? ⟨aF,off+i,none⟩=some cs[off+i]:=by simp[World.cell?,hh,show off+i<cs.size by omega]
  have anK:w.frozen? ⟨aF,off+i,none⟩=false:=by
   have:=va (off+i) M M;simp only[World.frozen?,hh];rw[F_]
   by_cases h1:lD.1<=off+i
   ·right;simp;omega
   ·left;simp;omega
  have ki:(Go.store ((⟨aF,off,none⟩:Addr).add i) v).run P w= .ok () (w.setRow aF (cs.setIfInBounds (off+i) v)):=by
   rw[am3,run_store P w _ v _ (wC v aS),hcell];simp[anK,setCell_eq_setRow w aF (off+i) cs ty lD v hh]
  have hh':=setRow_heap w aF cs (cs.setIfInBounds (off+i) v) ty lD hh;obtain⟨w',hrun,nh⟩:=ih (i+1) (w.setRow aF (cs.setIfInBounds (off+i) v)) (cs.setIfInBounds (off+i) v) hh' ej
   (λk h1 h2=>va k M M) (λx hx=>wC x yV)
  refine⟨w',by simp only[storeCells,Sem.run_bind,ki,Result.andThen_ok,hrun],nh.os,nh.tape,nh.output,by rw[nh.size];simp,λj hj=>?_,?_⟩
  ·rw[nh.pM j hj,setRow_other w aF j _ hj]
  ·obtain⟨fD,h1,h2,aw⟩:=nh.u7
   refine⟨fD,h1,by rw[h2];simp,λj=>?_⟩;rw[aw j]
   by_cases hj:off+(i+1)<=j/\j<off+(i+1)+vs.length
   ·rw[aA hj,aA ej]
    have:j-(off+i)=(j-(off+(i+1)))+1:=by omega
    rw[this,XY]
   ·rw[ag hj]
    by_cases LY:j=off+i
    ·subst LY
     rw[aA aS];simp[show off+i<cs.size by omega]
    ·rw[ag ej,Dq M]
end Go.Abs
namespace Go.Sy
open Go.RowKit (Below)
variable[k7]
variable{P:Program}{w0:World}{F:Nat->Prop}{a1:List (Nat×Obj)}{N:Nat}{s:bU}{a:Act}{w:World}
structure fY(s s':bU)(aV:List Nat):Prop where
 dT:∀(k:Nat) (l:dh),s.L[k]? =some l->∃l',s'.L[k]? =some l'/\l'.aF=l.aF/\l.gK<=l'.gK/\(l'.gK=l.gK->l'.cells=l.cells)/\(k∉aV->l'=l)/\l'.ty=l.ty/\l'.cells.length=l.cells.length
 cZ:∃l,s'.bj=l++s.bj
 wS:s'.a1=s.a1
theorem fY.refl(s:bU)(aV:List Nat):fY s s aV:=⟨λ_ l hl=>⟨l,hl,rfl,cL _,λ_=>rfl,λ_=>rfl,rfl,rfl⟩,⟨[],rfl⟩,rfl⟩
theorem mD(w:World)(o:Obj)(k:Nat)(h:k<w.heap.size):(w.alloc o).heap[k]? =w.heap[k]? :=Below.heap_alloc w o k h
theorem Be(w:World)(o:Obj):(w.alloc o).heap[w.heap.size]? =some o:=by
 show(w.heap.push o)[w.heap.size]? =_;simp
theorem vW(w:World)(o:Obj):(w.alloc o).heap.size=w.heap.size+1:=by
 show(w.heap.push o).size=_;simp
theorem Whole.lt{w:World}{b:Nat}{t:TypeId}{cs:List Value}(h:Whole w b t cs):b<w.heap.size:=(oD.1 h).1
theorem dn.alloc(ak:dn w0 F a1 N s a w){t:TypeId}{cs:List aE}(hc:okvs s.L.length cs)(hs:cs.all aE.scalar=true):
  dn w0 F a1 N {s with L:=s.L++[⟨w.heap.size,t,cs,0⟩]} a (w.alloc (.cells (bx (a6 s.L) cs).toArray t))/\
  (∀v,eX s.L.length v->real (a6 (s.L++[⟨w.heap.size,t,cs,0⟩])) v=real (a6 s.L) v)/\(a6 (s.L++[⟨w.heap.size,t,cs,0⟩])).getD s.L.length 0=w.heap.size/\fY s {s with L:=s.L++[⟨w.heap.size,t,cs,0⟩]} []:=by
 have nf:∀(k:Nat) (l:dh),s.L[k]? =some l->(s.L++[⟨w.heap.size,t,cs,0⟩])[k]? =some l:=λk l hl=>by
  rw[nr (nv.1 hl).1];exact hl
 have ql:∀(k:Nat) (l:dh),(s.L++[⟨w.heap.size,t,cs,0⟩])[k]? =some l->s.L[k]? =some l∨(k=s.L.length/\l=⟨w.heap.size,t,cs,0⟩):=λk l hl=>by
  rcases h8 k s.L.length with h|h
  ·rw[nr h] at hl;exact .inl hl
  ·rw[mu h] at hl
   cases hk:k-s.L.length with
   |zero=>rw[hk] at hl;cases hl;exact .inr ⟨by omega,rfl⟩
   |succ m=>rw[hk] at hl;simp at hl
 have hal:y2 s.L.length (a6 s.L) (a6 (s.L++[⟨w.heap.size,t,cs,0⟩])):=Ko λk l hl=>⟨l,nf k l hl,rfl⟩
 have hlen:(s.L++[(⟨w.heap.size,t,cs,0⟩:dh)]).length=s.L.length+1:=by simp
 have ng:(s.L++[(⟨w.heap.size,t,cs,0⟩:dh)])[s.L.length]? =some ⟨w.heap.size,t,cs,0⟩:=by rw[mu (cL _)];simp
 have fa:w0.heap.size<=w.heap.size:=ek ak.frame.size ak.grow.size
 refine⟨⟨by rw[hlen];exact ak.env.alike (F5 _) hal,ak.size,ak.hd.same (λk hk=>mD _ _ _ (ak.hd.lt hk)) rfl rfl,λk l hl=>?_,λk l hl=>?_,λj k l m hl hm e=>?_,by rw[hlen];exact XV ak.nb,λk l hk hl=>?_,?_,ak.frame,λb hb=>?_⟩,
  λv ah=>NI hal v ah,vZ ng,⟨λk l hl=>⟨l,nf k l hl,rfl,cL _,λ_=>rfl,λ_=>rfl,rfl,rfl⟩,⟨[],rfl⟩,rfl⟩⟩
 ·rw[hlen]
  rcases ql k l hl with h|⟨_,rfl⟩
  ·exact⟨sN (F5 _) _ (ak.cells k l h).1,(ak.cells k l h).2⟩
  ·exact⟨sN (F5 _) _ hc,hs⟩
 ·rcases ql k l hl with h|⟨_,rfl⟩
  ·obtain⟨h1,h2⟩:=ak.eI k l h
   refine⟨?_,h2⟩;show Whole _ _ _ (bx (a6 (s.L++[⟨w.heap.size,t,cs,0⟩])) l.cells);rw[vv hal _ (ak.cells k l h).1];unfold Whole at*;rw[mD _ _ _ (Whole.lt h1)];exact h1
  ·refine⟨?_,fa⟩
   show Whole _ _ _ (bx (a6 (s.L++[⟨w.heap.size,t,cs,0⟩])) cs);rw[vv hal _ hc];exact Be w _
 ·rcases ql j l hl with h|⟨rfl,rfl⟩
  ·rcases ql k m hm with h'|⟨rfl,rfl⟩
   ·exact ak.apart j k l m h h' e
   ·have:=Whole.lt (ak.eI j l h).1;simp only at e;omega
  ·rcases ql k m hm with h'|⟨rfl,rfl⟩
   ·have:=Whole.lt (ak.eI k m h').1;simp only at e;omega
   ·rfl
 ·rcases ql k l hl with h|⟨_,rfl⟩
  ·exact ak.z' k l hk h
  ·exact ak.grow.size
 ·exact⟨ak.grow.os,ak.grow.tape,ak.grow.output,by rw[vW];exact XV ak.grow.size,λi h1 h2=>by
   rw[mD _ _ _ (gp h1 ak.grow.size)];exact ak.grow.heap i h1 h2⟩
 ·show b∈a6 (s.L++_)
  rw[ZN];exact pd _ (ak.sc b hb)
theorem dn.lB(ak:dn w0 F a1 N s a w){w':World}{eD:List dh}(hlen:eD.length=s.L.length)(wD:w'.os=w.os)(Te:w'.tape=w.tape)(SO:w'.output=w.output)(yb:w.heap.size<=w'.heap.size)
  (hold:∀i,i<w0.heap.size->¬F i->w'.heap[i]? =w.heap[i]?) (Hh:∀k∈s.bj++s.a1,w'.heap[k]? =w.heap[k]?) (aj:∀(k:Nat) (l:dh),eD[k]? =some l->∃fk,s.L[k]? =some fk/\l.aF=fk.aF/\okvs s.L.length l.cells/\l.cells.all aE.scalar=true/\Whole w' l.aF l.ty (bx (a6 s.L) l.cells)):
  dn w0 F a1 N (s.at eD w') a w'/\a6 eD=a6 s.L:=by
 have hb:a6 eD=a6 s.L:=by
  apply s8;intro k;rcases h8 k eD.length with h|h
  ·obtain⟨fk,h1,h2,_⟩:=aj k eD[k] (el h)
   have e1:(a6 eD).getD k 0=eD[k].aF:=vZ (el h);have e2:(a6 s.L).getD k 0=fk.aF:=vZ h1;have bM:k<(a6 eD).length:=by rw[KD];exact h
   have bq:k<(a6 s.L).length:=by rw[KD,<-hlen];exact h
   rw[kb,el bM] at e1;rw[kb,el bq] at e2;simp only[O6] at e1 e2;rw[el bM,el bq,e1,e2,h2]
  ·rw[nu (by rw[KD];exact h),nu (by rw[KD,<-hlen];exact h)]
 refine⟨⟨?_,ak.size,ak.hd.same Hh rfl rfl,λk l hl=>?_,λk l hl=>?_,λj k l m hl hm e=>?_,cL _,λk l hk hl=>?_,dV.refl _ _,?_,λb hb=>(by cases hb)⟩,hb⟩
 ·show jj eD.length (a6 eD) s.G a.tmps
  rw[hb,hlen];exact ak.env
 ·obtain⟨_,_,_,h1,h2,_⟩:=aj k l hl
  exact⟨by show okvs eD.length _;rw[hlen];exact h1,h2⟩
 ·obtain⟨fk,aW,h1,_,_,h2⟩:=aj k l hl
  exact⟨by show Whole w' _ _ (bx (a6 eD) _);rw[hb];exact h2,by rw[h1];exact(ak.eI k fk aW).2⟩
 ·obtain⟨fk,aW,h1,_⟩:=aj j l hl
  obtain⟨hZ,k0,a8,_⟩:=aj k m hm;exact ak.apart j k fk hZ aW k0 (by rw[<-h1,<-a8,e])
 ·have:k<eD.length:=(nv.1 hl).1
  have Sh:eD.length<=k:=hk;exact absurd this M
 ·refine⟨?_,?_,?_,?_,λi h1 h2=>?_⟩
  ·show w'.os=w0.os;rw[wD,ak.grow.os,ak.frame.os]
  ·show w'.tape=w0.tape;rw[Te,ak.grow.tape,ak.frame.tape]
  ·show w'.output=w0.output;rw[SO,ak.grow.output,ak.frame.output]
  ·exact ek ak.frame.size (ek ak.grow.size yb)
  ·show w'.heap[i]? =_
   rw[hold i h1 h2,ak.grow.heap i (gp h1 ak.frame.size) ?_,ak.frame.heap i h1 h2];intro hm;obtain⟨k,l,hl,rfl⟩:=q6 (ak.sc i hm);exact absurd (ak.eI k l hl).2 M
theorem dn.r5(ak:dn w0 F a1 N s a w){w':World}(wD:w'.os=w.os)(Te:w'.tape=w.tape)(SO:w'.output=w.output)(yb:w.heap.size<=w'.heap.size)
  (hold:∀i,i<w0.heap.size->¬F i->w'.heap[i]? =w.heap[i]?) (hown:∀b∈a6 s.L,w'.heap[b]? =w.heap[b]?) (Hh:∀k∈s.bj++s.a1,w'.heap[k]? =w.heap[k]?):dn w0 F a1 N (s.at s.L w') a w':=
 (ak.lB rfl wD Te SO yb hold Hh λk l hl=>⟨l,hl,rfl,(ak.cells k l hl).1,(ak.cells k l hl).2,by
  have:=(ak.eI k l hl).1;unfold Whole at*
  rw[hown _ (T8 hl)];exact this⟩).1
theorem aBl{L eD:List dh}{k off:Nat}{vs:List aE}(h:Xq L k off vs=some eD):∃l,L[k]? =some l/\off+vs.length<=l.cells.length/\
  eD=L.take k++{l with cells:=l.cells.take off++(vs++l.cells.drop (off+vs.length)),gK:=l.gK+1}::L.drop (k+1):=by
 unfold Xq at h;split at h
 ·rename_i l hl
  split at h
  ·rename_i hle
   cases h;exact⟨l,hl,O7 hle,rfl⟩
  ·cases h
 ·cases h
theorem Oh{L:List dh}{k:Nat}{l x:dh}(hl:L[k]? =some l)(j:Nat):(L.take k++x::L.drop (k+1))[j]? =if j=k then some x else L[j]? :=by
 have hk:=(nv.1 hl).1;have ht:(L.take k).length=k:=by simp;omega
 by_cases hj:j=k
 ·subst hj
  rw[aA rfl,mu M,ht,AZ];rfl
 ·rw[ag hj]
  rcases h8 j k with h|h
  ·rw[nr M,uD,aA h]
  ·rw[mu M,ht]
   obtain⟨m,rfl⟩:∃m,j=k+1+m:=⟨j-k-1,by omega⟩;rw[show k+1+m-k=m+1 by omega,XY,s9]
theorem agy{t:TypeId}{m:Nat}(hm:kx P t=some m){aB:Addr}{o:Nat}{v:Value}{vs:List Value}(ah:v.cells=vs.toArray)(hl:vs.length=m)(h1:∀u∈vs,u.oneCell'=true)
  (nh:aB.spot=none) {cs:Array Value} {ty:TypeId} (hh:w.heap[aB.block]? =some (.cells cs ty (0,0))) (hle:aB.off+o+m<=cs.size):
  ∃w',(Instr.storeAt t (vU aB o) v).run P w= .ok () w'/\Abs.Zh w w' aB.block (aB.off+o) vs cs ty (0,0):=by
 obtain⟨w',hr,hs⟩:=Abs.agz (P:=P) aB.block (aB.off+o) ty (0,0) vs 0 w cs hh M (λk _ _=>by simp) h1;refine⟨w',?_,hs⟩;have e:aB.add o=⟨aB.block,aB.off+o,none⟩:=by
  unfold Addr.add;split
  ·rename_i aW;subst aW;cases aB;simp_all
  ·rfl
 rw[p5,e];simp only[Instr.storeAt,Instr.sureAddr,Sem.run_bind,Sem.run_pure,Result.andThen_ok,storeVar,qH hm,ah];rw[ag JI];exact hr
end Go.Sy
namespace Go.Sy
open Go.RowKit (Below)
variable[k7]
variable{P:Program}{w0:World}{F:Nat->Prop}{a1:List (Nat×Obj)}{N:Nat}{s:bU}{a:Act}{w:World}{all:List Oper}
def Next(P:Program)(w0:World)(F:Nat->Prop)(a1:List (Nat×Obj))(N:Nat)(all:List Oper)(s:bU)(o:Oper)(a:Act)(K:aE->bU->List Nat->Prop)(next:Act->World->Prop):Prop:=
 ∀v s' aV w',K v s' aV->fY s s' aV->(ml P all o s=true->s'.aD=[])->(ml P all o s=false->s'.b4=s.b4)->dn w0 F a1 N s' a w'->eX s'.L.length v->next (a.put o.dst (real (a6 s'.L) v)) w'
theorem aer{β:List Nat}{w:World}:∀{L:List dh} {Q:Prop},eI w0 β w L Q->(∀l∈L,w0.heap.size<=l.aF/\Whole w l.aF l.ty (bx β l.cells))->Q
 |[],Q,h,_=>h
 |l::L,Q,h,hl=>aer (h (hl l aS)) λm hm=>hl m (by simp[hm])
theorem TT(ak:dn w0 F a1 N s a w){c:Bool}{Q:Prop}(h:EL w0 c s.L w Q):Q:=by
 unfold EL at h;cases c with
 |false=>exact h
 |true=>
  refine aer h λl hl=>?_
  obtain⟨k,hk⟩:=JT.1 hl;exact⟨(ak.eI k l hk).2,(ak.eI k l hk).1⟩
theorem aei:∀{L:List dh} {p:Nat×TypeId},p∈kinds L->∃(k:Nat) (l:dh),L[k]? =some l/\p=(l.aF,l.ty)
 |[],_,h=>(by cases h)
 |l::L,p,h=>by
  rcases e7.1 h with rfl|h
  ·exact⟨0,l,rfl,rfl⟩
  ·obtain⟨k,m,h1,h2⟩:=aei h
   exact⟨k+1,m,h1,h2⟩
theorem ae7:∀{L:List dh},(∀(j k:Nat) (l m:dh),L[j]? =some l->L[k]? =some m->l.aF=m.aF->j=k)->(a6 L).Nodup
 |[],_=>F'
 |l::L,h=>xi.2 ⟨λhm=>by
   obtain⟨k,m,h1,h2⟩:=q6 hm;have:=h 0 (k+1) l m rfl h1 h2.symm
   omega,ae7 λj k a b h1 h2 e=>by have:=h (j+1) (k+1) a b h1 h2 e;omega⟩
theorem ajn(ak:dn w0 F a1 N s a w){Q:Prop}(h:Qb s.L Q):Q:=by
 unfold Qb at h;have hn:=ae7 ak.apart;revert h hn;generalize s.L=L;intro h hn;split at h
 ·exact h hn
 ·exact h
theorem akq(ak:dn w0 F a1 N s a w){c:Bool}{Q:Prop}(h:QA w0 c s.L w Q):Q:=by
 unfold QA at h;cases c with
 |true=>exact ajn ak (TT ak (c:=true) h)
 |false=>
  have key:cB w w0.heap.size (kinds s.L):=λp hp=>by
   obtain⟨k,l,h1,rfl⟩:=aei hp;exact⟨(ak.eI k l h1).2,_,(ak.eI k l h1).1⟩
  revert h key;generalize s.L=L;intro h key;cases L with
  |nil=>exact h
  |cons l ab=>exact h key
theorem arw{bs:List Nat}{p:ao}{Q:Prop}(h:afb bs p Q)(hp:∀a,p=some a->a.block∉bs):Q:=by
 cases bs with
 |nil=>exact h
 |cons b bs=>exact h hp
theorem Ui{bs:List Nat}{x:Nat}{Q:Prop}(h:ES bs x Q)(hx:x∉bs):Q:=by
 cases bs with
 |nil=>exact h
 |cons b bs=>exact h hx
theorem KC(ak:dn w0 F a1 N s a w){b:Nat}(hb:w.heap.size<=b):b∉a6 s.L:=λhm=>by
 obtain⟨k,l,hl,rfl⟩:=q6 hm;exact absurd (Whole.lt (ak.eI k l hl).1) M
theorem Ro:∀{rs:List (TypeId×Bool×List mC)} {K:List aE->Prop},Lg rs K->∃vs,okvs 0 vs/\K vs
 |[],K,h=>⟨[],trivial,h⟩
 |(t,g,cK)::rs,K,h=>by
  obtain⟨cs,h1,h2,_,h⟩:=Lf (show BK t cK _ from h);cases g with
  |true=>
   obtain⟨vs,a8,aK⟩:=Ro h;exact⟨.agg cs::vs,⟨⟨h1,h2⟩,a8⟩,aK⟩
  |false=>
   cases cs with
   |nil=>exact h.elim
   |cons c rest=>
    cases rest with
    |cons _ _=>exact h.elim
    |nil=>
     obtain⟨vs,a8,aK⟩:=Ro h;exact⟨c::vs,⟨h1.1,a8⟩,aK⟩
theorem auR{n:Nat}{vs:List aE}(h:okvs n vs):eX n (yD vs):=by
 unfold yD;split
 ·exact h.1
 ·exact h
theorem P7{β:List Nat}{w:World}:∀{ix:List Nat} {L:List dh} {K:List dh->Prop},again β w ix L K->
  ∃eD,K eD/\eD.length=L.length/\(∀(k:Nat) (l:dh),L[k]? =some l->∃l',eD[k]? =some l'/\l'.aF=l.aF/\l'.ty=l.ty/\l.gK<=l'.gK/\(l'.gK=l.gK->l'=l)/\(k∉ix->l'=l)/\(k∈ix->Whole w l.aF l.ty (bx β l'.cells))/\
   (l'=l∨(okvs 0 l'.cells/\l'.cells.all aE.scalar=true))/\l'.cells.length=l.cells.length)
 |[],L,K,h=>⟨L,h,rfl,λk l hl=>⟨l,hl,rfl,rfl,cL _,λ_=>rfl,λ_=>rfl,λhk=>(by cases hk), .inl rfl,rfl⟩⟩
 |k0::ix,L,K,h=>by
  unfold again at h;split at h
  ·rename_i fk rk
   split at h
   ·rename_i cK lY
    obtain⟨cs,bY,c2,akJ,hw,h⟩:=Lf h;have kh:cs.length=fk.cells.length:=by rw[akJ,Oa lY]
    obtain⟨eD,a8,aK,k3⟩:=P7 h;have hlen:(L.take k0++{fk with cells:=cs,gK:=fk.gK+1}::L.drop (k0+1)).length=L.length:=by
     have:=(nv.1 rk).1;simp;omega
    refine⟨eD,a8,by rw[aK,hlen],λk l hl=>?_⟩
    by_cases hk:k=k0
    ·subst hk
     obtain rfl:fk=l:=by rw[rk] at hl;exact h9 hl
     obtain⟨l',q1,q2,cz,en,eB,qE,q7,C3,E4⟩:=k3 k {fk with cells:=cs,gK:=fk.gK+1} (by rw[Oh rk];simp);simp only at q2 cz en eB q7 E4;refine⟨l',q1,q2,cz,by omega,λe=>by omega,λe=>absurd aS e,λ_=>?_,?_,by rw[E4,kh]⟩
     ·by_cases hm:k∈ix
      ·exact q7 hm
      ·rw[qE hm];exact hw
     ·rcases C3 with rfl|C3
      ·exact .inr ⟨bY,c2⟩
      ·exact .inr C3
    ·obtain⟨l',q1,q2,cz,en,eB,qE,q7,C3,E4⟩:=k3 k l (by rw[Oh rk,ag hk];exact hl)
     exact⟨l',q1,q2,cz,en,eB,λhn=>qE λhm=>hn (jt _ hm),λhm=>q7 ((e7.1 hm).resolve_left hk),C3,E4⟩
   ·obtain⟨hw,h⟩:=h
    obtain⟨eD,a8,aK,k3⟩:=P7 h;refine⟨eD,a8,aK,λk l hl=>?_⟩;obtain⟨l',q1,q2,cz,en,eB,qE,q7,C3,E4⟩:=k3 k l hl;refine⟨l',q1,q2,cz,en,eB,λhn=>qE λhm=>hn (jt _ hm),λhm=>?_,C3,E4⟩;rcases e7.1 hm with rfl|hm
    ·obtain rfl:fk=l:=by rw[rk] at hl;exact h9 hl
     by_cases hm:k∈ix
     ·exact q7 hm
     ·rw[qE hm];exact hw
    ·exact q7 hm
  ·exact h.elim
theorem aee{E:List Nat}:∀{L:List dh} {b k:Nat} {l:dh},L[k]? =some l->(b+k)∉E->l.aF∈EK E b L
 |[],b,k,l,h,_=>by simp at h
 |x::L,b,0,l,h,hk=>by
  cases h;have:E.elem b=false:=by simpa using hk
  unfold EK;rw[this];exact kB ..
 |x::L,b,k+1,l,h,hk=>by
  have ih:=aee (E:=E) (L:=L) (b:=b+1) (k:=k) (l:=l) FY aif;unfold EK;split
  ·exact ih
  ·exact jt _ ih
theorem akp(ak:dn w0 F a1 N s a w){o:Oper}{f:FuncId}{args:List aE}{K:aE->bU->List Nat->Prop}{next:Act->World->Prop}{Q:Exit->Act->World->Prop}(hbig:ml P all o s=true)
  (h:Qz P w0 F f args s K) (hK:Next P w0 F a1 N all s o a K next):o.upon P a next Q ((callFunc f (bx (a6 s.L) args).toArray).run P w):=by
 unfold Qz at h;split at h
 ·rename_i fn hfn
  split at h
  ·rename_i c hb
   split at h
   ·rename_i SE
    split at h
    ·rename_i rs S8
     have h1:fn.name≠ "runtime.NumGoroutine":=(by simpa using SE);have anh:(callFunc f (bx (a6 s.L) args).toArray).run P w= .ok (.enter f (bx (a6 s.L) args).toArray) w:=by simp[callFunc,hfn,h1,hb]
     rw[anh,Oper.upon_enter];refine(akq ak (h w ak.grow.grow)).out.mono ?_;intro e ad he;obtain⟨vs,a8,rfl,hk,ha⟩:=Ro he;obtain⟨eD,q1,q2,cz⟩:=P7 ha;have ql:∀(k:Nat) (l:dh),eD[k]? =some l->∃fk,s.L[k]? =some fk/\l.aF=fk.aF/\okvs s.L.length l.cells/\l.cells.all aE.scalar=true/\Whole ad l.aF l.ty (bx (a6 s.L) l.cells):=by
      intro k l hl;have hlt:k<s.L.length:=by rw[<-q2];exact(nv.1 hl).1
      obtain⟨l',de,c1,r3,r4,Af,C4,aso,uh,_⟩:=cz k s.L[k] (el hlt);obtain rfl:l=l':=by rw[hl] at de;exact h9 de
      have hh:=ak.cells k s.L[k] (el hlt);refine⟨s.L[k],el hlt,c1,?_,?_,?_⟩
      ·rcases uh with uh|uh
       ·rw[uh];exact hh.1
       ·exact sN (ef _) _ uh.1
      ·rcases uh with uh|uh
       ·rw[uh];exact hh.2
       ·exact uh.2
      ·by_cases hm:k∈xK (CD args)
       ·rw[c1,r3];exact aso hm
       ·rw[C4 hm]
        have hw:=(ak.eI k s.L[k] (el hlt)).1;unfold Whole at*;rw[hk.own _ (pd _<|aee (b:=0) (el hlt) (by simpa using hm)) (ak.eI k s.L[k] (el hlt)).2 (oD.1 hw).1];exact hw
     obtain⟨fc,jG⟩:=ak.lB q2 hk.os hk.tape hk.output hk.size (λi h1 h2=>hk.dT i h1 (gp h1 (ek ak.frame.size ak.grow.size)) h2) (λk hm=>hk.own k (vJ _ hm) (ak.hd.M3 hm).1 (ak.hd.lt hm)) ql;have ah:eX (s.at eD ad).L.length (yD vs):=M_ (ef _) _ (auR a8);have hr:real (a6 (s.at eD ad).L) (yD vs)=real (a6 s.L) (yD vs):=by show real (a6 eD) _=_;rw[jG]
     have:=hK _ (s.at eD ad) _ ad q1 ⟨λk l hl=>?_,⟨[],rfl⟩,rfl⟩ (λ_=>rfl) (λe=>by rw[hbig] at e;cases e) fc ah
     ·rwa[hr] at this
     ·obtain⟨l',de,c1,r3,r4,Af,C4,_,_,UL⟩:=cz k l hl
      exact⟨l',de,c1,r4,λe=>by rw[Af e],C4,r3,UL⟩
    ·exact h.elim
   ·exact h.elim
  ·exact h.elim
 ·exact h.elim
theorem sQ{o:Oper}{next:Act->World->Prop}{Q:Exit->Act->World->Prop}{v:Value}{w':World}{m:Sem Value}(hr:m.run P w= .ok v w')(h:next (a.put o.dst v) w'):
  o.upon P a next Q ((do pure (.value (<-m)):Sem Go.Next).run P w):=by
 rw[Sem.run_bind,hr];exact h
end Go.Sy
namespace Go.Sy
open Go.RowKit (Below)
variable[k7]
variable{P:Program}{w0:World}{F:Nat->Prop}{a1:List (Nat×Obj)}{N:Nat}{s:bU}{a:Act}{w:World}{all:List Oper}
theorem arI{L:List dh}{w:World}{k off m:Nat}{cs:List aE}(aj:∀(k:Nat) (l:dh),L[k]? =some l->Whole w l.aF l.ty (bx (a6 L) l.cells))(h:E_ L k off m=some cs):At w ⟨(a6 L).getD k 0,off,none⟩ 0 (bx (a6 L) cs):=by
 obtain⟨l,hl,_,hc⟩:=NG h;exact At.own hl (aj k l hl) hc
theorem aha(ak:dn w0 F a1 N s a w){es k:Nat}{y:aE}{K:List Value->Prop}(h:Og s.L s.aD s.b4 es k y K):
  ∃xs,K xs/\xs.length=k*es/\(∀u∈xs,u.oneCell'=true)/\∃p c,real (a6 s.L) y= .slice p (uT y) c/\(p=none->k=0)/\∀aB,p=some aB->∀j u,xs[j]? =some u->w.cell? (aB.add j)=some u:=by
 unfold Og at h;split at h
 ·rename_i j o m c
  split at h
  ·rename_i cs jH
   obtain⟨l,hl,hle,hc⟩:=NG jH;refine⟨_,h,?_,?_,some ⟨(a6 s.L).getD j 0,o,none⟩,c,rfl,(λe=>by cases e),λaB e j u hu=>?_⟩
   ·rw[rH,hc];simp;omega
   ·obtain⟨i7,jf⟩:=ak.cells j l hl
    subst hc;exact T9 (iz.2 λu hu=>iz.1 i7 u (ka (kA hu))) (js.2 λu hu=>js.1 jf u (ka (kA hu)))
   ·cases e
    have:=arI (λk l hl=>(ak.eI k l hl).1) jH j u hu;rwa[iR] at this
  ·exact h.elim
 ·rename_i p m c
  obtain⟨xs,⟨h1,h2,aw,aZ⟩,h⟩:=h;refine⟨xs,h,h1,h2,p,c,rfl,aw,λaB e j u hu=>?_⟩;obtain⟨hd,dB⟩:=M4 (aZ aB e);have:=dB.grown ak.grow hd j u hu;rwa[iR] at this
 ·exact h.elim
theorem avu{P:Program}{w:World}(t ty e:TypeId)(i:TypeInfo)(ht:P.underlying t=some (.slice e))(hi:P.info? e=some i)(p q:ao)(n c c':Nat)(sw:n<=c):
  (Builtin.append_ #[t,t] ty #[.slice p n c, .slice q 0 c']).run P w= .ok (.slice p n c) w:=by
 have hl:∀aB:Addr,(loadCells aB 0).run P w= .ok #[] w:=λaB=>by
  have:=run_loadCells_list (P:=P) w aB [] (λj u hu=>by simp at hu);simpa using this
 cases p with
 |none=>cases q<;>simp[Builtin.append_,run_underlying ht,sizeOf,typeInfo,hi,Builtin.lenOf,Builtin.firstCells,sw,hl]
 |some aB=>cases q<;>simp[Builtin.append_,run_underlying ht,sizeOf,typeInfo,hi,Builtin.lenOf,Builtin.firstCells,sw,hl,storeCells]
theorem arJ{w w':World}{e:TypeId}{es:Nat}{p:ao}{n c:Nat}{cs:List Value}(h:w.ownsRow 0 e es (.slice p n c) n cs)(hb:∀aB,p=some aB->aB.block<w.heap.size->w'.heap[aB.block]? =w.heap[aB.block]?):w'.ownsRow 0 e es (.slice p n c) n cs:=by
 refine⟨h.1,?_⟩;rcases h.2 with h2|⟨g,cap,cur,e1,e2,e3,e4⟩
 ·exact .inl h2
 ·cases e1
  exact .inr ⟨g,c,cur,rfl,e2,by rw[hb _ rfl (oD.1 e3).1];exact e3,e4⟩
theorem ajo(ak:dn w0 F a1 N s a w){o:Oper}{t:TypeId}{x y:aE}{K:aE->bU->List Nat->Prop}{next:Act->World->Prop}{Q:Exit->Act->World->Prop}(hbig:ml P all o s=true)(ty:TypeId)
  (h:Qc P w0 F t x y s K) (hK:Next P w0 F a1 N all s o a K next):o.upon P a next Q ((do pure (.value (<-Builtin.append_ #[t,t] ty #[real (a6 s.L) x,real (a6 s.L) y])):Sem Go.Next).run P w):=by
 unfold Qc at h;split at h
 ·rename_i e p n c hu
  split at h
  ·rename_i es eM z zz x0 hz
   split at h
   ·rename_i sA
    simp only[fR,yY,AT] at sA;obtain⟨sA,vh⟩:=sA;obtain⟨tb,_,sD,zS,i0,LV,x5⟩:=Fi hz w;obtain⟨JX,_,_⟩:=zo (β:=a6 s.L) (sD s.L.length (a6 s.L)).1;rw[(sD s.L.length (a6 s.L)).2] at JX;have sE:tb.cells.size=es:=by rw[JX];simp[rH,vh]
    obtain⟨cs,zP,h⟩:=h;obtain⟨xs,⟨hbound,h⟩,hl,wC,q,c',hy,qs,LI⟩:=aha ak h;generalize hm:uT y=m at*;obtain⟨i,hi,x4⟩:=il.1 (show(P.info? e).map (·.size)=some es from zz);obtain⟨apG,dS,Ee⟩:=il.1 (show(P.info? e).map (·.bytes)=some eM from x0);obtain rfl:i=apG:=by rw[hi] at dS;exact h9 dS
    rw[hy];have bQ:(∀iH,p=some iH->iH.block∉a6 s.L/\(n<c->iH.block<w0.heap.size->F iH.block))->(n<c->∀iH:Addr,p=some iH->∃(hv:TypeId) (fD:Array Value) (Lo:Nat×Nat),w.heap[iH.block]? =some (.cells fD hv Lo))->∀(w':World) (cA:ao) (c2:Nat),(Builtin.append_ #[t,t] ty #[real (a6 s.L) (.cJ p n c), .slice q m c']).run P w= .ok (.slice cA (n+m) c2) w'->w'.ownsRow 0 e es (.slice cA (n+m) c2) (n+m) (cs++xs)->
      (w'.os=w.os/\w'.tape=w.tape/\w'.output=w.output/\w.heap.size<=w'.heap.size)->(∀k,k<w.heap.size->(n<c->∀iH,p=some iH->k≠iH.block)->w'.heap[k]? =w.heap[k]?)->
      (∀mS,cA=some mS->(∃b,p=some b/\mS.block=b.block/\(n=n+m∨n<c))∨w.heap.size<=mS.block)->
      o.upon P a next Q ((do pure (.value (<-Builtin.append_ #[t,t] ty #[real (a6 s.L) (.cJ p n c), .slice q m c'])):Sem Go.Next).run P w):=by
     intro RR RY w' cA c2 hr hown ⟨g1,g2,g3,g4⟩ mG Mf;refine sQ hr ?_;have anQ:gk s.b4 s.aD p n c e es (n+m) (cs++xs) w' cA c2:=by
      refine⟨hown,g1.trans ak.grow.os,g2.trans ak.grow.tape,g3.trans ak.grow.output,ek ak.grow.size g4,λi h1 h2 aw=>?_,λmS h2=>?_⟩
      ·rw[mG i (gp h1 ak.grow.size) aw];exact ak.grow.heap i h1 h2
      ·rcases Mf mS h2 with aw|aw
       ·exact .inl aw
       ·exact .inr (ek ak.grow.size aw)
     have fc:=ak.r5 g1 g2 g3 g4 (λi h1 h2=>mG i (gp h1 (ek ak.frame.size ak.grow.size)) λhlt iH hp he=>h2 (by rw[he];exact(RR iH hp).2 hlt M))
      (λb hb=>by
       obtain⟨k,l,kP,rfl⟩:=q6 hb
       exact mG _ (Whole.lt (ak.eI k l kP).1) λ_ iH hp he=>(RR iH hp).1 (by rw[<-he];exact hb))
      (λk hk=>mG k (ak.hd.lt hk) λhlt iH hp he=>by
       obtain⟨hv,fD,Lo,hc'⟩:=RY hlt iH hp
       exact ak.hd.sL hk hc' he)
     have fV:∀mS,cA=some mS->mS.block∉a6 s.L:=λmS h2=>by
      rcases Mf mS h2 with⟨b,hb,aw,_⟩|aw
      ·rw[aw];exact(RR b hb).1
      ·exact KC ak aw
     exact hK _ (s.at s.L w') [] w' (arw (h w' cA c2 anQ) fV) ⟨λk l hl=>⟨l,hl,rfl,cL _,λ_=>rfl,λ_=>rfl,rfl,rfl⟩,⟨[],rfl⟩,rfl⟩ (λ_=>rfl) (λe=>by rw[hbig] at e;cases e) fc trivial
    rcases zP with zP|⟨aCy,aov,fa,b0,rfl,iv,am5⟩
    rotate_left
    ·
     subst aov;obtain⟨aB,rfl⟩:∃aB,q=some aB:=by
      cases q with
      |none=>have:=qs rfl;omega
      |some aB=>exact⟨aB,rfl⟩
     obtain rfl:i=i0:=by rw[hi] at LV;exact h9 LV
     have holds:∀j u,cs[j]? =some u->w.cell? (b0.add j)=some u:=λj u hu=>by
      have h1:=am5 j u hu;rw[iR] at h1;have hb:(b0.add j).block=b0.block:=by unfold Addr.add;split<;>rfl
      rw[<-h1];refine World.cell?_of_block ?_;rw[hb];exact ak.grow.heap _ (by rw[<-hb];exact World.block_lt_of_cell? _ _ h1) λhm=>iv (ak.sc _ hm)
     have HY:n+m<=(n+m)*eM:=Nat.le_mul_of_pos_right _ sA.2;obtain⟨v',w',hr,hown,hg⟩:=run_append_arg_grows (P:=P) w t ty e i tb es eM hu hi x5 x4 Ee sE sA.1 b0 n n cs fa holds aB m c' xs hl (LI aB rfl) M (by simp only[maxLen];omega) hbound;have aCM:=hown;rcases hown.2 with⟨_,hz⟩|⟨g,cap,cur,rfl,vb,B6,anN⟩
     ·omega
     ·refine bQ (λiH e'=>by cases e';exact⟨iv,λh=>absurd h M⟩) (λh=>absurd h M) w' (some ⟨g,0,none⟩) cap hr ⟨hown.1, .inr ⟨g,cap,cur,rfl,ef _,B6,anN⟩⟩ ⟨hg.os,hg.tape,hg.output,hg.size⟩ (λk hk _=>hg.block k hk aS) λmS e2=>by cases e2;exact .inr vb
    have tF:∀iH,p=some iH->iH.block<s.b4.heap.size->w.heap[iH.block]? =s.b4.heap[iH.block]? :=λiH hp hlt=>
     ak.grow.heap _ hlt λhm=>(zP.lS iH hp).1 (ak.sc _ hm)
    have hrow:=arJ zP.row tF;have sw:n<=c:=by
     rcases hrow.2 with⟨he,zJ⟩|⟨g,cap,cur,he,_,Ed,sw,RZ,jH,Ib⟩
     ·cases he;omega
     ·cases he;exact sw
    have RY:∀iH:Addr,p=some iH->∃(hv:TypeId) (fD:Array Value) (Lo:Nat×Nat),w.heap[iH.block]? =some (.cells fD hv Lo):=by
     intro iH hp;subst hp;rcases hrow.2 with⟨he,_⟩|⟨g,cap,cur,he,_,Ed,_⟩
     ·cases he
     ·cases he;exact⟨_,_,_,Ed⟩
    have bQ:=bQ zP.lS λ_=>RY
    by_cases oW:m=0
    ·subst oW
     have eF:xs=[]:=n2 (by rw[hl];simp);subst eF;refine bQ w p c (avu t ty e i hu hi p q n c c' sw) (by simpa using hrow) ⟨rfl,rfl,rfl,cL _⟩ (λ_ _ _=>rfl) λmS e2=> .inl ⟨mS,e2,rfl, .inl M⟩
    ·obtain⟨aB,rfl⟩:∃aB,q=some aB:=by
      cases q with
      |none=>exact absurd (qs rfl) oW
      |some aB=>exact⟨aB,rfl⟩
     have dB:=LI aB rfl;have HY:n+m<=(n+m)*eM:=Nat.le_mul_of_pos_right _ sA.2;obtain rfl:i=i0:=by rw[hi] at LV;exact h9 LV
     obtain⟨v',w',hr,hown,hg,En⟩:=run_append_own (P:=P) w 0 t ty e i tb es eM hu hi x5 x4 Ee sE sA.1 (.slice p n c) n cs hrow aB m c' xs hl dB wC
      (by simp only[maxLen];omega) hbound (ef _)
     have mG:∀k,k<w.heap.size->(∀iH,p=some iH->k≠iH.block)->w'.heap[k]? =w.heap[k]? :=λk hk hne=>hg.block k hk (λe=>by
      cases p with
      |none=>simp[Value.ownBlock] at e
      |some iH=>simp only[Value.ownBlock,xg] at e;exact hne iH rfl e)
     have anI:∃cA c2,v'= .slice cA (n+m) c2/\(∀mS,cA=some mS->(∃b,p=some b/\mS.block=b.block/\(n=n+m∨n<c))∨w.heap.size<=mS.block)/\(¬n<c->∀k,k<w.heap.size->w'.heap[k]? =w.heap[k]?):=by
      rcases hrow.2 with⟨he,zJ⟩|⟨g,cap,cur,he,_,Ed,sw,RZ,jH,Ib⟩
      ·cases he
       clear zJ;have j4:=run_append_nil (P:=P) w t ty e i tb hu hi x5 aB m c' xs (by rw[x4];exact hl) dB M M (by rw[Ee];have hb:=hbound;simp only[iR] at hb;omega);have:=hr.symm.trans j4;injection this with e1 _
       exact⟨_,_,by rw[e1,iR],(λmS e2=>by cases e2;exact .inr (cL _)),λ_ k hk=>mG k hk λ_ e=>by cases e⟩
      ·cases he
       by_cases acn:n+m<=c
       ·have j4:=run_append_room (P:=P) w t ty e i hu hi g n c cur Ed aB m c' xs (by rw[x4];exact hl) dB wC acn (by rw[x4,hl,jH,<-F3];exact JJ _ acn)
        have:=hr.symm.trans j4;injection this with e1 _
        exact⟨_,_,e1,(λmS e2=>by cases e2;exact .inl ⟨_,rfl,rfl, .inr M⟩),λh=>absurd M h⟩
       ·have j4:=run_append_grow (P:=P) w t ty e i tb hu hi x5 ⟨g,0,none⟩ n c cs (by rw[x4];exact hrow.1) (World.ownsRow.cells hrow rfl) aB m c' xs (by rw[x4];exact hl) dB M M (growslice_fits M (by rw[Ee];exact hbound))
        have:=hr.symm.trans j4;injection this with e1 e2
        refine⟨_,_,e1,(λmS e2=>by cases e2;exact .inr (cL _)),λ_ k hk=>?_⟩;rw[e2];exact mD _ _ _ hk
     obtain⟨cA,c2,rfl,Mf,anM⟩:=anI;refine bQ w' cA c2 hr hown ⟨hg.os,hg.tape,hg.output,hg.size⟩ (λk hk aw=>?_) Mf
     by_cases hlt:n<c
     ·exact mG k hk (aw hlt)
     ·exact anM hlt k hk
   ·exact h.elim
  ·exact h.elim
 ·exact h.elim
theorem akV(ak:dn w0 F a1 N s a w){o:Oper}{t u:TypeId}{x y:aE}{K:aE->bU->List Nat->Prop}{next:Act->World->Prop}{Q:Exit->Act->World->Prop}(hbig:ml P all o s=true)(ty:TypeId)
  (h:QZ P w0 F t x y s K) (hK:Next P w0 F a1 N all s o a K next):o.upon P a next Q ((do pure (.value (<-Builtin.copy_ #[t,u] ty #[real (a6 s.L) x,real (a6 s.L) y])):Sem Go.Next).run P w):=by
 unfold QZ at h;split at h
 ·rename_i e p n c hu
  split at h
  ·rename_i es zz
   obtain⟨aB,rfl,h⟩:=h;obtain⟨xs,⟨⟨hc,xX⟩,h⟩,hl,wC,q,c',hy,qs,LI⟩:=aha ak h;generalize hm:uT y=m at*;obtain⟨nh,cs,aaw,hh,hle⟩:=hc;have hlt:aB.block<s.b4.heap.size:=(oD.1 hh).1;have hw:w.heap[aB.block]? =some (.cells cs aaw (0,0)):=by rw[ak.grow.heap _ hlt λzI=>xX.1 (ak.sc _ zI)];exact hh
   obtain⟨w',ki,fm⟩:=Abs.agz (P:=P) aB.block aB.off aaw (0,0) xs 0 w cs hw (by rw[hl];omega) (λk _ _=>by simp) wC;have had:aB=⟨aB.block,aB.off,none⟩:=by cases aB;simp_all
   have anF:(Builtin.firstCells es (min m n) (.slice q m c')).run P w= .ok xs.toArray w:=by
    cases q with
    |none=>
     have aW:=qs rfl;have:xs=[]:=n2 (by rw[hl,aW];simp);subst this;simp[Builtin.firstCells]
    |some b=>
     have:=run_loadCells_list (P:=P) w b xs (λj u hu=>LI b rfl j u hu);rw[hl] at this;simpa[Builtin.firstCells] using this
   have hr:(Builtin.copy_ #[t,u] ty #[.slice (some aB) n c, .slice q m c']).run P w= .ok (.int .i64 (min m n:Nat)) w':=by
    have apf:(storeCells aB xs).run P w= .ok () w':=by rw[had];exact ki
    have L9:Nat.min m n=min m n:=rfl;simp[Builtin.copy_,run_underlying hu,Builtin.lenOf,qH zz,L9,anF,apf,goInt]
   rw[hy];refine sQ hr ?_;have zM:bH s.b4 s.aD aB 0 xs w':=by
    refine⟨fm.os.trans ak.grow.os,fm.tape.trans ak.grow.tape,fm.output.trans ak.grow.output,by rw[fm.size];exact ak.grow.size,λi h1 h2 aw=>by rw[fm.pM i aw];exact ak.grow.heap i h1 h2,λxG t2 h2=>?_⟩;rw[hh] at h2;cases h2;have:=fm.u7;simpa using this
   have fc:=ak.r5 fm.os fm.tape fm.output (by rw[fm.size];exact cL _) (λi h1 h2=>fm.pM i λe=>h2 XB) (λb hb=>fm.pM b λe=>xX.1 (by rw[<-e];exact hb)) (λk hk=>fm.pM k λe=>ak.hd.sL hk hw e);exact hK (.int .i64 (min m n:Nat)) (s.at s.L w') [] w' (h w' zM) ⟨λk l hl=>⟨l,hl,rfl,cL _,λ_=>rfl,λ_=>rfl,rfl,rfl⟩,⟨[],rfl⟩,rfl⟩ (λ_=>rfl) (λe=>by rw[hbig] at e;cases e) fc trivial
  ·exact h.elim
 ·exact h.elim
theorem aae{l:List UInt8}{j:Nat}(hj:j<l.length):(tv l)[j]? =some (.int .u8 (l[j].toNat:Int)):=by
 simp[tv,el hj]
theorem akT(ak:dn w0 F a1 N s a w){o:Oper}(hbig:ml P all o s=true){t d:TypeId}{v:aE}{K:aE->bU->List Nat->Prop}{next:Act->World->Prop}{Q:Exit->Act->World->Prop}
  (h:QY P w0 F t d v s K) (hK:Next P w0 F a1 N all s o a K next):o.upon P a next Q ((do pure (.value (<-Go.convert t d (real (a6 s.L) v))):Sem Go.Next).run P w):=by
 have tK:fY s (s.at s.L w) []:=⟨λk l hl=>⟨l,hl,rfl,cL _,λ_=>rfl,λ_=>rfl,rfl,rfl⟩,⟨[],rfl⟩,rfl⟩;unfold QY at h;split at h
 ·rename_i e l hs hd
  split at h
  ·rename_i he
   have hr:=run_bytes_of_string (P:=P) w t d e ⟨l.toArray⟩ hs hd he;refine sQ hr ?_;have hsz:(⟨l.toArray⟩:ByteArray).size=l.length:=by show l.toArray.size=_;simp
   generalize qi:bytesRow ⟨l.toArray⟩ (grownCap w (⟨l.toArray⟩:ByteArray).size 0 e)=C;rw[hsz] at*;have kg:l.length<=grownCap w l.length 0 e:=by
    first
     |exact grownCap_ge w l.length 0 e
     |(unfold grownCap;omega)
   have hcell:∀j v,(tv l)[j]? =some v->C[j]? =some v:=λj v hj=>by
    have zC:j<l.length:=by
     have:=(nv.1 hj).1;simpa[tv] using this
    rw[<-qi,bytesRow_at _ _ _ (by show j<l.toArray.size;simpa using zC)];rw[aae zC] at hj;rw[<-hj];simp
   have bk:xq s.b4 s.aD e l (w.drew.alloc (.cells C e (C.size,C.size+1))) w.heap.size (grownCap w l.length 0 e):=by
    refine⟨ak.grow.os,ak.grow.tape,ak.grow.output,ak.grow.size,?_,λi h1 h2=>?_,λj v hj=>?_,kg,_,_,Be w.drew _⟩
    ·have:=vW w.drew (.cells C e (C.size,C.size+1))
     have e:w.drew.heap=w.heap:=rfl;rw[e] at this;omega
    ·have e:w.drew.heap=w.heap:=rfl
     rw[mD _ _ _ (by rw[e];exact gp h1 ak.grow.size),e];exact ak.grow.heap i h1 h2
    ·have e:(⟨w.heap.size,0,none⟩:Addr).add (0+j)=⟨w.drew.heap.size,j,none⟩:=by
      have e1:w.drew.heap=w.heap:=rfl;rw[e1,Addr.add_lit];simp
     rw[e,World.cell?_alloc_mark];exact hcell j v hj
   have ng:w.heap.size∉a6 s.L:=KC ak (cL _);have Sn:∀i,i<w.heap.size->(w.drew.alloc (.cells C e (C.size,C.size+1))).heap[i]? =w.heap[i]? :=λi hi=>by
    have e:w.drew.heap=w.heap:=rfl;rw[mD _ _ _ (by rw[e];exact hi),e]
   have fc:=ak.r5 (w':=w.drew.alloc (.cells C e (C.size,C.size+1))) rfl rfl rfl (by have:=vW w.drew (.cells C e (C.size,C.size+1));have e:w.drew.heap=w.heap:=rfl;rw[e] at this;omega)
    (λj h1 h2=>Sn j (gp h1 (ek ak.frame.size ak.grow.size))) (λb hb=>by
     obtain⟨k,l,hl,rfl⟩:=q6 hb
     exact Sn _ (Whole.lt (ak.eI k l hl).1)) (λk hk=>Sn k (ak.hd.lt hk))
   exact hK _ (s.at s.L _) [] _ (Ui (h _ _ _ bk) ng) ⟨λk l hl=>⟨l,hl,rfl,cL _,λ_=>rfl,λ_=>rfl,rfl,rfl⟩,⟨[],rfl⟩,rfl⟩ (λ_=>rfl) (λe=>by rw[hbig] at e;cases e) fc trivial
  ·exact h.elim
 ·rename_i e p n c hs hd
  split at h
  ·rename_i he
   obtain⟨l,h⟩:=h;obtain⟨⟨hl,dB⟩,En,hk⟩:=h w ak.grow.grow;have fc:=ak.r5 (w':=w) rfl rfl rfl (cL _) (λ_ _ _=>rfl) (λ_ _=>rfl) (λ_ _=>rfl);have hr:(Go.convert t d (.slice p n c)).run P w= .ok (.string ⟨l.toArray⟩) w:=by
    cases p with
    |none=>
     have hn:=En rfl;subst hn;have:l=[]:=n2 hl;subst this;rw[run_convert_bytes_string w t d e none 0 c hs he hd];simp[Conv.bytesToString];rfl
    |some aB=>
     subst hl
     exact run_convert_bytes_back w t d e aB c l hs he hd (λj hj=>by
      have:=dB aB rfl j _ (aae hj)
      rwa[iR] at this)
   exact sQ hr (hK (.str l) (s.at s.L w) [] w hk tK (λ_=>rfl) (λe=>by rw[hbig] at e;cases e) fc trivial)
  ·exact h.elim
 ·rename_i e0 e p n c hs hd
  split at h
  ·rename_i api
   split at h
   ·rename_i he
    obtain⟨aB,rfl,⟨⟨nh,cs,ty,hh,hle⟩,xX⟩,h⟩:=h;have apj:t=d:=uC api;subst apj;have hlt:aB.block<s.b4.heap.size:=(oD.1 hh).1;have hw:w.heap[aB.block]? =some (.cells cs ty (0,0)):=by rw[ak.grow.heap _ hlt λzI=>xX.1 (ak.sc _ zI)];exact hh
    have hr:(Go.convert t t (.slice (some aB) n c)).run P w= .ok (.slice (some aB) n c) (w.freeze ⟨aB.block,cs.size,none⟩ 1):=by
     have lY:w.shape? aB.block=some (ty,cs.size):=by unfold World.shape?;rw[hw]
     simp[Go.convert,run_underlying hd,run_underlying he,markStringish,lY]
    have hz:(w.freeze ⟨aB.block,cs.size,none⟩ 1).heap.size=w.heap.size:=by
     unfold World.freeze;rw[ag du];exact Array.size_modify ..
    have ho:∀i,i≠aB.block->(w.freeze ⟨aB.block,cs.size,none⟩ 1).heap[i]? =w.heap[i]? :=λi hi=>by
     unfold World.freeze;rw[ag du];show(w.heap.modify aB.block _)[i]? =_;rw[XW,ag (xe hi)]
    have hb:∃lD,(w.freeze ⟨aB.block,cs.size,none⟩ 1).heap[aB.block]? =some (.cells cs ty lD):=by
     unfold World.freeze;rw[ag du];refine⟨(cs.size,cs.size+1),?_⟩;show(w.heap.modify aB.block _)[aB.block]? =_;rw[XW,aA rfl,hw];rfl
    have wD:(w.freeze ⟨aB.block,cs.size,none⟩ 1).os=w.os/\(w.freeze ⟨aB.block,cs.size,none⟩ 1).tape=w.tape/\(w.freeze ⟨aB.block,cs.size,none⟩ 1).output=w.output:=by
     unfold World.freeze;rw[ag du];exact⟨rfl,rfl,rfl⟩
    generalize w.freeze ⟨aB.block,cs.size,none⟩ 1=w' at*;have zM:qW s.b4 s.aD aB w':=by
     refine⟨wD.1.trans ak.grow.os,wD.2.1.trans ak.grow.tape,wD.2.2.trans ak.grow.output,by rw[hz];exact ak.grow.size,λi h1 h2 aw=>by rw[ho i aw];exact ak.grow.heap i h1 h2,λxG t2 h2=>?_⟩;rw[hh] at h2;cases h2;exact hb
    have fc:=ak.r5 wD.1 wD.2.1 wD.2.2 (by rw[hz];exact cL _) (λi h1 h2=>ho i λe=>h2 XB) (λb hb=>ho b λe=>xX.1 (by rw[<-e];exact hb)) (λk hk=>ho k λe=>ak.hd.sL hk hw e);exact sQ hr (hK (.cJ (some aB) n c) (s.at s.L w') [] w' (h w' zM) ⟨λk l hl=>⟨l,hl,rfl,cL _,λ_=>rfl,λ_=>rfl,rfl,rfl⟩,⟨[],rfl⟩,rfl⟩ (λ_=>rfl) (λe=>by rw[hbig] at e;cases e) fc trivial)
   ·exact h.elim
  ·exact h.elim
 ·exact h.elim
theorem adL{o:Oper}{t:TypeId}{x y:Operand}(ho:o.op= .store t x y){v:aE}(ah:eval P s.G x=some v)(hn:∀k o,v≠ .gU k o):ml P all o s=true:=by
 unfold ml;rw[ho];simp only[ah]
 try (split<;>first|rfl|(rename_i k o' e;injection e with e;exact absurd e (hn k o')))
theorem ahe(ak:dn w0 F a1 N s a w){o:Oper}(hbig:ml P all o s=true){t:TypeId}{m:Nat}(hm:kx P t=some m){aB:Addr}{yt:Nat}{v:aE}(ah:eX s.L.length v)(hs:v.dI.all aE.scalar=true)(hl:v.dI.length=m){K:aE->bU->List Nat->Prop}{next:Act->World->Prop}{Q:Exit->Act->World->Prop}{c:Bool}
  (hc:ct s.b4 aB yt m) (xX:cp w0.heap.size F (a6 s.L) aB.block) (h:∀ad,bH s.b4 s.aD aB yt (bx (a6 s.L) v.dI) ad->EL w0 c s.L ad (K (.j' []) (s.at s.L ad) [])) (hK:Next P w0 F a1 N all s o a K next):
  o.upon P a next Q ((do Instr.storeAt t (vU aB yt) (real (a6 s.L) v);pure .skip:Sem Go.Next).run P w):=by
 obtain⟨nh,cs,ty,hh,hle⟩:=hc;have hlt:aB.block<s.b4.heap.size:=(oD.1 hh).1;have hw:w.heap[aB.block]? =some (.cells cs ty (0,0)):=by rw[ak.grow.heap _ hlt λzI=>xX.1 (ak.sc _ zI)];exact hh
 obtain⟨f1,f2,_⟩:=zo (β:=a6 s.L) ah;obtain⟨w',hr,fm⟩:=agy (P:=P) (w:=w) hm (o:=yt) f1 (by rw[rH];exact hl) (T9 f2 hs) nh hw hle;rw[Sem.run_bind,hr];have zM:bH s.b4 s.aD aB yt (bx (a6 s.L) v.dI) w':=by
  refine⟨fm.os.trans ak.grow.os,fm.tape.trans ak.grow.tape,fm.output.trans ak.grow.output,by rw[fm.size];exact ak.grow.size,λi h1 h2 aw=>by rw[fm.pM i aw];exact ak.grow.heap i h1 h2,λxG t2 h2=>?_⟩;rw[hh] at h2;cases h2;exact fm.u7
 have fc:=ak.r5 fm.os fm.tape fm.output (by rw[fm.size];exact cL _) (λi h1 h2=>fm.pM i λe=>h2 XB) (λb hb=>fm.pM b λe=>xX.1 (by rw[<-e];exact hb)) (λk hk=>fm.pM k λe=>ak.hd.sL hk hw e);exact hK (.j' []) (s.at s.L w') [] w' (TT (s:=s.at s.L w') fc (h w' zM)) ⟨λk l hl=>⟨l,hl,rfl,cL _,λ_=>rfl,λ_=>rfl,rfl,rfl⟩,⟨[],rfl⟩,rfl⟩ (λ_=>rfl) (λe=>by rw[hbig] at e;cases e) fc trivial
end Go.Sy
namespace Go.Sy
open Go.RowKit (Below)
variable[k7]
variable{P:Program}{w0:World}{F:Nat->Prop}{a1:List (Nat×Obj)}{N:Nat}{s:bU}{a:Act}{w:World}{all:List Oper}
theorem N8{t e:TypeId}(h:wZ P t=some e):∃k,P.underlying t=some (.map k e)/\P.underlying k=some (.int .i64)/\ta P e=some (.lit false):=by
 unfold wZ at h;split at h
 ·rename_i k e' hu
  split at h
  ·rename_i h1 h2 aw
   cases h;exact⟨k,hu,h1,aw⟩
  ·cases h
 ·cases h
def n6(fr:List MapEntry)(l:List Int):Prop:=fr.map (λe=>(e.key,e.val))=l.map λn=>(Value.int .i64 n,Value.bool true)
theorem n6.cons{fr:List MapEntry}{m:Int}{l:List Int}(h:n6 fr (m::l)):∃e es,fr=e::es/\e.key= .int .i64 m/\e.val= .bool true/\n6 es l:=by
 cases fr with
 |nil=>cases h
 |cons e es=>
  unfold n6 at h;simp only[pU,O3,Prod.mk.injEq] at h;exact⟨e,es,rfl,h.1.1,h.1.2,h.2⟩
theorem n6.nil{fr:List MapEntry}(h:n6 fr []):fr=[]:=by
 cases fr with
 |nil=>rfl
 |cons e es=>cases h
def pO(n:Int):List Int->Option Nat
 |[]=>none
 |m::l=>if n==m then some 0 else(pO n l).map (· +1)
theorem Nq(n:Int):∀l:List Int,(pO n l).isSome=l.contains n
 |[]=>rfl
 |m::l=>by
  unfold pO;rw[List.contains_cons];cases hb:(n==m) with
  |true=>rfl
  |false=>
   have:=Nq n l;simpa using this
theorem abc(n:Int):∀(l:List Int) (fr:List MapEntry) (i:Nat),n6 fr l->Instr.findNow (.int .i64) (.int .i64 n) fr i=some ((pO n l).map λj=>(i+j,Value.bool true))
 |[],fr,i,h=>by rw[h.nil];rfl
 |m::l,fr,i,h=>by
  obtain⟨e,es,rfl,h1,h2,aw⟩:=h.cons;have hs:Instr.sameNow (.int .i64) (.int .i64 n) e.key=some (n==m):=by rw[h1];simp[Instr.sameNow]
  unfold Instr.findNow pO;rw[hs];cases hb:(n==m) with
  |true=>simp[h2]
  |false=>
   simp only[];rw[abc n l es (i+1) aw];simp only[JP,yX,Option.map_map];congr 1;cases pO n l with
   |none=>rfl
   |some r=>simp only[Option.map_some,Function.comp];congr 2;omega
theorem Rr{k:TypeId}(hu:P.underlying k=some (.int .i64))(n:Int){l:List Int}{fr:List MapEntry}(hl:n6 fr l)(w:World):(Instr.findKey k (.int .i64 n) fr).run P w= .ok ((pO n l).map λj=>(j,Value.bool true)) w:=by
 unfold Instr.findKey;simp only[Sem.run_bind,run_underlying hu,Result.andThen_ok,abc n l fr 0 hl,Sem.run_pure,iR]
theorem QK{k:TypeId}(hu:P.underlying k=some (.int .i64))(b:Bool)(n:Int)(w:World):(Instr.checkKey b 10000 k (.int .i64 n)).run P w= .ok () w:=by
 unfold Instr.checkKey;simp only[Sem.run_bind,run_underlying hu,Result.andThen_ok,Sem.run_pure]
theorem afs{n:Int}:∀{l:List Int} {fr:List MapEntry} {j:Nat},n6 fr l->pO n l=some j->∃e,fr[j]? =some e/\e.key= .int .i64 n/\e.val= .bool true/\l[j]? =some n
 |[],_,_,_,h=>by cases h
 |m::l,fr,j,hl,hj=>by
  obtain⟨e,es,rfl,h1,h2,aw⟩:=hl.cons;unfold pO at hj;split at hj
  ·rename_i hb
   cases hj;have:n=m:=by simpa using hb
   exact⟨e,rfl,by rw[h1,this],h2,by rw[this];rfl⟩
  ·simp only[il] at hj
   obtain⟨adR,lX,rfl⟩:=hj;obtain⟨e',q1,q2,cz,en⟩:=afs aw lX;exact⟨e',by simpa using q1,q2,cz,by simpa using en⟩
theorem aeO{n:Int}:∀{l:List Int} {fr:List MapEntry} {j:Nat},n6 fr l->pO n l=some j->n6 (fr.modify j λe=>{e with key:= .int .i64 n,val:= .bool true}) l
 |[],_,_,_,h=>by cases h
 |m::l,fr,j,hl,hj=>by
  obtain⟨e,es,rfl,h1,h2,aw⟩:=hl.cons;unfold pO at hj;split at hj
  ·rename_i hb
   cases hj;have HY:n=m:=by simpa using hb
   have amC:es.map (λe=>(e.key,e.val))=l.map λn=>(Value.int .i64 n,Value.bool true):=aw
   simp only[List.modify_zero_cons];unfold n6;simp only[pU,amC,HY]
  ·simp only[il] at hj
   obtain⟨adR,lX,rfl⟩:=hj;have ih:=aeO aw lX;unfold n6 at ih⊢;simp only[List.modify_succ_cons,pU,ih,h1,h2]
theorem aa5{n:Int}:∀{l:List Int} {fr:List MapEntry} {j:Nat},n6 fr l->pO n l=some j->n6 (fr.eraseIdx j) (l.erase n)
 |[],_,_,_,h=>by cases h
 |m::l,fr,j,hl,hj=>by
  obtain⟨e,es,rfl,h1,h2,aw⟩:=hl.cons;unfold pO at hj;rw[List.erase_cons];split at hj
  ·rename_i hb
   cases hj;have HY:n=m:=by simpa using hb
   simpa[HY] using aw
  ·rename_i hb
   simp only[il] at hj;obtain⟨adR,lX,rfl⟩:=hj;have ih:=aa5 aw lX;have HV:(m==n)=false:=by
    rw[beq_eq_false_iff_ne];intro e;exact hb (by simp[e])
   rw[HV];unfold n6 at ih⊢;simp only[List.eraseIdx_cons_succ,pU,ih,h1,h2];rfl
theorem BR{r:Nat}{fr:Array MapEntry}{clock:Nat}(h1:w.heap[r]? =some (.map fr clock)):(getObj r).run P w= .ok (.map fr clock) w:=by simp[getObj,Sem.run,h1]
theorem Ji{r:Nat}{fr:Array MapEntry}{clock:Nat}(h1:w.heap[r]? =some (.map fr clock))(o:Obj):(setObj r o).run P w= .ok () {w with heap:=w.heap.setIfInBounds r o}:=by simp[setObj,Sem.run,h1]
theorem Jl{b:Nat}{fr zl:Array MapEntry}{clock Bt:Nat}{l:List Int}(h1:w.heap[b]? =some (.map fr clock))(h2:n6 zl.toList l):pr w b l {w with heap:=w.heap.setIfInBounds b (.map zl Bt)}:=by
 have hlt:=(oD.1 h1).1;exact⟨rfl,rfl,rfl,by simp,λi hi=>by simp only[Dq (xe hi)],zl,Bt,by simp[hlt],h2⟩
theorem dn.avS(ak:dn w0 F a1 N s a w){b:Nat}{l l':List Int}{w':World}(hb:lQ w b l)(bc:b<w0.heap.size->F b)(hs:pr w b l' w'):dn w0 F a1 N (s.at s.L w') a w':=by
 obtain⟨fr,clock,h1,h2⟩:=hb;refine ak.r5 hs.os hs.tape hs.output (by rw[hs.size];exact cL _) (λi aw aZ=>hs.heap i λe=>aZ (by rw[e];exact bc M)) (λc hc=>hs.heap c λe=>?_) (λk hk=>hs.heap k (ak.hd.ari hk h1));obtain⟨k,m,hm,rfl⟩:=q6 hc;have:=(ak.eI k m hm).1;unfold Whole at this;rw[e,h1] at this;cases this
theorem agV{m:aE}{w:World}{K:Nat->List Int->Prop}(h:N6 m w K):∃b l,m= .val (.map (some b))/\lQ w b l/\K b l:=by
 unfold N6 at h;split at h
 ·obtain⟨b,rfl,l,h1,h2⟩:=h
  exact⟨b,l,rfl,h1,h2⟩
 ·exact h.elim
theorem Uf:fY s (s.at s.L w) []:=⟨λk l hl=>⟨l,hl,rfl,cL _,λ_=>rfl,λ_=>rfl,rfl,rfl⟩,⟨[],rfl⟩,rfl⟩
theorem aq0{t e:TypeId}(ht:wZ P t=some e){b:Nat}{l:List Int}(n:Int)(hb:lQ w b l):∃w',(Instr.mapUpdate t (.map (some b)) (.int .i64 n) (.bool true)).run P w= .ok () w'/\pr w b (Aq n l) w':=by
 obtain⟨k,hu,hk,_⟩:=N8 ht;obtain⟨fr,clock,h1,h2⟩:=hb;have tG:=QK (P:=P) hk false n w;have rj:=Rr hk n h2 w;have hp:=Nq n l;unfold Aq;cases hl:pO n l with
 |none=>
  rw[hl] at rj hp;rw[<-hp];refine⟨_,?_,Jl (zl:=fr.push {key:= .int .i64 n,val:= .bool true,born:=clock}) (Bt:=clock+1) h1 ?_⟩
  ·simp only[Instr.mapUpdate,Sem.run_bind,run_underlying hu,Result.andThen_ok,BR h1,tG,rj,Option.map_none,Ji h1]
  ·simp only[Option.isSome_none,JP,yX]
   unfold n6;rw[Array.toList_push,l9,h2,l9];rfl
 |some j=>
  rw[hl] at rj hp;rw[<-hp];obtain⟨e',q1,q2,cz,_⟩:=afs h2 hl;have asc:fr[j]? =some e':=by rw[<-uA];exact q1
  have ki:(Instr.keyThatStays (((fr[j]?).map (·.key)).getD (.int .i64 n)) (.int .i64 n)).run P w= .ok (.int .i64 n) w:=by
   rw[asc];simp[Instr.keyThatStays,q2,Instr.sameBits]
  refine⟨_,?_,Jl (zl:=fr.modify j λe=>{e with key:= .int .i64 n,val:= .bool true}) (Bt:=clock) h1 ?_⟩
  ·simp only[Instr.mapUpdate,Sem.run_bind,run_underlying hu,Result.andThen_ok,BR h1,tG,rj,Option.map_some,ki,Ji h1]
  ·rw[Array.toList_modify]
   exact aeO h2 hl
theorem alh{t e ty:TypeId}{jF:Array TypeId}(ht:wZ P t=some e)(aW:jF[0]? =some t){b:Nat}{l:List Int}(n:Int)(hb:lQ w b l):∃w',(Builtin.delete_ jF ty #[.map (some b), .int .i64 n]).run P w= .ok (.tuple #[]) w'/\pr w b (l.erase n) w':=by
 obtain⟨k,hu,hk,_⟩:=N8 ht;obtain⟨fr,clock,h1,h2⟩:=hb;have tG:=QK (P:=P) hk fr.isEmpty n w;have rj:=Rr hk n h2 w;have hp:=Nq n l;have zr:(jF[0]?,(#[Value.map (some b),Value.int .i64 n]:Array Value)[0]?,(#[Value.map (some b),Value.int .i64 n]:Array Value)[1]?)=(some t,some (Value.map (some b)),some (Value.int .i64 n)):=by rw[aW];rfl
 cases hl:pO n l with
 |none=>
  rw[hl] at rj hp;refine⟨_,?_,Jl (zl:=fr) (Bt:=clock) h1 ?_⟩
  ·unfold Builtin.delete_
   rw[zr];simp only[Sem.run_bind,run_underlying hu,Result.andThen_ok,BR h1,tG,rj,Option.map_none,Ji h1,Sem.run_pure]
  ·rw[List.erase_of_not_mem (by intro hm;have:=List.contains_iff_mem.2 hm;rw[<-hp] at this;cases this)]
   exact h2
 |some j=>
  rw[hl] at rj;refine⟨_,?_,Jl (zl:=fr.eraseIdxIfInBounds j) (Bt:=clock) h1 ?_⟩
  ·unfold Builtin.delete_
   rw[zr];simp only[Sem.run_bind,run_underlying hu,Result.andThen_ok,BR h1,tG,rj,Option.map_some,Ji h1,Sem.run_pure]
  ·rw[Array.toList_eraseIdxIfInBounds]
   exact aa5 h2 hl
theorem akI{t e ty:TypeId}{jF:Array TypeId}(ht:wZ P t=some e)(aW:jF[0]? =some t){b:Nat}{l:List Int}(hb:lQ w b l):∃w',(Builtin.clear_ jF ty #[.map (some b)]).run P w= .ok (.tuple #[]) w'/\pr w b [] w':=by
 obtain⟨k,hu,hk,_⟩:=N8 ht;obtain⟨fr,clock,h1,h2⟩:=hb;have zr:(jF[0]?,(#[Value.map (some b)]:Array Value)[0]?)=(some t,some (Value.map (some b))):=by rw[aW];rfl
 refine⟨_,?_,Jl (zl:=#[]) (Bt:=clock) h1 rfl⟩;unfold Builtin.clear_;rw[zr];simp only[Sem.run_bind,run_underlying hu,Result.andThen_ok,BR h1,Ji h1,Sem.run_pure]
theorem aqM{t e:TypeId}(ht:wZ P t=some e){b:Nat}{l:List Int}(n:Int)(hb:lQ w b l):(Instr.lookup t (.map (some b)) (.int .i64 n) false).run P w= .ok (.bool (l.contains n)) w:=by
 obtain⟨k,hu,hk,hz⟩:=N8 ht;obtain⟨fr,clock,h1,h2⟩:=hb;have tG:=QK (P:=P) hk fr.isEmpty n w;have rj:=Rr hk n h2 w;have hp:=Nq n l;rw[<-hp];obtain⟨tb,hr,sD,_,_⟩:=Fi hz w;have apF:tb= .bool false:=((sD 0 []).2).symm;rw[apF] at hr;cases hl:pO n l with
 |none=>
  rw[hl] at rj;simp only[Instr.lookup,Sem.run_bind,run_underlying hu,Result.andThen_ok,BR h1,tG,rj,Option.map_none,hr,Sem.run_pure,JP,yX,Option.isSome_none]
 |some j=>
  rw[hl] at rj;simp only[Instr.lookup,Sem.run_bind,run_underlying hu,Result.andThen_ok,BR h1,tG,rj,Option.map_some,Sem.run_pure,JP,yX,Option.isSome_some]
theorem aqZ{t:TypeId}:(Instr.makeMap t none).run P w= .ok (.map (some w.heap.size)) (w.alloc (.map #[] 0))/\Gs w (w.alloc (.map #[] 0)) w.heap.size:=by
 constructor
 ·simp only[Instr.makeMap,Option.map_none,Sem.run_bind,Sem.run_pure,run_newObj,Result.andThen_ok]
  rfl
 ·refine⟨rfl,rfl,rfl,cL _,by rw[vW];omega,λi hi=>mD _ _ _ hi,#[],0,Be w _,rfl⟩
theorem dn.avP(ak:dn w0 F a1 N s a w):dn w0 F a1 N (s.at s.L (w.alloc (.map #[] 0))) a (w.alloc (.map #[] 0)):=
 ak.r5 rfl rfl rfl JD (λj h1 h2=>mD _ _ _ (gp h1 (ek ak.frame.size ak.grow.size))) (λb hb=>by
  obtain⟨k,l,hl,rfl⟩:=q6 hb
  exact mD _ _ _ (Whole.lt (ak.eI k l hl).1)) (λk hk=>mD _ _ _ (ak.hd.lt hk))
theorem dn.again(ak:dn w0 F a1 N s a w):dn w0 F a1 N (s.at s.L w) a w:=ak.r5 rfl rfl rfl (cL _) (λ_ _ _=>rfl) (λ_ _=>rfl) (λ_ _=>rfl)
theorem V2(ak:dn w0 F a1 N s a w){o:Oper}(hbig:ml P all o s=true){t:TypeId}{m:aE}{R:World->Nat->List Int->World->Prop}{K:aE->bU->List Nat->Prop}{next:Act->World->Prop}{bT:Prop}
  (h:Jj P w0 F t m s R K) (hK:Next P w0 F a1 N all s o a K next)
  (hrun:∀e b l,wZ P t=some e->m= .val (.map (some b))->lQ w b l->∃w' l',R w b l w'/\pr w b l' w'/\(next (a.put o.dst undef) w'->bT)):bT:=by
 unfold Jj at h;split at h
 ·rename_i e he
  obtain⟨b,l,rfl,hb,bc,hk⟩:=agV (h w ak.grow.grow);obtain⟨w',l',hR,hs,zu⟩:=hrun e b l he rfl hb;exact zu (hK (.j' []) (s.at s.L w') [] w' (hk w' hR) Uf (λ_=>rfl) (λe=>by rw[hbig] at e;cases e) (ak.avS hb bc hs) trivial)
 ·exact h.elim
end Go.Sy
namespace Go.Sy
open Go.RowKit (Below)
variable[k7]
variable{P:Program}{w0:World}{F:Nat->Prop}{a1:List (Nat×Obj)}{N:Nat}{s:bU}{a:Act}{w:World}{all:List Oper}
theorem aBC(z:List Value)(hz:0<z.length)(c:Nat):(Array.range (c*z.length)).map (λi=>z.toArray[i%z.toArray.size]!)=(List.replicate c z).flatten.toArray:=by
 have hlen:∀c:Nat,(List.replicate c z).flatten.length=c*z.length:=λc=>by
  induction c with
  |zero=>simp
  |succ c ih=>rw[XN,JM,gh,ih,Ds,JN]
 have nf:∀(c i:Nat),i<c*z.length->(List.replicate c z).flatten[i]? =z[i%z.length]? :=λc=>by
  induction c with
  |zero=>intro i h;simp at h
  |succ c ih=>
   intro i h;rw[XN,JM]
   by_cases hi:i<z.length
   ·rw[nr hi,XO hi]
   ·rw[mu M,ih _ (by rw[Ds] at h;omega),Nat.mod_eq_sub_mod (a:=i) (b:=z.length) M]
 apply n1;apply s8;intro i;simp only[O4,Array.toList_range,pV,s_]
 by_cases hi:i<c*z.length
 ·rw[F4 hi,nf c i hi]
  have hlt:i%z.length<z.length:=Nat.mod_lt _ hz;simp[el hlt,aiq]
 ·rw[nu ej,nu (by rw[hlen];omega)];rfl
theorem T0{eg:Type}(xs vs:List eg)(off:Nat)(h:off+vs.length<=xs.length)(j:Nat):(xs.take off++(vs++xs.drop (off+vs.length)))[j]? =if off<=j/\j<off+vs.length then vs[j-off]? else xs[j]? :=by
 have pE:(xs.take off).length=off:=by simp;omega
 by_cases h1:j<off
 ·rw[ag M,nr M,uD,aA h1]
 ·rw[mu M,pE]
  by_cases h2:j-off<vs.length
  ·rw[aA M,nr h2]
  ·rw[ag M,mu M,s9]
   congr 1;omega
theorem GA(L:List dh):a6 L=L.map (·.aF):=by
 induction L with
 |nil=>rfl
 |cons x L ih=>simp[a6,ih]
theorem aez(ak:dn w0 F a1 N s a w){o:Oper}{K:aE->bU->List Nat->Prop}{next:Act->World->Prop}{Q:Exit->Act->World->Prop}(h:pH P w0 F all o s K)(hK:Next P w0 F a1 N all s o a K next):o.wp P a w next Q:=by
 have cw:∀{v:aE} {x:Operand},eval P s.G x=some v->eX s.L.length v/\a.eval x=real (a6 s.L) v:=λhx=>xN ak.env hx
 have newVar:∀(t:TypeId) (v:aE) (m:Sem Value),eX s.L.length v->v.dI.all aE.scalar=true->(∀b,s.b4.heap.size<=b->K (.gU s.L.length 0) {s with L:=s.L++[⟨b,t,v.dI,0⟩]} [])->ml P all o s=false->
   m.run P w= .ok (.pointer (some ⟨w.heap.size,0,none⟩)) (w.alloc (.cells (real (a6 s.L) v).cells t))->o.upon P a next Q ((do pure (.value (<-m)):Sem Go.Next).run P w):=by
  intro t v m ah hs hk hbig hr;obtain⟨f1,f2,_⟩:=zo (β:=a6 s.L) ah;rw[f1] at hr;obtain⟨h1,h2,aw,aZ⟩:=ak.alloc (t:=t) f2 hs;refine sQ hr ?_;have:=hK _ _ [] _ (hk w.heap.size ak.grow.size) aZ (λe=>by rw[hbig] at e;cases e) (λ_=>rfl) h1 (show eX _ (.gU s.L.length 0) by show s.L.length<(s.L++[_]).length;simp);have e:real (a6 (s.L++[⟨w.heap.size,t,v.dI,0⟩])) (.gU s.L.length 0)= .pointer (some ⟨w.heap.size,0,none⟩):=by simp only[real,aw]
  rw[e] at this;exact this
 obtain⟨dst,op,ty,pos,after,guard⟩:=o;unfold Oper.wp;cases op with
 |alloc t=>
  unfold pH at h;simp only[] at h;split at h
  ·rename_i z hz
   obtain⟨tb,hr,sD,zS,_⟩:=Fi hz w;obtain⟨i7,jf⟩:=sD s.L.length (a6 s.L);refine newVar t z (Instr.alloc t true (.tuple #[])) i7 zS h rfl ?_;simp only[Instr.alloc,Sem.run_bind,hr,Result.andThen_ok,jf];rfl
  ·exact h.elim
 |box t x=>
  obtain⟨v,ah,h⟩:=ni h;split at h
  ·exact h.elim
  ·rename_i hs
   refine newVar t v (Instr.box t (a.eval x)) (cw ah).1 hs h rfl ?_;rw[(cw ah).2];rfl
 |buildSlice t n a_=>
  unfold pH at h;simp only[] at h;have afu:∀(e:TypeId) (cs:List aE) (m:Nat),ml P all ⟨dst, .buildSlice t n a_,ty,pos,after,guard⟩ s=true->(Instr.buildSlice t n (a_.map λ(i,x)=>(i,a.eval x))).run P w= .ok (.slice (some ⟨w.heap.size,0,none⟩) m m) (w.alloc (.cells (bx (a6 s.L) cs).toArray e))->
    (∀ad b,cX s.b4 s.aD e (bx (a6 s.L) cs) ad b->ES (a6 s.L) b (K (.cJ (some ⟨b,0,none⟩) m m) (s.at s.L ad) []))->
    Oper.upon P ⟨dst, .buildSlice t n a_,ty,pos,after,guard⟩ a next Q ((execOp a.eval ⟨dst, .buildSlice t n a_,ty,pos,after,guard⟩).run P w):=by
   intro e cs m hbig hr h;have zF:cX s.b4 s.aD e (bx (a6 s.L) cs) (w.alloc (.cells (bx (a6 s.L) cs).toArray e)) w.heap.size:=by
    refine⟨ak.grow.os,ak.grow.tape,ak.grow.output,ak.grow.size,by rw[vW];omega,λj h1 h2=>?_,Be w _⟩;rw[mD _ _ _ (gp h1 ak.grow.size)];exact ak.grow.heap j h1 h2
   have fc:=ak.r5 (w':=w.alloc (.cells (bx (a6 s.L) cs).toArray e)) rfl rfl rfl JD (λj h1 h2=>mD _ _ _ (gp h1 (ek ak.frame.size ak.grow.size))) (λb hb=>by
    obtain⟨k,l,hl,rfl⟩:=q6 hb
    exact mD _ _ _ (Whole.lt (ak.eI k l hl).1)) (λk hk=>mD _ _ _ (ak.hd.lt hk))
   exact sQ hr (hK (.cJ (some ⟨w.heap.size,0,none⟩) m m) (s.at s.L _) [] _ (Ui (h _ _ zF) (KC ak (cL _))) ⟨λk l hl=>⟨l,hl,rfl,cL _,λ_=>rfl,λ_=>rfl,rfl,rfl⟩,⟨[],rfl⟩,rfl⟩ (λ_=>rfl) (λe=>by rw[hbig] at e;cases e) fc trivial)
  split at h
  ·rename_i e cs hb
   have iv:=hb;simp only[k6] at hb;obtain⟨afD,hq,hb⟩:=hb;obtain⟨cq,cA⟩:=Uz ak.env hq;obtain⟨hr,bY,c2⟩:=ajQ (β:=a6 s.L) hb cq (a_.map λ(i,x)=>(i,a.eval x)) (by rw[O4];exact cA) w;split at h
   ·rename_i hp
    refine afu e cs n ?_ hr h;unfold ml;simp only[iv];exact hp
   ·rename_i hp
    obtain⟨h1,h2,aw,aZ⟩:=ak.alloc (t:=e) bY c2;refine sQ hr ?_;have hbig:ml P all ⟨dst, .buildSlice t n a_,ty,pos,after,guard⟩ s=false:=by
     unfold ml;simp only[iv];exact hp
    have:=hK _ _ [] _ (h w.heap.size ak.grow.size) aZ (λe=>by rw[hbig] at e;cases e) (λ_=>rfl) h1 (show eX _ (.rz s.L.length 0 n n) by show s.L.length<(s.L++[_]).length;simp);have e:real (a6 (s.L++[⟨w.heap.size,e,cs,0⟩])) (.rz s.L.length 0 n n)= .slice (some ⟨w.heap.size,0,none⟩) n n:=by simp only[real,aw]
    rw[e] at this;exact this
  ·rename_i iv
   split at h
   ·rename_i e nN hu
    split at h
    ·rename_i es zz
     refine afu e [] 0 (by unfold ml;simp only[iv]) ?_ h;have aoM:a_=#[]:=by apply n1;exact nN
     subst aoM;simp only[Instr.buildSlice,Sem.run_bind,run_underlying hu,Result.andThen_ok,qH zz,Sem.run_ite,Dv];rw[ag M,aA trivial];have bk:∀x:Array Value,Instr.fill (λi=>some (i*es,es)) x []=some x:=λ_=>rfl
     have rn:Array.range 0=#[]:=rfl;simp only[Sem.run_pure,Result.andThen_ok,rn,List.map_toArray,JO,bk];rfl
    ·exact h.elim
   ·exact h.elim
 |convert t d x=>
  obtain⟨v,ah,h⟩:=ni h;have:=akT ak (o:=⟨dst, .convert t d x,ty,pos,after,guard⟩) (Q:=Q) rfl h hK;rw[<-(cw ah).2] at this;exact this
 |makeSlice t iL wb=>
  unfold pH at h;simp only[] at h;split at h
  ·rename_i e ig jZ hu hn hc
   split at h
   ·rename_i es eM z zz x0 hz
    split at h
    ·rename_i sA
     simp only[fR,yY,AT] at sA;obtain⟨⟨cq,cA⟩,vh⟩:=sA;obtain⟨⟨ar,aQ,cH⟩,h⟩:=h;obtain⟨tb,_,sD,zS,i,hi,x5⟩:=Fi hz w;obtain⟨JX,_,_⟩:=zo (β:=[]) (sD 0 []).1;rw[(sD 0 []).2] at JX;obtain⟨eA,acq,x4⟩:=il.1 (show(P.info? e).map (·.size)=some es from zz);obtain rfl:i=eA:=by rw[hi] at acq;exact h9 acq
     obtain⟨i2,zA,Ee⟩:=il.1 (show(P.info? e).map (·.bytes)=some eM from x0);obtain rfl:i=i2:=by rw[hi] at zA;exact h9 zA
     have ab_:jZ<=jZ*eM:=by
      have:jZ*1<=jZ*(eM:Int):=Int.mul_le_mul_of_nonneg_left M M;omega
     have hr:=run_make (P:=P) w t e i tb hu hi x5 .i64 .i64 ig jZ ar aQ (by rw[Ee,Int.mul_comm];omega) M;have D':madeCells tb.cells (jZ.toNat*i.size)=(List.replicate jZ.toNat (bx [] z.dI)).flatten.toArray:=by
      rw[JX,x4,<-vh];have:=aBC (bx [] z.dI) (by rw[rH];omega) jZ.toNat;rw[rH] at this;exact this
     rw[D'] at hr;have aok:Made s.b4 s.aD e es ig.toNat jZ.toNat (bx [] z.dI) (w.alloc (.cells (List.replicate jZ.toNat (bx [] z.dI)).flatten.toArray e)) w.heap.size:=by
      refine⟨ak.grow.os,ak.grow.tape,ak.grow.output,ak.grow.size,by rw[vW];omega,λj h1 h2=>?_,Be w _⟩;rw[mD _ _ _ (gp h1 ak.grow.size)];exact ak.grow.heap j h1 h2
     have fc:=ak.r5 (w':=w.alloc (.cells (List.replicate jZ.toNat (bx [] z.dI)).flatten.toArray e)) rfl rfl rfl JD (λj h1 h2=>mD _ _ _ (gp h1 (ek ak.frame.size ak.grow.size))) (λb hb=>by
      obtain⟨k,l,hl,rfl⟩:=q6 hb
      exact mD _ _ _ (Whole.lt (ak.eI k l hl).1)) (λk hk=>mD _ _ _ (ak.hd.lt hk))
     have e1:Instr.makeSlice t (a.eval iL) (a.eval wb)=Instr.makeSlice t (.int .i64 ig) (.int .i64 jZ):=by rw[(cw hn).2,(cw hc).2];rfl
     rw[<-e1] at hr;exact sQ hr (hK (.cJ (some ⟨w.heap.size,0,none⟩) ig.toNat jZ.toNat) (s.at s.L _) [] _ (Ui (h _ _ aok) (KC ak (cL _))) ⟨λk l hl=>⟨l,hl,rfl,cL _,λ_=>rfl,λ_=>rfl,rfl,rfl⟩,⟨[],rfl⟩,rfl⟩ (λ_=>rfl) (λe=>by cases e) fc trivial)
    ·exact h.elim
   ·exact h.elim
  ·exact h.elim
 |store t uM x=>
  obtain⟨aB,had,h⟩:=ni h;obtain⟨v,ah,h⟩:=ni h;split at h
  ·rename_i m hm
   split at h
   ·rename_i hl
    rw[fR] at hl;obtain⟨hl,hs⟩:=hl;have hl:v.dI.length=m:=uC hl
    ·cases aB with
     |gU k off=>
      simp only[] at h;split at h
      ·rename_i eD l hw pA
       obtain⟨fk,q1,q2,cz⟩:=aBl hw;obtain rfl:l=fk:=by rw[pA] at q1;exact h9 q1
       have tF:=(ak.eI k l pA).1;have adu:w.heap[l.aF]? =some (.cells (bx (a6 s.L) l.cells).toArray l.ty (0,0)):=tF;obtain⟨f1,f2,_⟩:=zo (β:=a6 s.L) (cw ah).1;obtain⟨w',hr,fm⟩:=agy (P:=P) (w:=w) hm (aB:=⟨l.aF,off,none⟩) (o:=0) f1 (by rw[rH];exact hl) (T9 f2 hs) rfl adu (by simp[rH];omega);have hr':(Instr.storeAt t (a.eval uM) (a.eval x)).run P w= .ok () w':=by
        rw[(cw had).2,(cw ah).2];have e:real (a6 s.L) (.gU k off)=vU ⟨l.aF,off,none⟩ 0:=by simp only[real,vU,vZ pA]
        rw[e];exact hr
       have nf:∀j,eD[j]? =if j=k then some {l with cells:=l.cells.take off++(v.dI++l.cells.drop (off+v.dI.length)),gK:=l.gK+1} else s.L[j]? :=λj=>by
        rw[cz];exact Oh pA j
       have RV:a6 eD=a6 s.L:=by
        rw[GA,GA];apply s8;intro j;rw[pV,pV,nf]
        by_cases e:j=k
        ·rw[aA e,e,pA];rfl
        ·rw[ag e]
       have hlen:eD.length=s.L.length:=by
        have:=(nv.1 pA).1;rw[cz];simp;omega
       have D':okvs s.L.length (l.cells.take off++(v.dI++l.cells.drop (off+v.dI.length)))/\(l.cells.take off++(v.dI++l.cells.drop (off+v.dI.length))).all aE.scalar=true:=by
        obtain⟨i7,jf⟩:=ak.cells k l pA;constructor
        ·rw[iz] at*
         intro u hu;simp only[gi] at hu;rcases hu with hu|hu|hu
         ·exact i7 u (kA hu)
         ·exact f2 u hu
         ·exact i7 u (ka hu)
        ·rw[js] at*
         intro u hu;simp only[gi] at hu;rcases hu with hu|hu|hu
         ·exact jf u (kA hu)
         ·exact hs u hu
         ·exact jf u (ka hu)
       have ng:Whole w' l.aF l.ty (bx (a6 s.L) (l.cells.take off++(v.dI++l.cells.drop (off+v.dI.length)))):=by
        obtain⟨fD,bY,c2,c3⟩:=fm.u7;unfold Whole;rw[bY];congr 2;apply n1;apply s8;intro j;rw[uA,c3 j];simp only[ow,l9,xk,AU,gw,AW,List.getElem?_toArray];have:=T0 (l.cells.map (real (a6 s.L))) (v.dI.map (real (a6 s.L))) off (by simpa using q2) j;simp only[gw] at this;rw[this]
       have key:∀aD,(∀b∈aD,b∈a6 s.L)->(∀i,i<s.b4.heap.size->i∉aD->i∉s.aD/\i≠l.aF)->dn w0 F a1 N {s with L:=eD,aD:=aD} a w':=by
        intro aD hD lg;refine⟨?_,ak.size,ak.hd.same (λk hk=>fm.pM k λe=>ak.hd.sL hk adu e) rfl rfl,λj m hj=>?_,λj m hj=>?_,λi j m m' hi hj e=>?_,by show s.nb<=eD.length;rw[hlen];exact ak.nb,λj m hj Eg=>?_,?_,ak.frame,λb hb=>by show b∈a6 eD;rw[RV];exact hD b hb⟩
        ·show jj eD.length (a6 eD) s.G a.tmps
         rw[RV,hlen];exact ak.env
        ·show okvs eD.length _/\_
         rw[hlen];have lX:eD[j]? =some m:=hj;rw[nf] at lX;split at lX
         ·cases lX;exact D'
         ·exact ak.cells j m lX
        ·show Whole w' m.aF m.ty (bx (a6 eD) m.cells)/\_
         rw[RV];have lX:eD[j]? =some m:=hj;rw[nf] at lX;split at lX
         ·cases lX;exact⟨ng,(ak.eI k l pA).2⟩
         ·rename_i hne
          obtain⟨w1,ad⟩:=ak.eI j m lX;refine⟨?_,ad⟩;unfold Whole at*;rw[fm.pM _ λe=>hne (ak.apart j k m l lX pA e)];exact w1
        ·have get:∀(j:Nat) (m:dh),eD[j]? =some m->∃hZ,s.L[j]? =some hZ/\m.aF=hZ.aF:=λj m hj=>by
          rw[nf] at hj;split at hj
          ·rename_i e';cases hj;rw[e'];exact⟨l,pA,rfl⟩
          ·exact⟨m,hj,rfl⟩
         obtain⟨hZ,g1,g2⟩:=get i m hi;obtain⟨fE,g3,g4⟩:=get j m' hj;exact ak.apart i j hZ fE g1 g3 (by rw[<-g2,<-g4,e])
        ·have lX:eD[j]? =some m:=Eg
         rw[nf] at lX;split at lX
         ·rename_i e';cases lX;rw[e'] at hj;exact ak.z' k l hj pA
         ·exact ak.z' j m hj lX
        ·exact⟨fm.os.trans ak.grow.os,fm.tape.trans ak.grow.tape,fm.output.trans ak.grow.output,by rw[fm.size];exact ak.grow.size,λi h1 h2=>by
          obtain⟨aw,aZ⟩:=lg i h1 h2
          rw[fm.pM i aZ];exact ak.grow.heap i h1 aw⟩
       have tK:∀aD,fY s {s with L:=eD,aD:=aD} [k]:=λaD=>⟨λj m hj=>by
        by_cases e:j=k
        ·have GQ:l=m:=by rw[e,pA] at hj;exact h9 hj
         refine⟨_,(nf j).trans (aA e),by rw[<-GQ],by rw[<-GQ];exact F5 _,λe2=>?_,λe2=>absurd (gg.2 e) e2,by rw[<-GQ],by rw[<-GQ];simp;omega⟩;rw[<-GQ] at e2;exact absurd e2 aS
        ·exact⟨m,by show eD[j]? =_;rw[nf,ag e];exact hj,rfl,cL _,λ_=>rfl,λ_=>rfl,rfl,rfl⟩,⟨[],rfl⟩,rfl⟩
       have hbig:ml P all ⟨dst, .store t uM x,ty,pos,after,guard⟩ s=false:=by unfold ml;simp only[had]
       show Oper.upon P _ a next Q ((do Instr.storeAt t (a.eval uM) (a.eval x);pure .skip:Sem Go.Next).run P w)
       rw[Sem.run_bind,hr'];have aDg:real (a6 eD) (.j' [])=undef:=rfl;split at h
       ·rename_i hlt
        exact hK (.j' []) {s with L:=eD,aD:=l.aF::s.aD} [k] w' h (tK _) (λe=>by rw[hbig] at e;cases e) (λ_=>rfl)
         (key _ (λb hb=>by rcases e7.1 hb with rfl|hb;exact T8 pA;exact ak.sc b hb) (λi h1 h2=>⟨λe=>h2 (jt _ e),λe=>h2 (by rw[e];exact kB ..)⟩)) trivial
       ·rename_i hlt
        have qn:s.nb<=k:=by
         rcases h8 k s.nb with h'|h'
         ·rw[<-yY] at h';rw[h'] at hlt;cases hlt
         ·exact h'
        exact hK (.j' []) {s with L:=eD} [k] w' h (tK _) (λe=>by rw[hbig] at e;cases e) (λ_=>rfl)
         (key _ ak.sc (λi h1 h2=>⟨h2,λe=>by have:=ak.z' k l qn pA;omega⟩)) trivial
      ·exact h.elim
     |aY aB yt=>
      obtain⟨⟨h1,h2⟩,aw⟩:=h;show Oper.upon P _ a next Q ((do Instr.storeAt t (a.eval uM) (a.eval x);pure .skip:Sem Go.Next).run P w)
      rw[(cw had).2,(cw ah).2];exact ahe ak (adL rfl had hF) hm (cw ah).1 hs hl h1 h2 aw hK
     |ptr p=>
      obtain⟨aB,rfl,⟨h1,h2⟩,aw⟩:=h;show Oper.upon P _ a next Q ((do Instr.storeAt t (a.eval uM) (a.eval x);pure .skip:Sem Go.Next).run P w)
      rw[(cw had).2,(cw ah).2];exact ahe ak (adL rfl had hF) hm (cw ah).1 hs hl h1 h2 aw hK
     |_=>exact h.elim
   ·exact h.elim
  ·exact h.elim
 |call c=>
  obtain⟨callee,args,jF⟩:=c;cases callee with
  |value f=>
   unfold pH at h;simp only[] at h;split at h
   ·rename_i g first cap vs bk hvs
    obtain⟨hE,iQ⟩:=xO ak.env hvs;have fU:args.map a.eval=(bx (a6 s.L) vs).toArray:=by apply n1;simpa using iQ
    have e:((execOp a.eval ⟨dst, .call ⟨.value f,args,jF⟩,ty,pos,after,guard⟩).run P w)=(callFunc g (bx (a6 s.L) (first++vs++cap)).toArray).run P w:=by
     have:(bx (a6 s.L) (first++vs++cap)).toArray=(bx (a6 s.L) first).toArray++(bx (a6 s.L) vs).toArray++(bx (a6 s.L) cap).toArray:=by
      apply n1;simp[ow]
     rw[this];simp only[execOp,resolve,fU,(cw bk).2,real,Deferred.ofValue,Sem.run_bind,Sem.run_pure,Result.andThen_ok,invoke]
    rw[e];exact akp ak rfl h hK
   ·exact h.elim
  |builtin b=>
   cases b with
   |copy=>
    unfold pH at h;simp only[] at h;split at h
    ·rename_i t u x y B1 hvs
     obtain⟨hE,iQ⟩:=xO ak.env hvs;have fU:args.map a.eval=(bx (a6 s.L) [x,y]).toArray:=by apply n1;simpa using iQ
     have kf:jF=#[t,u]:=by apply n1;exact B1
     have e:((execOp a.eval ⟨dst, .call ⟨.builtin .copy,args,jF⟩,ty,pos,after,guard⟩).run P w)=((do pure (.value (<-Builtin.copy_ #[t,u] ty #[real (a6 s.L) x,real (a6 s.L) y])):Sem Go.Next).run P w):=by
      simp only[execOp,resolve,fU,kf,Sem.run_bind,Sem.run_pure,Result.andThen_ok,invoke,Go.builtin,bx]
     rw[e];exact akV ak rfl ty h hK
    ·exact h.elim
   |append=>
    unfold pH at h;simp only[] at h;split at h
    ·rename_i t u x y B1 hvs
     split at h
     ·rename_i Ti
      have Ti:t=u:=uC Ti;subst Ti;obtain⟨hE,iQ⟩:=xO ak.env hvs;have fU:args.map a.eval=(bx (a6 s.L) [x,y]).toArray:=by apply n1;simpa using iQ
      have kf:jF=#[t,t]:=by apply n1;exact B1
      have e:((execOp a.eval ⟨dst, .call ⟨.builtin .append,args,jF⟩,ty,pos,after,guard⟩).run P w)=((do pure (.value (<-Builtin.append_ #[t,t] ty #[real (a6 s.L) x,real (a6 s.L) y])):Sem Go.Next).run P w):=by
       simp only[execOp,resolve,fU,kf,Sem.run_bind,Sem.run_pure,Result.andThen_ok,invoke,Go.builtin,bx]
      rw[e];exact ajo ak rfl ty h hK
     ·exact h.elim
    ·exact h.elim
   |delete=>
    unfold pH at h;simp only[] at h;split at h
    ·rename_i t u m n B1 hvs
     obtain⟨hE,iQ⟩:=xO ak.env hvs;have fU:args.map a.eval=(bx (a6 s.L) [m, .int .i64 n]).toArray:=by apply n1;simpa using iQ
     have kf:jF=#[t,u]:=by apply n1;exact B1
     refine V2 ak rfl h hK λe b l he hm hb=>?_
     subst hm;obtain⟨w',hr,hs⟩:=alh (ty:=ty) (jF:=jF) he (by rw[kf];rfl) n hb;refine⟨w',_,hs,hs,λhn=>?_⟩;have e1:((execOp a.eval ⟨dst, .call ⟨.builtin .delete,args,jF⟩,ty,pos,after,guard⟩).run P w)=((do pure (.value (<-Builtin.delete_ jF ty #[.map (some b), .int .i64 n])):Sem Go.Next).run P w):=by
      simp only[execOp,resolve,fU,Sem.run_bind,Sem.run_pure,Result.andThen_ok,invoke,Go.builtin,bx,real]
     rw[e1];exact sQ hr hn
    ·exact h.elim
   |clear=>
    unfold pH at h;simp only[] at h;split at h
    ·rename_i t m B1 hvs
     obtain⟨hE,iQ⟩:=xO ak.env hvs;have fU:args.map a.eval=(bx (a6 s.L) [m]).toArray:=by apply n1;simpa using iQ
     have kf:jF=#[t]:=by apply n1;exact B1
     refine V2 ak rfl h hK λe b l he hm hb=>?_
     subst hm;obtain⟨w',hr,hs⟩:=akI (ty:=ty) (jF:=jF) he (by rw[kf];rfl) hb;refine⟨w',_,hs,hs,λhn=>?_⟩;have e1:((execOp a.eval ⟨dst, .call ⟨.builtin .clear,args,jF⟩,ty,pos,after,guard⟩).run P w)=((do pure (.value (<-Builtin.clear_ jF ty #[.map (some b)])):Sem Go.Next).run P w):=by
      simp only[execOp,resolve,fU,Sem.run_bind,Sem.run_pure,Result.andThen_ok,invoke,Go.builtin,bx,real]
     rw[e1];exact sQ hr hn
    ·exact h.elim
   |_=>exact h.elim
  |_=>exact h.elim
 |makeMap t r=>
  cases r with
  |none=>
   unfold pH at h;simp only[] at h;split at h
   ·obtain⟨hr,hn⟩:=aqZ (P:=P) (w:=w) (t:=t)
    exact sQ hr (hK (.val (.map (some w.heap.size))) (s.at s.L _) [] _ (h w ak.grow.grow _ _ hn) Uf (λ_=>rfl) (λe=>by cases e) ak.avP rfl)
   ·exact h.elim
  |some r=>exact h.elim
 |mapUpdate t m k v=>
  unfold pH at h;simp only[] at h;split at h
  ·rename_i arc n hm hk ah
   refine V2 ak rfl h hK λe b l he zI hb=>?_
   subst zI;obtain⟨w',hr,hs⟩:=aq0 he n hb;refine⟨w',_,hs,hs,λhn=>?_⟩;have e1:Instr.mapUpdate t (a.eval m) (a.eval k) (a.eval v)=Instr.mapUpdate t (.map (some b)) (.int .i64 n) (.bool true):=by rw[(cw hm).2,(cw hk).2,(cw ah).2];rfl
   rw[<-e1] at hr;show Oper.upon P _ a next Q ((do Instr.mapUpdate t (a.eval m) (a.eval k) (a.eval v);pure .skip:Sem Go.Next).run P w)
   rw[Sem.run_bind,hr];exact hn
  ·exact h.elim
 |lookup t m k c=>
  cases c with
  |true=>exact h.elim
  |false=>
   unfold pH at h;simp only[] at h;split at h
   ·rename_i e arc n he hm hk
    obtain⟨b,l,rfl,hb,hx⟩:=agV (h w ak.grow.grow);have hr:=aqM (P:=P) (w:=w) he n hb;have e1:Instr.lookup t (a.eval m) (a.eval k) false=Instr.lookup t (.map (some b)) (.int .i64 n) false:=by rw[(cw hm).2,(cw hk).2];rfl
    rw[<-e1] at hr;exact sQ hr (hK (.bool (.ok (l.contains n))) (s.at s.L w) [] _ (hx _ rfl) Uf (λ_=>rfl) (λe=>by cases e) ak.again trivial)
   ·exact h.elim
 |_=>exact h.elim
end Go.Sy
namespace Go.Sy
open Go.RowKit (Below)
variable[k7]
variable{P:Program}{w0:World}{F:Nat->Prop}{a1:List (Nat×Obj)}{N:Nat}{s:bU}{a:Act}{w:World}
theorem fY.trans{s bX aX:bU}{bY c2:List Nat}(h:fY s bX bY)(k:fY bX aX c2):fY s aX (bY++c2):=⟨λj l hl=>by
 obtain⟨bM,dd,a2,a3,a4,a5,iG,nC⟩:=h.dT j l hl;obtain⟨bq,b1,b2,b3,p8,xC,zb,nF⟩:=k.dT j bM dd
 exact⟨bq,b1,b2.trans a2,ek a3 b3,λe=>by rw[p8 M,a4 M],λhn=>by
  rw[xC λhm=>hn (vJ _ hm),a5 λhm=>hn (pd _ hm)],zb.trans iG,nF.trans nC⟩,by
 obtain⟨bM,e1⟩:=h.cZ;obtain⟨bq,e2⟩:=k.cZ
 exact⟨bq++bM,by rw[e2,e1,ju]⟩,k.wS.trans h.wS⟩
theorem fY.CN{s s':bU}(h:s'.L=s.L/\s'.bj=s.bj/\s'.a1=s.a1)(aV:List Nat):fY s s' aV:=⟨λ_ l hl=>⟨l,by rw[h.1];exact hl,rfl,cL _,λ_=>rfl,λ_=>rfl,rfl,rfl⟩,⟨[],by rw[h.2.1];rfl⟩,h.2.2⟩
theorem afz(s:bU)(d:Option Tmp)(v:aE):(s.put d v).L=s.L:=by cases d<;>rfl
theorem UJ(s:bU)(d:Option Tmp)(v:aE):(s.put d v).L=s.L/\(s.put d v).bj=s.bj/\(s.put d v).a1=s.a1:=by cases d<;>exact⟨rfl,rfl,rfl⟩
theorem afA(s:bU)(d:Option Tmp)(v:aE):(s.put d v).b4=s.b4:=by cases d<;>rfl
def jQ(s s':bU):Prop:=∃G,s'={s with G:=G}
theorem jQ.L{s s':bU}(h:jQ s s'):s'.L=s.L:=by obtain⟨G,rfl⟩:=h;rfl
theorem jQ.Gq{s s':bU}(h:jQ s s'):s'.L=s.L/\s'.bj=s.bj/\s'.a1=s.a1:=by obtain⟨G,rfl⟩:=h;exact⟨rfl,rfl,rfl⟩
theorem abn(ak:dn w0 F a1 N s a w){d:Tmp}{K:hM->Bool->Prop}(h:Ln s.G d K):∃G b,K G b/\jj s.L.length (a6 s.L) G a.tmps/\G.at d=some (.lit b)/\a.tmps.getD d undef= .bool b:=by
 unfold Ln at h;split at h
 ·rename_i b hb
  exact⟨s.G,b,h,ak.env,hb,(ak.env d _ hb).2⟩
 ·rename_i e he
  have ah:=(ak.env d _ he).2;refine bL.split h (λht hk=>?_) (λht hk=>?_)
  ·exact⟨_,true,hk,ak.env.tW he ht,by rw[za,aA rfl],by rw[ah,real,ht]⟩
  ·exact⟨_,false,hk,ak.env.tW he ht,by rw[za,aA rfl],by rw[ah,real,ht]⟩
 ·exact h.elim
theorem aA0{b want:Bool}{K:Bool->Prop}(h:ahS b want K):K (b==want):=by
 cases b<;>cases want<;>exact h
theorem RF(ak:dn w0 F a1 N s a w){all:Array Oper}{o:Oper}{K:bU->Bool->Prop}(h:Ha all.toList o s K):∃s' b,K s' b/\dn w0 F a1 N s' a w/\Region.wanted o (yielded all a.tmps)=b/\jQ s s':=by
 unfold Ha at h;split at h
 ·rename_i hg
  exact⟨s,true,h,ak,by simp[Region.wanted,hg],s.G,rfl⟩
 ·rename_i j want hg
  split at h
  ·rename_i vr hj
   split at h
   ·rename_i d hd
    have nK:(all[j]?).bind (·.dst)=some d:=by
     have:all[j]? =some vr:=by rw[<-uA];exact hj
     rw[this];exact hd
    have apk:∀v,a.tmps.getD d undef=v->v≠undef->a.tmps[d]? =some v:=λv ah hne=>by
     rw[O'] at ah;cases hx:a.tmps[d]? with
     |none=>rw[hx] at ah;exact absurd ah.symm hne
     |some u=>rw[hx] at ah;simp only[O6] at ah;rw[ah]
    split at h
    ·rename_i ht
     have ah:=(ak.env d _ ht).2;refine⟨s,false,h,ak,?_,s.G,rfl⟩;unfold Region.wanted;rw[hg];simp only[];unfold yielded;rw[nK];simp only[Option.bind_some];cases hx:a.tmps[d]? with
     |none=>simp
     |some u=>
      rw[O',hx] at ah;simp only[O6,real,bx] at ah;rw[ah];simp
    ·obtain⟨G,b,hk,ez,_,hb⟩:=abn ak h
     refine⟨{s with G:=G},b==want,aA0 hk,ak.ahX ez,?_,G,rfl⟩;have hx:=apk _ hb (by simp[undef]);unfold Region.wanted;rw[hg];simp only[];unfold yielded;rw[nK];simp only[Option.bind_some,hx];cases b<;>cases want<;>rfl
   ·exact h.elim
  ·exact h.elim
theorem afl(ak:dn w0 F a1 N s a w){o:Op}{K:bU->Prop}(h:Nn o s K):∃s',K s'/\dn w0 F a1 N s' a w/\jQ s s':=by
 unfold Nn at h;split at h
 ·obtain⟨G,b,hk,ez,_,_⟩:=abn ak h
  exact⟨_,hk,ak.ahX ez,G,rfl⟩
 ·exact⟨s,h,ak,s.G,rfl⟩
def iT(G:Nat->Prop)(a b6:Act):Prop:=∀t,¬G t->b6.tmps.getD t undef=a.tmps.getD t undef
theorem iT.refl(G:Nat->Prop)(a:Act):iT G a a:=λ_ _=>rfl
theorem iT.trans{G:Nat->Prop}{a b c:Act}(h:iT G a b)(k:iT G b c):iT G a c:=λt ht=>(k t ht).trans (h t ht)
theorem iT.mono{G er:Nat->Prop}{a b:Act}(h:iT G a b)(hu:∀t,G t->er t):iT er a b:=λt ht=>h t λez=>ht (hu t ez)
theorem iT.put{G:Nat->Prop}(a:Act){d:Option Tmp}(hd:∀t,d=some t->G t)(v:Value):iT G a (a.put d v):=by
 intro t ht;cases d with
 |none=>rfl
 |some d=>
  have hne:d≠t:=λe=>ht (hd t (by rw[e]))
  simp[Act.put,Dq hne]
def Kf(os:List Oper)(t:Nat):Prop:=∃o∈os,o.dst=some t
theorem afe{all:Array Oper}{Q:Exit->Act->World->Prop}:∀(l:List Oper) (s:bU) (a:Act) (w:World) (K:bU->Prop),(∀o∈l,∀d,o.dst=some d->d<N)->dn w0 F a1 N s a w->kj P w0 F all.toList l s K->
  (∀s' b6 w',K s'->dn w0 F a1 N s' b6 w'->(∃aV,fY s s' aV)->iT (Kf l) a b6->Q .normal b6 w')->wpList P all Q l a w
 |[],s,a,w,K,_,ak,h,xW=>xW s a w h ak ⟨[],fY.refl s []⟩ (iT.refl _ _)
 |o::rest,s,a,w,K,hd,ak,h,xW=>by
  obtain⟨bX,b,h,H1,hw,hl⟩:=RF ak h;refine wpList_step λqV hK'=>?_
  have UZ:∀(aX:bU) (v:aE) (ad:World) (aV:List Nat),dn w0 F a1 N aX a ad->eX aX.L.length v->fY bX aX aV->kj P w0 F all.toList rest (aX.put o.dst v) K->qV (a.put o.dst (real (a6 aX.L) v)) ad:=by
   intro aX v ad aV lN ah hm h2;refine hK' _ _ (afe rest _ _ _ K (λo' SI=>hd o' (by simp[SI])) (lN.put (λd u6=>hd o aS d u6) ah) h2 λs' b6 w' a8 aK k3 k4=>xW s' b6 w' a8 aK ?_ ((iT.put a (λt ht=>⟨o,by simp,ht⟩) _).trans (k4.mono λt ⟨o',h1,h2⟩=>⟨o',by simp[h1],h2⟩)));obtain⟨aaj,k3⟩:=k3;exact⟨_,((fY.CN hl.Gq []).trans hm).trans ((fY.CN (s':=aX.put o.dst v) (UJ _ _ _) []).trans k3)⟩
  cases b with
  |false=>
   rw[ag (by rw[hw];simp)];exact UZ bX (.j' []) w [] H1 trivial (fY.refl _ _) h
  |true=>
   rw[aA hw];simp only[] at h;unfold ags at h;split at h
   ·obtain⟨aX,h,lN,oV⟩:=afl H1 h
    obtain⟨v,s3,v2,v3,v4⟩:=aad (P:=P) (o:=o) lN.env lN.cells h;unfold Oper.wp;rw[v4 w (lN.ua v3)];exact UZ aX v w [] lN s3 (fY.CN oV.Gq []) v2
   ·refine aez H1 h ?_
    intro v aX aV ad hk hm _ _ lN ah;exact UZ aX v ad aV lN ah hm hk
end Go.Sy
namespace Go.Sy
open Go.RowKit (Below)
variable[k7]
variable{P:Program}{w0:World}{F:Nat->Prop}{a1:List (Nat×Obj)}{N:Nat}
abbrev xp:=List (Nat×(World->Prop))
def alive(all:Array Oper)(i:Nat)(gj:xp):xp:=gj.filter λf=> !Abs.k_ (Abs.je all) f.1 i
def rS(P:Program)(all:Array Oper)(Q:Exit->Act->World->Prop):xp->Nat->Array Bool->Act->World->Prop
 |_,0,listed,a,w=>Region.ready .any all listed=[]/\Q .normal a w
 |gj,n+1,listed,a,w=>(Region.ready .any all listed=[]->Q .normal a w)/\
  ∀i∈Region.ready .any all listed,wpOp P all Q i (λb6 w'=>(∀f∈gj,f.2 w->Abs.k_ (Abs.je all) f.1 i=false->f.2 w')/\rS P all Q (alive all i gj) n (listed.setIfInBounds i true) b6 w') a w
variable{all:Array Oper}{Q:Exit->Act->World->Prop}
theorem ahZ:∀(n:Nat) (gj:xp) (listed:Array Bool) (a:Act) (w:World),rS P all Q gj n listed a w->wpAny P .any all Q n listed a w
 |0,_,_,_,_,h=>h
 |n+1,_,_,_,_,h=>⟨h.1,λi hi=>wpOp_mono (λb6 w' h'=>ahZ n _ _ b6 w' h'.2) (h.2 i hi)⟩
theorem ahY:∀(n:Nat) (gj Kh:xp) (listed:Array Bool) (a:Act) (w:World),(∀f∈Kh,f∈gj)->rS P all Q gj n listed a w->rS P all Q Kh n listed a w
 |0,_,_,_,_,_,_,h=>h
 |n+1,gj,Kh,_,_,_,hs,h=>⟨h.1,λi hi=>wpOp_mono (λb6 w' h'=>⟨λf bk=>h'.1 f (hs f bk),ahY n (alive all i gj) (alive all i Kh) _ b6 w' (λf bk=>by
   unfold alive at*;rw[JQ] at*
   exact⟨hs f bk.1,bk.2⟩) h'.2⟩) (h.2 i hi)⟩
def A6(all:Array Oper)(listed:Array Bool):Prop:=Abs.YU all (λj=>listed.getD j false=true)
theorem A6.next{listed:Array Bool}(h:A6 all listed){i:Nat}(hi:i∈Region.ready .any all listed):A6 all (listed.setIfInBounds i true):=by
 intro j o hj hl e he hb;obtain⟨aW,yu,aoA,nK⟩:=mem_ready.1 hi
 by_cases tI:j=i
 ·subst tI
  obtain rfl:yu=o:=by rw[aoA] at hj;exact h9 hj
  exact getD_set_true (nK e he hb)
 ·rw[getD_set_ne false (xe tI)] at hl
  exact getD_set_true (h j o hj hl e he hb)
theorem A6.ars{listed:Array Bool}(h:A6 all listed){i j:Nat}(hj:j∈Region.ready .any all listed)(hi:i∈Region.ready .any all listed):Abs.k_ (Abs.je all) i j=false:=by
 cases ha:Abs.k_ (Abs.je all) i j with
 |false=>rfl
 |true=>
  obtain⟨_,o,ho,nK⟩:=mem_ready.1 hj;have:=Abs.ajk h j i o ho nK ha;have aW:=(mem_ready.1 hi).1;rcases h8 i listed.size with h'|h'
  ·simp[h'] at aW this;rw[aW] at this;cases this
  ·simp[Dt h'] at this
theorem aA7{i:Nat}{yu:Oper}{v:Value}{S:World->Prop}(hi:all[i]? =some yu)(Ew:∀(j:Nat) (o:Oper) cs b,all[j]? =some o->o.op≠ .select cs b)
  (xW:∀c a w,Q (.panic c) (a.put yu.dst v) w->Q (.panic c) a w):
  ∀(n:Nat) (gj:xp) (listed:Array Bool) (a:Act) (w:World),A6 all listed->
   (∀j vr,all[j]? =some vr->j≠i->listed.getD j true=false->(∀e∈vr.after,Region.binds .any e=true->e.on≠i)->yu.apart all vr=true)->
   i∈Region.ready .any all listed->YieldsIf P all S yu v a->S w->
   rS P all Q ((i,S)::gj) n (listed.setIfInBounds i true) (a.put yu.dst v) w->rS P all Q gj (n+1) listed a w:=by
 intro n
 induction n with
 |zero=>
  intro gj listed a w kh _ hr hy hS ak;refine⟨λh=>(by rw[h] at hr;cases hr),λj hj=>?_⟩
  by_cases tI:j=i
  ·subst tI;exact hy.wpOp hi hS ⟨λf _ bk _=>bk,ak⟩
  ·have:=ready_mono hj tI
   rw[ak.1] at this;cases this
 |succ n ih=>
  intro gj listed a w kh wy hr hy hS ak;refine⟨λh=>(by rw[h] at hr;cases hr),λj hj=>?_⟩
  by_cases tI:j=i
  ·subst tI
   refine hy.wpOp hi hS ⟨λf _ bk _=>bk,ahY _ _ _ _ _ _ (λf bk=>?_) ak⟩;unfold alive at bk;rw[JQ] at bk;exact jt _ bk.1
  ·have h1:=ak.2 j (ready_mono hj tI)
   obtain⟨acr,vr,SK,nK⟩:=mem_ready.1 hj;have SH:∀e∈vr.after,Region.binds .any e=true->e.on≠i:=λe he hb anB=>by
    have h1:=nK e he hb;have aW:=(mem_ready.1 hr).1;rw[anB] at h1;rcases h8 i listed.size with h'|h'
    ·simp[h'] at aW h1;rw[aW] at h1;cases h1
    ·simp[Dt h'] at h1
   have acL:Abs.k_ (Abs.je all) i j=false:=kh.ars hj hr;have h2:=wpOp_putIf SK (wy j vr SK tI acr SH) (λcs b=>Ew i yu cs b hi) (λcs b=>Ew j vr cs b SK) xW hy h1;have anJ:∀k ok,all[k]? =some ok->k≠i->(listed.setIfInBounds j true).getD k true=false->
     (∀e∈ok.after,Region.binds .any e=true->e.on≠i)->yu.apart all ok=true:=λk ok hk an2 adn SG=>by
    refine wy k ok hk an2 ?_ SG
    by_cases LZ:j=k
    ·subst LZ;exact acr
    ·rw[getD_set_ne true LZ] at adn;exact adn
   refine wpOp_mono (λb6 w' aw=>⟨λf bk=>aw.2.1 f (jt _ bk),ih (alive all j gj) (listed.setIfInBounds j true) b6 w' (kh.next hj) anJ (ready_mono hr (xe tI)) aw.1 (aw.2.1 (i,S) (kB ..) hS acL) ?_⟩) h2;have aZ:=aw.2.2;have e:alive all j ((i,S)::gj)=(i,S)::alive all j gj:=by
    unfold alive;rw[List.filter_cons,aA (by rw[acL];rfl)]
   rw[e,Array.setIfInBounds_comm _ _ (xe tI)] at aZ
   first|exact aZ|(rw[Array.setIfInBounds_comm _ _ tI];exact aZ)
def lO(R:Act->World->Prop):Exit->Act->World->Prop
 | .normal,a,w=>R a w
 |_,_,_=>False
def vT(s:bU)(p:po)(f:Nat×(World->Prop)):Prop:=p.i=f.1/\match p.own,p.dT with
 |some k,_=>∃l,s.L[k]? =some l/\okvs s.L.length l.cells/\∀w,Whole w l.aF l.ty (bx (a6 s.L) l.cells)->f.2 w
 |none,some (a,o,vs)=>∀w,At w a o vs->f.2 w
 |none,none=>False
def DG(s:bU)(a_:List po)(gj:xp):Prop:=∀f∈gj,(∀w,f.2 w)∨∃p∈a_,vT s p f
theorem vT.z6{s s':bU}(h:s'.L=s.L){p:po}{f:Nat×(World->Prop)}(k:vT s p f):vT s' p f:=by
 unfold vT at*;rw[h];exact k
theorem DG.z6{s s':bU}(h:s'.L=s.L){a_:List po}{gj:xp}(k:DG s a_ gj):DG s' a_ gj:=λf bk=>(k f bk).imp id λ⟨p,h1,h2⟩=>⟨p,h1,h2.z6 h⟩
theorem FF{ms:List Nat}{i:Nat}{lB:Bool}{aV aD:List Nat}{w:World}:∀{a_:List po} {Q:Prop},w4 ms i lB aV aD w a_ Q->Q/\∀p∈a_,Abs.k_ ms p.i i=false->
  match p.own,p.dT with
  |some k,_=>k∉aV
  |none,some (a,o,vs)=>(lB=true->At w a o vs)/\(lB=false->a.block∉aD)
  |none,none=>True
 |[],Q,h=>⟨h,λp hp=>by cases hp⟩
 |p::a_,Q,h=>by
  unfold w4 at h;split at h
  ·rename_i ha
   obtain⟨h1,h2⟩:=FF h;refine⟨h1,λq hq hn=>?_⟩;rcases e7.1 hq with rfl|hq
   ·rw[ha] at hn;cases hn
   ·exact h2 q hq hn
  ·split at h
   ·rename_i k hk
    split at h
    ·exact h.elim
    ·rename_i hc
     obtain⟨h1,h2⟩:=FF h;refine⟨h1,λq hq hn=>?_⟩;rcases e7.1 hq with rfl|hq
     ·rw[hk];simpa using hc
     ·exact h2 q hq hn
   ·rename_i hk
    split at h
    ·rename_i a o vs ho
     cases lB with
     |true=>
      obtain⟨aW,h⟩:=h;obtain⟨h1,h2⟩:=FF h;refine⟨h1,λq hq hn=>?_⟩;rcases e7.1 hq with rfl|hq
      ·rw[hk,ho];exact⟨λ_=>aW,λe=>absurd e aS⟩
      ·exact h2 q hq hn
     |false=>
      obtain⟨aW,h⟩:=M4 h;obtain⟨h1,h2⟩:=FF h;refine⟨h1,λq hq hn=>?_⟩;rcases e7.1 hq with rfl|hq
      ·rw[hk,ho];exact⟨λe=>absurd e aS,λ_=>aW⟩
      ·exact h2 q hq hn
    ·rename_i ho
     obtain⟨h1,h2⟩:=FF h;refine⟨h1,λq hq hn=>?_⟩;rcases e7.1 hq with rfl|hq
     ·rw[hk,ho];trivial
     ·exact h2 q hq hn
theorem Rs{l:List Oper}:∀{g_:List Nat} {i:Nat},G0 P l g_=some i->i∈g_/\∃o,l[i]? =some o/\QB P o.op=true
 |[],i,h=>by cases h
 |j::aDw,i,h=>by
  unfold G0 at h;split at h
  ·rename_i o ho
   split at h
   ·rename_i hc
    cases h;exact⟨kB ..,o,ho,hc⟩
   ·obtain⟨h1,h2⟩:=Rs h
    exact⟨jt _ h1,h2⟩
  ·obtain⟨h1,h2⟩:=Rs h
   exact⟨jt _ h1,h2⟩
theorem aks{s:bU}{a:Act}{w:World}{o:Oper}{i:Nat}{v:aE}{q:po}(ak:dn w0 F a1 N s a w)(hp:IW P i o.op s v=some q)(hl:TI o.op=true)(bk:wk P s o.op v):vT s q (i,ua P s o.op v):=by
 obtain⟨dst,op,ty,pos,after,guard⟩:=o;cases op with
 |load t x=>
  simp only[IW] at hp;simp only[wk] at bk;split at hp
  ·rename_i k o hx
   cases hp;rw[hx] at bk;obtain⟨l,h1,h2,aw⟩:=bk;refine⟨rfl,l,h1,(ak.cells k l h1).1,λw hw=>?_⟩;simp only[ua,hx,NH];exact At.own h1 hw aw
  ·rename_i aB o hx
   cases hp;refine⟨rfl,λw hw=>?_⟩;simp only[ua,hx,NH];exact hw
  ·cases hp
 |_=>cases hl
theorem arV{s:bU}{o:Oper}{i:Nat}{v:aE}{q:po}(hp:IW P i o.op s v=some q)(bk:wk P s o.op v)(hn:q.own=none){aB:Addr}{yt:Nat}{vs:List Value}(ho:q.dT=some (aB,yt,vs)):At s.b4 aB yt vs:=by
 obtain⟨dst,op,ty,pos,after,guard⟩:=o;cases op with
 |load t x=>
  simp only[IW] at hp;simp only[wk] at bk;split at hp
  ·cases hp;cases hn
  ·rename_i iH o' hx
   cases hp;rw[hx] at bk;cases ho;exact bk.2
  ·cases hp
 |_=>cases hp;cases ho
theorem awc{s s':bU}{a:Act}{w':World}(pj:dn w0 F a1 N s' a w'){aV:List Nat}(hm:fY s s' aV){p:po}{f:Nat×(World->Prop)}(h:vT s p f){lB:Bool}(hb1:lB=true->s'.aD=[])(kN:lB=false->s'.b4=s.b4)(hw:lB=false->∀a o vs,p.own=none->p.dT=some (a,o,vs)->At s.b4 a o vs)
  (hs:match p.own,p.dT with
   |some k,_=>k∉aV
   |none,some (a,o,vs)=>(lB=true->At s'.b4 a o vs)/\(lB=false->a.block∉s'.aD)
   |none,none=>True):vT s' p f/\f.2 w'/\(∀a o vs,p.own=none->p.dT=some (a,o,vs)->At s'.b4 a o vs):=by
 obtain⟨hi,h⟩:=h;have hal:y2 s.L.length (a6 s.L) (a6 s'.L):=Ko λk l hl=>by
  obtain⟨l',h1,h2,_⟩:=hm.dT k l hl;exact⟨l',h1,h2⟩
 cases ho:p.own with
 |some k=>
  rw[ho] at h hs;simp only[] at h hs;obtain⟨l,hl,fc,bk⟩:=h;obtain⟨l',q1,_,_,_,eB,_⟩:=hm.dT k l hl;obtain rfl:=eB hs;have hr:bx (a6 s'.L) l'.cells=bx (a6 s.L) l'.cells:=vv hal _ fc;refine⟨⟨hi,?_⟩,bk w' (by rw[<-hr];exact(pj.eI k l' q1).1),λ_ _ _ e=>by cases e⟩;rw[ho];exact⟨l',q1,(pj.cells k l' q1).1,λw hw=>bk w (by rw[<-hr];exact hw)⟩
 |none=>
  rw[ho] at h hs;cases hold:p.dT with
  |none=>rw[hold] at h;exact h.elim
  |some x=>
   obtain⟨aB,o,vs⟩:=x;rw[hold] at h hs;simp only[] at h hs;have dB:At s'.b4 aB o vs/\aB.block∉s'.aD:=by
    cases hbig:lB with
    |true=>exact⟨hs.1 hbig,by rw[hb1 hbig];simp⟩
    |false=>exact⟨by rw[kN hbig];exact hw hbig aB o vs ho hold,hs.2 hbig⟩
   refine⟨⟨hi,by rw[ho,hold];exact h⟩,h w' (dB.1.grown pj.grow dB.2),λb6 o' w9 _ e=>?_⟩;cases e;exact dB.1
end Go.Sy
namespace Go.Sy
open Go.RowKit (Below)
variable[k7]
variable{P:Program}{w0:World}{F:Nat->Prop}{a1:List (Nat×Obj)}{N:Nat}
variable{all:Array Oper}
def PS(s:bU)(a_:List po):Prop:=∀p∈a_,p.own=none->∀a o vs,p.dT=some (a,o,vs)->At s.b4 a o vs
theorem alm(Ew:Region.noSelect all=true)(hd:∀o∈all.toList,∀d,o.dst=some d->d<N){R:Act->World->Prop}:
  ∀(n:Nat) (listed:Array Bool) (dC:List po) (gj:xp) (s:bU) (a:Act) (w:World) (K:bU->Prop),A6 all listed->DG s dC gj->PS s dC->dn w0 F a1 N s a w->
   rf P w0 F all (Abs.je all) n listed dC s K->(∀s' b6 w',K s'->dn w0 F a1 N s' b6 w'->(∃aV,fY s s' aV)->iT (Kf all.toList) a b6->R b6 w')->rS P all (lO R) gj n listed a w:=by
 have kO:∀(i:Nat) (o:Oper),all[i]? =some o->o∈all.toList:=λi o ho=>by
  have:all.toList[i]? =some o:=by rw[uA];exact ho
  exact uE this
 have LS:∀(i:Nat) (o:Oper),all[i]? =some o->∀d,o.dst=some d->d<N:=λi o ho=>hd o (kO i o ho)
 intro n
 induction n with
 |zero=>
  intro listed dC gj s a w K _ _ _ ak h hR;unfold rf at h;split at h
  ·rename_i hr
   exact⟨hr,hR s a w h ak ⟨[],fY.refl _ _⟩ (iT.refl _ _)⟩
  ·exact h.elim
 |succ n ih=>
  intro listed dC gj s a w K kh ki hold ak h hR;have take:∀(i:Nat) (o:Oper) (aX:bU) (v:aE) (q:List po) (S:World->Prop),all[i]? =some o->i∈Region.ready .any all listed->Region.free .any all listed i=true->dn w0 F a1 N aX a w->(aX.L=s.L/\aX.bj=s.bj/\aX.a1=s.a1)->eX aX.L.length v->
    YieldsIf P all S o (real (a6 aX.L) v) a->S w->DG aX (q++dC) ((i,S)::gj)->PS aX (q++dC)->
    rf P w0 F all (Abs.je all) n (listed.setIfInBounds i true) (q++dC) (aX.put o.dst v) K->rS P all (lO R) gj (n+1) listed a w:=by
   intro i o aX v q S ho hr bk lN aj ah hy hS ade aoB h2;refine aA7 ho (Region.noSelect_spec Ew) (λc a w h=>h) n gj listed a w kh (Region.free_spec ho bk) hr hy hS ?_;refine ih _ (q++dC) ((i,S)::gj) (aX.put o.dst v) _ w K (kh.next hr) (ade.z6 (afz _ _ _)) (λp hp SI b6 o' w9 e=>by rw[afA];exact aoB p hp SI b6 o' w9 e) (lN.put (λd u6=>LS i o ho d u6) ah) h2 ?_;intro s' b6 w' a8 aK ⟨aV,k3⟩ k4;exact hR s' b6 w' a8 aK ⟨_,(fY.CN aj []).trans ((fY.CN (s':=aX.put o.dst v) (UJ _ _ _) []).trans k3)⟩ ((iT.put a (λt ht=>⟨o,kO i o ho,ht⟩) _).trans k4)
  have skip:∀(i:Nat) (o:Oper) (aX:bU),all[i]? =some o->i∈Region.ready .any all listed->Region.free .any all listed i=true->dn w0 F a1 N aX a w->jQ s aX->Region.wanted o (yielded all a.tmps)=false->
    rf P w0 F all (Abs.je all) n (listed.setIfInBounds i true) dC (aX.put o.dst (.j' [])) K->rS P all (lO R) gj (n+1) listed a w:=by
   intro i o aX ho hr bk lN hl hw h2;obtain⟨G,rfl⟩:=hl
   exact take i o _ (.j' []) [] (λ_=>True) ho hr bk lN ⟨rfl,rfl,rfl⟩ trivial (.inr ⟨hw,rfl⟩) trivial (λf bk=>by
    rcases e7.1 bk with rfl|bk
    ·exact .inl λ_=>trivial
    ·exact(ki.z6 rfl) f bk) hold h2
  unfold rf at h;split at h
  ·rename_i hr
   exact⟨λ_=>hR s a w h ak ⟨[],fY.refl _ _⟩ (iT.refl _ _),by rw[hr];simp⟩
  ·rename_i r rs hr
   split at h
   ·rename_i i anD
    obtain⟨ev,wM,acR,aB9⟩:=Rs anD;rw[<-hr] at ev;split at h
    ·rename_i o wy ho
     have aoD:wM=o:=by
      have:all.toList[i]? =some o:=by rw[uA];exact ho
      rw[this] at acR;exact(h9 acR).symm
     subst aoD;obtain⟨bX,b,h,H1,hw,oU⟩:=RF ak h;cases b with
     |false=>exact skip i wM bX ho ev wy H1 oU hw h
     |true=>
      simp only[] at h;obtain⟨aX,h,lN,oV⟩:=afl H1 h;obtain⟨v,s3,v2,v3,v4⟩:=aad (P:=P) (o:=wM) lN.env lN.cells h;have HO:jQ s aX:=by
       obtain⟨Kk,rfl⟩:=oU;obtain⟨PT,rfl⟩:=oV;exact⟨PT,rfl⟩
      have abS:=HO.L;have hy:YieldsIf P all (ua P aX wM.op v) wM (real (a6 aX.L) v) a:= .inl ⟨hw,λw hw=>v4 w hw⟩;cases HT:TI wM.op with
      |true=>
       rw[HT] at v2;split at v2
       ·rename_i q e1 hq
        have hs:=aks lN hq HT v3;refine take i wM aX v [q] _ ho ev wy lN HO.Gq s3 hy (lN.ua v3) (λf bk=>?_) (λp hp vd b6 o' w9 e=>?_) v2
        ·rcases e7.1 bk with rfl|bk
         ·exact .inr ⟨q,by simp,hs⟩
         ·rcases(ki.z6 abS) f bk with h1|⟨p,h1,h2⟩
          ·exact .inl h1
          ·exact .inr ⟨p,vJ _ h1,h2⟩
        ·rcases gi.1 hp with hp|hp
         ·rw[gg] at hp
          subst hp;exact arV hq v3 vd e
         ·obtain⟨G,rfl⟩:=HO
          exact hold p hp vd b6 o' w9 e
       ·exact v2.elim
       ·rename_i e1;cases e1
      |false=>
       rw[HT] at v2;have awJ:rf P w0 F all (Abs.je all) n (listed.setIfInBounds i true) dC (aX.put wM.dst v) K:=v2;refine take i wM aX v [] (λ_=>True) ho ev wy lN HO.Gq s3 (.inl ⟨hw,λw _=>v4 w ?_⟩) trivial (λf bk=>?_) ?_ awJ
       ·cases hop:wM.op with
        |load t x=>rw[hop] at HT;cases HT
        |_=>trivial
       ·rcases e7.1 bk with rfl|bk
        ·exact .inl λ_=>trivial
        ·exact(ki.z6 abS) f bk
       ·obtain⟨G,rfl⟩:=HO
        exact hold
    ·exact h.elim
   ·have hne:Region.ready .any all listed≠[]:=by rw[hr];simp
    have key:∀(rs:List Nat) (bX:bU),jQ s bX->dn w0 F a1 N bX a w->(∀i∈rs,i∈Region.ready .any all listed)->(∀i∈Region.ready .any all listed,i∉rs->wpOp P all (lO R) i (λb6 w'=>(∀f∈gj,f.2 w->Abs.k_ (Abs.je all) f.1 i=false->f.2 w')/\rS P all (lO R) (alive all i gj) n (listed.setIfInBounds i true) b6 w') a w)->
      alts P w0 F all (Abs.je all) listed dC (λi dC s=>rf P w0 F all (Abs.je all) n (listed.setIfInBounds i true) dC s K) rs bX->rS P all (lO R) gj (n+1) listed a w:=by
     clear h;intro rs
     induction rs with
     |nil=>intro bX _ _ _ R5 _;exact⟨λe=>absurd e hne,λi hi=>R5 i hi aS⟩
     |cons r rs TD=>
      intro bX oU H1 ev R5 h;unfold alts at h;split at h
      ·rename_i o ho
       have hm:=ev r kB;obtain⟨aX,b,h,lN,hw,oV⟩:=RF H1 h;have hl:jQ s aX:=by
        obtain⟨Kk,rfl⟩:=oU;obtain⟨PT,rfl⟩:=oV;exact⟨PT,rfl⟩
       cases b with
       |false=>
        simp only[] at h;split at h
        ·rename_i wy
         exact skip r o aX ho hm wy lN hl hw h
        ·exact h.elim
       |true=>
        simp only[] at h;have hop:(pH P w0 F all.toList o aX λv s' aV=>w4 (Abs.je all) r (ml P all.toList o aX) aV s'.aD s'.b4 dC (rf P w0 F all (Abs.je all) n (listed.setIfInBounds r true) (dC.filter λp=> !Abs.k_ (Abs.je all) p.i r) (s'.put o.dst v) K))->
          wpOp P all (lO R) r (λb6 w'=>(∀f∈gj,f.2 w->Abs.k_ (Abs.je all) f.1 r=false->f.2 w')/\rS P all (lO R) (alive all r gj) n (listed.setIfInBounds r true) b6 w') a w:=by
         intro h;unfold wpOp;simp only[ho,hw,Dp];refine .inl (aez lN h ?_);intro v eb aV ad hk zG hb1 kN Y6 ah;have nK:(∀f∈gj,f.2 w->Abs.k_ (Abs.je all) f.1 r=false->f.2 ad)/\DG eb (dC.filter λp=> !Abs.k_ (Abs.je all) p.i r) (alive all r gj)/\PS eb (dC.filter λp=> !Abs.k_ (Abs.je all) p.i r)/\
           rf P w0 F all (Abs.je all) n (listed.setIfInBounds r true) (dC.filter λp=> !Abs.k_ (Abs.je all) p.i r) (eb.put o.dst v) K:=by
          obtain⟨a8,aK⟩:=FF hk;obtain⟨Kk,rfl⟩:=hl;have step:∀p∈dC,∀f,vT s p f->Abs.k_ (Abs.je all) f.1 r=false->vT eb p f/\f.2 ad:=λp hp f hs hn=>by
           have qp:Abs.k_ (Abs.je all) p.i r=false:=by rw[hs.1];exact hn
           have:=awc (s:={s with G:=Kk}) Y6 zG (hs.z6 rfl) hb1 kN (λ_ b6 o' w9 vd e=>hold p hp vd b6 o' w9 e) (aK p hp qp);exact⟨this.1,this.2.1⟩
          refine⟨λf bk _ hn=>?_,λf bk=>?_,λp hp vd b6 o' w9 e=>?_,a8⟩
          ·rcases ki f bk with h1|⟨p,h1,h2⟩
           ·exact h1 ad
           ·exact(step p h1 f h2 hn).2
          ·unfold alive at bk
           rw[JQ] at bk;have hn:Abs.k_ (Abs.je all) f.1 r=false:=by simpa using bk.2
           rcases ki f bk.1 with h1|⟨p,h1,h2⟩
           ·exact .inl h1
           ·exact .inr ⟨p,JQ.2 ⟨h1,by rw[h2.1,hn];rfl⟩,(step p h1 f h2 hn).1⟩
          ·rw[JQ] at hp
           have hn:Abs.k_ (Abs.je all) p.i r=false:=by simpa using hp.2
           have hs:=aK p hp.1 hn;rw[vd,e] at hs;simp only[] at hs;cases hbig:ml P all.toList o {s with G:=Kk} with
           |true=>exact hs.1 hbig
           |false=>rw[kN hbig];exact hold p hp.1 vd b6 o' w9 e
         obtain⟨q1,q2,cz,en⟩:=nK;refine⟨q1,ih _ _ _ (eb.put o.dst v) _ ad K (kh.next hm) (q2.z6 (afz _ _ _)) (λp hp vd b6 o' w9 e=>by rw[afA];exact cz p hp vd b6 o' w9 e) (Y6.put (λd u6=>LS r o ho d u6) ah) en ?_⟩;intro s' b6 w' a8 aK ⟨aaj,k3⟩ k4;exact hR s' b6 w' a8 aK ⟨_,((fY.CN hl.Gq []).trans zG).trans ((fY.CN (s':=eb.put o.dst v) (UJ _ _ _) []).trans k3)⟩ ((iT.put a (λt ht=>⟨o,kO r o ho,ht⟩) _).trans k4)
        have acg:wpOp P all (lO R) r (λb6 w'=>(∀f∈gj,f.2 w->Abs.k_ (Abs.je all) f.1 r=false->f.2 w')/\rS P all (lO R) (alive all r gj) n (listed.setIfInBounds r true) b6 w') a w->∀i∈Region.ready .any all listed,i∉rs->wpOp P all (lO R) i (λb6 w'=>(∀f∈gj,f.2 w->Abs.k_ (Abs.je all) f.1 i=false->f.2 w')/\rS P all (lO R) (alive all i gj) n (listed.setIfInBounds i true) b6 w') a w:=by
         intro hr' i hi SF
         by_cases e:i=r
         ·subst e;exact hr'
         ·exact R5 i hi (by simp[e,SF])
        cases rs with
        |nil=>exact⟨λe=>absurd e hne,λi hi=>acg (hop h) i hi aS⟩
        |cons x xs=>exact TD aX hl lN (λi hi=>ev i (jt _ hi)) (acg (hop h.1)) h.2
      ·exact h.elim
    exact key (r::rs) s ⟨s.G,rfl⟩ ak (λi hi=>by rw[hr];exact hi) (λi hi SF=>by rw[hr] at hi;exact absurd hi SF) h
theorem aA1(r:Option Nat)(n:Nat):(kn r).room n:=λ_ h=>by cases h
theorem aac{r:Option Nat}{n:Nat}{f:FuncId}{args:Array Value}{w:World}{R:Ending->World->Prop}(h:Calls P f args w R):CallsIn (kn r) n P f args w R:=
 (callsIn_wide.2 h:CallsIn Fence.wide n P f args w R)
theorem ava{r:Option Nat}{n:Nat}{row:String}{args:Array Value}{w:World}{R:Value->World->Prop}(h:Rows P row args w R):RowsIn (kn r) n P row args w R:=
 λc cs _=>let⟨v,w',h1,h2⟩:=h c cs;⟨v,w',h1,stepsIn_wide.2 h2⟩
theorem awI{gJ:Option Nat}{n:Nat}{o:Oper}{a:Act}{K:Act->World->Prop}{Q:Exit->Act->World->Prop}{r:Result Go.Next}(h:o.upon P a K Q r):o.uponIn (kn gJ) n P a K Q r:=by
 cases r with
 |ok x w'=>
  cases x with
  |value v=>exact h
  |skip=>exact h
  |defer d=>exact h
  |enter f args=>exact⟨λe=>mR,aac h⟩
  |row row args=>exact⟨λe=>mR,ava h⟩
  |_=>exact h.elim
 |halt x w'=>
  cases x with
  |panic v=>exact h
  |_=>exact h.elim
theorem Xm{gJ:Option Nat}{n:Nat}{o:Oper}{a:Act}{w:World}{K:Act->World->Prop}{Q:Exit->Act->World->Prop}(hd:Ij o.op=false)(h:o.wp P a w K Q):o.wpIn (kn gJ) n P a w K Q:=
 ⟨λ_ _=>trivial,by rw[Oper.semAt_eq _ _ _ (λc e=>by rw[e] at hd;cases hd)];exact awI h⟩
theorem Xl{gJ:Option Nat}{n:Nat}{R:Act->World->Prop}:∀(l:List Oper) (a:Act) (w:World),(∀o∈l,Ij o.op=false)->wpList P all (lO R) l a w->wpListIn (kn gJ) n P all (lO R) l a w
 |[],_,_,_,h=>h
 |o::rest,a,w,hl,h=>by
  unfold wpList at h;unfold wpListIn
  by_cases hw:Region.wanted o (yielded all a.tmps)=true
  ·rw[aA hw] at h⊢
   have h':o.wp P a w (wpList P all (lO R) rest) (lO R):=by
    rcases h with h|h
    ·exact h
    ·obtain⟨_,_,_,e⟩:=h
     exact e.elim
   exact Xm (hl o kB) (Oper.wp_mono (λa w k=>Xl rest a w (λo' ho=>hl o' (jt _ ho)) k) h')
  ·rw[ag hw] at h⊢
   exact⟨λ_ _=>trivial,Xl rest _ w (λo' ho=>hl o' (jt _ ho)) h⟩
theorem OO{gJ:Option Nat}{n:Nat}{R:Act->World->Prop}(hl:∀o∈all.toList,Ij o.op=false):∀(fuel:Nat) (listed:Array Bool) (a:Act) (w:World),wpAny P .any all (lO R) fuel listed a w->wpAnyIn (kn gJ) n P .any all (lO R) fuel listed a w
 |0,_,_,_,h=>h
 |fuel+1,listed,a,w,h=>⟨h.1,λi hi=>by
  have h1:=h.2 i hi;unfold wpOp at h1;unfold wpOpIn;cases ho:all[i]? with
  |none=>
   rw[ho] at h1;exact OO hl fuel _ a w h1
  |some o=>
   rw[ho] at h1;simp only[] at h1⊢;have ev:o∈all.toList:=by
    have:all.toList[i]? =some o:=by rw[uA];exact ho
    exact uE this
   by_cases hw:Region.wanted o (yielded all a.tmps)=true
   ·rw[aA hw] at h1⊢
    have h':o.wp P a w (wpAny P .any all (lO R) fuel (listed.setIfInBounds i true)) (lO R):=by
     rcases h1 with h1|h1
     ·exact h1
     ·obtain⟨_,_,_,e⟩:=h1
      exact e.elim
    exact Xm (hl o ev) (Oper.wp_mono (λa w k=>OO hl fuel _ a w k) h')
   ·rw[ag hw] at h1⊢
    exact⟨λ_ _=>trivial,OO hl fuel _ _ w h1⟩⟩
theorem auP(hm:P.follows .mixedOrders=true){gJ:Option Nat}{ig:Nat}{id:Nat}{l:Array Oper}{d:Bool}(hd:∀o∈l.toList,∀t,o.dst=some t->t<N){s:bU}{a:Act}{w:World}{K:bU->Prop}{R:Act->World->Prop}(ak:dn w0 F a1 N s a w)(h:U0 P w0 F l d s K)
  (hR:∀s' b6 w',K s'->dn w0 F a1 N s' b6 w'->(∃aV,fY s s' aV)->iT (Kf l.toList) a b6->R b6 w'):(Code.region id l d).wpIn (kn gJ) ig P (lO R) a w:=by
 unfold U0 at h;split at h
 ·exact h.elim
 rename_i acd;have ace:∀o∈l.toList,Ij o.op=false:=λo ho=>by
  rw[X_] at acd;simpa using acd o ho
 cases d with
 |false=>exact wpIn_region_list (Xl _ _ _ ace (afe l.toList s a w K hd ak h hR))
 |true=>
  simp only[] at h;split at h
  ·rename_i Ew
   refine wpIn_region_any hm (OO ace _ _ _ _ (ahZ _ [] _ _ _ (alm Ew hd l.size _ [] [] s a _ K ?_ (λf bk=>by cases bk) (λp hp=>by cases hp) (ak.drawn rfl rfl rfl rfl) h hR)));intro j o _ hl;have:(Array.replicate l.size false).getD j false=false:=by
    simp[O',Array.getElem?_replicate];split<;>rfl
   rw[this] at hl;cases hl
  ·exact h.elim
end Go.Sy
namespace Go.Sy
open Go.RowKit (Below)
variable[k7]
variable{P:Program}{w0:World}{F:Nat->Prop}{a1:List (Nat×Obj)}{N:Nat}
def tc(R:k8->Act->World->Prop):Exit->Act->World->Prop
 | .normal,a,w=>R .normal a w
 | .exit i,a,w=>R (.exit i) a w
 | .ret,a,w=>R .ret a w
 |_,_,_=>False
theorem lO.alX{R:k8->Act->World->Prop}{e:Exit}{a:Act}{w:World}(h:lO (R .normal) e a w):tc R e a w:=by cases e<;>first|exact h|exact h.elim
def p4(cf:List (Nat×TypeId))(t:Nat):Prop:=∃ty,(t,ty)∈cf
theorem aeg:∀(cf:List (Nat×TypeId)) (G:hM) (t:Nat) (v:aE),(kill cf G).at t=some v->G.at t=some v/\¬p4 cf t
 |[],G,t,v,h=>⟨h,λ⟨_,hm⟩=>by cases hm⟩
 |(d,ty)::cf,G,t,v,h=>by
  obtain⟨h1,h2⟩:=aeg cf _ t v h;rw[za] at h1;split at h1
  ·cases h1
  ·rename_i hne
   exact⟨h1,λ⟨OC,hm⟩=>by
    rcases e7.1 hm with e|hm
    ·cases e;exact hne rfl
    ·exact h2 ⟨OC,hm⟩⟩
theorem GM:∀{os:List Oper} {acc:List (Nat×TypeId)} {x:Nat×TypeId},x∈DS os acc↔(∃o∈os,o.dst=some x.1/\o.type=x.2)∨x∈acc
 |[],acc,x=>by simp[DS]
 |o::os,acc,x=>by
  unfold DS;split
  ·rename_i d hd
   rw[e7,GM (os:=os)];constructor
   ·rintro(rfl|⟨o',h1,h2⟩|h)
    ·exact .inl ⟨o,by simp,hd,rfl⟩
    ·exact .inl ⟨o',by simp[h1],h2⟩
    ·exact .inr h
   ·rintro(⟨o',h1,h2,aw⟩|h)
    ·rcases e7.1 h1 with rfl|h1
     ·left
      rw[hd] at h2;cases x;simp only[xg] at h2 aw;rw[h2,aw]
     ·exact .inr (.inl ⟨o',h1,h2,aw⟩)
    ·exact .inr (.inr h)
  ·rename_i hd
   rw[GM (os:=os)];constructor
   ·rintro(⟨o',h1,h2⟩|h)
    ·exact .inl ⟨o',by simp[h1],h2⟩
    ·exact .inr h
   ·rintro(⟨o',h1,h2,aw⟩|h)
    ·rcases e7.1 h1 with rfl|h1
     ·rw[hd] at h2;cases h2
     ·exact .inl ⟨o',h1,h2,aw⟩
    ·exact .inr h
theorem ah8:∀(c:Code) (acc:List (Nat×TypeId)) (x:Nat×TypeId),x∈iD c acc↔x∈iD c []∨x∈acc:=by
 intro c
 induction c with
 |region id l d=>
  intro acc x;simp only[iD];rw[GM,GM];simp
 |seq a b Ii TC=>
  intro acc x;simp only[iD];rw[Ii (iD b acc),Ii (iD b []),TC acc];simp[or_assoc]
 |cond c a b Ii TC=>
  intro acc x;simp only[iD];rw[Ii (iD b acc),Ii (iD b []),TC acc];simp[or_assoc]
 |block id b ih=>intro acc x;simp only[iD];exact ih acc x
 |loop b ih=>intro acc x;simp only[iD];exact ih acc x
 |scope b ih=>intro acc x;simp only[iD];exact ih acc x
 |_=>intro acc x;simp[iD]
theorem vD{a b:Code}{t:Nat}(h:p4 (iD a []) t):p4 (iD a (iD b [])) t:=by
 obtain⟨ty,h⟩:=h;exact⟨ty,(ah8 a _ _).2 (.inl h)⟩
theorem JB{a b:Code}{t:Nat}(h:p4 (iD b []) t):p4 (iD a (iD b [])) t:=by
 obtain⟨ty,h⟩:=h;exact⟨ty,(ah8 a _ _).2 (.inr h)⟩
theorem aBq{id:Nat}{l:Array Oper}{d:Bool}{t:Nat}(h:Kf l.toList t):p4 (iD (.region id l d) []) t:=by
 obtain⟨o,h1,h2⟩:=h;exact⟨o.type,GM.2 (.inl ⟨o,h1,h2,rfl⟩)⟩
theorem r1{β:List Nat}:∀{cK:List mC} {bo:qY cK} {e8:tg cK} {df:List aE} {A9:(World->Prop)->Nat->Prop} {Gn:List aE->(World->Prop)->Nat->Prop},(∀v∈df,∀n,v= .val n->n.oneCell'=true)->gF cK bo e8 df A9->r0 cK bo e8 Gn->
  ∃ys J m,A9 J m/\Gn ys J m/\bx β ys=bx β df/\okvs 0 ys/\ys.all aE.scalar=true:=by
 intro cK
 induction cK with
 |nil=>
  intro bo e8 df A9 Gn ah h1 h2;cases df with
  |nil=>exact⟨[],bo,e8,h1,h2,rfl,trivial,rfl⟩
  |cons z df=>exact h1.elim
 |cons x cK ih=>
  intro bo e8 df A9 Gn ah h1 h2;cases df with
  |nil=>cases x<;>exact h1.elim
  |cons z df=>
   have tP:∀v∈df,∀n,v= .val n->n.oneCell'=true:=λv hm=>ah v (jt _ hm)
   cases x with
   |int k=>
    cases z with
    |int k' n=>
     simp only[gF] at h1;split at h1
     ·rename_i hk
      obtain⟨ys,J,m,q1,q2,cz,en,eB⟩:=ih tP h1 (h2 n);exact⟨.int k n::ys,J,m,q1,q2,by simp only[bx,cz,real,aeh hk],⟨trivial,en⟩,by simp[aE.scalar,eB]⟩
     ·exact h1.elim
    |_=>exact h1.elim
   |bool=>
    cases z with
    |lit b=>
     obtain⟨ys,J,m,q1,q2,cz,en,eB⟩:=ih tP h1 (h2 b);exact⟨.bool (.ok b)::ys,J,m,q1,q2,by simp only[bx,cz,real,bL.ll],⟨trivial,en⟩,by simp[aE.scalar,eB]⟩
    |bool e=>
     have pM:(e.g_ true->gF cK (bo true) (e8 true) df A9)/\(e.g_ false->gF cK (bo false) (e8 false) df A9)->∃ys J m,A9 J m/\Gn ys J m/\bx β ys=bx β (.bool e::df)/\okvs 0 ys/\ys.all aE.scalar=true:=λh=>by
      refine bL.split h (λht hk=>?_) (λht hk=>?_)
      ·obtain⟨ys,J,m,q1,q2,cz,en,eB⟩:=ih tP hk (h2 true)
       exact⟨.bool (.ok true)::ys,J,m,q1,q2,by simp only[bx,cz,real,ht];rfl,⟨trivial,en⟩,by simp[aE.scalar,eB]⟩
      ·obtain⟨ys,J,m,q1,q2,cz,en,eB⟩:=ih tP hk (h2 false)
       exact⟨.bool (.ok false)::ys,J,m,q1,q2,by simp only[bx,cz,real,ht];rfl,⟨trivial,en⟩,by simp[aE.scalar,eB]⟩
     cases e with
     |ok b=>
      obtain⟨ys,J,m,q1,q2,cz,en,eB⟩:=ih tP h1 (h2 b);exact⟨.bool (.ok b)::ys,J,m,q1,q2,by simp only[bx,cz],⟨trivial,en⟩,by simp[aE.scalar,eB]⟩
     |_=>exact pM h1
    |_=>exact h1.elim
   |str=>
    cases z with
    |str l=>
     obtain⟨ys,J,m,q1,q2,cz,en,eB⟩:=ih tP h1 (h2 l);exact⟨.str l::ys,J,m,q1,q2,by simp only[bx,cz],⟨trivial,en⟩,by simp[aE.scalar,eB]⟩
    |_=>exact h1.elim
   |ptr=>
    cases z with
    |ptr p=>
     obtain⟨ys,J,m,q1,q2,cz,en,eB⟩:=ih tP h1 (h2 p);exact⟨.ptr p::ys,J,m,q1,q2,by simp only[bx,cz],⟨trivial,en⟩,by simp[aE.scalar,eB]⟩
    |aY a o=>
     obtain⟨ys,J,m,q1,q2,cz,en,eB⟩:=ih tP h1 (h2 (some (a.add o)));exact⟨.ptr (some (a.add o))::ys,J,m,q1,q2,by simp only[bx,cz,real,p5],⟨trivial,en⟩,by simp[aE.scalar,eB]⟩
    |_=>exact h1.elim
   |cJ=>
    cases z with
    |cJ p n c=>
     obtain⟨ys,J,m,q1,q2,cz,en,eB⟩:=ih tP h1 (h2 p n c);exact⟨.cJ p n c::ys,J,m,q1,q2,by simp only[bx,cz],⟨trivial,en⟩,by simp[aE.scalar,eB]⟩
    |_=>exact h1.elim
   |val=>
    cases z with
    |val v=>
     have wC:=ah _ (kB ..) v rfl;obtain⟨ys,J,m,q1,q2,cz,en,eB⟩:=ih tP h1 (h2 v wC);exact⟨.val v::ys,J,m,q1,q2,by simp only[bx,cz],⟨wC,en⟩,by simp[aE.scalar,eB]⟩
    |_=>exact h1.elim
end Go.Sy
namespace Go.Sy
open Go.RowKit (Below)
variable[k7]
variable{P:Program}{w0:World}{F:Nat->Prop}{a1:List (Nat×Obj)}{N:Nat}
theorem auN{β jz:List Nat}{v:aE}(h:eX 0 v):real β v=real jz v:=NI (n:=0) (λk hk=>absurd hk (Nat.not_lt_zero _)) v h
theorem UY{β jz:List Nat}{l:List aE}(h:okvs 0 l):bx β l=bx jz l:=vv (n:=0) (λk hk=>absurd hk (Nat.not_lt_zero _)) l h
theorem auO{β:List Nat}{x y:aE}{xs ys:List aE}(h:bx β (x::xs)=bx β (y::ys)):real β x=real β y/\bx β xs=bx β ys:=by
 simp only[bx,O3] at h;exact h
theorem agX{n n':Nat}{β jz:List Nat}{Zi:hM}{tmps:Array Value}(abV:jj n' jz Zi tmps):∀{ts:List Nat} {G:hM} {xs rest ys:List aE},jj n β G tmps->As Zi ts=some xs->
  bx jz ys=bx jz (xs++rest)->okvs 0 ys->jj n β (Fy ts ys G).1 tmps/\∃df,(Fy ts ys G).2=df/\bx jz df=bx jz rest/\okvs 0 df/\(ys.all aE.scalar=true->df.all aE.scalar=true)
 |[],G,xs,rest,ys,ez,hx,hr,aW=>by
  cases hx;exact⟨ez,ys,rfl,hr,aW,id⟩
 |t::ts,G,xs,rest,ys,ez,hx,hr,aW=>by
  simp only[As,k6,il] at hx;obtain⟨v,ah,cj,hu,rfl⟩:=hx;cases ys with
  |nil=>simp[bx] at hr
  |cons y ys=>
   obtain⟨h1,h2⟩:=auO hr;have hy:tmps.getD t undef=real β y:=by rw[(abV t v ah).2,<-h1];exact auN aW.1
   have ao':jj n β (G.set t (some y)) tmps:=by
    intro u x Mq;rw[za] at Mq;split at Mq
    ·rename_i e
     cases Mq;exact⟨M_ (ef _) _ aW.1,by rw[e];exact hy⟩
    ·exact ez u x Mq
   obtain⟨q1,df,q2,cz,en,eB⟩:=agX abV (ts:=ts) ao' hu h2 aW.2;exact⟨q1,df,q2,cz,en,λhs=>eB (by simp only[List.all_cons,fR] at hs;exact hs.2)⟩
theorem agT{l_:List dh}{jz:List Nat}:∀{ix:List Nat} {L:List dh} {vs cs:List aE},(∀(k:Nat) (l:dh),L[k]? =some l->∃l',l_[k]? =some l'/\l'.cells.length=l.cells.length)->(∀k∈ix,k<L.length)->
  ry l_ ix=some cs->bx jz vs=bx jz cs->okvs 0 vs->vs.all aE.scalar=true->
  (oy ix vs L).length=L.length/\∀(k:Nat) (x:dh),(oy ix vs L)[k]? =some x->∃l,L[k]? =some l/\x.aF=l.aF/\x.ty=l.ty/\(k∉ix->x=l)/\l.gK<=x.gK/\(x.gK=l.gK->x=l)/\x.cells.length=l.cells.length/\
   (k∈ix->okvs 0 x.cells/\x.cells.all aE.scalar=true/\∃l',l_[k]? =some l'/\bx jz x.cells=bx jz l'.cells)
 |[],L,vs,cs,_,_,_,_,_,_=>⟨rfl,λk x hx=>⟨x,hx,rfl,rfl,λ_=>rfl,cL _,λ_=>rfl,rfl,λh=>by cases h⟩⟩
 |k0::ix,L,vs,cs,aj,hlt,hc,hr,aW,hs=>by
  have anW:=hlt k0 aS;have rk:L[k0]? =some L[k0]:=el anW;generalize L[k0]=fk at rk;obtain⟨m,hm,hlen⟩:=aj k0 fk rk;simp only[ry,hm,Option.bind_some,il] at hc;obtain⟨rest,tM,rfl⟩:=hc;have hvl:vs.length=m.cells.length+rest.length:=by
   have:=dx List.length hr;simpa[rH] using this
  have Ib:bx jz (vs.take fk.cells.length)=bx jz m.cells:=by
   have:=dx (List.take fk.cells.length) hr;simp only[ow,l9,<-xk] at this⊢;rw[this,<-hlen];simp
  have Hv:bx jz (vs.drop fk.cells.length)=bx jz rest:=by
   have:=dx (List.drop fk.cells.length) hr;simp only[ow,l9,<-AU] at this⊢;rw[this,<-hlen];simp
  have pE:(vs.take fk.cells.length).length=fk.cells.length:=by simp;omega
  have Ma:okvs 0 (vs.take fk.cells.length):=iz.2 λu hu=>iz.1 aW u (kA hu)
  have SL:okvs 0 (vs.drop fk.cells.length):=iz.2 λu hu=>iz.1 aW u (ka hu)
  have hs1:(vs.take fk.cells.length).all aE.scalar=true:=js.2 λu hu=>js.1 hs u (kA hu)
  have tN:(vs.drop fk.cells.length).all aE.scalar=true:=js.2 λu hu=>js.1 hs u (ka hu)
  have nf:=Oh (x:={fk with cells:=vs.take fk.cells.length,gK:=fk.gK+1}) rk;have tD:∀(k:Nat) (l:dh),(L.take k0++{fk with cells:=vs.take fk.cells.length,gK:=fk.gK+1}::L.drop (k0+1))[k]? =some l->∃l',l_[k]? =some l'/\l'.cells.length=l.cells.length:=λk l hl=>by
   rw[nf] at hl;split at hl
   ·rename_i e
    cases hl;exact⟨m,by rw[e];exact hm,by simp only[pE];exact hlen⟩
   ·exact aj k l hl
  have Sr:(L.take k0++{fk with cells:=vs.take fk.cells.length,gK:=fk.gK+1}::L.drop (k0+1)).length=L.length:=by simp;omega
  obtain⟨q1,q2⟩:=agT (ix:=ix) tD (λk hk=>by rw[Sr];exact hlt k (by simp[hk])) tM Hv SL tN;have e:oy (k0::ix) vs L=oy ix (vs.drop fk.cells.length) (L.take k0++{fk with cells:=vs.take fk.cells.length,gK:=fk.gK+1}::L.drop (k0+1)):=by
   simp only[oy,rk]
  rw[e];refine⟨by rw[q1,Sr],λk x hx=>?_⟩;obtain⟨l,cq,cA,fG,ue,l2,sP,yy,CS⟩:=q2 k x hx;rw[nf] at cq;split at cq
  ·rename_i uW
   cases cq;simp only at cA fG l2 sP yy;refine⟨fk,by rw[uW];exact rk,cA,fG,λhn=>absurd (by rw[uW];simp) hn,by omega,λlC=>by omega,by rw[yy,pE],λ_=>?_⟩
   by_cases hk:k∈ix
   ·exact CS hk
   ·rw[ue hk]
    exact⟨Ma,hs1,m,by rw[uW];exact hm,Ib⟩
  ·rename_i uW
   refine⟨l,cq,cA,fG,λhn=>ue λhk=>hn (by simp[hk]),l2,sP,yy,λhk=>CS ?_⟩;rcases e7.1 hk with e|hk
   ·exact absurd e uW
   ·exact hk
theorem dn.ax{s:bU}{a:Act}{w:World}(ak:dn w0 F a1 N s a w):U F w0 w:=by
 refine⟨ak.grow.os.trans ak.frame.os,ak.grow.tape.trans ak.frame.tape,ak.grow.output.trans ak.frame.output,ek ak.frame.size ak.grow.size,λi h1 h2=>?_⟩;rw[ak.grow.heap i (gp h1 ak.frame.size) ?_,ak.frame.heap i h1 h2];intro hm;obtain⟨k,l,hl,rfl⟩:=q6 (ak.sc i hm);exact absurd (ak.eI k l hl).2 M
abbrev y5(s s':bU)(aV:List Nat):Prop:=∀(k:Nat) (l:dh),s.L[k]? =some l->∃l',s'.L[k]? =some l'/\l'.aF=l.aF/\l.gK<=l'.gK/\(l'.gK=l.gK->l'.cells=l.cells)/\(k∉aV->l'=l)/\l'.ty=l.ty/\l'.cells.length=l.cells.length
theorem y5.trans{s bX aX:bU}{bY c2:List Nat}(h:y5 s bX bY)(k:y5 bX aX c2):y5 s aX (bY++c2):=λj l hl=>by
 obtain⟨bM,dd,a2,a3,a4,a5,iG,nC⟩:=h j l hl;obtain⟨bq,b1,b2,b3,p8,xC,zb,nF⟩:=k j bM dd
 exact⟨bq,b1,b2.trans a2,ek a3 b3,λe=>by rw[p8 M,a4 M],λhn=>by
  rw[xC λhm=>hn (vJ _ hm),a5 λhm=>hn (pd _ hm)],zb.trans iG,nF.trans nC⟩
theorem R8{ai3 Zk:List (Nat×Obj)}{Ki Kj:Nat}{c:jA}{s s':bU}{a b6 a2:Act}{w w':World}{aV:List Nat}(ak:dn w0 F a1 N s a w)(pj:dn w0 F ai3 Ki s' b6 w')(hm:y5 s s' aV)(oj:CE c s=true)
  (vf:∀(k:Nat) (l l':dh),k∉c.g'->s.L[k]? =some l->s'.L[k]? =some l'->l'.cells=l.cells) {rest cs:List aE} (hc:ry s'.L c.g'=some cs) (hr:bx (a6 s'.L) rest=bx (a6 s'.L) cs) (zr:okvs 0 rest) (S9:rest.all aE.scalar=true)
  (vz:bU) (zv:vz.L=oy c.g' rest s.L) (aaX:vz.nb=s.L.length) (aaU:vz.aD=[]) (aa8:vz.b4=w') (ez:jj s.L.length (a6 s.L) vz.G a2.tmps) (hsz:a2.tmps.size=Kj) (hd:qT w0 Zk vz a2.defers w'):
  dn w0 F Zk Kj vz a2 w'/\y5 s vz c.g':=by
 have hlt:∀k∈c.g',k<s.L.length:=λk hk=>by
  have:=js.1 oj k hk;rwa[yY] at this
 obtain⟨hlen,aj⟩:=agT (l_:=s'.L) (jz:=a6 s'.L) (ix:=c.g') (L:=s.L) (λk l hl=>by
  obtain⟨l',q1,_,_,_,_,_,q7⟩:=hm k l hl
  exact⟨l',q1,q7⟩) hlt hc hr zr S9
 have hal:y2 s.L.length (a6 s.L) (a6 s'.L):=Ko λk l hl=>by
  obtain⟨l',h1,h2,_⟩:=hm k l hl;exact⟨l',h1,h2⟩
 have tF:a6 vz.L=a6 s.L:=by
  rw[zv,GA,GA];apply s8;intro k;rw[pV,pV];rcases h8 k s.L.length with h|h
  ·have hk:k<(oy c.g' rest s.L).length:=by rw[hlen];exact h
   obtain⟨l,cq,cA,_⟩:=aj k _ (el hk);rw[el hk,cq];simp only[Option.map_some,cA]
  ·rw[nu (by rw[hlen];exact h),nu h]
 have hcell:∀(k:Nat) (x:dh),vz.L[k]? =some x->∃l l',s.L[k]? =some l/\s'.L[k]? =some l'/\x.aF=l.aF/\l'.aF=l.aF/\x.ty=l'.ty/\okvs s.L.length x.cells/\x.cells.all aE.scalar=true/\bx (a6 s.L) x.cells=bx (a6 s'.L) l'.cells:=by
  intro k x hx;rw[zv] at hx;obtain⟨l,cq,cA,fG,ue,_,_,_,CS⟩:=aj k x hx;obtain⟨l',q1,q2,cz,en,eB,qE,q7⟩:=hm k l cq
  by_cases hk:k∈c.g'
  ·obtain⟨de,c1,bq,r3,r4⟩:=CS hk
   obtain rfl:bq=l':=by rw[q1] at r3;exact(h9 r3).symm
   exact⟨l,bq,cq,q1,cA,q2,by rw[fG,qE],sN (ef _) _ de,c1,by rw[<-r4];exact UY de⟩
  ·obtain rfl:=ue hk
   obtain⟨i7,jf⟩:=ak.cells k x cq;refine⟨x,l',cq,q1,rfl,q2,qE.symm,i7,jf,?_⟩;rw[vf k x l' hk cq q1];exact(vv hal _ i7).symm
 refine⟨⟨?_,hsz,hd,λk x hx=>?_,λk x hx=>?_,λj k x y hx hy e=>?_,?_,λk x hk hx=>?_,by rw[aaU,aa8];exact dV.refl _ _,by rw[aa8];exact pj.ax,λb hb=>by rw[aaU] at hb;cases hb⟩,λk l hl=>?_⟩
 ·rw[tF,zv,hlen]
  exact ez
 ·obtain⟨l,l',_,_,_,_,_,h1,h2,_⟩:=hcell k x hx
  exact⟨by rw[zv,hlen];exact h1,h2⟩
 ·obtain⟨l,l',h1,h2,aw,aZ,ca,_,_,dM⟩:=hcell k x hx
  obtain⟨a8,aK⟩:=pj.eI k l' h2;refine⟨?_,by rw[aw,<-aZ];exact aK⟩;rw[tF,dM,aw,<-aZ,ca];exact a8
 ·obtain⟨l,_,h1,_,aw,_⟩:=hcell j x hx
  obtain⟨m,_,a8,_,k3,_⟩:=hcell k y hy;exact ak.apart j k l m h1 a8 (by rw[<-aw,<-k3,e])
 ·rw[aaX,zv,hlen]
  exact cL _
 ·rw[aaX] at hk
  have h2:k<vz.L.length:=(nv.1 hx).1;rw[zv,hlen] at h2;omega
 ·have hk:k<(oy c.g' rest s.L).length:=by rw[hlen];exact(nv.1 hl).1
  obtain⟨fk,cq,cA,fG,ue,l2,sP,yy,_⟩:=aj k _ (el hk);obtain rfl:l=fk:=by rw[hl] at cq;exact h9 cq
  exact⟨_,by rw[zv];exact el hk,cA,l2,λe=>by rw[sP e],ue,fG,yy⟩
theorem fY.lI{s s':bU}{aV:List Nat}(hm:fY s s' aV)(h:Nat.beq s'.bj.length s.bj.length=true):s'.bj=s.bj:=by
 obtain⟨l,e⟩:=hm.cZ;have:=uC h;rw[e,gh] at this;rw[e,n2 (by omega:l.length=0)];rfl
theorem Eb{c:jA}{wr:List (Nat×TypeId)}{s s':bU}{a b6:Act}{w w':World}(ak:dn w0 F a1 N s a w)(pj:dn w0 F a1 N s' b6 w')(hm:∃aV,fY s s' aV)(hs:iT (p4 wr) a b6)(oj:CE c s=true)(xV:Nat.beq s'.bj.length s.bj.length=true)
  (vf:∀(k:Nat) (l l':dh),k∉c.g'->s.L[k]? =some l->s'.L[k]? =some l'->l'.cells=l.cells) {df ys:List aE} (hz:rP c s'=some df) (hy:bx (a6 s'.L) ys=bx (a6 s'.L) df) (aW:okvs 0 ys) (H_:ys.all aE.scalar=true):
  dn w0 F a1 N (oh c wr s ys w') b6 w'/\fY s (oh c wr s ys w') c.g':=by
 obtain⟨aV,hm⟩:=hm;simp only[rP,k6,il] at hz;obtain⟨xs,hx,cs,hc,rfl⟩:=hz;have an3:jj s.L.length (a6 s.L) (kill wr s.G) b6.tmps:=by
  intro t v ah;obtain⟨h1,h2⟩:=aeg wr s.G t v ah;obtain⟨aw,aZ⟩:=ak.env t v h1;exact⟨aw,by rw[hs t h2];exact aZ⟩
 obtain⟨anA,rest,tM,hr,zr,S9⟩:=agX (n:=s.L.length) (β:=a6 s.L) pj.env an3 hx hy aW;obtain⟨cq,cA⟩:=R8 ak pj hm.dT oj vf hc hr zr (S9 H_) (oh c wr s ys w') (by show oy c.g' (Fy c.um ys (kill wr s.G)).2 s.L=_;rw[tM]) rfl rfl rfl anA pj.size (pj.hd.same (λ_ _=>rfl) (hm.lI xV).symm hm.wS.symm);exact⟨cq,cA,⟨[],rfl⟩,rfl⟩
theorem Fm{ab:List Nat}:∀{L eD:List dh} {b k:Nat} {l l':dh},uj ab b L eD=true->L[k]? =some l->eD[k]? =some l'->b+k∉ab->l.gK=l'.gK
 |[],_,_,k,_,_,_,h,_,_=>by simp at h
 |_::_,[],_,_,_,_,h,_,_,_=>by simp[uj] at h
 |x::L,y::eD,b,k,l,l',h,h1,h2,hk=>by
  simp only[uj,fR,vK] at h;cases k with
  |zero=>
   cases h1;cases h2;rcases h.1 with h|h
   ·exact absurd FY hk
   ·exact uC h
  |succ k=>exact Fm h.2 (by simpa using h1) (by simpa using h2) aif
end Go.Sy
namespace Go.Sy
open Go.RowKit (Below)
variable[k7]
variable{P:Program}{w0:World}{F:Nat->Prop}{a1:List (Nat×Obj)}{N:Nat}
theorem aqx{p:Nat->Prop}:∀n,p n->∃m,p m/\∀k,p k->m<=k:=by
 intro n
 induction n using Nat.strongRecOn with
 |_ n ih=>
  intro hn
  by_cases hs:∃k,k<n/\p k
  ·obtain⟨k,h1,h2⟩:=hs
   exact ih k h1 h2
  ·exact⟨n,hn,λk hk=>Nat.le_of_not_lt λhlt=>hs ⟨k,hlt,hk⟩⟩
theorem ah0{F:Fence}{ig:Nat}{c:Code}{Q:Exit->Act->World->Prop}(bo:Nat->Act->World->Prop)
  (round:∀n a w,bo n a w->c.wpIn F ig P (Exit.then (λb6 w'=>∃m,m<n/\bo m b6 w') Q) a w) (n:Nat) (a:Act) (w:World) (aW:bo n a w):(Code.loop c).wpIn F ig P Q a w:=by
 classical
 have LU:∀a w,∃m,(∃n,bo n a w)->bo m a w/\∀k,bo k a w->m<=k:=by
  intro a w
  by_cases hn:∃n,bo n a w
  ·obtain⟨n,hn⟩:=hn
   obtain⟨m,h1,h2⟩:=aqx (p:=λn=>bo n a w) n hn;exact⟨m,λ_=>⟨h1,h2⟩⟩
  ·exact⟨0,λh=>absurd h hn⟩
 let e8:Act->World->Nat:=λa w=>Classical.choose (LU a w)
 have adE:∀a w n,bo n a w->e8 a w<=n/\bo (e8 a w) a w:=by
  intro a w n hn;obtain⟨h1,h2⟩:=Classical.choose_spec (LU a w) ⟨n,hn⟩;exact⟨h2 n hn,h1⟩
 refine wpIn_loop (λa w=>∃n,bo n a w) e8 ⟨n,aW⟩ ?_;rintro a w ⟨n,hn⟩;obtain⟨_,h2⟩:=adE a w n hn;refine wpIn_mono (round _ a w h2) λe b6 w' hq=>?_
 cases e with
 |normal=>
  obtain⟨m,hm,hI⟩:=hq;exact⟨⟨m,hI⟩,JU (adE b6 w' m hI).1 hm⟩
 |_=>exact hq
theorem ag'{n:Nat}{β:List Nat}{G:hM}{tmps:Array Value}(h:jj n β G tmps):∀{ts:List Nat} {xs:List aE},As G ts=some xs->okvs n xs
 |[],xs,hx=>by cases hx;exact trivial
 |t::ts,xs,hx=>by
  simp only[As,k6,il] at hx;obtain⟨v,ah,cj,hu,rfl⟩:=hx;exact⟨(h t v ah).1,ag' h hu⟩
theorem MK{n:Nat}{L:List dh}(h:∀(k:Nat) (l:dh),L[k]? =some l->okvs n l.cells/\l.cells.all aE.scalar=true):∀{ix:List Nat} {xs:List aE},ry L ix=some xs->okvs n xs
 |[],xs,hx=>by cases hx;exact trivial
 |k::ix,xs,hx=>by
  simp only[ry,k6,il] at hx;obtain⟨l,hl,cj,hu,rfl⟩:=hx;have h2:=MK h hu;rw[iz] at*;intro v ah;rcases gi.1 ah with ah|ah
  ·exact iz.1 (h k l hl).1 v ah
  ·exact h2 v ah
theorem FO{c:jA}{s:bU}{a:Act}{w:World}(ak:dn w0 F a1 N s a w){df:List aE}(h:rP c s=some df):∀v∈df,∀n,v= .val n->n.oneCell'=true:=by
 simp only[rP,k6,il] at h;obtain⟨xs,hx,cs,hc,rfl⟩:=h;have h1:=ag' ak.env hx;have h2:=MK ak.cells hc;rintro v ah n rfl;rcases gi.1 ah with ah|ah
 ·exact iz.1 h1 _ ah
 ·exact iz.1 h2 _ ah
theorem tc.seq{R:k8->Act->World->Prop}{y:Act->World->Prop}{e:Exit}{a:Act}{w:World}(h:tc (λe a w=>match e with| .normal=>y a w|e=>R e a w) e a w):Exit.then y (tc R) e a w:=by
 cases e<;>exact h
theorem abm{lo:Nat}:∀{es:List (TypeId×List aE)} {K:List Nat->Prop} {bs:List Nat},Rv lo es K->bs.length=es.length->(∀b∈bs,lo<=b)->K bs
 |[],K,bs,h,hl,_=>by
  cases bs with
  |nil=>exact h
  |cons b bs=>cases hl
 |_::es,K,bs,h,hl,hb=>by
  cases bs with
  |nil=>cases hl
  |cons b bs=>exact abm (K:=λbs=>K (b::bs)) (h b (hb b aS)) (by simpa using hl) λx hx=>hb x yV
theorem ae0{s':bU}{a:Act}{w:World}{lo:Nat}(ak:dn w0 F a1 N s' a w):∀{dw:List Nat} {es:List (TypeId×List aE)} {c_:List Nat} {cj:List aE},ER lo s' dw es c_=some cj->∀v∈cj,∀n,v= .val n->n.oneCell'=true
 |[],[],_,cj,h=>by cases h;intro v ah;cases ah
 |[],_::_,_,_,h=>by cases h
 |_::_,[],_,_,h=>by cases h
 |t::ts,(e,z)::es,c_,cj,h=>by
  unfold ER at h;split at h
  ·split at h
   ·rename_i l hl _
    split at h
    ·simp only[il] at h
     obtain⟨rest,tM,rfl⟩:=h;intro v ah n hn;rcases gi.1 ah with q|q
     ·have:=iz.1 (ak.cells _ l hl).1 v q
      subst hn;exact this
     ·exact ae0 ak tM v q n hn
    ·cases h
   ·cases h
  ·cases h
theorem ag_{G:hM}:∀{ts:List Nat} {xs:List aE},As G ts=some xs->xs.length=ts.length
 |[],xs,h=>by cases h;rfl
 |t::ts,xs,h=>by
  simp only[As,k6,il] at h;obtain⟨v,_,ys,hy,rfl⟩:=h;simp[ag_ hy]
theorem ag9{wr:List (Nat×TypeId)}:∀{ts:List Nat} {xs:List mC},Of P wr ts=some xs->xs.length=ts.length
 |[],xs,h=>by cases h;rfl
 |t::ts,xs,h=>by
  simp only[Of,k6,il] at h;obtain⟨v,_,z,_,a,_,ys,hy,rfl⟩:=h;simp[ag9 hy]
theorem ag8:∀{vs:List aE} {xs:List mC},rL vs=some xs->xs.length=vs.length
 |[],xs,h=>by cases h;rfl
 |t::ts,xs,h=>by
  simp only[rL,k6,il] at h;obtain⟨v,_,ys,hy,rfl⟩:=h;simp[ag8 hy]
theorem aew{L eD:List dh}(aj:∀(k:Nat) (l:dh),L[k]? =some l->∃l',eD[k]? =some l'/\l'.cells.length=l.cells.length):∀{ix:List Nat} {xs ys:List aE},ry L ix=some xs->ry eD ix=some ys->ys.length=xs.length
 |[],xs,ys,h,h'=>by cases h;cases h';rfl
 |k::ix,xs,ys,h,h'=>by
  simp only[ry,k6,il] at h h';obtain⟨l,hl,hE,h1,rfl⟩:=h;obtain⟨l',kP,h5,h2,rfl⟩:=h';obtain⟨bq,q1,q2⟩:=aj k l hl;obtain rfl:l'=bq:=by rw[kP] at q1;exact h9 q1
  simp[q2,aew aj h1 h2]
theorem ak9{c:jA}{wr:List (Nat×TypeId)}{s s':bU}{cK:List mC}{df:List aE}(h:K2 P c wr s=some cK)(hz:rP c s'=some df)(aj:∀(k:Nat) (l:dh),s.L[k]? =some l->∃l',s'.L[k]? =some l'/\l'.cells.length=l.cells.length):df.length=cK.length:=by
 simp only[K2,rP,k6,il] at h hz;obtain⟨a,ha,b,⟨x,hx,hb⟩,rfl⟩:=h;obtain⟨d,hd,e,he,rfl⟩:=hz;rw[gh,gh,ag_ hd,ag9 ha,ag8 hb,aew aj hx he]
theorem VZ:∀(ix:List Nat) (vs:List aE) (L:List dh),(oy ix vs L).length=L.length
 |[],_,_=>rfl
 |k::ix,vs,L=>by
  unfold oy;split
  ·rename_i l hl
   have:=(nv.1 hl).1;rw[VZ];simp;omega
  ·rfl
theorem ack{c:jA}{wr:List (Nat×TypeId)}{s:bU}{ys:List aE}{w:World}:(oh c wr s ys w).L.length=s.L.length:=VZ _ _ _
theorem dn.apV{s:bU}{a:Act}{w:World}(ak:dn w0 F a1 N s a w){b:Nat}{e:TypeId}{cs:List aE}{t:Nat}(aW:okvs 0 cs)(hs:cs.all aE.scalar=true)(hw:Whole w b e (bx (a6 s.L) cs))(fa:w0.heap.size<=b)(hb:b∉a6 s.L)(oo:s.nb=s.L.length)(hwb:s.b4=w)(hD:s.aD=[])
  (ht:a.tmps.getD t undef= .pointer (some ⟨b,0,none⟩)):
  dn w0 F a1 N {G:=s.G.set t (some (.gU s.L.length 0)),L:=s.L++[⟨b,e,cs,0⟩],nb:=s.L.length+1,aD:=s.aD,b4:=s.b4,bj:=s.bj,a1:=s.a1} a w/\fY s {G:=s.G.set t (some (.gU s.L.length 0)),L:=s.L++[⟨b,e,cs,0⟩],nb:=s.L.length+1,aD:=s.aD,b4:=s.b4,bj:=s.bj,a1:=s.a1} []:=by
 have nf:∀(k:Nat) (l:dh),s.L[k]? =some l->(s.L++[⟨b,e,cs,0⟩])[k]? =some l:=λk l hl=>by
  rw[nr (nv.1 hl).1];exact hl
 have ql:∀(k:Nat) (l:dh),(s.L++[⟨b,e,cs,0⟩])[k]? =some l->s.L[k]? =some l∨(k=s.L.length/\l=⟨b,e,cs,0⟩):=λk l hl=>by
  rcases h8 k s.L.length with h|h
  ·rw[nr h] at hl;exact .inl hl
  ·rw[mu h] at hl
   cases hk:k-s.L.length with
   |zero=>rw[hk] at hl;cases hl;exact .inr ⟨by omega,rfl⟩
   |succ m=>rw[hk] at hl;simp at hl
 have hal:y2 s.L.length (a6 s.L) (a6 (s.L++[⟨b,e,cs,0⟩])):=Ko λk l hl=>⟨l,nf k l hl,rfl⟩
 have hlen:(s.L++[(⟨b,e,cs,0⟩:dh)]).length=s.L.length+1:=by simp
 have ng:(s.L++[(⟨b,e,cs,0⟩:dh)])[s.L.length]? =some ⟨b,e,cs,0⟩:=by rw[mu (cL _)];simp
 have ev:∀(k:Nat) (l:dh),s.L[k]? =some l->l.aF∈a6 s.L:=λk l hl=>by
  rw[GA];exact lr.2 ⟨l,uE hl,rfl⟩
 refine⟨⟨?_,ak.size,ak.hd.same (λ_ _=>rfl) rfl rfl,λk l hl=>?_,λk l hl=>?_,λj k l m hl hm e=>?_,by rw[hlen];exact cL _,λk l hk hl=>?_,ak.grow,ak.frame,λb hb=>by rw[hD] at hb;cases hb⟩,⟨λk l hl=>⟨l,nf k l hl,rfl,cL _,λ_=>rfl,λ_=>rfl,rfl,rfl⟩,⟨[],rfl⟩,rfl⟩⟩
 ·have h1:jj (s.L.length+1) (a6 (s.L++[⟨b,e,cs,0⟩])) s.G a.tmps:=ak.env.alike (F5 _) hal
  show jj (s.L++[(⟨b,e,cs,0⟩:dh)]).length _ _ _;rw[hlen];intro hv v ah;rw[za] at ah
  by_cases e':hv=t
  ·rw[aA e'] at ah
   cases ah;exact⟨Nat.lt_succ_self _,by rw[e',ht];simp only[real];rw[vZ ng]⟩
  ·rw[ag e'] at ah
   exact h1 hv v ah
 ·show okvs (s.L++[(⟨b,e,cs,0⟩:dh)]).length _/\_
  rw[hlen];rcases ql k l hl with h|⟨_,rfl⟩
  ·exact⟨sN (F5 _) _ (ak.cells k l h).1,(ak.cells k l h).2⟩
  ·exact⟨sN (ef _) _ aW,hs⟩
 ·rcases ql k l hl with h|⟨_,rfl⟩
  ·obtain⟨h1,h2⟩:=ak.eI k l h
   refine⟨?_,h2⟩;show Whole _ _ _ (bx (a6 (s.L++[⟨b,e,cs,0⟩])) l.cells);rw[vv hal _ (ak.cells k l h).1];exact h1
  ·refine⟨?_,fa⟩
   show Whole _ _ _ (bx (a6 (s.L++[⟨b,e,cs,0⟩])) cs);rw[UY (jz:=a6 s.L) aW];exact hw
 ·rcases ql j l hl with h|⟨rfl,rfl⟩
  ·rcases ql k m hm with h'|⟨rfl,rfl⟩
   ·exact ak.apart j k l m h h' e
   ·exact absurd (by have:=ev j l h;rwa[show l.aF=b from e] at this) hb
  ·rcases ql k m hm with h'|⟨rfl,rfl⟩
   ·exact absurd (by have:=ev k m h';rwa[<-show b=m.aF from e] at this) hb
   ·rfl
 ·have h1:s.L.length+1<=k:=hk
  have h2:=(nv.1 hl).1;rw[hlen] at h2;omega
theorem Zm{s':bU}{a:Act}{w:World}{lo:Nat}(pj:dn w0 F a1 N s' a w):∀(dw:List Nat) (es:List (TypeId×List aE)) (c_:List Nat) (vs cj:List aE) (bX:bU),dn w0 F a1 N bX a w->bX.aD=[]->bX.b4=w->bX.nb=bX.L.length->ER lo s' dw es c_=some cj->
  bx (a6 s'.L) vs=bx (a6 s'.L) cj->okvs 0 vs->vs.all aE.scalar=true->(∀b∈a6 bX.L,∃(k:Nat) (l:dh),(k<lo∨k∈c_)/\s'.L[k]? =some l/\l.aF=b)->
  ∃bs:List Nat,bs.length=es.length/\(∀b∈bs,w0.heap.size<=b)/\dn w0 F a1 N (Kn dw es bs vs bX) a w/\fY bX (Kn dw es bs vs bX) []
 |[],[],_,vs,cj,bX,ak,_,_,_,_,_,_,_,_=>⟨[],rfl,λb hb=>(nomatch hb),ak,fY.refl _ _⟩
 |[],_::_,_,_,_,_,_,_,_,_,h,_,_,_,_=>by cases h
 |_::_,[],_,_,_,_,_,_,_,_,h,_,_,_,_=>by cases h
 |t::ts,(e,z)::es,c_,vs,cj,bX,ak,hD,hwb,oo,h,hr,aW,hs,kO=>by
  unfold ER at h;split at h
  ·rename_i k hk
   split at h
   ·rename_i l hl hc
    split at h
    ·rename_i Tj
     simp only[fR] at Tj hc;have Tb:=uC Tj.1;have adi:=uC Tj.2;have aCl:lo<=k:=O7 hc.1;have an5:k∉c_:=by simpa using hc.2
     simp only[il] at h;obtain⟨rest,tM,rfl⟩:=h;have Ib:bx (a6 s'.L) (vs.take z.length)=bx (a6 s'.L) l.cells:=by
      have:=dx (List.take z.length) hr;simp only[ow,l9,<-xk] at this⊢;rw[this,<-adi];simp
     have Hv:bx (a6 s'.L) (vs.drop z.length)=bx (a6 s'.L) rest:=by
      have:=dx (List.drop z.length) hr;simp only[ow,l9,<-AU] at this⊢;rw[this,<-adi];simp
     have Ma:okvs 0 (vs.take z.length):=iz.2 λu hu=>iz.1 aW u (kA hu)
     have SL:okvs 0 (vs.drop z.length):=iz.2 λu hu=>iz.1 aW u (ka hu)
     have hs1:(vs.take z.length).all aE.scalar=true:=js.2 λu hu=>js.1 hs u (kA hu)
     have tN:(vs.drop z.length).all aE.scalar=true:=js.2 λu hu=>js.1 hs u (ka hu)
     obtain⟨hw,fa⟩:=pj.eI k l hl;have SH:l.aF∉a6 bX.L:=λhb=>by
      obtain⟨aK,bq,q1,q2,cz⟩:=kO _ hb;have:=pj.apart aK k bq l q2 hl cz;subst this;rcases q1 with q|q
      ·omega
      ·exact an5 q
     obtain⟨cq,cA⟩:=dn.apV (e:=e) ak Ma hs1 (b:=l.aF) (t:=t) (by rw[UY (jz:=a6 s'.L) Ma,Ib,<-Tb];exact hw) fa SH oo hwb hD (by
      have:=(pj.env t _ hk).2;rw[this];simp only[real]
      rw[vZ hl])
     obtain⟨bs,b1,b2,b3,p8⟩:=Zm pj ts es (k::c_) (vs.drop z.length) rest _ cq hD hwb aS tM Hv SL tN (λb hb=>by
      simp only[ZN,gi,gg] at hb;rcases hb with hb|rfl
      ·obtain⟨aK,bq,q1,q2,cz⟩:=kO _ hb
       exact⟨aK,bq,q1.imp id λq=>jt _ q,q2,cz⟩
      ·exact⟨k,l, .inr kB,hl,rfl⟩)
     exact⟨l.aF::bs,by simp[b1],λb hb=>by
      rcases e7.1 hb with rfl|hb
      ·exact fa
      ·exact b2 b hb,b3,cA.trans p8⟩
    ·cases h
   ·cases h
  ·cases h
structure oH(l:Nat)(V V':World):Prop where
 os:V'.os=V.os
 tape:V'.tape=V.tape
 output:V'.output=V.output
 size:V'.heap.size=V.heap.size
 heap:∀k,k≠l->V'.heap[k]? =V.heap[k]?
theorem oH.put(V:World)(l:Nat)(x:Obj):oH l V (V.putObj l x):=⟨rfl,rfl,rfl,World.putObj_size ..,λ_ hk=>World.putObj_heap_other hk⟩
theorem oH.symm{l:Nat}{V V':World}(h:oH l V V'):oH l V' V:=⟨h.os.symm,h.tape.symm,h.output.symm,h.size.symm,λk hk=>(h.heap k hk).symm⟩
theorem oH.trans{l:Nat}{V V' Zj:World}(h:oH l V V')(k:oH l V' Zj):oH l V Zj:=⟨k.os.trans h.os,k.tape.trans h.tape,k.output.trans h.output,k.size.trans h.size,λj hj=>(k.heap j hj).trans (h.heap j hj)⟩
theorem oH.ext{l:Nat}{V V':World}(h:oH l V V'):dV V [l] V':=⟨h.os,h.tape,h.output,by rw[h.size];exact cL _,λi _ hi=>h.heap i JF⟩
theorem Zq{oJ:Code}{t p:Tmp}(h:Gx oJ=some (t,p)):∃id l o,oJ= .region id l false/\l.toList=[o]/\o.op= .assign (.tmp p)/\o.dst=some t/\o.guard=none:=by
 unfold Gx at h;split at h
 ·rename_i id l
  split at h
  ·rename_i o ho
   split at h
   ·rename_i p' hv h1 h2 aw
    cases h;exact⟨id,l,o,rfl,ho,h1,h2,aw⟩
   ·cases h
  ·cases h
 ·cases h
theorem ajt{gJ:Option Nat}{n:Nat}{oJ:Code}{t p:Tmp}(h:Gx oJ=some (t,p)){Q:Exit->Act->World->Prop}{a:Act}{w:World}(xW:Q .normal (a.put (some t) (a.eval (.tmp p))) w):oJ.wpIn (kn gJ) n P Q a w:=by
 obtain⟨id,l,o,rfl,hl,ho,hd,hg⟩:=Zq h;refine wpIn_region_list ?_;rw[hl];unfold wpListIn;rw[aA (by simp[Region.wanted,hg])];refine Xm (by rw[ho];rfl) ?_;unfold Oper.wp;have:(execOp a.eval o).run P w= .ok (.value (a.eval (.tmp p))) w:=by simp only[execOp,ho];rfl
 rw[this];show wpListIn (kn gJ) n P l Q [] (a.put o.dst (a.eval (.tmp p))) w;rw[hd];exact xW
theorem avJ(loops me:List jA){bd oJ:Code}{g:Operand}{a_:Array Tmp}{c:jA}{f:FuncId}{first cap:List aE}{p t:Tmp}{ig:Nat}{s:bU}{a:Act}{w:World}{K:k8->bU->Prop}{R:k8->Act->World->Prop}
  (ih:∀{a1:List (Nat×Obj)} {gJ:Option Nat} {ig:Nat} {s:bU} {a:Act} {w:World} {K:k8->bU->Prop} {R:k8->Act->World->Prop},(gJ=none∨a1≠[])->lR N bd=true->dn w0 F a1 N s a w->ke P w0 F loops me bd s K->
   (∀e s' b6 w',K e s'->dn w0 F a1 N s' b6 w'->(∃aV,fY s s' aV)->iT (p4 (iD bd [])) a b6->R e b6 w')->bd.wpIn (kn gJ) ig P (tc R) a w)
  (LH:Gx oJ=some (t,p)) (nN:a_.toList=[p]) (hg:eval P s.G g=some (.fn f first cap)) (hp:p<N) (ht:t<N) (anc:lR N bd=true) (ak:dn w0 F [] N s a w) (h:VX P w0 F c f first cap p t (ke P w0 F loops me bd) s K)
  (hR:∀s' b6 w',K .normal s'->dn w0 F [] N s' b6 w'->(∃aV,fY s s' aV)->b6.tmps=a.tmps->R .normal b6 w'):(Code.rangeFunc g a_ oJ bd).wpIn (kn none) ig P (tc R) a w:=by
 unfold VX at h;split at h
 rotate_left
 ·exact h.elim
 rename_i fn hfn;split at h
 rotate_left
 ·exact h.elim
 rename_i c' hb;split at h
 rotate_left
 ·exact h.elim
 rename_i SE;split at h
 rotate_left
 ·exact h.elim
 rename_i oj;split at h
 rotate_left
 ·exact h.elim
 rename_i xs eF;split at h
 rotate_left
 ·exact h.elim
 rename_i cK lY;have aou:fn.name≠ "runtime.NumGoroutine":=by simpa using SE
 have hrun:∀(args:Array Value) (w:World),(callFunc f args).run P w= .ok (.enter f args) w:=λargs w=>by simp[callFunc,hfn,aou,hb]
 refine wpIn_rangeFunc ?_;intro amf _;obtain⟨rc,hrc⟩:∃rc:Loop,rc={state:= .ready,pending:=none,fn:=amf,tmps:=a.tmps,params:=a_,assign:=oJ,body:=bd,defers:=w.heap.size}:=⟨_,rfl⟩;obtain⟨rb,hrb⟩:∃rb:Loop,rb={rc with state:= .busy}:=⟨_,rfl⟩;have ki:rc.state= .ready:=by rw[hrc]
 have H5:rc.pending=none:=by rw[hrc]
 have anb:({rb with state:=if(none:Option Code).isNone then .ready else .done,pending:=none}:Loop)=rc:=by
  rw[hrb,hrc];rfl
 obtain⟨d,hd⟩:∃d,d=w.heap.size:=⟨_,rfl⟩;obtain⟨l,hl⟩:∃l,l=w.heap.size+1:=⟨_,rfl⟩;obtain⟨W1,D9⟩:∃W1,W1=(w.alloc (.deferred (some []))).alloc (.loop rc):=⟨_,rfl⟩;have hs1:W1.heap.size=w.heap.size+2:=by rw[D9,vW,vW]
 have amY:W1.heap[l]? =some (.loop rc):=by
  have:=Be (w.alloc (.deferred (some []))) (.loop rc);rw[vW] at this;rw[D9,hl];exact this
 have amX:W1.heap[d]? =some (.deferred (some [])):=by
  rw[D9,hd,mD _ _ _ JD];exact Be w _
 have amZ:∀k,k<w.heap.size->W1.heap[k]? =w.heap[k]? :=λk hk=>by
  rw[D9,mD _ _ _ JD,mD _ _ _ hk]
 obtain⟨gb,abW⟩:∃gb,gb=W1.putObj l (.loop rb):=⟨_,rfl⟩;have px:oH l W1 gb:=by rw[abW];exact oH.put ..
 have amV:gb.heap[l]? =some (.loop rb):=by rw[abW];exact World.putObj_heap_same (by rw[hs1,hl];omega)
 have Hk:∀k,k<w.heap.size->gb.heap[k]? =w.heap[k]? :=λk hk=>(px.heap k M).trans (amZ k hk)
 have EB:W1.os=w.os/\W1.tape=w.tape/\W1.output=w.output:=by rw[D9];exact⟨rfl,rfl,rfl⟩
 have adq:w0.heap.size<=w.heap.size:=ak.ax.size;obtain⟨vs,qX,bo,ao_,aW,aoX,anz⟩:=h l d (by rw[hd];exact ak.grow.size) M;obtain⟨a2,iu⟩:∃a2:Act,a2={a with defers:=mark d::a.defers}:=⟨_,rfl⟩;have dB:a2.tmps=a.tmps:=by rw[iu]
 have anm:d∉s.bj:=λhm=>absurd (ak.hd.lt (pd _ hm)) M
 let qV:Nat->List aE->k8->bU->Prop:=λi ys e s'=>match e with
  | .normal=>match uj c.g' 0 (oy c.g' ys s.L) s'.L,ry s'.L c.g' with
   |true,some df=>∀ad,grow s'.b4 s'.aD ad->gF cK (bo (i+1)) (pI cK) df λJ _=>J ad/\qX ad
   |_,_=>False
  |_=>False
 let Y_:Nat->List aE->(World->Prop)->Prop:=λi ys J=>
  (∀x,vs[i]? =some x->∀w1,U F w0 w1->l<w1.heap.size->J w1->qX w1->ke P w0 F loops me bd (I7 c p t x s ys w1 l d) (qV i ys))/\
  (i=vs.length->∀w1 ad,U F w0 w1->l<w1.heap.size->J w1->qX w1->dV w1 [l] ad->U F w0 ad->K .normal (ps c s ys ad d))
 have step:∀(β:List Nat) (i:Nat) (df:List aE) (V:World),i<=vs.length->(∀v∈df,∀n,v= .val n->n.oneCell'=true)->gF cK (bo i) (pI cK) df (λJ _=>J V/\qX V)->
   ∃ys J,Y_ i ys J/\J V/\qX V/\bx β ys=bx β df/\okvs 0 ys/\ys.all aE.scalar=true:=by
  intro β i df V hi hz ab1;rcases h8 i vs.length with hlt|qn
  ·obtain⟨ys,J,m,q1,q2,cz,en,eB⟩:=r1 (β:=β) hz ab1 (aoX i vs[i] (el hlt))
   refine⟨ys,J,⟨λx hx w1 a8 aK k3 k4=>?_,λe=>by omega⟩,q1.1,q1.2,cz,en,eB⟩;rw[el hlt] at hx;cases hx;exact q2 w1 a8 aK k3 k4
  ·obtain rfl:i=vs.length:=by omega
   obtain⟨ys,J,m,q1,q2,cz,en,eB⟩:=r1 (β:=β) hz ab1 anz;refine⟨ys,J,⟨λx hx=>?_,λ_ w1 ad=>q2 w1 ad⟩,q1.1,q1.2,cz,en,eB⟩;rw[nu (cL _)] at hx;cases hx
 let xr:Nat->World->Prop:=λi V=>i<=vs.length/\V.heap[l]? =some (.loop rc)/\∃V0 ys J,V0.heap[l]? =some (.loop rb)/\oH l V0 V/\Y_ i ys J/\J V0/\qX V0/\dn w0 F [] N (ps c s ys V0 d) a2 V0/\y5 s (ps c s ys V0 d) c.g'
 have abP:∀(ys:List aE) (V:World),(∀aD∈d::s.bj,V.heap[aD]? =some (.deferred (some [])))->qT w0 [] (ps c s ys V d) a2.defers V:=λys V hm=>
  ⟨(by rw[iu];show mark d::a.defers=(d::s.bj).map mark;rw[ak.hd.defers];rfl),λaD hD=>⟨(by
   rcases e7.1 hD with rfl|hD
   ·omega
   ·exact(ak.hd.marks aD hD).1),hm aD hD⟩,λq hq=>(by cases hq),ak.hd.Aa,xi.2 ⟨anm,ak.hd.Uh⟩⟩
 have amM:xr 0 W1:=by
  have aiH:dn w0 F [] N (s.at s.L gb) a gb:=ak.r5 (px.os.trans EB.1) (px.tape.trans EB.2.1) (px.output.trans EB.2.2) (by rw[px.size,hs1];omega) (λi h1 _=>Hk i M) (λb hb=>by
   obtain⟨k,qw,pA,rfl⟩:=q6 hb
   exact Hk _ (Whole.lt (ak.eI k qw pA).1)) (λk hk=>Hk k (ak.hd.lt hk))
  have hgr:dV s.b4 s.aD gb:=⟨(px.os.trans EB.1).trans ak.grow.os,(px.tape.trans EB.2.1).trans ak.grow.tape,(px.output.trans EB.2.2).trans ak.grow.output,by rw[px.size,hs1];have:=ak.grow.size;omega,λi h1 h2=>by
   rw[Hk i (gp h1 ak.grow.size)];exact ak.grow.heap i h1 h2⟩
  obtain⟨ys,J,q1,q2,cz,en,eB,qE⟩:=step (a6 s.L) 0 xs gb (ef _) (λv ah n e=>by
   have:=iz.1 (MK ak.cells eF) v ah;rw[e] at this
   exact this) (aW gb hgr.grow (by rw[px.size,hs1];omega))
  obtain⟨cq,cA⟩:=R8 (Kj:=N) (c:=c) (aV:=[]) ak aiH (λk qw hk=>⟨qw,hk,rfl,cL _,λ_=>rfl,λ_=>rfl,rfl,rfl⟩) oj (λk qw T1 _ e1 e2=>by
   have wg:s.L[k]? =some T1:=e2
   rw[e1] at wg;rw[h9 wg]) (cs:=xs) eF (rest:=ys) en eB qE (ps c s ys gb d) rfl rfl rfl rfl (a2:=a2) (by rw[dB];exact ak.env) (by rw[dB];exact ak.size) (abP ys gb λaD hD=>by
    rcases e7.1 hD with rfl|hD
    ·exact(px.heap _ M).trans amX
    ·exact(Hk aD (ak.hd.lt (pd _ hD))).trans (ak.hd.marks aD hD).2)
  exact⟨ef _,amY,gb,ys,J,amV,px.symm,q1,q2,cz,cq,cA⟩
 have wy:∀(ys:List aE) (V0:World),V0.heap[l]? =some (.loop rb)->dn w0 F [] N (ps c s ys V0 d) a2 V0->(∀b∈a6 (ps c s ys V0 d).L,b≠l)/\∀k∈d::s.bj,k≠l:=λys V0 ah ho=>by
  refine⟨λb hb e=>?_,λk hk e=>?_⟩
  ·obtain⟨j,m,hm,rfl⟩:=q6 hb
   have:=(ho.eI j m hm).1;unfold Whole at this;rw[e,ah] at this;cases this
  ·have:=(ho.hd.marks k hk).2
   rw[e,ah] at this;cases this
 refine⟨l,[mark d],W1,{target:= .fn (.func f) (bx (a6 s.L) cap).toArray,args:=(bx (a6 s.L) first).toArray++#[.func (.yield l) #[] #[]]},W1,f,_,W1,?_,?_,λ_ _=>trivial,?_,λh=>(by cases h),CallsIn.mono (aac (ao_ l xr W1 ?_ ?_ ?_ amM)) ?_⟩
 ·rw[D9,hrc,hl,hd];exact run_enterLoop_outer _ _ _ _ _
 ·have x3:=(xN ak.env hg).2
  simp only[resolve,x3,real];simp[go_sem]
 ·exact hrun _ _
 ·rintro i V V' ⟨k0,a8,V0,ys,J,aK,k3,k4⟩ e1 e2 e3 e4
  exact⟨k0,by rw[e1];exact a8,V0,ys,J,aK,⟨e2.trans k3.os,e3.trans k3.tape,e4.trans k3.output,by rw[e1];exact k3.size,λk hk=>by rw[e1];exact k3.heap k hk⟩,k4⟩
 ·rintro i V ⟨_,a8,V0,ys,J,aK,k3,k4,dW,fj,_⟩
  exact⟨V0,rb,aK,k3.ext,fj⟩
 ·
  rintro i x V hx ⟨_,a8,V0,ys,J,aK,k3,k4,dW,fj,fc,hold⟩;have hil:i<vs.length:=(nv.1 hx).1;have ac3:rc.params=#[p]:=by
   rw[hrc];show a_=#[p];rw[<-X2 (xs:=a_),nN]
  refine⟨rc.fn,_,rc.assign,rc.body,run_yield a8 (by rw[ac3];rfl),λn=>?_⟩;refine roundIn_of_wpIn (F:=kn none) trivial ?_;rw[ac3,show rc.assign=oJ by rw[hrc],show rc.body=bd by rw[hrc],show rc.tmps=a.tmps by rw[hrc]];refine ajt (gJ:=some l) LH ?_;refine⟨_,run_beginRound a8 ki,?_⟩;have amU:(V.putObj l (.loop {rc with state:= .busy})).heap=V0.heap:=by
   apply Array.ext_getElem?;intro k
   by_cases e:k=l
   ·rw[e,World.putObj_heap_same (oD.1 a8).1,aK,hrb]
   ·rw[World.putObj_heap_other e,k3.heap k e]
  have hlen:(#[p].zip #[Value.pointer (some x)]).foldl (λtmps (t,a)=>tmps.setIfInBounds t a) a.tmps=a.tmps.setIfInBounds p (.pointer (some x)):=by simp
  rw[hlen];have Mc:p<a.tmps.size:=by rw[ak.size];exact hp
  have x3:({tmps:=a.tmps.setIfInBounds p (.pointer (some x)),defers:=[]}:Act).eval (.tmp p)= .pointer (some x):=by
   simp[Act.eval,Mc]
  rw[x3];have aoy:dn w0 F ((l, .loop rb)::(d, .deferred (some []))::s.bj.map λk=>(k, .deferred (some []))) N (I7 c p t x s ys V0 l d) {tmps:=(a.tmps.setIfInBounds p (.pointer (some x))).setIfInBounds t (.pointer (some x)),defers:=[]} V0:=by
   have e1:jj (oy c.g' ys s.L).length (a6 (oy c.g' ys s.L)) s.G a.tmps:=by have:=fc.env;rw[dB] at this;exact this
   have e2:=e1.put (d:=p) (v:= .aY x 0) Mc trivial;have e3:=e2.put (d:=t) (v:= .aY x 0) (by rw[Array.size_setIfInBounds,ak.size];exact ht) trivial;refine⟨e3,by simp[ak.size],⟨rfl,λaD hD=>(by cases hD),λq hq=>?_,(by show l::d::s.bj=_;simp[Function.comp_def]),F'⟩,fc.cells,fc.eI,fc.apart,fc.nb,fc.z',dV.refl _ _,fc.frame,λb hb=>by cases hb⟩;rcases e7.1 hq with rfl|hq
   ·exact⟨by show w0.heap.size<=l;omega,aK,rfl⟩
   ·have:q.1∈d::s.bj/\q.2= .deferred (some []):=by
     rcases e7.1 hq with rfl|hq
     ·exact⟨kB,rfl⟩
     ·obtain⟨k,hk,rfl⟩:=lr.1 hq
      exact⟨jt _ hk,rfl⟩
    obtain⟨fE,fQ⟩:=fc.hd.marks q.1 this.1;exact⟨fE,by rw[this.2];exact fQ,by rw[this.2];rfl⟩
  have Eo:dn w0 F ((l, .loop rb)::(d, .deferred (some []))::s.bj.map λk=>(k, .deferred (some []))) N (I7 c p t x s ys V0 l d) {tmps:=(a.tmps.setIfInBounds p (.pointer (some x))).setIfInBounds t (.pointer (some x)),defers:=[]} (V.putObj l (.loop {rc with state:= .busy})):=aoy.drawn amU k3.os k3.tape k3.output;have So:l<V0.heap.size:=(oD.1 aK).1
  refine wpIn_mono (ih (gJ:=some l) (ig:=n) (R:=λe _ w'=>match e with
   | .normal=>∃v ahH,(Instr.endRound l none).run P w'= .ok v ahH/\(Ending.returned v= .returned (.bool true)/\xr (i+1) ahH)
   |_=>False) (.inr aS) anc Eo (k4.1 x hx V0 fc.ax So dW fj) ?_) ?_
  ·rintro e s' b6 w' q1 q2 ⟨aV,cz⟩ _
   cases e with
   |exit j=>exact q1.elim
   |ret=>exact q1.elim
   |normal=>
    simp only[qV] at q1;split at q1
    rotate_left
    ·exact q1.elim
    rename_i df ah hz;have L7:=(q2.hd.wS (l, .loop rb) kB).2.1;refine⟨_,_,run_endRound none L7,rfl,?_⟩;rw[anb];have Es:y5 (ps c s ys V0 d) s' aV:=cz.dT
    obtain⟨xb,rW,de,c1,r3,r4,Af,C4⟩:=step (a6 s'.L) (i+1) df w' hil (λv ah n e=>by
     have:=iz.1 (MK q2.cells hz) v ah;rw[e] at this
     exact this) (q1 w' q2.grow.grow)
    obtain⟨cq,cA⟩:=R8 (Kj:=N) (c:=c) ak q2 (hold.trans Es) oj (λk qw T1 hk e1 e2=>by
     obtain⟨iK,iB,_,_,_,t5,_⟩:=hold k qw e1;obtain rfl:=t5 hk;obtain⟨bq,nk,_,_,yR,_⟩:=Es k iK iB;obtain rfl:T1=bq:=by rw[e2] at nk;exact h9 nk
     exact yR (Fm ah iB e2 JG).symm) hz r4 Af C4 (ps c s xb w' d) rfl rfl rfl rfl (a2:=a2) (by rw[dB];exact ak.env) (by rw[dB];exact ak.size) (abP xb w' λaD hD=>by
      have ev:(aD,Obj.deferred (some []))∈((l,Obj.loop rb)::(d,Obj.deferred (some []))::s.bj.map λk=>(k,Obj.deferred (some []))):=by
       rcases e7.1 hD with rfl|hD
       ·exact jt _ kB
       ·exact jt _ (jt _ (lr.2 ⟨aD,hD,rfl⟩))
      exact(q2.hd.wS _ ev).2.1)
    exact⟨hil,World.putObj_heap_same (oD.1 L7).1,w',xb,rW,L7,oH.put ..,de,c1,r3,cq,cA⟩
  ·intro e b6 w' hq
   cases e with
   |normal=>exact hq
   |_=>exact hq.elim
 ·
  rintro e W' ⟨⟨v,rfl⟩,_,a8,V0,ys,J,aK,k3,k4,dW,fj,fc,hold⟩;have R9:=run_endLoop (P:=P) a8 (by rw[ki];intro hx;cases hx);have R9:(Instr.endLoop l).run P W'= .ok none (W'.putObj l (.loop {rc with state:= .exhausted})):=by rw[R9,H5]
  refine⟨none,_,R9,?_⟩;obtain⟨uI,abX⟩:∃uI,uI=W'.putObj l (.loop {rc with state:= .exhausted}):=⟨_,rfl⟩;rw[<-abX];have zR:oH l V0 uI:=k3.trans (by rw[abX];exact oH.put ..);obtain⟨f1,f2⟩:=wy ys V0 aK fc;have So:l<V0.heap.size:=(oD.1 aK).1;have R_:dn w0 F [] N (ps c s ys uI d) a2 uI:=by
   have:=fc.r5 (w':=uI) zR.os zR.tape zR.output (by rw[zR.size];exact cL _) (λi h1 _=>zR.heap i M) (λb hb=>zR.heap b (f1 b hb)) (λk hk=>zR.heap k (by
    rcases gi.1 hk with hk|hk
    ·exact f2 k hk
    ·have:k∈s.a1:=hk
     rw[ak.hd.Aa] at this
     cases this))
   have e:(ps c s ys V0 d).at (ps c s ys V0 d).L uI=ps c s ys uI d:=by simp[bU.at,ps,VZ]
   rw[e] at this;exact this
  have anE:dn w0 F [] N (ps c s ys uI d) {a with defers:=[mark d]++a.defers} uI:=by rw[iu] at R_;exact R_
  exact hR _ _ _ (k4.2 rfl V0 uI fc.ax So dW fj zR.ext R_.ax) anE ⟨c.g',hold,⟨[d],rfl⟩,rfl⟩ rfl
theorem akO(hm:P.follows .mixedOrders=true)(loops me:List jA):∀(c:Code) {a1:List (Nat×Obj)} {gJ:Option Nat} {ig:Nat} {s:bU} {a:Act} {w:World} {K:k8->bU->Prop} {R:k8->Act->World->Prop},(gJ=none∨a1≠[])->lR N c=true->dn w0 F a1 N s a w->ke P w0 F loops me c s K->
  (∀e s' b6 w',K e s'->dn w0 F a1 N s' b6 w'->(∃aV,fY s s' aV)->iT (p4 (iD c [])) a b6->R e b6 w')->c.wpIn (kn gJ) ig P (tc R) a w:=by
 intro c
 induction c with
 |skip=>
  intro a1 gJ ig s a w K R kQ _ ak h hR;exact wpIn_skip (hR .normal s a w h ak ⟨[],fY.refl _ _⟩ (iT.refl _ _))
 |region id l d=>
  intro a1 gJ ig s a w K R kQ hd ak h hR;refine wpIn_mono (auP hm (λo ho t ht=>?_) ak h (R:=R .normal) (λs' b6 w' a8 aK k3 k4=>hR .normal s' b6 w' a8 aK k3 (k4.mono λt ht=>aBq ht))) λe a w hq=>hq.alX
  have:=js.1 hd o ho;rw[ht] at this;simpa using this
 |seq x y tS tT=>
  intro a1 gJ ig s a w K R kQ hd ak h hR;simp only[lR,fR] at hd;unfold ke at h;split at h
  ·rename_i c hc
   split at h
   ·unfold aay at h
    split at h
    ·exact h.elim
    ·rename_i oj
     split at h
     ·rename_i cK lY
      obtain⟨bo,hx,hy⟩:=h;refine wpIn_seq (wpIn_mono (tS (R:=λe a w=>match e with| .normal=>y.wpIn (kn gJ) ig P (tc R) a w|e=>R e a w) kQ hd.1 ak hx ?_) λe a w hq=>hq.seq);intro e s' b6 w' a8 aK k3 k4;cases e with
      |normal=>
       simp only[] at a8⊢;split at a8
       ·rename_i df ah hz
        simp only[fR] at ah;obtain⟨ys,J,m,q1,q2,cz,en,eB⟩:=r1 (β:=a6 s'.L) (FO aK hz) (a8 w' aK.grow.grow) hy;have vf:∀(k:Nat) (l l':dh),k∉c.g'->s.L[k]? =some l->s'.L[k]? =some l'->l'.cells=l.cells:=by
         intro k l l' hk hl kP;obtain⟨aV,k3⟩:=k3;obtain⟨bq,de,_,_,r4,_⟩:=k3.dT k l hl;obtain rfl:l'=bq:=by rw[kP] at de;exact h9 de
         exact r4 (Fm ah.1 hl kP JG).symm
        obtain⟨cq,cA⟩:=Eb ak aK k3 k4 oj ah.2 vf hz cz en eB;refine tT kQ hd.2 cq (q2 w' aK.ax q1) λe2 aX a2 ad bM bq ⟨aV,hV⟩ Ir=>hR e2 aX a2 ad bM bq ⟨_,cA.trans hV⟩ ((k4.mono λt=>vD).trans (Ir.mono λt=>JB))
       ·exact a8.elim
      |exit i=>exact hR _ s' b6 w' a8 aK k3 (k4.mono λt=>vD)
      |ret=>exact hR _ s' b6 w' a8 aK k3 (k4.mono λt=>vD)
     ·exact h.elim
   ·rename_i n dw Cb
    unfold aax at h;generalize afq c=c at h;split at h
    ·exact h.elim
    ·rename_i oj
     split at h
     ·rename_i cK es lY zz
      split at h
      ·rename_i Fz aC8
       obtain⟨bo,hx,hy⟩:=h;refine wpIn_seq (wpIn_mono (tS (R:=λe a w=>match e with| .normal=>y.wpIn (kn gJ) ig P (tc R) a w|e=>R e a w) kQ hd.1 ak hx ?_) λe a w hq=>hq.seq);intro e s' b6 w' a8 aK k3 k4;cases e with
       |normal=>
        simp only[] at a8⊢;split at a8
        ·rename_i df cj ah hz hu
         simp only[fR] at ah;have yc:∀v∈df++cj,∀n,v= .val n->n.oneCell'=true:=λv hm n hn=>by
          rcases gi.1 hm with q|q
          ·exact FO aK hz v q n hn
          ·exact ae0 aK hu v q n hn
         obtain⟨ys,J,m,q1,q2,cz,en,eB⟩:=r1 (β:=a6 s'.L) yc (a8 w' aK.grow.grow) hy;have vf:∀(k:Nat) (l l':dh),k∉c.g'->s.L[k]? =some l->s'.L[k]? =some l'->l'.cells=l.cells:=by
          intro k l l' hk hl kP;obtain⟨aV,k3⟩:=k3;obtain⟨bq,de,_,_,r4,_⟩:=k3.dT k l hl;obtain rfl:l'=bq:=by rw[kP] at de;exact h9 de
          exact r4 (Fm ah.1 hl kP JG).symm
         have vh:df.length=cK.length:=ak9 (s':=s') lY hz (λk l hl=>by
          obtain⟨aV,k3⟩:=k3;obtain⟨bq,de,_,_,_,_,_,uh⟩:=k3.dT k l hl
          exact⟨bq,de,uh⟩)
         have iB:bx (a6 s'.L) (ys.take cK.length)=bx (a6 s'.L) df:=by
          have:=dx (List.take cK.length) cz;simp only[ow,l9,<-xk] at this⊢;rw[this,<-vh];simp
         have t2:bx (a6 s'.L) (ys.drop cK.length)=bx (a6 s'.L) cj:=by
          have:=dx (List.drop cK.length) cz;simp only[ow,l9,<-AU] at this⊢;rw[this,<-vh];simp
         have dd:okvs 0 (ys.take cK.length):=iz.2 λu hu=>iz.1 en u (kA hu)
         have a2:okvs 0 (ys.drop cK.length):=iz.2 λu hu=>iz.1 en u (ka hu)
         have a3:(ys.take cK.length).all aE.scalar=true:=js.2 λu hu=>js.1 eB u (kA hu)
         have a4:(ys.drop cK.length).all aE.scalar=true:=js.2 λu hu=>js.1 eB u (ka hu)
         obtain⟨cq,cA⟩:=Eb ak aK k3 k4 oj ah.2 vf hz iB dd a3
         obtain⟨bs,b1,b2,b3,p8⟩:=Zm aK (n::dw) es [] (ys.drop cK.length) cj _ cq rfl rfl (by
          show s.L.length=_
          exact ack.symm) hu t2 a2 a4 (λb hb=>by
          have hlen:=ack (c:=c) (wr:=iD x []) (s:=s) (ys:=ys.take cK.length) (w:=w');obtain⟨k,l,hl,rfl⟩:=q6 hb;have hk:k<s.L.length:=by rw[<-hlen];exact(nv.1 hl).1
          obtain⟨fk,rk⟩:∃fk,s.L[k]? =some fk:=⟨_,el hk⟩;obtain⟨bM,nk,gu,_⟩:=cA.dT k fk rk;obtain rfl:l=bM:=by rw[hl] at nk;exact h9 nk
          obtain⟨aV,k3⟩:=k3;obtain⟨bq,de,c1,_⟩:=k3.dT k fk rk
          exact⟨k,bq, .inl hk,de,by rw[c1,gu]⟩)
         refine tT kQ hd.2 b3 (abm q2 b1 b2 w' aK.ax q1) λe2 aX a2 ad bM bq ⟨aV,hV⟩ Ir=>hR e2 aX a2 ad bM bq ⟨_,(cA.trans p8).trans hV⟩ ((k4.mono λt=>vD).trans (Ir.mono λt=>JB))
        ·exact a8.elim
       |exit i=>exact hR _ s' b6 w' a8 aK k3 (k4.mono λt=>vD)
       |ret=>exact hR _ s' b6 w' a8 aK k3 (k4.mono λt=>vD)
      ·exact h.elim
     ·exact h.elim
  ·refine wpIn_seq (wpIn_mono (tS (R:=λe a w=>match e with| .normal=>y.wpIn (kn gJ) ig P (tc R) a w|e=>R e a w) kQ hd.1 ak h ?_) λe a w hq=>hq.seq)
   intro e s' b6 w' a8 aK ⟨aV,k3⟩ k4;cases e with
   |normal=>exact tT kQ hd.2 aK a8 λe2 aX a2 ad bM bq ⟨aaj,hV⟩ Ir=>hR e2 aX a2 ad bM bq ⟨_,k3.trans hV⟩ ((k4.mono λt=>vD).trans (Ir.mono λt=>JB))
   |exit i=>exact hR _ s' b6 w' a8 aK ⟨_,k3⟩ (k4.mono λt=>vD)
   |ret=>exact hR _ s' b6 w' a8 aK ⟨_,k3⟩ (k4.mono λt=>vD)
 |cond c x y tS tT=>
  intro a1 gJ ig s a w K R kQ hd ak h hR;simp only[lR,fR] at hd;have h':QX (eval P s.G c) (ke P w0 F loops me x s K) (ke P w0 F loops me y s K):=h;unfold QX at h';split at h'
  ·rename_i hc
   exact wpIn_cond_true ((xN ak.env hc).2) (tS kQ hd.1 ak h' λe s' b6 w' a8 aK k3 k4=>hR e s' b6 w' a8 aK k3 (k4.mono λt=>vD))
  ·rename_i hc
   exact wpIn_cond_false ((xN ak.env hc).2) (tT kQ hd.2 ak h' λe s' b6 w' a8 aK k3 k4=>hR e s' b6 w' a8 aK k3 (k4.mono λt=>JB))
  ·rename_i e hc
   have ah:=(xN ak.env hc).2;refine bL.split h' (λht hk=>?_) (λht hk=>?_)
   ·exact wpIn_cond_true (by rw[ah,real,ht]) (tS kQ hd.1 ak hk λe s' b6 w' a8 aK k3 k4=>hR e s' b6 w' a8 aK k3 (k4.mono λt=>vD))
   ·exact wpIn_cond_false (by rw[ah,real,ht]) (tT kQ hd.2 ak hk λe s' b6 w' a8 aK k3 k4=>hR e s' b6 w' a8 aK k3 (k4.mono λt=>JB))
  ·exact h'.elim
 |block id b ih=>
  intro a1 gJ ig s a w K R kQ hd ak h hR;refine wpIn_block (wpIn_mono (ih (R:=λe a w=>match e with| .exit j=>if j=id then R .normal a w else R (.exit j) a w|e=>R e a w) kQ hd ak h ?_) ?_)
  ·intro e s' b6 w' a8 aK k3 k4
   cases e with
   |normal=>exact hR _ s' b6 w' a8 aK k3 k4
   |ret=>exact hR _ s' b6 w' a8 aK k3 k4
   |exit j=>
    simp only[] at a8⊢;cases hj:Nat.beq j id with
    |true=>
     rw[hj] at a8;rw[aA (uC hj)];exact hR _ s' b6 w' a8 aK k3 k4
    |false=>
     rw[hj] at a8;rw[ag (λe=>by rw[e,O9] at hj;cases hj)];exact hR _ s' b6 w' a8 aK k3 k4
  ·intro e a w hq
   cases e with
   |exit j=>
    simp only[Exit.inBlock];have rm:(if j=id then R .normal a w else R (.exit j) a w):=hq
    by_cases hj:j=id
    ·rw[aA hj] at rm⊢;exact rm
    ·rw[ag hj] at rm⊢;exact rm
   |normal=>exact hq
   |ret=>exact hq
   |_=>exact hq.elim
 |loop b ih=>
  intro a1 gJ ig s a w K R kQ hd ak h hR;unfold ke at h;split at h
  ·rename_i c hc
   split at h
   ·clear hc
    unfold aey at h;generalize afo c=c at h;split at h
    ·exact h.elim
    ·rename_i oj
     split at h
     ·rename_i xs eF
      split at h
      ·rename_i cK lY
       obtain⟨bo,e8,⟨aR,aW⟩,nK⟩:=h
       let wr:=iD b []
       let qV:Nat->k8->bU->List dh->Prop:=λn e s' L=>match e with
        | .normal=>match uj c.g' 0 L s'.L&&Nat.beq s'.bj.length s.bj.length,rP c s' with
         |true,some df=>∃aU:Int,∀ad,grow s'.b4 s'.aD ad->gF cK (bo aU) (e8 aU) df λrW m'=>rW ad/\m'<n
         |_,_=>False
        |e=>K e s'
       let xr:Nat->Act->World->Prop:=λn b6 w'=>iT (p4 wr) a b6/\∃(ys:List aE) (J:World->Prop),(∀w1,U F w0 w1->J w1->ke P w0 F loops me b (oh c wr s ys w1) λe s'=>qV n e s' (oh c wr s ys w1).L)/\J w'/\
        dn w0 F a1 N (oh c wr s ys w') b6 w'/\fY s (oh c wr s ys w') c.g'
       obtain⟨Xu,PI,hZ,q1,q2,cz,en,eB⟩:=r1 (β:=a6 s.L) (FO ak eF) (aW w ak.grow.grow) (nK aR);obtain⟨cq,cA⟩:=Eb ak ak ⟨[],fY.refl _ _⟩ (iT.refl (p4 wr) a) oj (O9 _) (λk l l' _ h1 h2=>by rw[h1] at h2;rw[h9 h2]) eF cz en eB;refine ah0 xr ?_ hZ a w ⟨iT.refl _ _,Xu,PI,λw1 h1 h2=>?_,q1,cq,cA⟩
       ·rintro n dd w1 ⟨eA,ys,J,i2,i3,i4,i5⟩
        refine wpIn_mono (ih (R:=λe a2 ad=>match e with| .normal=>∃m,m<n/\xr m a2 ad|e=>R e a2 ad) kQ hd i4 (i2 w1 i4.ax i3) ?_) λe a w hq=>hq.seq
        intro e s' a2 ad a8 aK ⟨aV,k3⟩ k4;have tK:=i5.trans k3;have mG:iT (p4 wr) a a2:=eA.trans k4;cases e with
        |normal=>
         simp only[qV] at a8⊢;split at a8
         ·rename_i df ah hz
          simp only[fR] at ah;obtain⟨g1,a8⟩:=a8;obtain⟨xb,rW,m',de,c1,r3,r4,Af⟩:=r1 (β:=a6 s'.L) (FO aK hz) (a8 ad aK.grow.grow) (nK g1);have vf:∀(k:Nat) (l l':dh),k∉c.g'->s.L[k]? =some l->s'.L[k]? =some l'->l'.cells=l.cells:=by
           intro k l l' hk hl kP;obtain⟨iK,iB,_,_,_,t5,_⟩:=i5.dT k l hl;obtain rfl:=t5 hk;obtain⟨bq,nk,_,_,yR,_⟩:=k3.dT k iK iB;obtain rfl:l'=bq:=by rw[kP] at nk;exact h9 nk
           exact yR (Fm ah.1 iB kP JG).symm
          obtain⟨cq,cA⟩:=Eb ak aK ⟨_,tK⟩ mG oj ah.2 vf hz r3 r4 Af;exact⟨m',de.2,mG,xb,rW,λbw h1 h2=>c1 bw h1 h2,de.1,cq,cA⟩
         ·exact a8.elim
        |exit i=>exact hR _ s' a2 ad a8 aK ⟨_,tK⟩ mG
        |ret=>exact hR _ s' a2 ad a8 aK ⟨_,tK⟩ mG
       ·exact q2 w1 h1 h2
      ·exact h.elim
     ·exact h.elim
   ·skip
    unfold aex at h;split at h
    ·exact h.elim
    ·rename_i oj
     split at h
     ·rename_i xs eF
      split at h
      ·rename_i cK lY
       obtain⟨bo,e8,aW,nK⟩:=h
       let wr:=iD b []
       let qV:Nat->k8->bU->List dh->Prop:=λn e s' L=>match e with
        | .normal=>match uj c.g' 0 L s'.L&&Nat.beq s'.bj.length s.bj.length,rP c s' with
         |true,some df=>∀ad,grow s'.b4 s'.aD ad->gF cK bo e8 df λrW m'=>rW ad/\m'<n
         |_,_=>False
        |e=>K e s'
       let xr:Nat->Act->World->Prop:=λn b6 w'=>iT (p4 wr) a b6/\∃(ys:List aE) (J:World->Prop),(∀w1,U F w0 w1->J w1->ke P w0 F loops me b (oh c wr s ys w1) λe s'=>qV n e s' (oh c wr s ys w1).L)/\J w'/\
        dn w0 F a1 N (oh c wr s ys w') b6 w'/\fY s (oh c wr s ys w') c.g'
       obtain⟨Xu,PI,hZ,q1,q2,cz,en,eB⟩:=r1 (β:=a6 s.L) (FO ak eF) (aW w ak.grow.grow) nK;obtain⟨cq,cA⟩:=Eb ak ak ⟨[],fY.refl _ _⟩ (iT.refl (p4 wr) a) oj (O9 _) (λk l l' _ h1 h2=>by rw[h1] at h2;rw[h9 h2]) eF cz en eB;refine ah0 xr ?_ hZ a w ⟨iT.refl _ _,Xu,PI,λw1 h1 h2=>?_,q1,cq,cA⟩
       ·rintro n dd w1 ⟨eA,ys,J,i2,i3,i4,i5⟩
        refine wpIn_mono (ih (R:=λe a2 ad=>match e with| .normal=>∃m,m<n/\xr m a2 ad|e=>R e a2 ad) kQ hd i4 (i2 w1 i4.ax i3) ?_) λe a w hq=>hq.seq
        intro e s' a2 ad a8 aK ⟨aV,k3⟩ k4;have tK:=i5.trans k3;have mG:iT (p4 wr) a a2:=eA.trans k4;cases e with
        |normal=>
         simp only[qV] at a8⊢;split at a8
         ·rename_i df ah hz
          simp only[fR] at ah;obtain⟨xb,rW,m',de,c1,r3,r4,Af⟩:=r1 (β:=a6 s'.L) (FO aK hz) (a8 ad aK.grow.grow) nK;have vf:∀(k:Nat) (l l':dh),k∉c.g'->s.L[k]? =some l->s'.L[k]? =some l'->l'.cells=l.cells:=by
           intro k l l' hk hl kP;obtain⟨iK,iB,_,_,_,t5,_⟩:=i5.dT k l hl;obtain rfl:=t5 hk;obtain⟨bq,nk,_,_,yR,_⟩:=k3.dT k iK iB;obtain rfl:l'=bq:=by rw[kP] at nk;exact h9 nk
           exact yR (Fm ah.1 iB kP JG).symm
          obtain⟨cq,cA⟩:=Eb ak aK ⟨_,tK⟩ mG oj ah.2 vf hz r3 r4 Af;exact⟨m',de.2,mG,xb,rW,λbw h1 h2=>c1 bw h1 h2,de.1,cq,cA⟩
         ·exact a8.elim
        |exit i=>exact hR _ s' a2 ad a8 aK ⟨_,tK⟩ mG
        |ret=>exact hR _ s' a2 ad a8 aK ⟨_,tK⟩ mG
       ·exact q2 w1 h1 h2
      ·exact h.elim
     ·exact h.elim
  ·exact h.elim
 |scope b ih=>
  intro a1 gJ ig s a w K R kQ hd ak h hR;unfold ke at h;split at h
  ·rename_i hz
   obtain rfl:gJ=none:=by
    rcases kQ with e|e
    ·exact e
    ·refine absurd ?_ e
     have:=ak.hd.Aa;rw[hz] at this;exact List.map_eq_nil_iff.1 this.symm
   have hb:=ih (gJ:=none) (ig:=ig) (R:=R) (.inl rfl) (by simpa[lR] using hd) ak h λe s' b6 w' a8 aK k3 k4=>hR e s' b6 w' a8 aK k3 (by simpa[iD] using k4)
   have hb':b.wp P (tc R) a w:=wpIn_wide.1 hb;have:(Code.scope b).wp P (tc R) a w:=wp_scope_straight (wp_mono hb' λe a w hq=>by cases e<;>first|exact hq|exact hq.elim);exact(wpIn_wide (n:=ig)).2 this
  ·exact h.elim
 |label l=>
  intro a1 gJ ig s a w K R kQ _ ak h hR;exact wpIn_label (hR .normal s a w h ak ⟨[],fY.refl _ _⟩ (iT.refl _ _))
 |exit id=>
  intro a1 gJ ig s a w K R kQ _ ak h hR;exact wpIn_exit (hR (.exit id) s a w h ak ⟨[],fY.refl _ _⟩ (iT.refl _ _))
 |ret=>
  intro a1 gJ ig s a w K R kQ _ ak h hR;exact wpIn_ret (hR .ret s a w h ak ⟨[],fY.refl _ _⟩ (iT.refl _ _))
 |rangeFunc g a_ oJ bd _ ih=>
  intro a1 gJ ig s a w K R kQ hd ak h hR;unfold ke at h;split at h
  rotate_left
  ·exact h.elim
  rename_i t p' p c f first cap hz LH nN hc hg
  split at h
  rotate_left
  ·exact h.elim
  rename_i Ck hsl;obtain rfl:a1=[]:=by
   have:=ak.hd.Aa;rw[hz] at this;exact List.map_eq_nil_iff.1 this.symm
  obtain rfl:gJ=none:=by
   rcases kQ with e|e
   ·exact e
   ·exact absurd rfl e
  have H5:=uC Ck;subst H5;simp only[lR,fR] at hd;have Mc:p<N:=by
   have:=js.1 hd.1.1 p (by rw[nN];simp);simpa using this
  have apg:t<N:=by
   obtain⟨id,l,o,rfl,hl,_,LQ,_⟩:=Zq LH;have:=js.1 hd.1.2 o (by rw[hl];simp);rw[LQ] at this;simpa using this
  exact avJ loops me (λ{a1 gJ ig s a w K R}=>ih (a1:=a1) (gJ:=gJ) (ig:=ig) (s:=s) (a:=a) (w:=w) (K:=K) (R:=R)) LH nN hg Mc apg hd.2 ak h λs' b6 w' a8 aK k3 k4=>hR .normal s' b6 w' a8 aK k3 λt _=>by rw[k4]
 |_=>
  intro a1 gJ ig s a w K R kQ _ ak h hR;exact h.elim
end Go.Sy
