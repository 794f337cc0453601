/- An evaluator of Go code over an abstract memory, and the proof that each of its runs is a run of the model, whatever the tape. It holds for each program, without conditions. -/
import Derived.Orders
import GoSem.Core.Utf8
import Derived.Laws.Externs
import Derived.Lib.Bytealg
import Derived.Below
import Derived.Laws.Cells
import Derived.Laws.Tables
import Derived.Laws.NewBlocks
import Derived.Laws.Strings
import Derived.Laws.StructEq
import Derived.ChangeKeysEq
set_option linter.unusedVariables false
set_option linter.unusedSimpArgs false
-- --
/- An evaluator of Go code over an abstract memory, and the proof that each of its runs is a run of the model, whatever the tape. It holds for each program, without conditions. -/
namespace Go.Abs
noncomputable section

/-- A table with numbers as keys. -/
inductive Tr (α : Type) where
  | leaf
  | node (l : Tr α) (v : Option α) (r : Tr α)

namespace Tr
variable {α : Type}
noncomputable def get (t : Tr α) : Nat → Option α :=
  Tr.rec (motive := fun _ => Nat → Option α) (fun _ => none)
    (fun _ v _ gl gr k => Bool.rec (Bool.rec (gr (Nat.div (Nat.sub k 1) 2)) (gl (Nat.div (Nat.sub k 1) 2)) (Nat.beq (Nat.mod k 2) 1)) v (Nat.beq k 0)) t
noncomputable def single (d : Nat) : Nat → α → Tr α :=
  Nat.rec (motive := fun _ => Nat → α → Tr α) (fun _ x => node leaf (some x) leaf)
    (fun _ s k x => Bool.rec (Bool.rec (node leaf none (s (Nat.div (Nat.sub k 1) 2) x)) (node (s (Nat.div (Nat.sub k 1) 2) x) none leaf) (Nat.beq (Nat.mod k 2) 1))
      (node leaf (some x) leaf) (Nat.beq k 0)) d
noncomputable def set (t : Tr α) : Nat → α → Tr α :=
  Tr.rec (motive := fun _ => Nat → α → Tr α) (fun k x => single k k x)
    (fun l v r sl sr k x => Bool.rec (Bool.rec (node l v (sr (Nat.div (Nat.sub k 1) 2) x)) (node (sl (Nat.div (Nat.sub k 1) 2) x) v r) (Nat.beq (Nat.mod k 2) 1))
      (node l (some x) r) (Nat.beq k 0)) t
end Tr

/-- A digit. -/
inductive D4 where
  | d0 | d1 | d2 | d3

/-- A table whose keys are four, or eight, digits. -/
inductive N4 (α : Type) where
  | leaf
  | node (a b c d : N4 α)
  | val (x : α)

structure P4 where
  a : D4
  b : D4
  c : D4
  d : D4

namespace N4
variable {α : Type}
noncomputable def dig (n : Nat) : D4 := Nat.rec D4.d0 (fun m _ => Nat.rec D4.d1 (fun m _ => Nat.rec D4.d2 (fun _ _ => D4.d3) m) m) (Nat.mod n 4)
noncomputable def path (k : Nat) : P4 := ⟨dig (Nat.div k 64), dig (Nat.div k 16), dig (Nat.div k 4), dig k⟩
noncomputable def sel (d : D4) (t : N4 α) : N4 α := N4.rec .leaf (fun a b c e _ _ _ _ => D4.rec a b c e d) (fun _ => .leaf) t
noncomputable def out (t : N4 α) : Option α := N4.rec none (fun _ _ _ _ _ _ _ _ => none) some t
noncomputable def upd (d : D4) (f : N4 α → N4 α) (t : N4 α) : N4 α :=
  N4.rec (D4.rec (.node (f .leaf) .leaf .leaf .leaf) (.node .leaf (f .leaf) .leaf .leaf) (.node .leaf .leaf (f .leaf) .leaf) (.node .leaf .leaf .leaf (f .leaf)) d)
    (fun a b c e _ _ _ _ => D4.rec (.node (f a) b c e) (.node a (f b) c e) (.node a b (f c) e) (.node a b c (f e)) d) (fun _ => .leaf) t
noncomputable def sel4 (p : P4) (t : N4 α) : N4 α := P4.rec (fun a b c d => sel d (sel c (sel b (sel a t)))) p
noncomputable def upd4 (p : P4) (f : N4 α → N4 α) (t : N4 α) : N4 α := P4.rec (fun a b c d => upd a (upd b (upd c (upd d f))) t) p
noncomputable def get (t : N4 α) (k : Nat) : Option α := Bool.rec none (out (sel4 (path k) t)) (Nat.blt k 256)
/-- A number that is too great is left out. -/
noncomputable def set (t : N4 α) (k : Nat) (x : α) : N4 α := Bool.rec t (upd4 (path k) (fun _ => .val x) t) (Nat.blt k 256)
noncomputable def getL (t : N4 α) (k : Nat) : Option α := Bool.rec none (out (sel4 (path k) (sel4 (path (Nat.div k 256)) t))) (Nat.blt k 65536)
noncomputable def setL (t : N4 α) (k : Nat) (x : α) : N4 α := Bool.rec t (upd4 (path (Nat.div k 256)) (upd4 (path k) (fun _ => .val x)) t) (Nat.blt k 65536)
end N4

structure APtr where
  fam : Nat
  gen : Nat
  off : Nat

inductive ACap where
  | exact (n : Nat)
  | toEnd

inductive AVal where
  | bool (b : Bool)
  | int (k : IntKind) (n : Int)
  | str (s : List UInt8)
  | ptr (p : Option APtr)
  | slice (p : Option APtr) (len : Nat) (cap : ACap)
  | zslice (p : APtr) (low es : Nat)
  | map (r : Option Nat)
  | func (fn : Fn) (first captured : List AVal)
  | nilFunc
  | iface (t : TypeId) (v : AVal)
  | nilIface
  | agg (cs : List AVal)
  | tuple (vs : List AVal)

/-- The cells of a value that can lie in memory. -/
def AVal.flat : AVal → Option (List AVal)
  | .agg cs => some cs
  | .tuple _ => none
  | v => some [v]

/-- A family of blocks: what is known of the cells of its generations. -/
structure ACells where
  ety : TypeId
  es : Nat
  size : Nat
  elems : Tr (List AVal × Nat)
  flex : Bool
  gen : Nat
  start : Nat
  frz : Nat
  mark : Bool
  ro : Bool

inductive AObj where
  | cells (c : ACells)
  | siter (s : List UInt8) (pos : Nat)

structure Heap where
  objs : N4 AObj
  next : Nat
  low : Nat

def Heap.fam (h : Heap) (f : Nat) : Option ACells :=
  match h.objs.getL f with
  | some o => match o with
    | .cells c => some c
    | .siter _ _ => none
  | none => none
def Heap.put (h : Heap) (f : Nat) (o : AObj) : Heap :=
  { objs := h.objs.setL f o, next := h.next, low := match Nat.ble h.low f with | true => h.low | false => f }
def Heap.push (h : Heap) (o : AObj) : Heap := { objs := h.objs.setL h.next o, next := h.next + 1, low := h.low }

/-- The values of a constant of one cell that hold no address. -/
def ofScalar : Value → Option AVal
  | .bool b => some (.bool b)
  | .int k n => some (.int k n)
  | .string s => some (.str s.data.toList)
  | .pointer none => some (.ptr none)
  | .slice none n c => some (.slice none n (.exact c))
  | .map none => some (.map none)
  | .nilFunc => some .nilFunc
  | .nilIface => some .nilIface
  | _ => none

def ofScalars : List Value → Option (List AVal)
  | [] => some []
  | v :: vs => (ofScalar v).bind fun a => (ofScalars vs).map (a :: ·)

/-- The values of a constant that hold no address. -/
def ofValue (v : Value) : Option AVal :=
  match v with
  | .agg cs => (ofScalars cs.toList).map .agg
  | .tuple cs => (ofScalars cs.toList).map .tuple
  | v => ofScalar v

abbrev Env := N4 AVal

section
variable (P : Program)

/-- What an operand is. -/
noncomputable def eval (T : Env) (x : Operand) : Option AVal :=
  Operand.rec (fun t => T.get t) (fun v => ofValue v) (fun g => Bool.rec none (some (.ptr (some ⟨g, 0, 0⟩))) (Nat.blt g P.globals.size)) (fun f => some (.func (.func f) [] [])) x

def evals (T : Env) : List Operand → Option (List AVal)
  | [] => some []
  | x :: xs => (eval P T x).bind fun a => (evals T xs).map (a :: ·)

def size? (t : TypeId) : Option Nat := (P.info? t).map (·.size)

def isAgg? (t : TypeId) : Option Bool :=
  match P.underlying t with
  | some (.struct _) => some true
  | some (.array _ _) => some true
  | some _ => some false
  | none => none

def zero? (t : TypeId) : Option AVal := (P.info? t).bind fun i => i.zero.bind (ofValue)

/-- The size of an element of a variable of a type: an array's element's, or the type's own. -/
def grain (t : TypeId) : Option Nat :=
  match P.underlying t with
  | some (.array _ e) => size? P e
  | _ => size? P t

/-- Elements from index q on. -/
def setElems (es lo : Nat) : Nat → Nat → List AVal → Tr (List AVal × Nat) → Tr (List AVal × Nat)
  | 0, _, _, t => t
  | d + 1, q, vs, t => match vs with
    | [] => t
    | _ => setElems es lo d (q + 1) (vs.drop es) (t.set q (vs.take es, lo))

def ACells.made (ety es : Nat) (vs : List AVal) : ACells :=
  { ety, es, size := vs.length, elems := setElems es 0 vs.length 0 vs .leaf, flex := false, gen := 0, start := 0, frz := 0, mark := false, ro := false }

/-- n cells from off on, as they are seen by generation g. -/
def ACells.read (c : ACells) (g : Nat) : Nat → Nat → Nat → Option (List AVal)
  | 0, _, _ => none
  | d + 1, off, n =>
    match Nat.beq n 0 with
    | true => some []
    | false => match c.elems.get (off / c.es) with
      | none => none
      | some (vs, lo) => match Nat.ble lo g with
        | false => none
        | true =>
          let r := off % c.es
          match Nat.ble (r + n) c.es with
          | true => some ((vs.drop r).take n)
          | false => (c.read g d (off + (c.es - r)) (n - (c.es - r))).map (vs.drop r ++ ·)

def ACells.canRead (c : ACells) (g off n : Nat) : Bool := Nat.ble g c.gen && Nat.ble c.start off && Nat.ble (off + n) c.size

def ACells.canWrite (c : ACells) (g off n : Nat) : Bool :=
  Nat.beq g c.gen && Nat.ble c.start off && Nat.ble (off + n) c.size && Nat.ble c.frz off && !c.ro

/-- Cells from off on are given other values. -/
def ACells.write (c : ACells) (off : Nat) (vs : List AVal) : Option ACells :=
  let q := off / c.es
  let r := off % c.es
  match Nat.beq r 0 && Nat.beq (vs.length % c.es) 0 with
  | true => some { c with elems := setElems c.es c.gen vs.length q vs c.elems }
  | false => match Nat.ble (r + vs.length) c.es with
    | false => none
    | true => match c.elems.get q with
      | none => none
      | some (old, lo) => match Nat.ble lo c.gen with
        | false => none
        | true => some { c with elems := c.elems.set q (old.take r ++ vs ++ old.drop (r + vs.length), c.gen) }

def load (t : TypeId) (a : AVal) (h : Heap) : Option AVal :=
  match a with
  | .ptr (some p) => (h.fam p.fam).bind fun c => (size? P t).bind fun n => (isAgg? P t).bind fun b =>
    match b with
    | true => match c.canRead p.gen p.off n with
      | true => (c.read p.gen (n + 1) p.off n).map .agg
      | false => none
    | false => match c.canRead p.gen p.off 1 with
      | true => (c.read p.gen 2 p.off 1).bind fun vs => vs.head?
      | false => none
  | _ => none

def store (t : TypeId) (a v : AVal) (h : Heap) : Option Heap :=
  match a with
  | .ptr (some p) => (h.fam p.fam).bind fun c => (size? P t).bind fun n => v.flat.bind fun vs =>
    match Nat.beq vs.length n && c.canWrite p.gen p.off n with
    | true => (c.write p.off vs).map fun c' => h.put p.fam (.cells c')
    | false => none
  | _ => none

def newVar (t : TypeId) (v : AVal) (h : Heap) : Option (AVal × Heap) :=
  (grain P t).bind fun es => v.flat.bind fun vs => match Nat.blt 0 es && Nat.beq (vs.length % es) 0 with
  | true => some (.ptr (some ⟨h.next, 0, 0⟩), h.push (.cells (ACells.made t es vs)))
  | false => none

def fill (place : Nat → Option (Nat × Nat)) (cells : List AVal) : List (Nat × AVal) → Option (List AVal)
  | [] => some cells
  | (i, v) :: rest =>
    match place i with
    | none => none
    | some (off, size) => v.flat.bind fun vs =>
      match Nat.beq vs.length size && Nat.ble (off + size) cells.length with
      | false => none
      | true => fill place (cells.take off ++ (vs ++ cells.drop (off + size))) rest

def parts? (T : Env) : List (Nat × Operand) → Option (List (Nat × AVal))
  | [] => some []
  | (i, x) :: xs => (eval P T x).bind fun a => (parts? T xs).map ((i, a) :: ·)

def places? : List Field → Option (List (Nat × Nat))
  | [] => some []
  | f :: fs => (size? P f.type).bind fun s => (places? fs).map ((f.offset, s) :: ·)

def build (t : TypeId) (ps : List (Nat × AVal)) : Option AVal :=
  (zero? P t).bind fun z => z.flat.bind fun zs =>
    match P.underlying t with
    | some (.struct fields) => (places? P fields.toList).bind fun pl => (fill (fun i => pl[i]?) zs ps).map .agg
    | some (.array _ e) => (size? P e).bind fun s => (fill (fun i => some (i * s, s)) zs ps).map .agg
    | _ => none

def repeated (z : List AVal) : Nat → List AVal
  | 0 => []
  | n + 1 => z ++ repeated z n

def buildSlice (t : TypeId) (len : Nat) (ps : List (Nat × AVal)) (h : Heap) : Option (AVal × Heap) :=
  match P.underlying t with
  | some (.slice e) => (size? P e).bind fun s => (zero? P e).bind fun z => z.flat.bind fun zs =>
    match Nat.blt 0 s && Nat.beq zs.length s && Nat.ble (len * s) 16777216 with
    | true => (fill (fun i => some (i * s, s)) (repeated zs len) ps).bind fun vs =>
      some (.slice (some ⟨h.next, 0, 0⟩) len (.exact len), h.push (.cells (ACells.made e s vs)))
    | false => none
  | _ => none

/-- A number of a kind, as it wraps. -/
def wrap (k : IntKind) (n : Int) : Int :=
  match n with
  | .ofNat m => match Nat.ble m (match k with | .i8 => 127 | .i16 => 32767 | .i32 => 2147483647 | .i64 => 9223372036854775807 | .u8 => 255 | .u16 => 65535 | .u32 => 4294967295 | .u64 => 18446744073709551615) with
    | true => .ofNat m
    | false => k.wrap n
  | .negSucc m => match k.signed && Nat.ble m (match k with | .i8 => 127 | .i16 => 32767 | .i32 => 2147483647 | _ => 9223372036854775807) with
    | true => .negSucc m
    | false => k.wrap n

def semVal : Sem Value → Option AVal
  | .pure (.int k n) => some (.int k n)
  | .pure (.bool b) => some (.bool b)
  | _ => none

def intOp (op : BinOp) (k : IntKind) (a : Int) (k' : IntKind) (b : Int) : Option AVal :=
  match op with
  | .add => if k = k' then some (.int k (wrap k (a + b))) else none
  | .sub => if k = k' then some (.int k (wrap k (a - b))) else none
  | .mul => if k = k' then some (.int k (wrap k (a * b))) else none
  | .quo | .rem => if k = k' then semVal (Op.intDiv op k a b) else none
  | .and | .or | .xor | .andNot => if k = k' then semVal (Op.intBits op k a b) else none
  | .shl | .shr => semVal (Op.shift op k a k' b)
  | .eql => if k = k' then some (.bool (a == b)) else none
  | .neq => if k = k' then some (.bool (a != b)) else none
  | .lss => if k = k' then some (.bool (decide (a < b))) else none
  | .leq => if k = k' then some (.bool (decide (a ≤ b))) else none
  | .gtr => if k = k' then some (.bool (decide (b < a))) else none
  | .geq => if k = k' then some (.bool (decide (b ≤ a))) else none

def strOp (op : BinOp) (a b : List UInt8) : Option AVal :=
  match op with
  | .add => match Nat.ble (a.length + b.length) 1000000000 with
    | true => some (.str (a ++ b))
    | false => none
  | .eql => some (.bool (a == b))
  | .neq => some (.bool (!(a == b)))
  | .lss => some (.bool (Op.bytesLess a b))
  | .leq => some (.bool (Op.bytesLess a b || a == b))
  | .gtr => some (.bool (!(Op.bytesLess a b || a == b)))
  | .geq => some (.bool (!Op.bytesLess a b))
  | _ => none

/-- Are two addresses one? Only where all generations agree. -/
def samePtr (h : Heap) (p q : APtr) : Option Bool :=
  match Nat.beq p.fam q.fam with
  | true => match Nat.beq p.gen q.gen with
    | true => some (Nat.beq p.off q.off)
    | false => none
  | false => (h.fam p.fam).bind fun c => (h.fam q.fam).bind fun d =>
    match !c.mark && !d.mark && !c.ro && !d.ro with
    | true => some false
    | false => none

def part (t : TypeId) (cs : List AVal) (off : Nat) : Option AVal :=
  (size? P t).bind fun n => (isAgg? P t).bind fun b => match b with
  | true => match Nat.ble (off + n) cs.length with
    | true => some (.agg ((cs.drop off).take n))
    | false => none
  | false => cs[off]?

def fieldsEq (eq : TypeId → AVal → AVal → Option Bool) : List Field → List AVal → List AVal → Option Bool
  | [], _, _ => some true
  | f :: fs, xs, ys => match f.name == "_" with
    | true => fieldsEq eq fs xs ys
    | false => (part P f.type xs f.offset).bind fun a => (part P f.type ys f.offset).bind fun b => (eq f.type a b).bind fun r =>
      match r with
      | true => fieldsEq eq fs xs ys
      | false => some false

def arrayEq (eq : TypeId → AVal → AVal → Option Bool) (e : TypeId) (n : Nat) (xs ys : List AVal) : Nat → Nat → Option Bool
  | 0, _ => some true
  | k + 1, i => (part P e xs (i * n)).bind fun a => (part P e ys (i * n)).bind fun b => (eq e a b).bind fun r =>
      match r with
      | true => arrayEq eq e n xs ys k (i + 1)
      | false => some false

/-- Equality of everything but two addresses, two structs, two arrays. -/
def eqFlat (u : TypeDesc) (x y : AVal) : Option Bool :=
  match u with
  | .bool => match x, y with | .bool a, .bool b => some (a == b) | _, _ => none
  | .int _ => match x, y with | .int k a, .int k' b => if k = k' then some (a == b) else none | _, _ => none
  | .string => match x, y with | .str a, .str b => some (a == b) | _, _ => none
  | .interface _ => match x, y with
    | .nilIface, .nilIface => some true
    | .nilIface, .iface _ _ => some false
    | .iface _ _, .nilIface => some false
    | _, _ => none
  | .slice _ => match x, y with
    | .slice none _ _, .slice b _ _ => some b.isNone
    | .slice (some _) _ _, .slice none _ _ => some false
    | .zslice _ _ _, .slice none _ _ => some false
    | .slice none _ _, .zslice _ _ _ => some false
    | _, _ => none
  | .map _ _ => match x, y with
    | .map none, .map b => some b.isNone
    | .map (some _), .map none => some false
    | _, _ => none
  | .func _ _ _ => match x, y with
    | .nilFunc, .nilFunc => some true
    | .nilFunc, .func _ _ _ => some false
    | .func _ _ _, .nilFunc => some false
    | _, _ => none
  | _ => none

def eqIn (h : Heap) : Nat → TypeId → AVal → AVal → Option Bool
  | 0, _, _, _ => none
  | d + 1, t, x, y =>
    match P.underlying t with
    | none => none
    | some u => match u with
      | .pointer e => match x, y with
        | .ptr none, .ptr q => some q.isNone
        | .ptr (some _), .ptr none => some false
        | .ptr (some p), .ptr (some q) => match size? P e with
          | some (_ + 1) => samePtr h p q
          | _ => none
        | _, _ => none
      | .struct fields => match x, y with
        | .agg xs, .agg ys => match P.stoodInHeld t with
          | true => none
          | false => fieldsEq P (fun t x y => eqIn h d t x y) fields.toList xs ys
        | _, _ => none
      | .array len e => match x, y with
        | .agg xs, .agg ys => (size? P e).bind fun n => arrayEq P (fun t x y => eqIn h d t x y) e n xs ys len 0
        | _, _ => none
      | u => eqFlat u x y

def isConst : Operand → Bool
  | .const _ => true
  | _ => false

def guardOk (op : BinOp) (t : TypeId) (x y : Operand) (a b : AVal) : Bool :=
  match op with
  | .eql | .neq => match a, b with
    | .nilIface, .nilIface => isConst x || isConst y
    | .agg _, .agg _ => !P.eqGuardType P.depth t
    | _, _ => true
  | _ => true

def binOp (op : BinOp) (t : TypeId) (x y : Operand) (a b : AVal) (h : Heap) : Option AVal :=
  match guardOk P op t x y a b with
  | false => none
  | true => match a, b with
    | .int k m, .int k' n => intOp op k m k' n
    | .str s, .str s' => strOp op s s'
    | _, _ => match op with
      | .eql => (eqIn P h 50 t a b).map .bool
      | .neq => (eqIn P h 50 t a b).map fun r => .bool (!r)
      | _ => none

def unOp (op : UnOp) (x : AVal) : Option AVal :=
  match op, x with
  | .neg, .int k n => some (.int k (wrap k (0 - n)))
  | .xor, .int k n => semVal (Op.intBits .xor k (if k.signed then -1 else k.max) n)
  | .not, .bool b => some (.bool (!b))
  | _, _ => none

def byteVal (b : UInt8) : AVal := .int .u8 b.toNat

def ofBytes : List AVal → Option (List UInt8)
  | [] => some []
  | .int .u8 n :: vs => (ofBytes vs).map (UInt8.ofNat n.toNat :: ·)
  | _ => none

def ofRunes : List AVal → Option (List UInt8)
  | [] => some []
  | .int .i32 n :: vs => (ofRunes vs).map ((Utf8.encode n).data.toList ++ ·)
  | _ => none

def runesOf (s : List UInt8) : List AVal :=
  (Conv.runesFrom ⟨s.toArray⟩ s.length 0 #[]).toList.filterMap fun | .int k n => some (.int k n) | _ => none

/-- A new family whose end is open, as an append or a conversion makes it. -/
def flexed (ety es : Nat) (vs : List AVal) (mark : Bool) : ACells :=
  { ety, es, size := vs.length, elems := setElems es 0 vs.length 0 vs .leaf, flex := true, gen := 0, start := 0, frz := 0, mark, ro := false }

/-- The cells of n elements of a slice. -/
def sliceCells (es n : Nat) (x : AVal) (h : Heap) : Option (List AVal) :=
  match x with
  | .slice (some p) len _ => match Nat.ble n len with
    | true => (h.fam p.fam).bind fun c => match c.canRead p.gen p.off (n * es) with
      | true => c.read p.gen (n * es + 1) p.off (n * es)
      | false => none
    | false => none
  | .slice none _ _ => match Nat.beq n 0 with | true => some [] | false => none
  | .zslice _ _ _ => match Nat.beq n 0 with | true => some [] | false => none
  | .str s => some ((s.take n).map byteVal)
  | _ => none

def lenOf : AVal → Option Nat
  | .slice _ n _ => some n
  | .zslice _ _ _ => some 0
  | .str s => some s.length
  | _ => none

def convert (src dst : TypeId) (x : AVal) (h : Heap) : Option (AVal × Heap) :=
  match P.underlying src, P.underlying dst with
  | some u, some v => match u, v, x with
    | _, .int k, .int _ n => some (.int k (wrap k n), h)
    | _, .string, .int _ n => some (.str (Utf8.encode n).data.toList, h)
    | _, .string, .str s => some (.str s, h)
    | _, .slice e, .str s => match P.underlying e with
      | some (.int .u8) => some (.slice (some ⟨h.next, 0, 0⟩) s.length .toEnd, h.push (.cells (flexed e 1 (s.map byteVal) true)))
      | some (.int .i32) => let rs := runesOf s
        some (.slice (some ⟨h.next, 0, 0⟩) rs.length .toEnd, h.push (.cells (flexed e 1 rs false)))
      | _ => none
    | .slice _, .slice e, .slice (some p) len cap => match P.underlying e with
      | some (.int .u8) => match Nat.beq src dst with
        | true => (h.fam p.fam).bind fun c => match !c.ro && Nat.beq p.gen c.gen && Nat.beq c.frz 0 with
          | true => some (.slice (some p) len cap, h.put p.fam (.cells { c with mark := true }))
          | false => none
        | false => none
      | _ => none
    | .slice e, .string, x => (lenOf x).bind fun n => (sliceCells 1 n x h).bind fun vs => match P.underlying e with
      | some (.int .u8) => (ofBytes vs).map fun s => (.str s, h)
      | some (.int .i32) => (ofRunes vs).map fun s => (.str s, h)
      | _ => none
    | .pointer _, .unsafePointer, .ptr none => some (x, h)
    | .pointer t, .unsafePointer, .ptr (some p) => (h.fam p.fam).bind fun c => (size? P t).bind fun n => match Nat.blt 0 n && !c.flex && Nat.blt p.off c.size with
      | true => some (x, h)
      | false => none
    | .unsafePointer, .pointer _, .ptr none => some (x, h)
    | .unsafePointer, .pointer t, .ptr (some p) => (h.fam p.fam).bind fun c => (size? P t).bind fun n => match Nat.blt 0 n && !c.flex && !c.ro && liesAt P P.depth c.ety (c.size / P.cellsOf c.ety) p.off t 1 with
      | true => some (x, h)
      | false => none
    | _, _, _ => none
  | _, _ => none

def fieldAddr (s : TypeId) (x : AVal) (i : Nat) : Option AVal :=
  match P.underlying s, x with
  | some (.struct fields), .ptr (some p) => (fields[i]?).bind fun f => (size? P f.type).bind fun n => match Nat.blt 0 n with
    | true => some (.ptr (some ⟨p.fam, p.gen, p.off + f.offset⟩))
    | false => none
  | _, _ => none

def fieldOf (s : TypeId) (x : AVal) (i : Nat) : Option AVal :=
  match P.underlying s, x with
  | some (.struct fields), .agg cs => (fields[i]?).bind fun f => part P f.type cs f.offset
  | _, _ => none

def natOf (n : Int) (m : Nat) : Option Nat :=
  match n with
  | .ofNat i => match Nat.blt i m with | true => some i | false => none
  | .negSucc _ => none

def indexAddr (t : TypeId) (x i : AVal) : Option AVal :=
  match i with
  | .int _ n => match P.underlying t, x with
    | some (.array len e), .ptr (some p) => (natOf n len).bind fun k => (size? P e).bind fun s => some (.ptr (some ⟨p.fam, p.gen, p.off + k * s⟩))
    | some (.slice e), .slice (some p) len _ => (natOf n len).bind fun k => (size? P e).bind fun s => some (.ptr (some ⟨p.fam, p.gen, p.off + k * s⟩))
    | _, _ => none
  | _ => none

def index (t : TypeId) (x i : AVal) : Option AVal :=
  match i with
  | .int _ n => match P.underlying t, x with
    | some (.array len e), .agg cs => (natOf n len).bind fun k => (size? P e).bind fun s => part P e cs (k * s)
    | some .string, .str s => (natOf n s.length).bind fun k => (s[k]?).map byteVal
    | _, _ => none
  | _ => none

def bound (x : Option AVal) (dflt most : Nat) : Option Nat :=
  match x with
  | none => some dflt
  | some (.int _ n) => natOf n (most + 1)
  | some _ => none

/-- A slice whose end is open is cut: 'known' elements are there for sure. -/
def sliceOpen (p : APtr) (len known es : Nat) (low high : Option AVal) : Option AVal :=
  (bound high len known).bind fun hi => (bound low 0 hi).bind fun lo => match Nat.ble hi known with
  | false => none
  | true => match Nat.blt lo known with
    | true => some (.slice (some ⟨p.fam, p.gen, p.off + lo * es⟩) (hi - lo) .toEnd)
    | false => some (.zslice p lo es)

def sliceExact (p : Option APtr) (len cap es : Nat) (low high max : Option AVal) : Option AVal :=
  (bound max cap cap).bind fun m => (bound high len m).bind fun hi => (bound low 0 hi).bind fun lo =>
    some (.slice (match Nat.beq m lo with | true => p | false => p.map fun p => ⟨p.fam, p.gen, p.off + lo * es⟩) (hi - lo) (.exact (m - lo)))

def optEval (T : Env) : Option Operand → Option (Option AVal)
  | none => some none
  | some x => (eval P T x).map some

def sliceOf (t : TypeId) (x : AVal) (low high max : Option AVal) (h : Heap) : Option AVal :=
  match P.underlying t, x with
  | some .string, .str s => match max with
    | some _ => none
    | none => (bound high s.length s.length).bind fun hi => (bound low 0 hi).bind fun lo => some (.str ((s.drop lo).take (hi - lo)))
  | some (.slice e), .slice p len cap => (size? P e).bind fun es => match Nat.blt 0 es with
    | false => none
    | true => match cap with
      | .exact c => match max, high with
        | some _, none => none
        | _, _ => sliceExact p len c es low high max
      | .toEnd => match p with
        | none => none
        | some q => (h.fam q.fam).bind fun c => match Nat.beq q.gen c.gen && Nat.ble q.off c.size && Nat.beq c.es es with
          | false => none
          | true =>
            let known := (c.size - q.off) / es
            match max with
            | none => sliceOpen q len known es low high
            | some _ => match high with
              | none => none
              | some _ => (bound max 0 known).bind fun m => sliceExact (some q) len m es low high max
  | some (.slice e), .zslice p l es => match max with
    | some _ => none
    | none => (size? P e).bind fun _ => (bound high 0 0).bind fun hi => (bound low 0 hi).bind fun _ => some (.zslice p l es)
  | some (.array n e), .ptr (some p) => match max with
    | some _ => none
    | none => (size? P e).bind fun es => sliceExact (some p) n n es low high none
  | _, _ => none

def extract (x : AVal) (i : Nat) : Option AVal :=
  match x with
  | .tuple vs => vs[i]?
  | _ => none

def makeSlice (t : TypeId) (len cap : AVal) (h : Heap) : Option (AVal × Heap) :=
  match P.underlying t, len, cap with
  | some (.slice e), .int _ l, .int _ c => (natOf c 100000000).bind fun c => (natOf l (c + 1)).bind fun l =>
    (P.info? e).bind fun i => (zero? P e).bind fun z => z.flat.bind fun zs =>
      match Nat.blt 0 i.size && Nat.beq zs.length i.size && Nat.ble (i.bytes * c) 100000000000 with
      | true => some (.slice (some ⟨h.next, 0, 0⟩) l (.exact c), h.push (.cells (ACells.made e i.size (repeated zs c))))
      | false => none
  | _, _, _ => none

/-- append of the cells of n elements. -/
def appendCells (e es bytes : Nat) (s : AVal) (vs : List AVal) (n : Nat) (h : Heap) : Option (AVal × Heap) :=
  match Nat.blt 0 es && Nat.beq vs.length (n * es) && Nat.ble ((n + 1000) * (bytes + 1)) 1000000000000 with
  | false => none
  | true => match s with
    | .slice none 0 (.exact 0) => match n with
      | 0 => some (s, h)
      | _ + 1 => some (.slice (some ⟨h.next, 0, 0⟩) n .toEnd, h.push (.cells (flexed e es vs false)))
    | .slice (some p) len (.exact cap) => match Nat.ble (len + n) cap with
      | true => match n with
        | 0 => some (s, h)
        | _ + 1 => (h.fam p.fam).bind fun c => match c.canWrite p.gen (p.off + len * es) (n * es) with
          | true => (c.write (p.off + len * es) vs).map fun c' => (.slice (some p) (len + n) (.exact cap), h.put p.fam (.cells c'))
          | false => none
      | false => (sliceCells es len s h).bind fun old =>
        match Nat.ble ((len + n + cap) * (bytes + 1)) 1000000000000 with
        | true => some (.slice (some ⟨h.next, 0, 0⟩) (len + n) .toEnd, h.push (.cells (flexed e es (old ++ vs) false)))
        | false => none
    | .slice (some p) len .toEnd => match n with
      | 0 => some (s, h)
      | _ + 1 => (h.fam p.fam).bind fun c =>
        match Nat.beq p.gen c.gen && Nat.ble c.start p.off && !c.ro && c.flex && Nat.beq c.ety e && Nat.beq c.es es && Nat.beq (p.off % es) 0 && Nat.ble (p.off + len * es) c.size && Nat.ble c.frz (p.off + len * es) && Nat.ble ((len + n) * (bytes + 1)) 1000000000000 with
        | false => none
        | true => match Nat.ble (p.off + (len + n) * es) c.size with
          | true => (c.write (p.off + len * es) vs).map fun c' => (.slice (some p) (len + n) .toEnd, h.put p.fam (.cells c'))
          | false =>
            let c' := { c with size := p.off + (len + n) * es, gen := c.gen + 1, start := p.off,
                               elems := setElems es (c.gen + 1) vs.length ((p.off + len * es) / es) vs c.elems }
            some (.slice (some ⟨p.fam, c.gen + 1, p.off⟩) (len + n) .toEnd, h.put p.fam (.cells c'))
    | .zslice _ _ _ => match n with
      | 0 => some (s, h)
      | _ + 1 => none
    | _ => none

def isInt : TypeDesc → Bool
  | .int _ => true
  | _ => false

def append (argTypes : Array TypeId) (s x : AVal) (h : Heap) : Option (AVal × Heap) :=
  (argTypes[0]?).bind fun st => (argTypes[1]?).bind fun xt => match P.underlying st, P.underlying xt with
  | some (.slice e), some u => (P.info? e).bind fun i => (zero? P e).bind fun z => z.flat.bind fun zs => match Nat.beq zs.length i.size with
    | false => none
    | true => match isInt u with
      | true => match x with
        | .int _ m => (natOf m 100000000).bind fun n => appendCells e i.size i.bytes s (repeated zs n) n h
        | _ => none
      | false => (lenOf x).bind fun n => (sliceCells i.size n x h).bind fun vs => appendCells e i.size i.bytes s vs n h
  | _, _ => none

def least (a b : Nat) : Nat := match Nat.ble a b with | true => a | false => b

def copyOf (argTypes : Array TypeId) (d x : AVal) (h : Heap) : Option (AVal × Heap) :=
  (argTypes[0]?).bind fun st => match P.underlying st with
  | some (.slice e) => (size? P e).bind fun es => (lenOf d).bind fun dn => (lenOf x).bind fun xn =>
    match d with
    | .str _ => none
    | d => match least xn dn with
      | 0 => some (.int .i64 0, h)
      | n + 1 => (sliceCells es (n + 1) x h).bind fun vs => match d with
        | .slice (some p) _ _ => (h.fam p.fam).bind fun c => match c.canWrite p.gen p.off ((n + 1) * es) && Nat.beq vs.length ((n + 1) * es) with
          | true => (c.write p.off vs).map fun c' => (.int .i64 (n + 1 : Nat), h.put p.fam (.cells c'))
          | false => none
        | _ => none
  | _ => none

def minmax (less : Bool) (k : IntKind) (a : Int) : List AVal → Option AVal
  | [] => some (.int k a)
  | .int _ b :: rest => minmax less k (match less with | true => if b < a then b else a | false => if b > a then b else a) rest
  | _ => none

def builtin (b : Builtin) (argTypes : Array TypeId) (args : List AVal) (h : Heap) : Option (AVal × Heap) :=
  match b, args with
  | .append, [s, x] => append P argTypes s x h
  | .copy, [d, x] => copyOf P argTypes d x h
  | .len, [x] => (argTypes[0]?).bind fun t => match P.underlying t, x with
    | some .string, .str s => some (.int .i64 s.length, h)
    | some (.array n _), _ => some (.int .i64 n, h)
    | some (.pointer e), _ => match P.underlying e with
      | some (.array n _) => some (.int .i64 n, h)
      | _ => none
    | some (.slice _), .slice _ n _ => some (.int .i64 n, h)
    | some (.slice _), .zslice _ _ _ => some (.int .i64 0, h)
    | _, _ => none
  | .cap, [x] => (argTypes[0]?).bind fun t => match P.underlying t, x with
    | some (.slice _), .slice _ _ (.exact n) => some (.int .i64 n, h)
    | _, _ => none
  | .min, .int k a :: xs => (minmax true k a xs).map fun v => (v, h)
  | .max, .int k a :: xs => (minmax false k a xs).map fun v => (v, h)
  | .unsafeSliceData, [x] => match x with
    | .slice none _ _ => some (.ptr none, h)
    | .slice (some p) (_ + 1) .toEnd => some (.ptr (some p), h)
    | .slice (some p) _ (.exact (_ + 1)) => some (.ptr (some p), h)
    | _ => none
  | .unsafeString, [.ptr q, .int .i64 (.ofNat n)] => match n with
    | 0 => match argTypes.toList with
      | [_, _] => some (.str [], h)
      | _ => none
    | n + 1 => match q with
      | none => none
      | some p => (h.fam p.fam).bind fun c => match argTypes.toList with
        | [t, _] => match P.underlying t with
          | some (.pointer u) => match Nat.beq u c.ety && Nat.beq c.es 1 && Nat.beq (P.cellsOf c.ety) 1 && c.canRead p.gen p.off (n + 1) && Nat.beq p.gen c.gen && Nat.beq p.off 0 && !c.ro && Nat.blt n 1000000000 && !c.mark with
            | true => (c.read p.gen (n + 2) p.off (n + 1)).bind fun vs => (ofBytes vs).map fun s =>
              (.str s, h.put p.fam (.cells { c with mark := true, frz := match Nat.ble (n + 1) c.frz with | true => c.frz | false => n + 1 }))
            | false => none
          | _ => none
        | _ => none
  | _, _ => none

def ret (v : Option AVal) (h : Heap) : Option (AVal × Heap) := Option.rec none (fun v => some (v, h)) v

noncomputable def at_move (x : Operand) (T : Env) (h : Heap) : Option (AVal × Heap) :=
  Option.rec none (fun v => some (v, h)) (eval P T x)

noncomputable def at_pick (c : Operand) (a : Operand) (b : Operand) (T : Env) (h : Heap) : Option (AVal × Heap) :=
  match eval P T c with
  | some (.bool true) => ret (eval P T a) h
  | some (.bool false) => ret (eval P T b) h
  | _ => none

noncomputable def at_alloc (t : TypeId) (_T : Env) (h : Heap) : Option (AVal × Heap) :=
  (zero? P t).bind fun z => newVar P t z h

noncomputable def at_box (t : TypeId) (x : Operand) (T : Env) (h : Heap) : Option (AVal × Heap) :=
  (eval P T x).bind fun v => newVar P t v h

noncomputable def at_build (t : TypeId) (ps : Array (Nat × Operand)) (T : Env) (h : Heap) : Option (AVal × Heap) :=
  (parts? P T ps.toList).bind fun ps => ret (build P t ps) h

noncomputable def at_buildSlice (t : TypeId) (n : Nat) (ps : Array (Nat × Operand)) (T : Env) (h : Heap) : Option (AVal × Heap) :=
  (parts? P T ps.toList).bind fun ps => buildSlice P t n ps h

noncomputable def at_load (t : TypeId) (a : Operand) (T : Env) (h : Heap) : Option (AVal × Heap) :=
  (eval P T a).bind fun a => ret (load P t a h) h

noncomputable def at_store (t : TypeId) (a : Operand) (x : Operand) (T : Env) (h : Heap) : Option (AVal × Heap) :=
  (eval P T a).bind fun a => (eval P T x).bind fun x => (store P t a x h).map fun h' => (.tuple [], h')

noncomputable def at_nilCheck (x : Operand) (T : Env) (h : Heap) : Option (AVal × Heap) :=
  match eval P T x with
  | some (.ptr (some p)) => some (.ptr (some p), h)
  | some (.slice p n c) => some (.slice p n c, h)
  | _ => none

noncomputable def at_binOp (op : BinOp) (t : TypeId) (x : Operand) (y : Operand) (T : Env) (h : Heap) : Option (AVal × Heap) :=
  (eval P T x).bind fun a => (eval P T y).bind fun b => ret (binOp P op t x y a b h) h

noncomputable def at_unOp (op : UnOp) (x : Operand) (T : Env) (h : Heap) : Option (AVal × Heap) :=
  (eval P T x).bind fun a => ret (unOp op a) h

noncomputable def at_convert (s : TypeId) (d : TypeId) (x : Operand) (T : Env) (h : Heap) : Option (AVal × Heap) :=
  (eval P T x).bind fun a => convert P s d a h

noncomputable def at_makeInterface (t : TypeId) (x : Operand) (T : Env) (h : Heap) : Option (AVal × Heap) :=
  (eval P T x).bind fun a => match P.underlying t with
    | some (.interface _) => none
    | some _ => some (.iface t a, h)
    | none => none

noncomputable def at_makeFunc (fn : Fn) (first : Array Operand) (cap : Array Operand) (T : Env) (h : Heap) : Option (AVal × Heap) :=
  (evals P T first.toList).bind fun a => (evals P T cap.toList).bind fun b => some (.func fn a b, h)

noncomputable def at_makeSlice (t : TypeId) (l : Operand) (c : Operand) (T : Env) (h : Heap) : Option (AVal × Heap) :=
  (eval P T l).bind fun l => (eval P T c).bind fun c => makeSlice P t l c h

noncomputable def at_slice (t : TypeId) (x : Operand) (lo : Option Operand) (hi : Option Operand) (mx : Option Operand) (T : Env) (h : Heap) : Option (AVal × Heap) :=
  (eval P T x).bind fun x => (optEval P T lo).bind fun lo => (optEval P T hi).bind fun hi => (optEval P T mx).bind fun mx => ret (sliceOf P t x lo hi mx h) h

noncomputable def at_fieldAddr (s : TypeId) (x : Operand) (i : Nat) (T : Env) (h : Heap) : Option (AVal × Heap) :=
  (eval P T x).bind fun x => ret (fieldAddr P s x i) h

noncomputable def at_field (s : TypeId) (x : Operand) (i : Nat) (T : Env) (h : Heap) : Option (AVal × Heap) :=
  (eval P T x).bind fun x => ret (fieldOf P s x i) h

noncomputable def at_indexAddr (t : TypeId) (x : Operand) (i : Operand) (T : Env) (h : Heap) : Option (AVal × Heap) :=
  (eval P T x).bind fun x => (eval P T i).bind fun i => ret (indexAddr P t x i) h

noncomputable def at_index (t : TypeId) (x : Operand) (i : Operand) (T : Env) (h : Heap) : Option (AVal × Heap) :=
  (eval P T x).bind fun x => (eval P T i).bind fun i => ret (index P t x i) h

noncomputable def at_range (t : TypeId) (x : Operand) (T : Env) (h : Heap) : Option (AVal × Heap) :=
  (eval P T x).bind fun x => match P.underlying t, x with
    | some .string, .str s => some (.ptr (some ⟨h.next, 0, 0⟩), h.push (.siter s 0))
    | _, _ => none

noncomputable def at_next (x : Operand) (b : Bool) (T : Env) (h : Heap) : Option (AVal × Heap) :=
  match b with
  | false => none
  | true => (eval P T x).bind fun x => match x with
    | .ptr (some p) => match p.off, h.objs.getL p.fam with
      | 0, some (.siter s pos) => match Nat.blt pos s.length with
        | true => let (c, width) := Utf8.decode ⟨s.toArray⟩ pos
          some (.tuple [.bool true, .int .i64 pos, .int .i32 c], h.put p.fam (.siter s (pos + width)))
        | false => some (.tuple [.bool false], h)
      | _, _ => none
    | _ => none

noncomputable def at_extract (x : Operand) (i : Nat) (T : Env) (h : Heap) : Option (AVal × Heap) :=
  (eval P T x).bind fun x => ret (extract x i) h

noncomputable def at_call (callF : FuncId → List AVal → Heap → Option (AVal × Heap)) (c : Call) (T : Env) (h : Heap) : Option (AVal × Heap) :=
  (evals P T c.args.toList).bind fun args => Callee.rec
    (fun f => match eval P T f with
      | some (.func (.func g) first cap) => callF g (first ++ args ++ cap) h
      | _ => none)
    (fun _ _ => none)
    (fun b => builtin P b c.argTypes args h) c.callee

/-- What an operation does. -/
noncomputable def oper (callF : FuncId → List AVal → Heap → Option (AVal × Heap)) (o : Op) : Env → Heap → Option (AVal × Heap) :=
  Op.rec (motive := fun _ => Env → Heap → Option (AVal × Heap))
    (fun x => at_move P x)
    (fun x => at_move P x)
    (fun c a b => at_pick P c a b)
    (fun t => at_alloc P t)
    (fun t x => at_box P t x)
    (fun t ps => at_build P t ps)
    (fun t n ps => at_buildSlice P t n ps)
    (fun _ _ _ _ _ _ => none)
    (fun t a => at_load P t a)
    (fun t a x => at_store P t a x)
    (fun _ _ _ => none)
    (fun _ _ _ => none)
    (fun x => at_nilCheck P x)
    (fun op t x y _ => at_binOp P op t x y)
    (fun op _ x => at_unOp P op x)
    (fun s d x => at_convert P s d x)
    (fun _ _ _ _ => none)
    (fun t x => at_makeInterface P t x)
    (fun fn first cap => at_makeFunc P fn first cap)
    (fun _ _ _ _ => none)
    (fun _ _ _ _ => none)
    (fun t l c => at_makeSlice P t l c)
    (fun t x lo hi mx => at_slice P t x lo hi mx)
    (fun s x i => at_fieldAddr P s x i)
    (fun s x i => at_field P s x i)
    (fun t x i => at_indexAddr P t x i)
    (fun t x i => at_index P t x i)
    (fun _ _ _ _ _ _ => none)
    (fun _ _ _ _ _ _ => none)
    (fun _ _ _ _ _ => none)
    (fun _ _ _ _ _ _ => none)
    (fun t x => at_range P t x)
    (fun x b => at_next P x b)
    (fun _ _ _ => none)
    (fun _ _ _ _ _ _ => none)
    (fun x i => at_extract P x i)
    (fun c => at_call P callF c)
    (fun _ _ _ => none)
    (fun _ _ _ => none)
    (fun _ _ _ => none)
    (fun _ _ _ _ => none)
    (fun _ _ _ _ _ => none)
    (fun _ _ _ _ => none) o

inductive AExit where
  | normal
  | exit (id : Nat)
  | ret

/-- Does an operation leave memory alone, and read none of it? -/
def quietOp : Op → Bool
  | .binOp op .. => match op with | .eql | .neq => false | _ => true
  | .move _ | .assign _ | .pick .. | .build .. | .nilCheck _ | .unOp .. | .makeInterface .. | .makeFunc .. | .fieldAddr .. | .field .. | .indexAddr .. | .index .. | .extract .. => true
  | _ => false

/-- The operations that stand before one whose edges are given; 'ms' are those of the operations ahead of it. -/
def maskOf (ms : List Nat) : List Edge → Nat
  | [] => 0
  | e :: es => match Region.binds .any e with
    | false => maskOf ms es
    | true => match ms[e.on]? with
      | some x => Nat.lor (Nat.lor (maskOf ms es) x) (Nat.shiftLeft 1 e.on)
      | none => maskOf ms es

def masksFrom : List Nat → List Oper → List Nat
  | ms, [] => ms
  | ms, o :: rest => masksFrom (ms ++ [maskOf ms o.after.toList]) rest

/-- For each operation of a region: which of those ahead of it always come before it. -/
def masks (ops : Array Oper) : List Nat := masksFrom [] ops.toList

/-- Does operation i come before operation j, in all orders? -/
def ahead (ms : List Nat) (i j : Nat) : Bool := match ms[j]? with
  | some m => Nat.testBit m i
  | none => false

def loudFrom (ms : List Nat) (l : Nat) : Nat → List Oper → Bool
  | _, [] => true
  | j, o :: rest => (quietOp o.op || Nat.beq j l || (match Nat.ble j l with | true => ahead ms j l | false => ahead ms l j)) && loudFrom ms l (j + 1) rest

/-- Is a loud operation ordered against all others that touch memory? -/
def loudOk (ops : Array Oper) (l : Nat) : Bool := loudFrom (masks ops) l 0 ops.toList

def wanted (ops : Array Oper) (T : Env) (o : Oper) : Option Bool :=
  match o.guard with
  | none => some true
  | some (j, want) => match (ops[j]?).bind (·.dst) with
    | none => none
    | some d => match T.get d with
      | some (.bool b) => some (b == want)
      | some (.tuple []) => some false
      | _ => none

def putD (T : Env) (d : Option Tmp) (v : AVal) : Env := match d with
  | some d => T.set d v
  | none => T

def enterAt (i : Nat) : List AVal → Env → Env
  | [], T => T
  | a :: as, T => enterAt (i + 1) as (T.set i a)

def enter (args : List AVal) : Env := enterAt 0 args .leaf

def resultsOf (T : Env) (h : Heap) : List ResultVar → Option (List AVal)
  | [] => some []
  | .tmp t :: rs => (T.get t).bind fun v => (resultsOf T h rs).map (v :: ·)
  | .cell a t :: rs => (T.get a).bind fun p => (load P t p h).bind fun v => (resultsOf T h rs).map (v :: ·)

def resultOf (fn : Func) (T : Env) (h : Heap) : Option AVal :=
  (resultsOf P T h fn.results.toList).map fun vs => match vs with
    | [v] => v
    | vs => .tuple vs

/-- Library functions without a body. -/
def extern (fn : Func) (args : List AVal) (h : Heap) : Option (AVal × Heap) :=
  match fn.origin with
  | "" => match fn.name, args with
    | "internal/abi.NoEscape", [x] => some (x, h)
    | "internal/bytealg.MakeNoZero", [.int .i64 n] => (natOf n 1000000000).bind fun n => match fn.resultTypes.toList with
      | [t] => match P.underlying t with
        | some (.slice e) => some (.slice (some ⟨h.next, 0, 0⟩) n .toEnd, h.push (.cells { flexed e 1 [] false with size := n }))
        | _ => none
      | _ => none
    | "internal/bytealg.IndexByteString", [.str s, .int .u8 c] => some (.int .i64 (firstIdx ⟨s.toArray⟩ c.toNat.toUInt8), h)
    | "internal/bytealg.CountString", [.str s, .int .u8 c] => some (.int .i64 (Lib.countByte s c.toNat.toUInt8), h)
    | _, _ => none
  | _ => none

/-- One operation of a region that does not draw its order. -/
noncomputable def opAt (callF : FuncId → List AVal → Heap → Option (AVal × Heap)) (all : Array Oper) (o : Oper) (T : Env) (h : Heap) : Option (Env × Heap) :=
  match wanted all T o with
  | none => none
  | some b => match b with
    | false => some (putD T o.dst (.tuple []), h)
    | true => match oper P callF o.op T h with
      | none => none
      | some r => Prod.rec (fun v h' => Bool.rec none (some (putD T o.dst v, h')) (Nat.ble h.next h'.next)) r

noncomputable def ops (callF : FuncId → List AVal → Heap → Option (AVal × Heap)) (all : Array Oper) (l : List Oper) : Env → Heap → Option (Env × Heap) :=
  List.rec (motive := fun _ => Env → Heap → Option (Env × Heap)) (fun T h => some (T, h))
    (fun o _ ih T h => Option.rec none (fun r => Prod.rec ih r) (opAt P callF all o T h)) l

/-- One operation of a region that draws its order: it leaves all that was there alone, or stands in order with all others that touch memory. -/
noncomputable def opAtD (callF : FuncId → List AVal → Heap → Option (AVal × Heap)) (all : Array Oper) (o : Oper) (i : Nat) (T : Env) (h : Heap) : Option (Env × Heap) :=
  match wanted all T o with
  | none => none
  | some false => some (putD T o.dst (.tuple []), h)
  | some true => match oper P callF o.op T { h with low := h.next } with
    | none => none
    | some (v, h') => match Nat.ble h.next h'.next && (Nat.ble h.next h'.low || loudOk all i) with
      | false => none
      | true => some (putD T o.dst v, { h' with low := match Nat.ble h.low h'.low with | true => h.low | false => h'.low })

noncomputable def opsD (callF : FuncId → List AVal → Heap → Option (AVal × Heap)) (all : Array Oper) (l : List Oper) : Nat → Env → Heap → Option (Env × Heap) :=
  List.rec (motive := fun _ => Nat → Env → Heap → Option (Env × Heap)) (fun _ T h => some (T, h))
    (fun o _ ih i T h => Option.rec none (fun r => Prod.rec (fun T' h' => ih (i + 1) T' h') r) (opAtD P callF all o i T h)) l

def dstOk (n : Nat) (o : Oper) : Bool := match o.dst with
  | some d => Nat.blt d n
  | none => true

def apartFrom (ops : Array Oper) (ms : List Nat) (x : Oper) (i : Nat) : Nat → List Oper → Bool
  | _, [] => true
  | j, y :: rest => (x.apart ops y || ahead ms i j) && apartFrom ops ms x i (j + 1) rest

def apartAll (ops : Array Oper) (ms : List Nat) : Nat → List Oper → Bool
  | _, [] => true
  | i, x :: rest => apartFrom ops ms x i (i + 1) rest && apartAll ops ms (i + 1) rest

def edgesBack : Nat → List Oper → Bool
  | _, [] => true
  | i, o :: rest => o.after.toList.all (fun e => !Region.binds .any e || Nat.blt e.on i) && edgesBack (i + 1) rest

def goodRegion (n : Nat) (l : Array Oper) (draw : Bool) : Bool :=
  l.toList.all (dstOk n) && (!draw || (apartAll l (masks l) 0 l.toList && edgesBack 0 l.toList))

/-- Whatever two operations of a region have to do with each other's variables, they come in one order. -/
noncomputable def goodCode (n : Nat) (c : Code) : Bool :=
  Code.rec (motive := fun _ => Bool) true (fun _ l d => goodRegion n l d) (fun _ _ a b => a && b) (fun _ _ _ a b => a && b) (fun _ _ a => a) (fun _ a => a)
    (fun _ _ _ _ _ _ => true) (fun _ => true) (fun _ _ => true) (fun _ => true) (fun _ => true) true (fun _ => true) c

noncomputable def goodFunc (fn : Func) : Bool := !(fn.name == "runtime.NumGoroutine") && match fn.body with
  | none => true
  | some c => goodCode fn.ntmps c

abbrev Res := Option (AExit × Env × Heap)

/-- What stands behind, where a piece of code ends normally. -/
noncomputable def thenF (r : Res) (k : Env → Heap → Res) : Res :=
  Option.rec none (fun r => Prod.rec (fun e r => AExit.rec (Prod.rec k r) (fun i => some (.exit i, r)) (some (.ret, r)) e) r) r

/-- Up to 2 ^ d rounds. -/
noncomputable def iter (f : Env → Heap → Res) (d : Nat) : Env → Heap → Res :=
  Nat.rec (motive := fun _ => Env → Heap → Res) f (fun _ ih T h => thenF (ih T h) ih) d

noncomputable def upto (f : Env → Heap → Res) (n : Nat) : Nat → Env → Heap → Res :=
  Nat.rec (motive := fun _ => Nat → Env → Heap → Res) (fun _ _ _ => none) (fun _ ih k T h => thenF (iter f k T h) (ih (k + 1))) n

noncomputable def blockF (id : Nat) (r : Res) : Res :=
  match r with
  | some (.exit i, T, h) => match Nat.beq i id with
    | true => some (.normal, T, h)
    | false => some (.exit i, T, h)
  | r => r

noncomputable def condF (c : Option AVal) (a b : Env → Heap → Res) (T : Env) (h : Heap) : Res :=
  match c with
  | some (.bool true) => a T h
  | some (.bool false) => b T h
  | _ => none

noncomputable def regionF (callF : FuncId → List AVal → Heap → Option (AVal × Heap)) (l : Array Oper) (draw : Bool) (T : Env) (h : Heap) : Res :=
  Option.rec none (fun r => some (.normal, r)) (Bool.rec (ops P callF l l.toList T h) (opsD P callF l l.toList 0 T h) draw)

noncomputable def code (callF : FuncId → List AVal → Heap → Option (AVal × Heap)) (c : Code) : Env → Heap → Res :=
  Code.rec (motive := fun _ => Env → Heap → Res)
    (fun T h => some (.normal, T, h))
    (fun _ l draw T h => regionF P callF l draw T h)
    (fun _ _ fa fb T h => thenF (fa T h) fb)
    (fun c _ _ fa fb T h => condF (eval P T c) fa fb T h)
    (fun id _ f T h => blockF id (f T h))
    (fun _ f T h => upto f 20 0 T h)
    (fun _ _ _ _ _ _ _ _ => none)
    (fun id T h => some (.exit id, T, h))
    (fun _ _ _ _ => none)
    (fun _ _ _ => none)
    (fun _ _ _ => none)
    (fun T h => some (.ret, T, h))
    (fun _ _ _ => none) c

noncomputable def finish (fn : Func) (r : Res) : Option (AVal × Heap) :=
  match r with
  | some (.normal, T, h) => (resultOf P fn T h).map fun v => (v, h)
  | some (.ret, T, h) => (resultOf P fn T h).map fun v => (v, h)
  | _ => none

noncomputable def callStep (ok : Nat) (callF : FuncId → List AVal → Heap → Option (AVal × Heap)) (f : FuncId) (args : List AVal) (h : Heap) : Option (AVal × Heap) :=
  match Nat.testBit ok f with
  | false => none
  | true => match P.funcs[f]? with
    | none => none
    | some fn => match fn.body with
      | none => extern P fn args h
      | some c => finish P fn (code P callF c (enter args) h)

/-- Only functions whose bit is set in 'ok' are entered. -/
noncomputable def call (ok d : Nat) : FuncId → List AVal → Heap → Option (AVal × Heap) :=
  Nat.rec (motive := fun _ => FuncId → List AVal → Heap → Option (AVal × Heap)) (fun _ _ _ => none) (fun _ ih f args h => callStep P ok ih f args h) d
end
end
end Go.Abs

namespace Go.Abs
namespace N4
variable {α : Type}

theorem sel_upd_same (d : D4) (f : N4 α → N4 α) (t : N4 α) (h : ∀ x, t ≠ .val x) : sel d (upd d f t) = f (sel d t) := by
  cases t with
  | leaf => cases d <;> rfl
  | node a b c e => cases d <;> rfl
  | val x => exact absurd rfl (h x)
theorem sel_upd_val (d e : D4) (f : N4 α → N4 α) (x : α) : sel d (upd e f (.val x)) = .leaf := by cases d <;> cases e <;> rfl
theorem sel_upd_other {d e : D4} (f : N4 α → N4 α) (t : N4 α) (h : e ≠ d) : sel d (upd e f t) = sel d t := by
  cases t <;> cases d <;> cases e <;> first | rfl | exact absurd rfl h

theorem dig_lt (n m : Nat) : dig n = dig m ↔ n % 4 = m % 4 := by
  have hn : n % 4 < 4 := Nat.mod_lt _ (by decide)
  have hm : m % 4 < 4 := Nat.mod_lt _ (by decide)
  unfold dig
  show _ ↔ Nat.mod n 4 = Nat.mod m 4
  have hn' : Nat.mod n 4 < 4 := hn
  have hm' : Nat.mod m 4 < 4 := hm
  generalize Nat.mod n 4 = a at *
  generalize Nat.mod m 4 = b at *
  match a, b, hn', hm' with
  | 0, 0, _, _ => simp
  | 0, 1, _, _ => simp
  | 0, 2, _, _ => simp
  | 0, 3, _, _ => simp
  | 1, 0, _, _ => simp
  | 1, 1, _, _ => simp
  | 1, 2, _, _ => simp
  | 1, 3, _, _ => simp
  | 2, 0, _, _ => simp
  | 2, 1, _, _ => simp
  | 2, 2, _, _ => simp
  | 2, 3, _, _ => simp
  | 3, 0, _, _ => simp
  | 3, 1, _, _ => simp
  | 3, 2, _, _ => simp
  | 3, 3, _, _ => simp

theorem path_inj {j k : Nat} : path j = path k ↔ j % 256 = k % 256 := by
  unfold path
  simp only [P4.mk.injEq, dig_lt]
  show (j / 64) % 4 = (k / 64) % 4 ∧ (j / 16) % 4 = (k / 16) % 4 ∧ (j / 4) % 4 = (k / 4) % 4 ∧ j % 4 = k % 4 ↔ _
  omega

/-- A tree that holds no value above a depth. -/
def deep : Nat → N4 α → Prop
  | 0, _ => True
  | d + 1, t => match t with
    | .leaf => True
    | .node a b c e => deep d a ∧ deep d b ∧ deep d c ∧ deep d e
    | .val _ => False

theorem deep_leaf : ∀ d, deep d (N4.leaf : N4 α)
  | 0 => trivial
  | _ + 1 => trivial
theorem deep_sel {d : Nat} {t : N4 α} (h : deep (d + 1) t) (x : D4) : deep d (sel x t) := by
  cases t with
  | leaf => exact deep_leaf d
  | node a b c e => obtain ⟨h1, h2, h3, h4⟩ := h; cases x <;> assumption
  | val x => exact h.elim
theorem deep_upd {d : Nat} {t : N4 α} (h : deep (d + 1) t) (x : D4) {f : N4 α → N4 α} (hf : ∀ s, deep d s → deep d (f s)) : deep (d + 1) (upd x f t) := by
  cases t with
  | leaf => cases x <;> exact (by refine ⟨?_, ?_, ?_, ?_⟩ <;> first | exact hf _ (deep_leaf d) | exact deep_leaf d)
  | node a b c e =>
    obtain ⟨h1, h2, h3, h4⟩ := h
    cases x <;> exact (by refine ⟨?_, ?_, ?_, ?_⟩ <;> first | assumption | exact hf _ (by assumption))
  | val x => exact h.elim
theorem deep_val {d : Nat} {t : N4 α} (h : deep (d + 1) t) (x : α) : t ≠ .val x := by
  intro e; subst e; exact h

theorem sel4_upd4_same (p : P4) (f : N4 α → N4 α) (t : N4 α) (h : deep 4 t) : sel4 p (upd4 p f t) = f (sel4 p t) := by
  cases p with
  | mk a b c d =>
    show sel d (sel c (sel b (sel a (upd a (upd b (upd c (upd d f))) t)))) = f (sel d (sel c (sel b (sel a t))))
    rw [sel_upd_same a _ t (deep_val h), sel_upd_same b _ _ (deep_val (deep_sel h a)), sel_upd_same c _ _ (deep_val (deep_sel (deep_sel h a) b)),
      sel_upd_same d _ _ (deep_val (deep_sel (deep_sel (deep_sel h a) b) c))]

theorem sel4_upd4_other {p q : P4} (f : N4 α → N4 α) (t : N4 α) (h : deep 4 t) (hne : q ≠ p) : sel4 p (upd4 q f t) = sel4 p t := by
  cases p with
  | mk a b c d =>
  cases q with
  | mk a' b' c' d' =>
    show sel d (sel c (sel b (sel a (upd a' (upd b' (upd c' (upd d' f))) t)))) = sel d (sel c (sel b (sel a t)))
    by_cases ha : a' = a
    · subst ha
      rw [sel_upd_same a' _ t (deep_val h)]
      by_cases hb : b' = b
      · subst hb
        rw [sel_upd_same b' _ _ (deep_val (deep_sel h a'))]
        by_cases hc : c' = c
        · subst hc
          rw [sel_upd_same c' _ _ (deep_val (deep_sel (deep_sel h a') b'))]
          have hd : d' ≠ d := by intro e; subst e; exact hne rfl
          rw [sel_upd_other _ _ hd]
        · rw [sel_upd_other _ _ hc]
      · rw [sel_upd_other _ _ hb]
    · rw [sel_upd_other _ _ ha]

theorem deep_upd4 {n : Nat} {t : N4 α} (p : P4) {f : N4 α → N4 α} (h : deep (n + 4) t) (hf : ∀ s, deep n s → deep n (f s)) : deep (n + 4) (upd4 p f t) := by
  cases p with
  | mk a b c d =>
    show deep (n + 3 + 1) (upd a (upd b (upd c (upd d f))) t)
    refine deep_upd h a fun s hs => ?_
    refine deep_upd (d := n + 2) hs b fun s hs => ?_
    refine deep_upd (d := n + 1) hs c fun s hs => ?_
    exact deep_upd (d := n) hs d hf
theorem deep_sel4 {n : Nat} {t : N4 α} (p : P4) (h : deep (n + 4) t) : deep n (sel4 p t) := by
  cases p with
  | mk a b c d => exact deep_sel (d := n) (deep_sel (d := n + 1) (deep_sel (d := n + 2) (deep_sel (d := n + 3) h a) b) c) d
theorem deep_le {n : Nat} : ∀ {m : Nat} {t : N4 α}, n ≤ m → deep m t → deep n t := by
  induction n with
  | zero => intros; trivial
  | succ n ih =>
    intro m t hm h
    cases m with
    | zero => omega
    | succ m =>
      cases t with
      | leaf => trivial
      | node a b c e => obtain ⟨h1, h2, h3, h4⟩ := h; exact ⟨ih (by omega) h1, ih (by omega) h2, ih (by omega) h3, ih (by omega) h4⟩
      | val x => exact h.elim

theorem ite_rec {β : Type} (b : Bool) (x y : β) : (Bool.rec x y b : β) = if b then y else x := by cases b <;> rfl

theorem get_set (t : N4 α) (h : deep 4 t) (k j : Nat) (x : α) : get (set t k x) j = if j = k then (if k < 256 then some x else none) else get t j := by
  unfold get set
  simp only [ite_rec, Nat.blt_eq]
  by_cases hk : k < 256
  · simp only [hk, if_true]
    by_cases hj : j < 256
    · simp only [hj, if_true]
      by_cases hjk : j = k
      · subst hjk
        simp only [if_true]
        rw [sel4_upd4_same _ _ _ h]; rfl
      · simp only [hjk, if_false]
        rw [sel4_upd4_other _ _ h]
        intro e
        rw [path_inj] at e
        omega
    · simp only [hj, if_false]
      rw [if_neg (by omega)]
  · simp only [hk, if_false]
    by_cases hjk : j = k
    · subst hjk; simp [hk]
    · simp [hjk]
theorem deep_set {t : N4 α} (h : deep 4 t) (k : Nat) (x : α) : deep 4 (set t k x) := by
  unfold set
  cases Nat.blt k 256
  · exact h
  · exact deep_upd4 (n := 0) _ h (fun _ _ => trivial)
theorem get_leaf (k : Nat) : get (N4.leaf : N4 α) k = none := by
  unfold get
  cases Nat.blt k 256 <;> rfl

theorem getL_setL (t : N4 α) (h : deep 8 t) (k j : Nat) (x : α) : getL (setL t k x) j = if j = k then (if k < 65536 then some x else none) else getL t j := by
  unfold getL setL
  simp only [ite_rec, Nat.blt_eq]
  have h4 : deep 4 t := deep_le (by decide) h
  by_cases hk : k < 65536
  · simp only [hk, if_true]
    by_cases hj : j < 65536
    · simp only [hj, if_true]
      by_cases hq : j / 256 = k / 256
      · have e1 : Nat.div j 256 = Nat.div k 256 := hq
        rw [e1, sel4_upd4_same _ _ _ h4]
        by_cases hjk : j = k
        · subst hjk
          simp only [if_true]
          rw [sel4_upd4_same _ _ _ (deep_sel4 (n := 4) _ h)]; rfl
        · simp only [hjk, if_false]
          rw [sel4_upd4_other _ _ (deep_sel4 (n := 4) _ h)]
          intro e
          rw [path_inj] at e
          omega
      · rw [sel4_upd4_other _ _ h4]
        · rw [if_neg]; intro e; subst e; exact hq rfl
        · intro e
          rw [path_inj] at e
          have e' : (k / 256) % 256 = (j / 256) % 256 := e
          omega
    · simp only [hj, if_false]
      rw [if_neg (by omega)]
  · simp only [hk, if_false]
    by_cases hjk : j = k
    · subst hjk; simp [hk]
    · simp [hjk]
theorem deep_setL {t : N4 α} (h : deep 8 t) (k : Nat) (x : α) : deep 8 (setL t k x) := by
  unfold setL
  cases Nat.blt k 65536
  · exact h
  · exact deep_upd4 (n := 4) _ h (fun s hs => deep_upd4 (n := 0) _ hs (fun _ _ => trivial))
theorem getL_leaf (k : Nat) : getL (N4.leaf : N4 α) k = none := by
  unfold getL
  cases Nat.blt k 65536 <;> rfl
theorem getL_ge (t : N4 α) {k : Nat} (h : 65536 ≤ k) : getL t k = none := by
  unfold getL
  simp only [ite_rec, Nat.blt_eq]
  rw [if_neg (by omega)]
end N4

namespace Tr
variable {α : Type}
open N4 (ite_rec)

theorem get_leaf (k : Nat) : get (leaf : Tr α) k = none := rfl
theorem get_node (l r : Tr α) (v : Option α) (k : Nat) :
    get (node l v r) k = if k = 0 then v else if k % 2 = 1 then get l ((k - 1) / 2) else get r ((k - 1) / 2) := by
  show (Bool.rec (Bool.rec (get r ((k - 1) / 2)) (get l ((k - 1) / 2)) (Nat.beq (k % 2) 1)) v (Nat.beq k 0) : Option α) = _
  rw [ite_rec, ite_rec]; simp only [Nat.beq_eq]
theorem set_node (l r : Tr α) (v : Option α) (k : Nat) (x : α) :
    set (node l v r) k x = if k = 0 then node l (some x) r else if k % 2 = 1 then node (set l ((k - 1) / 2) x) v r else node l v (set r ((k - 1) / 2) x) := by
  show (Bool.rec (Bool.rec (node l v (set r ((k - 1) / 2) x)) (node (set l ((k - 1) / 2) x) v r) (Nat.beq (k % 2) 1)) (node l (some x) r) (Nat.beq k 0) : Tr α) = _
  rw [ite_rec, ite_rec]; simp only [Nat.beq_eq]
theorem single_succ (d k : Nat) (x : α) :
    single (d + 1) k x = if k = 0 then node leaf (some x) leaf else if k % 2 = 1 then node (single d ((k - 1) / 2) x) none leaf else node leaf none (single d ((k - 1) / 2) x) := by
  show (Bool.rec (Bool.rec (node leaf none (single d ((k - 1) / 2) x)) (node (single d ((k - 1) / 2) x) none leaf) (Nat.beq (k % 2) 1)) (node leaf (some x) leaf) (Nat.beq k 0) : Tr α) = _
  rw [ite_rec, ite_rec]; simp only [Nat.beq_eq]

theorem get_single : ∀ (d k : Nat) (x : α), k ≤ d → ∀ j, get (single d k x) j = if j = k then some x else none := by
  intro d
  induction d with
  | zero =>
    intro k x hk j
    obtain rfl : k = 0 := by omega
    show get (node leaf (some x) leaf) j = _
    rw [get_node]
    by_cases hj : j = 0
    · simp [hj]
    · simp [hj, get_leaf]
  | succ d ih =>
    intro k x hk j
    rw [single_succ]
    by_cases h0 : k = 0
    · subst h0
      simp only [if_true]
      rw [get_node]
      by_cases hj : j = 0
      · simp [hj]
      · simp [hj, get_leaf]
    · simp only [h0, if_false]
      by_cases h1 : k % 2 = 1
      · simp only [h1, if_true]
        rw [get_node]
        by_cases hj : j = 0
        · subst hj; rw [if_pos rfl, if_neg (by omega)]
        · rw [if_neg hj]
          by_cases hj1 : j % 2 = 1
          · rw [if_pos hj1, ih _ _ (by omega)]
            by_cases he : j = k
            · subst he; simp
            · rw [if_neg he, if_neg (by omega)]
          · rw [if_neg hj1, get_leaf, if_neg (by intro e; subst e; omega)]
      · simp only [h1, if_false]
        rw [get_node]
        by_cases hj : j = 0
        · subst hj; rw [if_pos rfl, if_neg (by omega)]
        · rw [if_neg hj]
          by_cases hj1 : j % 2 = 1
          · rw [if_pos hj1, get_leaf, if_neg (by intro e; subst e; omega)]
          · rw [if_neg hj1, ih _ _ (by omega)]
            by_cases he : j = k
            · subst he; simp
            · rw [if_neg he, if_neg (by omega)]

theorem get_set (t : Tr α) : ∀ (k : Nat) (x : α) (j : Nat), get (set t k x) j = if j = k then some x else get t j := by
  induction t with
  | leaf => intro k x j; exact get_single k k x (Nat.le_refl _) j
  | node l v r ihl ihr =>
    intro k x j
    rw [set_node]
    by_cases h0 : k = 0
    · subst h0
      simp only [if_true]
      rw [get_node, get_node]
      by_cases hj : j = 0
      · simp [hj]
      · simp [hj]
    · simp only [h0, if_false]
      by_cases h1 : k % 2 = 1
      · simp only [h1, if_true]
        rw [get_node, get_node]
        by_cases hj : j = 0
        · subst hj; rw [if_pos rfl, if_neg (by omega), if_pos rfl]
        · rw [if_neg hj, if_neg hj]
          by_cases hj1 : j % 2 = 1
          · rw [if_pos hj1, if_pos hj1, ihl]
            by_cases he : j = k
            · subst he; simp
            · rw [if_neg he, if_neg (by omega)]
          · rw [if_neg hj1, if_neg hj1, if_neg (by intro e; subst e; omega)]
      · simp only [h1, if_false]
        rw [get_node, get_node]
        by_cases hj : j = 0
        · subst hj; rw [if_pos rfl, if_neg (by omega), if_pos rfl]
        · rw [if_neg hj, if_neg hj]
          by_cases hj1 : j % 2 = 1
          · rw [if_pos hj1, if_pos hj1, if_neg (by intro e; subst e; omega)]
          · rw [if_neg hj1, if_neg hj1, ihr]
            by_cases he : j = k
            · subst he; simp
            · rw [if_neg he, if_neg (by omega)]
end Tr
end Go.Abs

namespace Go.Abs

/-- Where a generation of a family lies: its block, the cell at which the place 'start' lies, the place behind its last cell, and the cells of an element. -/
structure RB where
  block : Nat
  base : Nat
  start : Nat
  ends : Nat
  es : Nat

def RB.at (b : RB) (off : Nat) : Addr := ⟨b.block, b.base + (off - b.start), none⟩
def RB.cap (b : RB) (off : Nat) : Nat := (b.ends - off) / b.es

abbrev Real := Nat → Nat → Option RB

mutual
/-- The model's value that an abstract one stands for. -/
def conc (σ : Real) : AVal → Value
  | .bool b => .bool b
  | .int k n => .int k n
  | .str s => .string ⟨s.toArray⟩
  | .ptr none => .pointer none
  | .ptr (some p) => .pointer ((σ p.fam p.gen).map fun b => b.at p.off)
  | .slice none len cap => .slice none len (match cap with | .exact c => c | .toEnd => 0)
  | .slice (some p) len cap => match σ p.fam p.gen with
    | some b => .slice (some (b.at p.off)) len (match cap with | .exact c => c | .toEnd => b.cap p.off)
    | none => .slice none len 0
  | .zslice p low es => match σ p.fam p.gen with
    | some b => if b.cap p.off = low then .slice (some (b.at p.off)) 0 0 else .slice (some (b.at (p.off + low * es))) 0 (b.cap p.off - low)
    | none => .slice none 0 0
  | .map _ => .map none
  | .func fn first cap => .func fn (concs σ first).toArray (concs σ cap).toArray
  | .nilFunc => .nilFunc
  | .iface t v => .iface t (conc σ v)
  | .nilIface => .nilIface
  | .agg cs => .agg (concs σ cs).toArray
  | .tuple vs => .tuple (concs σ vs).toArray
def concs (σ : Real) : List AVal → List Value
  | [] => []
  | v :: vs => conc σ v :: concs σ vs
end

theorem concs_eq (σ : Real) (l : List AVal) : concs σ l = l.map (conc σ) := by
  induction l with
  | nil => rfl
  | cons v l ih => simp [concs, ih]

/-- One cell's value. -/
def AVal.scalar : AVal → Bool
  | .agg _ => false
  | .tuple _ => false
  | _ => true

mutual
/-- All addresses in a value are laid. -/
def okv (σ : Real) : AVal → Prop
  | .ptr (some p) => ∃ b, σ p.fam p.gen = some b ∧ b.start ≤ p.off
  | .slice none _ cap => ∃ c, cap = .exact c
  | .slice (some p) len cap => ∃ b, σ p.fam p.gen = some b ∧ b.start ≤ p.off ∧ (cap = .toEnd → 0 < b.es ∧ p.off + len * b.es ≤ b.ends)
  | .zslice p low es => ∃ b, σ p.fam p.gen = some b ∧ b.start ≤ p.off ∧ 0 < b.es ∧ es = b.es ∧ p.off + low * b.es ≤ b.ends
  | .map r => r = none
  | .func _ first cap => okvs σ first ∧ okvs σ cap
  | .iface _ v => okv σ v
  | .agg cs => okvs σ cs ∧ cs.all AVal.scalar = true
  | .tuple vs => okvs σ vs
  | _ => True
def okvs (σ : Real) : List AVal → Prop
  | [] => True
  | v :: vs => okv σ v ∧ okvs σ vs
end

theorem okvs_iff {σ : Real} {l : List AVal} : okvs σ l ↔ ∀ v ∈ l, okv σ v := by
  induction l with
  | nil => simp [okvs]
  | cons v l ih => simp [okvs, ih]

def Real.le (σ σ' : Real) : Prop := ∀ f g b, σ f g = some b → σ' f g = some b
theorem Real.le_refl (σ : Real) : σ.le σ := fun _ _ _ h => h
theorem Real.le_trans {a b c : Real} (h : a.le b) (k : b.le c) : a.le c := fun f g x hx => k f g x (h f g x hx)

mutual
theorem ext_v {σ σ' : Real} (h : σ.le σ') : ∀ v, okv σ v → okv σ' v ∧ conc σ' v = conc σ v
  | .bool _, _ => ⟨trivial, rfl⟩
  | .int _ _, _ => ⟨trivial, rfl⟩
  | .str _, _ => ⟨trivial, rfl⟩
  | .ptr none, _ => ⟨trivial, rfl⟩
  | .ptr (some p), ⟨b, hb, ho⟩ => ⟨⟨b, h _ _ _ hb, ho⟩, by simp only [conc, hb, h _ _ _ hb]⟩
  | .slice none _ _, hc => ⟨hc, rfl⟩
  | .slice (some p) len cap, ⟨b, hb, ho, hc⟩ => ⟨⟨b, h _ _ _ hb, ho, hc⟩, by simp only [conc, hb, h _ _ _ hb]⟩
  | .zslice p low es, ⟨b, hb, ho⟩ => ⟨⟨b, h _ _ _ hb, ho⟩, by simp only [conc, hb, h _ _ _ hb]⟩
  | .map _, hr => ⟨hr, rfl⟩
  | .func fn first cap, ⟨h1, h2⟩ =>
    have e1 := ext_vs h first h1
    have e2 := ext_vs h cap h2
    ⟨⟨e1.1, e2.1⟩, by simp only [conc, e1.2, e2.2]⟩
  | .nilFunc, _ => ⟨trivial, rfl⟩
  | .iface t v, hv => have e := ext_v h v hv; ⟨e.1, by simp only [conc, e.2]⟩
  | .nilIface, _ => ⟨trivial, rfl⟩
  | .agg cs, hv => have e := ext_vs h cs hv.1; ⟨⟨e.1, hv.2⟩, by simp only [conc, e.2]⟩
  | .tuple vs, hv => have e := ext_vs h vs hv; ⟨e.1, by simp only [conc, e.2]⟩
theorem ext_vs {σ σ' : Real} (h : σ.le σ') : ∀ l, okvs σ l → okvs σ' l ∧ concs σ' l = concs σ l
  | [], _ => ⟨trivial, rfl⟩
  | v :: vs, ⟨h1, h2⟩ =>
    have e1 := ext_v h v h1
    have e2 := ext_vs h vs h2
    ⟨⟨e1.1, e2.1⟩, by simp only [concs, e1.2, e2.2]⟩
end

/-- The cell of a family at a place. -/
noncomputable def ACells.cellAt (c : ACells) (i : Nat) : Option (AVal × Nat) :=
  match c.elems.get (i / c.es) with
  | some (vs, lo) => (vs[i % c.es]?).map fun v => (v, lo)
  | none => none

structure CWf (c : ACells) : Prop where
  pos : 0 < c.es
  full : ∀ q vs lo, c.elems.get q = some (vs, lo) → vs.length = c.es
  bnd : ∀ q vs lo, c.elems.get q = some (vs, lo) → lo ≤ c.gen ∧ (q + 1) * c.es ≤ c.size

structure CellsOk (σ : Real) (w : World) (g : Nat) (b : RB) (c : ACells) : Prop where
  gen : g ≤ c.gen
  es : b.es = c.es
  start : b.start ≤ c.start
  size : g = c.gen → c.size ≤ b.ends
  exact : c.flex = false → c.gen = 0 ∧ b.start = 0 ∧ b.ends = c.size ∧ c.start = 0
  heap : ∃ cs fr, w.heap[b.block]? = some (.cells cs c.ety fr) ∧ b.base + (b.ends - b.start) ≤ cs.size ∧
    (c.ro = false → b.base = 0 ∧ cs.size = b.ends - b.start ∧ (c.mark = false → fr = (0, 0)) ∧ fr.1 ≤ fr.2 ∧
      ∀ k, c.frz ≤ k → b.start ≤ k → k < b.ends → ¬ (fr.1 ≤ k - b.start ∧ k - b.start < fr.2)) ∧
    ∀ i v lo, c.cellAt i = some (v, lo) → c.start ≤ i → lo ≤ g → i < b.ends ∧ okv σ v ∧ v.scalar = true ∧ cs[b.base + (i - b.start)]? = some (conc σ v)

def ObjOk (σ : Real) (w : World) (g : Nat) (b : RB) : AObj → Prop
  | .siter s pos => w.heap[b.block]? = some (.stringIter ⟨s.toArray⟩ pos) ∧ b.base = 0 ∧ b.start = 0 ∧ g = 0
  | .cells c => CellsOk σ w g b c

noncomputable def Heap.obj (h : Heap) (f : Nat) : Option AObj := h.objs.getL f

def AObj.writable : AObj → Bool
  | .siter _ _ => true
  | .cells c => !c.ro

noncomputable def Heap.writable (h : Heap) (f : Nat) : Bool := match h.obj f with
  | some o => o.writable
  | none => false

theorem writable_of {h : Heap} {f : Nat} {o : AObj} (ho : h.obj f = some o) : h.writable f = o.writable := by simp [Heap.writable, ho]

structure Rel (P : Program) (B : Nat) (σ : Real) (h : Heap) (w : World) : Prop where
  deep : N4.deep 8 h.objs
  dom : ∀ f, h.next ≤ f → h.obj f = none
  full : ∀ f c, h.obj f = some (.cells c) → CWf c
  base : B ≤ w.heap.size
  glob : ∀ g, g < P.globals.size → ∃ b, σ g 0 = some b ∧ b.block = g ∧ b.base = 0 ∧ b.start = 0
  obj : ∀ f g b o, σ f g = some b → h.obj f = some o → ObjOk σ w g b o
  wr : ∀ f g b, σ f g = some b → h.writable f = true → B ≤ b.block
  live : ∀ f g b, σ f g = some b → b.block < w.heap.size
  apart : ∀ f g b f' g' b', σ f g = some b → σ f' g' = some b' → f ≠ f' → h.writable f = true → b.block ≠ b'.block
  alike : ∀ f g b g' b', σ f g = some b → σ f g' = some b' → b.block = b'.block → b' = b

structure Post (P : Program) (B : Nat) (σ : Real) (h : Heap) (w : World) (σ' : Real) (h' : Heap) (w' : World) : Prop where
  ext : σ.le σ'
  rel : Rel P B σ' h' w'
  next : h.next ≤ h'.next
  new : ∀ f g b, σ' f g = some b → σ f g = none → f < h'.next ∧
    (w.heap.size ≤ b.block ∧ h.next ≤ f ∨ (f < h.next ∧ (w.heap.size ≤ b.block ∨ h.writable f = true ∧ ∃ g0 b0, σ f g0 = some b0 ∧ b0.block = b.block)))
  frame : ∀ k, k < w.heap.size → (∀ f g b, σ f g = some b → b.block = k → h.writable f = false) → w'.heap[k]? = w.heap[k]?
  size : w.heap.size ≤ w'.heap.size
  os : w'.os = w.os
  tape : w'.tape = w.tape
  output : w'.output = w.output
  keep : ∀ f, f < h.next → h'.writable f = h.writable f
  soft : ∀ f, f < h.next → f < h'.low → h'.obj f = h.obj f ∧ ∀ g, σ' f g = σ f g
  low : h'.low ≤ h.low

/-- No family whose number is from 'from' on, and below 'to', is laid. -/
def Free (σ : Real) (lo hi : Nat) : Prop := ∀ f g, lo ≤ f → f < hi → σ f g = none

theorem Rel.drawn {P B σ h w} (H : Rel P B σ h w) {w' : World} (e : w'.heap = w.heap) : Rel P B σ h w' := by
  cases w; cases w'; cases e
  refine ⟨H.deep, H.dom, H.full, H.base, H.glob, fun f g b o hb ho => ?_, H.wr, H.live, H.apart, H.alike⟩
  have := H.obj f g b o hb ho
  cases o with
  | siter s pos => exact this
  | cells c => exact ⟨this.gen, this.es, this.start, this.size, this.exact, this.heap⟩

theorem Rel.low {P B σ h w} (H : Rel P B σ h w) (l : Nat) : Rel P B σ { h with low := l } w := ⟨H.deep, H.dom, H.full, H.base, H.glob, H.obj, H.wr, H.live, H.apart, H.alike⟩

theorem Post.refl {P B σ h w} (H : Rel P B σ h w) : Post P B σ h w σ h w :=
  ⟨Real.le_refl σ, H, Nat.le_refl _, fun f g b h1 h2 => absurd (h1.symm.trans h2) (by simp), fun _ _ _ => rfl, Nat.le_refl _, rfl, rfl, rfl, fun _ _ => rfl, fun _ _ _ => ⟨rfl, fun _ => rfl⟩, Nat.le_refl _⟩

theorem Post.drawn {P B σ h w σ' h' w'} (H : Post P B σ h w σ' h' w') {w2 : World} (e : w2.heap = w'.heap) (eo : w2.os = w'.os) (et : w2.tape = w'.tape) (eu : w2.output = w'.output) :
    Post P B σ h w σ' h' w2 :=
  ⟨H.ext, H.rel.drawn e, H.next, H.new, fun k hk hn => by rw [e]; exact H.frame k hk hn, by rw [e]; exact H.size, eo.trans H.os, et.trans H.tape, eu.trans H.output, H.keep, H.soft, H.low⟩

theorem Post.trans {P B σ0 h0 w0 σ1 h1 w1 σ2 h2 w2} (hf : Free σ0 h0.next h2.next) (H : Post P B σ0 h0 w0 σ1 h1 w1) (K : Post P B σ1 h1 w1 σ2 h2 w2) :
    Post P B σ0 h0 w0 σ2 h2 w2 := by
  refine ⟨Real.le_trans H.ext K.ext, K.rel, Nat.le_trans H.next K.next, ?_, ?_, Nat.le_trans H.size K.size, K.os.trans H.os, K.tape.trans H.tape, K.output.trans H.output, ?_, ?_, Nat.le_trans K.low H.low⟩
  · intro f g b h2 h0'
    cases h1' : σ1 f g with
    | some b1 =>
      obtain rfl : b1 = b := by have := K.ext _ _ _ h1'; rw [h2] at this; exact (Option.some.inj this).symm
      obtain ⟨a1, a2⟩ := H.new f g b1 h1' h0'
      exact ⟨Nat.lt_of_lt_of_le a1 K.next, a2⟩
    | none =>
      obtain ⟨a1, a2⟩ := K.new f g b h2 h1'
      refine ⟨a1, ?_⟩
      have hw := H.size
      have hn := H.next
      rcases a2 with ⟨a2, a3⟩ | ⟨a2, a3⟩
      · exact .inl ⟨by omega, by omega⟩
      · by_cases hlt : f < h0.next
        · refine .inr ⟨hlt, ?_⟩
          rcases a3 with a3 | ⟨a3, g0, b0, a4, a5⟩
          · exact .inl (by omega)
          · cases h00 : σ0 f g0 with
            | some b0' =>
              obtain rfl : b0' = b0 := by have := H.ext _ _ _ h00; rw [a4] at this; exact (Option.some.inj this).symm
              exact .inr ⟨by rw [← H.keep f hlt]; exact a3, g0, b0', h00, a5⟩
            | none =>
              obtain ⟨_, a7⟩ := H.new f g0 b0 a4 h00
              rcases a7 with ⟨_, a8⟩ | ⟨_, a8 | ⟨a9, g1, b1, a10, a11⟩⟩
              · omega
              · exact .inl (by rw [← a5]; exact a8)
              · exact .inr ⟨a9, g1, b1, a10, by rw [a11, a5]⟩
        · rcases a3 with a3 | ⟨_, g0, b0, a4, a5⟩
          · exact .inl ⟨by omega, by omega⟩
          · have : σ0 f g0 = none := hf f g0 (by omega) (by have := K.next; omega)
            obtain ⟨_, a7⟩ := H.new f g0 b0 a4 this
            rcases a7 with ⟨a8, a9⟩ | ⟨a8, _⟩
            · exact .inl ⟨by omega, a9⟩
            · omega
  · intro k hk hno
    rw [K.frame k (Nat.lt_of_lt_of_le hk H.size) ?_, H.frame k hk hno]
    intro f g b h1' hbk
    cases h00 : σ0 f g with
    | some b0 =>
      obtain rfl : b0 = b := by have := H.ext _ _ _ h00; rw [h1'] at this; exact (Option.some.inj this).symm
      by_cases hlt : f < h0.next
      · rw [H.keep f hlt]; exact hno f g b0 h00 hbk
      · by_cases h2lt : f < h2.next
        · have := hf f g (by omega) h2lt
          rw [this] at h00; cases h00
        · have hd : h1.obj f = none := H.rel.dom f (by have := K.next; omega)
          simp [Heap.writable, hd]
    | none =>
      obtain ⟨_, a7⟩ := H.new f g b h1' h00
      rcases a7 with ⟨a8, _⟩ | ⟨a6, a8 | ⟨a9, g1, b1, a10, a11⟩⟩
      · omega
      · omega
      · have := hno f g1 b1 a10 (by rw [a11, hbk])
        rw [this] at a9; cases a9
  · intro f hlt
    rw [K.keep f (Nat.lt_of_lt_of_le hlt H.next), H.keep f hlt]
  · intro f hlt hlow
    obtain ⟨a1, a2⟩ := K.soft f (Nat.lt_of_lt_of_le hlt H.next) hlow
    obtain ⟨b1, b2⟩ := H.soft f hlt (Nat.lt_of_lt_of_le hlow K.low)
    exact ⟨a1.trans b1, fun g => (a2 g).trans (b2 g)⟩

/-- What behind a call the caller asks: nothing below B has changed. -/
theorem Post.below {P B σ h w σ' h' w'} (H : Post P B σ h w σ' h' w') (hr : Rel P B σ h w) : RowKit.Below B w w' :=
  ⟨H.os, H.tape, H.output, H.size, fun k hk => H.frame k (Nat.lt_of_lt_of_le hk hr.base) (fun f g b hb hbk => by
    cases hw : h.writable f with
    | false => rfl
    | true => have := hr.wr f g b hb hw; omega)⟩

structure EnvOk (σ : Real) (T : Env) (tmps : Array Value) : Prop where
  deep : N4.deep 4 T
  val : ∀ t v, T.get t = some v → okv σ v ∧ tmps.getD t undef = conc σ v

theorem EnvOk.ext {σ σ' T tmps} (h : EnvOk σ T tmps) (e : σ.le σ') : EnvOk σ' T tmps :=
  ⟨h.deep, fun t v hv => by obtain ⟨h1, h2⟩ := h.val t v hv; obtain ⟨e1, e2⟩ := ext_v e v h1; exact ⟨e1, by rw [h2, e2]⟩⟩

theorem EnvOk.put {σ T tmps} (h : EnvOk σ T tmps) {d : Tmp} (hd : d < tmps.size) {v : AVal} (hv : okv σ v) : EnvOk σ (T.set d v) (tmps.setIfInBounds d (conc σ v)) := by
  refine ⟨N4.deep_set h.deep _ _, fun t u hu => ?_⟩
  rw [N4.get_set _ h.deep] at hu
  by_cases ht : t = d
  · subst ht
    rw [if_pos rfl] at hu
    split at hu
    · cases hu; exact ⟨hv, by simp [hd]⟩
    · cases hu
  · rw [if_neg ht] at hu
    obtain ⟨h1, h2⟩ := h.val t u hu
    exact ⟨h1, by rw [← h2]; simp [Array.getElem?_setIfInBounds_ne (Ne.symm ht)]⟩

theorem EnvOk.putD {σ T} {a : Act} (h : EnvOk σ T a.tmps) {o : Option Tmp} (hd : ∀ d, o = some d → d < a.tmps.size) {v : AVal} (hv : okv σ v) :
    EnvOk σ (Abs.putD T o v) (a.put o (conc σ v)).tmps := by
  cases o with
  | none => exact h
  | some d => exact h.put (hd d rfl) hv

theorem size_put (a : Act) (o : Option Tmp) (v : Value) : (a.put o v).tmps.size = a.tmps.size := by cases o <;> simp [Act.put]
theorem defers_put (a : Act) (o : Option Tmp) (v : Value) : (a.put o v).defers = a.defers := by cases o <;> rfl

end Go.Abs

namespace Go.Abs
variable {P : Program}

/-! ### Elements -/

theorem setElems_get (es lo : Nat) (he : 0 < es) : ∀ (d q : Nat) (vs : List AVal) (t : Tr (List AVal × Nat)), vs.length ≤ d → vs.length % es = 0 →
    ∀ j, (setElems es lo d q vs t).get j = if q ≤ j ∧ j < q + vs.length / es then some ((vs.drop ((j - q) * es)).take es, lo) else t.get j := by
  intro d
  induction d with
  | zero =>
    intro q vs t hd _ j
    obtain rfl : vs = [] := List.length_eq_zero_iff.1 (by omega)
    rw [if_neg (by simp)]; rfl
  | succ d ih =>
    intro q vs t hd hm j
    cases vs with
    | nil => rw [if_neg (by simp)]; rfl
    | cons v vs =>
      have hlen : es ≤ (v :: vs).length := by
        rcases Nat.lt_or_ge (v :: vs).length es with h | h
        · rw [Nat.mod_eq_of_lt h] at hm; simp at hm
        · exact h
      have hstep : setElems es lo (d + 1) q (v :: vs) t = setElems es lo d (q + 1) ((v :: vs).drop es) (t.set q ((v :: vs).take es, lo)) := rfl
      rw [hstep]
      generalize hL : (v :: vs) = L at *
      have hd' : (L.drop es).length = L.length - es := List.length_drop
      rw [ih (q + 1) (L.drop es) _ (by omega) (by rw [hd']; rw [← hm]; exact (Nat.mod_eq_sub_mod hlen).symm) j, Tr.get_set, hd']
      have hdiv : L.length / es = (L.length - es) / es + 1 := Nat.div_eq_sub_div he hlen
      rw [hdiv]
      generalize (L.length - es) / es = m
      by_cases h1 : q + 1 ≤ j ∧ j < q + 1 + m
      · rw [if_pos h1, if_pos (by omega), List.drop_drop]
        congr 3
        have : j - q = (j - (q + 1)) + 1 := by omega
        rw [this, Nat.succ_mul, Nat.add_comm]
      · rw [if_neg h1]
        by_cases h2 : j = q
        · subst h2
          rw [if_pos rfl, if_pos (by omega)]; simp
        · rw [if_neg h2, if_neg (by omega)]

theorem cellAt_made (es : Nat) (vs : List AVal) (he : 0 < es) (hm : vs.length % es = 0) (c : ACells) (hes : c.es = es)
    (hel : c.elems = setElems es 0 vs.length 0 vs .leaf) {i : Nat} {v : AVal} {lo : Nat} (h : c.cellAt i = some (v, lo)) : lo = 0 ∧ vs[i]? = some v := by
  unfold ACells.cellAt at h
  rw [hel, hes, setElems_get es 0 he _ _ _ _ (Nat.le_refl _) hm] at h
  by_cases hc : 0 ≤ i / es ∧ i / es < 0 + vs.length / es
  · rw [if_pos hc] at h
    simp only [Nat.sub_zero] at h
    have hmod : i % es < es := Nat.mod_lt _ he
    rw [List.getElem?_take, if_pos hmod, List.getElem?_drop] at h
    have : i / es * es + i % es = i := by rw [Nat.mul_comm]; exact Nat.div_add_mod i es
    rw [this] at h
    cases hv : vs[i]? with
    | none => rw [hv] at h; cases h
    | some u => rw [hv] at h; simp at h; exact ⟨h.2.symm, by rw [h.1]⟩
  · rw [if_neg hc, Tr.get_leaf] at h; cases h

theorem cwf_made (es : Nat) (vs : List AVal) (he : 0 < es) (hm : vs.length % es = 0) (c : ACells) (hes : c.es = es) (hsz : vs.length ≤ c.size)
    (hel : c.elems = setElems es 0 vs.length 0 vs .leaf) : CWf c := by
  have key : ∀ q us lo, c.elems.get q = some (us, lo) → us.length = es ∧ lo = 0 ∧ (q + 1) * es ≤ vs.length := by
    intro q us lo hq
    rw [hel, setElems_get es 0 he _ _ _ _ (Nat.le_refl _) hm] at hq
    by_cases hc : 0 ≤ q ∧ q < 0 + vs.length / es
    · rw [if_pos hc] at hq
      simp only [Option.some.injEq, Prod.mk.injEq] at hq
      have h1 : (q + 1) * es ≤ vs.length := by
        have : q + 1 ≤ vs.length / es := by omega
        calc (q + 1) * es ≤ vs.length / es * es := Nat.mul_le_mul_right _ this
          _ ≤ vs.length := Nat.div_mul_le_self _ _
      refine ⟨?_, hq.2.symm, h1⟩
      rw [← hq.1, List.length_take, List.length_drop]
      rw [Nat.succ_mul] at h1
      simp only [Nat.sub_zero]
      omega
    · rw [if_neg hc, Tr.get_leaf] at hq; cases hq
  refine ⟨hes ▸ he, fun q us lo hq => by rw [hes]; exact (key q us lo hq).1, fun q us lo hq => ?_⟩
  obtain ⟨_, h2, h3⟩ := key q us lo hq
  exact ⟨by omega, by rw [hes]; omega⟩

/-- What a write of cells does to a family. -/
structure Wrote (c c' : ACells) (off : Nat) (vs : List AVal) (lo : Nat) : Prop where
  wf : CWf c'
  at_ : ∀ i v l, c'.cellAt i = some (v, l) → (off ≤ i ∧ i < off + vs.length ∧ vs[i - off]? = some v ∧ l = lo) ∨ (¬ (off ≤ i ∧ i < off + vs.length) ∧ ∃ l0, l0 ≤ l ∧ c.cellAt i = some (v, l0))

theorem wrote_setElems {c c' : ACells} (hwf : CWf c) {off lo : Nat} {vs : List AVal} (hoff : off % c.es = 0) (hm : vs.length % c.es = 0)
    (hes : c'.es = c.es) (hel : c'.elems = setElems c.es lo vs.length (off / c.es) vs c.elems) (hsz : c.size ≤ c'.size) (hfit : off + vs.length ≤ c'.size) (hgen : c.gen ≤ c'.gen) (hlo : lo ≤ c'.gen) :
    Wrote c c' off vs lo := by
  have he := hwf.pos
  have hget := setElems_get c.es lo he vs.length (off / c.es) vs c.elems (Nat.le_refl _) hm
  have hoe : off / c.es * c.es = off := by have := Nat.div_add_mod off c.es; rw [hoff, Nat.add_zero, Nat.mul_comm] at this; exact this
  have hve : vs.length / c.es * c.es = vs.length := by have := Nat.div_add_mod vs.length c.es; rw [hm, Nat.add_zero, Nat.mul_comm] at this; exact this
  have key : ∀ j, (off / c.es ≤ j ∧ j < off / c.es + vs.length / c.es) → (j - off / c.es + 1) * c.es ≤ vs.length := by
    intro j hj
    calc (j - off / c.es + 1) * c.es ≤ vs.length / c.es * c.es := Nat.mul_le_mul_right _ (by omega)
      _ = vs.length := hve
  constructor
  · refine ⟨hes ▸ he, fun q us l hq => ?_, fun q us l hq => ?_⟩
    · rw [hel, hget] at hq
      by_cases hc : off / c.es ≤ q ∧ q < off / c.es + vs.length / c.es
      · rw [if_pos hc] at hq
        simp only [Option.some.injEq, Prod.mk.injEq] at hq
        rw [← hq.1, hes, List.length_take, List.length_drop]
        have h1 := key q hc
        rw [Nat.succ_mul] at h1
        omega
      · rw [if_neg hc] at hq
        rw [hes]; exact hwf.full q us l hq
    · rw [hel, hget] at hq
      by_cases hc : off / c.es ≤ q ∧ q < off / c.es + vs.length / c.es
      · rw [if_pos hc] at hq
        simp only [Option.some.injEq, Prod.mk.injEq] at hq
        have h1 := key q hc
        have h2 : (q + 1) * c.es = (q - off / c.es + 1) * c.es + off / c.es * c.es := by rw [← Nat.add_mul]; congr 1; omega
        exact ⟨by omega, by rw [hes, h2, hoe]; omega⟩
      · rw [if_neg hc] at hq
        have := hwf.bnd q us l hq
        exact ⟨by omega, by rw [hes]; omega⟩
  · intro i v l h
    unfold ACells.cellAt at h
    rw [hel, hes, hget] at h
    have hi : i / c.es * c.es + i % c.es = i := by rw [Nat.mul_comm]; exact Nat.div_add_mod i c.es
    have hmod : i % c.es < c.es := Nat.mod_lt _ he
    by_cases hc : off / c.es ≤ i / c.es ∧ i / c.es < off / c.es + vs.length / c.es
    · rw [if_pos hc] at h
      simp only [] at h
      rw [List.getElem?_take, if_pos hmod, List.getElem?_drop] at h
      have h2 : (i / c.es - off / c.es) * c.es + i % c.es = i - off := by
        rw [Nat.sub_mul, hoe]
        have : off / c.es * c.es ≤ i / c.es * c.es := Nat.mul_le_mul_right _ hc.1
        omega
      rw [h2] at h
      have h1 := key _ hc
      rw [Nat.succ_mul] at h1
      have h3 : off / c.es * c.es ≤ i / c.es * c.es := Nat.mul_le_mul_right _ hc.1
      cases hv : vs[i - off]? with
      | none => rw [hv] at h; cases h
      | some u =>
        rw [hv] at h; simp at h
        left
        refine ⟨by omega, ?_, by rw [h.1], h.2.symm⟩
        have := (List.getElem?_eq_some_iff.1 hv).1
        omega
    · rw [if_neg hc] at h
      right
      constructor
      · intro hr
        apply hc
        refine ⟨Nat.div_le_div_right hr.1, ?_⟩
        have : i / c.es < (off + vs.length) / c.es := by
          rw [Nat.div_lt_iff_lt_mul he, ← hoe, ← hve, ← Nat.add_mul, Nat.mul_div_cancel _ he, Nat.add_mul, hoe, hve]
          exact hr.2
        rw [← hoe, ← hve, ← Nat.add_mul, Nat.mul_div_cancel _ he] at this
        rw [← hoe, Nat.mul_div_cancel _ he] 
        exact this
      · exact ⟨l, Nat.le_refl _, by unfold ACells.cellAt; exact h⟩

theorem write_sound {c c' : ACells} (hwf : CWf c) {off : Nat} {vs : List AVal} (hfit : off + vs.length ≤ c.size) (h : c.write off vs = some c') :
    Wrote c c' off vs c.gen ∧ c'.es = c.es ∧ c'.ety = c.ety ∧ c'.size = c.size ∧ c'.flex = c.flex ∧ c'.gen = c.gen ∧ c'.start = c.start ∧ c'.frz = c.frz ∧ c'.mark = c.mark ∧ c'.ro = c.ro := by
  unfold ACells.write at h
  simp only [] at h
  split at h
  · rename_i hc
    simp only [Bool.and_eq_true, Nat.beq_eq] at hc
    cases h
    exact ⟨wrote_setElems hwf hc.1 hc.2 rfl rfl (Nat.le_refl _) hfit (Nat.le_refl _) (Nat.le_refl _), rfl, rfl, rfl, rfl, rfl, rfl, rfl, rfl, rfl⟩
  · split at h
    · cases h
    · rename_i hle
      rw [Nat.ble_eq] at hle
      split at h
      · cases h
      · rename_i old lo hq
        split at h
        · cases h
        · rename_i hlo
          rw [Nat.ble_eq] at hlo
          cases h
          have hfull := hwf.full _ _ _ hq
          have he := hwf.pos
          refine ⟨⟨⟨he, fun q us l hg => ?_, fun q us l hg => ?_⟩, fun i v l hg => ?_⟩, rfl, rfl, rfl, rfl, rfl, rfl, rfl, rfl, rfl⟩
          · simp only [Tr.get_set] at hg
            split at hg
            · simp only [Option.some.injEq, Prod.mk.injEq] at hg
              rw [← hg.1]; simp; omega
            · exact hwf.full _ _ _ hg
          · simp only [Tr.get_set] at hg
            split at hg
            · rename_i hqq
              simp only [Option.some.injEq, Prod.mk.injEq] at hg
              refine ⟨by simp only []; omega, ?_⟩
              rw [hqq]
              exact (hwf.bnd _ _ _ hq).2
            · exact hwf.bnd _ _ _ hg
          · unfold ACells.cellAt at hg
            simp only [Tr.get_set] at hg
            have hi : i / c.es * c.es + i % c.es = i := by rw [Nat.mul_comm]; exact Nat.div_add_mod i c.es
            have ho : off / c.es * c.es + off % c.es = off := by rw [Nat.mul_comm]; exact Nat.div_add_mod off c.es
            have hmod : i % c.es < c.es := Nat.mod_lt _ he
            by_cases hqi : i / c.es = off / c.es
            · rw [if_pos hqi] at hg
              rw [hqi] at hi
              simp only [] at hg
              have htl : (old.take (off % c.es)).length = off % c.es := by rw [List.length_take]; omega
              by_cases h1 : i % c.es < off % c.es
              · right
                refine ⟨by omega, lo, ?_, ?_⟩
                · cases hx : (old.take (off % c.es) ++ vs ++ old.drop (off % c.es + vs.length))[i % c.es]? with
                  | none => rw [hx] at hg; cases hg
                  | some u => rw [hx] at hg; simp at hg; omega
                · unfold ACells.cellAt
                  rw [hqi, hq]
                  simp only []
                  rw [List.append_assoc, List.getElem?_append_left (by rw [htl]; exact h1), List.getElem?_take, if_pos h1] at hg
                  cases hx : old[i % c.es]? with
                  | none => rw [hx] at hg; cases hg
                  | some u => rw [hx] at hg; simp at hg ⊢; exact hg.1
              · by_cases h2 : i % c.es < off % c.es + vs.length
                · left
                  rw [List.append_assoc, List.getElem?_append_right (by rw [htl]; omega), htl, List.getElem?_append_left (by omega)] at hg
                  have he2 : i % c.es - off % c.es = i - off := by omega
                  rw [he2] at hg
                  cases hx : vs[i - off]? with
                  | none => rw [hx] at hg; cases hg
                  | some u => rw [hx] at hg; simp at hg; exact ⟨by omega, by omega, by rw [hg.1], hg.2.symm⟩
                · right
                  refine ⟨by omega, lo, ?_, ?_⟩
                  · cases hx : (old.take (off % c.es) ++ vs ++ old.drop (off % c.es + vs.length))[i % c.es]? with
                    | none => rw [hx] at hg; cases hg
                    | some u => rw [hx] at hg; simp at hg; omega
                  · unfold ACells.cellAt
                    rw [hqi, hq]
                    simp only []
                    rw [List.getElem?_append_right (by simp; omega)] at hg
                    have : i % c.es - (old.take (off % c.es) ++ vs).length = i % c.es - (off % c.es + vs.length) := by simp; omega
                    rw [this, List.getElem?_drop, show off % c.es + vs.length + (i % c.es - (off % c.es + vs.length)) = i % c.es by omega] at hg
                    cases hx : old[i % c.es]? with
                    | none => rw [hx] at hg; cases hg
                    | some u => rw [hx] at hg; simp at hg ⊢; exact hg.1
            · rw [if_neg hqi] at hg
              right
              refine ⟨?_, l, Nat.le_refl _, by unfold ACells.cellAt; exact hg⟩
              intro hr
              apply hqi
              rw [← ho] at hr
              have h1 : off / c.es ≤ i / c.es := by
                rw [Nat.le_div_iff_mul_le he]; omega
              have h2 : i / c.es < off / c.es + 1 := by
                rw [Nat.div_lt_iff_lt_mul he, Nat.succ_mul]; omega
              omega

theorem read_sound {c : ACells} (hwf : CWf c) {g : Nat} : ∀ (d off n : Nat) (vs : List AVal), c.read g d off n = some vs →
    vs.length = n ∧ ∀ j v, vs[j]? = some v → ∃ lo, lo ≤ g ∧ c.cellAt (off + j) = some (v, lo) := by
  intro d
  induction d with
  | zero => intro off n vs h; cases h
  | succ d ih =>
    intro off n vs h
    unfold ACells.read at h
    split at h
    · rename_i h0
      rw [Nat.beq_eq] at h0
      cases h; exact ⟨by simp [h0], by simp⟩
    · split at h
      · cases h
      · rename_i us lo hq
        split at h
        · cases h
        · rename_i hlo
          rw [Nat.ble_eq] at hlo
          have he := hwf.pos
          have hfull := hwf.full _ _ _ hq
          have ho : off / c.es * c.es + off % c.es = off := by rw [Nat.mul_comm]; exact Nat.div_add_mod off c.es
          have hmod : off % c.es < c.es := Nat.mod_lt _ he
          have cell : ∀ j v, off % c.es + j < c.es → us[off % c.es + j]? = some v → c.cellAt (off + j) = some (v, lo) := by
            intro j v hj hv
            unfold ACells.cellAt
            have e1 : (off + j) / c.es = off / c.es := by
              have : off + j = (off % c.es + j) + off / c.es * c.es := by omega
              rw [this, Nat.add_mul_div_right _ _ he, Nat.div_eq_of_lt hj, Nat.zero_add]
            have e2 : (off + j) % c.es = off % c.es + j := by
              have : off + j = (off % c.es + j) + off / c.es * c.es := by omega
              rw [this, Nat.add_mul_mod_self_right, Nat.mod_eq_of_lt hj]
            rw [e1, e2, hq]
            simp [hv]
          simp only [] at h
          split at h
          · rename_i hle
            rw [Nat.ble_eq] at hle
            cases h
            refine ⟨by simp; omega, fun j v hv => ⟨lo, hlo, ?_⟩⟩
            rw [List.getElem?_take] at hv
            split at hv
            · rw [List.getElem?_drop] at hv
              exact cell j v (by omega) hv
            · cases hv
          · rename_i hle
            have hle' : ¬ (off % c.es + n ≤ c.es) := by
              intro h'; rw [← Nat.ble_eq] at h'; rw [h'] at hle; cases hle
            cases hr : c.read g d (off + (c.es - off % c.es)) (n - (c.es - off % c.es)) with
            | none => rw [hr] at h; cases h
            | some rest =>
              rw [hr] at h
              simp only [Option.map_some, Option.some.injEq] at h
              subst h
              obtain ⟨i1, i2⟩ := ih _ _ _ hr
              have hdl : (us.drop (off % c.es)).length = c.es - off % c.es := by rw [List.length_drop, hfull]
              refine ⟨by rw [List.length_append, hdl, i1]; omega, fun j v hv => ?_⟩
              by_cases hj : j < c.es - off % c.es
              · rw [List.getElem?_append_left (by rw [hdl]; exact hj), List.getElem?_drop] at hv
                exact ⟨lo, hlo, cell j v (by omega) hv⟩
              · rw [List.getElem?_append_right (by rw [hdl]; omega), hdl] at hv
                obtain ⟨l, hl, hc⟩ := i2 _ _ hv
                exact ⟨l, hl, by rw [← hc]; congr 1; omega⟩
end Go.Abs

namespace Go.Abs
variable {P : Program} {B : Nat} {σ : Real} {h : Heap} {w : World}

/-! ### Reading -/

theorem RB.at_add (b : RB) {off j : Nat} (h : b.start ≤ off) : (b.at off).add j = b.at (off + j) := by
  unfold RB.at Addr.add
  split
  · rename_i h0; subst h0; rfl
  · simp only [Addr.mk.injEq, true_and, and_true]; omega

theorem fam_obj {f : Nat} {c : ACells} (hf : h.fam f = some c) : h.obj f = some (.cells c) := by
  unfold Heap.fam at hf
  unfold Heap.obj
  cases ho : h.objs.getL f with
  | none => rw [ho] at hf; cases hf
  | some o =>
    rw [ho] at hf
    cases o with
    | cells c' => cases hf; rfl
    | siter s p => cases hf

theorem Rel.cells (H : Rel P B σ h w) {f g : Nat} {b : RB} {c : ACells} (hb : σ f g = some b) (hf : h.fam f = some c) : CellsOk σ w g b c := H.obj f g b _ hb (fam_obj hf)

theorem cell_of {cs : Array Value} {ty : TypeId} {fr : Nat × Nat} {b : RB} (hh : w.heap[b.block]? = some (.cells cs ty fr)) (off : Nat) : w.cell? (b.at off) = cs[b.base + (off - b.start)]? := by
  simp [World.cell?, RB.at, hh]

theorem conc_oneCell {σ : Real} {v : AVal} (h : v.scalar = true) : (conc σ v).oneCell' = true := by
  cases v with
  | agg cs => cases h
  | tuple vs => cases h
  | ptr p => cases p <;> rfl
  | slice p len cap => cases p with
    | none => rfl
    | some p => simp only [conc]; split <;> rfl
  | zslice p low es =>
    simp only [conc]
    cases σ p.fam p.gen with
    | none => rfl
    | some b => simp only []; split <;> rfl
  | _ => rfl

/-- What is read is what lies there. -/
theorem Rel.read (H : Rel P B σ h w) {f g off n d : Nat} {b : RB} {c : ACells} {vs : List AVal} (hb : σ f g = some b) (hf : h.fam f = some c)
    (hst : c.start ≤ off) (hr : c.read g d off n = some vs) :
    vs.length = n ∧ okvs σ vs ∧ vs.all AVal.scalar = true ∧ ∀ j v, (concs σ vs)[j]? = some v → w.cell? ((b.at off).add j) = some v := by
  have hc := H.cells hb hf
  obtain ⟨h1, h2⟩ := read_sound (H.full f c (fam_obj hf)) _ _ _ _ hr
  obtain ⟨cs, fr, hh, _, _, hcell⟩ := hc.heap
  have hget : ∀ j v, vs[j]? = some v → okv σ v ∧ v.scalar = true ∧ w.cell? (b.at (off + j)) = some (conc σ v) := by
    intro j v hv
    obtain ⟨lo, hlo, hca⟩ := h2 j v hv
    obtain ⟨_, k1, k2, k3⟩ := hcell _ _ _ hca (by omega) hlo
    exact ⟨k1, k2, by rw [cell_of hh]; exact k3⟩
  refine ⟨h1, okvs_iff.2 fun v hv => ?_, List.all_eq_true.2 fun v hv => ?_, fun j v hv => ?_⟩
  · obtain ⟨j, hj⟩ := List.mem_iff_getElem?.1 hv; exact (hget j v hj).1
  · obtain ⟨j, hj⟩ := List.mem_iff_getElem?.1 hv; exact (hget j v hj).2.1
  · rw [concs_eq, List.getElem?_map] at hv
    cases hx : vs[j]? with
    | none => rw [hx] at hv; cases hv
    | some u =>
      rw [hx] at hv
      cases hv
      rw [b.at_add (by have := hc.start; omega)]
      exact (hget j u hx).2.2

/-! ### Writing -/

/-- A world in which one block of cells alone is another one. -/
structure Spliced (w w' : World) (blk : Nat) (k : Nat) (vs : List Value) (cs : Array Value) (ty : TypeId) (fr : Nat × Nat) : Prop where
  os : w'.os = w.os
  tape : w'.tape = w.tape
  output : w'.output = w.output
  size : w'.heap.size = w.heap.size
  other : ∀ j, j ≠ blk → w'.heap[j]? = w.heap[j]?
  here : ∃ cs', w'.heap[blk]? = some (.cells cs' ty fr) ∧ cs'.size = cs.size ∧ ∀ j, cs'[j]? = if k ≤ j ∧ j < k + vs.length then vs[j - k]? else cs[j]?

theorem run_storeCells (blk off : Nat) (ty : TypeId) (fr : Nat × Nat) : ∀ (vs : List Value) (i : Nat) (w : World) (cs : Array Value), w.heap[blk]? = some (.cells cs ty fr) →
    off + i + vs.length ≤ cs.size → (∀ k, off + i ≤ k → k < off + i + vs.length → ¬ (fr.1 ≤ k ∧ k < fr.2)) → (∀ v ∈ vs, v.oneCell' = true) →
    ∃ w', (storeCells ⟨blk, off, none⟩ vs i).run P w = .ok () w' ∧ Spliced w w' blk (off + i) vs cs ty fr := by
  intro vs
  induction vs with
  | nil =>
    intro i w cs hh _ _ _
    exact ⟨w, rfl, rfl, rfl, rfl, rfl, fun _ _ => rfl, cs, hh, rfl, fun j => by rw [if_neg (by simp)]⟩
  | cons v vs ih =>
    intro i w cs hh hlen hfr hone
    simp only [List.length_cons] at hlen hfr
    have hadd : (⟨blk, off, none⟩ : Addr).add i = ⟨blk, off + i, none⟩ := by unfold Addr.add; split <;> simp_all
    have hcell : w.cell? ⟨blk, off + i, none⟩ = some cs[off + i] := by simp [World.cell?, hh, show off + i < cs.size by omega]
    have hfro : w.frozen? ⟨blk, off + i, none⟩ = false := by
      have := hfr (off + i) (by omega) (by omega)
      simp only [World.frozen?, hh]
      rw [Bool.and_eq_false_iff]
      by_cases h1 : fr.1 ≤ off + i
      · right; simp; omega
      · left; simp; omega
    have hst : (Go.store ((⟨blk, off, none⟩ : Addr).add i) v).run P w = .ok () (w.setRow blk (cs.setIfInBounds (off + i) v)) := by
      rw [hadd, run_store P w _ v _ (hone v (by simp)), hcell]
      simp [hfro, setCell_eq_setRow w blk (off + i) cs ty fr v hh]
    have hh' := setRow_heap w blk cs (cs.setIfInBounds (off + i) v) ty fr hh
    obtain ⟨w', hrun, hsp⟩ := ih (i + 1) (w.setRow blk (cs.setIfInBounds (off + i) v)) (cs.setIfInBounds (off + i) v) hh' (by simp; omega)
      (fun k h1 h2 => hfr k (by omega) (by omega)) (fun x hx => hone x (by simp [hx]))
    refine ⟨w', by simp only [storeCells, Sem.run_bind, hst, Result.andThen_ok, hrun], hsp.os, hsp.tape, hsp.output, by rw [hsp.size]; simp, fun j hj => ?_, ?_⟩
    · rw [hsp.other j hj, setRow_other w blk j _ hj]
    · obtain ⟨cs', h1, h2, h3⟩ := hsp.here
      refine ⟨cs', h1, by rw [h2]; simp, fun j => ?_⟩
      rw [h3 j]
      by_cases hj : off + (i + 1) ≤ j ∧ j < off + (i + 1) + vs.length
      · rw [if_pos hj, if_pos (by simp; omega)]
        have : j - (off + i) = (j - (off + (i + 1))) + 1 := by omega
        rw [this, List.getElem?_cons_succ]
      · rw [if_neg hj]
        by_cases hj2 : j = off + i
        · subst hj2
          rw [if_pos (by simp)]
          simp [show off + i < cs.size by omega]
        · rw [if_neg (by simp; omega), Array.getElem?_setIfInBounds_ne (by omega)]

theorem CellsOk.mono {σ' : Real} {w' : World} {g : Nat} {b : RB} {c : ACells} (hc : CellsOk σ w g b c) (hle : σ.le σ') (he : w'.heap[b.block]? = w.heap[b.block]?) : CellsOk σ' w' g b c := by
  obtain ⟨cs, fr, h1, h2, h3, h4⟩ := hc.heap
  refine ⟨hc.gen, hc.es, hc.start, hc.size, hc.exact, cs, fr, he.trans h1, h2, h3, fun i v lo hv hs hl => ?_⟩
  obtain ⟨k0, k1, k2, k3⟩ := h4 i v lo hv hs hl
  obtain ⟨e1, e2⟩ := ext_v hle v k1
  exact ⟨k0, e1, k2, by rw [e2]; exact k3⟩

theorem ObjOk.mono {σ' : Real} {w' : World} {g : Nat} {b : RB} {o : AObj} (hc : ObjOk σ w g b o) (hle : σ.le σ') (he : w'.heap[b.block]? = w.heap[b.block]?) : ObjOk σ' w' g b o := by
  cases o with
  | siter s p => exact ⟨he.trans hc.1, hc.2⟩
  | cells c => exact CellsOk.mono hc hle he

theorem obj_put (H : Rel P B σ h w) (f : Nat) (o : AObj) (f' : Nat) : (h.put f o).obj f' = if f' = f then (if f < 65536 then some o else none) else h.obj f' := N4.getL_setL _ H.deep _ _ _
theorem obj_push (H : Rel P B σ h w) (o : AObj) (f' : Nat) : (h.push o).obj f' = if f' = h.next then (if h.next < 65536 then some o else none) else h.obj f' := N4.getL_setL _ H.deep _ _ _

theorem obj_lt {f : Nat} {o : AObj} (ho : h.obj f = some o) : f < 65536 := by
  rcases Nat.lt_or_ge f 65536 with h1 | h1
  · exact h1
  · unfold Heap.obj at ho; rw [N4.getL_ge _ h1] at ho; cases ho

theorem put_low (f : Nat) (o : AObj) : (h.put f o).low ≤ h.low ∧ (h.put f o).low ≤ f := by
  unfold Heap.put
  simp only []
  cases hl : Nat.ble h.low f with
  | true => exact ⟨Nat.le_refl _, Nat.le_of_ble_eq_true hl⟩
  | false =>
    have : ¬ h.low ≤ f := by intro h'; rw [← Nat.ble_eq, hl] at h'; cases h'
    exact ⟨by simp only []; omega, Nat.le_refl _⟩

/-- A family is given another content. -/
theorem put_post {σ' : Real} {w' : World} {f : Nat} {o o' : AObj} (H : Rel P B σ h w) (ho : h.obj f = some o) (hwr : o.writable = true) (hwr' : o'.writable = true)
    (hle : σ.le σ') (hoth : ∀ f' g', f' ≠ f → σ' f' g' = σ f' g')
    (hnew : ∀ g' b', σ' f g' = some b' → σ f g' = some b' ∨ (b'.block < w'.heap.size ∧ (w.heap.size ≤ b'.block ∨ ∃ g0 b0, σ f g0 = some b0 ∧ b0.block = b'.block)))
    (halike : ∀ g1 b1 g2 b2, σ' f g1 = some b1 → σ' f g2 = some b2 → b1.block = b2.block → b2 = b1)
    (hsz : w.heap.size ≤ w'.heap.size)
    (hfr : ∀ k, k < w.heap.size → (∀ g0 b0, σ f g0 = some b0 → b0.block ≠ k) → w'.heap[k]? = w.heap[k]?)
    (hos : w'.os = w.os) (htape : w'.tape = w.tape) (hout : w'.output = w.output)
    (hobj : ∀ g' b', σ' f g' = some b' → ObjOk σ' w' g' b' o') (hwf : ∀ c, o' = .cells c → CWf c) :
    Post P B σ h w σ' (h.put f o') w' := by
  have hlt := obj_lt ho
  have hwrf : h.writable f = true := by rw [writable_of ho]; exact hwr
  have hfn : f < h.next := by
    rcases Nat.lt_or_ge f h.next with h1 | h1
    · exact h1
    · rw [H.dom f h1] at ho; cases ho
  have hput : ∀ f', (h.put f o').obj f' = if f' = f then some o' else h.obj f' := by intro f'; rw [obj_put H]; simp [hlt]
  have hwput : ∀ f', (h.put f o').writable f' = h.writable f' := by
    intro f'
    unfold Heap.writable
    rw [hput]
    by_cases hf : f' = f
    · subst hf; rw [if_pos rfl, ho]; simp [hwr, hwr']
    · rw [if_neg hf]
  have hold : ∀ f' g' b', f' ≠ f → σ f' g' = some b' → w'.heap[b'.block]? = w.heap[b'.block]? := by
    intro f' g' b' hne hb
    exact hfr _ (H.live _ _ _ hb) fun g0 b0 hb0 => H.apart f g0 b0 f' g' b' hb0 hb (Ne.symm hne) hwrf
  have hlive : ∀ f' g' b', σ' f' g' = some b' → b'.block < w'.heap.size := by
    intro f' g' b' hb
    by_cases hf : f' = f
    · subst hf
      rcases hnew g' b' hb with h1 | ⟨h1, _⟩
      · exact Nat.lt_of_lt_of_le (H.live _ _ _ h1) hsz
      · exact h1
    · rw [hoth f' g' hf] at hb
      exact Nat.lt_of_lt_of_le (H.live _ _ _ hb) hsz
  refine ⟨hle, ⟨?_, ?_, ?_, Nat.le_trans H.base hsz, ?_, ?_, ?_, hlive, ?_, fun f' g1 b1 g2 b2 h1 h2 hbk => ?_⟩, Nat.le_refl _, ?_, ?_, hsz, hos, htape, hout, fun f' _ => hwput f', ?_, (put_low f o').1⟩
  · exact N4.deep_setL H.deep _ _
  · intro f' hf'
    rw [hput, if_neg (by have : h.next ≤ f' := hf'; omega)]
    exact H.dom f' hf'
  · intro f' c hc
    rw [hput] at hc
    split at hc
    · exact hwf c (Option.some.inj hc)
    · exact H.full f' c hc
  · intro g hg
    obtain ⟨b, h1, h2⟩ := H.glob g hg
    exact ⟨b, hle _ _ _ h1, h2⟩
  · intro f' g' b' o'' hb hc
    rw [hput] at hc
    by_cases hf : f' = f
    · subst hf
      rw [if_pos rfl] at hc
      cases hc
      exact hobj g' b' hb
    · rw [if_neg hf] at hc
      rw [hoth f' g' hf] at hb
      exact (H.obj f' g' b' o'' hb hc).mono hle (hold f' g' b' hf hb)
  · intro f' g' b' hb hw
    rw [hwput] at hw
    by_cases hf : f' = f
    · subst hf
      rcases hnew g' b' hb with h1 | ⟨_, h1 | ⟨g0, b0, h2, h3⟩⟩
      · exact H.wr _ _ _ h1 hw
      · exact Nat.le_trans H.base h1
      · rw [← h3]; exact H.wr _ _ _ h2 hw
    · rw [hoth f' g' hf] at hb
      exact H.wr _ _ _ hb hw
  · intro f1 g1 b1 f2 g2 b2 hb1 hb2 hne hw
    rw [hwput] at hw
    by_cases hf1 : f1 = f
    · subst hf1
      rw [hoth f2 g2 (Ne.symm hne)] at hb2
      rcases hnew g1 b1 hb1 with h1 | ⟨_, h1 | ⟨g0, b0, h2, h3⟩⟩
      · exact H.apart _ _ _ _ _ _ h1 hb2 hne hw
      · have := H.live _ _ _ hb2; omega
      · rw [← h3]; exact H.apart _ _ _ _ _ _ h2 hb2 hne hw
    · rw [hoth f1 g1 hf1] at hb1
      by_cases hf2 : f2 = f
      · subst hf2
        rcases hnew g2 b2 hb2 with h1 | ⟨_, h1 | ⟨g0, b0, h2, h3⟩⟩
        · exact H.apart _ _ _ _ _ _ hb1 h1 hne hw
        · have := H.live _ _ _ hb1; omega
        · rw [← h3]; exact H.apart _ _ _ _ _ _ hb1 h2 hne hw
      · rw [hoth f2 g2 hf2] at hb2
        exact H.apart _ _ _ _ _ _ hb1 hb2 hne hw
  · by_cases hf : f' = f
    · subst hf; exact halike g1 b1 g2 b2 h1 h2 hbk
    · rw [hoth _ _ hf] at h1 h2
      exact H.alike f' g1 b1 g2 b2 h1 h2 hbk
  · intro f' g' b' hb hn
    by_cases hf : f' = f
    · subst hf
      refine ⟨hfn, .inr ⟨hfn, ?_⟩⟩
      rcases hnew g' b' hb with h1 | ⟨_, h1 | ⟨g0, b0, h2, h3⟩⟩
      · rw [h1] at hn; cases hn
      · exact .inl h1
      · exact .inr ⟨hwrf, g0, b0, h2, h3⟩
    · rw [hoth f' g' hf, hn] at hb; cases hb
  · intro k hk hno
    refine hfr k hk fun g0 b0 hb0 hbk => ?_
    have := hno f g0 b0 hb0 hbk
    rw [hwrf] at this; cases this
  · intro f' _ hlow
    have : f' ≠ f := by have := (put_low (h := h) f o').2; omega
    exact ⟨by rw [hput, if_neg this], fun g' => hoth f' g' this⟩

/-- Where a new family lies. -/
def Real.add (σ : Real) (f : Nat) (b : RB) : Real := fun f' g' => if f' = f then (if g' = 0 then some b else none) else σ f' g'

/-- A new family. -/
theorem push_post {w' : World} {o : AObj} {b : RB} (H : Rel P B σ h w) (hfree : Free σ h.next (h.next + 1))
    (hblk : b.block = w.heap.size) (hsz : w'.heap.size = w.heap.size + 1) (hold : ∀ k, k < w.heap.size → w'.heap[k]? = w.heap[k]?)
    (hos : w'.os = w.os) (htape : w'.tape = w.tape) (hout : w'.output = w.output)
    (hobj : ObjOk (σ.add h.next b) w' 0 b o) (hwf : ∀ c, o = .cells c → CWf c) :
    Post P B σ h w (σ.add h.next b) (h.push o) w' := by
  have hoth : ∀ f' g', f' ≠ h.next → σ.add h.next b f' g' = σ f' g' := fun f' g' hne => by simp [Real.add, hne]
  have hle : σ.le (σ.add h.next b) := by
    intro f' g' b' hb
    by_cases hf : f' = h.next
    · subst hf; rw [hfree _ g' (Nat.le_refl _) (Nat.lt_succ_self _)] at hb; cases hb
    · rw [hoth _ _ hf]; exact hb
  have hnewb : ∀ g' b', σ.add h.next b h.next g' = some b' → g' = 0 ∧ b' = b := by
    intro g' b' hb
    simp only [Real.add, if_true] at hb
    by_cases hg : g' = 0
    · rw [if_pos hg] at hb; exact ⟨hg, (Option.some.inj hb).symm⟩
    · rw [if_neg hg] at hb; cases hb
  have hpush : ∀ f', f' ≠ h.next → (h.push o).obj f' = h.obj f' := by intro f' hf; rw [obj_push H]; simp [hf]
  have hwpush : ∀ f', f' ≠ h.next → (h.push o).writable f' = h.writable f' := by intro f' hf; unfold Heap.writable; rw [hpush f' hf]
  have hltn : ∀ f', f' < h.next → f' ≠ h.next := fun f' => Nat.ne_of_lt
  have hlive : ∀ f' g' b', σ.add h.next b f' g' = some b' → f' ≠ h.next → b'.block < w.heap.size := fun f' g' b' hb hf => H.live f' g' b' (by rw [← hoth f' g' hf]; exact hb)
  have hb0 : ∀ g' b', σ.add h.next b h.next g' = some b' → b'.block = w.heap.size := by
    intro g' b' hb
    obtain ⟨_, rfl⟩ := hnewb g' b' hb
    exact hblk
  refine ⟨hle, ⟨?_, ?_, ?_, by have := H.base; omega, ?_, ?_, ?_, ?_, ?_, fun f' g1 b1 g2 b2 h1 h2 hbk => ?_⟩, Nat.le_succ _, ?_, fun k hk _ => hold k hk, by omega, hos, htape, hout, ?_, ?_, Nat.le_refl _⟩
  · exact N4.deep_setL H.deep _ _
  · intro f' hf'
    have hf2 : h.next + 1 ≤ f' := hf'
    rw [hpush f' (by omega)]
    exact H.dom f' (by omega)
  · intro f' c hc
    by_cases hf : f' = h.next
    · subst hf
      rw [obj_push H, if_pos rfl] at hc
      split at hc
      · exact hwf c (Option.some.inj hc)
      · cases hc
    · rw [hpush f' hf] at hc; exact H.full f' c hc
  · intro g hg
    obtain ⟨b', h1, h2⟩ := H.glob g hg
    exact ⟨b', hle _ _ _ h1, h2⟩
  · intro f' g' b' o' hb hc
    by_cases hf : f' = h.next
    · subst hf
      rw [obj_push H, if_pos rfl] at hc
      split at hc
      · cases hc
        obtain ⟨rfl, rfl⟩ := hnewb g' b' hb
        exact hobj
      · cases hc
    · rw [hpush f' hf] at hc
      rw [hoth f' g' hf] at hb
      exact (H.obj f' g' b' o' hb hc).mono hle (hold _ (H.live _ _ _ hb))
  · intro f' g' b' hb hw
    by_cases hf : f' = h.next
    · subst hf; rw [hb0 g' b' hb]; exact H.base
    · rw [hwpush f' hf] at hw
      rw [hoth f' g' hf] at hb
      exact H.wr _ _ _ hb hw
  · intro f' g' b' hb
    by_cases hf : f' = h.next
    · subst hf; rw [hb0 g' b' hb]; omega
    · have := hlive f' g' b' hb hf; omega
  · intro f1 g1 b1 f2 g2 b2 hb1 hb2 hne hw
    by_cases hf1 : f1 = h.next
    · subst hf1
      rw [hb0 g1 b1 hb1]
      have := hlive f2 g2 b2 hb2 (Ne.symm hne); omega
    · by_cases hf2 : f2 = h.next
      · subst hf2
        rw [hb0 g2 b2 hb2]
        have := hlive f1 g1 b1 hb1 hf1; omega
      · rw [hwpush f1 hf1] at hw
        rw [hoth f1 g1 hf1] at hb1
        rw [hoth f2 g2 hf2] at hb2
        exact H.apart _ _ _ _ _ _ hb1 hb2 hne hw
  · by_cases hf : f' = h.next
    · subst hf; rw [(hnewb _ _ h1).2, (hnewb _ _ h2).2]
    · rw [hoth _ _ hf] at h1 h2
      exact H.alike f' g1 b1 g2 b2 h1 h2 hbk
  · intro f' g' b' hb hn
    by_cases hf : f' = h.next
    · subst hf; exact ⟨Nat.lt_succ_self _, .inl ⟨by rw [hb0 g' b' hb]; exact Nat.le_refl _, Nat.le_refl _⟩⟩
    · rw [hoth f' g' hf, hn] at hb; cases hb
  · intro f' hf'; exact hwpush f' (hltn f' hf')
  · intro f' hf' _; exact ⟨hpush f' (hltn f' hf'), fun g' => hoth f' g' (hltn f' hf')⟩
end Go.Abs

namespace Go.Abs
variable {P : Program} {B : Nat} {σ : Real} {h : Heap} {w : World}

theorem ofScalar_sound {v : Value} {a : AVal} (h : ofScalar v = some a) : okv σ a ∧ conc σ a = v ∧ a.scalar = true := by
  cases v with
  | bool b => cases h; exact ⟨trivial, rfl, rfl⟩
  | int k n => cases h; exact ⟨trivial, rfl, rfl⟩
  | string s => cases h; exact ⟨trivial, rfl, rfl⟩
  | pointer p => cases p with
    | none => cases h; exact ⟨trivial, rfl, rfl⟩
    | some p => cases h
  | slice p n c => cases p with
    | none => cases h; exact ⟨⟨c, rfl⟩, rfl, rfl⟩
    | some p => cases h
  | map r => cases r with
    | none => cases h; exact ⟨rfl, rfl, rfl⟩
    | some r => cases h
  | nilFunc => cases h; exact ⟨trivial, rfl, rfl⟩
  | nilIface => cases h; exact ⟨trivial, rfl, rfl⟩
  | _ => cases h

theorem ofScalars_sound : ∀ {l : List Value} {as : List AVal}, ofScalars l = some as → okvs σ as ∧ concs σ as = l ∧ as.all AVal.scalar = true
  | [], as, h => by cases h; exact ⟨trivial, rfl, rfl⟩
  | v :: l, as, h => by
    simp only [ofScalars, Option.bind_eq_some_iff, Option.map_eq_some_iff] at h
    obtain ⟨a, ha, bs, hb, rfl⟩ := h
    obtain ⟨h1, h2, h3⟩ := ofScalar_sound (σ := σ) ha
    obtain ⟨k1, k2, k3⟩ := ofScalars_sound hb
    exact ⟨⟨h1, k1⟩, by simp only [concs, h2, k2], by simp [h3, k3]⟩

theorem ofValue_else (v : Value) (h1 : ∀ cs, v ≠ .agg cs) (h2 : ∀ cs, v ≠ .tuple cs) : ofValue v = ofScalar v := by
  cases v <;> first | rfl | exact absurd rfl (h1 _) | exact absurd rfl (h2 _)
theorem ofValue_sound {v : Value} {a : AVal} (h : ofValue v = some a) : okv σ a ∧ conc σ a = v := by
  cases v with
  | agg cs =>
    simp only [ofValue, Option.map_eq_some_iff] at h
    obtain ⟨as, h1, rfl⟩ := h
    obtain ⟨k1, k2, k3⟩ := ofScalars_sound (σ := σ) h1
    exact ⟨⟨k1, k3⟩, by simp only [conc, k2, Array.toArray_toList]⟩
  | tuple cs =>
    simp only [ofValue, Option.map_eq_some_iff] at h
    obtain ⟨as, h1, rfl⟩ := h
    obtain ⟨k1, k2, k3⟩ := ofScalars_sound (σ := σ) h1
    exact ⟨k1, by simp only [conc, k2, Array.toArray_toList]⟩
  | _ =>
    rw [ofValue_else _ (by intros; simp) (by intros; simp)] at h
    have := ofScalar_sound (σ := σ) h
    exact ⟨this.1, this.2.1⟩

/-- Where the package-level variables lie. -/
def GlobOk (P : Program) (σ : Real) : Prop := ∀ g, g < P.globals.size → ∃ b, σ g 0 = some b ∧ b.block = g ∧ b.base = 0 ∧ b.start = 0

theorem eval_sound (hg : GlobOk P σ) {T : Env} {a : Act} (hT : EnvOk σ T a.tmps) {x : Operand} {v : AVal} (h : eval P T x = some v) : okv σ v ∧ a.eval x = conc σ v := by
  cases x with
  | tmp t => exact hT.val t v h
  | const c =>
    obtain ⟨h1, h2⟩ := ofValue_sound (σ := σ) (show ofValue c = some v from h)
    exact ⟨h1, h2.symm⟩
  | global g =>
    have h' : (Bool.rec none (some (AVal.ptr (some ⟨g, 0, 0⟩))) (Nat.blt g P.globals.size) : Option AVal) = some v := h
    rw [N4.ite_rec] at h'
    split at h'
    · rename_i hlt
      rw [Nat.blt_eq] at hlt
      cases h'
      obtain ⟨b, hb, h1, h2, h3⟩ := hg g hlt
      exact ⟨⟨b, hb, by omega⟩, by simp only [Act.eval, conc, hb, Option.map_some, RB.at, h1, h2, h3]⟩
    · cases h'
  | func f => cases h; exact ⟨⟨trivial, trivial⟩, rfl⟩

theorem evals_sound (hg : GlobOk P σ) {T : Env} {a : Act} (hT : EnvOk σ T a.tmps) : ∀ {xs : List Operand} {vs : List AVal}, evals P T xs = some vs →
    okvs σ vs ∧ xs.map a.eval = concs σ vs
  | [], vs, h => by cases h; exact ⟨trivial, rfl⟩
  | x :: xs, vs, h => by
    simp only [evals, Option.bind_eq_some_iff, Option.map_eq_some_iff] at h
    obtain ⟨v, hv, us, hu, rfl⟩ := h
    obtain ⟨h1, h2⟩ := eval_sound hg hT hv
    obtain ⟨k1, k2⟩ := evals_sound hg hT hu
    exact ⟨⟨h1, k1⟩, by simp only [List.map_cons, concs, h2, k2]⟩

/-! ### Types -/

theorem run_sizeOf {t : TypeId} {n : Nat} (h : size? P t = some n) (w : World) : (sizeOf t).run P w = .ok n w := by
  unfold size? at h
  cases hi : P.info? t with
  | none => rw [hi] at h; cases h
  | some i => rw [hi] at h; cases h; simp [sizeOf, typeInfo, hi]

theorem run_isAgg {t : TypeId} {b : Bool} (h : isAgg? P t = some b) (w : World) : (isAgg t).run P w = .ok b w := by
  unfold isAgg? at h
  cases hu : P.underlying t with
  | none => rw [hu] at h; cases h
  | some d => rw [hu] at h; unfold isAgg; rw [Sem.run_bind, run_underlying hu w]; cases d <;> (cases h; rfl)

theorem run_zero {t : TypeId} {z : AVal} (h : zero? P t = some z) (w : World) : ∃ v, (zeroValue t).run P w = .ok v w ∧ (∀ σ, okv σ z ∧ conc σ z = v) ∧ ∃ i, P.info? t = some i ∧ i.zero = some v := by
  unfold zero? at h
  simp only [Option.bind_eq_some_iff] at h
  obtain ⟨i, hi, v, hv, hz⟩ := h
  exact ⟨v, by simp [zeroValue, typeInfo, hi, hv], fun σ => ofValue_sound hz, i, hi, hv⟩

theorem flat_sound {v : AVal} {vs : List AVal} (hf : v.flat = some vs) (hv : okv σ v) : (conc σ v).cells = (concs σ vs).toArray ∧ okvs σ vs ∧ vs.all AVal.scalar = true := by
  cases v with
  | agg cs => cases hf; exact ⟨rfl, hv.1, hv.2⟩
  | tuple cs => cases hf
  | ptr p => cases hf; cases p <;> exact ⟨rfl, ⟨hv, trivial⟩, rfl⟩
  | slice p n c =>
    cases hf
    refine ⟨?_, ⟨hv, trivial⟩, rfl⟩
    cases p with
    | none => rfl
    | some p => simp only [concs, conc]; cases σ p.fam p.gen <;> rfl
  | zslice p l e =>
    cases hf
    refine ⟨?_, ⟨hv, trivial⟩, rfl⟩
    simp only [concs, conc]
    cases σ p.fam p.gen with
    | none => rfl
    | some b => simp only []; split <;> rfl
  | bool b => cases hf; exact ⟨rfl, ⟨hv, trivial⟩, rfl⟩
  | int k n => cases hf; exact ⟨rfl, ⟨hv, trivial⟩, rfl⟩
  | str s => cases hf; exact ⟨rfl, ⟨hv, trivial⟩, rfl⟩
  | map r => cases hf; exact ⟨rfl, ⟨hv, trivial⟩, rfl⟩
  | func a b c => cases hf; exact ⟨rfl, ⟨hv, trivial⟩, rfl⟩
  | nilFunc => cases hf; exact ⟨rfl, ⟨hv, trivial⟩, rfl⟩
  | iface t v => cases hf; exact ⟨rfl, ⟨hv, trivial⟩, rfl⟩
  | nilIface => cases hf; exact ⟨rfl, ⟨hv, trivial⟩, rfl⟩

theorem concs_length (l : List AVal) : (concs σ l).length = l.length := by simp [concs_eq]

theorem mem_concs_one {l : List AVal} (h : l.all AVal.scalar = true) : ∀ v ∈ concs σ l, v.oneCell' = true := by
  intro v hv
  rw [concs_eq, List.mem_map] at hv
  obtain ⟨a, ha, rfl⟩ := hv
  exact conc_oneCell (List.all_eq_true.1 h a ha)

theorem canRead_iff {c : ACells} {g off n : Nat} (h : c.canRead g off n = true) : g ≤ c.gen ∧ c.start ≤ off ∧ off + n ≤ c.size := by
  simp only [ACells.canRead, Bool.and_eq_true, Nat.ble_eq] at h
  exact ⟨h.1.1, h.1.2, h.2⟩

theorem canWrite_iff {c : ACells} {g off n : Nat} (h : c.canWrite g off n = true) : g = c.gen ∧ c.start ≤ off ∧ off + n ≤ c.size ∧ c.frz ≤ off ∧ c.ro = false := by
  simp only [ACells.canWrite, Bool.and_eq_true, Nat.ble_eq, Nat.beq_eq, Bool.not_eq_true'] at h
  exact ⟨h.1.1.1.1, h.1.1.1.2, h.1.1.2, h.1.2, h.2⟩

/-! ### Loads and stores -/

theorem load_sound (H : Rel P B σ h w) {t : TypeId} {a v : AVal} (ha : okv σ a) (hl : load P t a h = some v) :
    (Instr.loadAt t (conc σ a)).run P w = .ok (conc σ v) w ∧ okv σ v := by
  unfold load at hl
  split at hl
  · rename_i p
    simp only [Option.bind_eq_some_iff] at hl
    obtain ⟨c, hc, n, hn, b, hb, hl⟩ := hl
    obtain ⟨rb, hrb, hst⟩ := ha
    have hconc : conc σ (.ptr (some p)) = .pointer (some (rb.at p.off)) := by simp only [conc, hrb, Option.map_some]
    rw [hconc]
    cases b with
    | true =>
      simp only [] at hl
      split at hl
      · rename_i hcr
        obtain ⟨_, c2, _⟩ := canRead_iff hcr
        simp only [Option.map_eq_some_iff] at hl
        obtain ⟨vs, hr, rfl⟩ := hl
        obtain ⟨r1, r2, r3, r4⟩ := H.read hrb hc c2 hr
        have hload := run_loadCells_list (P := P) w (rb.at p.off) (concs σ vs) r4
        rw [concs_length, r1] at hload
        refine ⟨?_, r2, r3⟩
        simp [Instr.loadAt, Instr.sureAddr, loadVar, run_isAgg hb, run_sizeOf hn, hload, conc]
      · cases hl
    | false =>
      simp only [] at hl
      split at hl
      · rename_i hcr
        obtain ⟨_, c2, _⟩ := canRead_iff hcr
        simp only [Option.bind_eq_some_iff] at hl
        obtain ⟨vs, hr, hv⟩ := hl
        obtain ⟨r1, r2, r3, r4⟩ := H.read hrb hc c2 hr
        cases vs with
        | nil => cases hv
        | cons u us =>
          cases hv
          have h0 := r4 0 (conc σ v) rfl
          have hadd : (rb.at p.off).add 0 = rb.at p.off := rfl
          rw [hadd] at h0
          exact ⟨by simp [Instr.loadAt, Instr.sureAddr, loadVar, run_isAgg hb, h0], r2.1⟩
      · cases hl
  · cases hl

/-- A write of cells into the newest generation of a family. -/
theorem write_post (H : Rel P B σ h w) {f off : Nat} {c c' : ACells} {rb : RB} {vs : List AVal} (hc : h.fam f = some c) (hrb : σ f c.gen = some rb)
    (hst : c.start ≤ off) (hsz : off + vs.length ≤ rb.ends) (hfrz : c.frz ≤ off) (hro : c.ro = false) (hvs : okvs σ vs) (hone : vs.all AVal.scalar = true)
    (hw : Wrote c c' off vs c.gen) (e1 : c'.es = c.es) (e2 : c'.ety = c.ety) (e3 : c'.size = c.size) (e4 : c'.flex = c.flex) (e5 : c'.gen = c.gen) (e6 : c'.start = c.start)
    (e7 : c'.frz = c.frz) (e8 : c'.mark = c.mark) (e9 : c'.ro = c.ro) :
    ∃ w', (storeCells (rb.at off) (concs σ vs)).run P w = .ok () w' ∧ Post P B σ h w σ (h.put f (.cells c')) w' := by
  have hco := H.cells hrb hc
  obtain ⟨cs, fr, hh, hle, hro2, hcell⟩ := hco.heap
  obtain ⟨hb0, hbs, hmk, hfle, hnf⟩ := hro2 hro
  have hs := hco.start
  obtain ⟨w', hrun, hsp⟩ := run_storeCells (P := P) rb.block (off - rb.start) c.ety fr (concs σ vs) 0 w cs hh (by rw [concs_length]; omega)
    (fun k h1 h2 => by
      rw [concs_length] at h2
      have := hnf (k + rb.start) (by omega) (by omega) (by omega)
      rwa [Nat.add_sub_cancel] at this) (mem_concs_one hone)
  have hat : rb.at off = ⟨rb.block, off - rb.start, none⟩ := by simp [RB.at, hb0]
  refine ⟨w', by rw [hat]; exact hrun, ?_⟩
  have hobj := fam_obj hc
  obtain ⟨cs', g1, g2, g3⟩ := hsp.here
  have hwr : h.writable f = true := by rw [writable_of hobj]; simp [AObj.writable, hro]
  refine put_post H hobj (by simp [AObj.writable, hro]) (by simp [AObj.writable, e9, hro]) (Real.le_refl σ) (fun _ _ _ => rfl) (fun g' b' hb => .inl hb) (fun g1 b1 g2 b2 h1 h2 hbk => H.alike _ _ _ _ _ h1 h2 hbk) (by rw [hsp.size]; exact Nat.le_refl _)
    (fun k _ hno => hsp.other k (fun e => hno _ _ hrb e.symm)) hsp.os hsp.tape hsp.output (fun g' b' hb' => ?_) (fun c2 hc2 => by cases hc2; exact hw.wf)
  have hk := H.cells hb' hc
  obtain ⟨ds, fr2, k1, k2, k3, k4⟩ := hk.heap
  refine ⟨by rw [e5]; exact hk.gen, by rw [e1]; exact hk.es, by rw [e6]; exact hk.start, by rw [e5, e3]; exact hk.size, by rw [e4, e5, e3, e6]; exact hk.exact, ?_⟩
  by_cases hblk : b'.block = rb.block
  · obtain rfl : b' = rb := H.alike _ _ _ _ _ hrb hb' hblk.symm
    rw [hh] at k1
    cases k1
    obtain ⟨kb, ks, km, kl, kn⟩ := k3 hro
    refine ⟨cs', fr, by rw [e2]; exact g1, by rw [g2]; exact k2, fun _ => ⟨kb, by rw [g2]; exact ks, by rw [e8]; exact km, kl, by rw [e7]; exact kn⟩, fun i v l hv his hil => ?_⟩
    rw [e6] at his
    rcases hw.at_ i v l hv with ⟨a1, a2, a3, a4⟩ | ⟨a1, l0, a2, a3⟩
    · -- written: only the newest generation sees it
      have hg : g' = c.gen := by have := hk.gen; omega
      have hmem : v ∈ vs := List.mem_iff_getElem?.2 ⟨_, a3⟩
      refine ⟨by omega, okvs_iff.1 hvs v hmem, List.all_eq_true.1 hone v hmem, ?_⟩
      rw [g3, if_pos (by rw [concs_length]; omega), concs_eq, List.getElem?_map]
      have : b'.base + (i - b'.start) - (off - b'.start + 0) = i - off := by omega
      rw [this, a3]; rfl
    · obtain ⟨m1, m2, m3, m4⟩ := k4 i v l0 a3 his (by omega)
      refine ⟨m1, m2, m3, ?_⟩
      rw [g3, if_neg, m4]
      rw [concs_length]
      intro hr
      exact a1 (by omega)
  · refine ⟨ds, fr2, by rw [hsp.other _ hblk, e2]; exact k1, k2, by rw [e9, e8, e7]; exact k3, fun i v l hv his hil => ?_⟩
    rw [e6] at his
    rcases hw.at_ i v l hv with ⟨a1, a2, a3, a4⟩ | ⟨a1, l0, a2, a3⟩
    · have hg : g' = c.gen := by have := hk.gen; omega
      subst hg
      rw [hb'] at hrb; cases hrb; exact absurd rfl hblk
    · exact k4 i v l0 a3 his (by omega)
end Go.Abs

namespace Go.Abs
variable {P : Program} {B : Nat} {σ : Real} {h : Heap} {w : World}

theorem store_sound (H : Rel P B σ h w) {t : TypeId} {a v : AVal} {h' : Heap} (ha : okv σ a) (hv : okv σ v) (hs : store P t a v h = some h') :
    ∃ w', (Instr.storeAt t (conc σ a) (conc σ v)).run P w = .ok () w' ∧ Post P B σ h w σ h' w' := by
  unfold store at hs
  split at hs
  · rename_i p
    simp only [Option.bind_eq_some_iff] at hs
    obtain ⟨c, hc, n, hn, vs, hf, hs⟩ := hs
    split at hs
    · rename_i hcond
      simp only [Bool.and_eq_true, Nat.beq_eq] at hcond
      obtain ⟨hlen, hcw⟩ := hcond
      obtain ⟨w1, w2, w3, w4, w5⟩ := canWrite_iff hcw
      simp only [Option.map_eq_some_iff] at hs
      obtain ⟨c', hw, rfl⟩ := hs
      obtain ⟨rb, hrb, hst⟩ := ha
      rw [w1] at hrb
      have hco := H.cells hrb hc
      obtain ⟨q0, q1, q2, q3, q4, q5, q6, q7, q8, q9⟩ := write_sound (H.full _ _ (fam_obj hc)) (by omega) hw
      obtain ⟨f1, f2, f3⟩ := flat_sound hf hv
      obtain ⟨w', hrun, hpost⟩ := write_post H hc hrb w2 (by have := hco.size rfl; omega) w4 w5 f2 f3 q0 q1 q2 q3 q4 q5 q6 q7 q8 q9
      refine ⟨w', ?_, hpost⟩
      have hconc : conc σ (.ptr (some p)) = .pointer (some (rb.at p.off)) := by simp only [conc, w1, hrb, Option.map_some]
      rw [hconc]
      simp [Instr.storeAt, Instr.sureAddr, storeVar, run_sizeOf hn, f1, concs_length, hlen, hrun]
    · cases hs
  · cases hs

/-- A new family of cells. -/
theorem fam_post (H : Rel P B σ h w) (hfree : Free σ h.next (h.next + 1)) {c : ACells} {vs : List AVal} {cs : Array Value} {fr : Nat × Nat} {w' : World}
    (he : 0 < c.es) (hm : vs.length % c.es = 0) (hel : c.elems = setElems c.es 0 vs.length 0 vs .leaf) (hgen : c.gen = 0) (hst : c.start = 0)
    (hvs : okvs σ vs) (hone : vs.all AVal.scalar = true) (hvsz : vs.length ≤ c.size) (hsz : c.size ≤ cs.size) (hle : vs.length ≤ cs.size) (hex : c.flex = false → cs.size = c.size)
    (hcs : ∀ (i : Nat) (v : AVal), vs[i]? = some v → cs[i]? = some (conc σ v)) (hmk : c.mark = false → fr = (0, 0)) (hfle : fr.1 ≤ fr.2) (hfr : ∀ k, k < cs.size → ¬ (fr.1 ≤ k ∧ k < fr.2))
    (hw : w'.heap = w.heap.push (.cells cs c.ety fr)) (hos : w'.os = w.os) (htape : w'.tape = w.tape) (hout : w'.output = w.output) :
    Post P B σ h w (σ.add h.next ⟨w.heap.size, 0, 0, cs.size, c.es⟩) (h.push (.cells c)) w' := by
  have hle' : σ.le (σ.add h.next ⟨w.heap.size, 0, 0, cs.size, c.es⟩) := by
    intro f' g' b' hb
    by_cases hf : f' = h.next
    · subst hf; rw [hfree _ g' (Nat.le_refl _) (Nat.lt_succ_self _)] at hb; cases hb
    · simp [Real.add, hf, hb]
  refine push_post H hfree rfl (by rw [hw]; simp) (fun k hk => by rw [hw, Array.getElem?_push, if_neg (by omega)]) hos htape hout ?_ (fun c2 hc2 => by cases hc2; exact cwf_made c.es vs he hm c rfl hvsz hel)
  refine ⟨by omega, rfl, Nat.zero_le _, fun _ => hsz, fun hf => ⟨hgen, rfl, hex hf, hst⟩, cs, fr, by rw [hw]; simp, by simp, fun _ => ⟨rfl, by simp, hmk, hfle, fun k _ _ hk => hfr k hk⟩, fun i v lo hv _ _ => ?_⟩
  obtain ⟨_, h2⟩ := cellAt_made c.es vs he hm c rfl hel hv
  have hmem : v ∈ vs := List.mem_iff_getElem?.2 ⟨_, h2⟩
  have hi := (List.getElem?_eq_some_iff.1 h2).1
  obtain ⟨e1, e2⟩ := ext_v hle' v (okvs_iff.1 hvs v hmem)
  refine ⟨by simp only []; omega, e1, List.all_eq_true.1 hone v hmem, ?_⟩
  rw [e2]
  simp only [Nat.zero_add, Nat.sub_zero]
  exact hcs i v h2

theorem add_here (σ : Real) (f : Nat) (b : RB) : σ.add f b f 0 = some b := by simp [Real.add]

theorem new_ptr (σ : Real) (f : Nat) (b : RB) (hb : b.base = 0) (hs : b.start = 0) : okv (σ.add f b) (.ptr (some ⟨f, 0, 0⟩)) ∧ conc (σ.add f b) (.ptr (some ⟨f, 0, 0⟩)) = .pointer (some ⟨b.block, 0, none⟩) :=
  ⟨⟨b, add_here σ f b, by simp only []; omega⟩, by simp only [conc, add_here, Option.map_some, RB.at, hb, Nat.zero_add, Nat.zero_sub]⟩

theorem newVar_sound (H : Rel P B σ h w) {t : TypeId} {v r : AVal} {h' : Heap} (hfree : Free σ h.next h'.next) (hv : okv σ v) (hn : newVar P t v h = some (r, h')) :
    ∃ σ' w', (Go.newVar t (conc σ v)).run P w = .ok ⟨w.heap.size, 0, none⟩ w' ∧ okv σ' r ∧ conc σ' r = .pointer (some ⟨w.heap.size, 0, none⟩) ∧ Post P B σ h w σ' h' w' := by
  unfold newVar at hn
  simp only [Option.bind_eq_some_iff] at hn
  obtain ⟨es, hes, vs, hf, hn⟩ := hn
  split at hn
  · rename_i hc
    simp only [Bool.and_eq_true, Nat.blt_eq, Nat.beq_eq] at hc
    obtain ⟨h1, h2⟩ := hc
    cases hn
    obtain ⟨f1, f2, f3⟩ := flat_sound hf hv
    have hw' : (w.alloc (.cells (concs σ vs).toArray t (0, 0))).heap = w.heap.push (.cells (concs σ vs).toArray t (0, 0)) := rfl
    have hpost := fam_post (c := ACells.made t es vs) (vs := vs) (cs := (concs σ vs).toArray) (fr := (0, 0)) (w' := w.alloc (.cells (concs σ vs).toArray t (0, 0))) H hfree h1 h2 rfl rfl rfl f2 f3
      (Nat.le_refl _) (by simp [ACells.made, concs_length]) (by simp [concs_length]) (fun _ => by simp [ACells.made, concs_length])
      (fun i v hi => by simp [concs_eq, hi]) (fun _ => rfl) (Nat.le_refl _) (fun k _ => by simp) rfl rfl rfl rfl
    refine ⟨_, _, ?_, (new_ptr σ _ _ rfl rfl).1, (new_ptr σ _ _ rfl rfl).2, hpost⟩
    simp only [Go.newVar, f1, newRow, Sem.run_bind, run_newObj, Result.andThen_ok, Sem.run_pure]
    rfl
  · cases hn

theorem alloc_sound (H : Rel P B σ h w) {t : TypeId} {z r : AVal} {h' : Heap} (hfree : Free σ h.next h'.next) (hz : zero? P t = some z) (hn : newVar P t z h = some (r, h')) :
    ∃ σ' w', (Instr.alloc t true (.tuple #[])).run P w = .ok (conc σ' r) w' ∧ okv σ' r ∧ Post P B σ h w σ' h' w' := by
  obtain ⟨v, hv, hc, _⟩ := run_zero hz w
  obtain ⟨o1, o2⟩ := hc σ
  obtain ⟨σ', w', h1, h2, h3, h4⟩ := newVar_sound H hfree o1 hn
  rw [o2] at h1
  exact ⟨σ', w', by simp [Instr.alloc, hv, h1, h3], h2, h4⟩

theorem box_sound (H : Rel P B σ h w) {t : TypeId} {v r : AVal} {h' : Heap} (hfree : Free σ h.next h'.next) (hv : okv σ v) (hn : newVar P t v h = some (r, h')) :
    ∃ σ' w', (Instr.box t (conc σ v)).run P w = .ok (conc σ' r) w' ∧ okv σ' r ∧ Post P B σ h w σ' h' w' := by
  obtain ⟨σ', w', h1, h2, h3, h4⟩ := newVar_sound H hfree hv hn
  exact ⟨σ', w', by simp [Instr.box, h1, h3], h2, h4⟩

/-! ### Building -/

theorem foldl_get (off : Nat) : ∀ (vs : List Value) (cells : Array Value) (j : Nat), off + j + vs.length ≤ cells.size → ∀ k,
    ((vs.zipIdx j).foldl (fun cs (x : Value × Nat) => cs.setIfInBounds (off + x.2) x.1) cells)[k]? = if off + j ≤ k ∧ k < off + j + vs.length then vs[k - (off + j)]? else cells[k]?
  | [], cells, j, _, k => by rw [if_neg (by simp)]; rfl
  | v :: vs, cells, j, hle, k => by
    simp only [List.length_cons] at hle
    rw [List.zipIdx_cons, List.foldl_cons, foldl_get off vs _ (j + 1) (by simp; omega)]
    by_cases h1 : off + (j + 1) ≤ k ∧ k < off + (j + 1) + vs.length
    · rw [if_pos h1, if_pos (by simp; omega)]
      have : k - (off + j) = (k - (off + (j + 1))) + 1 := by omega
      rw [this, List.getElem?_cons_succ]
    · rw [if_neg h1]
      by_cases h2 : k = off + j
      · subst h2
        rw [if_pos (by simp)]
        simp [show off + j < cells.size by omega]
      · rw [if_neg (by simp; omega), Array.getElem?_setIfInBounds_ne (by simp; omega)]

theorem foldl_set (off : Nat) (vs : List Value) (cells : Array Value) (hle : off + vs.length ≤ cells.size) :
    ((vs.zipIdx 0).foldl (fun cs (x : Value × Nat) => cs.setIfInBounds (off + x.2) x.1) cells).toList = cells.toList.take off ++ (vs ++ cells.toList.drop (off + vs.length)) := by
  apply List.ext_getElem?
  intro k
  rw [Array.getElem?_toList, foldl_get off vs cells 0 (by omega)]
  have htl : (cells.toList.take off).length = off := by simp; omega
  by_cases h1 : k < off
  · rw [if_neg (by omega), List.getElem?_append_left (by omega), List.getElem?_take, if_pos h1, Array.getElem?_toList]
  · rw [List.getElem?_append_right (by omega), htl]
    by_cases h2 : k - off < vs.length
    · rw [if_pos (by omega), List.getElem?_append_left h2]; rfl
    · rw [if_neg (by omega), List.getElem?_append_right (by omega), List.getElem?_drop, Array.getElem?_toList]
      congr 1; omega

theorem foldl_zipIdx_array (cells : Array Value) (vs : Array Value) (off : Nat) :
    vs.zipIdx.foldl (fun cs (c, j) => cs.setIfInBounds (off + j) c) cells = (vs.toList.zipIdx.foldl (fun cs (x : Value × Nat) => cs.setIfInBounds (off + x.2) x.1) cells) := by
  rw [← Array.foldl_toList, Array.toList_zipIdx]

theorem fill_sound {place : Nat → Option (Nat × Nat)} : ∀ {ps : List (Nat × AVal)} {cells out : List AVal}, fill place cells ps = some out →
    okvs σ cells → cells.all AVal.scalar = true → (∀ p ∈ ps, okv σ p.2) →
    Instr.fill place (concs σ cells).toArray (ps.map fun p => (p.1, conc σ p.2)) = some (concs σ out).toArray ∧ okvs σ out ∧ out.all AVal.scalar = true ∧ out.length = cells.length
  | [], cells, out, h, h1, h2, _ => by cases h; exact ⟨rfl, h1, h2, rfl⟩
  | (i, v) :: ps, cells, out, h, h1, h2, h3 => by
    simp only [fill] at h
    split at h
    · cases h
    · rename_i off size hp
      simp only [Option.bind_eq_some_iff] at h
      obtain ⟨vs, hf, h⟩ := h
      split at h
      · cases h
      · rename_i hc
        simp only [Bool.and_eq_true, Nat.beq_eq, Nat.ble_eq] at hc
        obtain ⟨hc1, hc2⟩ := hc
        obtain ⟨f1, f2, f3⟩ := flat_sound hf (h3 (i, v) (by simp))
        have hok : okvs σ (cells.take off ++ (vs ++ cells.drop (off + size))) := by
          rw [okvs_iff] at *
          intro u hu
          simp only [List.mem_append] at hu
          rcases hu with hu | hu | hu
          · exact h1 u (List.mem_of_mem_take hu)
          · exact f2 u hu
          · exact h1 u (List.mem_of_mem_drop hu)
        have hsc : (cells.take off ++ (vs ++ cells.drop (off + size))).all AVal.scalar = true := by
          rw [List.all_eq_true] at *
          intro u hu
          simp only [List.mem_append] at hu
          rcases hu with hu | hu | hu
          · exact h2 u (List.mem_of_mem_take hu)
          · exact f3 u hu
          · exact h2 u (List.mem_of_mem_drop hu)
        obtain ⟨r1, r2, r3, r4⟩ := fill_sound h hok hsc (fun p hp => h3 p (by simp [hp]))
        refine ⟨?_, r2, r3, by rw [r4]; simp; omega⟩
        rw [← r1]
        simp only [List.map_cons, Instr.fill, hp, f1]
        have e1 : (concs σ vs).toArray.size = size := by simp [concs_length, hc1]
        rw [if_neg (by rw [e1]; simp [concs_length]; omega)]
        congr 1
        apply Array.ext'
        rw [foldl_zipIdx_array, foldl_set off _ _ (by simp [concs_length]; omega)]
        simp [concs_eq, hc1]

theorem parts_sound (hg : GlobOk P σ) {T : Env} {a : Act} (hT : EnvOk σ T a.tmps) : ∀ {xs : List (Nat × Operand)} {ps : List (Nat × AVal)}, parts? P T xs = some ps →
    (∀ p ∈ ps, okv σ p.2) ∧ xs.map (fun x => (x.1, a.eval x.2)) = ps.map fun p => (p.1, conc σ p.2)
  | [], ps, h => by cases h; exact ⟨by simp, rfl⟩
  | (i, x) :: xs, ps, h => by
    simp only [parts?, Option.bind_eq_some_iff, Option.map_eq_some_iff] at h
    obtain ⟨v, hv, us, hu, rfl⟩ := h
    obtain ⟨h1, h2⟩ := eval_sound hg hT hv
    obtain ⟨k1, k2⟩ := parts_sound hg hT hu
    refine ⟨fun p hp => ?_, by simp only [List.map_cons, h2, k2]⟩
    rcases List.mem_cons.1 hp with rfl | hp
    · exact h1
    · exact k1 p hp

theorem places_sound : ∀ {fs : List Field} {pl : List (Nat × Nat)}, places? P fs = some pl → fs.mapM (fun f => (P.info? f.type).map fun i => (f.offset, i.size)) = some pl
  | [], pl, h => by cases h; rfl
  | f :: fs, pl, h => by
    simp only [places?, Option.bind_eq_some_iff, Option.map_eq_some_iff] at h
    obtain ⟨s, hs, qs, hq, rfl⟩ := h
    unfold size? at hs
    cases hi : P.info? f.type with
    | none => rw [hi] at hs; cases hs
    | some i =>
      rw [hi] at hs
      cases hs
      simp [List.mapM_cons, hi, places_sound hq]

theorem build_sound {t : TypeId} {ps : List (Nat × AVal)} {v : AVal} (hb : build P t ps = some v) (hps : ∀ p ∈ ps, okv σ p.2) (w : World) (parts : Array (Nat × Value))
    (hparts : parts.toList = ps.map fun p => (p.1, conc σ p.2)) : (Instr.build t parts).run P w = .ok (conc σ v) w ∧ okv σ v := by
  unfold build at hb
  simp only [Option.bind_eq_some_iff] at hb
  obtain ⟨z, hz, zs, hf, hb⟩ := hb
  obtain ⟨zv, _, hzc, it, hit, hiz⟩ := run_zero hz w
  obtain ⟨o1, o2⟩ := hzc σ
  obtain ⟨f1, f2, f3⟩ := flat_sound hf o1
  rw [o2] at f1
  split at hb
  · rename_i fields hu
    simp only [Option.bind_eq_some_iff, Option.map_eq_some_iff] at hb
    obtain ⟨pl, hpl, out, hfill, rfl⟩ := hb
    obtain ⟨r1, r2, r3, _⟩ := fill_sound hfill f2 f3 hps
    refine ⟨run_build w t parts _ ?_, r2, r3⟩
    simp only [Program.built, hit, hu, hiz, places_sound hpl, f1, hparts]
    rw [← r1]
    congr 1
    funext i
    simp
  · rename_i e hu
    simp only [Option.bind_eq_some_iff, Option.map_eq_some_iff] at hb
    obtain ⟨s, hs, out, hfill, rfl⟩ := hb
    obtain ⟨r1, r2, r3, _⟩ := fill_sound hfill f2 f3 hps
    unfold size? at hs
    cases hi : P.info? e with
    | none => rw [hi] at hs; cases hs
    | some i =>
      rw [hi] at hs
      cases hs
      exact ⟨run_build w t parts _ (by simp only [Program.built, hit, hu, hiz, hi, f1, hparts]; exact r1), r2, r3⟩
  · cases hb

theorem repeated_length (z : List AVal) : ∀ n, (repeated z n).length = n * z.length
  | 0 => by simp [repeated]
  | n + 1 => by simp [repeated, repeated_length z n, Nat.succ_mul, Nat.add_comm]
theorem repeated_get (z : List AVal) (hz : 0 < z.length) : ∀ n i, i < n * z.length → (repeated z n)[i]? = z[i % z.length]?
  | 0, i, h => by simp at h
  | n + 1, i, h => by
    simp only [repeated]
    by_cases hi : i < z.length
    · rw [List.getElem?_append_left hi, Nat.mod_eq_of_lt hi]
    · rw [List.getElem?_append_right (by omega), repeated_get z hz n _ (by rw [Nat.succ_mul] at h; omega), Nat.mod_eq_sub_mod (a := i) (b := z.length) (by omega)]
theorem repeated_mem {z : List AVal} {n : Nat} {v : AVal} (h : v ∈ repeated z n) : v ∈ z := by
  induction n with
  | zero => simp [repeated] at h
  | succ n ih =>
    simp only [repeated, List.mem_append] at h
    exact h.elim id ih

theorem zeros_eq (zs : List AVal) (hz : 0 < zs.length) (n : Nat) (m : Nat) (hm : m = n * zs.length) :
    (Array.range m).map (fun i => (concs σ zs).toArray[i % (concs σ zs).toArray.size]!) = (concs σ (repeated zs n)).toArray := by
  subst hm
  apply Array.ext'
  apply List.ext_getElem?
  intro i
  simp only [Array.toList_map, Array.toList_range, List.getElem?_map, List.size_toArray, concs_eq, List.length_map]
  by_cases hi : i < n * zs.length
  · rw [List.getElem?_range hi, repeated_get zs hz n i hi]
    have hlt : i % zs.length < zs.length := Nat.mod_lt _ hz
    simp [List.getElem?_eq_getElem hlt, List.getElem!_eq_getElem?_getD]
  · rw [List.getElem?_eq_none (by simp; omega), List.getElem?_eq_none (by rw [repeated_length]; omega)]; rfl

theorem buildSlice_sound (H : Rel P B σ h w) {t : TypeId} {len : Nat} {ps : List (Nat × AVal)} {r : AVal} {h' : Heap} (hfree : Free σ h.next h'.next)
    (hb : buildSlice P t len ps h = some (r, h')) (hps : ∀ p ∈ ps, okv σ p.2) (parts : Array (Nat × Value)) (hparts : parts.toList = ps.map fun p => (p.1, conc σ p.2)) :
    ∃ σ' w', (Instr.buildSlice t len parts).run P w = .ok (conc σ' r) w' ∧ okv σ' r ∧ Post P B σ h w σ' h' w' := by
  unfold buildSlice at hb
  split at hb
  · rename_i e hu
    simp only [Option.bind_eq_some_iff] at hb
    obtain ⟨s, hs, z, hz, zs, hf, hb⟩ := hb
    split at hb
    · rename_i hc
      simp only [Bool.and_eq_true, Nat.blt_eq, Nat.beq_eq, Nat.ble_eq] at hc
      obtain ⟨⟨c1, c2⟩, c3⟩ := hc
      simp only [Option.bind_eq_some_iff] at hb
      obtain ⟨vs, hfill, hb⟩ := hb
      cases hb
      obtain ⟨zv, hzr, hzc, _⟩ := run_zero hz w
      obtain ⟨o1, o2⟩ := hzc σ
      obtain ⟨f1, f2, f3⟩ := flat_sound hf o1
      rw [o2] at f1
      have hrok : okvs σ (repeated zs len) := okvs_iff.2 fun v hv => okvs_iff.1 f2 v (repeated_mem hv)
      have hrsc : (repeated zs len).all AVal.scalar = true := List.all_eq_true.2 fun v hv => List.all_eq_true.1 f3 v (repeated_mem hv)
      obtain ⟨r1, r2, r3, r4⟩ := fill_sound hfill hrok hrsc hps
      rw [repeated_length, c2] at r4
      have hmod : vs.length % s = 0 := by rw [r4]; exact Nat.mul_mod_left _ _
      have hpost := fam_post (c := ACells.made e s vs) (vs := vs) (cs := (concs σ vs).toArray) (fr := (0, 0)) (w' := w.alloc (.cells (concs σ vs).toArray e (0, 0))) H hfree c1 hmod rfl rfl rfl r2 r3
        (Nat.le_refl _) (by simp [ACells.made, concs_length]) (by simp [concs_length]) (fun _ => by simp [ACells.made, concs_length])
        (fun i v hi => by simp [concs_eq, hi]) (fun _ => rfl) (Nat.le_refl _) (fun k _ => by simp) rfl rfl rfl rfl
      refine ⟨_, _, ?_, ⟨_, add_here _ _ _, by simp, by simp⟩, hpost⟩
      have hzl : 0 < zs.length := by omega
      have hz2 := zeros_eq (σ := σ) zs hzl len (len * s) (by rw [c2])
      have hsl : (concs σ zs).toArray.size = zs.length := by simp [concs_length]
      simp only [Instr.buildSlice, Sem.run_bind, run_underlying hu, Result.andThen_ok, run_sizeOf hs, Sem.run_ite]
      rw [if_neg (by omega)]
      have hcells : ((if len * s = 0 then pure #[] else do let __do_lift ← zeroValue e; pure __do_lift.cells : Sem (Array Value)).run P w) = .ok (if len * s = 0 then #[] else (concs σ zs).toArray) w := by
        split
        · rfl
        · simp [hzr, f1]
      simp only [Sem.run_pure, Result.andThen_ok, hzr, f1]
      by_cases h0 : len * s = 0
      · have hl0 : len = 0 := by rcases Nat.mul_eq_zero.1 h0 with h1 | h1 <;> omega
        subst hl0
        simp only [repeated] at r1
        simp only [Nat.zero_mul]
        have : (Array.range 0).map (fun x => (#[] : Array Value)[x % (#[] : Array Value).size]!) = (concs σ []).toArray := by apply Array.ext'; simp [concs]
        simp only [this, hparts, r1, Sem.run_bind, newRow, run_newObj, Result.andThen_ok, Sem.run_pure]
        simp only [conc, add_here, RB.at]
        rfl
      · simp only [if_neg h0, Result.andThen_ok, hz2, hparts, r1, Sem.run_bind, newRow, run_newObj, Sem.run_pure]
        simp only [conc, add_here, RB.at]
        rfl
    · cases hb
  · cases hb
end Go.Abs

namespace Go.Abs
variable {P : Program} {B : Nat} {σ : Real} {h : Heap} {w : World}

theorem w_i8 (n : Int) : IntKind.i8.wrap n = if n % 256 ≥ 128 then n % 256 - 256 else n % 256 := by simp [IntKind.wrap, IntKind.bits, IntKind.signed]
theorem w_i16 (n : Int) : IntKind.i16.wrap n = if n % 65536 ≥ 32768 then n % 65536 - 65536 else n % 65536 := by simp [IntKind.wrap, IntKind.bits, IntKind.signed]
theorem w_i32 (n : Int) : IntKind.i32.wrap n = if n % 4294967296 ≥ 2147483648 then n % 4294967296 - 4294967296 else n % 4294967296 := by simp [IntKind.wrap, IntKind.bits, IntKind.signed]
theorem w_i64 (n : Int) : IntKind.i64.wrap n = if n % 18446744073709551616 ≥ 9223372036854775808 then n % 18446744073709551616 - 18446744073709551616 else n % 18446744073709551616 := by
  simp [IntKind.wrap, IntKind.bits, IntKind.signed]
theorem w_u8 (n : Int) : IntKind.u8.wrap n = n % 256 := by simp [IntKind.wrap, IntKind.bits, IntKind.signed]
theorem w_u16 (n : Int) : IntKind.u16.wrap n = n % 65536 := by simp [IntKind.wrap, IntKind.bits, IntKind.signed]
theorem w_u32 (n : Int) : IntKind.u32.wrap n = n % 4294967296 := by simp [IntKind.wrap, IntKind.bits, IntKind.signed]
theorem w_u64 (n : Int) : IntKind.u64.wrap n = n % 18446744073709551616 := by simp [IntKind.wrap, IntKind.bits, IntKind.signed]

theorem wrap_pos (k : IntKind) (m : Nat) (h : m ≤ match k with | .i8 => 127 | .i16 => 32767 | .i32 => 2147483647 | .i64 => 9223372036854775807 | .u8 => 255 | .u16 => 65535 | .u32 => 4294967295 | .u64 => 18446744073709551615) :
    k.wrap (Int.ofNat m) = Int.ofNat m := by
  have e : Int.ofNat m = (m : Int) := rfl
  rw [e]
  cases k <;> dsimp only at h
  · rw [w_i8]; split <;> omega
  · rw [w_i16]; split <;> omega
  · rw [w_i32]; split <;> omega
  · rw [w_i64]; split <;> omega
  · rw [w_u8]; omega
  · rw [w_u16]; omega
  · rw [w_u32]; omega
  · rw [w_u64]; omega

theorem wrap_neg (k : IntKind) (m : Nat) (h : m ≤ match k with | .i8 => 127 | .i16 => 32767 | .i32 => 2147483647 | _ => 9223372036854775807) (hs : k.signed = true) :
    k.wrap (Int.negSucc m) = Int.negSucc m := by
  rw [Int.negSucc_eq]
  cases k <;> dsimp only at h
  · rw [w_i8]; split <;> omega
  · rw [w_i16]; split <;> omega
  · rw [w_i32]; split <;> omega
  · rw [w_i64]; split <;> omega
  all_goals cases hs

theorem wrap_eq (k : IntKind) (n : Int) : wrap k n = k.wrap n := by
  unfold wrap
  split
  · split
    · rename_i hle
      exact (wrap_pos k _ (Nat.le_of_ble_eq_true hle)).symm
    · rfl
  · split
    · rename_i hc
      simp only [Bool.and_eq_true] at hc
      exact (wrap_neg k _ (Nat.le_of_ble_eq_true hc.2) hc.1).symm
    · rfl

theorem semVal_sound {s : Sem Value} {v : AVal} (hs : semVal s = some v) (w : World) : s.run P w = .ok (conc σ v) w ∧ okv σ v := by
  unfold semVal at hs
  split at hs
  · cases hs; exact ⟨rfl, trivial⟩
  · cases hs; exact ⟨rfl, trivial⟩
  · cases hs

theorem intOp_sound {op : BinOp} {t : TypeId} {k k' : IntKind} {m n : Int} {v : AVal} (hi : intOp op k m k' n = some v) (w : World) :
    (Go.binOp op t (.int k m) (.int k' n)).run P w = .ok (conc σ v) w ∧ okv σ v := by
  cases op
  case shl => exact semVal_sound hi w
  case shr => exact semVal_sound hi w
  all_goals
    by_cases hk : k = k'
    · subst hk
      simp only [intOp, if_true] at hi
      first
        | (cases hi; done)
        | (simp only [Option.some.injEq] at hi; subst hi; exact ⟨by simp [Go.binOp, Op.intArith, Op.intCmp, conc, wrap_eq], trivial⟩)
        | (obtain ⟨h1, h2⟩ := semVal_sound (P := P) (σ := σ) hi w; exact ⟨by simp only [Go.binOp, ne_eq, not_true_eq_false, if_false]; exact h1, h2⟩)
    · simp only [intOp, hk, if_false] at hi
      cases hi

theorem str_size (s : List UInt8) : (ByteArray.mk s.toArray).size = s.length := by simp [ByteArray.size]
theorem str_toList (s : List UInt8) : (ByteArray.mk s.toArray).toList = s := by rw [ByteArray.toList_eq]
theorem str_append (a b : List UInt8) : (ByteArray.mk a.toArray ++ ByteArray.mk b.toArray) = ByteArray.mk (a ++ b).toArray := by
  apply ByteArray.ext
  simp

theorem strOp_sound {op : BinOp} {t : TypeId} {a b : List UInt8} {v : AVal} (hs : strOp op a b = some v) (w : World) :
    (Go.binOp op t (.string ⟨a.toArray⟩) (.string ⟨b.toArray⟩)).run P w = .ok (conc σ v) w ∧ okv σ v := by
  cases op <;> first
    | (cases hs; done)
    | (simp only [strOp, Option.some.injEq] at hs; subst hs; exact ⟨by simp [Go.binOp, Op.stringOp, conc], trivial⟩)
    | skip
  simp only [strOp] at hs
  split at hs
  · rename_i hle
    have hle := Nat.le_of_ble_eq_true hle
    cases hs
    refine ⟨?_, trivial⟩
    simp only [Go.binOp, Op.stringOp, str_size, str_append, conc]
    rw [if_neg (by simp only [IntKind.max_i64]; omega)]
    rfl
  · cases hs

theorem part_sound {t : TypeId} {cs : List AVal} {off : Nat} {v : AVal} (hp : part P t cs off = some v) (hcs : okvs σ cs) (hsc : cs.all AVal.scalar = true) (w : World) :
    (Go.part t (concs σ cs).toArray off).run P w = .ok (conc σ v) w ∧ okv σ v := by
  unfold part at hp
  simp only [Option.bind_eq_some_iff] at hp
  obtain ⟨n, hn, b, hb, hp⟩ := hp
  cases b with
  | true =>
    simp only [] at hp
    split at hp
    · rename_i hle
      have hle := Nat.le_of_ble_eq_true hle
      cases hp
      refine ⟨?_, ⟨okvs_iff.2 fun u hu => okvs_iff.1 hcs u (List.mem_of_mem_drop (List.mem_of_mem_take hu)), List.all_eq_true.2 fun u hu => List.all_eq_true.1 hsc u (List.mem_of_mem_drop (List.mem_of_mem_take hu))⟩⟩
      simp only [Go.part, Sem.run_bind, run_isAgg hb, Result.andThen_ok, if_true, run_sizeOf hn, Sem.run_pure, conc]
      congr 2
      apply Array.ext'
      simp [concs_eq, List.map_drop, List.map_take]
    · cases hp
  | false =>
    simp only [] at hp
    refine ⟨?_, okvs_iff.1 hcs v (List.mem_iff_getElem?.2 ⟨_, hp⟩)⟩
    have : (concs σ cs).toArray[off]? = some (conc σ v) := by simp [concs_eq, hp]
    simp only [Go.part, Sem.run_bind, run_isAgg hb, Result.andThen_ok, Bool.false_eq_true, if_false, this]
    rfl

/-! ### Equality -/

theorem samePtr_sound (H : Rel P B σ h w) {p q : APtr} {r : Bool} (hp : okv σ (.ptr (some p))) (hq : okv σ (.ptr (some q))) (hs : samePtr h p q = some r) :
    ∃ a b, conc σ (.ptr (some p)) = .pointer (some a) ∧ conc σ (.ptr (some q)) = .pointer (some b) ∧ (sameAddr a b).run P w = .ok r w := by
  obtain ⟨b1, hb1, hs1⟩ := hp
  obtain ⟨b2, hb2, hs2⟩ := hq
  refine ⟨b1.at p.off, b2.at q.off, by simp only [conc, hb1, Option.map_some], by simp only [conc, hb2, Option.map_some], ?_⟩
  unfold samePtr at hs
  split at hs
  · rename_i hf
    rw [Nat.beq_eq] at hf
    split at hs
    · rename_i hg
      rw [Nat.beq_eq] at hg
      rw [hf, hg] at hb1
      obtain rfl : b1 = b2 := by rw [hb1] at hb2; exact Option.some.inj hb2
      cases hs
      simp only [sameAddr, RB.at, beq_self_eq_true, if_true, Sem.run_pure]
      congr 1
      rw [Bool.eq_iff_iff]
      simp only [beq_iff_eq, Addr.mk.injEq, true_and, and_true, Nat.beq_eq]
      omega
    · cases hs
  · rename_i hf
    have hne : p.fam ≠ q.fam := by intro e; rw [e] at hf; simp at hf
    simp only [Option.bind_eq_some_iff] at hs
    obtain ⟨c, hc, d, hd, hs⟩ := hs
    split at hs
    · rename_i hcond
      simp only [Bool.and_eq_true, Bool.not_eq_true'] at hcond
      obtain ⟨⟨⟨m1, m2⟩, ro1⟩, ro2⟩ := hcond
      cases hs
      have o1 := H.cells hb1 hc
      have o2 := H.cells hb2 hd
      obtain ⟨cs1, fr1, hh1, _, hr1, _⟩ := o1.heap
      obtain ⟨cs2, fr2, hh2, _, hr2, _⟩ := o2.heap
      have hblk : b1.block ≠ b2.block := H.apart _ _ _ _ _ _ hb1 hb2 hne (by rw [writable_of (fam_obj hc)]; simp [AObj.writable, ro1])
      have hbe : ((b1.at p.off).block == (b2.at q.off).block) = false := by simp [RB.at, hblk]
      obtain rfl : fr1 = (0, 0) := (hr1 ro1).2.2.1 m1
      obtain rfl : fr2 = (0, 0) := (hr2 ro2).2.2.1 m2
      have f1 : ∀ off, w.frozen? ⟨b1.block, off, none⟩ = false := fun off => by simp [World.frozen?, hh1]
      have f2 : ∀ off, w.frozen? ⟨b2.block, off, none⟩ = false := fun off => by simp [World.frozen?, hh2]
      have s1 : w.shape? b1.block = some (c.ety, cs1.size) := by simp [World.shape?, hh1]
      have s2 : w.shape? b2.block = some (d.ety, cs2.size) := by simp [World.shape?, hh2]
      simp only [RB.at] at hbe
      simp [sameAddr, hbe, RB.at, f1, f2, s1, s2, noView, viewAt, mayBeOne, stringish]
    · cases hs
end Go.Abs

namespace Go.Abs
variable {P : Program} {B : Nat} {σ : Real} {h : Heap} {w : World}

theorem eqFields_sound {eq : TypeId → AVal → AVal → Option Bool} {D : Nat}
    (heq : ∀ t x y r, eq t x y = some r → okv σ x → okv σ y → (Op.equalIn D t (conc σ x) (conc σ y)).run P w = .ok r w) :
    ∀ {fs : List Field} {xs ys : List AVal} {r : Bool}, fieldsEq P eq fs xs ys = some r → okvs σ xs → okvs σ ys → xs.all AVal.scalar = true → ys.all AVal.scalar = true →
      (Op.eqFields D (concs σ xs).toArray (concs σ ys).toArray fs).run P w = .ok r w
  | [], xs, ys, r, hf, _, _, _, _ => by cases hf; rfl
  | f :: fs, xs, ys, r, hf, h1, h2, h3, h4 => by
    simp only [fieldsEq] at hf
    by_cases hn : f.name = "_"
    · have hb : (f.name == "_") = true := by simp [hn]
      rw [hb] at hf
      simp only [] at hf
      simp only [Op.eqFields, hn, ne_eq, not_true_eq_false, if_false]
      exact eqFields_sound heq hf h1 h2 h3 h4
    · have hb : (f.name == "_") = false := by simp [hn]
      rw [hb] at hf
      simp only [Option.bind_eq_some_iff] at hf
      obtain ⟨a, ha, b, hb', q, hq, hf⟩ := hf
      obtain ⟨a1, a2⟩ := part_sound (P := P) ha h1 h3 w
      obtain ⟨b1, b2⟩ := part_sound (P := P) hb' h2 h4 w
      have he := heq _ _ _ _ hq a2 b2
      simp only [Op.eqFields, hn, ne_eq, not_false_eq_true, if_true, Sem.run_bind, a1, b1, he, Result.andThen_ok]
      cases q with
      | true => simp only [Bool.not_true, Bool.false_eq_true, if_false]; exact eqFields_sound heq hf h1 h2 h3 h4
      | false => simp only [] at hf; cases hf; rfl

theorem eqItems_sound {eq : TypeId → AVal → AVal → Option Bool} {D : Nat} {e : TypeId} {n : Nat}
    (heq : ∀ t x y r, eq t x y = some r → okv σ x → okv σ y → (Op.equalIn D t (conc σ x) (conc σ y)).run P w = .ok r w)
    {xs ys : List AVal} (h1 : okvs σ xs) (h2 : okvs σ ys) (h3 : xs.all AVal.scalar = true) (h4 : ys.all AVal.scalar = true) :
    ∀ (k i : Nat) (r : Bool), arrayEq P eq e n xs ys k i = some r → (Op.eqItems D e n (concs σ xs).toArray (concs σ ys).toArray (List.range' i k)).run P w = .ok r w := by
  intro k
  induction k with
  | zero => intro i r hr; cases hr; rfl
  | succ k ih =>
    intro i r hr
    simp only [arrayEq, Option.bind_eq_some_iff] at hr
    obtain ⟨a, ha, b, hb, q, hq, hr⟩ := hr
    obtain ⟨a1, a2⟩ := part_sound (P := P) ha h1 h3 w
    obtain ⟨b1, b2⟩ := part_sound (P := P) hb h2 h4 w
    have he := heq _ _ _ _ hq a2 b2
    rw [List.range'_succ]
    simp only [Op.eqItems, Sem.run_bind, a1, b1, he, Result.andThen_ok]
    cases q with
    | true => simp only [Bool.not_true, Bool.false_eq_true, if_false]; exact ih (i + 1) r hr
    | false => simp only [] at hr; cases hr; rfl

theorem conc_slice (σ : Real) (p : APtr) (len : Nat) (cap : ACap) (hok : okv σ (.slice (some p) len cap)) : ∃ a c, conc σ (.slice (some p) len cap) = .slice (some a) len c := by
  obtain ⟨b, hb, _⟩ := hok
  exact ⟨_, _, by simp only [conc, hb]; rfl⟩
theorem conc_zslice (σ : Real) (p : APtr) (l e : Nat) (hok : okv σ (.zslice p l e)) : ∃ a c, conc σ (.zslice p l e) = .slice (some a) 0 c := by
  obtain ⟨b, hb, _⟩ := hok
  simp only [conc, hb]
  split
  · exact ⟨_, _, rfl⟩
  · exact ⟨_, _, rfl⟩

theorem eqFlat_sound {t : TypeId} {u : TypeDesc} {x y : AVal} {r : Bool} (hu : P.underlying t = some u) (hx : okv σ x) (hy : okv σ y) (he : eqFlat u x y = some r) (D : Nat) (w : World) :
    (Op.equalIn (D + 1) t (conc σ x) (conc σ y)).run P w = .ok r w := by
  cases u <;> simp only [eqFlat] at he <;> try (cases he; done)
  case bool =>
    split at he <;> cases he
    simp [Op.equalIn, run_underlying hu, conc]
  case int =>
    split at he
    · split at he
      · rename_i hk
        subst hk
        cases he
        simp [Op.equalIn, run_underlying hu, conc]
      · cases he
    · cases he
  case string =>
    split at he <;> cases he
    simp only [Op.equalIn, Sem.run_bind, run_underlying hu, Result.andThen_ok, conc, Sem.run_pure, beq_toListBytes, str_toList]
  case interface =>
    split at he <;> cases he <;> simp [Op.equalIn, run_underlying hu, conc]
  case slice =>
    split at he <;> cases he
    · rename_i b _ _
      cases b with
      | none => simp [Op.equalIn, run_underlying hu, conc]
      | some p =>
        obtain ⟨a, c, e⟩ := conc_slice σ p _ _ hy
        rw [e]
        simp [Op.equalIn, run_underlying hu, conc]
    · obtain ⟨a, c, e⟩ := conc_slice σ _ _ _ hx
      rw [e]
      simp [Op.equalIn, run_underlying hu, conc]
    · obtain ⟨a, c, e⟩ := conc_zslice σ _ _ _ hx
      rw [e]
      simp [Op.equalIn, run_underlying hu, conc]
    · obtain ⟨a, c, e⟩ := conc_zslice σ _ _ _ hy
      rw [e]
      simp [Op.equalIn, run_underlying hu, conc]
  case map =>
    split at he
    · cases he
      obtain rfl := hy
      simp [Op.equalIn, run_underlying hu, conc]
    · cases hx
    · cases he
  case func => split at he <;> cases he <;> simp [Op.equalIn, run_underlying hu, conc]

theorem eqIn_sound (H : Rel P B σ h w) : ∀ (d : Nat) (t : TypeId) (x y : AVal) (r : Bool), eqIn P h d t x y = some r → okv σ x → okv σ y →
    ∀ D, d ≤ D → (Op.equalIn D t (conc σ x) (conc σ y)).run P w = .ok r w := by
  intro d
  induction d with
  | zero => intro t x y r he; cases he
  | succ d ih =>
    intro t x y r he hx hy D hD
    obtain ⟨D, rfl⟩ : ∃ D', D = D' + 1 := ⟨D - 1, by omega⟩
    simp only [eqIn] at he
    cases hu : P.underlying t with
    | none => rw [hu] at he; cases he
    | some u =>
      rw [hu] at he
      cases u
      case pointer e =>
        simp only [] at he
        split at he
        · rename_i q
          cases he
          cases q with
          | none => simp [Op.equalIn, run_underlying hu, conc]
          | some q => obtain ⟨b, hb, _⟩ := hy; simp [Op.equalIn, run_underlying hu, conc, hb]
        · cases he
          rename_i q
          obtain ⟨b, hb, _⟩ := hx
          simp [Op.equalIn, run_underlying hu, conc, hb]
        · rename_i p q
          split at he
          · rename_i n hn
            obtain ⟨a, b, e1, e2, e3⟩ := samePtr_sound H hx hy he
            rw [e1, e2]
            simp [Op.equalIn, run_underlying hu, run_sizeOf hn, e3]
          · cases he
        · cases he
      case struct fields =>
        simp only [] at he
        split at he
        · split at he
          · cases he
          · rename_i hst
            have hfo : P.fieldsOf t = fields := by simp [Program.fieldsOf, hu]
            simp only [conc]
            rw [run_equalIn_struct w D t _ _ (by rw [hu, hfo]) hst, hfo]
            exact eqFields_sound (fun t x y r h1 h2 h3 => ih t x y r h1 h2 h3 D (by omega)) he hx.1 hy.1 hx.2 hy.2
        · cases he
      case array len e =>
        simp only [] at he
        split at he
        · simp only [Option.bind_eq_some_iff] at he
          obtain ⟨n, hn, he⟩ := he
          unfold size? at hn
          cases hi : P.info? e with
          | none => rw [hi] at hn; cases hn
          | some i =>
            rw [hi] at hn
            cases hn
            simp only [conc]
            rw [run_equalIn_array w D _ _ hu hi]
            have hc : P.cellsOf e = i.size := by simp [Program.cellsOf, hi]
            rw [hc, List.range_eq_range']
            exact eqItems_sound (fun t x y r h1 h2 h3 => ih t x y r h1 h2 h3 D (by omega)) hx.1 hy.1 hx.2 hy.2 len 0 r he
        · cases he
      all_goals exact eqFlat_sound hu hx hy he D w

/-! ### Operators -/

theorem conc_nilIface {a : AVal} (h : conc σ a = .nilIface) : a = .nilIface := by
  cases a with
  | nilIface => rfl
  | ptr p => cases p <;> cases h
  | slice p n c => cases p with
    | none => cases h
    | some p => simp only [conc] at h; split at h <;> cases h
  | zslice p l e => simp only [conc] at h; split at h; split at h <;> cases h; cases h
  | _ => cases h
theorem conc_agg {a : AVal} {xs : Array Value} (h : conc σ a = .agg xs) : ∃ cs, a = .agg cs := by
  cases a with
  | agg cs => exact ⟨cs, rfl⟩
  | ptr p => cases p <;> cases h
  | slice p n c => cases p with
    | none => cases h
    | some p => simp only [conc] at h; split at h <;> cases h
  | zslice p l e => simp only [conc] at h; split at h; split at h <;> cases h; cases h
  | _ => cases h

theorem eqGuard_plain {op : BinOp} {t : TypeId} {x y : Operand} {a b : Value} (h1 : ¬ (a = .nilIface ∧ b = .nilIface)) (h2 : ¬ ((∃ xs, a = .agg xs) ∧ ∃ ys, b = .agg ys)) (w : World) :
    (eqGuard op t x y a b).run P w = .ok () w := by
  cases op
  case eql =>
    cases a <;> first
      | rfl
      | (cases b <;> first | rfl | exact absurd ⟨rfl, rfl⟩ h1 | exact absurd ⟨⟨_, rfl⟩, ⟨_, rfl⟩⟩ h2)
  case neq =>
    cases a <;> first
      | rfl
      | (cases b <;> first | rfl | exact absurd ⟨rfl, rfl⟩ h1 | exact absurd ⟨⟨_, rfl⟩, ⟨_, rfl⟩⟩ h2)
  all_goals rfl

theorem guard_sound {op : BinOp} {t : TypeId} {x y : Operand} {a b : AVal} (hgd : guardOk P op t x y a b = true) (w : World) : (eqGuard op t x y (conc σ a) (conc σ b)).run P w = .ok () w := by
  by_cases h1 : conc σ a = .nilIface ∧ conc σ b = .nilIface
  · obtain rfl := conc_nilIface h1.1
    obtain rfl := conc_nilIface h1.2
    simp only [conc]
    cases op
    case eql =>
      have hc : (isConst x || isConst y) = true := hgd
      cases x <;> first
        | rfl
        | (cases y <;> first | rfl | (simp [isConst] at hc))
    case neq =>
      have hc : (isConst x || isConst y) = true := hgd
      cases x <;> first
        | rfl
        | (cases y <;> first | rfl | (simp [isConst] at hc))
    all_goals rfl
  · by_cases h2 : (∃ xs, conc σ a = .agg xs) ∧ ∃ ys, conc σ b = .agg ys
    · obtain ⟨⟨xs, e1⟩, ⟨ys, e2⟩⟩ := h2
      obtain ⟨as, rfl⟩ := conc_agg e1
      obtain ⟨bs, rfl⟩ := conc_agg e2
      cases op
      case eql => exact run_eqGuard_agg w _ t x y _ _ (by simpa [guardOk] using hgd)
      case neq => exact run_eqGuard_agg w _ t x y _ _ (by simpa [guardOk] using hgd)
      all_goals rfl
    · exact eqGuard_plain h1 h2 w

theorem binOp_eq {op : BinOp} (hop : op = .eql ∨ op = .neq) {t : TypeId} {a b : Value} (h1 : ∀ k m k' n, ¬ (a = .int k m ∧ b = .int k' n)) (h2 : ∀ s s', ¬ (a = .string s ∧ b = .string s'))
    (h3 : ∀ k m k' n, ¬ (a = .float k m ∧ b = .float k' n)) (h4 : ∀ k m n k' m' n', ¬ (a = .complex k m n ∧ b = .complex k' m' n')) {r : Bool}
    (he : (Op.equalIn 10000 t a b).run P w = .ok r w) : (Go.binOp op t a b).run P w = .ok (.bool (if op = .eql then r else !r)) w := by
  have e1 : Go.binOp .eql t a b = (do pure (.bool (← Op.equal t a b)) : Sem Value) := by
    cases a <;> first
      | rfl
      | (cases b <;> first | rfl | exact absurd ⟨rfl, rfl⟩ (h1 _ _ _ _) | exact absurd ⟨rfl, rfl⟩ (h2 _ _) | exact absurd ⟨rfl, rfl⟩ (h3 _ _ _ _) | exact absurd ⟨rfl, rfl⟩ (h4 _ _ _ _ _ _))
  have e2 : Go.binOp .neq t a b = (do pure (.bool (!(← Op.equal t a b))) : Sem Value) := by
    cases a <;> first
      | rfl
      | (cases b <;> first | rfl | exact absurd ⟨rfl, rfl⟩ (h1 _ _ _ _) | exact absurd ⟨rfl, rfl⟩ (h2 _ _) | exact absurd ⟨rfl, rfl⟩ (h3 _ _ _ _) | exact absurd ⟨rfl, rfl⟩ (h4 _ _ _ _ _ _))
  rcases hop with rfl | rfl
  · rw [e1]; simp [Op.equal, Op.maxDepth, he]
  · rw [e2]; simp [Op.equal, Op.maxDepth, he]

theorem conc_int {a : AVal} {k : IntKind} {m : Int} (h : conc σ a = .int k m) : a = .int k m := by
  cases a with
  | int k m => cases h; rfl
  | ptr p => cases p <;> cases h
  | slice p n c => cases p with
    | none => cases h
    | some p => simp only [conc] at h; split at h <;> cases h
  | zslice p l e => simp only [conc] at h; split at h; split at h <;> cases h; cases h
  | _ => cases h
theorem conc_str {a : AVal} {s : ByteArray} (h : conc σ a = .string s) : a = .str s.data.toList := by
  cases a with
  | str s => cases h; rfl
  | ptr p => cases p <;> cases h
  | slice p n c => cases p with
    | none => cases h
    | some p => simp only [conc] at h; split at h <;> cases h
  | zslice p l e => simp only [conc] at h; split at h; split at h <;> cases h; cases h
  | _ => cases h
theorem conc_float {a : AVal} {k : FloatKind} {m : Nat} (h : conc σ a = .float k m) : False := by
  cases a with
  | ptr p => cases p <;> cases h
  | slice p n c => cases p with
    | none => cases h
    | some p => simp only [conc] at h; split at h <;> cases h
  | zslice p l e => simp only [conc] at h; split at h; split at h <;> cases h; cases h
  | _ => cases h
theorem conc_complex {a : AVal} {k : FloatKind} {m n : Nat} (h : conc σ a = .complex k m n) : False := by
  cases a with
  | ptr p => cases p <;> cases h
  | slice p n c => cases p with
    | none => cases h
    | some p => simp only [conc] at h; split at h <;> cases h
  | zslice p l e => simp only [conc] at h; split at h; split at h <;> cases h; cases h
  | _ => cases h

theorem binOp_sound (H : Rel P B σ h w) {op : BinOp} {t : TypeId} {x y : Operand} {a b v : AVal} (hb : binOp P op t x y a b h = some v) (ha : okv σ a) (hbo : okv σ b) :
    ((do eqGuard op t x y (conc σ a) (conc σ b); Go.binOp op t (conc σ a) (conc σ b)) : Sem Value).run P w = .ok (conc σ v) w ∧ okv σ v := by
  unfold binOp at hb
  split at hb
  · cases hb
  · rename_i hgd
    have hg := guard_sound (σ := σ) hgd w
    simp only [Sem.run_bind, hg, Result.andThen_ok]
    split at hb
    · exact intOp_sound hb w
    · exact strOp_sound hb w
    · rename_i n1 n2
      have key : ∀ r, eqIn P h 50 t a b = some r → ∀ op, (op = .eql ∨ op = .neq) → (Go.binOp op t (conc σ a) (conc σ b)).run P w = .ok (.bool (if op = .eql then r else !r)) w := by
        intro r hr op hop
        refine binOp_eq hop (fun k m k' n he => ?_) (fun s s' he => ?_) (fun k m k' n he => conc_float he.1) (fun k m n k' m' n' he => conc_complex he.1) (eqIn_sound H 50 t a b r hr ha hbo 10000 (by decide))
        · exact n1 _ _ _ _ (conc_int he.1) (conc_int he.2)
        · exact n2 _ _ (conc_str he.1) (conc_str he.2)
      split at hb
      · simp only [Option.map_eq_some_iff] at hb
        obtain ⟨r, hr, rfl⟩ := hb
        exact ⟨by rw [key r hr .eql (.inl rfl)]; rfl, trivial⟩
      · simp only [Option.map_eq_some_iff] at hb
        obtain ⟨r, hr, rfl⟩ := hb
        exact ⟨by rw [key r hr .neq (.inr rfl)]; rfl, trivial⟩
      · cases hb

theorem unOp_sound {op : UnOp} {a v : AVal} (hu : unOp op a = some v) (w : World) : (Op.unary op (conc σ a)).run P w = .ok (conc σ v) w ∧ okv σ v := by
  unfold unOp at hu
  split at hu
  · cases hu
    refine ⟨?_, trivial⟩
    simp [Op.unary, Op.intArith, conc, wrap_eq]
  · exact semVal_sound hu w
  · cases hu; exact ⟨rfl, trivial⟩
  · cases hu
end Go.Abs

namespace Go.Abs
variable {P : Program} {B : Nat} {σ : Real} {h : Heap} {w : World}

theorem natOf_sound {n : Int} {m i : Nat} (hn : natOf n m = some i) : n = (i : Int) ∧ i < m := by
  unfold natOf at hn
  split at hn
  · split at hn
    · rename_i hlt
      rw [Nat.blt_eq] at hlt
      cases hn
      exact ⟨rfl, hlt⟩
    · cases hn
  · cases hn

theorem fieldAddr_sound {s : TypeId} {x v : AVal} {i : Nat} (hf : fieldAddr P s x i = some v) (hx : okv σ x) (w : World) :
    (Instr.fieldAt s (conc σ x) i).run P w = .ok (conc σ v) w ∧ okv σ v := by
  unfold fieldAddr at hf
  split at hf
  · rename_i fields p hu
    simp only [Option.bind_eq_some_iff] at hf
    obtain ⟨f, hfi, n, hn, hf⟩ := hf
    split at hf
    · rename_i hlt
      rw [Nat.blt_eq] at hlt
      cases hf
      obtain ⟨b, hb, hst⟩ := hx
      refine ⟨?_, ⟨b, hb, by simp only []; omega⟩⟩
      simp only [conc, hb, Option.map_some]
      simp [Instr.fieldAt, run_underlying hu, hfi, Instr.sureAddr, fieldPlace, run_sizeOf hn, show n ≠ 0 by omega, RB.at_add b hst]
    · cases hf
  · cases hf

theorem fieldOf_sound {s : TypeId} {x v : AVal} {i : Nat} (hf : fieldOf P s x i = some v) (hx : okv σ x) (w : World) :
    (Instr.field s (conc σ x) i).run P w = .ok (conc σ v) w ∧ okv σ v := by
  unfold fieldOf at hf
  split at hf
  · rename_i fields cs hu
    simp only [Option.bind_eq_some_iff] at hf
    obtain ⟨f, hfi, hf⟩ := hf
    obtain ⟨h1, h2⟩ := part_sound (P := P) hf hx.1 hx.2 w
    refine ⟨?_, h2⟩
    simp only [conc]
    simp [Instr.field, run_underlying hu, hfi, asAgg, h1]
  · cases hf

theorem indexAddr_sound {t : TypeId} {x i v : AVal} (hi : indexAddr P t x i = some v) (hx : okv σ x) (w : World) :
    (Instr.indexAt t (conc σ x) (conc σ i)).run P w = .ok (conc σ v) w ∧ okv σ v := by
  unfold indexAddr at hi
  split at hi
  · rename_i n
    split at hi
    · rename_i len e p hu
      simp only [Option.bind_eq_some_iff] at hi
      obtain ⟨k, hk, s, hs, hi⟩ := hi
      obtain ⟨rfl, hlt⟩ := natOf_sound hk
      cases hi
      obtain ⟨b, hb, hst⟩ := hx
      refine ⟨?_, ⟨b, hb, by simp only []; omega⟩⟩
      simp only [conc, hb, Option.map_some]
      simp [Instr.indexAt, asIntOf, run_underlying hu, Instr.sureAddr, hlt, run_sizeOf hs, RB.at_add b hst]
    · rename_i e p len cap hu
      simp only [Option.bind_eq_some_iff] at hi
      obtain ⟨k, hk, s, hs, hi⟩ := hi
      obtain ⟨rfl, hlt⟩ := natOf_sound hk
      cases hi
      obtain ⟨b, hb, hst, _⟩ := hx
      refine ⟨?_, ⟨b, hb, by simp only []; omega⟩⟩
      simp only [conc, hb, Option.map_some]
      simp [Instr.indexAt, asIntOf, run_underlying hu, hlt, run_sizeOf hs, RB.at_add b hst]
    · cases hi
  · cases hi

theorem index_sound {t : TypeId} {x i v : AVal} (hi : index P t x i = some v) (hx : okv σ x) (w : World) :
    (Instr.index t (conc σ x) (conc σ i)).run P w = .ok (conc σ v) w ∧ okv σ v := by
  unfold index at hi
  split at hi
  · rename_i n
    split at hi
    · rename_i len e cs hu
      simp only [Option.bind_eq_some_iff] at hi
      obtain ⟨k, hk, s, hs, hi⟩ := hi
      obtain ⟨rfl, hlt⟩ := natOf_sound hk
      obtain ⟨h1, h2⟩ := part_sound (P := P) hi hx.1 hx.2 w
      refine ⟨?_, h2⟩
      simp only [conc]
      simp [Instr.index, asIntOf, run_underlying hu, hlt, run_sizeOf hs, h1]
    · rename_i s hu
      simp only [Option.bind_eq_some_iff, Option.map_eq_some_iff] at hi
      obtain ⟨k, hk, b, hb, rfl⟩ := hi
      obtain ⟨rfl, hlt⟩ := natOf_sound hk
      refine ⟨?_, trivial⟩
      have : (ByteArray.mk s.toArray)[k]? = some b := by
        have hlt2 : k < (ByteArray.mk s.toArray).size := by rw [str_size]; exact hlt
        rw [getElem?_pos (ByteArray.mk s.toArray) k hlt2]
        rw [List.getElem?_eq_getElem hlt] at hb
        exact congrArg some (Option.some.inj hb)
      simp only [conc, byteVal]
      simp [Instr.index, asIntOf, run_underlying hu, this]
    · cases hi
  · cases hi

theorem extract_sound {x v : AVal} {i : Nat} (he : extract x i = some v) (hx : okv σ x) (w : World) : (Instr.extract (conc σ x) i).run P w = .ok (conc σ v) w ∧ okv σ v := by
  unfold extract at he
  split at he
  · rename_i vs
    refine ⟨?_, okvs_iff.1 hx v (List.mem_iff_getElem?.2 ⟨_, he⟩)⟩
    have : (concs σ vs).toArray[i]? = some (conc σ v) := by simp [concs_eq, he]
    simp [Instr.extract, conc, this]
  · cases he

/-! ### Slices -/

theorem bound_none {d most i : Nat} (hb : bound none d most = some i) : i = d := by cases hb; rfl
theorem bound_some {x : AVal} {d most i : Nat} (hb : bound (some x) d most = some i) : ∃ k, x = .int k (i : Int) ∧ i ≤ most := by
  cases x with
  | int k n =>
    obtain ⟨rfl, hlt⟩ := natOf_sound hb
    exact ⟨k, rfl, by omega⟩
  | _ => cases hb
theorem run_bound {k : IntKind} {i most : Nat} (hi : i ≤ most) (code : BoundsCode) (w : World) : (Instr.sliceBound (conc σ (.int k (i : Int))) most code).run P w = .ok i w := by
  simp [Instr.sliceBound, asIntOf, conc, hi]
theorem bound_mono {x : Option AVal} {d d' most most' i : Nat} (hx : x.isSome = true) (hb : bound x d most = some i) (hm : most ≤ most') : bound x d' most' = some i := by
  cases x with
  | none => cases hx
  | some x =>
    obtain ⟨k, rfl, hi⟩ := bound_some hb
    have : Nat.blt i (most' + 1) = true := by rw [Nat.blt_eq]; omega
    show (match Nat.blt i (most' + 1) with | true => some i | false => none) = some i
    rw [this]

theorem sliceBounds_sound {isSlice : Bool} {len cap : Nat} {low high max : Option AVal} {m hi lo : Nat} (hm : bound max cap cap = some m) (hh : bound high len m = some hi) (hl : bound low 0 hi = some lo)
    (hmx : max.isSome = true → high.isSome = true) (w : World) :
    (Instr.sliceBounds isSlice len cap (low.map (conc σ)) (high.map (conc σ)) (max.map (conc σ))).run P w = .ok (lo, hi, m) w := by
  unfold Instr.sliceBounds
  cases max with
  | none =>
    obtain rfl := bound_none hm
    cases high with
    | none =>
      obtain rfl := bound_none hh
      cases low with
      | none => obtain rfl := bound_none hl; simp
      | some v => obtain ⟨k, rfl, h3⟩ := bound_some hl; simp [run_bound h3]
    | some u =>
      obtain ⟨k2, rfl, h2⟩ := bound_some hh
      cases low with
      | none => obtain rfl := bound_none hl; simp [run_bound h2]
      | some v => obtain ⟨k, rfl, h3⟩ := bound_some hl; simp [run_bound h3, run_bound h2]
  | some x =>
    obtain ⟨k1, rfl, h1⟩ := bound_some hm
    cases high with
    | none => simp at hmx
    | some u =>
      obtain ⟨k2, rfl, h2⟩ := bound_some hh
      cases low with
      | none => obtain rfl := bound_none hl; simp [run_bound h2, run_bound h1]
      | some v => obtain ⟨k, rfl, h3⟩ := bound_some hl; simp [run_bound h3, run_bound h2, run_bound h1]

theorem bound_le {x : Option AVal} {dflt most i : Nat} (hb : bound x dflt most = some i) (hd : dflt ≤ most) : i ≤ most := by
  cases x with
  | none => obtain rfl := bound_none hb; exact hd
  | some x => obtain ⟨_, _, h1⟩ := bound_some hb; exact h1

theorem sliceExact_val {p : Option APtr} {len cap es : Nat} {low high max : Option AVal} {v : AVal} (hs : sliceExact p len cap es low high max = some v)
    (hp : ∀ q, p = some q → ∃ b, σ q.fam q.gen = some b ∧ b.start ≤ q.off) :
    ∃ lo hi m, bound max cap cap = some m ∧ bound high len m = some hi ∧ bound low 0 hi = some lo ∧ okv σ v ∧
      ∀ a, (a = p.bind fun q => (σ q.fam q.gen).map fun b => b.at q.off) → conc σ v = .slice (if m = lo then a else a.map (·.add (lo * es))) (hi - lo) (m - lo) := by
  unfold sliceExact at hs
  simp only [Option.bind_eq_some_iff] at hs
  obtain ⟨m, hm, hi, hh, lo, hl, hs⟩ := hs
  cases hs
  refine ⟨lo, hi, m, hm, hh, hl, ?_, ?_⟩
  · split
    · cases p with
      | none => exact ⟨_, rfl⟩
      | some q => obtain ⟨b, hb, hst⟩ := hp q rfl; exact ⟨b, hb, hst, fun e => nomatch e⟩
    · cases p with
      | none => exact ⟨_, rfl⟩
      | some q => obtain ⟨b, hb, hst⟩ := hp q rfl; exact ⟨b, hb, by simp only []; omega, fun e => nomatch e⟩
  · rintro a rfl
    cases hbq : Nat.beq m lo with
    | true =>
      have he : m = lo := by rw [Nat.beq_eq] at hbq; exact hbq
      rw [if_pos he]
      cases p with
      | none => rfl
      | some q => obtain ⟨b, hb, _⟩ := hp q rfl; simp only [conc, hb, Option.bind_some, Option.map_some]
    | false =>
      have he : ¬ m = lo := by intro e; rw [e] at hbq; simp at hbq
      rw [if_neg he]
      cases p with
      | none => rfl
      | some q => obtain ⟨b, hb, hst⟩ := hp q rfl; simp only [conc, hb, Option.bind_some, Option.map_some, RB.at_add b hst]

theorem cap_sub (b : RB) {off lo : Nat} : b.cap (off + lo * b.es) = b.cap off - lo := by
  unfold RB.cap
  rw [← Nat.sub_sub, Nat.mul_comm, Nat.sub_mul_div]

theorem sliceOf_sound (H : Rel P B σ h w) {t : TypeId} {x v : AVal} {low high max : Option AVal} (hs : sliceOf P t x low high max h = some v) (hx : okv σ x) :
    (Instr.sliceAt t (conc σ x) (low.map (conc σ)) (high.map (conc σ)) (max.map (conc σ))).run P w = .ok (conc σ v) w ∧ okv σ v := by
  unfold sliceOf at hs
  split at hs
  · -- a string
    rename_i s hu
    split at hs
    · cases hs
    · simp only [Option.bind_eq_some_iff] at hs
      obtain ⟨hi, hh, lo, hl, hs⟩ := hs
      cases hs
      refine ⟨?_, trivial⟩
      have hb := sliceBounds_sound (P := P) (σ := σ) (isSlice := false) (max := none) (m := s.length) (cap := s.length) rfl hh hl (by simp) w
      simp only [Option.map_none] at hb
      have hsz : (ByteArray.mk s.toArray).size = s.length := str_size s
      have hex : (ByteArray.mk s.toArray).extract lo hi = ByteArray.mk ((s.drop lo).take (hi - lo)).toArray := by
        apply ByteArray.ext
        simp [ByteArray.data_extract]
      simp only [conc]
      simp [Instr.sliceAt, Instr.slice, run_underlying hu, hsz, hb, hex]
  · -- a slice
    rename_i e p len cap hu
    simp only [Option.bind_eq_some_iff] at hs
    obtain ⟨es, hes, hs⟩ := hs
    split at hs
    · cases hs
    · rename_i hes0
      rw [Nat.blt_eq] at hes0
      split at hs
      · -- its end is known
        rename_i c
        have hs2 : (max.isSome = true → high.isSome = true) ∧ sliceExact p len c es low high max = some v := by
          split at hs
          · cases hs
          · rename_i hno
            refine ⟨fun hm => ?_, hs⟩
            cases max with
            | none => cases hm
            | some m => cases high with
              | none => exact (hno _ rfl rfl).elim
              | some _ => rfl
        obtain ⟨hmx, hs2⟩ := hs2
        have hp : ∀ q, p = some q → ∃ b, σ q.fam q.gen = some b ∧ b.start ≤ q.off := by
          rintro q rfl
          obtain ⟨b, hb, hst, _⟩ := hx
          exact ⟨b, hb, hst⟩
        obtain ⟨lo, hi, m, q1, q2, q3, r2, r3⟩ := sliceExact_val (σ := σ) hs2 hp
        have r1 := sliceBounds_sound (P := P) (σ := σ) (isSlice := true) q1 q2 q3 hmx w
        refine ⟨?_, r2⟩
        cases p with
        | none =>
          have r3 := r3 none rfl
          simp only [conc]
          simp only [Instr.sliceAt, Instr.slice, Sem.run_bind, run_underlying hu, Result.andThen_ok, r1, run_sizeOf hes, Sem.run_pure, r3]
        | some q =>
          obtain ⟨b, hb, hst, _⟩ := hx
          have r3 := r3 (some (b.at q.off)) (by simp [hb])
          simp only [conc, hb]
          simp only [Instr.sliceAt, Instr.slice, Sem.run_bind, run_underlying hu, Result.andThen_ok, r1, run_sizeOf hes, Sem.run_pure, r3]
      · -- its end is open
        split at hs
        · cases hs
        · rename_i q
          simp only [Option.bind_eq_some_iff] at hs
          obtain ⟨c, hc, hs⟩ := hs
          split at hs
          · cases hs
          · rename_i hcond
            simp only [Bool.and_eq_true, Nat.beq_eq, Nat.ble_eq] at hcond
            obtain ⟨⟨g1, g2⟩, g3⟩ := hcond
            obtain ⟨b, hb, hst, hend⟩ := hx
            obtain ⟨e1, e2⟩ := hend rfl
            have hco := H.cells hb hc
            have hbe : b.es = es := by rw [hco.es, g3]
            have hsize := hco.size g1
            have hknown : (c.size - q.off) / es ≤ b.cap q.off := by
              unfold RB.cap; rw [hbe]; exact Nat.div_le_div_right (by omega)
            have hconc : conc σ (.slice (some q) len .toEnd) = .slice (some (b.at q.off)) len (b.cap q.off) := by simp only [conc, hb]
            rw [hconc]
            split at hs
            · -- no third index
              unfold sliceOpen at hs
              simp only [Option.bind_eq_some_iff] at hs
              obtain ⟨hi, hh, lo, hl, hs⟩ := hs
              split at hs
              · cases hs
              · rename_i hle
                have hle := Nat.le_of_ble_eq_true hle
                have hlo := bound_le hl (Nat.zero_le _)
                have hcapk : (c.size - q.off) / es * es ≤ c.size - q.off := Nat.div_mul_le_self _ _
                have hhis : bound high len (b.cap q.off) = some hi := by
                  cases high with
                  | none => simp only [bound] at hh ⊢; exact hh
                  | some u =>
                    cases u with
                    | int k n =>
                      simp only [bound] at hh ⊢
                      obtain ⟨rfl, hlt⟩ := natOf_sound hh
                      unfold natOf
                      have : Nat.blt hi (b.cap q.off + 1) = true := by rw [Nat.blt_eq]; omega
                      show (match Nat.blt hi (b.cap q.off + 1) with | true => some hi | false => none) = some hi
                      rw [this]
                    | _ => simp only [bound] at hh; cases hh
                have hbs := sliceBounds_sound (P := P) (σ := σ) (isSlice := true) (max := none) (m := b.cap q.off) (cap := b.cap q.off) rfl hhis hl (by simp) w
                simp only [Option.map_none] at hbs
                have hrun : ∀ v', v' = Value.slice (if b.cap q.off = lo then some (b.at q.off) else some ((b.at q.off).add (lo * es))) (hi - lo) (b.cap q.off - lo) →
                    (Instr.sliceAt t (.slice (some (b.at q.off)) len (b.cap q.off)) (low.map (conc σ)) (high.map (conc σ)) (Option.map (conc σ) none)).run P w = .ok v' w := by
                  rintro v' rfl
                  simp only [Option.map_none, Instr.sliceAt, Instr.slice, Sem.run_bind, run_underlying hu, Result.andThen_ok, hbs, run_sizeOf hes, Sem.run_pure, Option.map_some]
                have hmul : lo * b.es ≤ c.size - q.off := by
                  rw [hbe]
                  calc lo * es ≤ (c.size - q.off) / es * es := Nat.mul_le_mul_right _ (by omega)
                    _ ≤ c.size - q.off := hcapk
                have hmul2 : hi * b.es ≤ c.size - q.off := by
                  rw [hbe]
                  calc hi * es ≤ (c.size - q.off) / es * es := Nat.mul_le_mul_right _ hle
                    _ ≤ c.size - q.off := hcapk
                split at hs
                · rename_i hlt
                  rw [Nat.blt_eq] at hlt
                  cases hs
                  have hne : ¬ b.cap q.off = lo := by omega
                  refine ⟨hrun _ ?_, ⟨b, hb, by simp only []; omega, fun _ => ⟨e1, ?_⟩⟩⟩
                  · simp only [conc, hb]
                    rw [if_neg hne, RB.at_add b hst, ← hbe, cap_sub b]
                  · simp only []
                    rw [hbe.symm, Nat.sub_mul]
                    have : lo * b.es ≤ hi * b.es := Nat.mul_le_mul_right _ hlo
                    omega
                · rename_i hlt
                  have hge : ¬ lo < (c.size - q.off) / es := by intro h'; rw [← Nat.blt_eq] at h'; rw [h'] at hlt; cases hlt
                  cases hs
                  have hhl : hi = lo := by omega
                  refine ⟨hrun _ ?_, ⟨b, hb, hst, e1, hbe.symm, by omega⟩⟩
                  simp only [conc, hb]
                  subst hhl
                  by_cases hcl : b.cap q.off = hi
                  · rw [if_pos hcl, if_pos hcl, hcl, Nat.sub_self]
                  · rw [if_neg hcl, if_neg hcl, Nat.sub_self, RB.at_add b hst]
            · -- a third index
              rename_i mx
              split at hs
              · cases hs
              · simp only [Option.bind_eq_some_iff] at hs
                obtain ⟨m0, hm0, hs⟩ := hs
                have hm0k := bound_le hm0 (Nat.zero_le _)
                obtain ⟨lo, hi, m, q1, q2, q3, r2, r3⟩ := sliceExact_val (σ := σ) hs (fun q' hq' => by cases hq'; exact ⟨b, hb, hst⟩)
                have r1 := sliceBounds_sound (P := P) (σ := σ) (isSlice := true) (bound_mono (d' := b.cap q.off) rfl q1 (Nat.le_trans hm0k hknown)) q2 q3 (by simp) w
                have r3 := r3 (some (b.at q.off)) (by simp [hb])
                refine ⟨?_, r2⟩
                simp only [Instr.sliceAt, Instr.slice, Sem.run_bind, run_underlying hu, Result.andThen_ok, r1, run_sizeOf hes, Sem.run_pure, r3]
  · -- an empty slice behind the last known element
    rename_i e p l es hu
    split at hs
    · cases hs
    · simp only [Option.bind_eq_some_iff] at hs
      obtain ⟨n, hn, hi, hh, lo, hl, hs⟩ := hs
      cases hs
      have hhi := bound_le hh (Nat.le_refl _)
      have hlo := bound_le hl (Nat.zero_le _)
      obtain rfl : hi = 0 := by omega
      obtain rfl : lo = 0 := by omega
      refine ⟨?_, hx⟩
      obtain ⟨a, c, hc⟩ := conc_zslice σ p l es hx
      rw [hc]
      have hh' : bound high 0 c = some 0 := by
        cases high with
        | none => rfl
        | some u => exact bound_mono rfl hh (Nat.zero_le _)
      have r1 := sliceBounds_sound (P := P) (σ := σ) (isSlice := true) (max := none) (cap := c) (m := c) rfl hh' hl (by simp) w
      simp only [Option.map_none] at r1
      simp only [Option.map_none, Instr.sliceAt, Instr.slice, Sem.run_bind, run_underlying hu, Result.andThen_ok, r1, run_sizeOf hn, Sem.run_pure, Nat.zero_mul, Nat.sub_zero, Option.map_some]
      split <;> rfl
  · -- an array's address
    rename_i n e p hu
    split at hs
    · cases hs
    · simp only [Option.bind_eq_some_iff] at hs
      obtain ⟨es, hes, hs⟩ := hs
      obtain ⟨b, hb, hst⟩ := hx
      obtain ⟨lo, hi, m, q1, q2, q3, r2, r3⟩ := sliceExact_val (σ := σ) hs (fun q' hq' => by cases hq'; exact ⟨b, hb, hst⟩)
      have r3 := r3 (some (b.at p.off)) (by simp [hb])
      have r1 := sliceBounds_sound (P := P) (σ := σ) (isSlice := false) (max := none) q1 q2 q3 (by simp) w
      refine ⟨?_, r2⟩
      simp only [Option.map_none] at r1
      simp only [conc, hb, Option.map_some, Option.map_none]
      simp only [Instr.sliceAt, Sem.run_bind, run_underlying hu, Result.andThen_ok, Instr.sureAddr, r1, run_sizeOf hes, Sem.run_pure, r3]
      split <;> rfl
  · cases hs
end Go.Abs
