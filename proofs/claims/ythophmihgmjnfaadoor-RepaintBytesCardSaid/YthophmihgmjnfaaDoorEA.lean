/- A symbolic evaluator of Go code: for a piece of code and what is known ahead of it, a statement that is to be shown. It holds for each program, without conditions. -/
import Derived.Test.YthophmihgmjnfaaDoorAbsC
import Derived.Orders
import Derived.Below
import Derived.Laws.Strings
import Derived.Laws.StructEq
import Derived.Laws.Tables
import Derived.Laws.Cells
import Derived.Laws.Entries
import Derived.Laws.AppendOwn
import Derived.Tactics
set_option linter.unusedVariables false
set_option linter.unusedSimpArgs false
-- --
namespace Go.Sy
noncomputable section

/-- What a condition says. -/
inductive BE where
  | lt (a b : Int)
  | le (a b : Int)
  | eq (a b : Int)
  | ok (x : Bool)
  | pr (q : Prop)
  | no (e : BE)

def BE.is : BE → Bool → Prop
  | .lt a b, true => a < b
  | .lt a b, false => b ≤ a
  | .le a b, true => a ≤ b
  | .le a b, false => b < a
  | .eq a b, true => a = b
  | .eq a b, false => a ≠ b
  | .ok x, true => x = true
  | .ok x, false => x = false
  | .pr q, true => q
  | .pr q, false => ¬ q
  | .no e, true => e.is false
  | .no e, false => e.is true

def BE.val (e : BE) : Bool := @decide (e.is true) (Classical.propDecidable _)
def BE.toB : BE → Bool
  | .ok x => x
  | e => e.val

/-- A value of which the form is known. 'loc': the address of a variable of the function's own. -/
inductive SV where
  | int (k : IntKind) (n : Int)
  | lit (b : Bool)
  | bool (e : BE)
  | str (s : List UInt8)
  | ptr (p : Option Addr)
  | adr (a : Addr) (o : Nat)
  | sl (p : Option Addr) (n c : Nat)
  | loc (k off : Nat)
  | lsl (k off n c : Nat)
  | agg (cs : List SV)
  | tup (cs : List SV)
  | fn (f : Nat) (first cap : List SV)
  | val (v : Value)

def SV.scalar : SV → Bool
  | .agg _ => false
  | .tup _ => false
  | _ => true

/-- A variable of the function's own. -/
structure Loc where
  blk : Nat
  ty : TypeId
  cells : List SV
  ver : Nat

def adrVal (a : Addr) : Nat → Value
  | 0 => .pointer (some a)
  | n + 1 => .pointer (some (a.add (n + 1)))

mutual
def real (β : List Nat) : SV → Value
  | .int k n => .int k n
  | .lit b => .bool b
  | .bool e => .bool e.toB
  | .str s => .string ⟨s.toArray⟩
  | .ptr p => .pointer p
  | .adr a o => adrVal a o
  | .sl p n c => .slice p n c
  | .loc k off => .pointer (some ⟨β.getD k 0, off, none⟩)
  | .lsl k off n c => .slice (some ⟨β.getD k 0, off, none⟩) n c
  | .agg cs => .agg (reals β cs).toArray
  | .tup cs => .tuple (reals β cs).toArray
  | .fn f first cap => .func (.func f) (reals β first).toArray (reals β cap).toArray
  | .val v => v
def reals (β : List Nat) : List SV → List Value
  | [] => []
  | v :: vs => real β v :: reals β vs
end

def blks : List Loc → List Nat
  | [] => []
  | l :: ls => l.blk :: blks ls

def SV.flat : SV → List SV
  | .agg cs => cs
  | v => [v]

/-- The cells from a place on. -/
def At (w : World) (a : Addr) (o : Nat) (vs : List Value) : Prop := ∀ i v, vs[i]? = some v → w.cell? (a.add (o + i)) = some v

abbrev Env := Abs.Tr (Option SV)
def Env.at (T : Env) (t : Nat) : Option SV := match T.get t with
  | some (some v) => some v
  | _ => none

def ofScalar : Value → Option SV
  | .bool b => some (.lit b)
  | .int k n => some (.int k n)
  | .string s => some (.str s.data.toList)
  | .pointer none => some (.ptr none)
  | .slice none n c => some (.sl none n c)
  | .map none => some (.val (.map none))
  | .nilFunc => some (.val .nilFunc)
  | .nilIface => some (.val .nilIface)
  | _ => none
def ofScalars : List Value → Option (List SV)
  | [] => some []
  | v :: vs => (ofScalar v).bind fun a => (ofScalars vs).map (a :: ·)
def ofConst : Value → Option SV
  | .agg cs => (ofScalars cs.toList).map .agg
  | .tuple cs => (ofScalars cs.toList).map .tup
  | v => ofScalar v

section
variable (P : Program)

def eval (T : Env) : Operand → Option SV
  | .tmp t => T.at t
  | .const v => ofConst v
  | .global g => match Nat.blt g P.globals.size with
    | true => some (.adr ⟨g, 0, none⟩ 0)
    | false => none
  | .func f => some (.fn f [] [])
def evals (T : Env) : List Operand → Option (List SV)
  | [] => some []
  | x :: xs => (eval P T x).bind fun a => (evals T xs).map (a :: ·)

def size? (t : TypeId) : Option Nat := (P.info? t).map (·.size)
def isAgg? (t : TypeId) : Option Bool :=
  match P.underlying t with
  | some (.struct _) => some true
  | some (.array _ _) => some true
  | some _ => some false
  | none => none
def zero? (t : TypeId) : Option SV := (P.info? t).bind fun i => i.zero.bind fun v => (ofConst v).bind fun z => match z.flat.all SV.scalar with
  | true => some z
  | false => none

/-! ### Forms of cells -/

inductive Sh where
  | int (k : IntKind)
  | bool
  | str
  | ptr
  | sl
  | val

def shOf : SV → Option Sh
  | .int k _ => some (.int k)
  | .lit _ => some .bool
  | .bool _ => some .bool
  | .str _ => some .str
  | .ptr _ => some .ptr
  | .adr _ _ => some .ptr
  | .sl _ _ _ => some .sl
  | .val _ => some .val
  | _ => none
def shsOf : List SV → Option (List Sh)
  | [] => some []
  | v :: vs => (shOf v).bind fun a => (shsOf vs).map (a :: ·)

/-- Some cells of these forms. -/
def exV : List Sh → (List SV → Prop) → Prop
  | [], K => K []
  | .int k :: s, K => ∃ n : Int, exV s fun xs => K (.int k n :: xs)
  | .bool :: s, K => ∃ b : Bool, exV s fun xs => K (.bool (.ok b) :: xs)
  | .str :: s, K => ∃ l : List UInt8, exV s fun xs => K (.str l :: xs)
  | .ptr :: s, K => ∃ p : Option Addr, exV s fun xs => K (.ptr p :: xs)
  | .sl :: s, K => ∃ (p : Option Addr) (n c : Nat), exV s fun xs => K (.sl p n c :: xs)
  | .val :: s, K => ∃ v : Value, v.oneCell' = true ∧ exV s fun xs => K (.val v :: xs)

/-- A statement about cells of these forms, and a world. -/
def PredT : List Sh → Type
  | [] => World → Prop
  | .int _ :: s => Int → PredT s
  | .bool :: s => Bool → PredT s
  | .str :: s => List UInt8 → PredT s
  | .ptr :: s => Option Addr → PredT s
  | .sl :: s => Option Addr → Nat → Nat → PredT s
  | .val :: s => Value → PredT s
def MeasT : List Sh → Type
  | [] => Nat
  | .int _ :: s => Int → MeasT s
  | .bool :: s => Bool → MeasT s
  | .str :: s => List UInt8 → MeasT s
  | .ptr :: s => Option Addr → MeasT s
  | .sl :: s => Option Addr → Nat → Nat → MeasT s
  | .val :: s => Value → MeasT s
/-- All cells of these forms: what is said of them, and their measure. -/
def allV : (s : List Sh) → PredT s → MeasT s → (List SV → (World → Prop) → Nat → Prop) → Prop
  | [], I, μ, K => K [] I μ
  | .int k :: s, I, μ, K => ∀ n : Int, allV s (I n) (μ n) fun xs => K (.int k n :: xs)
  | .bool :: s, I, μ, K => ∀ b : Bool, allV s (I b) (μ b) fun xs => K (.bool (.ok b) :: xs)
  | .str :: s, I, μ, K => ∀ l : List UInt8, allV s (I l) (μ l) fun xs => K (.str l :: xs)
  | .ptr :: s, I, μ, K => ∀ p : Option Addr, allV s (I p) (μ p) fun xs => K (.ptr p :: xs)
  | .sl :: s, I, μ, K => ∀ (p : Option Addr) (n c : Nat), allV s (I p n c) (μ p n c) fun xs => K (.sl p n c :: xs)
  | .val :: s, I, μ, K => ∀ v : Value, v.oneCell' = true → allV s (I v) (μ v) fun xs => K (.val v :: xs)
def kindEq (a b : IntKind) : Bool := match a, b with
  | .i8, .i8 | .i16, .i16 | .i32, .i32 | .i64, .i64 | .u8, .u8 | .u16, .u16 | .u32, .u32 | .u64, .u64 => true
  | _, _ => false
/-- The cells at hand: what is said of them. -/
def app : (s : List Sh) → PredT s → MeasT s → List SV → ((World → Prop) → Nat → Prop) → Prop
  | [], I, μ, [], K => K I μ
  | .int k :: s, I, μ, .int k' n :: xs, K => match kindEq k k' with
    | true => app s (I n) (μ n) xs K
    | false => False
  | .bool :: s, I, μ, .lit b :: xs, K => app s (I b) (μ b) xs K
  | .bool :: s, I, μ, .bool (.ok b) :: xs, K => app s (I b) (μ b) xs K
  | .bool :: s, I, μ, .bool e :: xs, K => (e.is true → app s (I true) (μ true) xs K) ∧ (e.is false → app s (I false) (μ false) xs K)
  | .str :: s, I, μ, .str l :: xs, K => app s (I l) (μ l) xs K
  | .ptr :: s, I, μ, .ptr p :: xs, K => app s (I p) (μ p) xs K
  | .ptr :: s, I, μ, .adr a o :: xs, K => app s (I (some (a.add o))) (μ (some (a.add o))) xs K
  | .sl :: s, I, μ, .sl p n c :: xs, K => app s (I p n c) (μ p n c) xs K
  | .val :: s, I, μ, .val v :: xs, K => app s (I v) (μ v) xs K
  | _, _, _, _, _ => False

/-! ### Operations that leave memory alone -/

def I64 (x : Int) : Prop := -9223372036854775808 ≤ x ∧ x ≤ 9223372036854775807

def arith (k : IntKind) (x : Int) (K : SV → Prop) : Prop := match k with
  | .i64 => I64 x ∧ K (.int .i64 x)
  | k => K (.int k (k.wrap x))

def intBin (op : BinOp) (k : IntKind) (a b : Int) (K : SV → Prop) : Prop := match op with
  | .add => arith k (a + b) K
  | .sub => arith k (a - b) K
  | .mul => arith k (a * b) K
  | .eql => K (.bool (.eq a b))
  | .neq => K (.bool (.no (.eq a b)))
  | .lss => K (.bool (.lt a b))
  | .leq => K (.bool (.le a b))
  | .gtr => K (.bool (.lt b a))
  | .geq => K (.bool (.le b a))
  | .and => K (.int k (bits .and k a b))
  | .or => K (.int k (bits .or k a b))
  | .xor => K (.int k (bits .xor k a b))
  | .andNot => K (.int k (bits .andNot k a b))
  | .quo => match k with
    | .i64 => (0 ≤ a ∧ I64 a ∧ 0 < b) ∧ K (.int .i64 (a / b))
    | _ => False
  | .rem => match k with
    | .i64 => (0 ≤ a ∧ I64 a ∧ 0 < b) ∧ K (.int .i64 (a % b))
    | _ => False
  | _ => False

def strBin (op : BinOp) (a b : List UInt8) (K : SV → Prop) : Prop := match op with
  | .add => a.length + b.length < 9223372036854775807 ∧ K (.str (a ++ b))
  | .eql => K (.bool (.pr (a = b)))
  | .neq => K (.bool (.no (.pr (a = b))))
  | _ => False

def flag (op : BinOp) (e : BE) (K : SV → Prop) : Prop := match op with
  | .eql => K (.bool e)
  | .neq => K (.bool (.no e))
  | _ => False
def known (op : BinOp) (b : Bool) (K : SV → Prop) : Prop := match op with
  | .eql => K (.lit b)
  | .neq => match b with
    | true => K (.lit false)
    | false => K (.lit true)
  | _ => False

/-- Two structs or arrays: whether they are equal is to be said by the prover. -/
def aggBin (β : List Nat) (op : BinOp) (t : TypeId) (x y : List SV) (K : SV → Prop) : Prop :=
  match P.eqGuardType P.depth t with
  | false => ∃ b : Bool, (∀ w, (Op.equal t (.agg (reals β x).toArray) (.agg (reals β y).toArray)).run P w = .ok b w) ∧ flag op (.ok b) K
  | true => False

def isPtr? (t : TypeId) : Bool := match P.underlying t with
  | some (.pointer _) => true
  | _ => false
def isSlice? (t : TypeId) : Bool := match P.underlying t with
  | some (.slice _) => true
  | _ => false
def isBool? (t : TypeId) : Bool := match P.underlying t with
  | some .bool => true
  | _ => false

def bin (β : List Nat) (op : BinOp) (t : TypeId) (x y : SV) (K : SV → Prop) : Prop := match x, y with
  | .int k a, .int k' b => match kindEq k k' with
    | true => intBin op k a b K
    | false => False
  | .str a, .str b => strBin op a b K
  | .agg a, .agg b => aggBin P β op t a b K
  | .ptr p, .ptr none => match isPtr? P t with
    | true => flag op (.pr (p = none)) K
    | false => False
  | .adr _ _, .ptr none => match isPtr? P t with
    | true => known op false K
    | false => False
  | .loc _ _, .ptr none => match isPtr? P t with
    | true => known op false K
    | false => False
  | .sl p _ _, .sl none _ _ => match isSlice? P t with
    | true => flag op (.pr (p = none)) K
    | false => False
  | .lit a, .lit b => match isBool? P t with
    | true => match a, b with
      | true, true => known op true K
      | false, false => known op true K
      | _, _ => known op false K
    | false => False
  | .bool e, .lit b => match isBool? P t with
    | true => match b with
      | true => flag op e K
      | false => flag op (.no e) K
    | false => False
  | .lit b, .bool e => match isBool? P t with
    | true => match b with
      | true => flag op e K
      | false => flag op (.no e) K
    | false => False
  | .bool e, .bool f => match isBool? P t with
    | true => flag op (.pr (e.val = f.val)) K
    | false => False
  | _, _ => False

def un (op : UnOp) (x : SV) (K : SV → Prop) : Prop := match op, x with
  | .not, .lit b => match b with
    | true => K (.lit false)
    | false => K (.lit true)
  | .not, .bool e => K (.bool (.no e))
  | .neg, .int .i64 n => I64 (0 - n) ∧ K (.int .i64 (0 - n))
  | _, _ => False

def fieldAt (s : TypeId) (x : SV) (i : Nat) (K : SV → Prop) : Prop := match P.underlying s with
  | some (.struct fields) => match fields[i]? with
    | some f => match size? P f.type with
      | some n => match Nat.blt 0 n with
        | true => match x with
          | .loc k o => K (.loc k (o + f.offset))
          | .adr a o => K (.adr a (o + f.offset))
          | .ptr p => ∃ a, p = some a ∧ K (.adr a f.offset)
          | _ => False
        | false => False
      | none => False
    | none => False
  | _ => False

def part (t : TypeId) (cs : List SV) (off : Nat) (K : SV → Prop) : Prop := match isAgg? P t with
  | some true => match size? P t with
    | some n => match Nat.ble (off + n) cs.length with
      | true => K (.agg ((cs.drop off).take n))
      | false => False
    | none => False
  | some false => match cs[off]? with
    | some v => K v
    | none => False
  | none => False

def field (s : TypeId) (x : SV) (i : Nat) (K : SV → Prop) : Prop := match P.underlying s, x with
  | some (.struct fields), .agg cs => match fields[i]? with
    | some f => part P f.type cs f.offset K
    | none => False
  | _, _ => False

/-- An index into an array of the function's own: one case for each element. -/
def eachIx (i : Int) : Nat → Nat → (Nat → Prop) → Prop
  | 0, _, _ => True
  | n + 1, j, K => (i = j → K j) ∧ eachIx i n (j + 1) K
def ixLit (i : Int) (n : Nat) (K : Nat → Prop) : Prop := match i with
  | .ofNat m => match Nat.blt m n with
    | true => K m
    | false => False
  | _ => False

def isNum : Operand → Bool
  | .const _ => true
  | _ => false

def withIx (lit : Bool) (i : Int) (n : Nat) (K : Nat → Prop) : Prop := match lit with
  | true => ixLit i n K
  | false => (0 ≤ i ∧ i < n) ∧ eachIx i n 0 K

def indexAt (t : TypeId) (x : SV) (lit : Bool) (i : Int) (K : SV → Prop) : Prop := match P.underlying t, x with
  | some (.array n e), .loc k o => match size? P e with
    | some s => withIx lit i n fun j => K (.loc k (o + j * s))
    | none => False
  | some (.array n e), .adr a o => match size? P e with
    | some s => match lit with
      | true => ixLit i n fun j => K (.adr a (o + j * s))
      | false => (0 ≤ i ∧ i < n) ∧ K (.adr a (o + i.toNat * s))
    | none => False
  | some (.slice e), .sl p n _ => match size? P e with
    | some s => ∃ a, p = some a ∧ (0 ≤ i ∧ i < n) ∧ K (.adr a (i.toNat * s))
    | none => False
  | some (.slice e), .lsl k o n _ => match size? P e with
    | some s => withIx lit i n fun j => K (.loc k (o + j * s))
    | none => False
  | _, _ => False

def byteAt (s : List UInt8) (i : Int) : Int := (s.getD i.toNat 0).toNat

def index (t : TypeId) (x : SV) (lit : Bool) (i : Int) (K : SV → Prop) : Prop := match P.underlying t, x with
  | some (.array n e), .agg cs => match size? P e with
    | some s => withIx lit i n fun j => part P e cs (j * s) K
    | none => False
  | some .string, .str s => (0 ≤ i ∧ i < s.length) ∧ K (.int .u8 (byteAt s i))
  | _, _ => False

/-- The address of what is left of a slice. -/
def cutP (p : Option Addr) (c lo es : Nat) : Option Addr := if c = lo then p else p.map (·.add (lo * es))

def optI (ev : Operand → Option SV) (d : Int) : Option Operand → Option Int
  | none => some d
  | some x => match ev x with
    | some (.int .i64 n) => some n
    | _ => none

def slice (t : TypeId) (x : SV) (lo hi mx : Option Operand) (ev : Operand → Option SV) (K : SV → Prop) : Prop := match mx with
  | some _ => match P.underlying t, x, hi with
    | some (.slice e), .sl p _ c, some hi => match size? P e, optI ev 0 lo, optI ev 0 (some hi), optI ev 0 mx with
      | some s, some l, some h, some m => (0 ≤ l ∧ l ≤ h ∧ h ≤ m ∧ m ≤ c) ∧ K (.sl (cutP p m.toNat l.toNat s) (h - l).toNat (m - l).toNat)
      | _, _, _, _ => False
    | _, _, _ => False
  | none => match P.underlying t, x with
    | some .string, .str s => match optI ev 0 lo, optI ev s.length hi with
      | some l, some h => (0 ≤ l ∧ l ≤ h ∧ h ≤ s.length) ∧ K (.str ((s.drop l.toNat).take (h - l).toNat))
      | _, _ => False
    | some (.slice e), .sl p n c => match size? P e, optI ev 0 lo, optI ev n hi with
      | some s, some l, some h => (0 ≤ l ∧ l ≤ h ∧ h ≤ c) ∧ K (.sl (cutP p c l.toNat s) (h - l).toNat (c - l.toNat))
      | _, _, _ => False
    | _, _ => False

def extract (x : SV) (i : Nat) (K : SV → Prop) : Prop := match x with
  | .tup vs => match vs[i]? with
    | some v => K v
    | none => False
  | _ => False

def convert (s d : TypeId) (x : SV) (K : SV → Prop) : Prop := match P.underlying s, P.underlying d, x with
  | some (.int _), some (.int k), .int k' n => match kindEq k k' with
    | true => match k with
      | .i64 => I64 n ∧ K (.int .i64 n)
      | k => K (.int k (k.wrap n))
    | false => match k with
      | .i64 => I64 n ∧ K (.int .i64 n)
      | k => K (.int k (k.wrap n))
  | some .string, some .string, .str l => K (.str l)
  | _, _, _ => False

def minmax (less : Bool) (a : Int) : List SV → (SV → Prop) → Prop
  | [], K => K (.int .i64 a)
  | .int .i64 b :: vs, K => match less with
    | true => minmax less (min a b) vs K
    | false => minmax less (max a b) vs K
  | _, _ => False

def lenOf (t : TypeId) (x : SV) (K : SV → Prop) : Prop := match P.underlying t, x with
  | some .string, .str s => K (.int .i64 s.length)
  | some (.slice _), .sl _ n _ => K (.int .i64 n)
  | some (.slice _), .lsl _ _ n _ => K (.int .i64 n)
  | some (.array n _), _ => K (.int .i64 n)
  | _, _ => False

def calmBuiltin (b : Builtin) (ats : List TypeId) (args : List SV) (K : SV → Prop) : Prop := match b, ats, args with
  | .len, [t], [x] => lenOf P t x K
  | .cap, [t], [x] => match P.underlying t, x with
    | some (.slice _), .sl _ _ c => K (.int .i64 c)
    | _, _ => False
  | .min, _, .int .i64 a :: vs => minmax true a vs K
  | .max, _, .int .i64 a :: vs => minmax false a vs K
  | _, _, _ => False

def places? : List Field → Option (List (Nat × Nat))
  | [] => some []
  | f :: fs => (size? P f.type).bind fun s => (places? fs).map ((f.offset, s) :: ·)
def fill (place : Nat → Option (Nat × Nat)) (cells : List SV) : List (Nat × SV) → Option (List SV)
  | [] => some cells
  | (i, v) :: rest => match place i with
    | none => none
    | some (off, n) => match Nat.beq v.flat.length n && Nat.ble (off + n) cells.length && v.flat.all SV.scalar with
      | true => fill place (cells.take off ++ (v.flat ++ cells.drop (off + n))) rest
      | false => none
def parts? (T : Env) : List (Nat × Operand) → Option (List (Nat × SV))
  | [] => some []
  | (i, x) :: xs => (eval P T x).bind fun a => (parts? T xs).map ((i, a) :: ·)
def build (t : TypeId) (ps : List (Nat × SV)) : Option SV := (zero? P t).bind fun z => match P.underlying t with
  | some (.struct fields) => (places? P fields.toList).bind fun pl => (fill (fun i => pl[i]?) z.flat ps).map .agg
  | some (.array _ e) => (size? P e).bind fun s => (fill (fun i => some (i * s, s)) z.flat ps).map .agg
  | _ => none
def repeated (z : List SV) : Nat → List SV
  | 0 => []
  | n + 1 => z ++ repeated z n
def buildRow (t : TypeId) (n : Nat) (ps : List (Nat × SV)) : Option (TypeId × List SV) := match P.underlying t with
  | some (.slice e) => (size? P e).bind fun s => (zero? P e).bind fun z => match Nat.blt 0 s && Nat.blt 0 n && Nat.blt (n * s) 16777216 && Nat.beq z.flat.length s with
    | true => (fill (fun i => some (i * s, s)) (repeated z.flat n) ps).map fun cs => (e, cs)
    | false => none
  | _ => none

/-- Bytes as cells. -/
def bytesV (l : List UInt8) : List Value := l.map fun x => .int .u8 x.toNat

/-- Cells of a variable of the function's own. -/
def readLoc (L : List Loc) (k off n : Nat) : Option (List SV) := match L[k]? with
  | some l => match Nat.ble (off + n) l.cells.length with
    | true => some ((l.cells.drop off).take n)
    | false => none
  | none => none
def writeLoc (L : List Loc) (k off : Nat) (vs : List SV) : Option (List Loc) := match L[k]? with
  | some l => match Nat.ble (off + vs.length) l.cells.length with
    | true => some (L.take k ++ { l with cells := l.cells.take off ++ (vs ++ l.cells.drop (off + vs.length)), ver := l.ver + 1 } :: L.drop (k + 1))
    | false => none
  | none => none

def asLoad (agg : Bool) (cs : List SV) (K : SV → Prop) : Prop := match agg with
  | true => K (.agg cs)
  | false => match cs with
    | [v] => K v
    | _ => False

/-- The block is none of these. -/
def notIn (D : List Nat) (b : Nat) (Q : Prop) : Prop := match D with
  | [] => Q
  | d :: ds => b ∉ d :: ds ∧ Q

def load (L : List Loc) (D : List Nat) (w : World) (t : TypeId) (x : SV) (K : SV → Prop) : Prop := match size? P t, isAgg? P t, zero? P t with
  | some n, some g, some z => match Nat.beq z.flat.length n with
   | false => False
   | true => match x with
    | .loc k o => match readLoc L k o n with
      | some cs => asLoad g cs K
      | none => False
    | .adr a o => match shsOf z.flat with
      | some s => notIn D a.block (exV s fun cs => At w a o (reals (blks L) cs) ∧ asLoad g cs K)
      | none => False
    | .ptr p => match shsOf z.flat with
      | some s => ∃ a, p = some a ∧ notIn D a.block (exV s fun cs => At w a 0 (reals (blks L) cs) ∧ asLoad g cs K)
      | none => False
    | _ => False
  | _, _, _ => False

def on (x : Option SV) (K : SV → Prop) : Prop := match x with
  | some v => K v
  | none => False

/-- Does an operation leave memory alone? -/
def calmB (o : Op) : Bool := match o with
  | .move _ | .assign _ | .pick _ _ _ | .build _ _ | .nilCheck _ | .binOp _ _ _ _ _ | .unOp _ _ _ | .slice _ _ _ _ _ | .fieldAddr _ _ _
  | .field _ _ _ | .indexAddr _ _ _ | .index _ _ _ | .extract _ _ | .makeFunc _ _ _ | .load _ _ => true
  | .convert s d _ => match P.underlying s, P.underlying d with
    | some .string, some (.slice _) => false
    | some (.slice _), some .string => false
    | _, _ => true
  | .call { callee := .builtin b, .. } => match b with
    | .len | .cap | .min | .max => true
    | _ => false
  | _ => false

def calm (L : List Loc) (D : List Nat) (w : World) (T : Env) (o : Op) (K : SV → Prop) : Prop := match o with
  | .move x => on (eval P T x) K
  | .assign x => on (eval P T x) K
  | .pick c a b => match eval P T c with
    | some (.lit true) => on (eval P T a) K
    | some (.lit false) => on (eval P T b) K
    | _ => False
  | .build t ps => on ((parts? P T ps.toList).bind fun ps => build P t ps) K
  | .nilCheck x => match eval P T x with
    | some (.adr a o) => K (.adr a o)
    | some (.loc k o) => K (.loc k o)
    | some (.ptr p) => ∃ a, p = some a ∧ K (.adr a 0)
    | some (.sl p n c) => K (.sl p n c)
    | some (.fn f x y) => K (.fn f x y)
    | _ => False
  | .binOp op t x y _ => on (eval P T x) fun a => on (eval P T y) fun b => bin P (blks L) op t a b K
  | .unOp op _ x => on (eval P T x) fun a => un op a K
  | .convert s d x => on (eval P T x) fun a => convert P s d a K
  | .slice t x lo hi mx => on (eval P T x) fun a => slice P t a lo hi mx (eval P T) K
  | .fieldAddr s x i => on (eval P T x) fun a => fieldAt P s a i K
  | .field s x i => on (eval P T x) fun a => field P s a i K
  | .indexAddr t x i => on (eval P T x) fun a => match eval P T i with
    | some (.int _ n) => indexAt P t a (isNum i) n K
    | _ => False
  | .index t x i => on (eval P T x) fun a => match eval P T i with
    | some (.int _ n) => index P t a (isNum i) n K
    | _ => False
  | .extract x i => on (eval P T x) fun a => extract a i K
  | .makeFunc (.func f) first cap => match evals P T first.toList, evals P T cap.toList with
    | some a, some b => K (.fn f a b)
    | _, _ => False
  | .load t x => on (eval P T x) fun a => load P L D w t a K
  | .call { callee := .builtin b, args, argTypes } => match evals P T args.toList with
    | some vs => calmBuiltin P b argTypes.toList vs K
    | none => False
  | _ => False

end
end
end Go.Sy

namespace Go.Sy
open Go.RowKit (Below)
noncomputable section

/-- What is known at a point: the slots, the function's own variables, how many of them are older than the world 'wb', those of these that were written since, and the world behind the last step that the prover sees. -/
structure St where
  T : Env
  L : List Loc
  nb : Nat
  D : List Nat
  wb : World

/-- Worlds that differ in blocks of a list, and in new ones. -/
structure Ext (w : World) (ds : List Nat) (w' : World) : Prop where
  os : w'.os = w.os
  tape : w'.tape = w.tape
  output : w'.output = w.output
  size : w.heap.size ≤ w'.heap.size
  heap : ∀ i, i < w.heap.size → i ∉ ds → w'.heap[i]? = w.heap[i]?
def grow (w : World) (ds : List Nat) (w' : World) : Prop := match ds with
  | [] => Below w.heap.size w w'
  | d :: ds => Ext w (d :: ds) w'

/-- What a call has left alone: old memory outside of F, and the caller's own variables. -/
structure Kept (lo : Nat) (F : Nat → Prop) (bs : List Nat) (w w' : World) : Prop where
  os : w'.os = w.os
  tape : w'.tape = w.tape
  output : w'.output = w.output
  size : w.heap.size ≤ w'.heap.size
  old : ∀ i, i < lo → i < w.heap.size → ¬ F i → w'.heap[i]? = w.heap[i]?
  own : ∀ i ∈ bs, lo ≤ i → i < w.heap.size → w'.heap[i]? = w.heap[i]?

/-- Old memory outside of F is as it was. -/
structure Keeps (F : Nat → Prop) (w w' : World) : Prop where
  os : w'.os = w.os
  tape : w'.tape = w.tape
  output : w'.output = w.output
  size : w.heap.size ≤ w'.heap.size
  heap : ∀ i, i < w.heap.size → ¬ F i → w'.heap[i]? = w.heap[i]?

/-- A block, all of it. -/
def Whole (w : World) (b : Nat) (t : TypeId) (cs : List Value) : Prop := w.heap[b]? = some (.cells cs.toArray t (0, 0))

/-- Cells that may be written. -/
def CanPut (w : World) (a : Addr) (o n : Nat) : Prop := a.spot = none ∧ ∃ cs t, w.heap[a.block]? = some (.cells cs t (0, 0)) ∧ a.off + o + n ≤ cs.size
/-- Not the function's own, and within its frame. -/
def Away (lo : Nat) (F : Nat → Prop) (bs : List Nat) (b : Nat) : Prop := b ∉ bs ∧ (b < lo → F b)
/-- Cells have been written. -/
structure Put (w : World) (ds : List Nat) (a : Addr) (o : Nat) (vs : List Value) (w' : World) : Prop where
  os : w'.os = w.os
  tape : w'.tape = w.tape
  output : w'.output = w.output
  size : w.heap.size ≤ w'.heap.size
  heap : ∀ i, i < w.heap.size → i ∉ ds → i ≠ a.block → w'.heap[i]? = w.heap[i]?
  here : ∀ cs t, w.heap[a.block]? = some (.cells cs t (0, 0)) → ∃ cs', w'.heap[a.block]? = some (.cells cs' t (0, 0)) ∧ cs'.size = cs.size ∧
    ∀ j, cs'[j]? = if a.off + o ≤ j ∧ j < a.off + o + vs.length then vs[j - (a.off + o)]? else cs[j]?

/-- A call, from a world on. -/
structure Runs (P : Program) (f : FuncId) (args : Array Value) (w : World) (R : Ending → World → Prop) : Prop where
  out : Calls P f args w R

inductive Ex where
  | normal
  | exit (id : Nat)
  | ret

/-- What is chosen ahead: at loops and cuts the slots, and the own variables, of which something is said. -/
structure Cut where
  key : Nat
  slots : List Nat
  locs : List Nat

section
variable (P : Program) (w0 : World) (F : Nat → Prop)

def St.put (s : St) (d : Option Tmp) (v : SV) : St := match d with
  | some d => { s with T := s.T.set d (some v) }
  | none => s

/-- A step that the prover sees: from now on the world is w. -/
def St.at (s : St) (L : List Loc) (w : World) : St := { s with L := L, nb := L.length, D := [], wb := w }

/-- A condition whose truth has come to be asked. -/
def fork (T : Env) (d : Tmp) (K : Env → Bool → Prop) : Prop := match T.at d with
  | some (.lit b) => K T b
  | some (.bool e) => (e.is true → K (T.set d (some (.lit true))) true) ∧ (e.is false → K (T.set d (some (.lit false))) false)
  | _ => False

def wantIs (b want : Bool) (K : Bool → Prop) : Prop := match b, want with
  | true, w => K w
  | false, true => K false
  | false, false => K true

/-- Does an operation's guard let it run? -/
def guarded (all : List Oper) (o : Oper) (s : St) (K : St → Bool → Prop) : Prop := match o.guard with
  | none => K s true
  | some (j, want) => match all[j]? with
    | some oj => match oj.dst with
      | some d => match s.T.at d with
        | some (.tup []) => K s false
        | _ => fork s.T d fun T b => wantIs b want (K { s with T := T })
      | none => False
    | none => False

/-- A pick asks for its condition. -/
def picked (o : Op) (s : St) (K : St → Prop) : Prop := match o with
  | .pick (.tmp d) _ _ => fork s.T d fun T _ => K { s with T := T }
  | _ => K s

/-- The own variables that a value names. -/
def locsIn : SV → List Nat
  | .loc k _ => [k]
  | .lsl k _ _ _ => [k]
  | .agg cs => cs.filterMap fun c => match c with
    | .loc k _ => some k
    | .lsl k _ _ _ => some k
    | _ => none
  | .fn _ a b => (a ++ b).filterMap fun c => match c with
    | .loc k _ => some k
    | .lsl k _ _ _ => some k
    | _ => none
  | _ => []
def locsAll : List SV → List Nat
  | [] => []
  | v :: vs => locsIn v ++ locsAll vs
def dedup : List Nat → List Nat
  | [] => []
  | x :: xs => match (dedup xs).elem x with
    | true => dedup xs
    | false => x :: dedup xs

/-- The own variables lie there. -/
def lies (β : List Nat) (w : World) : List Loc → Prop → Prop
  | [], Q => Q
  | l :: ls, Q => (w0.heap.size ≤ l.blk ∧ Whole w l.blk l.ty (reals β l.cells)) → lies β w ls Q
def liesIf (c : Bool) (L : List Loc) (w : World) (Q : Prop) : Prop := match c with
  | true => lies w0 (blks L) w L Q
  | false => Q

/-- Own variables lie somewhere: which blocks, of which types. -/
def Mine (w : World) (lo : Nat) (ls : List (Nat × TypeId)) : Prop := ∀ p ∈ ls, lo ≤ p.1 ∧ ∃ cs : Array Value, w.heap[p.1]? = some (.cells cs p.2 (0, 0))
def kinds : List Loc → List (Nat × TypeId)
  | [] => []
  | l :: ls => (l.blk, l.ty) :: kinds ls
def callLies (c : Bool) (L : List Loc) (w : World) (Q : Prop) : Prop := match c with
  | true => lies w0 (blks L) w L Q
  | false => match L with
    | [] => Q
    | l :: ls => Mine w w0.heap.size (kinds (l :: ls)) → Q
def offOwn (bs : List Nat) (p : Option Addr) (Q : Prop) : Prop := match bs with
  | [] => Q
  | b :: bs => (∀ a, p = some a → a.block ∉ b :: bs) → Q
def notOwn (bs : List Nat) (x : Nat) (Q : Prop) : Prop := match bs with
  | [] => Q
  | b :: bs => x ∉ b :: bs → Q

/-- Own variables that a call may have written: what lies there now. -/
def again (β : List Nat) (w : World) : List Nat → List Loc → (List Loc → Prop) → Prop
  | [], L, K => K L
  | k :: ks, L, K => match L[k]? with
    | some l => match shsOf l.cells with
      | some s => exV s fun cs => Whole w l.blk l.ty (reals β cs) ∧ again β w ks (L.take k ++ { l with cells := cs, ver := l.ver + 1 } :: L.drop (k + 1)) K
      | none => (Whole w l.blk l.ty (reals β l.cells)) ∧ again β w ks L K
    | none => False
def keptBlks (E : List Nat) : Nat → List Loc → List Nat
  | _, [] => []
  | k, l :: ls => match E.elem k with
    | true => keptBlks E (k + 1) ls
    | false => l.blk :: keptBlks E (k + 1) ls

/-- The forms of a function's results. -/
def resForms : List TypeId → Option (List (Bool × List Sh))
  | [] => some []
  | t :: ts => (isAgg? P t).bind fun g => (zero? P t).bind fun z => (shsOf z.flat).bind fun s => (resForms ts).map ((g, s) :: ·)
def exRes : List (Bool × List Sh) → (List SV → Prop) → Prop
  | [], K => K []
  | (g, s) :: rs, K => exV s fun cs => match g with
    | true => exRes rs fun vs => K (.agg cs :: vs)
    | false => match cs with
      | [c] => exRes rs fun vs => K (c :: vs)
      | _ => False
def resVal : List SV → SV
  | [v] => v
  | vs => .tup vs

/-- A call of a function with a body. -/
def callAt (f : FuncId) (args : List SV) (s : St) (K : SV → St → List Nat → Prop) : Prop := match P.funcs[f]? with
  | some fn => match fn.body with
    | some _ => match fn.name == "runtime.NumGoroutine" with
      | false => match resForms P fn.resultTypes.toList with
        | some rs => ∀ w1, grow s.wb s.D w1 → callLies w0 (!(dedup (locsAll args)).isEmpty) s.L w1
            (Runs P f (reals (blks s.L) args).toArray w1 fun e w2 => exRes rs fun vs => e = .returned (real (blks s.L) (resVal vs)) ∧ Kept w0.heap.size F (keptBlks (dedup (locsAll args)) 0 s.L) w1 w2 ∧
              again (blks s.L) w2 (dedup (locsAll args)) s.L fun L => K (resVal vs) (s.at L w2) (dedup (locsAll args)))
        | none => False
      | true => False
    | none => False
  | none => False

/-- The source of an append or a copy: m elements of es cells. -/
def source (L : List Loc) (D : List Nat) (w : World) (es : Nat) (x : SV) (K : Nat → List Value → Prop) : Prop := match x with
  | .lsl k o m _ => match readLoc L k o (m * es) with
    | some cs => K m (reals (blks L) cs)
    | none => False
  | .sl p m _ => ∃ a, p = some a ∧ ∃ xs : List Value, (xs.length = m * es ∧ (∀ v ∈ xs, v.oneCell' = true) ∧ At w a 0 xs) ∧ notIn D a.block (K m xs)
  | _ => False

def bytes? (t : TypeId) : Option Nat := (P.info? t).map (·.bytes)

/-- A slice of the function's own making, or of what it may write. -/
structure Room (lo : Nat) (F : Nat → Prop) (bs : List Nat) (w : World) (e : TypeId) (es : Nat) (p : Option Addr) (n c : Nat) (cs : List Value) : Prop where
  row : w.ownsRow 0 e es (.slice p n c) n cs
  away : ∀ a, p = some a → Away lo F bs a.block
/-- Behind an append. -/
structure Grown (w : World) (ds : List Nat) (p : Option Addr) (e : TypeId) (es n : Nat) (cs : List Value) (w' : World) (p' : Option Addr) (c' : Nat) : Prop where
  row : w'.ownsRow 0 e es (.slice p' n c') n cs
  os : w'.os = w.os
  tape : w'.tape = w.tape
  output : w'.output = w.output
  size : w.heap.size ≤ w'.heap.size
  heap : ∀ i, i < w.heap.size → i ∉ ds → (∀ a, p = some a → i ≠ a.block) → w'.heap[i]? = w.heap[i]?
  place : ∀ a, p' = some a → (∃ b, p = some b ∧ a.block = b.block) ∨ w.heap.size ≤ a.block

def appendAt (t : TypeId) (x y : SV) (s : St) (K : SV → St → List Nat → Prop) : Prop := match P.underlying t, x with
  | some (.slice e), .sl p n c => match size? P e, bytes? P e, zero? P e with
    | some es, some by_, some z => match Nat.blt 0 es && Nat.blt 0 by_ && Nat.beq z.flat.length es with
      | true => ∃ cs : List Value, Room w0.heap.size F (blks s.L) s.wb e es p n c cs ∧ source s.L s.D s.wb es y fun m xs => ((n + m) * by_ ≤ 140737488355328) ∧
          ∀ w2 p2 c2, Grown s.wb s.D p e es (n + m) (cs ++ xs) w2 p2 c2 → offOwn (blks s.L) p2 (K (.sl p2 (n + m) c2) (s.at s.L w2) [])
      | false => False
    | _, _, _ => False
  | _, _ => False

/-- Behind a make. -/
structure Made (w : World) (ds : List Nat) (e : TypeId) (es n c : Nat) (z : List Value) (w' : World) (b : Nat) : Prop where
  os : w'.os = w.os
  tape : w'.tape = w.tape
  output : w'.output = w.output
  new : w.heap.size ≤ b
  size : b < w'.heap.size
  heap : ∀ i, i < w.heap.size → i ∉ ds → w'.heap[i]? = w.heap[i]?
  row : Whole w' b e (List.replicate c z).flatten

/-- Behind the making of bytes of a string. -/
structure FromStr (w : World) (ds : List Nat) (e : TypeId) (l : List UInt8) (w' : World) (b c : Nat) : Prop where
  os : w'.os = w.os
  tape : w'.tape = w.tape
  output : w'.output = w.output
  new : w.heap.size ≤ b
  size : b < w'.heap.size
  heap : ∀ i, i < w.heap.size → i ∉ ds → w'.heap[i]? = w.heap[i]?
  row : At w' ⟨b, 0, none⟩ 0 (bytesV l)
  cap : l.length ≤ c
  shape : ∃ cs fr, w'.heap[b]? = some (.cells cs e fr)
/-- Bytes that lie there. -/
def BytesAt (w : World) (p : Option Addr) (n : Nat) (l : List UInt8) : Prop := l.length = n ∧ ∀ a, p = some a → At w a 0 (bytesV l)

def convLoud (t d : TypeId) (x : SV) (s : St) (K : SV → St → List Nat → Prop) : Prop := match P.underlying t, P.underlying d, x with
  | some .string, some (.slice e), .str l => match P.underlying e with
    | some (.int .u8) => ∀ w2 b c, FromStr s.wb s.D e l w2 b c → notOwn (blks s.L) b (K (.sl (some ⟨b, 0, none⟩) l.length c) (s.at s.L w2) [])
    | _ => False
  | some (.slice e), some .string, .sl p n _ => match P.underlying e with
    | some (.int .u8) => ∃ l, ∀ w1, grow s.wb s.D w1 → BytesAt w1 p n l ∧ (p = none → n = 0) ∧ K (.str l) (s.at s.L w1) []
    | _ => False
  | _, _, _ => False

def loud (o : Oper) (s : St) (K : SV → St → List Nat → Prop) : Prop := match o.op with
  | .alloc t => match zero? P t with
    | some z => ∀ b, s.wb.heap.size ≤ b → K (.loc s.L.length 0) { s with L := s.L ++ [⟨b, t, z.flat, 0⟩] } []
    | none => False
  | .box t x => on (eval P s.T x) fun v => match v.flat.all SV.scalar with
   | false => False
   | true => ∀ b, s.wb.heap.size ≤ b → K (.loc s.L.length 0) { s with L := s.L ++ [⟨b, t, v.flat, 0⟩] } []
  | .buildSlice t n ps => match (parts? P s.T ps.toList).bind fun ps => buildRow P t n ps with
    | some (e, cs) => ∀ b, s.wb.heap.size ≤ b → K (.lsl s.L.length 0 n n) { s with L := s.L ++ [⟨b, e, cs, 0⟩] } []
    | none => False
  | .convert t d x => on (eval P s.T x) fun v => convLoud P t d v s K
  | .makeSlice t n c => match P.underlying t, eval P s.T n, eval P s.T c with
    | some (.slice e), some (.int .i64 n), some (.int .i64 c) => match size? P e, bytes? P e, zero? P e with
      | some es, some by_, some z => match Nat.blt 0 es && Nat.blt 0 by_ && Nat.beq z.flat.length es with
        | true => (0 ≤ n ∧ n ≤ c ∧ c * by_ ≤ 140737488355328) ∧ ∀ w2 b, Made s.wb s.D e es n.toNat c.toNat (reals [] z.flat) w2 b → notOwn (blks s.L) b (K (.sl (some ⟨b, 0, none⟩) n.toNat c.toNat) (s.at s.L w2) [])
        | false => False
      | _, _, _ => False
    | _, _, _ => False
  | .store t a x => on (eval P s.T a) fun a => on (eval P s.T x) fun v => match size? P t with
    | some n => match Nat.beq v.flat.length n && v.flat.all SV.scalar with
      | true => match a with
        | .loc k off => match writeLoc s.L k off v.flat, s.L[k]? with
          | some L, some l => match Nat.blt k s.nb with
            | true => K (.tup []) { s with L := L, D := l.blk :: s.D } [k]
            | false => K (.tup []) { s with L := L } [k]
          | _, _ => False
        | .adr a o => (CanPut s.wb a o n ∧ Away w0.heap.size F (blks s.L) a.block) ∧ ∀ w2, Put s.wb s.D a o (reals (blks s.L) v.flat) w2 → K (.tup []) (s.at s.L w2) []
        | .ptr p => ∃ a, p = some a ∧ (CanPut s.wb a 0 n ∧ Away w0.heap.size F (blks s.L) a.block) ∧ ∀ w2, Put s.wb s.D a 0 (reals (blks s.L) v.flat) w2 → K (.tup []) (s.at s.L w2) []
        | _ => False
      | false => False
    | none => False
  | .call { callee := .value f, args, .. } => match eval P s.T f, evals P s.T args.toList with
    | some (.fn g first cap), some vs => callAt P w0 F g (first ++ vs ++ cap) s K
    | _, _ => False
  | .call { callee := .builtin .append, args, argTypes } => match argTypes.toList, evals P s.T args.toList with
    | [t, u], some [x, y] => match Nat.beq t u with
      | true => appendAt P w0 F t x y s K
      | false => False
    | _, _ => False
  | _ => False

/-- One operation that is to run. -/
def run1 (o : Oper) (s : St) (K : St → List Nat → Prop) : Prop := match calmB P o.op with
  | true => picked o.op s fun s => calm P s.L s.D s.wb s.T o.op fun v => K (s.put o.dst v) []
  | false => loud P w0 F o s fun v s ch => K (s.put o.dst v) ch

def ops (all : List Oper) : List Oper → St → (St → Prop) → Prop
  | [], s, K => K s
  | o :: rest, s, K => guarded all o s fun s b => match b with
    | false => ops all rest (s.put o.dst (.tup [])) K
    | true => run1 P w0 F o s fun s _ => ops all rest s K

/-! ### Regions that draw their order -/

/-- A load that may yet come up: its number, what it reads of the own variables, and what it reads of other memory. -/
structure Pend where
  i : Nat
  own : Option Nat
  old : Option (Addr × Nat × List Value)

def stillOk (ms : List Nat) (i : Nat) (big : Bool) (ch D : List Nat) (w : World) : List Pend → Prop → Prop
  | [], Q => Q
  | p :: ps, Q => match Abs.ahead ms p.i i with
    | true => stillOk ms i big ch D w ps Q
    | false => match p.own with
      | some k => match ch.elem k with
        | true => False
        | false => stillOk ms i big ch D w ps Q
      | none => match p.old with
        | some (a, o, vs) => match big with
          | true => At w a o vs ∧ stillOk ms i big ch D w ps Q
          | false => notIn D a.block (stillOk ms i big ch D w ps Q)
        | none => stillOk ms i big ch D w ps Q

/-- What a load has read. -/
def pendOf (i : Nat) (o : Op) (s : St) (v : SV) : Option Pend := match o with
  | .load _ x => match eval P s.T x with
    | some (.loc k _) => some ⟨i, some k, none⟩
    | some (.adr a o) => some ⟨i, none, some (a, o, reals (blks s.L) v.flat)⟩
    | _ => none
  | _ => some ⟨i, none, none⟩
def isLoad : Op → Bool
  | .load _ _ => true
  | _ => false
/-- Does a step change the world that the prover sees? -/
def isBig (o : Oper) (s : St) : Bool := match o.op with
  | .alloc _ | .box _ _ | .buildSlice _ _ _ => false
  | .store _ a _ => match eval P s.T a with
    | some (.loc _ _) => false
    | _ => true
  | _ => true

/-- The first of these that leaves memory alone. -/
def firstCalm (all : List Oper) : List Nat → Option Nat
  | [] => none
  | i :: is => match all[i]? with
    | some o => match calmB P o.op with
      | true => some i
      | false => firstCalm all is
    | none => firstCalm all is

/-- A region that draws its order: what leaves memory alone is taken first; of what does not, no two may come up side by side. -/
def draw (all : Array Oper) (ms : List Nat) : Nat → Array Bool → List Pend → St → (St → Prop) → Prop
  | 0, listed, _, s, K => match Region.ready .any all listed with
    | [] => K s
    | _ :: _ => False
  | n + 1, listed, pend, s, K => match Region.ready .any all listed with
    | [] => K s
    | r :: rs => match firstCalm P all.toList (r :: rs) with
      | some i => match Region.free .any all listed i, all[i]? with
        | true, some o => guarded all.toList o s fun s b => match b with
          | false => draw all ms n (listed.setIfInBounds i true) pend (s.put o.dst (.tup [])) K
          | true => picked o.op s fun s => calm P s.L s.D s.wb s.T o.op fun v => match isLoad o.op, pendOf P i o.op s v with
            | true, some p => draw all ms n (listed.setIfInBounds i true) (p :: pend) (s.put o.dst v) K
            | true, none => False
            | false, _ => draw all ms n (listed.setIfInBounds i true) pend (s.put o.dst v) K
        | _, _ => False
      | none => match all[r]? with
        | some o => guarded all.toList o s fun s b => match b with
          | false => match Region.free .any all listed r with
            | true => draw all ms n (listed.setIfInBounds r true) pend (s.put o.dst (.tup [])) K
            | false => False
          | true => match rs with
            | [] => loud P w0 F o s fun v s' ch => stillOk ms r (isBig P o s) ch s'.D s'.wb pend (draw all ms n (listed.setIfInBounds r true) (pend.filter fun p => !Abs.ahead ms p.i r) (s'.put o.dst v) K)
            | _ :: _ => False
        | none => False

end
end
end Go.Sy

namespace Go.Sy
open Go.RowKit (Below)
noncomputable section
section
variable (P : Program) (w0 : World) (F : Nat → Prop) (loops cuts : List Cut)

def regionAt (l : Array Oper) (d : Bool) (s : St) (K : St → Prop) : Prop := match d with
  | false => ops P w0 F l.toList l.toList s K
  | true => match Region.noSelect l with
    | true => draw P w0 F l (Abs.masks l) l.size (Array.replicate l.size false) [] s K
    | false => False

def keyOf : Code → Option Nat
  | .region id _ _ => some id
  | .seq a b => match keyOf a with
    | some k => some k
    | none => keyOf b
  | .cond _ a b => match keyOf a with
    | some k => some k
    | none => keyOf b
  | .block _ b => keyOf b
  | .loop b => keyOf b
  | _ => none
def cutAt : List Cut → Option Nat → Option Cut
  | _, none => none
  | [], _ => none
  | c :: cs, some k => match Nat.beq c.key k with
    | true => some c
    | false => cutAt cs (some k)

def dsts : List Oper → List (Nat × TypeId) → List (Nat × TypeId)
  | [], acc => acc
  | o :: os, acc => match o.dst with
    | some d => (d, o.type) :: dsts os acc
    | none => dsts os acc
/-- The slots that a piece of code writes. -/
def written : Code → List (Nat × TypeId) → List (Nat × TypeId)
  | .region _ l _, acc => dsts l.toList acc
  | .seq a b, acc => written a (written b acc)
  | .cond _ a b, acc => written a (written b acc)
  | .block _ b, acc => written b acc
  | .loop b, acc => written b acc
  | _, acc => acc
def kill : List (Nat × TypeId) → Env → Env
  | [], T => T
  | (d, _) :: ds, T => kill ds (T.set d none)

def slotVals (T : Env) : List Nat → Option (List SV)
  | [] => some []
  | t :: ts => (T.at t).bind fun v => (slotVals T ts).map (v :: ·)
def locVals (L : List Loc) : List Nat → Option (List SV)
  | [] => some []
  | k :: ks => (L[k]?).bind fun l => (locVals L ks).map (l.cells ++ ·)
def valsOf (c : Cut) (s : St) : Option (List SV) := (slotVals s.T c.slots).bind fun a => (locVals s.L c.locs).map (a ++ ·)

def setSlots : List Nat → List SV → Env → Env × List SV
  | [], vs, T => (T, vs)
  | _ :: _, [], T => (T, [])
  | t :: ts, v :: vs, T => setSlots ts vs (T.set t (some v))
def setLocs : List Nat → List SV → List Loc → List Loc
  | [], _, L => L
  | k :: ks, vs, L => match L[k]? with
    | some l => setLocs ks (vs.drop l.cells.length) (L.take k ++ { l with cells := vs.take l.cells.length, ver := l.ver + 1 } :: L.drop (k + 1))
    | none => L
/-- The state at the head of a loop, or behind a cut. -/
def headOf (c : Cut) (wr : List (Nat × TypeId)) (s : St) (ys : List SV) (w : World) : St :=
  { T := (setSlots c.slots ys (kill wr s.T)).1, L := setLocs c.locs (setSlots c.slots ys (kill wr s.T)).2 s.L, nb := s.L.length, D := [], wb := w }
/-- The own variables that are not listed are as they were. -/
def sameVers (ls : List Nat) : Nat → List Loc → List Loc → Bool
  | _, [], _ => true
  | _, _ :: _, [] => false
  | k, l :: L, l' :: L' => (ls.elem k || Nat.beq l.ver l'.ver) && sameVers ls (k + 1) L L'

def locsOk (c : Cut) (s : St) : Bool := c.locs.all fun k => Nat.blt k s.L.length

def loopAt (c : Cut) (wr : List (Nat × TypeId)) (body : St → (Ex → St → Prop) → Prop) (s : St) (K : Ex → St → Prop) : Prop := match locsOk c s with
 | false => False
 | true => match valsOf c s with
  | some xs => match shsOf xs with
    | some sh => ∃ (I : PredT sh) (μ : MeasT sh), (∀ w1, grow s.wb s.D w1 → app sh I μ xs fun J _ => J w1) ∧
        allV sh I μ fun ys J m => ∀ w1, Keeps F w0 w1 → J w1 → body (headOf c wr s ys w1) fun e s' => match e with
          | .normal => match sameVers c.locs 0 (headOf c wr s ys w1).L s'.L, valsOf c s' with
            | true, some zs => ∀ w2, grow s'.wb s'.D w2 → app sh I μ zs fun J' m' => J' w2 ∧ m' < m
            | _, _ => False
          | e => K e s'
    | none => False
  | none => False

def measZero : (s : List Sh) → MeasT s
  | [] => (0 : Nat)
  | .int _ :: s => fun _ => measZero s
  | .bool :: s => fun _ => measZero s
  | .str :: s => fun _ => measZero s
  | .ptr :: s => fun _ => measZero s
  | .sl :: s => fun _ _ _ => measZero s
  | .val :: s => fun _ => measZero s

def slotSh (wr : List (Nat × TypeId)) : List Nat → Option (List Sh)
  | [] => some []
  | t :: ts => (wr.find? fun d => Nat.beq d.1 t).bind fun d => (zero? P d.2).bind fun z => (shOf z).bind fun a => (slotSh wr ts).map (a :: ·)
def cutSh (c : Cut) (wr : List (Nat × TypeId)) (s : St) : Option (List Sh) := (slotSh P wr c.slots).bind fun a => ((locVals s.L c.locs).bind shsOf).map (a ++ ·)

def cutThere (c : Cut) (wr : List (Nat × TypeId)) (x : St → (Ex → St → Prop) → Prop) (y : St → (Ex → St → Prop) → Prop) (s : St) (K : Ex → St → Prop) : Prop := match locsOk c s with
 | false => False
 | true => match cutSh P c wr s with
  | some sh => ∃ I : PredT sh, (x s fun e s' => match e with
        | .normal => match sameVers c.locs 0 s.L s'.L, valsOf c s' with
          | true, some zs => ∀ w2, grow s'.wb s'.D w2 → app sh I (measZero sh) zs fun J _ => J w2
          | _, _ => False
        | e => K e s') ∧
      allV sh I (measZero sh) fun ys J _ => ∀ w1, Keeps F w0 w1 → J w1 → y (headOf c wr s ys w1) K
  | none => False

def condAt (c : Option SV) (x y : Prop) : Prop := match c with
  | some (.lit true) => x
  | some (.lit false) => y
  | some (.bool e) => (e.is true → x) ∧ (e.is false → y)
  | _ => False

def code : Code → St → (Ex → St → Prop) → Prop
  | .skip, s, K => K .normal s
  | .region _ l d, s, K => regionAt P w0 F l d s fun s => K .normal s
  | .seq a b, s, K => match cutAt cuts (keyOf b) with
    | some c => cutThere P w0 F c (written a []) (code a) (code b) s K
    | none => code a s fun e s => match e with
      | .normal => code b s K
      | e => K e s
  | .cond c a b, s, K => condAt (eval P s.T c) (code a s K) (code b s K)
  | .block id b, s, K => code b s fun e s => match e with
    | .exit j => match Nat.beq j id with
      | true => K .normal s
      | false => K (.exit j) s
    | e => K e s
  | .loop b, s, K => match cutAt loops (keyOf b) with
    | some c => loopAt w0 F c (written b []) (code b) s K
    | none => False
  | .exit id, s, K => K (.exit id) s
  | .ret, s, K => K .ret s
  | _, _, _ => False

def enterAt (i : Nat) : List SV → Env → Env
  | [], T => T
  | v :: vs, T => enterAt (i + 1) vs (T.set i (some v))

def outs (s : St) : List ResultVar → Option (List SV)
  | [] => some []
  | .tmp t :: rs => (s.T.at t).bind fun v => (outs s rs).map (v :: ·)
  | .cell c t :: rs => match s.T.at c with
    | some (.loc k o) => (size? P t).bind fun n => (isAgg? P t).bind fun g => (readLoc s.L k o n).bind fun cs => match g with
      | true => (outs s rs).map (.agg cs :: ·)
      | false => match cs with
        | [v] => (outs s rs).map (v :: ·)
        | _ => none
    | _ => none

def finish (fn : Func) (Q : Value → World → Prop) (s : St) : Prop := match outs P s fn.results.toList with
  | some vs => ∀ w1, grow s.wb s.D w1 → Keeps F w0 w1 → liesIf w0 (!(dedup (locsAll vs)).isEmpty) s.L w1 (Q (real (blks s.L) (resVal vs)) w1)
  | none => False

def allDst (n : Nat) : Code → Bool
  | .region _ l _ => l.toList.all fun o => match o.dst with
    | some d => Nat.blt d n
    | none => true
  | .seq a b => allDst n a && allDst n b
  | .cond _ a b => allDst n a && allDst n b
  | .block _ b => allDst n b
  | .loop b => allDst n b
  | _ => true

/-- What is to be shown of a call of a function. -/
def func (f : FuncId) (args : List SV) (Q : Value → World → Prop) : Prop := match P.funcs[f]? with
  | some fn => match fn.body with
    | some c => match allDst fn.ntmps c with
     | false => False
     | true => code P w0 F loops cuts c { T := enterAt 0 args .leaf, L := [], nb := 0, D := [], wb := w0 } fun e s => match e with
      | .normal => finish P w0 F fn Q s
      | .ret => finish P w0 F fn Q s
      | .exit _ => False
    | none => False
  | none => False

end
end
end Go.Sy

set_option linter.unusedVariables false
namespace Go.Sy
variable {P : Program}

/-! ### Conditions -/

theorem BE.is_iff : ∀ (e : BE) (w : Bool), e.is w ↔ (e.is true ↔ w = true)
  | .lt a b, true => by simp
  | .lt a b, false => by simp [BE.is]
  | .le a b, true => by simp
  | .le a b, false => by simp [BE.is]
  | .eq a b, true => by simp
  | .eq a b, false => by simp [BE.is]
  | .ok x, true => by simp
  | .ok x, false => by simp [BE.is]
  | .pr q, true => by simp
  | .pr q, false => by simp [BE.is]
  | .no e, true => by simp
  | .no e, false => by
    have h1 := BE.is_iff e false
    have h2 := BE.is_iff e true
    simp only [BE.is]
    rw [h1]
    simp

theorem BE.toB_val (e : BE) : e.toB = e.val := by
  cases e with
  | ok x => cases x <;> simp [BE.toB, BE.val, BE.is]
  | _ => rfl
theorem BE.val_iff (e : BE) (w : Bool) : e.is w ↔ e.val = w := by
  rw [BE.is_iff]
  unfold BE.val
  cases w <;> simp
theorem BE.toB_iff (e : BE) (w : Bool) : e.is w ↔ e.toB = w := by rw [BE.toB_val, BE.val_iff]
theorem BE.not_val (e : BE) : (BE.no e).val = !e.val := by
  have h1 := BE.val_iff e false
  have h2 := BE.val_iff (.no e) true
  simp only [BE.is] at h2
  cases he : e.val with
  | true => 
    cases hn : (BE.no e).val with
    | false => rfl
    | true => rw [hn] at h2; rw [he] at h1; simp at h2; exact absurd h2 (by rw [h1]; simp)
  | false => 
    rw [he] at h1
    have : e.is false := h1.2 rfl
    rw [h2.1 this]; rfl
theorem BE.split {e : BE} {A B C : Prop} (h : (e.is true → A) ∧ (e.is false → B)) (ha : e.toB = true → A → C) (hb : e.toB = false → B → C) : C := by
  cases he : e.toB with
  | true => exact ha he (h.1 ((BE.toB_iff e true).2 he))
  | false => exact hb he (h.2 ((BE.toB_iff e false).2 he))

/-! ### Values -/

mutual
def okv (n : Nat) : SV → Prop
  | .loc k _ => k < n
  | .lsl k _ _ _ => k < n
  | .agg cs => okvs n cs ∧ cs.all SV.scalar = true
  | .tup cs => okvs n cs
  | .fn _ a b => okvs n a ∧ okvs n b
  | .val v => v.oneCell' = true
  | _ => True
def okvs (n : Nat) : List SV → Prop
  | [] => True
  | v :: vs => okv n v ∧ okvs n vs
end
theorem okvs_iff {n : Nat} {l : List SV} : okvs n l ↔ ∀ v ∈ l, okv n v := by
  induction l with
  | nil => simp [okvs]
  | cons v l ih => simp [okvs, ih]
theorem reals_eq (β : List Nat) (l : List SV) : reals β l = l.map (real β) := by
  induction l with
  | nil => rfl
  | cons v l ih => simp [reals, ih]
theorem reals_length (β : List Nat) (l : List SV) : (reals β l).length = l.length := by simp [reals_eq]

/-- Blocks that agree on the first n. -/
def Alike (n : Nat) (β β' : List Nat) : Prop := ∀ k, k < n → β'.getD k 0 = β.getD k 0
mutual
theorem real_alike {n : Nat} {β β' : List Nat} (h : Alike n β β') : ∀ v, okv n v → real β' v = real β v
  | .int _ _, _ => rfl
  | .lit _, _ => rfl
  | .bool _, _ => rfl
  | .str _, _ => rfl
  | .ptr _, _ => rfl
  | .adr _ _, _ => rfl
  | .sl _ _ _, _ => rfl
  | .loc k _, hk => by simp only [real, h k hk]
  | .lsl k _ _ _, hk => by simp only [real, h k hk]
  | .agg cs, hc => by simp only [real, reals_alike h cs hc.1]
  | .tup cs, hc => by simp only [real, reals_alike h cs hc]
  | .fn _ a b, hc => by simp only [real, reals_alike h a hc.1, reals_alike h b hc.2]
  | .val _, _ => rfl
theorem reals_alike {n : Nat} {β β' : List Nat} (h : Alike n β β') : ∀ l, okvs n l → reals β' l = reals β l
  | [], _ => rfl
  | v :: vs, hv => by simp only [reals, real_alike h v hv.1, reals_alike h vs hv.2]
end
mutual
theorem okv_mono {n m : Nat} (h : n ≤ m) : ∀ v, okv n v → okv m v
  | .int _ _, _ => trivial
  | .lit _, _ => trivial
  | .bool _, _ => trivial
  | .str _, _ => trivial
  | .ptr _, _ => trivial
  | .adr _ _, _ => trivial
  | .sl _ _ _, _ => trivial
  | .loc k _, hk => Nat.lt_of_lt_of_le hk h
  | .lsl k _ _ _, hk => Nat.lt_of_lt_of_le hk h
  | .agg cs, hc => ⟨okvs_mono h cs hc.1, hc.2⟩
  | .tup cs, hc => okvs_mono h cs hc
  | .fn _ a b, hc => ⟨okvs_mono h a hc.1, okvs_mono h b hc.2⟩
  | .val _, hv => hv
theorem okvs_mono {n m : Nat} (h : n ≤ m) : ∀ l, okvs n l → okvs m l
  | [], _ => trivial
  | v :: vs, hv => ⟨okv_mono h v hv.1, okvs_mono h vs hv.2⟩
end

theorem adrVal_eq (a : Addr) (o : Nat) : adrVal a o = .pointer (some (a.add o)) := by
  cases o with
  | zero => simp [adrVal, Addr.add]
  | succ n => rfl
theorem add_add (a : Addr) (m n : Nat) : (a.add m).add n = a.add (m + n) := by
  unfold Addr.add
  by_cases hm : m = 0
  · subst hm; simp
  · by_cases hn : n = 0
    · subst hn; simp
    · rw [if_neg hm, if_neg hn, if_neg (by omega)]
      simp [Nat.add_assoc]

theorem scalar_cells {n : Nat} {β : List Nat} {v : SV} (h : okv n v) (hs : v.scalar = true) : (real β v).oneCell' = true ∧ (real β v).cells = #[real β v] := by
  cases v with
  | agg cs => cases hs
  | tup cs => cases hs
  | adr a o => rw [real, adrVal_eq]; exact ⟨rfl, rfl⟩
  | val v =>
    refine ⟨h, ?_⟩
    have h' : v.oneCell' = true := h
    cases v <;> first | rfl | cases h'
  | _ => exact ⟨rfl, rfl⟩
theorem flat_sound {n : Nat} {β : List Nat} {v : SV} (h : okv n v) : (real β v).cells = (reals β v.flat).toArray ∧ okvs n v.flat ∧ ((∀ cs, v ≠ .tup cs) → v.flat.all SV.scalar = true) := by
  cases v with
  | agg cs => exact ⟨rfl, h.1, fun _ => h.2⟩
  | tup cs => exact ⟨rfl, ⟨h, trivial⟩, fun hn => absurd rfl (hn cs)⟩
  | _ => exact ⟨(scalar_cells (β := β) h rfl).2, ⟨h, trivial⟩, fun _ => rfl⟩
theorem mem_one {n : Nat} {β : List Nat} {l : List SV} (h : okvs n l) (hs : l.all SV.scalar = true) : ∀ v ∈ reals β l, v.oneCell' = true := by
  intro v hv
  rw [reals_eq, List.mem_map] at hv
  obtain ⟨x, hx, rfl⟩ := hv
  exact (scalar_cells (okvs_iff.1 h x hx) (List.all_eq_true.1 hs x hx)).1

/-! ### Constants, operands -/

theorem ofScalar_sound {n : Nat} {β : List Nat} {v : Value} {a : SV} (h : ofScalar v = some a) : okv n a ∧ real β a = v ∧ a.scalar = true := by
  cases v with
  | bool b => cases h; exact ⟨trivial, rfl, rfl⟩
  | int k n => cases h; exact ⟨trivial, rfl, rfl⟩
  | string s => cases h; exact ⟨trivial, rfl, rfl⟩
  | pointer p => cases p with
    | none => cases h; exact ⟨trivial, rfl, rfl⟩
    | some p => cases h
  | slice p n c => cases p with
    | none => cases h; exact ⟨trivial, rfl, rfl⟩
    | some p => cases h
  | map r => cases r with
    | none => cases h; exact ⟨rfl, rfl, rfl⟩
    | some r => cases h
  | nilFunc => cases h; exact ⟨rfl, rfl, rfl⟩
  | nilIface => cases h; exact ⟨rfl, rfl, rfl⟩
  | _ => cases h
theorem ofScalars_sound {n : Nat} {β : List Nat} : ∀ {l : List Value} {as : List SV}, ofScalars l = some as → okvs n as ∧ reals β as = l ∧ as.all SV.scalar = true
  | [], as, h => by cases h; exact ⟨trivial, rfl, rfl⟩
  | v :: l, as, h => by
    simp only [ofScalars, Option.bind_eq_some_iff, Option.map_eq_some_iff] at h
    obtain ⟨a, ha, bs, hb, rfl⟩ := h
    obtain ⟨h1, h2, h3⟩ := ofScalar_sound (n := n) (β := β) ha
    obtain ⟨k1, k2, k3⟩ := ofScalars_sound (n := n) (β := β) hb
    exact ⟨⟨h1, k1⟩, by simp only [reals, h2, k2], by simp [h3, k3]⟩
theorem ofConst_else (v : Value) (h1 : ∀ cs, v ≠ .agg cs) (h2 : ∀ cs, v ≠ .tuple cs) : ofConst v = ofScalar v := by
  cases v <;> first | rfl | exact absurd rfl (h1 _) | exact absurd rfl (h2 _)
theorem ofConst_sound {n : Nat} {β : List Nat} {v : Value} {a : SV} (h : ofConst v = some a) : okv n a ∧ real β a = v := by
  cases v with
  | agg cs =>
    simp only [ofConst, Option.map_eq_some_iff] at h
    obtain ⟨as, h1, rfl⟩ := h
    obtain ⟨k1, k2, k3⟩ := ofScalars_sound (n := n) (β := β) h1
    exact ⟨⟨k1, k3⟩, by simp only [real, k2, Array.toArray_toList]⟩
  | tuple cs =>
    simp only [ofConst, Option.map_eq_some_iff] at h
    obtain ⟨as, h1, rfl⟩ := h
    obtain ⟨k1, k2, k3⟩ := ofScalars_sound (n := n) (β := β) h1
    exact ⟨k1, by simp only [real, k2, Array.toArray_toList]⟩
  | _ =>
    rw [ofConst_else _ (by intros; simp) (by intros; simp)] at h
    have := ofScalar_sound (n := n) (β := β) h
    exact ⟨this.1, this.2.1⟩

/-- The slots hold what is known of them. -/
def EnvOk (n : Nat) (β : List Nat) (T : Env) (tmps : Array Value) : Prop := ∀ t v, T.at t = some v → okv n v ∧ tmps.getD t undef = real β v

theorem at_set (T : Env) (d : Nat) (v : Option SV) (t : Nat) : Env.at (T.set d v) t = if t = d then v else T.at t := by
  unfold Env.at
  rw [Abs.Tr.get_set]
  by_cases h : t = d
  · simp only [if_pos h]; cases v <;> rfl
  · simp only [if_neg h]
theorem EnvOk.put {n : Nat} {β : List Nat} {T : Env} {tmps : Array Value} (h : EnvOk n β T tmps) {d : Tmp} (hd : d < tmps.size) {v : SV} (hv : okv n v) : EnvOk n β (T.set d (some v)) (tmps.setIfInBounds d (real β v)) := by
  intro t u hu
  rw [at_set] at hu
  by_cases ht : t = d
  · subst ht
    rw [if_pos rfl] at hu
    cases hu
    exact ⟨hv, by simp [hd]⟩
  · rw [if_neg ht] at hu
    obtain ⟨h1, h2⟩ := h t u hu
    exact ⟨h1, by rw [← h2]; simp [Array.getElem?_setIfInBounds_ne (Ne.symm ht)]⟩
/-- A slot of which nothing is known any more. -/
theorem EnvOk.kill {n : Nat} {β : List Nat} {T : Env} {tmps : Array Value} (h : EnvOk n β T tmps) (d : Tmp) : EnvOk n β (T.set d none) tmps := by
  intro t u hu
  rw [at_set] at hu
  by_cases ht : t = d
  · rw [if_pos ht] at hu; cases hu
  · rw [if_neg ht] at hu; exact h t u hu
/-- The truth of a condition has come to be known. -/
theorem EnvOk.known {n : Nat} {β : List Nat} {T : Env} {tmps : Array Value} (h : EnvOk n β T tmps) {d : Tmp} {e : BE} {b : Bool} (hd : T.at d = some (.bool e)) (hb : e.toB = b) : EnvOk n β (T.set d (some (.lit b))) tmps := by
  intro t u hu
  rw [at_set] at hu
  by_cases ht : t = d
  · rw [if_pos ht] at hu
    cases hu
    obtain ⟨_, h2⟩ := h d _ hd
    exact ⟨trivial, by rw [ht, h2]; simp only [real, hb]⟩
  · rw [if_neg ht] at hu; exact h t u hu
theorem EnvOk.alike {n m : Nat} {β β' : List Nat} {T : Env} {tmps : Array Value} (h : EnvOk n β T tmps) (hn : n ≤ m) (ha : Alike n β β') : EnvOk m β' T tmps := by
  intro t v hv
  obtain ⟨h1, h2⟩ := h t v hv
  exact ⟨okv_mono hn v h1, by rw [h2, real_alike ha v h1]⟩

theorem eval_sound {n : Nat} {β : List Nat} {T : Env} {a : Act} (hT : EnvOk n β T a.tmps) {x : Operand} {v : SV} (h : eval P T x = some v) : okv n v ∧ a.eval x = real β v := by
  cases x with
  | tmp t => exact hT t v h
  | const c =>
    obtain ⟨h1, h2⟩ := ofConst_sound (n := n) (β := β) (show ofConst c = some v from h)
    exact ⟨h1, h2.symm⟩
  | global g =>
    simp only [eval] at h
    split at h
    · cases h; exact ⟨trivial, rfl⟩
    · cases h
  | func f => cases h; exact ⟨⟨trivial, trivial⟩, rfl⟩
theorem evals_sound {n : Nat} {β : List Nat} {T : Env} {a : Act} (hT : EnvOk n β T a.tmps) : ∀ {xs : List Operand} {vs : List SV}, evals P T xs = some vs →
    okvs n vs ∧ xs.map a.eval = reals β vs
  | [], vs, h => by cases h; exact ⟨trivial, rfl⟩
  | x :: xs, vs, h => by
    simp only [evals, Option.bind_eq_some_iff, Option.map_eq_some_iff] at h
    obtain ⟨v, hv, us, hu, rfl⟩ := h
    obtain ⟨h1, h2⟩ := eval_sound hT hv
    obtain ⟨k1, k2⟩ := evals_sound hT hu
    exact ⟨⟨h1, k1⟩, by simp only [List.map_cons, reals, h2, k2]⟩

/-! ### Types -/

theorem run_sizeOf {t : TypeId} {n : Nat} (h : size? P t = some n) (w : World) : (sizeOf t).run P w = .ok n w := by
  unfold size? at h
  cases hi : P.info? t with
  | none => rw [hi] at h; cases h
  | some i => rw [hi] at h; cases h; simp [sizeOf, typeInfo, hi]
theorem run_isAgg {t : TypeId} {b : Bool} (h : isAgg? P t = some b) (w : World) : (isAgg t).run P w = .ok b w := by
  unfold isAgg? at h
  cases hu : P.underlying t with
  | none => rw [hu] at h; cases h
  | some d => rw [hu] at h; unfold isAgg; rw [Sem.run_bind, run_underlying hu w]; cases d <;> (cases h; rfl)
theorem run_zero {t : TypeId} {z : SV} (h : zero? P t = some z) (w : World) : ∃ v, (zeroValue t).run P w = .ok v w ∧ (∀ n β, okv n z ∧ real β z = v) ∧ z.flat.all SV.scalar = true ∧ ∃ i, P.info? t = some i ∧ i.zero = some v := by
  unfold zero? at h
  simp only [Option.bind_eq_some_iff] at h
  obtain ⟨i, hi, v, hv, z', hz, h⟩ := h
  split at h
  · rename_i hs
    cases h
    exact ⟨v, by simp [zeroValue, typeInfo, hi, hv], fun n β => ofConst_sound hz, hs, i, hi, hv⟩
  · cases h

/-! ### Forms of cells -/

theorem exV_elim : ∀ {s : List Sh} {K : List SV → Prop}, exV s K → ∃ xs, okvs 0 xs ∧ xs.all SV.scalar = true ∧ xs.length = s.length ∧ K xs
  | [], K, h => ⟨[], trivial, rfl, rfl, h⟩
  | .int k :: s, K, h => by
    obtain ⟨n, h⟩ := h
    obtain ⟨xs, h1, h2, h3, h4⟩ := exV_elim h
    exact ⟨.int k n :: xs, ⟨trivial, h1⟩, by simp [SV.scalar, h2], by simp [h3], h4⟩
  | .bool :: s, K, h => by
    obtain ⟨n, h⟩ := h
    obtain ⟨xs, h1, h2, h3, h4⟩ := exV_elim h
    exact ⟨.bool (.ok n) :: xs, ⟨trivial, h1⟩, by simp [SV.scalar, h2], by simp [h3], h4⟩
  | .str :: s, K, h => by
    obtain ⟨n, h⟩ := h
    obtain ⟨xs, h1, h2, h3, h4⟩ := exV_elim h
    exact ⟨.str n :: xs, ⟨trivial, h1⟩, by simp [SV.scalar, h2], by simp [h3], h4⟩
  | .ptr :: s, K, h => by
    obtain ⟨n, h⟩ := h
    obtain ⟨xs, h1, h2, h3, h4⟩ := exV_elim h
    exact ⟨.ptr n :: xs, ⟨trivial, h1⟩, by simp [SV.scalar, h2], by simp [h3], h4⟩
  | .sl :: s, K, h => by
    obtain ⟨p, n, c, h⟩ := h
    obtain ⟨xs, h1, h2, h3, h4⟩ := exV_elim h
    exact ⟨.sl p n c :: xs, ⟨trivial, h1⟩, by simp [SV.scalar, h2], by simp [h3], h4⟩
  | .val :: s, K, h => by
    obtain ⟨v, hv, h⟩ := h
    obtain ⟨xs, h1, h2, h3, h4⟩ := exV_elim h
    exact ⟨.val v :: xs, ⟨hv, h1⟩, by simp [SV.scalar, h2], by simp [h3], h4⟩
theorem shsOf_length : ∀ {l : List SV} {s : List Sh}, shsOf l = some s → s.length = l.length
  | [], s, h => by cases h; rfl
  | v :: l, s, h => by
    simp only [shsOf, Option.bind_eq_some_iff, Option.map_eq_some_iff] at h
    obtain ⟨a, _, r, hr, rfl⟩ := h
    simp [shsOf_length hr]

theorem kindEq_sound {a b : IntKind} (h : kindEq a b = true) : a = b := by
  cases a <;> cases b <;> first | rfl | cases h

end Go.Sy
