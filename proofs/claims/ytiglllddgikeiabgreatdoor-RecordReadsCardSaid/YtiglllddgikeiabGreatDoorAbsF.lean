/- An evaluator of Go code over an abstract memory, and the proof that each of its runs is a run of the model, whatever the tape. It holds for each program, without conditions. -/
import Derived.Test.YtiglllddgikeiabGreatDoorAbsA
import Derived.Test.YtiglllddgikeiabGreatDoorAbsD
namespace Go.Abs
noncomputable section

inductive R1 where
  | fail
  | ok (v : AVal) (h : Heap)
inductive R2 where
  | fail
  | ok (T : E2) (h : Heap)
inductive R3 where
  | fail
  | ok (T : E2) (h : Heap)
  | exit (i : Nat) (T : E2) (h : Heap)
  | ret (T : E2) (h : Heap)

def R1.of (r : Option (AVal × Heap)) : R1 := Option.rec R1.fail (fun r => Prod.rec (fun v h => R1.ok v h) r) r
def R1.opt (r : R1) : Option (AVal × Heap) := R1.rec none (fun v h => some (v, h)) r
def R1.ofH (v : Option AVal) (h : Heap) : R1 := Option.rec (motive := fun _ => Heap → R1) (fun _ => .fail) (fun v h => .ok v h) v h
abbrev CF := Fn → List AVal → Heap → R1
abbrev SF := Nat → (List AVal → Heap → R1) → CF
abbrev YF := Nat → List AVal → Heap → R1

/-! ### lists -/
def takeL (n : Nat) (l : List AVal) : List AVal := List.rec (motive := fun _ => Nat → List AVal) (fun _ => []) (fun a _ ih n => Nat.rec (motive := fun _ => AVal → (Nat → List AVal) → List AVal) (fun _ _ => []) (fun m _ a ih => a :: ih m) n a ih) l n
def dropL (n : Nat) (l : List AVal) : List AVal := Nat.rec (motive := fun _ => List AVal → List AVal) (fun l => l) (fun _ ih l => List.rec (motive := fun _ => (List AVal → List AVal) → List AVal) (fun _ => []) (fun _ l _ ih => ih l) l ih) n l
def appL (a b : List AVal) : List AVal := List.rec (motive := fun _ => List AVal → List AVal) (fun b => b) (fun x _ ih b => x :: ih b) a b
def lenL (l : List AVal) : Nat := List.rec (motive := fun _ => Nat) 0 (fun _ _ n => Nat.succ n) l
def nthL (l : List AVal) (n : Nat) : Option AVal := List.rec (motive := fun _ => Nat → Option AVal) (fun _ => none) (fun a _ ih n => Nat.rec (motive := fun _ => AVal → (Nat → Option AVal) → Option AVal) (fun a _ => some a) (fun m _ _ ih => ih m) n a ih) l n

/-! ### operands -/
def fev (x : Operand) (P : Program) (T : E2) : Option AVal :=
  Operand.rec (motive := fun _ => Program → E2 → Option AVal) (fun t _ T => E2.get T t) (fun v _ _ => ofValue v)
    (fun g P _ => Bool.rec none (some (.ptr (some ⟨g, 0, 0⟩))) (Nat.blt g P.globals.size)) (fun f _ _ => some (.func (.func f) [] [])) x P T
def fevs (xs : List Operand) (P : Program) (T : E2) : Option (List AVal) :=
  List.rec (motive := fun _ => Program → E2 → Option (List AVal)) (fun _ _ => some [])
    (fun x _ ih P T => Option.rec (motive := fun _ => Option (List AVal) → Option (List AVal)) (fun _ => none) (fun a r => Option.rec (motive := fun _ => AVal → Option (List AVal)) (fun _ => none) (fun as a => some (a :: as)) r a) (fev x P T) (ih P T)) xs P T

/-! ### memory -/
def fput (h : Heap) (f : Nat) (o : AObj) : Heap := Heap.rec (motive := fun _ => Nat → AObj → Heap) (fun objs next low f o => ⟨objs.setL f o, next, Bool.rec f low (Nat.ble low f)⟩) h f o
def fpush (h : Heap) (o : AObj) : Heap := Heap.rec (motive := fun _ => AObj → Heap) (fun objs next low o => ⟨objs.setL next o, Nat.succ next, low⟩) h o
def ffam (h : Heap) (f : Nat) : Option ACells := Heap.rec (motive := fun _ => Nat → Option ACells)
  (fun objs _ _ f => Option.rec none (fun o => AObj.rec (fun c => some c) (fun _ _ => none) (fun _ _ => none) (fun _ => none) o) (objs.getL f)) h f

/-- The size of a type, and whether it is an aggregate. -/
def shape? (P : Program) (t : TypeId) : Option (Nat × Bool) := (size? P t).bind fun n => (isAgg? P t).map fun b => (n, b)

/-- One cell. -/
def fcell (c : ACells) (g off : Nat) : Option AVal :=
  ACells.rec (motive := fun _ => Nat → Nat → Option AVal)
    (fun _ es size elems _ gen start _ _ _ g off => Bool.rec (motive := fun _ => Option AVal) none
      (Option.rec (motive := fun _ => Nat → Nat → Nat → Option AVal) (fun _ _ _ => none) (fun e r es g => Prod.rec (motive := fun _ => Nat → Nat → Nat → Option AVal)
        (fun vs lo r es g => Bool.rec (motive := fun _ => Option AVal) none (nthL vs r) (Bool.rec false (Nat.ble (Nat.succ r) es) (Nat.ble lo g))) e r es g) (elems.get (Nat.div off es)) (Nat.mod off es) es g)
      (Bool.rec false (Bool.rec false (Nat.ble (Nat.succ off) size) (Nat.ble start off)) (Nat.ble g gen))) c g off

def fload4 (s : Option (Nat × Bool)) (c : ACells) (g off : Nat) (h : Heap) : R1 :=
  Option.rec (motive := fun _ => ACells → Nat → Nat → Heap → R1) (fun _ _ _ _ => .fail)
    (fun s => Prod.rec (motive := fun _ => ACells → Nat → Nat → Heap → R1) (fun n b => Bool.rec (motive := fun _ => Nat → ACells → Nat → Nat → Heap → R1)
      (fun _ c g off h => R1.ofH (fcell c g off) h)
      (fun n c g off h => Bool.rec R1.fail (R1.ofH ((c.read g (n + 1) off n).map .agg) h) (c.canRead g off n)) b n) s) s c g off h
def fload3 (p : APtr) (t : TypeId) (P : Program) (h : Heap) : R1 :=
  APtr.rec (motive := fun _ => TypeId → Program → Heap → R1) (fun fam gen off t P h =>
    Option.rec (motive := fun _ => Nat → Nat → TypeId → Program → Heap → R1) (fun _ _ _ _ _ => .fail) (fun c gen off t P h => fload4 (shape? P t) c gen off h) (ffam h fam) gen off t P h) p t P h
def fload2 (a : AVal) : TypeId → Program → Heap → R1 := match a with
  | .ptr q => fun t P h => Option.rec (motive := fun _ => TypeId → Program → Heap → R1) (fun _ _ _ => .fail) fload3 q t P h
  | _ => fun _ _ _ => .fail
def fload (t : TypeId) (a : Operand) (P : Program) (T : E2) (h : Heap) : R1 :=
  Option.rec (motive := fun _ => TypeId → Program → Heap → R1) (fun _ _ _ => .fail) fload2 (fev a P T) t P h

def oneElem (n es : Nat) : Bool := Bool.rec false (Nat.beq n es) (Nat.blt 0 es)
def fwrite (c : ACells) (off : Nat) (vs : List AVal) : Option ACells :=
  ACells.rec (motive := fun _ => Nat → List AVal → Option ACells) (fun ety es size elems flex gen start frz mark ro off vs =>
    Bool.rec (motive := fun _ => Option ACells)
      (ACells.write ⟨ety, es, size, elems, flex, gen, start, frz, mark, ro⟩ off vs)
      (some ⟨ety, es, size, elems.set (Nat.div off es) (vs, gen), flex, gen, start, frz, mark, ro⟩)
      (Bool.rec false (oneElem (lenL vs) es) (Nat.beq (Nat.mod off es) 0))) c off vs
/-- A cell of a greater element. -/
def fwrite1 (c : ACells) (off : Nat) (v : AVal) : Option ACells :=
  ACells.rec (motive := fun _ => Nat → AVal → Option ACells) (fun ety es size elems flex gen start frz mark ro off v =>
    Bool.rec (motive := fun _ => Option ACells)
      (Option.rec (motive := fun _ => Option ACells) none (fun e => Prod.rec (motive := fun _ => Option ACells) (fun old lo => Bool.rec none
        (some ⟨ety, es, size, elems.set (Nat.div off es) (appL (takeL (Nat.mod off es) old) (v :: dropL (Nat.succ (Nat.mod off es)) old), gen), flex, gen, start, frz, mark, ro⟩) (Bool.rec false (Nat.ble (Nat.succ (Nat.mod off es)) es) (Nat.ble lo gen))) e) (elems.get (Nat.div off es)))
      (some ⟨ety, es, size, elems.set off ([v], gen), flex, gen, start, frz, mark, ro⟩)
      (Nat.beq es 1)) c off v
def fcanWrite (c : ACells) (g off n : Nat) : Bool := ACells.rec (motive := fun _ => Nat → Nat → Nat → Bool) (fun _ _ size _ _ gen start frz _ ro g off n =>
  Bool.rec false (Bool.rec false (Bool.rec false (Bool.rec false (Bool.rec true false ro) (Nat.ble frz off)) (Nat.ble (Nat.add off n) size)) (Nat.ble start off)) (Nat.beq g gen)) c g off n

def fstoreC (c' : Option ACells) (fam : Nat) (h : Heap) : R1 :=
  Option.rec (motive := fun _ => Nat → Heap → R1) (fun _ _ => .fail) (fun c fam h => .ok (.tuple []) (fput h fam (.cells c))) c' fam h
/-- A scalar. -/
def fstore1 (v : AVal) (n : Nat) (c : ACells) (fam gen off : Nat) (h : Heap) : R1 :=
  Bool.rec (motive := fun _ => R1) .fail (fstoreC (fwrite1 c off v) fam h) (Bool.rec false (fcanWrite c gen off n) (Nat.beq n 1))
def fstoreN (vs : List AVal) (n : Nat) (c : ACells) (fam gen off : Nat) (h : Heap) : R1 :=
  Bool.rec (motive := fun _ => R1) .fail (fstoreC (fwrite c off vs) fam h) (Bool.rec false (fcanWrite c gen off n) (Nat.beq (lenL vs) n))
def fstore4 (v : AVal) : Nat → ACells → Nat → Nat → Nat → Heap → R1 := match v with
  | .agg vs => fstoreN vs
  | .tuple _ => fun _ _ _ _ _ _ => .fail
  | v => fstore1 v
def fstore3 (p : APtr) (v : AVal) (t : TypeId) (P : Program) (h : Heap) : R1 :=
  APtr.rec (motive := fun _ => AVal → TypeId → Program → Heap → R1) (fun fam gen off v t P h =>
    Option.rec (motive := fun _ => Nat → Nat → Nat → AVal → TypeId → Program → Heap → R1) (fun _ _ _ _ _ _ _ => .fail)
      (fun c fam gen off v t P h => Option.rec (motive := fun _ => ACells → Nat → Nat → Nat → AVal → Heap → R1) (fun _ _ _ _ _ _ => .fail) (fun n c fam gen off v h => fstore4 v n c fam gen off h) (size? P t) c fam gen off v h) (ffam h fam) fam gen off v t P h) p v t P h
def fstore2 (a : AVal) : AVal → TypeId → Program → Heap → R1 := match a with
  | .ptr q => fun v t P h => Option.rec (motive := fun _ => AVal → TypeId → Program → Heap → R1) (fun _ _ _ _ => .fail) fstore3 q v t P h
  | _ => fun _ _ _ _ => .fail
def fstore (t : TypeId) (a x : Operand) (P : Program) (T : E2) (h : Heap) : R1 :=
  Option.rec (motive := fun _ => Option AVal → TypeId → Program → Heap → R1) (fun _ _ _ _ => .fail)
    (fun a v t P h => Option.rec (motive := fun _ => AVal → TypeId → Program → Heap → R1) (fun _ _ _ _ => .fail) (fun v a t P h => fstore2 a v t P h) v a t P h) (fev a P T) (fev x P T) t P h

/-! ### the commonest operations -/
def fmove (x : Operand) (P : Program) (T : E2) (h : Heap) : R1 := R1.ofH (fev x P T) h

/-- Where a field lies. -/
def fieldAt? (P : Program) (s : TypeId) (i : Nat) : Option Nat := match P.underlying s with
  | some (.struct fields) => (fields[i]?).bind fun f => (size? P f.type).bind fun n => match Nat.blt 0 n with
    | true => some f.offset
    | false => none
  | _ => none
def ffieldAddr3 (p : APtr) (o : Nat) (h : Heap) : R1 := APtr.rec (motive := fun _ => Nat → Heap → R1) (fun fam gen off o h => .ok (.ptr (some ⟨fam, gen, Nat.add off o⟩)) h) p o h
def ffieldAddr2 (a : AVal) : Option Nat → Heap → R1 := match a with
  | .ptr q => fun o h => Option.rec (motive := fun _ => Option Nat → Heap → R1) (fun _ _ => .fail) (fun p o h => Option.rec (motive := fun _ => APtr → Heap → R1) (fun _ _ => .fail) (fun o p h => ffieldAddr3 p o h) o p h) q o h
  | _ => fun _ _ => .fail
def ffieldAddr (s : TypeId) (x : Operand) (i : Nat) (P : Program) (T : E2) (h : Heap) : R1 :=
  Option.rec (motive := fun _ => TypeId → Nat → Program → Heap → R1) (fun _ _ _ _ => .fail) (fun a s i P h => ffieldAddr2 a (fieldAt? P s i) h) (fev x P T) s i P h

/-- For an index: how many elements there may be, how large they are; or that the type is a slice's. -/
def elemsAt? (P : Program) (t : TypeId) : Option (Option Nat × Nat) := match P.underlying t with
  | some (.array len e) => (size? P e).map fun s => (some len, s)
  | some (.slice e) => (size? P e).map fun s => (none, s)
  | _ => none
def findexAt (p : APtr) (k : Option Nat) (s : Nat) (h : Heap) : R1 := Option.rec (motive := fun _ => APtr → Nat → Heap → R1) (fun _ _ _ => .fail)
  (fun k p s h => APtr.rec (motive := fun _ => Nat → Nat → Heap → R1) (fun fam gen off k s h => .ok (.ptr (some ⟨fam, gen, Nat.add off (Nat.mul k s)⟩)) h) p k s h) k p s h
def findexAddr3 (x : AVal) : Option Nat → Nat → Int → Heap → R1 := match x with
  | .ptr (some p) => fun l s n h => Option.rec (motive := fun _ => APtr → Nat → Int → Heap → R1) (fun _ _ _ _ => .fail) (fun len p s n h => findexAt p (natOf n len) s h) l p s n h
  | .slice (some p) len _ => fun l s n h => Option.rec (motive := fun _ => APtr → Nat → Nat → Int → Heap → R1) (fun p len s n h => findexAt p (natOf n len) s h) (fun _ _ _ _ _ _ => .fail) l p len s n h
  | _ => fun _ _ _ _ => .fail
def findexAddr2 (i : AVal) : AVal → Option (Option Nat × Nat) → Heap → R1 := match i with
  | .int _ n => fun x e h => Option.rec (motive := fun _ => AVal → Int → Heap → R1) (fun _ _ _ => .fail) (fun e x n h => Prod.rec (motive := fun _ => AVal → Int → Heap → R1) (fun l s x n h => findexAddr3 x l s n h) e x n h) e x n h
  | _ => fun _ _ _ => .fail
def findexAddr (t : TypeId) (x i : Operand) (P : Program) (T : E2) (h : Heap) : R1 :=
  Option.rec (motive := fun _ => Option AVal → TypeId → Program → Heap → R1) (fun _ _ _ _ => .fail)
    (fun x i t P h => Option.rec (motive := fun _ => AVal → TypeId → Program → Heap → R1) (fun _ _ _ _ => .fail) (fun i x t P h => findexAddr2 i x (elemsAt? P t) h) i x t P h) (fev x P T) (fev i P T) t P h

/-! ### integers -/
def fkeq (a b : IntKind) : Bool := Nat.beq a.ctorIdx b.ctorIdx
def fint2 (op : BinOp) (k : IntKind) (a : Int) (k' : IntKind) (b : Int) (h : Heap) : R1 := R1.ofH (intOp op k a k' b) h
def fbin3 (b : AVal) : BinOp → TypeId → Operand → Operand → AVal → Program → Heap → R1 := match b with
  | .int k' n => fun op t x y a P h => (match a with
    | .int k m => fun op _ _ _ k' n _ h => fint2 op k m k' n h
    | a => fun op t x y k' n P h => R1.ofH (binOp P op t x y a (.int k' n) h) h : BinOp → TypeId → Operand → Operand → IntKind → Int → Program → Heap → R1) op t x y k' n P h
  | b => fun op t x y a P h => R1.ofH (binOp P op t x y a b h) h
def fbinOp (op : BinOp) (t : TypeId) (x y : Operand) (P : Program) (T : E2) (h : Heap) : R1 :=
  Option.rec (motive := fun _ => Option AVal → BinOp → TypeId → Operand → Operand → Program → Heap → R1) (fun _ _ _ _ _ _ _ => .fail)
    (fun a b op t x y P h => Option.rec (motive := fun _ => AVal → BinOp → TypeId → Operand → Operand → Program → Heap → R1) (fun _ _ _ _ _ _ _ => .fail) (fun b a op t x y P h => fbin3 b op t x y a P h) b a op t x y P h)
    (fev x P T) (fev y P T) op t x y P h

def fextract (x : Operand) (i : Nat) (P : Program) (T : E2) (h : Heap) : R1 :=
  Option.rec (motive := fun _ => Nat → Heap → R1) (fun _ _ => .fail) (fun a => match a with
    | .tuple vs => fun i h => R1.ofH (nthL vs i) h
    | _ => fun _ _ => .fail) (fev x P T) i h

/-! ### calls -/
def fcallFn (fn : Fn) : List AVal → List AVal → List AVal → CF → Heap → R1 := match fn with
  | .func g => fun first cap args cF h => cF (.func g) (appL (appL first args) cap) h
  | .yield i => fun first cap args cF h => List.rec (motive := fun _ => List AVal → List AVal → CF → Heap → R1) (fun first args cF h => cF (.yield i) (appL first args) h) (fun _ _ _ _ _ _ _ => .fail) cap first args cF h
  | _ => fun _ _ _ _ _ => .fail
def fcallV (f : AVal) : List AVal → CF → Heap → R1 := match f with
  | .func fn first cap => fun args cF h => fcallFn fn first cap args cF h
  | _ => fun _ _ _ => .fail
def fcallee (c : Callee) (ts : Array TypeId) (args : List AVal) (P : Program) (cF : CF) (T : E2) (h : Heap) : R1 :=
  Callee.rec (motive := fun _ => Array TypeId → List AVal → Program → CF → E2 → Heap → R1)
    (fun f _ args P cF T h => Option.rec (motive := fun _ => List AVal → CF → Heap → R1) (fun _ _ _ => .fail) fcallV (fev f P T) args cF h)
    (fun _ _ _ _ _ _ _ _ => .fail) (fun b ts args P _ _ h => R1.of (builtin P b ts args h)) c ts args P cF T h
def fcallOp (c : Call) (P : Program) (cF : CF) (T : E2) (h : Heap) : R1 :=
  Option.rec (motive := fun _ => Call → Program → CF → E2 → Heap → R1) (fun _ _ _ _ _ => .fail) (fun args c P cF T h => fcallee c.callee c.argTypes args P cF T h) (fevs c.args.toList P T) c P cF T h

/-- What an operation does. -/
def foper (o : Op) (P : Program) (cF : CF) (T : E2) (h : Heap) : R1 :=
  Op.rec (motive := fun _ => Program → CF → E2 → Heap → R1)
    (fun x P _ T h => fmove x P T h)
    (fun x P _ T h => fmove x P T h)
    (fun c a b P _ T h => R1.of (at_pick P c a b T h))
    (fun t P _ T h => R1.of (at_alloc P t T h))
    (fun t x P _ T h => R1.of (at_box P t x T h))
    (fun t ps P _ T h => R1.of (at_build P t ps T h))
    (fun t n ps P _ T h => R1.of (at_buildSlice P t n ps T h))
    (fun _ _ _ _ _ _ _ _ => .fail)
    (fun t a P _ T h => fload t a P T h)
    (fun t a x P _ T h => fstore t a x P T h)
    (fun _ _ _ _ _ => .fail)
    (fun _ _ _ _ _ => .fail)
    (fun x P _ T h => R1.of (at_nilCheck P x T h))
    (fun op t x y _ P _ T h => fbinOp op t x y P T h)
    (fun op _ x P _ T h => R1.of (at_unOp P op x T h))
    (fun s d x P _ T h => R1.of (at_convert P s d x T h))
    (fun _ _ _ _ _ _ => .fail)
    (fun t x P _ T h => R1.of (at_makeInterface P t x T h))
    (fun fn first cap P _ T h => R1.of (at_makeFunc P fn first cap T h))
    (fun t r P _ T h => R1.of (at_makeMap P t r T h))
    (fun _ _ _ _ _ _ => .fail)
    (fun t l c P _ T h => R1.of (at_makeSlice P t l c T h))
    (fun t x lo hi mx P _ T h => R1.of (at_slice P t x lo hi mx T h))
    (fun s x i P _ T h => ffieldAddr s x i P T h)
    (fun s x i P _ T h => R1.of (at_field P s x i T h))
    (fun t x i P _ T h => findexAddr t x i P T h)
    (fun t x i P _ T h => R1.of (at_index P t x i T h))
    (fun t x i ok P _ T h => R1.of (at_lookup P t x i ok T h))
    (fun t m k v P _ T h => R1.of (at_mapUpdate P t m k v T h))
    (fun _ _ _ _ _ _ _ => .fail)
    (fun _ _ _ _ _ _ _ _ => .fail)
    (fun t x P _ T h => R1.of (at_range P t x T h))
    (fun x b P _ T h => R1.of (at_next P x b T h))
    (fun _ _ _ _ _ => .fail)
    (fun _ _ _ _ _ _ _ _ => .fail)
    (fun x i P _ T h => fextract x i P T h)
    (fun c P cF T h => fcallOp c P cF T h)
    (fun _ _ _ _ _ => .fail)
    (fun _ _ _ _ _ => .fail)
    (fun _ _ _ _ _ => .fail)
    (fun _ _ _ _ _ _ => .fail)
    (fun _ _ _ _ _ _ _ => .fail)
    (fun _ _ _ _ _ _ => .fail) o P cF T h

/-! ### regions -/
/-- Whether a guard lets an operation run. -/
def fwant (ops : Array Oper) (T : E2) (g : Nat × Bool) : Option Bool := wanted ops T { dst := none, op := .move (.tmp 0), type := 0, pos := "", after := #[], guard := some g }
def fputD (d : Option Tmp) (T : E2) (v : AVal) : E2 := Option.rec (motive := fun _ => E2 → AVal → E2) (fun T _ => T) (fun d T v => E2.set T d v) d T v
def ffin2 (low : Nat) (objs : L4) (n : Nat) (d : Option Tmp) (T : E2) (v : AVal) : R2 :=
  Nat.rec (motive := fun _ => L4 → Nat → Option Tmp → E2 → AVal → R2) (fun objs n d T v => .ok (fputD d T v) ⟨objs, n, 0⟩) (fun m _ objs n d T v => .ok (fputD d T v) ⟨objs, n, Nat.succ m⟩) low objs n d T v
def ffin1 (next : Nat) (low : Nat) (objs : L4) (d : Option Tmp) (T : E2) (v : AVal) : R2 :=
  Nat.rec (motive := fun _ => Nat → L4 → Option Tmp → E2 → AVal → R2) (fun low objs d T v => ffin2 low objs 0 d T v) (fun m _ low objs d T v => ffin2 low objs (Nat.succ m) d T v) next low objs d T v
def ffin (h : Heap) (n0 : Nat) (d : Option Tmp) (T : E2) (v : AVal) : R2 :=
  Heap.rec (motive := fun _ => Nat → Option Tmp → E2 → AVal → R2) (fun objs next low n0 d T v => Bool.rec (motive := fun _ => R2) .fail (ffin1 next low objs d T v) (Nat.ble n0 next)) h n0 d T v
def frun (d : Option Tmp) (op : Op) (P : Program) (cF : CF) (T : E2) (h : Heap) : R2 :=
  R1.rec (motive := fun _ => Nat → Option Tmp → E2 → R2) (fun _ _ _ => .fail) (fun v h' n0 d T => ffin h' n0 d T v) (foper op P cF T h) h.next d T
def fopAt (o : Oper) (all : Array Oper) (P : Program) (cF : CF) (T : E2) (h : Heap) : R2 :=
  Oper.rec (motive := fun _ => Array Oper → Program → CF → E2 → Heap → R2) (fun dst op _ _ _ guard all P cF T h =>
    Option.rec (motive := fun _ => Option Tmp → Op → Array Oper → Program → CF → E2 → Heap → R2) (fun dst op _ P cF T h => frun dst op P cF T h)
      (fun g dst op all P cF T h => Option.rec (motive := fun _ => Option Tmp → Op → Program → CF → E2 → Heap → R2) (fun _ _ _ _ _ _ => .fail)
        (fun b => Bool.rec (motive := fun _ => Option Tmp → Op → Program → CF → E2 → Heap → R2) (fun dst _ _ _ T h => .ok (fputD dst T (.tuple [])) h) frun b) (fwant all T g) dst op P cF T h)
      guard dst op all P cF T h) o all P cF T h
def fops (l : List Oper) (all : Array Oper) (P : Program) (cF : CF) (T : E2) (h : Heap) : R2 :=
  List.rec (motive := fun _ => Array Oper → Program → CF → E2 → Heap → R2) (fun _ _ _ T h => .ok T h)
    (fun o _ ih all P cF T h => R2.rec (motive := fun _ => (Array Oper → Program → CF → E2 → Heap → R2) → Array Oper → Program → CF → R2) (fun _ _ _ _ => .fail) (fun T h ih all P cF => ih all P cF T h) (fopAt o all P cF T h) ih all P cF) l all P cF T h

/-- The end of one operation of a region that draws its order. -/
def ffinD (h' : Heap) (h : Heap) (loud : Bool) (d : Option Tmp) (T : E2) (v : AVal) : R2 :=
  Heap.rec (motive := fun _ => Heap → Bool → Option Tmp → E2 → AVal → R2) (fun objs next low h loud d T v =>
    Bool.rec (motive := fun _ => R2) .fail (ffin1 next (Bool.rec low h.low (Nat.ble h.low low)) objs d T v) (Bool.rec false (Bool.rec loud true (Nat.ble h.next low)) (Nat.ble h.next next))) h' h loud d T v
def frunD (d : Option Tmp) (op : Op) (loud : Bool) (P : Program) (cF : CF) (T : E2) (h : Heap) : R2 :=
  R1.rec (motive := fun _ => Heap → Bool → Option Tmp → E2 → R2) (fun _ _ _ _ => .fail) (fun v h' h loud d T => ffinD h' h loud d T v) (foper op P cF T (Heap.rec (fun objs next _ => ⟨objs, next, next⟩) h)) h loud d T
def fopAtD (o : Oper) (all : Array Oper) (i : Nat) (P : Program) (cF : CF) (T : E2) (h : Heap) : R2 :=
  Oper.rec (motive := fun _ => Array Oper → Nat → Program → CF → E2 → Heap → R2) (fun dst op _ _ _ guard all i P cF T h =>
    Option.rec (motive := fun _ => Option Tmp → Op → Array Oper → Nat → Program → CF → E2 → Heap → R2) (fun dst op all i P cF T h => frunD dst op (loudOk all i) P cF T h)
      (fun g dst op all i P cF T h => Option.rec (motive := fun _ => Option Tmp → Op → Array Oper → Nat → Program → CF → E2 → Heap → R2) (fun _ _ _ _ _ _ _ _ => .fail)
        (fun b => Bool.rec (motive := fun _ => Option Tmp → Op → Array Oper → Nat → Program → CF → E2 → Heap → R2) (fun dst _ _ _ _ _ T h => .ok (fputD dst T (.tuple [])) h) (fun dst op all i P cF T h => frunD dst op (loudOk all i) P cF T h) b) (fwant all T g) dst op all i P cF T h)
      guard dst op all i P cF T h) o all i P cF T h
abbrev FD := Nat → Reads1 → Snaps → Array Oper → Program → CF → E2 → Heap → R2
def fgoD (x : Option (Reads1 × Snaps)) (ih : FD) (i : Nat) (all : Array Oper) (P : Program) (cF : CF) (T : E2) (h : Heap) : R2 :=
  Option.rec (motive := fun _ => FD → Nat → Array Oper → Program → CF → E2 → Heap → R2) (fun _ _ _ _ _ _ _ => .fail)
    (fun x ih i all P cF T h => Prod.rec (motive := fun _ => FD → Nat → Array Oper → Program → CF → E2 → Heap → R2) (fun rs ss ih i all P cF T h => ih (Nat.succ i) rs ss all P cF T h) x ih i all P cF T h) x ih i all P cF T h
def fopsD (l : List Oper) (i : Nat) (rs : Reads1) (ss : Snaps) (all : Array Oper) (P : Program) (cF : CF) (T : E2) (h : Heap) : R2 :=
  List.rec (motive := fun _ => FD) (fun _ _ _ _ _ _ T h => .ok T h)
    (fun o _ ih i rs ss all P cF T h => R2.rec (motive := fun _ => Oper → FD → Nat → Reads1 → Snaps → Array Oper → Program → CF → E2 → Heap → R2) (fun _ _ _ _ _ _ _ _ _ _ => .fail)
      (fun T' h' o ih i rs ss all P cF T h => fgoD (behindD P all o i rs ss T h h') ih i all P cF T' h') (fopAtD o all i P cF T h) o ih i rs ss all P cF T h) l i rs ss all P cF T h

/-! ### code -/
abbrev FK := E2 → Heap → R3
def fthen (r : R3) (k : FK) : R3 := R3.rec (motive := fun _ => FK → R3) (fun _ => .fail) (fun T h k => k T h) (fun i T h _ => .exit i T h) (fun T h _ => .ret T h) r k
def fiter (f : FK) (d : Nat) : FK := Nat.rec (motive := fun _ => FK → FK) (fun f => f) (fun _ ih f T h => fthen (ih f T h) (ih f)) d f
def fupto (f : FK) (n : Nat) (k : Nat) (T : E2) (h : Heap) : R3 := Nat.rec (motive := fun _ => FK → Nat → E2 → Heap → R3) (fun _ _ _ _ => .fail) (fun _ ih f k T h => fthen (fiter f k T h) (ih f (Nat.succ k))) n f k T h
def fblock (id : Nat) (r : R3) : R3 := R3.rec (motive := fun _ => Nat → R3) (fun _ => .fail) (fun T h _ => .ok T h) (fun i T h id => Bool.rec (.exit i T h) (.ok T h) (Nat.beq i id)) (fun T h _ => .ret T h) r id
def fcond2 (c : AVal) : FK → FK → E2 → Heap → R3 := match c with
  | .bool b => fun x y T h => Bool.rec (motive := fun _ => FK → FK → E2 → Heap → R3) (fun _ y T h => y T h) (fun x _ T h => x T h) b x y T h
  | _ => fun _ _ _ _ => .fail
def fcond (c : Option AVal) (x y : FK) (T : E2) (h : Heap) : R3 := Option.rec (motive := fun _ => FK → FK → E2 → Heap → R3) (fun _ _ _ _ => .fail) fcond2 c x y T h
def R2.up (r : R2) : R3 := R2.rec .fail (fun T h => .ok T h) r
def fregion (l : Array Oper) (draw : Bool) (P : Program) (cF : CF) (T : E2) (h : Heap) : R3 :=
  Bool.rec (motive := fun _ => Array Oper → Program → CF → E2 → Heap → R3) (fun l P cF T h => R2.up (fops l.toList l P cF T h)) (fun l P cF T h => R2.up (fopsD l.toList 0 [] [] l P cF T h)) draw l P cF T h
/-- A round of a loop over a function. -/
def fset (ps : List Tmp) (T : E2) (args : List AVal) : Option E2 := match ps with
  | [p] => match args with
    | [x] => some (E2.set T p x)
    | _ => none
  | [p, q] => match args with
    | [x, y] => some (E2.set (E2.set T p x) q y)
    | _ => none
  | _ => none
def fround (fa fb : FK) (ps : List Tmp) (T : E2) (args : List AVal) (h : Heap) : R1 :=
  Option.rec (motive := fun _ => FK → FK → Heap → R1) (fun _ _ _ => .fail)
    (fun T fa fb h => R3.rec (motive := fun _ => R1) .fail (fun _ h => .ok (.bool true) h) (fun _ _ _ => .fail) (fun _ _ => .fail) (fthen (fa T h) fb)) (fset ps T args) fa fb h
def frange2 (r : R1) (n : Nat) (T : E2) : R3 := R1.rec (motive := fun _ => Nat → E2 → R3) (fun _ _ => .fail) (fun _ h' n T => Bool.rec (motive := fun _ => R3) .fail (.ok T h') (Nat.ble (Nat.succ n) h'.next)) r n T
def frange1 (g : AVal) (ps : List Tmp) (P : Program) (sF : SF) (fa fb : FK) (T : E2) (h : Heap) : R3 := match g with
  | .func (.func gf) first cap => Bool.rec (motive := fun _ => R3) .fail (frange2 (sF h.next (fround fa fb ps T) (.func gf) (appL first (.func (.yield h.next) [] [] :: cap)) ⟨h.objs, Nat.succ h.next, h.low⟩) h.next T) (enters P gf)
  | _ => .fail
def frange (g : Option AVal) (ps : List Tmp) (P : Program) (sF : SF) (fa fb : FK) (T : E2) (h : Heap) : R3 := match g with
  | some g => frange1 g ps P sF fa fb T h
  | none => .fail
def fcode (c : Code) (P : Program) (cF : CF) (sF : SF) : FK :=
  Code.rec (motive := fun _ => Program → CF → SF → E2 → Heap → R3)
    (fun _ _ _ T h => .ok T h)
    (fun _ l draw P cF _ T h => fregion l draw P cF T h)
    (fun _ _ fa fb P cF sF T h => fthen (fa P cF sF T h) (fb P cF sF))
    (fun c _ _ fa fb P cF sF T h => fcond (fev c P T) (fa P cF sF) (fb P cF sF) T h)
    (fun id _ f P cF sF T h => fblock id (f P cF sF T h))
    (fun _ f P cF sF T h => fupto (f P cF sF) 20 0 T h)
    (fun g ps _ _ fa fb P cF sF T h => frange (fev g P T) ps.toList P sF (fa P cF sF) (fb P cF sF) T h)
    (fun id _ _ _ T h => .exit id T h)
    (fun _ _ _ _ _ _ _ => .fail)
    (fun _ _ _ _ _ _ => .fail)
    (fun _ _ _ _ _ _ => .fail)
    (fun _ _ _ T h => .ret T h)
    (fun _ _ _ _ _ _ => .fail) c P cF sF
def ffinish (fn : Func) (r : R3) (P : Program) : R1 := R3.rec (motive := fun _ => Func → Program → R1) (fun _ _ => .fail) (fun T h fn P => R1.ofH (resultOf P fn T h) h) (fun _ _ _ _ _ => .fail) (fun T h fn P => R1.ofH (resultOf P fn T h) h) r fn P
def fenterAt (args : List AVal) (i : Nat) (T : E2) : E2 := List.rec (motive := fun _ => Nat → E2 → E2) (fun _ T => T) (fun a _ ih i T => ih (Nat.succ i) (E2.set T i a)) args i T
def fnAt (P : Program) (f : FuncId) : Option Func := P.funcs[f]?
def fbody (fn : Func) (args : List AVal) (P : Program) (cF : CF) (sF : SF) (h : Heap) : R1 :=
  Option.rec (motive := fun _ => Func → List AVal → Program → CF → SF → Heap → R1) (fun fn args P _ _ h => R1.of (extern P fn args h)) (fun c fn args P cF sF h => ffinish fn (fcode c P cF sF (fenterAt args 0 E2.leaf) h) P) fn.body fn args P cF sF h
def fstep (ok : Nat) (P : Program) (cF : CF) (sF : SF) (f : FuncId) (args : List AVal) (h : Heap) : R1 :=
  Bool.rec (motive := fun _ => R1) .fail (Option.rec (motive := fun _ => List AVal → Program → CF → SF → Heap → R1) (fun _ _ _ _ _ => .fail) fbody (fnAt P f) args P cF sF h) (Nat.testBit ok f)
def fext (Y : YF) (i : Nat) (hd : List AVal → Heap → R1) : YF := fun f args h => Bool.rec (motive := fun _ => R1) (Y f args h) (hd args h) (Nat.beq f i)
def fwith (ih : Program → Nat → YF → CF) (P : Program) (ok : Nat) (Y : YF) (fn : Fn) : List AVal → Heap → R1 := match fn with
  | .func f => fun args h => fstep ok P (ih P ok Y) (fun i hd => ih P ok (fext Y i hd)) f args h
  | .yield i => fun args h => Y i args h
  | _ => fun _ _ => .fail
/-- Only functions whose bit is set in 'ok' are entered. -/
def fcallY (P : Program) (ok d : Nat) (Y : YF) : CF := Nat.rec (motive := fun _ => Program → Nat → YF → CF) (fun _ _ _ _ _ _ => .fail) (fun _ ih P ok Y fn args h => fwith ih P ok Y fn args h) d P ok Y
def fcall (P : Program) (ok d : Nat) (f : FuncId) : List AVal → Heap → R1 := fcallY P ok d (fun _ _ _ => .fail) (.func f)
def R1.val (r : R1) : Option AVal := R1.rec none (fun v _ => some v) r
end
end Go.Abs

namespace Go.Abs
variable {P : Program}

theorem opt_of (r : Option (AVal × Heap)) : (R1.of r).opt = r := by
  cases r with
  | none => rfl
  | some r => cases r; rfl
theorem opt_ofH (v : Option AVal) (h : Heap) : (R1.ofH v h).opt = ret v h := by cases v <;> rfl

theorem takeL_eq : ∀ (l : List AVal) (n : Nat), takeL n l = l.take n
  | [], n => by cases n <;> rfl
  | a :: l, 0 => rfl
  | a :: l, n + 1 => by rw [List.take_succ_cons, ← takeL_eq l n]; rfl
theorem dropL_eq : ∀ (n : Nat) (l : List AVal), dropL n l = l.drop n
  | 0, l => by cases l <;> rfl
  | n + 1, [] => rfl
  | n + 1, a :: l => by rw [List.drop_succ_cons, ← dropL_eq n l]; rfl
theorem appL_eq : ∀ (a b : List AVal), appL a b = a ++ b
  | [], b => rfl
  | x :: a, b => by rw [List.cons_append, ← appL_eq a b]; rfl
theorem lenL_eq : ∀ l : List AVal, lenL l = l.length
  | [] => rfl
  | a :: l => by rw [List.length_cons, ← lenL_eq l]; rfl
theorem nthL_eq : ∀ (l : List AVal) (n : Nat), nthL l n = l[n]?
  | [], n => by rw [List.getElem?_nil]; rfl
  | a :: l, 0 => rfl
  | a :: l, n + 1 => by rw [List.getElem?_cons_succ, ← nthL_eq l n]; rfl

theorem fev_eq (x : Operand) (T : E2) : fev x P T = eval P T x := by cases x <;> rfl
theorem fevs_eq (T : E2) : ∀ xs : List Operand, fevs xs P T = evals P T xs
  | [] => rfl
  | x :: xs => by
    have h : fevs (x :: xs) P T = (Option.rec (motive := fun _ => Option (List AVal) → Option (List AVal)) (fun _ => none) (fun a r => Option.rec (motive := fun _ => AVal → Option (List AVal)) (fun _ => none) (fun as a => some (a :: as)) r a) (fev x P T) (fevs xs P T)) := rfl
    rw [h, fev_eq, fevs_eq T xs, evals]
    cases eval P T x with
    | none => rfl
    | some a => cases evals P T xs <;> rfl

theorem fput_eq (h : Heap) (f : Nat) (o : AObj) : fput h f o = h.put f o := by
  cases h with
  | mk objs next low =>
    show Heap.mk _ _ _ = Heap.mk _ _ _
    congr 1
    show (Bool.rec f low (Nat.ble low f) : Nat) = match Nat.ble low f with | true => low | false => f
    cases Nat.ble low f <;> rfl
theorem fpush_eq (h : Heap) (o : AObj) : fpush h o = h.push o := by cases h; rfl
theorem ffam_eq (h : Heap) (f : Nat) : ffam h f = h.fam f := by
  cases h with
  | mk objs next low =>
    show (Option.rec none (fun o => AObj.rec (fun c => some c) (fun _ _ => none) (fun _ _ => none) (fun _ => none) o) (objs.getL f) : Option ACells) = Heap.fam ⟨objs, next, low⟩ f
    unfold Heap.fam
    cases objs.getL f with
    | none => rfl
    | some o => cases o <;> rfl

theorem and_rec (a b : Bool) : (Bool.rec false b a : Bool) = (a && b) := by cases a <;> rfl

theorem head_drop (vs : List AVal) (r : Nat) : (List.take 1 (vs.drop r)).head? = vs[r]? := by
  rw [List.head?_take]
  simp [List.head?_drop]

theorem fcell_eq (c : ACells) (g off : Nat) : fcell c g off = match c.canRead g off 1 with
    | true => (c.read g 2 off 1).bind fun vs => vs.head?
    | false => none := by
  cases c with
  | mk ety es size elems flex gen start frz mark ro =>
    have hcr : (ACells.mk ety es size elems flex gen start frz mark ro).canRead g off 1 = (Bool.rec false (Bool.rec false (Nat.ble (Nat.succ off) size) (Nat.ble start off)) (Nat.ble g gen) : Bool) := by
      rw [and_rec, and_rec]
      show (Nat.ble g gen && Nat.ble start off && Nat.ble (off + 1) size) = _
      rw [Bool.and_assoc]
    rw [hcr]
    show (Bool.rec none _ (Bool.rec false (Bool.rec false (Nat.ble (Nat.succ off) size) (Nat.ble start off)) (Nat.ble g gen) : Bool) : Option AVal) = _
    cases (Bool.rec false (Bool.rec false (Nat.ble (Nat.succ off) size) (Nat.ble start off)) (Nat.ble g gen) : Bool) with
    | false => rfl
    | true =>
      show (Option.rec _ _ (elems.get (Nat.div off es)) (Nat.mod off es) es g : Option AVal) = ((ACells.mk ety es size elems flex gen start frz mark ro).read g 2 off 1).bind fun vs => vs.head?
      unfold ACells.read
      show _ = Option.bind (match Nat.beq 1 0 with | true => some [] | false => match elems.get (off / es) with | none => none | some (vs, lo) => _) _
      simp only [show Nat.div off es = off / es from rfl, show Nat.mod off es = off % es from rfl]
      cases elems.get (off / es) with
      | none => rfl
      | some e =>
        obtain ⟨vs, lo⟩ := e
        show (Bool.rec none (nthL vs (off % es)) (Bool.rec false (Nat.ble (Nat.succ (off % es)) es) (Nat.ble lo g)) : Option AVal) = _
        simp only []
        cases Nat.ble lo g with
        | false => rfl
        | true =>
          simp only []
          cases hb : Nat.ble (off % es + 1) es with
          | true =>
            simp only [Option.bind_some, head_drop, nthL_eq]
          | false =>
            have hes : es = 0 := by
              rcases Nat.eq_zero_or_pos es with e | e
              · exact e
              · have := Nat.mod_lt off e
                rw [Nat.ble_eq_true_of_le (by omega)] at hb
                cases hb
            subst hes
            simp only [Nat.zero_sub, Nat.sub_zero, Nat.mod_zero, Nat.add_zero]
            unfold ACells.read
            simp only [Nat.div_zero]
            cases elems.get 0 with
            | none => rfl
            | some e =>
              obtain ⟨us, lu⟩ := e
              simp only []
              cases Nat.ble lu g with
              | false => rfl
              | true =>
                simp only [Nat.mod_zero]
                have : Nat.ble (off + 1) 0 = false := rfl
                rw [this]
                simp only [ACells.read, Option.map_none, Option.bind_none]

theorem fload_eq (t : TypeId) (a : Operand) (T : E2) (h : Heap) : (fload t a P T h).opt = at_load P t a T h := by
  unfold at_load fload
  rw [fev_eq]
  cases eval P T a with
  | none => rfl
  | some a =>
    show (fload2 a t P h).opt = ret (load P t a h) h
    cases a with
    | ptr q =>
      cases q with
      | none => rfl
      | some p =>
        cases p with
        | mk fam gen off =>
          show (Option.rec _ _ (ffam h fam) gen off t P h : R1).opt = ret (load P t (.ptr (some ⟨fam, gen, off⟩)) h) h
          unfold load
          simp only [ffam_eq]
          cases h.fam fam with
          | none => rfl
          | some c =>
            show (fload4 (shape? P t) c gen off h).opt = _
            unfold shape?
            simp only [Option.bind_some]
            cases size? P t with
            | none => rfl
            | some n =>
              simp only [Option.bind_some]
              cases isAgg? P t with
              | none => rfl
              | some b =>
                cases b with
                | false =>
                  show (R1.ofH (fcell c gen off) h).opt = _
                  rw [opt_ofH, fcell_eq]
                  simp only [Option.bind_some]
                  rfl
                | true =>
                  show (Bool.rec R1.fail (R1.ofH ((c.read gen (n + 1) off n).map .agg) h) (c.canRead gen off n) : R1).opt = _
                  simp only [Option.bind_some]
                  cases c.canRead gen off n with
                  | false => rfl
                  | true => exact opt_ofH _ _
    | _ => rfl

theorem fcanWrite_eq (c : ACells) (g off n : Nat) : fcanWrite c g off n = c.canWrite g off n := by
  cases c with
  | mk ety es size elems flex gen start frz mark ro =>
    show (Bool.rec false (Bool.rec false (Bool.rec false (Bool.rec false (Bool.rec true false ro) (Nat.ble frz off)) (Nat.ble (Nat.add off n) size)) (Nat.ble start off)) (Nat.beq g gen) : Bool) = (Nat.beq g gen && Nat.ble start off && Nat.ble (off + n) size && Nat.ble frz off && !ro)
    rw [and_rec, and_rec, and_rec, and_rec]
    have : (Bool.rec true false ro : Bool) = !ro := by cases ro <;> rfl
    rw [this]
    simp only [Bool.and_assoc]
    rfl

theorem setElems_one (es lo q : Nat) (vs : List AVal) (t : Tr (List AVal × Nat)) (h : vs.length = es) (h0 : 0 < es) : setElems es lo vs.length q vs t = t.set q (vs, lo) := by
  obtain ⟨m, hm⟩ : ∃ m, vs.length = m + 1 := ⟨vs.length - 1, by omega⟩
  rw [hm]
  cases vs with
  | nil => simp at hm
  | cons v vs =>
    unfold setElems
    simp only []
    rw [List.take_of_length_le (by omega), List.drop_of_length_le (by omega)]
    cases m <;> rfl

theorem fwrite_eq (c : ACells) (off : Nat) (vs : List AVal) : fwrite c off vs = c.write off vs := by
  cases c with
  | mk ety es size elems flex gen start frz mark ro =>
    show (Bool.rec _ _ (Bool.rec false (oneElem (lenL vs) es) (Nat.beq (Nat.mod off es) 0)) : Option ACells) = _
    rw [and_rec, lenL_eq]
    cases hb : (Nat.beq (Nat.mod off es) 0 && oneElem vs.length es) with
    | false => rfl
    | true =>
      simp only [Bool.and_eq_true] at hb
      obtain ⟨h1, h2⟩ := hb
      unfold oneElem at h2
      rw [and_rec, Bool.and_eq_true, Nat.blt_eq, Nat.beq_eq] at h2
      unfold ACells.write
      have hr : Nat.beq (off % es) 0 = true := h1
      have hl : Nat.beq (vs.length % es) 0 = true := by rw [h2.2, Nat.mod_self]; rfl
      simp only [hr, hl, Bool.and_self]
      rw [setElems_one _ _ _ _ _ h2.2 h2.1]
      rfl

theorem fwrite1_eq (c : ACells) (off : Nat) (v : AVal) : fwrite1 c off v = c.write off [v] := by
  cases c with
  | mk ety es size elems flex gen start frz mark ro =>
    show (Bool.rec _ _ (Nat.beq es 1) : Option ACells) = _
    cases hb : Nat.beq es 1 with
    | true =>
      rw [Nat.beq_eq] at hb
      subst hb
      unfold ACells.write
      have hr : Nat.beq (off % 1) 0 = true := by rw [Nat.mod_one]; rfl
      simp only [hr, List.length_cons, List.length_nil, Nat.zero_add, show Nat.beq (1 % 1) 0 = true from rfl, Bool.and_self, Nat.div_one]
      rfl
    | false =>
      have hne : es ≠ 1 := fun e => by subst e; cases hb
      unfold ACells.write
      have h1 : Nat.beq (1 % es) 0 = false := by
        rcases Nat.eq_zero_or_pos es with e | e
        · subst e; rfl
        · rw [Nat.mod_eq_of_lt (by omega)]; rfl
      simp only [List.length_cons, List.length_nil, Nat.zero_add, h1, Bool.and_false]
      show (Option.rec none (fun e => _) (elems.get (off / es)) : Option ACells) = _
      cases hx : elems.get (off / es) with
      | none => cases Nat.ble (off % es + 1) es <;> rfl
      | some e =>
        obtain ⟨old, lo⟩ := e
        show (Bool.rec none _ (Bool.rec false (Nat.ble (Nat.succ (off % es)) es) (Nat.ble lo gen)) : Option ACells) = _
        rw [and_rec]
        cases hb2 : Nat.ble (off % es + 1) es with
        | false =>
          rw [Bool.and_false]
        | true =>
          rw [Bool.and_true]
          dsimp only
          cases Nat.ble lo gen with
          | false => rfl
          | true =>
            simp only []
            rw [appL_eq, takeL_eq, dropL_eq]
            show some (ACells.mk ety es size (elems.set (off / es) (List.take (off % es) old ++ (v :: List.drop (Nat.succ (off % es)) old), gen)) flex gen start frz mark ro) = some (ACells.mk ety es size (elems.set (off / es) (List.take (off % es) old ++ [v] ++ List.drop (off % es + 1) old, gen)) flex gen start frz mark ro)
            rw [List.append_assoc, List.singleton_append]

theorem beq_comm' (a b : Nat) : Nat.beq a b = Nat.beq b a := by
  rw [Bool.eq_iff_iff, Nat.beq_eq, Nat.beq_eq]
  exact eq_comm

theorem fstoreC_eq (c : Option ACells) (fam : Nat) (h : Heap) : (fstoreC c fam h).opt = (c.map fun c' => h.put fam (.cells c')).map fun h' => (.tuple [], h') := by
  cases c with
  | none => rfl
  | some c =>
    show some (AVal.tuple [], fput h fam (.cells c)) = _
    rw [fput_eq]; rfl

theorem fstore3_eq (p : APtr) (v : AVal) (t : TypeId) (h : Heap) : (fstore3 p v t P h).opt = (store P t (.ptr (some p)) v h).map fun h' => (.tuple [], h') := by
  cases p with
  | mk fam gen off =>
    show (Option.rec _ _ (ffam h fam) fam gen off v t P h : R1).opt = _
    unfold store
    simp only [ffam_eq]
    cases h.fam fam with
    | none => rfl
    | some c =>
      simp only [Option.bind_some]
      show (Option.rec _ _ (size? P t) c fam gen off v h : R1).opt = _
      cases size? P t with
      | none => rfl
      | some n =>
        simp only [Option.bind_some]
        show (fstore4 v n c fam gen off h).opt = _
        have hN : ∀ vs : List AVal, (fstoreN vs n c fam gen off h).opt = (match Nat.beq vs.length n && c.canWrite gen off n with
            | true => (c.write off vs).map fun c' => h.put fam (.cells c')
            | false => none).map fun h' => (AVal.tuple [], h') := by
          intro vs
          unfold fstoreN
          rw [and_rec, lenL_eq, fcanWrite_eq, fwrite_eq]
          cases (Nat.beq vs.length n && c.canWrite gen off n) with
          | false => rfl
          | true => exact fstoreC_eq _ _ _
        have h1 : ∀ v : AVal, (fstore1 v n c fam gen off h).opt = (match Nat.beq [v].length n && c.canWrite gen off n with
            | true => (c.write off [v]).map fun c' => h.put fam (.cells c')
            | false => none).map fun h' => (AVal.tuple [], h') := by
          intro v
          unfold fstore1
          rw [and_rec, fcanWrite_eq, fwrite1_eq, beq_comm' n 1]
          show _ = (match Nat.beq 1 n && c.canWrite gen off n with | true => _ | false => _ : Option Heap).map _
          cases (Nat.beq 1 n && c.canWrite gen off n) with
          | false => rfl
          | true => exact fstoreC_eq _ _ _
        cases v with
        | agg vs => exact hN vs
        | tuple vs => rfl
        | _ => exact h1 _

theorem fstore_eq (t : TypeId) (a x : Operand) (T : E2) (h : Heap) : (fstore t a x P T h).opt = at_store P t a x T h := by
  unfold at_store fstore
  rw [fev_eq, fev_eq]
  cases eval P T a with
  | none => rfl
  | some a =>
    cases eval P T x with
    | none => rfl
    | some v =>
      show (fstore2 a v t P h).opt = _
      simp only [Option.bind_some]
      cases a with
      | ptr q =>
        cases q with
        | none => rfl
        | some p => exact fstore3_eq p v t h
      | _ => rfl

theorem fmove_eq (x : Operand) (T : E2) (h : Heap) : (fmove x P T h).opt = at_move P x T h := by
  unfold fmove at_move
  rw [opt_ofH, fev_eq]
  rfl

theorem ffieldAddr_eq (s : TypeId) (x : Operand) (i : Nat) (T : E2) (h : Heap) : (ffieldAddr s x i P T h).opt = at_fieldAddr P s x i T h := by
  unfold at_fieldAddr ffieldAddr
  rw [fev_eq]
  cases eval P T x with
  | none => rfl
  | some a =>
    show (ffieldAddr2 a (fieldAt? P s i) h).opt = ret (fieldAddr P s a i) h
    cases a with
    | ptr q =>
      cases q with
      | none =>
        unfold fieldAddr
        cases P.underlying s with
        | none => rfl
        | some u => cases u <;> rfl
      | some p =>
        cases p with
        | mk fam gen off =>
          show (Option.rec _ _ (fieldAt? P s i) _ h : R1).opt = _
          unfold fieldAt? fieldAddr
          cases P.underlying s with
          | none => rfl
          | some u =>
            cases u with
            | struct fields =>
              simp only []
              cases fields[i]? with
              | none => rfl
              | some f =>
                simp only [Option.bind_some]
                cases size? P f.type with
                | none => rfl
                | some n =>
                  simp only [Option.bind_some]
                  cases Nat.blt 0 n <;> rfl
            | _ => rfl
    | _ =>
      unfold fieldAddr
      cases P.underlying s with
      | none => rfl
      | some u => cases u <;> rfl

theorem findexAddr_eq (t : TypeId) (x i : Operand) (T : E2) (h : Heap) : (findexAddr t x i P T h).opt = at_indexAddr P t x i T h := by
  unfold at_indexAddr findexAddr
  rw [fev_eq, fev_eq]
  cases eval P T x with
  | none => rfl
  | some x =>
    cases eval P T i with
    | none => rfl
    | some i =>
      show (findexAddr2 i x (elemsAt? P t) h).opt = ret (indexAddr P t x i) h
      cases i with
      | int k n =>
        unfold elemsAt? indexAddr
        cases P.underlying t with
        | none => rfl
        | some u =>
          cases u with
          | array len e =>
            dsimp only
            cases x with
            | ptr q =>
              cases q with
              | none => cases size? P e <;> rfl
              | some p =>
                simp only []
                cases hs : size? P e with
                | none =>
                  cases natOf n len with
                  | none => rfl
                  | some k => rfl
                | some s =>
                  show (findexAt p (natOf n len) s h).opt = _
                  cases p with
                  | mk fam gen off =>
                    cases natOf n len with
                    | none => rfl
                    | some k => rfl
            | slice q m c =>
              cases q with
              | none => cases size? P e <;> rfl
              | some q => cases size? P e <;> rfl
            | _ => cases size? P e <;> rfl
          | slice e =>
            dsimp only
            cases x with
            | slice q m c =>
              cases q with
              | none => cases size? P e <;> rfl
              | some p =>
                simp only []
                cases hs : size? P e with
                | none =>
                  cases natOf n m with
                  | none => rfl
                  | some k => rfl
                | some s =>
                  show (findexAt p (natOf n m) s h).opt = _
                  cases p with
                  | mk fam gen off =>
                    cases natOf n m with
                    | none => rfl
                    | some k => rfl
            | ptr q =>
              cases q with
              | none => cases size? P e <;> rfl
              | some q => cases size? P e <;> rfl
            | _ => cases size? P e <;> rfl
          | _ => cases x <;> rfl
      | _ => rfl

theorem fbinOp_eq (op : BinOp) (t : TypeId) (x y : Operand) (T : E2) (h : Heap) : (fbinOp op t x y P T h).opt = at_binOp P op t x y T h := by
  unfold at_binOp fbinOp
  rw [fev_eq, fev_eq]
  cases eval P T x with
  | none => rfl
  | some a =>
    cases eval P T y with
    | none => rfl
    | some b =>
      show (fbin3 b op t x y a P h).opt = ret (binOp P op t x y a b h) h
      cases b with
      | int k' n =>
        cases a with
        | int k m =>
          show (R1.ofH (intOp op k m k' n) h).opt = _
          rw [opt_ofH]
          congr 1
          unfold binOp
          have : guardOk P op t x y (.int k m) (.int k' n) = true := by cases op <;> rfl
          rw [this]
        | _ => exact opt_ofH _ _
      | _ => exact opt_ofH _ _

theorem fextract_eq (x : Operand) (i : Nat) (T : E2) (h : Heap) : (fextract x i P T h).opt = at_extract P x i T h := by
  unfold at_extract fextract
  rw [fev_eq]
  cases eval P T x with
  | none => rfl
  | some a =>
    cases a with
    | tuple vs =>
      show (R1.ofH (nthL vs i) h).opt = ret (vs[i]?) h
      rw [opt_ofH, nthL_eq]
    | _ => rfl

/-- Two evaluators of calls that agree. -/
def Agree (cF : CF) (callF : CallF) : Prop := ∀ f args h, (cF f args h).opt = callF f args h

variable {cF : CF} {callF : CallF}

theorem fcallOp_eq (hc : Agree cF callF) (c : Call) (T : E2) (h : Heap) : (fcallOp c P cF T h).opt = at_call P callF c T h := by
  unfold at_call fcallOp
  rw [fevs_eq]
  cases evals P T c.args.toList with
  | none => rfl
  | some args =>
    show (fcallee c.callee c.argTypes args P cF T h).opt = _
    simp only [Option.bind_some]
    cases c.callee with
    | value f =>
      show (Option.rec _ _ (fev f P T) args cF h : R1).opt = match eval P T f with
        | some (.func fn first cap) => match fn with
          | .func g => callF (.func g) (first ++ args ++ cap) h
          | .yield i => match cap with
            | [] => callF (.yield i) (first ++ args) h
            | _ :: _ => none
          | _ => none
        | _ => none
      rw [fev_eq]
      cases eval P T f with
      | none => rfl
      | some a =>
        cases a with
        | func fn first cap =>
          cases fn with
          | func g =>
            show (cF (.func g) (appL (appL first args) cap) h).opt = callF (.func g) (first ++ args ++ cap) h
            rw [hc, appL_eq, appL_eq]
          | yield i =>
            cases cap with
            | nil =>
              show (cF (.yield i) (appL first args) h).opt = callF (.yield i) (first ++ args) h
              rw [hc, appL_eq]
            | cons _ _ => rfl
          | _ => rfl
        | _ => rfl
    | invoke r m => rfl
    | builtin b => exact opt_of _

theorem foper_eq (hc : Agree cF callF) (o : Op) (T : E2) (h : Heap) : (foper o P cF T h).opt = oper P callF o T h := by
  cases o with
  | move x => exact fmove_eq x T h
  | assign x => exact fmove_eq x T h
  | load t a => exact fload_eq t a T h
  | store t a x => exact fstore_eq t a x T h
  | binOp op t x y yt => exact fbinOp_eq op t x y T h
  | fieldAddr s x i => exact ffieldAddr_eq s x i T h
  | indexAddr t x i => exact findexAddr_eq t x i T h
  | extract x i => exact fextract_eq x i T h
  | call c => exact fcallOp_eq hc c T h
  | _ => first | exact opt_of _ | rfl

/-! ### regions -/
def R2.opt (r : R2) : Option (Env × Heap) := match r with
  | .fail => none
  | .ok T h => some (T, h)

theorem fputD_eq (T : E2) (d : Option Tmp) (v : AVal) : fputD d T v = putD T d v := by cases d <;> rfl
theorem ffin2_eq (low : Nat) (objs : L4) (n : Nat) (d : Option Tmp) (T : E2) (v : AVal) : ffin2 low objs n d T v = .ok (putD T d v) ⟨objs, n, low⟩ := by
  rw [← fputD_eq]; cases low <;> rfl
theorem ffin1_eq (next low : Nat) (objs : L4) (d : Option Tmp) (T : E2) (v : AVal) : ffin1 next low objs d T v = .ok (putD T d v) ⟨objs, next, low⟩ := by
  rw [← ffin2_eq]; cases next <;> rfl
theorem ffin_eq (h : Heap) (n0 : Nat) (d : Option Tmp) (T : E2) (v : AVal) : (ffin h n0 d T v).opt = (Bool.rec none (some (putD T d v, h)) (Nat.ble n0 h.next) : Option (Env × Heap)) := by
  cases h with
  | mk objs next low =>
    show (Bool.rec R2.fail (ffin1 next low objs d T v) (Nat.ble n0 next) : R2).opt = _
    rw [ffin1_eq]
    show _ = (Bool.rec none (some (putD T d v, ⟨objs, next, low⟩)) (Nat.ble n0 next) : Option (Env × Heap))
    cases Nat.ble n0 next <;> rfl
theorem frun_eq (hc : Agree cF callF) (d : Option Tmp) (op : Op) (T : E2) (h : Heap) : (frun d op P cF T h).opt = match oper P callF op T h with
    | none => none
    | some r => Prod.rec (fun v h' => Bool.rec none (some (putD T d v, h')) (Nat.ble h.next h'.next)) r := by
  rw [← foper_eq hc]
  unfold frun
  cases foper op P cF T h with
  | fail => rfl
  | ok v h' => exact ffin_eq h' h.next d T v

theorem fopAt_eq (hc : Agree cF callF) (o : Oper) (all : Array Oper) (T : E2) (h : Heap) : (fopAt o all P cF T h).opt = opAt P callF all o T h := by
  obtain ⟨dst, op, type, pos, after, guard⟩ := o
  cases guard with
  | none =>
    show (frun dst op P cF T h).opt = _
    rw [frun_eq hc]
    rfl
  | some g =>
    show (Option.rec _ _ (fwant all T g) dst op P cF T h : R2).opt = _
    have hw : fwant all T g = wanted all T { dst, op, type, pos, after, guard := some g } := rfl
    rw [hw]
    unfold opAt
    cases wanted all T { dst, op, type, pos, after, guard := some g } with
    | none => rfl
    | some b =>
      cases b with
      | false =>
        show R2.opt (.ok (fputD dst T (.tuple [])) h) = _
        rw [fputD_eq]; rfl
      | true =>
        show (frun dst op P cF T h).opt = _
        rw [frun_eq hc]
        rfl

theorem fops_eq (hc : Agree cF callF) (all : Array Oper) : ∀ (l : List Oper) (T : E2) (h : Heap), (fops l all P cF T h).opt = ops P callF all l T h
  | [], T, h => rfl
  | o :: l, T, h => by
    show (R2.rec _ _ (fopAt o all P cF T h) (fun all P cF T h => fops l all P cF T h) all P cF : R2).opt = (Option.rec none (fun r => Prod.rec (fun T h => ops P callF all l T h) r) (opAt P callF all o T h) : Option (Env × Heap))
    rw [← fopAt_eq hc]
    cases fopAt o all P cF T h with
    | fail => rfl
    | ok T h => exact fops_eq hc all l T h

theorem ffinD_eq (h' h : Heap) (loud : Bool) (d : Option Tmp) (T : E2) (v : AVal) : (ffinD h' h loud d T v).opt = match Nat.ble h.next h'.next && (Nat.ble h.next h'.low || loud) with
    | false => none
    | true => some (putD T d v, { h' with low := match Nat.ble h.low h'.low with | true => h.low | false => h'.low }) := by
  cases h' with
  | mk objs next low =>
    show (Bool.rec R2.fail (ffin1 next (Bool.rec low h.low (Nat.ble h.low low)) objs d T v) (Bool.rec false (Bool.rec loud true (Nat.ble h.next low)) (Nat.ble h.next next)) : R2).opt = _
    rw [and_rec, ffin1_eq]
    have : (Bool.rec loud true (Nat.ble h.next low) : Bool) = (Nat.ble h.next low || loud) := by cases Nat.ble h.next low <;> rfl
    rw [this]
    simp only []
    cases (Nat.ble h.next next && (Nat.ble h.next low || loud)) with
    | false => rfl
    | true =>
      show some (putD T d v, (⟨objs, next, Bool.rec low h.low (Nat.ble h.low low)⟩ : Heap)) = some (putD T d v, (⟨objs, next, _⟩ : Heap))
      congr 3
      cases Nat.ble h.low low <;> rfl

theorem fopAtD_eq (hc : Agree cF callF) (o : Oper) (all : Array Oper) (i : Nat) (T : E2) (h : Heap) : (fopAtD o all i P cF T h).opt = opAtD P callF all o i T h := by
  have hrun : ∀ (d : Option Tmp) (op : Op), (frunD d op (loudOk all i) P cF T h).opt = match oper P callF op T { h with low := h.next } with
      | none => none
      | some (v, h') => match Nat.ble h.next h'.next && (Nat.ble h.next h'.low || loudOk all i) with
        | false => none
        | true => some (putD T d v, { h' with low := match Nat.ble h.low h'.low with | true => h.low | false => h'.low }) := by
    intro d op
    unfold frunD
    have hh : (Heap.rec (fun objs next _ => ⟨objs, next, next⟩) h : Heap) = { h with low := h.next } := by cases h; rfl
    rw [hh, ← foper_eq hc]
    cases foper op P cF T { h with low := h.next } with
    | fail => rfl
    | ok v h' => exact ffinD_eq h' h (loudOk all i) d T v
  obtain ⟨dst, op, type, pos, after, guard⟩ := o
  cases guard with
  | none =>
    show (frunD dst op (loudOk all i) P cF T h).opt = _
    rw [hrun]
    rfl
  | some g =>
    show (Option.rec _ _ (fwant all T g) dst op all i P cF T h : R2).opt = _
    have hw : fwant all T g = wanted all T { dst, op, type, pos, after, guard := some g } := rfl
    rw [hw]
    unfold opAtD
    cases wanted all T { dst, op, type, pos, after, guard := some g } with
    | none => rfl
    | some b =>
      cases b with
      | false =>
        show R2.opt (.ok (fputD dst T (.tuple [])) h) = _
        rw [fputD_eq]; rfl
      | true =>
        show (frunD dst op (loudOk all i) P cF T h).opt = _
        rw [hrun]
        rfl

theorem fopsD_eq (hc : Agree cF callF) (all : Array Oper) : ∀ (l : List Oper) (i : Nat) (rs : Reads1) (ss : Snaps) (T : E2) (h : Heap), (fopsD l i rs ss all P cF T h).opt = opsD P callF all l i rs ss T h
  | [], _, _, _, _, _ => rfl
  | o :: l, i, rs, ss, T, h => by
    show (R2.rec (motive := fun _ => Oper → FD → Nat → Reads1 → Snaps → Array Oper → Program → CF → E2 → Heap → R2) _ _ (fopAtD o all i P cF T h) o (fun i rs ss all P cF T h => fopsD l i rs ss all P cF T h) i rs ss all P cF T h : R2).opt =
      (Option.rec none (fun r => Prod.rec (fun T' h' => Option.rec none (fun x => Prod.rec (fun rs' ss' => opsD P callF all l (i + 1) rs' ss' T' h') x) (behindD P all o i rs ss T h h')) r) (opAtD P callF all o i T h) : Option (Env × Heap))
    rw [← fopAtD_eq hc]
    cases fopAtD o all i P cF T h with
    | fail => rfl
    | ok T' h' =>
      show (fgoD (behindD P all o i rs ss T h h') (fun i rs ss all P cF T h => fopsD l i rs ss all P cF T h) i all P cF T' h').opt = (Option.rec none (fun x => Prod.rec (fun rs' ss' => opsD P callF all l (i + 1) rs' ss' T' h') x) (behindD P all o i rs ss T h h') : Option (Env × Heap))
      cases behindD P all o i rs ss T h h' with
      | none => rfl
      | some x =>
        obtain ⟨rs', ss'⟩ := x
        exact fopsD_eq hc all l (i + 1) rs' ss' T' h'

/-! ### code -/
def R3.opt (r : R3) : Res := match r with
  | .fail => none
  | .ok T h => some (.normal, T, h)
  | .exit i T h => some (.exit i, T, h)
  | .ret T h => some (.ret, T, h)

theorem fthen_eq {r : R3} {k : FK} {k' : Env → Heap → Res} (hk : ∀ T h, (k T h).opt = k' T h) : (fthen r k).opt = thenF r.opt k' := by
  cases r with
  | fail => rfl
  | ok T h => exact hk T h
  | exit i T h => rfl
  | ret T h => rfl

theorem fiter_eq {f : FK} {f' : Env → Heap → Res} (hf : ∀ T h, (f T h).opt = f' T h) : ∀ (d : Nat) (T : E2) (h : Heap), (fiter f d T h).opt = iter f' d T h
  | 0, T, h => hf T h
  | d + 1, T, h => by
    show (fthen (fiter f d T h) (fiter f d)).opt = thenF (iter f' d T h) (iter f' d)
    rw [fthen_eq (fiter_eq hf d), fiter_eq hf d]

theorem fupto_eq {f : FK} {f' : Env → Heap → Res} (hf : ∀ T h, (f T h).opt = f' T h) : ∀ (n k : Nat) (T : E2) (h : Heap), (fupto f n k T h).opt = upto f' n k T h
  | 0, k, T, h => rfl
  | n + 1, k, T, h => by
    show (fthen (fiter f k T h) (fupto f n (k + 1))).opt = thenF (iter f' k T h) (upto f' n (k + 1))
    rw [fthen_eq (fupto_eq hf n (k + 1)), fiter_eq hf k]

theorem fblock_eq (id : Nat) (r : R3) : (fblock id r).opt = blockF id r.opt := by
  cases r with
  | exit i T h =>
    show (Bool.rec (.exit i T h) (.ok T h) (Nat.beq i id) : R3).opt = match Nat.beq i id with
      | true => some (.normal, T, h)
      | false => some (.exit i, T, h)
    cases Nat.beq i id <;> rfl
  | _ => rfl

theorem fcond_eq {c : Option AVal} {x y : FK} {x' y' : Env → Heap → Res} (hx : ∀ T h, (x T h).opt = x' T h) (hy : ∀ T h, (y T h).opt = y' T h) (T : E2) (h : Heap) : (fcond c x y T h).opt = condF c x' y' T h := by
  cases c with
  | none => rfl
  | some c =>
    cases c with
    | bool b =>
      cases b with
      | true => exact hx T h
      | false => exact hy T h
    | _ => rfl

theorem up_opt (r : R2) : r.up.opt = (Option.rec none (fun r => some (.normal, r)) r.opt : Res) := by cases r <;> rfl

theorem fregion_eq (hc : Agree cF callF) (l : Array Oper) (draw : Bool) (T : E2) (h : Heap) : (fregion l draw P cF T h).opt = regionF P callF l draw T h := by
  cases draw with
  | false =>
    show (R2.up (fops l.toList l P cF T h)).opt = (Option.rec none (fun r => some (.normal, r)) (ops P callF l l.toList T h) : Res)
    rw [up_opt, fops_eq hc]
  | true =>
    show (R2.up (fopsD l.toList 0 [] [] l P cF T h)).opt = (Option.rec none (fun r => some (.normal, r)) (opsD P callF l l.toList 0 [] [] T h) : Res)
    rw [up_opt, fopsD_eq hc]

/-- The two ways of calling with a handler agree. -/
def AgreeS (sF : SF) (seqF : SeqF) : Prop := ∀ i hd hd', (∀ args h, (hd args h).opt = hd' args h) → Agree (sF i hd) (seqF i hd')

theorem fround_eq {fa fb : FK} {fa' fb' : Env → Heap → Res} (ha : ∀ T h, (fa T h).opt = fa' T h) (hb : ∀ T h, (fb T h).opt = fb' T h) (ps : List Tmp) (T : E2) (args : List AVal) (h : Heap) :
    (fround fa fb ps T args h).opt = roundF fa' fb' ps T args h := by
  unfold fround roundF
  have e : fset ps T args = setArgs ps T args := rfl
  rw [e]
  cases setArgs ps T args with
  | none => rfl
  | some T0 =>
    show (R3.rec (motive := fun _ => R1) .fail (fun _ h => .ok (.bool true) h) (fun _ _ _ => .fail) (fun _ _ => .fail) (fthen (fa T0 h) fb)).opt = _
    simp only []
    rw [← ha, ← fthen_eq hb]
    cases fthen (fa T0 h) fb <;> rfl

theorem frange_eq {sF : SF} {seqF : SeqF} (hs : AgreeS sF seqF) {fa fb : FK} {fa' fb' : Env → Heap → Res} (ha : ∀ T h, (fa T h).opt = fa' T h) (hb : ∀ T h, (fb T h).opt = fb' T h) (g : Option AVal) (ps : Array Tmp) (T : E2) (h : Heap) :
    (frange g ps.toList P sF fa fb T h).opt = rangeF P seqF g ps fa' fb' T h := by
  unfold frange rangeF
  cases g with
  | none => rfl
  | some a =>
    show (frange1 a ps.toList P sF fa fb T h).opt = _
    cases a with
    | func fn first cap =>
      cases fn with
      | func gf =>
        show (Bool.rec (motive := fun _ => R3) .fail (frange2 (sF h.next (fround fa fb ps.toList T) (.func gf) (appL first (.func (.yield h.next) [] [] :: cap)) ⟨h.objs, Nat.succ h.next, h.low⟩) h.next T) (enters P gf) : R3).opt = _
        simp only []
        cases enters P gf with
        | false => rfl
        | true =>
          show (frange2 (sF h.next (fround fa fb ps.toList T) (.func gf) (appL first (.func (.yield h.next) [] [] :: cap)) ⟨h.objs, Nat.succ h.next, h.low⟩) h.next T).opt = _
          simp only []
          rw [appL_eq, ← hs h.next _ _ (fround_eq ha hb ps.toList T)]
          cases sF h.next (fround fa fb ps.toList T) (.func gf) (first ++ .func (.yield h.next) [] [] :: cap) ⟨h.objs, Nat.succ h.next, h.low⟩ with
          | fail => rfl
          | ok v h2 =>
            show (Bool.rec (motive := fun _ => R3) .fail (.ok T h2) (Nat.ble (Nat.succ h.next) h2.next) : R3).opt = match Nat.blt h.next h2.next with
              | true => some (.normal, T, h2)
              | false => none
            unfold Nat.blt
            cases Nat.ble (Nat.succ h.next) h2.next <;> rfl
      | _ => rfl
    | _ => rfl

theorem fcode_eq {sF : SF} {seqF : SeqF} (hc : Agree cF callF) (hs : AgreeS sF seqF) (c : Code) : ∀ (T : E2) (h : Heap), (fcode c P cF sF T h).opt = code P callF seqF c T h := by
  induction c with
  | skip => intro T h; rfl
  | region id l draw => intro T h; exact fregion_eq hc l draw T h
  | seq a b iha ihb =>
    intro T h
    show (fthen (fcode a P cF sF T h) (fcode b P cF sF)).opt = thenF (code P callF seqF a T h) (code P callF seqF b)
    rw [fthen_eq ihb, iha]
  | cond x a b iha ihb =>
    intro T h
    show (fcond (fev x P T) (fcode a P cF sF) (fcode b P cF sF) T h).opt = condF (eval P T x) (code P callF seqF a) (code P callF seqF b) T h
    rw [fev_eq]
    exact fcond_eq iha ihb T h
  | block id b ih =>
    intro T h
    show (fblock id (fcode b P cF sF T h)).opt = blockF id (code P callF seqF b T h)
    rw [fblock_eq, ih]
  | loop b ih =>
    intro T h
    exact fupto_eq ih 20 0 T h
  | rangeFunc g ps a b iha ihb =>
    intro T h
    show (frange (fev g P T) ps.toList P sF (fcode a P cF sF) (fcode b P cF sF) T h).opt = rangeF P seqF (eval P T g) ps (code P callF seqF a) (code P callF seqF b) T h
    rw [fev_eq]
    exact frange_eq hs iha ihb _ ps T h
  | _ => intros; rfl

theorem ffinish_eq (fn : Func) (r : R3) : (ffinish fn r P).opt = finish P fn r.opt := by
  have hr : ∀ (T : E2) (h : Heap), (R1.ofH (resultOf P fn T h) h).opt = (resultOf P fn T h).map fun v => (v, h) := by
    intro T h
    rw [opt_ofH]
    cases resultOf P fn T h <;> rfl
  cases r with
  | fail => rfl
  | ok T h => exact hr T h
  | exit _ _ _ => rfl
  | ret T h => exact hr T h

theorem fenter_eq : ∀ (args : List AVal) (i : Nat) (T : E2), fenterAt args i T = enterAt i args T
  | [], _, _ => rfl
  | a :: args, i, T => fenter_eq args (i + 1) (T.set i a)

theorem fstep_eq {sF : SF} {seqF : SeqF} (hc : Agree cF callF) (hs : AgreeS sF seqF) (ok : Nat) (f : FuncId) (args : List AVal) (h : Heap) : (fstep ok P cF sF f args h).opt = callStep P ok callF seqF f args h := by
  unfold fstep callStep
  cases Nat.testBit ok f with
  | false => rfl
  | true =>
    show (Option.rec _ _ (fnAt P f) args P cF sF h : R1).opt = _
    unfold fnAt
    cases P.funcs[f]? with
    | none => rfl
    | some fn =>
      show (fbody fn args P cF sF h).opt = _
      unfold fbody
      simp only []
      cases fn.body with
      | none => exact opt_of _
      | some c =>
        show (ffinish fn (fcode c P cF sF (fenterAt args 0 E2.leaf) h) P).opt = finish P fn (code P callF seqF c (enter args) h)
        rw [ffinish_eq, fcode_eq hc hs, fenter_eq]
        rfl

theorem fext_eq {Y : YF} {Y' : YieldF} (hY : ∀ i args h, (Y i args h).opt = Y' i args h) (i : Nat) {hd : List AVal → Heap → R1} {hd' : List AVal → Heap → Option (AVal × Heap)} (hh : ∀ args h, (hd args h).opt = hd' args h) :
    ∀ j args h, (fext Y i hd j args h).opt = Y'.ext i hd' j args h := by
  intro j args h
  unfold fext YieldF.ext
  cases Nat.beq j i with
  | true => exact hh args h
  | false => exact hY j args h

theorem fcallY_eq (ok : Nat) : ∀ (d : Nat) (Y : YF) (Y' : YieldF), (∀ i args h, (Y i args h).opt = Y' i args h) → Agree (fcallY P ok d Y) (callY P ok d Y')
  | 0, _, _, _ => fun _ _ _ => rfl
  | d + 1, Y, Y', hY => fun fn args h => by
    show (fwith (fun P ok Y => fcallY P ok d Y) P ok Y fn args h).opt = callWith P ok (callY P ok d) Y' fn args h
    cases fn with
    | func f => exact fstep_eq (fcallY_eq ok d Y Y' hY) (fun i hd hd' hh => fcallY_eq ok d (fext Y i hd) (Y'.ext i hd') (fext_eq hY i hh)) ok f args h
    | yield i => exact hY i args h
    | _ => rfl

theorem fcall_eq (ok d : Nat) (f : FuncId) (args : List AVal) (h : Heap) : (fcall P ok d f args h).opt = call P ok d f args h :=
  fcallY_eq ok d _ _ (fun _ _ _ => rfl) (.func f) args h

theorem val_opt (r : R1) : r.val = r.opt.map Prod.fst := by cases r <;> rfl
end Go.Abs

namespace Go.Abs
variable {P : Program}

/-- A run of the fast evaluator from the tables is a run of the model, whatever the tape. -/
theorem calls_fast {ok d : Nat} {f : FuncId} {args : List AVal} {ts : List Tab} {v : AVal} {W : World} (hmix : P.follows .mixedOrders = true)
    (hgood : ∀ f, Nat.testBit ok f = true → ∀ fn, P.funcs[f]? = some fn → goodFunc fn = true) {fn : Func} (hfn : P.funcs[f]? = some fn) (hbody : fn.body.isSome = true) (hsz : P.globals.size ≤ W.heap.size)
    (ht : ∀ t ∈ ts, t.at' < P.globals.size ∧ 0 < t.es ∧ t.vs.length % t.es = 0 ∧ okvs (fun _ _ => none) t.vs ∧ t.vs.all AVal.scalar = true ∧ W.heap[t.at']? = some (.cells (concs (fun _ _ => none) t.vs).toArray t.ety (0, 0)))
    (hargs : okvs (startAt P.globals.size ts) args) (hc : (fcall P ok (d + 1) f args (start P.globals.size ts)).val = some v) :
    Calls P f (concs (startAt P.globals.size ts) args).toArray W fun e W' => ∃ σ', e = .returned (conc σ' v) ∧ okv σ' v ∧ RowKit.Below W.heap.size W W' :=
  calls_start hmix hgood hfn hbody hsz ht hargs (by rw [← fcall_eq ok (d + 1) f args, ← val_opt]; exact hc)
end Go.Abs
