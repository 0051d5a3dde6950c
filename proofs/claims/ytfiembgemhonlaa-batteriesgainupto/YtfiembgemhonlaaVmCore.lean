/- Vm, part 1: a pure evaluator over the machine's code: types of plain data, values, objects, operations, control. Own work. -/
import GoSem.Core.Code
import GoSem.Core.View
import GoSem.Op.String
import Derived.KernelRfl
namespace Go.Vm

/-! ### Types of plain data -/
mutual
inductive Ty where
  | int (k : IntKind) | bool | str | slice (t : Ty) | struct (fs : Tys)
  deriving DecidableEq
inductive Tys where
  | nil | cons (t : Ty) (ts : Tys)
  deriving DecidableEq
end
mutual
def Ty.den : Ty → Type
  | .int _ => Int | .bool => Bool | .str => ByteArray | .slice t => List t.den | .struct fs => fs.den
def Tys.den : Tys → Type
  | .nil => Unit | .cons t ts => t.den × ts.den
end
mutual
def Ty.dflt : (t : Ty) → t.den
  | .int _ => (0 : Int) | .bool => false | .str => ByteArray.empty | .slice _ => [] | .struct fs => fs.dflt
def Tys.dflt : (t : Tys) → t.den
  | .nil => () | .cons t ts => (t.dflt, ts.dflt)
end
mutual
/-- how many cells a value has -/
def Ty.cells : Ty → Nat
  | .struct fs => fs.cells
  | _ => 1
def Tys.cells : Tys → Nat
  | .nil => 0 | .cons t ts => t.cells + ts.cells
end
def Ty.isAgg : Ty → Bool
  | .struct _ => true
  | _ => false
/-- does data of this type lie in other blocks, too? -/
def Ty.deep : Ty → Bool
  | .slice _ => true
  | .struct fs => go fs
  | _ => false
where go : Tys → Bool
  | .nil => false
  | .cons (.slice _) _ => true
  | .cons (.struct fs) ts => go fs || go ts
  | .cons _ ts => go ts

/-! ### Values -/
inductive CK where
  | ptr | func | map | iface
  deriving DecidableEq
inductive PV where
  /-- whatever it is -/
  | any
  /-- what stands where nothing was written -/
  | undef
  | int (k : IntKind) (x : Int)
  | bool (b : Bool)
  | str (s : ByteArray)
  /-- a slice that nobody writes -/
  | sl (T : Ty) (xs : List T.den)
  /-- the nil slice -/
  | nil
  /-- nil of another kind -/
  | nilc (k : CK)
  /-- a slice of the call's own: an object -/
  | row (o : Nat)
  | agg (l : List PV)
  | tup (l : List PV)
  /-- the address of a variable in memory, or of a field of it -/
  | ptr (o : Nat) (path : List Nat)
  /-- the address of an element (or of a field of one) of a slice that nobody writes -/
  | el (T : Ty) (x : T.den)
  /-- the address of an element (or of a field of one) of a row -/
  | elo (o : Nat) (i : Int) (path : List Nat)
  | func (f : Nat) (caps : List PV)

mutual
def explode : (T : Ty) → T.den → PV
  | .int k, x => .int k x | .bool, b => .bool b | .str, s => .str s | .slice t, xs => .sl t xs | .struct fs, x => .agg (explodes fs x)
def explodes : (T : Tys) → T.den → List PV
  | .nil, _ => [] | .cons t ts, x => explode t x.1 :: explodes ts x.2
end
def fieldEl : (fs : Tys) → fs.den → Nat → PV
  | .nil, _, _ => .any
  | .cons t _, x, 0 => .el t x.1
  | .cons _ ts, x, n + 1 => fieldEl ts x.2 n
mutual
def zeroOf : Ty → PV
  | .int k => .int k 0 | .bool => .bool false | .str => .str ByteArray.empty | .slice _ => .nil | .struct fs => .agg (zerosOf fs)
def zerosOf : Tys → List PV
  | .nil => [] | .cons t ts => zeroOf t :: zerosOf ts
end
def castL (T U : Ty) (xs : List T.den) : Option (List U.den) := if h : T = U then some (h ▸ xs) else none
def asInt? (k : IntKind) : PV → Option Int
  | .int k' x => if k = k' then some x else none
  | _ => none
def asBool? : PV → Option Bool
  | .bool b => some b
  | _ => none
def asStr? : PV → Option ByteArray
  | .str s => some s
  | _ => none
def asSl? (T : Ty) : PV → Option (List T.den)
  | .sl u xs => castL u T xs
  | .nil => some []
  | _ => none
def asAgg? : PV → Option (List PV)
  | .agg l => some l
  | _ => none
mutual
def implode : (T : Ty) → PV → Option T.den
  | .int k, v => asInt? k v
  | .bool, v => asBool? v
  | .str, v => asStr? v
  | .slice t, v => asSl? t v
  | .struct fs, v => match asAgg? v with
    | some l => implodes fs l
    | none => none
def implodes : (T : Tys) → List PV → Option T.den
  | .nil, l => match l with
    | [] => some ()
    | _ => none
  | .cons t ts, l => match l with
    | v :: l => (implode t v).bind fun x => (implodes ts l).bind fun y => some (x, y)
    | [] => none
end
mutual
/-- how many cells a value has -/
def PV.cells : PV → Nat
  | .agg l => PV.cellsL l
  | _ => 1
def PV.cellsL : List PV → Nat
  | [] => 0
  | v :: l => v.cells + PV.cellsL l
end
def PV.isAny : PV → Bool
  | .any => true
  | _ => false
def PV.isAgg : PV → Bool
  | .agg _ => true
  | _ => false
mutual
/-- can it lie in memory? -/
def PV.plain : PV → Bool
  | .any => false | .undef => false | .tup _ => false
  | .agg l => PV.plainL l
  | _ => true
def PV.plainL : List PV → Bool
  | [] => true
  | v :: l => v.plain && PV.plainL l
end
def getPath : PV → List Nat → PV
  | v, [] => v
  | .agg l, i :: p => getPath (l.getD i .any) p
  | _, _ :: _ => .any
def setPath : PV → List Nat → PV → PV
  | _, [], x => x
  | .agg l, i :: p, x => .agg (l.set i (setPath (l.getD i .any) p x))
  | v, _ :: _, _ => v
/-- a field (of a field) of a struct that is plain data -/
def getT : (T : Ty) → List Nat → T.den → Option PV
  | T, [], x => some (explode T x)
  | .struct fs, i :: p, x => go fs i p x
  | _, _ :: _, _ => none
where go : (fs : Tys) → Nat → List Nat → fs.den → Option PV
  | .nil, _, _, _ => none
  | .cons t _, 0, p, x => getT t p x.1
  | .cons _ ts, n + 1, p, x => go ts n p x.2
def setT : (T : Ty) → List Nat → T.den → PV → Option T.den
  | .int k, p, _, v => match p with | [] => implode (.int k) v | _ :: _ => none
  | .bool, p, _, v => match p with | [] => implode .bool v | _ :: _ => none
  | .str, p, _, v => match p with | [] => implode .str v | _ :: _ => none
  | .slice t, p, _, v => match p with | [] => implode (.slice t) v | _ :: _ => none
  | .struct fs, p, x, v => match p with | [] => implode (.struct fs) v | i :: p => go fs i p x v
where go : (fs : Tys) → Nat → List Nat → fs.den → PV → Option fs.den
  | .nil, _, _, _, _ => none
  | .cons t _, 0, p, x, v => (setT t p x.1 v).map fun y => (y, x.2)
  | .cons _ ts, n + 1, p, x, v => (go ts n p x.2 v).map fun y => (x.1, y)

/-! ### Types of variables -/
mutual
/-- A type: plain data, or something else of one cell, or a struct that holds such. -/
inductive TD where
  | data (T : Ty)
  | cell (k : CK)
  | agg (l : TDs)
  deriving DecidableEq
inductive TDs where
  | nil | cons (d : TD) (l : TDs)
  deriving DecidableEq
end
mutual
def TD.zero : TD → PV
  | .data T => zeroOf T
  | .cell k => .nilc k
  | .agg l => .agg (TDs.zero l)
def TDs.zero : TDs → List PV
  | .nil => []
  | .cons d l => d.zero :: TDs.zero l
end
mutual
def TD.cells : TD → Nat
  | .data T => T.cells
  | .cell _ => 1
  | .agg l => TDs.cells l
def TDs.cells : TDs → Nat
  | .nil => 0
  | .cons d l => d.cells + TDs.cells l
end
def TD.isAgg : TD → Bool
  | .data T => T.isAgg
  | .cell _ => false
  | .agg _ => true
mutual
/-- has a value the form of this type? -/
def Ty.fits : Ty → PV → Bool
  | .struct fs, .agg l => Tys.fits fs l
  | .struct _, _ => false
  | _, v => !v.isAgg
def Tys.fits : Tys → List PV → Bool
  | .nil, [] => true
  | .cons t ts, v :: l => t.fits v && Tys.fits ts l
  | _, _ => false
end
mutual
def TD.fits : TD → PV → Bool
  | .data T, v => T.fits v
  | .cell _, v => !v.isAgg
  | .agg ds, .agg l => TDs.fits ds l
  | .agg _, _ => false
def TDs.fits : TDs → List PV → Bool
  | .nil, [] => true
  | .cons d ds, v :: l => d.fits v && TDs.fits ds l
  | _, _ => false
end
/-- where a part begins, and its type -/
def Ty.off : Ty → List Nat → Option (Nat × Ty)
  | T, [] => some (0, T)
  | .struct fs, i :: p => go fs i p
  | _, _ :: _ => none
where go : Tys → Nat → List Nat → Option (Nat × Ty)
  | .nil, _, _ => none
  | .cons t _, 0, p => Ty.off t p
  | .cons t ts, n + 1, p => (go ts n p).map fun q => (t.cells + q.1, q.2)
def TD.off : TD → List Nat → Option (Nat × TD)
  | d, [] => some (0, d)
  | .data T, p => (T.off p).map fun q => (q.1, .data q.2)
  | .cell _, _ :: _ => none
  | .agg ds, i :: p => go ds i p
where go : TDs → Nat → List Nat → Option (Nat × TD)
  | .nil, _, _ => none
  | .cons d _, 0, p => TD.off d p
  | .cons d ds, n + 1, p => (go ds n p).map fun q => (d.cells + q.1, q.2)

/-! ### Objects, states -/
inductive OB where
  | dead
  | box (d : TD) (v : PV)
  | row (T : Ty) (xs : List T.den)

structure St where
  slots : List PV
  objs : List OB
  touched : List Nat

def rd {α : Type} (d : α) (xs : List α) (i : Int) : α := xs.getD i.toNat d
def bt (s : ByteArray) (i : Int) : Int := ((s.data.getD i.toNat 0).toNat : Int)
def sEq (a b : ByteArray) : Bool := a.toList == b.toList
def sLt (a b : ByteArray) : Bool := Op.bytesLess a.toList b.toList
def inR (i n : Int) : Bool := decide (0 ≤ i) && decide (i < n)

def ofConst : Value → PV
  | .int k n => .int k n
  | .bool b => .bool b
  | .string s => cond (Nat.ble s.size 9223372036854775807) (.str s) .any
  | .slice none 0 0 => .nil
  | .pointer none => .nilc .ptr
  | .nilFunc => .nilc .func
  | .map none => .nilc .map
  | .nilIface => .nilc .iface
  | _ => .any
def opd (S : St) : Operand → PV
  | .tmp t => S.slots.getD t .undef
  | .const v => ofConst v
  | .func f => .func f []
  | .global _ => .any
def St.put (S : St) (d : Option Tmp) (v : PV) : St :=
  match d with
  | some t => { S with slots := S.slots.set t v }
  | none => S
def St.ob (S : St) (o : Nat) : OB := S.objs.getD o .dead
def St.setOb (S : St) (o : Nat) (b : OB) : St := { S with objs := S.objs.set o b, touched := o :: S.touched }
/-- an object at a place of its own, beyond all that there are -/
def St.new (S : St) (al : Nat) (b : OB) : St := { S with objs := (S.objs ++ List.replicate (al + 1 - S.objs.length) OB.dead).set al b }

/-! ### What is called -/
/-- A function: from its arguments and the objects that they lead to (numbered from 0 on) to its result and what the objects are then (behind them: those that it made). -/
inductive Mode where
  | val
  /-- a slice that it only reads -/
  | ro (T : Ty)
  /-- a slice that it may write -/
  | rw (T : Ty)
structure FSem where
  modes : List Mode
  /-- it changes nothing that was there, and makes one object at most -/
  quiet : Bool
  run : {ρ : Type} → List PV → List OB → (PV → List OB → Option ρ) → Option ρ
  /-- one answer, whatever follows -/
  param : ∀ {ρ : Type} (args : List PV) (objs : List OB) (K : PV → List OB → Option ρ), run args objs K =
    match run args objs (fun v l => some (v, l)) with
    | some p => K p.1 p.2
    | none => none
def FSem.never : FSem := ⟨[], false, fun _ _ _ => none, fun _ _ _ => rfl⟩

structure Env where
  td : Nat → Option TD
  call : Nat → FSem
def Env.elem (E : Env) (t : Nat) : Option Ty :=
  match E.td t with
  | some (.data (.slice T)) => some T
  | _ => none

def Env.isStr (E : Env) (t : Nat) : Bool :=
  match E.td t with
  | some (.data .str) => true
  | _ => false
def Env.isSl (E : Env) (t : Nat) : Bool :=
  match E.elem t with
  | some _ => true
  | none => false
def Env.isBool (E : Env) (t : Nat) : Bool :=
  match E.td t with
  | some (.data .bool) => true
  | _ => false

/-! ### Operations -/
section
variable {ρ : Type}
def binSl (okS : Bool) (op : BinOp) (n : Nat) (K : PV → Option ρ) : Option ρ :=
  match op with
  | .eql => cond okS (cond (Nat.ble n 0) none (K (.bool false))) none
  | .neq => cond okS (cond (Nat.ble n 0) none (K (.bool true))) none
  | _ => none
def bin (okB okS : Bool) (op : BinOp) (x y : PV) (K : PV → Option ρ) : Option ρ :=
  match x, y with
  | .int k a, .int k' b =>
    if k = k' then
      match op with
      | .add => K (.int k (k.wrap (a + b)))
      | .sub => K (.int k (k.wrap (a - b)))
      | .mul => K (.int k (k.wrap (a * b)))
      | .quo => cond (decide (b = 0)) none (K (.int k (k.wrap (a.tdiv b))))
      | .rem => cond (decide (b = 0)) none (K (.int k (a.tmod b)))
      | .eql => K (.bool (a == b))
      | .neq => K (.bool (a != b))
      | .lss => K (.bool (decide (a < b)))
      | .leq => K (.bool (decide (a ≤ b)))
      | .gtr => K (.bool (decide (a > b)))
      | .geq => K (.bool (decide (a ≥ b)))
      | _ => none
    else none
  | .str a, .str b =>
    match op with
    | .add => cond (decide (a.size + b.size < 4611686018427387904)) (K (.str (a ++ b))) none
    | .eql => K (.bool (sEq a b))
    | .neq => K (.bool (!sEq a b))
    | .lss => K (.bool (sLt a b))
    | .leq => K (.bool (sLt a b || sEq a b))
    | .gtr => K (.bool (!(sLt a b || sEq a b)))
    | .geq => K (.bool (!sLt a b))
    | _ => none
  | .bool a, .bool b =>
    match op with
    | .eql => cond okB (K (.bool (a == b))) none
    | .neq => cond okB (K (.bool (!(a == b)))) none
    | _ => none
  | .sl _ xs, .nil => binSl okS op xs.length K
  | _, _ => none

def lenOf (E : Env) (S : St) (t : Option Nat) (x : PV) (K : PV → Option ρ) : Option ρ :=
  match t with
  | none => none
  | some t =>
    match x with
    | .str s => cond (E.isStr t) (K (.int .i64 (s.size : Int))) none
    | .sl _ xs => match E.elem t with
      | some _ => K (.int .i64 (xs.length : Int))
      | none => none
    | .nil => match E.elem t with
      | some _ => K (.int .i64 0)
      | none => none
    | .row o => match E.elem t with
      | some _ => match S.ob o with
        | .row _ xs => K (.int .i64 (xs.length : Int))
        | _ => none
      | none => none
    | _ => none

/-- a slice as data, and whose row it was -/
def asData (S : St) (T : Ty) (x : PV) : Option (List T.den) :=
  match x with
  | .sl U xs => castL U T xs
  | .nil => some []
  | .row o => match S.ob o with
    | .row U xs => castL U T xs
    | _ => none
  | _ => none

def optK {α : Type} (x : Option α) (K : α → Option ρ) : Option ρ :=
  match x with
  | some a => K a
  | none => none

def foldMM (op : BinOp) : PV → List PV → (PV → Option ρ) → Option ρ
  | x, [], K => K x
  | .int k a, .int k' b :: l, K =>
    if k = k' then foldMM op (.int k (if (match op with | .lss => decide (b < a) | _ => decide (b > a)) then b else a)) l K else none
  | _, _, _ => none

/-- Operations that change nothing that was there: the value, and the object that is made (it lies at 'al'). -/
def evP (E : Env) (o : Oper) (S : St) (al : Nat) (K : PV → Option OB → Option ρ) : Option ρ :=
  match o.op with
  | .move x | .assign x => K (opd S x) none
  | .pick c a b => match opd S c with
    | .bool v => cond v (K (opd S a) none) (K (opd S b) none)
    | _ => none
  | .binOp op t x y _ => bin (E.isBool t) (E.isSl t) op (opd S x) (opd S y) fun v => K v none
  | .unOp .not _ x => match opd S x with
    | .bool b => K (.bool (!b)) none
    | _ => none
  | .unOp .neg _ x => match opd S x with
    | .int k a => K (.int k (k.wrap (-a))) none
    | _ => none
  | .convert s t x => match E.td s with
    | some _ => match opd S x, E.td t with
      | .int _ a, some (.data (.int k)) => K (.int k (k.wrap a)) none
      | _, _ => none
    | none => none
  | .alloc t => match E.td t with
    | some d => K (.ptr al []) (some (.box d d.zero))
    | none => none
  | .box t x => match E.td t with
    | some d => cond (d.fits (opd S x) && !(opd S x).isAny) (K (.ptr al []) (some (.box d (opd S x)))) none
    | none => none
  | .build t parts => match E.td t with
    | some d => cond d.isAgg (buildK S d parts.toList d.zero fun v => K v none) none
    | none => none
  | .buildSlice t len parts => match E.elem t with
    | some T => cond (Nat.beq parts.toList.length len && decide (len * T.cells ≤ 16777216)) (optK (implodeParts S T 0 parts.toList) fun xs => K (.row al) (some (.row T xs))) none
    | none => none
  | .makeSlice t n c => match E.elem t, opd S n, opd S c with
    | some T, .int .i64 a, .int .i64 b => cond (decide (a = b) && (decide (0 ≤ a) && decide (a ≤ 4294967296))) (K (.row al) (some (.row T (List.replicate a.toNat T.dflt)))) none
    | _, _, _ => none
  | .load t a => match E.td t with
    | some d => match opd S a with
      | .el T x => cond (d.fits (explode T x)) (K (explode T x) none) none
      | .ptr ob p => match S.ob ob with
        | .box _ v => cond (d.fits (getPath v p)) (K (getPath v p) none) none
        | _ => none
      | .elo ob i p => match S.ob ob with
        | .row T xs => cond (inR i xs.length) (optK (getT T p (rd T.dflt xs i)) fun v => cond (d.fits v) (K v none) none) none
        | _ => none
      | _ => none
    | none => none
  | .fieldAddr s a f => match E.td s with
    | some d => match d.off [f] with
      | none => none
      | some _ => match opd S a with
        | .el (.struct fs) x => cond (decide (d = .data (.struct fs))) (K (fieldEl fs x f) none) none
        | .ptr ob p => match S.ob ob with
          | .box d0 _ => match d0.off p with
            | some q => cond (decide (d = q.2)) (K (.ptr ob (p ++ [f])) none) none
            | none => none
          | _ => none
        | .elo ob i p => match S.ob ob with
          | .row T _ => match T.off p with
            | some q => cond (decide (d = .data q.2)) (K (.elo ob i (p ++ [f])) none) none
            | none => none
          | _ => none
        | _ => none
    | none => none
  | .indexAddr t a i => match E.elem t, opd S i with
    | some U, .int _ n => match opd S a with
      | .sl T xs => cond (decide (U = T) && inR n xs.length) (K (.el T (rd T.dflt xs n)) none) none
      | .row ob => match S.ob ob with
        | .row T xs => cond (decide (U = T) && inR n xs.length) (K (.elo ob n []) none) none
        | _ => none
      | _ => none
    | _, _ => none
  | .index t a i => match opd S a, opd S i with
    | .str s, .int _ n => cond (E.isStr t && inR n s.size) (K (.int .u8 (bt s n)) none) none
    | _, _ => none
  | .slice t a lo hi mx => match mx with
    | none => match opd S a with
      | .sl T xs => match E.elem t with
        | some U =>
          boundK S lo (0 : Int) fun l => boundK S hi (xs.length : Int) fun h =>
            cond (decide (U = T) && (decide (0 ≤ l) && (decide (l ≤ h) && decide (h ≤ (xs.length : Int))))) (K (.sl T ((xs.take h.toNat).drop l.toNat)) none) none
        | none => none
      | .str s =>
        boundK S lo (0 : Int) fun l => boundK S hi (s.size : Int) fun h =>
          cond (E.isStr t && (decide (0 ≤ l) && (decide (l ≤ h) && decide (h ≤ (s.size : Int))))) (K (.str (s.extract l.toNat h.toNat)) none) none
      | _ => none
    | some _ => none
  | .extract x i => match opd S x with
    | .tup l => cond (Nat.blt i l.length) (K (l.getD i .any) none) none
    | _ => none
  | .makeFunc (.func f) first caps => match first.toList with
    | [] => K (.func f (caps.toList.map (opd S))) none
    | _ => none
  | .call c => match c.callee with
    | .builtin .len => match c.args.toList with
      | [x] => lenOf E S c.argTypes[0]? (opd S x) fun v => K v none
      | _ => none
    | .builtin .min => match c.args.toList.map (opd S) with
      | x :: l => foldMM .lss x l fun v => K v none
      | _ => none
    | .builtin .max => match c.args.toList.map (opd S) with
      | x :: l => foldMM .gtr x l fun v => K v none
      | _ => none
    | _ => none
  | _ => none
where
  buildK (S : St) (d : TD) : List (Nat × Operand) → PV → (PV → Option ρ) → Option ρ
    | [], v, K => K v
    | p :: l, v, K => match d.off [p.1] with
      | some q => cond (q.2.fits (opd S p.2) && !(opd S p.2).isAny) (buildK S d l (setPath v [p.1] (opd S p.2)) K) none
      | none => none
  implodeParts (S : St) (T : Ty) : Nat → List (Nat × Operand) → Option (List T.den)
    | _, [] => some []
    | i, p :: l => cond (Nat.beq p.1 i) ((implode T (opd S p.2)).bind fun x => (implodeParts S T (i + 1) l).bind fun xs => some (x :: xs)) none
  boundK (S : St) (x : Option Operand) (d : Int) (K : Int → Option ρ) : Option ρ :=
    match x with
    | none => K d
    | some y => match opd S y with
      | .int _ n => K n
      | _ => none
end
end Go.Vm
