/- Vm: what the evaluator must know of a seat's types: the numbers of strings.Builder, of []byte, of byte. Own work. -/
import GoSem.Core.Code
import GoSem.Core.View
import GoSem.Op.String
import Derived.KernelRfl
import Derived.Below
import Derived.Laws.Cells
import Derived.Orders
import Derived.RowKit3
import Derived.Laws.StructEq
import Derived.Laws.NewBlocks
import Derived.Laws.Small
import Derived.MapKept
namespace Go.Vm
def bldT : Nat := 1000001
def bytesT : Nat := 1000002
def byteT : Nat := 1000003
end Go.Vm

/- Vm, part 1: a pure evaluator over the machine's code: types of plain data, values, objects, operations, control. Own work. -/
namespace Go.Vm

/-! ### Types of plain data -/
mutual
inductive Ty where
  | int (k : IntKind) | bool | str | slice (t : Ty) | struct (fs : Tys)
  deriving DecidableEq
inductive Tys where
  | nil | cons (t : Ty) (ts : Tys)
  deriving DecidableEq
end
mutual
def Ty.den : Ty → Type
  | .int _ => Int | .bool => Bool | .str => ByteArray | .slice t => List t.den | .struct fs => fs.den
def Tys.den : Tys → Type
  | .nil => Unit | .cons t ts => t.den × ts.den
end
mutual
def Ty.dflt : (t : Ty) → t.den
  | .int _ => (0 : Int) | .bool => false | .str => ByteArray.empty | .slice _ => [] | .struct fs => fs.dflt
def Tys.dflt : (t : Tys) → t.den
  | .nil => () | .cons t ts => (t.dflt, ts.dflt)
end
mutual
/-- how many cells a value has -/
def Ty.cells : Ty → Nat
  | .struct fs => fs.cells
  | _ => 1
def Tys.cells : Tys → Nat
  | .nil => 0 | .cons t ts => t.cells + ts.cells
end
def Ty.isAgg : Ty → Bool
  | .struct _ => true
  | _ => false
/-- does data of this type lie in other blocks, too? -/
def Ty.deep : Ty → Bool
  | .slice _ => true
  | .struct fs => go fs
  | _ => false
where go : Tys → Bool
  | .nil => false
  | .cons (.slice _) _ => true
  | .cons (.struct fs) ts => go fs || go ts
  | .cons _ ts => go ts

/-! ### Values -/
inductive CK where
  | ptr | func | map | iface
  deriving DecidableEq
inductive PV where
  /-- whatever it is -/
  | any
  /-- what stands where nothing was written -/
  | undef
  | int (k : IntKind) (x : Int)
  | bool (b : Bool)
  | str (s : ByteArray)
  /-- a slice that nobody writes -/
  | sl (T : Ty) (xs : List T.den)
  /-- the nil slice -/
  | nil
  /-- nil of another kind -/
  | nilc (k : CK)
  /-- a slice of the call's own: an object -/
  | row (o : Nat)
  | agg (l : List PV)
  | tup (l : List PV)
  /-- the address of a variable in memory, or of a field of it -/
  | ptr (o : Nat) (path : List Nat)
  /-- the address of an element (or of a field of one) of a slice that nobody writes -/
  | el (T : Ty) (x : T.den)
  /-- the address of an element (or of a field of one) of a row -/
  | elo (o : Nat) (i : Int) (path : List Nat)
  | func (f : Nat) (caps : List PV)
  /-- a map of the call's own: an object -/
  | mp (o : Nat)
  /-- where a range over a map is: an object -/
  | it (o : Nat)
  /-- a part of a row, seen: from, to -/
  | sub (o : Nat) (lo hi : Int)

mutual
def explode : (T : Ty) → T.den → PV
  | .int k, x => .int k x | .bool, b => .bool b | .str, s => .str s | .slice t, xs => .sl t xs | .struct fs, x => .agg (explodes fs x)
def explodes : (T : Tys) → T.den → List PV
  | .nil, _ => [] | .cons t ts, x => explode t x.1 :: explodes ts x.2
end
def fieldEl : (fs : Tys) → fs.den → Nat → PV
  | .nil, _, _ => .any
  | .cons t _, x, 0 => .el t x.1
  | .cons _ ts, x, n + 1 => fieldEl ts x.2 n
mutual
def zeroOf : Ty → PV
  | .int k => .int k 0 | .bool => .bool false | .str => .str ByteArray.empty | .slice _ => .nil | .struct fs => .agg (zerosOf fs)
def zerosOf : Tys → List PV
  | .nil => [] | .cons t ts => zeroOf t :: zerosOf ts
end
def castL (T U : Ty) (xs : List T.den) : Option (List U.den) := if h : T = U then some (h ▸ xs) else none
def asInt? (k : IntKind) : PV → Option Int
  | .int k' x => if k = k' then some x else none
  | _ => none
def asBool? : PV → Option Bool
  | .bool b => some b
  | _ => none
def asStr? : PV → Option ByteArray
  | .str s => some s
  | _ => none
def asSl? (T : Ty) : PV → Option (List T.den)
  | .sl u xs => castL u T xs
  | .nil => some []
  | _ => none
def asAgg? : PV → Option (List PV)
  | .agg l => some l
  | _ => none
mutual
def implode : (T : Ty) → PV → Option T.den
  | .int k, v => asInt? k v
  | .bool, v => asBool? v
  | .str, v => asStr? v
  | .slice t, v => asSl? t v
  | .struct fs, v => match asAgg? v with
    | some l => implodes fs l
    | none => none
def implodes : (T : Tys) → List PV → Option T.den
  | .nil, l => match l with
    | [] => some ()
    | _ => none
  | .cons t ts, l => match l with
    | v :: l => (implode t v).bind fun x => (implodes ts l).bind fun y => some (x, y)
    | [] => none
end
mutual
/-- how many cells a value has -/
def PV.cells : PV → Nat
  | .agg l => PV.cellsL l
  | _ => 1
def PV.cellsL : List PV → Nat
  | [] => 0
  | v :: l => v.cells + PV.cellsL l
end
def PV.isAny : PV → Bool
  | .any => true
  | _ => false
def PV.isAgg : PV → Bool
  | .agg _ => true
  | _ => false
mutual
/-- can it lie in memory? -/
def PV.plain : PV → Bool
  | .any => false | .undef => false | .tup _ => false
  | .agg l => PV.plainL l
  | _ => true
def PV.plainL : List PV → Bool
  | [] => true
  | v :: l => v.plain && PV.plainL l
end
def getPath : PV → List Nat → PV
  | v, [] => v
  | .agg l, i :: p => getPath (l.getD i .any) p
  | _, _ :: _ => .any
def setPath : PV → List Nat → PV → PV
  | _, [], x => x
  | .agg l, i :: p, x => .agg (l.set i (setPath (l.getD i .any) p x))
  | v, _ :: _, _ => v
/-- a field (of a field) of a struct that is plain data -/
def getT : (T : Ty) → List Nat → T.den → Option PV
  | T, [], x => some (explode T x)
  | .struct fs, i :: p, x => go fs i p x
  | _, _ :: _, _ => none
where go : (fs : Tys) → Nat → List Nat → fs.den → Option PV
  | .nil, _, _, _ => none
  | .cons t _, 0, p, x => getT t p x.1
  | .cons _ ts, n + 1, p, x => go ts n p x.2
def setT : (T : Ty) → List Nat → T.den → PV → Option T.den
  | .int k, p, _, v => match p with | [] => implode (.int k) v | _ :: _ => none
  | .bool, p, _, v => match p with | [] => implode .bool v | _ :: _ => none
  | .str, p, _, v => match p with | [] => implode .str v | _ :: _ => none
  | .slice t, p, _, v => match p with | [] => implode (.slice t) v | _ :: _ => none
  | .struct fs, p, x, v => match p with | [] => implode (.struct fs) v | i :: p => go fs i p x v
where go : (fs : Tys) → Nat → List Nat → fs.den → PV → Option fs.den
  | .nil, _, _, _, _ => none
  | .cons t _, 0, p, x, v => (setT t p x.1 v).map fun y => (y, x.2)
  | .cons _ ts, n + 1, p, x, v => (go ts n p x.2 v).map fun y => (x.1, y)

/-! ### Types of variables -/
mutual
/-- A type: plain data, or something else of one cell, or a struct that holds such. -/
inductive TD where
  | data (T : Ty)
  | cell (k : CK)
  | agg (l : TDs)
  /-- a map -/
  | map (K V : Ty)
  deriving DecidableEq
inductive TDs where
  | nil | cons (d : TD) (l : TDs)
  deriving DecidableEq
end
mutual
def TD.zero : TD → PV
  | .data T => zeroOf T
  | .cell k => .nilc k
  | .map _ _ => .nilc .map
  | .agg l => .agg (TDs.zero l)
def TDs.zero : TDs → List PV
  | .nil => []
  | .cons d l => d.zero :: TDs.zero l
end
mutual
def TD.cells : TD → Nat
  | .data T => T.cells
  | .cell _ => 1
  | .agg l => TDs.cells l
  | .map _ _ => 1
def TDs.cells : TDs → Nat
  | .nil => 0
  | .cons d l => d.cells + TDs.cells l
end
/-- n parts of one type -/
def TDs.rep : Nat → TD → TDs
  | 0, _ => .nil
  | n + 1, d => .cons d (TDs.rep n d)
def TDs.count : TDs → Nat
  | .nil => 0
  | .cons _ l => TDs.count l + 1
/-- are all of one cell? -/
def TDs.ones : TDs → Bool
  | .nil => true
  | .cons d l => Nat.beq d.cells 1 && TDs.ones l
def Ty.isSl : Ty → Bool
  | .slice _ => true
  | _ => false
def TD.isAgg : TD → Bool
  | .data T => T.isAgg
  | .cell _ => false
  | .agg _ => true
  | .map _ _ => false
mutual
/-- has a value the form of this type? -/
def Ty.fits : Ty → PV → Bool
  | .struct fs, .agg l => Tys.fits fs l
  | .struct _, _ => false
  | _, v => !v.isAgg
def Tys.fits : Tys → List PV → Bool
  | .nil, [] => true
  | .cons t ts, v :: l => t.fits v && Tys.fits ts l
  | _, _ => false
end
mutual
def TD.fits : TD → PV → Bool
  | .data T, v => T.fits v
  | .cell _, v => !v.isAgg
  | .map _ _, v => !v.isAgg
  | .agg ds, .agg l => TDs.fits ds l
  | .agg _, _ => false
def TDs.fits : TDs → List PV → Bool
  | .nil, [] => true
  | .cons d ds, v :: l => d.fits v && TDs.fits ds l
  | _, _ => false
end
/-- a strings.Builder: its first cell is nil or its own address, and only its own methods write it -/
def TD.isB : TD → Bool
  | .agg (.cons (.cell .ptr) (.cons (.data (.slice (.int .u8))) .nil)) => true
  | _ => false
/-- where a part begins, and its type -/
def Ty.off : Ty → List Nat → Option (Nat × Ty)
  | T, [] => some (0, T)
  | .struct fs, i :: p => go fs i p
  | _, _ :: _ => none
where go : Tys → Nat → List Nat → Option (Nat × Ty)
  | .nil, _, _ => none
  | .cons t _, 0, p => Ty.off t p
  | .cons t ts, n + 1, p => (go ts n p).map fun q => (t.cells + q.1, q.2)
def TD.off : TD → List Nat → Option (Nat × TD)
  | d, [] => some (0, d)
  | .data T, p => (T.off p).map fun q => (q.1, .data q.2)
  | .cell _, _ :: _ => none
  | .map _ _, _ :: _ => none
  | .agg ds, i :: p => go ds i p
where go : TDs → Nat → List Nat → Option (Nat × TD)
  | .nil, _, _ => none
  | .cons d _, 0, p => TD.off d p
  | .cons d ds, n + 1, p => (go ds n p).map fun q => (d.cells + q.1, q.2)

/-! ### Objects, states -/
/-- what a map holds: keys, values, when each came in; how many came in -/
abbrev MapC (K V : Ty) : Type := List (K.den × V.den × Nat) × Nat
inductive OB where
  | dead
  | box (d : TD) (v : PV)
  | row (T : Ty) (xs : List T.den)
  /-- a slice of bytes that a strings.Builder has -/
  | bytes (s : ByteArray)
  | map (K V : Ty) (c : MapC K V)
  /-- a range over map m: since when, what it has seen, what it is at -/
  | iter (m : Nat) (K V : Ty) (since : Nat) (seen : List Nat) (cur : Option (K.den × V.den))

def OB.alive : OB → Bool
  | .dead => false
  | _ => true

structure St where
  slots : List PV
  objs : List OB
  touched : List Nat

def rd {α : Type} (d : α) (xs : List α) (i : Int) : α := xs.getD i.toNat d
def bt (s : ByteArray) (i : Int) : Int := ((s.data.getD i.toNat 0).toNat : Int)
def sEq (a b : ByteArray) : Bool := a.toList == b.toList
def sLt (a b : ByteArray) : Bool := Op.bytesLess a.toList b.toList
def inR (i n : Int) : Bool := decide (0 ≤ i) && decide (i < n)

def ofConst : Value → PV
  | .int k n => .int k n
  | .bool b => .bool b
  | .string s => cond (Nat.ble s.size 9223372036854775807) (.str s) .any
  | .slice none 0 0 => .nil
  | .pointer none => .nilc .ptr
  | .nilFunc => .nilc .func
  | .map none => .nilc .map
  | .nilIface => .nilc .iface
  | _ => .any
def opd (S : St) : Operand → PV
  | .tmp t => S.slots.getD t .undef
  | .const v => ofConst v
  | .func f => .func f []
  | .global _ => .any
def St.put (S : St) (d : Option Tmp) (v : PV) : St :=
  match d with
  | some t => { S with slots := S.slots.set t v }
  | none => S
def St.ob (S : St) (o : Nat) : OB := S.objs.getD o .dead
def St.setOb (S : St) (o : Nat) (b : OB) : St := { S with objs := S.objs.set o b, touched := o :: S.touched }
/-- an object at a place of its own, beyond all that there are -/
def St.new (S : St) (al : Nat) (b : OB) : St := { S with objs := (S.objs ++ List.replicate (al + 1 - S.objs.length) OB.dead).set al b }

/-! ### Maps -/
mutual
/-- are two keys equal? -/
def keq : (K : Ty) → K.den → K.den → Bool
  | .int _, a, b => @BEq.beq Int _ a b
  | .bool, a, b => @BEq.beq Bool _ a b
  | .str, a, b => sEq a b
  | .slice _, _, _ => false
  | .struct fs, a, b => keqs fs a b
def keqs : (K : Tys) → K.den → K.den → Bool
  | .nil, _, _ => true
  | .cons t ts, a, b => keq t a.1 b.1 && keqs ts a.2 b.2
end
section
variable {κ ν : Type} (eq : κ → κ → Bool)
def mfind (k : κ) : List (κ × ν × Nat) → Option ν
  | [] => none
  | e :: l => cond (eq k e.1) (some e.2.1) (mfind k l)
def mhas (k : κ) : List (κ × ν × Nat) → Bool
  | [] => false
  | e :: l => cond (eq k e.1) true (mhas k l)
def mget (d : ν) (k : κ) (l : List (κ × ν × Nat)) : ν := (mfind eq k l).getD d
def mrep (k : κ) (v : ν) : List (κ × ν × Nat) → List (κ × ν × Nat)
  | [] => []
  | e :: l => cond (eq k e.1) ((e.1, v, e.2.2) :: l) (e :: mrep k v l)
def mput (k : κ) (v : ν) (c : List (κ × ν × Nat) × Nat) : List (κ × ν × Nat) × Nat := cond (mhas eq k c.1) (mrep eq k v c.1, c.2) (c.1 ++ [(k, v, c.2)], c.2 + 1)
def mdel (k : κ) : List (κ × ν × Nat) → List (κ × ν × Nat)
  | [] => []
  | e :: l => cond (eq k e.1) l (e :: mdel k l)
/-- an entry for this key, if there is none -/
def mopen (d : ν) (k : κ) (c : List (κ × ν × Nat) × Nat) : List (κ × ν × Nat) × Nat := cond (mhas eq k c.1) c (c.1 ++ [(k, d, c.2)], c.2 + 1)
/-- when it came in, or would -/
def mborn (n : Nat) (k : κ) : List (κ × ν × Nat) → Nat
  | [] => n
  | e :: l => cond (eq k e.1) e.2.2 (mborn n k l)
end
section
variable {κ ν : Type}
def bhas (b : Int) : List (κ × ν × Nat) → Bool
  | [] => false
  | e :: l => cond (@BEq.beq Int _ (e.2.2 : Int) b) true (bhas b l)
def bput (b : Int) (v : ν) : List (κ × ν × Nat) → List (κ × ν × Nat)
  | [] => []
  | e :: l => cond (@BEq.beq Int _ (e.2.2 : Int) b) ((e.1, v, e.2.2) :: l) (e :: bput b v l)
end
def castM (K V K' V' : Ty) (c : MapC K V) : Option (MapC K' V') := if h : K = K' ∧ V = V' then some (h.1 ▸ h.2 ▸ c) else none
/-- what a map holds -/
def mapOf (S : St) (K V : Ty) : PV → Option (MapC K V)
  | .nilc k => match k with
    | .map => some ([], 0)
    | _ => none
  | .mp o => match S.ob o with
    | .map K' V' c => castM K' V' K V c
    | _ => none
  | _ => none
/-- is no range over this map under way? -/
def noIter (m : Nat) : List OB → Bool
  | [] => true
  | b :: l => (match b with | .iter m' _ _ _ _ _ => !Nat.beq m m' | _ => true) && noIter m l
/-! ### What is called -/
/-- A function: from its arguments and the objects that they lead to (numbered from 0 on) to its result and what the objects are then (behind them: those that it made). -/
inductive Mode where
  | val
  /-- a slice that it only reads -/
  | ro (T : Ty)
  /-- a slice that it may write -/
  | rw (T : Ty)
structure FSem where
  modes : List Mode
  /-- it changes nothing that was there, and makes one object at most -/
  quiet : Bool
  run : {ρ : Type} → List PV → List OB → (PV → List OB → Option ρ) → Option ρ
  /-- one answer, whatever follows -/
  param : ∀ {ρ : Type} (args : List PV) (objs : List OB) (K : PV → List OB → Option ρ), run args objs K =
    match run args objs (fun v l => some (v, l)) with
    | some p => K p.1 p.2
    | none => none
  /-- what it gives back may hold slices -/
  slr : Bool := false
  /-- it leaves the objects as they were -/
  ro : Bool := false
  roOK : ro = true → ∀ (args : List PV) (objs : List OB) (p : PV × List OB), run args objs (fun v l => some (v, l)) = some p → ∃ new, p.2 = objs ++ new := by intro h; cases h
def FSem.never : FSem := { modes := [], quiet := false, run := fun _ _ _ => none, param := fun _ _ _ => rfl }

structure Env where
  td : Nat → Option TD
  call : Nat → FSem
  /-- variables that hold a function of the program -/
  fv : Nat → Option Nat := fun _ => none
  /-- a slice of a row is seen, and leaves the row as it is -/
  view : Bool := false
  /-- rows may be given up: all are the call's own -/
  give : Bool := false
  /-- a slice that is written down is data -/
  lit : Bool := false
  /-- slices of slices that are made are the call's own, and so are those within -/
  nest : Bool := false
def Env.elem (E : Env) (t : Nat) : Option Ty :=
  match E.td t with
  | some (.data (.slice T)) => some T
  | _ => none

def Env.isStr (E : Env) (t : Nat) : Bool :=
  match E.td t with
  | some (.data .str) => true
  | _ => false
def Env.plainT (E : Env) (t : Nat) : Option Ty :=
  match E.td t with
  | some (.data T) => some T
  | _ => none
def Env.isSl (E : Env) (t : Nat) : Bool :=
  match E.elem t with
  | some _ => true
  | none => false
def Env.isBool (E : Env) (t : Nat) : Bool :=
  match E.td t with
  | some (.data .bool) => true
  | _ => false

/-! ### Operations -/
section
variable {ρ : Type}
def binSl (okS : Bool) (op : BinOp) (n : Nat) (K : PV → Option ρ) : Option ρ :=
  match op with
  | .eql => cond okS (cond (Nat.ble n 0) none (K (.bool false))) none
  | .neq => cond okS (cond (Nat.ble n 0) none (K (.bool true))) none
  | _ => none
mutual
/-- are two values of a plain type equal? -/
def eqT : Ty → PV → PV → Option Bool
  | .int k, v, u => (asInt? k v).bind fun a => (asInt? k u).bind fun b => some (a == b)
  | .bool, v, u => (asBool? v).bind fun a => (asBool? u).bind fun b => some (a == b)
  | .str, v, u => (asStr? v).bind fun a => (asStr? u).bind fun b => some (sEq a b)
  | .slice _, _, _ => none
  | .struct fs, v, u => (asAgg? v).bind fun l => (asAgg? u).bind fun m => eqTs fs l m
def eqTs : Tys → List PV → List PV → Option Bool
  | .nil, l, m => match l, m with
    | [], [] => some true
    | _, _ => none
  | .cons t ts, l, m => match l, m with
    | v :: l, u :: m => (eqT t v u).bind fun a => (eqTs ts l m).bind fun b => some (a && b)
    | _, _ => none
end
mutual
def Ty.height : Ty → Nat
  | .struct fs => fs.height + 1
  | _ => 0
def Tys.height : Tys → Nat
  | .nil => 0
  | .cons t ts => max t.height ts.height
end
/-- structs that may be held against each other -/
def binAgg (q : Option Ty) (op : BinOp) (l m : List PV) (K : PV → Option ρ) : Option ρ :=
  match q with
  | some T => cond (T.isAgg && (!T.deep && Nat.ble T.height 100))
      (match eqT T (.agg l) (.agg m) with
      | some b => match op with
        | .eql => K (.bool b)
        | .neq => K (.bool (!b))
        | _ => none
      | none => none) none
  | none => none
def iand (k : IntKind) (a b : Int) : Int := k.wrap ((BitVec.ofInt k.bits a &&& BitVec.ofInt k.bits b).toNat : Int)
def ior (k : IntKind) (a b : Int) : Int := k.wrap ((BitVec.ofInt k.bits a ||| BitVec.ofInt k.bits b).toNat : Int)
def ixor (k : IntKind) (a b : Int) : Int := k.wrap ((BitVec.ofInt k.bits a ^^^ BitVec.ofInt k.bits b).toNat : Int)
def iandn (k : IntKind) (a b : Int) : Int := k.wrap ((BitVec.ofInt k.bits a &&& ~~~(BitVec.ofInt k.bits b)).toNat : Int)
def binInt (op : BinOp) (k k' : IntKind) (a b : Int) (K : PV → Option ρ) : Option ρ :=
  match op with
  | .shr => cond (decide (0 ≤ b)) (K (.int k (a.fdiv (2 ^ (min b.toNat k.bits))))) none
  | .shl => cond (decide (0 ≤ b)) (K (.int k (k.wrap (a * 2 ^ (min b.toNat k.bits))))) none
  | .add => cond (decide (k = k')) (K (.int k (k.wrap (a + b)))) none
  | .sub => cond (decide (k = k')) (K (.int k (k.wrap (a - b)))) none
  | .mul => cond (decide (k = k')) (K (.int k (k.wrap (a * b)))) none
  | .quo => cond (decide (k = k')) (cond (decide (b = 0)) none (K (.int k (k.wrap (a.tdiv b))))) none
  | .rem => cond (decide (k = k')) (cond (decide (b = 0)) none (K (.int k (a.tmod b)))) none
  | .eql => cond (decide (k = k')) (K (.bool (a == b))) none
  | .neq => cond (decide (k = k')) (K (.bool (a != b))) none
  | .lss => cond (decide (k = k')) (K (.bool (decide (a < b)))) none
  | .leq => cond (decide (k = k')) (K (.bool (decide (a ≤ b)))) none
  | .gtr => cond (decide (k = k')) (K (.bool (decide (a > b)))) none
  | .geq => cond (decide (k = k')) (K (.bool (decide (a ≥ b)))) none
  | .and => cond (decide (k = k')) (K (.int k (iand k a b))) none
  | .or => cond (decide (k = k')) (K (.int k (ior k a b))) none
  | .xor => cond (decide (k = k')) (K (.int k (ixor k a b))) none
  | .andNot => cond (decide (k = k')) (K (.int k (iandn k a b))) none
def bin (okB okS : Bool) (q : Option Ty) (op : BinOp) (x y : PV) (K : PV → Option ρ) : Option ρ :=
  match x, y with
  | .int k a, .int k' b => binInt op k k' a b K
  | .str a, .str b =>
    match op with
    | .add => cond (decide (a.size + b.size < 4611686018427387904)) (K (.str (a ++ b))) none
    | .eql => K (.bool (sEq a b))
    | .neq => K (.bool (!sEq a b))
    | .lss => K (.bool (sLt a b))
    | .leq => K (.bool (sLt a b || sEq a b))
    | .gtr => K (.bool (!(sLt a b || sEq a b)))
    | .geq => K (.bool (!sLt a b))
    | _ => none
  | .bool a, .bool b =>
    match op with
    | .eql => cond okB (K (.bool (a == b))) none
    | .neq => cond okB (K (.bool (!(a == b)))) none
    | _ => none
  | .sl _ xs, .nil => binSl okS op xs.length K
  | .agg l, .agg m => binAgg q op l m K
  | _, _ => none

def lenOf (E : Env) (S : St) (t : Option Nat) (x : PV) (K : PV → Option ρ) : Option ρ :=
  match t with
  | none => none
  | some t =>
    match x with
    | .str s => cond (E.isStr t) (K (.int .i64 (s.size : Int))) none
    | .sl _ xs => match E.elem t with
      | some _ => K (.int .i64 (xs.length : Int))
      | none => none
    | .nil => match E.elem t with
      | some _ => K (.int .i64 0)
      | none => none
    | .row o => match E.elem t with
      | some _ => match S.ob o with
        | .row _ xs => K (.int .i64 (xs.length : Int))
        | .bytes s => K (.int .i64 (s.size : Int))
        | .box d _ => match d with
          | .agg ds => K (.int .i64 (ds.count : Int))
          | _ => none
        | _ => none
      | none => none
    | .sub o l h => match E.elem t with
      | some _ => match S.ob o with
        | .row _ _ => K (.int .i64 (h - l))
        | _ => none
      | none => none
    | .mp o => match E.td t with
      | some (.map _ _) => match S.ob o with
        | .map _ _ c => K (.int .i64 (c.1.length : Int))
        | _ => none
      | _ => none
    | _ => none

/-- a slice as data, and whose row it was -/
def asData (S : St) (T : Ty) (x : PV) : Option (List T.den) :=
  match x with
  | .sl U xs => castL U T xs
  | .nil => some []
  | .row o => match S.ob o with
    | .row U xs => castL U T xs
    | _ => none
  | .sub o l h => match S.ob o with
    | .row U xs => castL U T ((xs.take h.toNat).drop l.toNat)
    | _ => none
  | _ => none

def optK {α : Type} (x : Option α) (K : α → Option ρ) : Option ρ :=
  match x with
  | some a => K a
  | none => none

def foldMM (op : BinOp) : PV → List PV → (PV → Option ρ) → Option ρ
  | x, [], K => K x
  | .int k a, .int k' b :: l, K =>
    if k = k' then foldMM op (.int k (if (match op with | .lss => decide (b < a) | _ => decide (b > a)) then b else a)) l K else none
  | _, _, _ => none

def Env.isIf (E : Env) (t : Nat) : Bool :=
  match E.td t with
  | some (.cell k) => (match k with | .iface => true | _ => false)
  | _ => false
def PV.nilIf : PV → Bool
  | .nilc k => (match k with | .iface => true | _ => false)
  | _ => false
def isConstO : Operand → Bool
  | .const _ => true
  | _ => false
/-- an interface's value that is nil is held against nil -/
def ifEq (c : Bool) (op : BinOp) (x y : PV) (K : PV → Option ρ) : Option ρ :=
  cond (c && (x.nilIf && y.nilIf)) (match op with
    | .eql => K (.bool true)
    | .neq => K (.bool false)
    | _ => none) none
/-- Operations that change nothing that was there: the value, and the object that is made (it lies at 'al'). -/
def evP (E : Env) (o : Oper) (S : St) (al : Nat) (K : PV → Option OB → Option ρ) : Option ρ :=
  match o.op with
  | .move x | .assign x => K (opd S x) none
  | .pick c a b => match opd S c with
    | .bool v => cond v (K (opd S a) none) (K (opd S b) none)
    | _ => none
  | .binOp op t x y _ => cond (E.isIf t) (ifEq (isConstO x || isConstO y) op (opd S x) (opd S y) fun v => K v none) (bin (E.isBool t) (E.isSl t) (E.plainT t) op (opd S x) (opd S y) fun v => K v none)
  | .unOp .not _ x => match opd S x with
    | .bool b => K (.bool (!b)) none
    | _ => none
  | .unOp .neg _ x => match opd S x with
    | .int k a => K (.int k (k.wrap (-a))) none
    | _ => none
  | .convert s t x => match E.td s with
    | some _ => match opd S x, E.td t with
      | .int _ a, some (.data (.int k)) => K (.int k (k.wrap a)) none
      | _, _ => none
    | none => none
  | .alloc t => match E.td t with
    | some d => cond (!d.isB || decide (t = bldT)) (K (.ptr al []) (some (.box d d.zero))) none
    | none => none
  | .box t x => match E.td t with
    | some d => cond (!d.isB && (d.fits (opd S x) && !(opd S x).isAny)) (K (.ptr al []) (some (.box d (opd S x)))) none
    | none => none
  | .build t parts => match E.td t with
    | some d => cond d.isAgg (buildK S d parts.toList d.zero fun v => K v none) none
    | none => none
  | .buildSlice t len parts => match E.elem t with
    | some T => cond (Nat.beq parts.toList.length len && decide (len * T.cells ≤ 16777216)) (optK (implodeParts S T 0 parts.toList) fun xs => cond E.lit (K (.sl T xs) none) (K (.row al) (some (.row T xs)))) none
    | none => none
  | .makeSlice t n c => match E.elem t, opd S n, opd S c with
    | some T, .int .i64 a, .int .i64 b => cond (decide (a = b) && (decide (0 ≤ a) && decide (a ≤ 4294967296))) (cond (E.nest && T.isSl) (K (.row al) (some (.box (.agg (TDs.rep a.toNat (.data T))) (.agg (List.replicate a.toNat .nil))))) (K (.row al) (some (.row T (List.replicate a.toNat T.dflt))))) none
    | _, _, _ => none
  | .load t a => match E.td t with
    | some d => match opd S a with
      | .el T x => cond (d.fits (explode T x)) (K (explode T x) none) none
      | .ptr ob p => match S.ob ob with
        | .box _ v => cond (d.fits (getPath v p)) (K (getPath v p) none) none
        | _ => none
      | .elo ob i p => match S.ob ob with
        | .row T xs => cond (inR i xs.length) (optK (getT T p (rd T.dflt xs i)) fun v => cond (d.fits v) (K v none) none) none
        | _ => none
      | _ => none
    | none => none
  | .fieldAddr s a f => match E.td s with
    | some d => match d.off [f] with
      | none => none
      | some _ => match opd S a with
        | .el (.struct fs) x => cond (decide (d = .data (.struct fs))) (K (fieldEl fs x f) none) none
        | .ptr ob p => match S.ob ob with
          | .box d0 _ => match d0.off p with
            | some q => cond (decide (d = q.2)) (K (.ptr ob (p ++ [f])) none) none
            | none => none
          | _ => none
        | .elo ob i p => match S.ob ob with
          | .row T _ => match T.off p with
            | some q => cond (decide (d = .data q.2)) (K (.elo ob i (p ++ [f])) none) none
            | none => none
          | _ => none
        | _ => none
    | none => none
  | .indexAddr t a i => match E.elem t, opd S i with
    | some U, .int _ n => match opd S a with
      | .sl T xs => cond (decide (U = T) && inR n xs.length) (K (.el T (rd T.dflt xs n)) none) none
      | .row ob => match S.ob ob with
        | .row T xs => cond (decide (U = T) && inR n xs.length) (K (.elo ob n []) none) none
        | .box d _ => match d with
          | .agg ds => cond (U.isSl && inR n ds.count) (K (.ptr ob [n.toNat]) none) none
          | _ => none
        | _ => none
      | .sub ob l h => match S.ob ob with
        | .row T _ => cond (decide (U = T) && inR n (h - l)) (K (.elo ob (l + n) []) none) none
        | _ => none
      | _ => none
    | _, _ => none
  | .index t a i => match opd S a, opd S i with
    | .str s, .int _ n => cond (E.isStr t && inR n s.size) (K (.int .u8 (bt s n)) none) none
    | _, _ => none
  | .slice t a lo hi mx => match mx with
    | none => match opd S a with
      | .sl T xs => match E.elem t with
        | some U =>
          boundK S lo (0 : Int) fun l => boundK S hi (xs.length : Int) fun h =>
            cond (decide (U = T) && (decide (0 ≤ l) && (decide (l ≤ h) && decide (h ≤ (xs.length : Int))))) (K (.sl T ((xs.take h.toNat).drop l.toNat)) none) none
        | none => none
      | .str s =>
        boundK S lo (0 : Int) fun l => boundK S hi (s.size : Int) fun h =>
          cond (E.isStr t && (decide (0 ≤ l) && (decide (l ≤ h) && decide (h ≤ (s.size : Int))))) (K (.str (s.extract l.toNat h.toNat)) none) none
      | .nil => match E.elem t with
        | some _ => boundK S lo (0 : Int) fun l => boundK S hi (0 : Int) fun h => cond (decide (l = 0) && decide (h = 0)) (K .nil none) none
        | none => none
      | .row ob => match S.ob ob, E.elem t with
        | .row T xs, some U => boundK S lo (0 : Int) fun l => boundK S hi (xs.length : Int) fun h =>
            cond (E.view && (decide (U = T) && (decide (0 ≤ l) && (decide (l ≤ h) && decide (h ≤ (xs.length : Int)))))) (K (.sub ob l h) none) none
        | _, _ => none
      | .sub ob l0 h0 => match S.ob ob, E.elem t with
        | .row T _, some U => boundK S lo (0 : Int) fun l => boundK S hi (h0 - l0) fun h =>
            cond (decide (U = T) && (decide (0 ≤ l) && (decide (l ≤ h) && decide (h ≤ h0 - l0)))) (K (.sub ob (l0 + l) (l0 + h)) none) none
        | _, _ => none
      | _ => none
    | some _ => none
  | .extract x i => match opd S x with
    | .tup l => cond (Nat.blt i l.length) (K (l.getD i .any) none) none
    | _ => none
  | .makeFunc (.func f) first caps => match first.toList with
    | [] => K (.func f (caps.toList.map (opd S))) none
    | _ => none
  | .call c => match c.callee with
    | .builtin .len => match c.args.toList with
      | [x] => lenOf E S c.argTypes[0]? (opd S x) fun v => K v none
      | _ => none
    | .builtin .cap => match c.args.toList.map (opd S), c.argTypes.toList with
      | [x], t :: _ => match E.elem t, x with
        | some _, .nil => K (.int .i64 0) none
        | _, _ => none
      | _, _ => none
    | .builtin .min => match c.args.toList.map (opd S) with
      | x :: l => foldMM .lss x l fun v => K v none
      | _ => none
    | .builtin .max => match c.args.toList.map (opd S) with
      | x :: l => foldMM .gtr x l fun v => K v none
      | _ => none
    | _ => none
  | .nilCheck x => match opd S x with
    | .ptr ob p => match S.ob ob with
      | .box _ _ => K (.ptr ob p) none
      | _ => none
    | .el T y => K (.el T y) none
    | .elo ob i p => match S.ob ob with
      | .row _ _ => K (.elo ob i p) none
      | _ => none
    | _ => none
  | .makeMap t n => match E.td t with
    | some (.map T U) => match n with
      | none => K (.mp al) (some (.map T U ([], 0)))
      | some n => match opd S n with
        | .int _ _ => K (.mp al) (some (.map T U ([], 0)))
        | _ => none
    | _ => none
  | .lookup t m k ok => match E.td t with
    | some (.map T U) => optK (mapOf S T U (opd S m)) fun c => optK (implode T (opd S k)) fun k =>
      cond ok (K (.tup [explode U (mget (keq T) U.dflt k c.1), .bool (mhas (keq T) k c.1)]) none) (K (explode U (mget (keq T) U.dflt k c.1)) none)
    | _ => none
  | .range t m => match E.td t with
    | some (.map T U) => match opd S m with
      | .mp o => match S.ob o with
        | .map T' U' c => cond (decide (T' = T) && decide (U' = U)) (K (.it al) (some (.iter o T U c.2 [] none))) none
        | _ => none
      | _ => none
    | _ => none
  | .entry i => match opd S i with
    | .it o => match S.ob o with
      | .iter m T U _ _ cur => cond (S.ob m).alive (optK cur fun e => K (.tup [explode T e.1, explode U e.2]) none) none
      | _ => none
    | _ => none
  | _ => none
where
  buildK (S : St) (d : TD) : List (Nat × Operand) → PV → (PV → Option ρ) → Option ρ
    | [], v, K => K v
    | p :: l, v, K => match d.off [p.1] with
      | some q => cond (q.2.fits (opd S p.2) && !(opd S p.2).isAny) (buildK S d l (setPath v [p.1] (opd S p.2)) K) none
      | none => none
  implodeParts (S : St) (T : Ty) : Nat → List (Nat × Operand) → Option (List T.den)
    | _, [] => some []
    | i, p :: l => cond (Nat.beq p.1 i) ((implode T (opd S p.2)).bind fun x => (implodeParts S T (i + 1) l).bind fun xs => some (x :: xs)) none
  boundK (S : St) (x : Option Operand) (d : Int) (K : Int → Option ρ) : Option ρ :=
    match x with
    | none => K d
    | some y => match opd S y with
      | .int _ n => K n
      | _ => none
end
end Go.Vm

/- Vm, part 2: operations that change what is there, calls, regions, control. Own work. -/
namespace Go.Vm

mutual
/-- the objects that a value leads to -/
def PV.oids : PV → List Nat
  | .row o => [o] | .ptr o _ => [o] | .elo o _ _ => [o] | .sub o _ _ => [o] | .mp o => [o] | .it o => [o]
  | .agg l => PV.oidsL l | .tup l => PV.oidsL l | .func _ l => PV.oidsL l
  | _ => []
def PV.oidsL : List PV → List Nat
  | [] => []
  | v :: l => v.oids ++ PV.oidsL l
end
mutual
def PV.ren (f : Nat → Nat) : PV → PV
  | .row o => .row (f o) | .ptr o p => .ptr (f o) p | .elo o i p => .elo (f o) i p | .sub o l h => .sub (f o) l h | .mp o => .mp (f o) | .it o => .it (f o)
  | .agg l => .agg (PV.renL f l) | .tup l => .tup (PV.renL f l) | .func g l => .func g (PV.renL f l)
  | v => v
def PV.renL (f : Nat → Nat) : List PV → List PV
  | [] => []
  | v :: l => v.ren f :: PV.renL f l
end
mutual
/-- no slice that is only seen -/
def PV.noSl : PV → Bool
  | .sl _ _ => false | .el _ _ => false
  | .agg l => PV.noSlL l | .tup l => PV.noSlL l | .func _ l => PV.noSlL l
  | _ => true
def PV.noSlL : List PV → Bool
  | [] => true
  | v :: l => v.noSl && PV.noSlL l
end
def OB.oids : OB → List Nat
  | .box _ v => v.oids
  | .iter m _ _ _ _ _ => [m]
  | _ => []
def OB.ren (f : Nat → Nat) : OB → OB
  | .box d v => .box d (v.ren f)
  | .iter m K V n l c => .iter (f m) K V n l c
  | b => b
def OB.noSl : OB → Bool
  | .box _ v => v.noSl
  | .row T _ => !T.deep
  | .bytes _ => true
  | .map K V _ => !K.deep && !V.deep
  | .iter _ K V _ _ _ => !K.deep && !V.deep
  | .dead => true
def mem (n : Nat) : List Nat → Bool
  | [] => false
  | m :: l => Nat.beq n m || mem n l
def nodup : List Nat → Bool
  | [] => true
  | n :: l => !mem n l && nodup l
/-- the objects that are come to from some -/
def reach (S : St) : Nat → List Nat → List Nat → List Nat
  | 0, _, acc => acc
  | _ + 1, [], acc => acc
  | n + 1, o :: l, acc => cond (mem o acc) (reach S n l acc) (reach S n ((S.ob o).oids ++ l) (acc ++ [o]))
def posOf (n : Nat) : List Nat → Nat
  | [] => 0
  | m :: l => cond (Nat.beq n m) 0 (posOf n l + 1)
def allAlive (S : St) : List Nat → Bool
  | [] => true
  | o :: l => (S.ob o).alive && allAlive S l

def noOid (n : Nat) : List OB → Bool
  | [] => true
  | b :: l => !mem n b.oids && noOid n l
/-- nothing leads to this object yet -/
def St.fresh (S : St) (al : Nat) : Bool := !(S.ob al).alive && (!mem al (PV.oidsL S.slots) && noOid al S.objs)
/-- do all these objects lead to such alone? -/
def closed (S : St) (acc : List Nat) : Bool := go acc
where go : List Nat → Bool
  | [] => true
  | o :: l => ((S.ob o).oids.all fun x => mem x acc) && go l
def within0 : List Nat → List Nat → Bool
  | [], _ => true
  | o :: l, acc => mem o acc && within0 l acc
def boundL (n : Nat) : List Nat → Bool
  | [] => true
  | o :: l => Nat.blt o n && boundL n l
def boundO (n : Nat) : List OB → Bool
  | [] => true
  | b :: l => boundL n b.oids && boundO n l
/-- nothing leads beyond the objects that there are -/
def unseen (S : St) : Bool := boundL S.objs.length (PV.oidsL S.slots) && boundO S.objs.length S.objs

/-- no range over one of these maps is under way -/
def noIters : List Nat → List OB → Bool
  | [], _ => true
  | m :: l, objs => noIter m objs && noIters l objs
section
variable {ρ : Type}
/-- a nil slice that a function may write is made an object -/
def prepArgs (S : St) : List Mode → List PV → (St → List PV → Option ρ) → Option ρ
  | m :: ms, v :: vs, K => match m, v with
    | .rw T, .nil => cond (S.fresh S.objs.length) (prepArgs (S.new S.objs.length (.row T [])) ms vs fun S' l => K S' (.row S.objs.length :: l)) none
    | _, _ => prepArgs S ms vs fun S' l => K S' (v :: l)
  | [], vs, K => K S vs
  | _ :: _, [], K => K S []
/-- rows that a function only reads are shown as data -/
def showArgs (S : St) : List Mode → List PV → Option (List PV)
  | .ro T :: ms, v :: vs => (asData S T v).bind fun xs => (showArgs S ms vs).bind fun l => some (.sl T xs :: l)
  | .val :: ms, v :: vs => (showArgs S ms vs).bind fun l => some (v :: l)
  | .rw _ :: ms, v :: vs => (showArgs S ms vs).bind fun l => some (v :: l)
  | [], vs => some vs
  | _ :: _, [] => some []
/-- what is written back behind a call -/
def writeBack (back : Nat → Nat) : List Nat → List OB → List OB → List OB
  | o :: acc, b :: bs, objs => writeBack back acc bs (objs.set o (b.ren back))
  | _, bs, objs => objs ++ bs.map (OB.ren back)
def noSlAll : List OB → Bool
  | [] => true
  | b :: l => b.noSl && noSlAll l
def shownIn : List Mode → List PV → List Nat
  | .ro _ :: ms, .row o :: vs => o :: shownIn ms vs
  | .ro _ :: ms, .sub o _ _ :: vs => o :: shownIn ms vs
  | _ :: ms, _ :: vs => shownIn ms vs
  | _, _ => []
def disj : List Nat → List Nat → Bool
  | [], _ => true
  | n :: l, m => !mem n m && disj l m

def evCall (E : Env) (f : Nat) (args : List PV) (S : St) (K : St → PV → Option ρ) : Option ρ :=
  prepArgs S (E.call f).modes args fun S1 args1 =>
    optK (showArgs S1 (E.call f).modes args1) fun as =>
      let acc := reach S1 1000 (PV.oidsL as) []
      cond ((allAlive S1 acc && (nodup acc && (closed S1 acc && (within0 (PV.oidsL as) acc && disj (shownIn (E.call f).modes args1) acc)))) && noIters acc S1.objs)
        ((E.call f).run (PV.renL (posOf · acc) as) (acc.map fun o => (S1.ob o).ren (posOf · acc)) fun v l =>
          let back := fun i => cond (Nat.blt i acc.length) (acc.getD i 0) (S1.objs.length + (i - acc.length))
          cond (((shownIn (E.call f).modes args1).isEmpty || (v.noSl && noSlAll l)) && unseen S1)
            (K { S1 with objs := writeBack back acc l S1.objs, touched := cond (E.call f).ro S1.touched (acc ++ S1.touched) } (v.ren back)) none)
        none

/-- rows that become data: nobody writes them any more -/
def giveUp (S : St) : List Nat → St
  | [] => S
  | o :: l => giveUp (cond (S.ob o).alive (S.setOb o .dead) S) l
/-- a call: rows that are only read, of a function that gives back slices, are given up -/
def evCallG (E : Env) (f : Nat) (args : List PV) (S : St) (K : St → PV → Option ρ) : Option ρ :=
  cond (E.give && ((E.call f).slr && !(shownIn (E.call f).modes args).isEmpty))
    (optK (showArgs S (E.call f).modes args) fun as => evCall E f as (giveUp S (shownIn (E.call f).modes args)) K)
    (evCall E f args S K)
def addK (S : St) (al : Nat) (d : Option Tmp) (v : PV) (b : Option OB) (K : St → Option ρ) : Option ρ :=
  match b with
  | none => K (S.put d v)
  | some b => cond (S.fresh al) (K ((S.new al b).put d v)) none

def isStrD : Option TD → Bool
  | some (.data .str) => true
  | _ => false
def isZeros : Option TD → Bool
  | some (.data (.int _)) => true
  | _ => false
/-- what is copied from ys lies in xs from l on, m elements at most -/
def cpy {α : Type} (xs : List α) (l m : Nat) (ys : List α) : List α := xs.take l ++ (ys.take m ++ xs.drop (l + (ys.take m).length))
/-- An operation, whatever it does; what it makes lies at 'al'. -/
def evF (E : Env) (o : Oper) (S : St) (al : Nat) (K : St → Option ρ) : Option ρ :=
  match o.op with
  | .store t a x => match E.td t with
    | some d => match opd S a with
      | .ptr ob p => match S.ob ob with
        | .box e v => cond ((!e.isB || decide (p = [1])) && (match e.off p with | some q => decide (q.2 = d) | none => false) && (d.fits (opd S x) && (opd S x).plain)) (K ((S.setOb ob (.box e (setPath v p (opd S x)))).put o.dst .undef)) none
        | _ => none
      | .elo ob i p => match S.ob ob with
        | .row T xs => cond ((match T.off p with | some q => decide (TD.data q.2 = d) | none => false) && inR i xs.length) (optK (setT T p (rd T.dflt xs i) (opd S x)) fun y => cond (d.fits (opd S x) && (opd S x).plain) (K ((S.setOb ob (.row T (xs.set i.toNat y))).put o.dst .undef)) none) none
        | _ => none
      | _ => none
    | none => none
  | .call c => match c.callee with
    | .builtin .append => match c.args.toList.map (opd S), c.argTypes.toList with
      | [s, x], t :: t2 :: _ => match E.elem t with
        | some T => cond (isZeros (E.td t2))
          (match s, x with
          | .nil, .int .i64 n =>
            cond (decide (0 ≤ n) && decide (n ≤ 4294967296)) (addK S al o.dst (.row al) (some (.row T (List.replicate n.toNat T.dflt))) K) none
          | _, _ => none)
          (cond (isStrD (E.td t2))
          (match x with
          | .str z => cond (decide (T = .int .u8) && Nat.beq t bytesT)
            (match s with
            | .nil => cond (decide (z.size ≤ 4294967296)) (addK S al o.dst (.row al) (some (.bytes z)) K) none
            | .row ob => match S.ob ob with
              | .bytes s0 => cond (S.fresh al && decide (s0.size + z.size ≤ 4294967296)) (K (((S.setOb ob .dead).new al (.bytes (s0 ++ z))).put o.dst (.row al))) none
              | _ => none
            | _ => none) none
          | _ => none)
          (match E.elem t2 with
          | some _ => optK (asData S T x) fun ys =>
            match s with
            | .nil => cond (decide (ys.length ≤ 4294967296)) (addK S al o.dst (.row al) (some (.row T ys)) K) none
            | .row ob => match S.ob ob with
              | .row U zs => optK (castL U T zs) fun xs =>
                cond (S.fresh al && decide (xs.length + ys.length ≤ 4294967296)) (K (((S.setOb ob .dead).new al (.row T (xs ++ ys))).put o.dst (.row al))) none
              | _ => none
            | _ => none
          | none => none))
        | none => none
      | _, _ => none
    | .builtin .clear => match c.args.toList.map (opd S), c.argTypes.toList with
      | [s], t :: _ => match E.elem t with
        | some T => match s with
          | .sub ob l h => match S.ob ob with
            | .row U zs => optK (castL U T zs) fun xs =>
              K ((S.setOb ob (.row T (xs.take l.toNat ++ (List.replicate (h - l).toNat T.dflt ++ xs.drop h.toNat)))).put o.dst (.tup []))
            | _ => none
          | _ => none
        | none => none
      | _, _ => none
    | .builtin .copy => match c.args.toList.map (opd S), c.argTypes.toList with
      | [s, x], t :: _ => match E.elem t with
        | some T => optK (asData S T x) fun ys => match s with
          | .sub ob l h => match S.ob ob with
            | .row U zs => optK (castL U T zs) fun xs =>
              cond (Nat.ble (l.toNat + (h - l).toNat) xs.length) (K ((S.setOb ob (.row T (cpy xs l.toNat (h - l).toNat ys))).put o.dst (.int .i64 (min (h - l).toNat ys.length : Nat)))) none
            | _ => none
          | .row ob => match S.ob ob with
            | .row U zs => optK (castL U T zs) fun xs =>
              K ((S.setOb ob (.row T (cpy xs 0 xs.length ys))).put o.dst (.int .i64 (min xs.length ys.length : Nat)))
            | _ => none
          | _ => none
        | none => none
      | _, _ => none
    | .builtin .delete => match c.args.toList.map (opd S), c.argTypes.toList with
      | [m, k], t :: _ => match E.td t with
        | some (.map T U) => match m with
          | .mp ob => match S.ob ob with
            | .map T' U' c => optK (castM T' U' T U c) fun c => optK (implode T k) fun k =>
              cond (noIter ob S.objs) (K ((S.setOb ob (.map T U (mdel (keq T) k c.1, c.2))).put o.dst (.tup []))) none
            | _ => none
          | _ => none
        | _ => none
      | _, _ => none
    | .builtin _ => evP E o S al fun v b => addK S al o.dst v b K
    | .value f => match opd S f with
      | .func g caps => evCallG E g (c.args.toList.map (opd S) ++ caps) S fun S' v => K (S'.put o.dst v)
      | _ => none
    | _ => none
  | .mapUpdate t m k x | .insert t m k x => match E.td t with
    | some (.map T U) => match opd S m with
      | .mp ob => match S.ob ob with
        | .map T' U' c => optK (castM T' U' T U c) fun c => optK (implode T (opd S k)) fun k => optK (implode U (opd S x)) fun x =>
          cond (noIter ob S.objs) (K ((S.setOb ob (.map T U (mput (keq T) k x c))).put o.dst .undef)) none
        | _ => none
      | _ => none
    | _ => none
  | .mapEntry t m k => match E.td t with
    | some (.map T U) => match opd S m with
      | .mp ob => match S.ob ob with
        | .map T' U' c => optK (castM T' U' T U c) fun c => optK (implode T (opd S k)) fun k =>
          cond (noIter ob S.objs) (K ((S.setOb ob (.map T U (mopen (keq T) U.dflt k c))).put o.dst (.tup [explode U (mget (keq T) U.dflt k c.1), .int .i64 (mborn (keq T) c.2 k c.1 : Int)]))) none
        | _ => none
      | _ => none
    | _ => none
  | .entryStore t m b x => match E.td t with
    | some (.map T U) => match opd S m with
      | .mp ob => match S.ob ob with
        | .map T' U' c => optK (castM T' U' T U c) fun c => optK (asInt? .i64 (opd S b)) fun b => optK (implode U (opd S x)) fun x =>
          cond (noIter ob S.objs && bhas b c.1) (K ((S.setOb ob (.map T U (bput b x c.1, c.2))).put o.dst .undef)) none
        | _ => none
      | _ => none
    | _ => none
  | .slice t a lo hi mx => match opd S a, mx with
    | .row ob, none => cond E.view (evP E o S al fun v b => addK S al o.dst v b K) (match S.ob ob, E.elem t with
      | .row T xs, some U => evP.boundK S lo (0 : Int) fun l => evP.boundK S hi (xs.length : Int) fun h =>
        cond (S.fresh al && (decide (U = T) && (decide (0 ≤ l) && (decide (l ≤ h) && decide (h ≤ (xs.length : Int))))))
          (K (((S.setOb ob .dead).new al (.row T ((xs.take h.toNat).drop l.toNat))).put o.dst (.row al))) none
      | _, _ => none)
    | _, _ => evP E o S al fun v b => addK S al o.dst v b K
  | _ => evP E o S al fun v b => addK S al o.dst v b K

/-- the guard of an operation: the variable that it asks, and what it wants there -/
def guardOf (all : List Oper) (o : Oper) : Option (Option (Nat × Bool)) :=
  match o.guard with
  | none => some none
  | some (i, want) => match (all[i]?).bind (·.dst) with
    | none => none
    | some g => some (some (g, want))

/-- is an operation wanted? Where that isn't known, both ways. -/
def wantK (all : List Oper) (o : Oper) (S : St) (yes no : St → Option ρ) : Option ρ :=
  match guardOf all o with
  | none => none
  | some none => yes S
  | some (some (g, want)) => match S.slots.getD g .undef with
    | .bool b =>
      cond b
        (cond want (yes { S with slots := S.slots.set g (.bool true) }) (no { S with slots := S.slots.set g (.bool true) }))
        (cond want (no { S with slots := S.slots.set g (.bool false) }) (yes { S with slots := S.slots.set g (.bool false) }))
    | .undef => no S
    | _ => none

/-- a region whose operations go as they stand -/
def evOps (E : Env) (all : List Oper) : List Oper → St → (St → Option ρ) → Option ρ
  | [], S, K => K S
  | o :: l, S, K => wantK all o S (fun S => evF E o S S.objs.length fun S' => evOps E all l S' K) (fun S => evOps E all l (S.put o.dst .undef) K)
end
end Go.Vm

/- Vm, part 3: regions that draw their order, joins, loops, control. Own work. -/
namespace Go.Vm

/-! ### A region that draws its order -/
def tmpsOf (xs : Array Operand) : List Nat := xs.toList.filterMap fun x => match x with | .tmp t => some t | _ => none
def readsOf (all : List Oper) (o : Oper) : List Nat :=
  tmpsOf o.op.operands ++ (match guardOf all o with | some (some (g, _)) => [g] | _ => [])
def bindsAlways (e : Edge) : Bool := match e.ground with | .textOnly _ => false | .gcOnly _ => false | _ => true
def addN (x : Nat) (r : List Nat) : List Nat := cond (mem x r) r (x :: r)
def adds : List Nat → List Nat → List Nat
  | [], r => r
  | x :: l, r => adds l (addN x r)
/-- what stands before each operation, whatever the order -/
def befores : List Oper → List (List Nat) → List (List Nat)
  | [], acc => acc
  | o :: l, acc => befores l (acc ++ [(o.after.toList.filter bindsAlways).foldl (fun r e => addN e.on (adds (acc.getD e.on []) r)) []])
def isQuiet (E : Env) (o : Oper) : Bool :=
  match o.op with
  | .store .. => false
  | .mapUpdate .. | .insert .. | .mapEntry .. | .entryStore .. => false
  | .call c => match c.callee with
    | .value (.func f) => (E.call f).quiet
    | .value (.tmp t) => match E.fv t with
      | some g => (E.call g).quiet
      | none => false
    | .builtin .len | .builtin .min | .builtin .max => true
    | _ => false
  | _ => true
/-- an operation on variables alone (and on what kind of object lies where) -/
def isPureOp (o : Oper) : Bool :=
  match o.op with
  | .move _ => true
  | .assign _ => true
  | .binOp .. => true
  | .convert .. => true
  | .fieldAddr .. => true
  | .indexAddr .. => true
  | .build .. => true
  | .extract .. => true
  | .pick .. => true
  | _ => false
/-- a store, or a copy -/
def isStore0 (o : Oper) : Bool :=
  match o.op with
  | .store .. => (match o.dst with | none => true | some _ => false) && (match o.guard with | none => true | some _ => false)
  | .call c => (match c.callee with | .builtin .copy => true | _ => false) && (match o.guard with | none => true | some _ => false)
  | _ => false
def isSt (o : Oper) : Bool :=
  match o.op with
  | .store .. => true
  | _ => false
/-- two operations that may go in either order, if neither reads what the other gives -/
def mayPair (E : Env) (o p : Oper) : Bool := isQuiet E o && isQuiet E p || (isPureOp o && isStore0 p || isStore0 o && isPureOp p)
/-- a load: where its address lies -/
def loadAt (o : Oper) : Option Nat :=
  match o.op with
  | .load _ a => match a with
    | .tmp t => some t
    | _ => none
  | _ => none
/-- nothing from i on, before j, is put into this variable -/
def keptFrom (a i j : Nat) : Nat → List Oper → Bool
  | _, [] => true
  | m, q :: l => (cond (Nat.ble i m && Nat.blt m j) (match q.dst with | some d => !Nat.beq d a | none => true) true) && keptFrom a i j (m + 1) l
/-- a store (j), and a load (i) that stands before it in the text -/
def mayLate (all : List Oper) (i j : Nat) (o p : Oper) : Bool :=
  match loadAt p with
  | some a => isStore0 o && (isSt o && keptFrom a i j 0 all)
  | none => false
/-- an operation on variables alone -/
def isVarOp (o : Oper) : Bool :=
  match o.op with
  | .move _ => true
  | .assign _ => true
  | .binOp .. => true
  | .convert .. => true
  | .extract .. => true
  | .pick .. => true
  | _ => false
/-- an operation at an address: where this lies -/
def addrAt (o : Oper) : Option Nat :=
  match o.op with
  | .load _ a => match a with
    | .tmp t => some t
    | _ => none
  | .nilCheck a => match a with
    | .tmp t => some t
    | _ => none
  | .fieldAddr _ a _ => match a with
    | .tmp t => some t
    | _ => none
  | _ => none
def allBefore (bs : List Nat) : Nat → Bool
  | 0 => true
  | n + 1 => mem n bs && allBefore bs n
/-- an append to a slice, that need not wait for all before it -/
def isApp (E : Env) (bf : List (List Nat)) (j : Nat) (o : Oper) : Bool :=
  match o.op with
  | .call c => (match c.callee with | .builtin .append => true | _ => false) && ((match o.guard with | none => true | some _ => false) && ((match c.argTypes.toList with | _ :: t2 :: _ => !isZeros (E.td t2) && !isStrD (E.td t2) | _ => false) && !allBefore (bf.getD j []) j))
  | _ => false
/-- .. and operations at addresses of boxes, or on variables, that stand before it in the text -/
def mayApp (E : Env) (all : List Oper) (bf : List (List Nat)) (i j : Nat) (o p : Oper) : Bool :=
  isApp E bf j o && (isVarOp p || (match addrAt p with | some t => keptFrom t i j 0 all | none => false))
def boxAt (S : St) : PV → Bool
  | .ptr o _ => match S.ob o with
    | .box _ _ => true
    | _ => false
  | _ => false
def lateA (bs : List Nat) (j : Nat) (S : St) : Nat → List Oper → Bool
  | _, [] => true
  | i, p :: l => (cond (Nat.blt i j) (cond (mem i bs) true (match addrAt p with | some t => boxAt S (S.slots.getD t .undef) | none => true)) true) && lateA bs j S (i + 1) l
/-- two addresses: of different objects? -/
def apartPV : PV → PV → Bool
  | .ptr o _, w => match w with
    | .ptr o' _ => !Nat.beq o o'
    | .elo o' _ _ => !Nat.beq o o'
    | _ => false
  | .elo o _ _, w => match w with
    | .ptr o' _ => !Nat.beq o o'
    | .elo o' _ _ => !Nat.beq o o'
    | _ => false
  | .el _ _, _ => true
  | .undef, _ => true
  | _, _ => false
/-- loads that a store need not wait for are of other objects -/
def lateOK (bs : List Nat) (j : Nat) (a : PV) (S : St) : Nat → List Oper → Bool
  | _, [] => true
  | i, p :: l => (cond (Nat.blt i j) (cond (mem i bs) true (match loadAt p with | some t => apartPV (S.slots.getD t .undef) a | none => true)) true) && lateOK bs j a S (i + 1) l
def lateAll (E : Env) (all : List Oper) (bf : List (List Nat)) (j : Nat) (o : Oper) (S : St) : Bool :=
  match o.op with
  | .store _ a _ => lateOK (bf.getD j []) j (opd S a) S 0 all
  | .call _ => cond (isApp E bf j o) (lateA (bf.getD j []) j S 0 all) true
  | _ => true
/-- is there one further down that need not wait for j? -/
def laterFree (j : Nat) : List (List Nat) → Bool
  | [] => false
  | b :: l => !mem j b || laterFree j l
/-- a call of an inlined function, that another operation need not wait for -/
def bigFn (E : Env) (c : Call) : Option Nat :=
  match c.callee with
  | .value f => match f with
    | .func g => some g
    | .tmp t => E.fv t
    | _ => none
  | _ => none
def isBig (E : Env) (bf : List (List Nat)) (j : Nat) (o : Oper) : Bool :=
  match o.op with
  | .call c => match bigFn E c with
    | some g => (match o.guard with | none => true | some _ => false) && (!(E.call g).quiet && ((E.call g).modes.isEmpty && (laterFree j (bf.drop (j + 1)) || !allBefore (bf.getD j []) j)))
    | none => false
  | _ => false
def hasBig (E : Env) (bf : List (List Nat)) : Nat → List Oper → Bool
  | _, [] => false
  | j, o :: l => isBig E bf j o || hasBig E bf (j + 1) l
def seesTop (E : Env) (bf : List (List Nat)) (bs : List Nat) (i : Nat) : Nat → List Oper → Bool
  | _, [] => true
  | k, p :: l => cond (isBig E bf k p) (cond (Nat.blt k i) (mem k bs) (Nat.beq k i || mem i (bf.getD k []))) true && seesTop E bf bs i (k + 1) l
/-- what operation j may see of what the region has made (all.length: what calls have made) -/
def seen (E : Env) (all : List Oper) (bf : List (List Nat)) (j : Nat) : List Nat :=
  cond (seesTop E bf (bf.getD j []) j 0 all) (all.length :: bf.getD j []) (bf.getD j [])
def isIter : OB → Bool
  | .iter .. => true
  | _ => false
def noItO : Option OB → Bool
  | none => true
  | some b => !isIter b
def noItFrom (S : St) : Nat → Nat → Bool
  | _, 0 => true
  | i, k + 1 => !isIter (S.ob i) && noItFrom S (i + 1) k
/-- May operation j (o, its predecessors bs) stand with those that come before it in the text (i: the next to be asked)? -/
def standsWith (E : Env) (all : List Oper) (bf : List (List Nat)) (j : Nat) (o : Oper) : Nat → List Oper → Bool
  | _, [] => true
  | i, p :: l =>
    cond (Nat.blt i j)
      ((cond (mem i (bf.getD j [])) true
        ((((mayPair E o p || (mayLate all i j o p || mayApp E all bf i j o p)) || (isQuiet E o && isBig E bf i p)) || (isBig E bf j o && isQuiet E p))
          && (match p.dst with | some d => !mem d (readsOf all o) | none => true)
          && (match o.dst with | some d => !mem d (readsOf all p) && (match p.dst with | some d' => !Nat.beq d d' | none => true) | none => true)))
        && standsWith E all bf j o (i + 1) l) true
def drawOK (E : Env) (all : List Oper) (bf : List (List Nat)) : Nat → List Oper → Bool
  | _, [] => true
  | j, o :: l => (boundL j (bf.getD j []) && standsWith E all bf j o 0 all) && drawOK E all bf (j + 1) l
/-- the state as an operation may see it: what others of its region have made that need not stand before it is not there -/
def maskFrom (base n : Nat) (bs : List Nat) : Nat → List OB → List OB
  | _, [] => []
  | i, b :: l => (cond (Nat.blt i base || cond (Nat.ble (base + n) i) (mem n bs) (mem (i - base) bs)) b .dead) :: maskFrom base n bs (i + 1) l
def St.mask (S : St) (base n : Nat) (bs : List Nat) : St := { S with objs := maskFrom base n bs 0 S.objs }
def St.add (S : St) (al : Nat) (d : Option Tmp) (v : PV) (b : Option OB) : St := (match b with | none => S | some b => S.new al b).put d v
section
variable {ρ : Type}
def quietTmp (S : St) (t g : Nat) : Option Nat :=
  match S.slots.getD t .undef with
  | .func g' caps => match caps with
    | [] => cond (Nat.beq g' g) (some g) none
    | _ :: _ => none
  | _ => none
/-- the function that is called -/
def quietCallee (E : Env) (S : St) (c : Call) : Option Nat :=
  match c.callee with
  | .value f => match f with
    | .func g => some g
    | .tmp t => (E.fv t).bind fun g => quietTmp S t g
    | _ => none
  | _ => none
def evQuiet (E : Env) (o : Oper) (S : St) (al : Nat) (K : PV → Option OB → Option ρ) : Option ρ :=
  match o.op with
  | .call c => match quietCallee E S c with
    | some g =>
      optK (showArgs S (E.call g).modes (c.args.toList.map (opd S))) fun as =>
        cond (PV.oidsL as).isEmpty
          ((E.call g).run as [] fun v l =>
            cond ((shownIn (E.call g).modes (c.args.toList.map (opd S))).isEmpty || (v.noSl && noSlAll l))
              (match l with
              | [] => cond v.oids.isEmpty (K v none) none
              | [b] => cond (b.alive && (boundL 1 v.oids && boundL 1 b.oids)) (K (v.ren fun _ => al) (some (b.ren fun _ => al))) none
              | _ => none) none) none
    | none => evP E o S al K
  | _ => evP E o S al K
/-- does a value lead to such alone as its operation may see? -/
def okOid (base n j : Nat) (bs : List Nat) : List Nat → Bool
  | [] => true
  | x :: l => (Nat.blt x base || (Nat.beq x (base + j) || cond (Nat.ble (base + n) x) (mem n bs) (mem (x - base) bs))) && okOid base n j bs l
def obOids : Option OB → List Nat
  | none => []
  | some b => b.oids
/-- nothing leads to what is made later in the region -/
def okPast (lo hi : Nat) : List Nat → Bool
  | [] => true
  | x :: l => (Nat.ble x lo || Nat.ble hi x) && okPast lo hi l
def okPastO (lo hi : Nat) : List OB → Bool
  | [] => true
  | b :: l => okPast lo hi b.oids && okPastO lo hi l
def deadFrom (S : St) : Nat → Nat → Bool
  | _, 0 => true
  | i, k + 1 => !(S.ob i).alive && deadFrom S (i + 1) k
def pastOK (S : St) (base n j : Nat) : Bool :=
  Nat.ble (base + n) S.objs.length && (okPast (base + j) (base + n) (PV.oidsL S.slots) && (okPastO (base + j) (base + n) S.objs && (deadFrom S (base + j + 1) (n - (j + 1)) && unseen S)))
/-- where a call's objects lie -/
def backOf (acc : List Nat) (n i : Nat) : Nat := cond (Nat.blt i acc.length) (acc.getD i 0) (n + (i - acc.length))
/-- what is handed to the function that is called: its arguments, and what it has captured -/
def bigArgs (c : Call) (g : Nat) (M : St) : Option (List PV) :=
  match c.callee with
  | .value f => match opd M f with
    | .func g' caps => cond (Nat.beq g' g) (some (c.args.toList.map (opd M) ++ caps)) none
    | _ => none
  | _ => none
/-- a call of an inlined function: it makes objects, and leaves what there was -/
def bigK (E : Env) (o : Oper) (M : St) (K : PV → List OB → Option ρ) : Option ρ :=
  match o.op with
  | .call c => match bigFn E c with
    | some g => match bigArgs c g M with
      | some as =>
        cond (((reach M 1000 (PV.oidsL as) []).isEmpty || (E.call g).ro) && ((allAlive M (reach M 1000 (PV.oidsL as) []) && (nodup (reach M 1000 (PV.oidsL as) []) && (closed M (reach M 1000 (PV.oidsL as) []) && (within0 (PV.oidsL as) (reach M 1000 (PV.oidsL as) []) && disj [] (reach M 1000 (PV.oidsL as) []))))) && noIters (reach M 1000 (PV.oidsL as) []) M.objs))
          ((E.call g).run (PV.renL (posOf · (reach M 1000 (PV.oidsL as) [])) as) ((reach M 1000 (PV.oidsL as) []).map fun o => (M.ob o).ren (posOf · (reach M 1000 (PV.oidsL as) []))) fun v l =>
            K (v.ren (backOf (reach M 1000 (PV.oidsL as) []) M.objs.length)) ((l.drop (reach M 1000 (PV.oidsL as) []).length).map (OB.ren (backOf (reach M 1000 (PV.oidsL as) []) M.objs.length)))) none
      | none => none
    | none => none
  | _ => none
def St.app (S : St) (d : Option Tmp) (v : PV) (new : List OB) : St := ({ S with objs := S.objs ++ new } : St).put d v
def oidsO : List OB → List Nat
  | [] => []
  | b :: l => b.oids ++ oidsO l
def evDraw (E : Env) (all : List Oper) (bf : List (List Nat)) (base : Nat) : Nat → List Oper → St → (St → Option ρ) → Option ρ
  | _, [], S, K => K S
  | j, o :: l, S, K => wantK all o S
      (fun S => cond (isQuiet E o)
        (evQuiet E o (S.mask base all.length (seen E all bf j)) (base + j) fun v b =>
          cond ((okOid base all.length j (seen E all bf j) (v.oids ++ obOids b) && boundL S.objs.length (v.oids ++ obOids b)) && cond (hasBig E bf 0 all) (noItO b) true) (evDraw E all bf base (j + 1) l (S.add (base + j) o.dst v b) K) none)
        (cond (isBig E bf j o)
          (bigK E o (S.mask base all.length (seen E all bf j)) fun v new =>
            cond (okOid base all.length j (seen E all bf j) (v.oids ++ oidsO new) && boundL (S.objs.length + new.length) (v.oids ++ oidsO new)) (evDraw E all bf base (j + 1) l (S.app o.dst v new) K) none)
          (cond (lateAll E all bf j o S) (evF E o S (base + j) fun S' => cond (pastOK S' base all.length j && cond (hasBig E bf 0 all) (noItFrom S' base all.length) true) (evDraw E all bf base (j + 1) l S' K) none) none)))
      (fun S => cond (isQuiet E o) (evDraw E all bf base (j + 1) l (S.put o.dst .undef) K)
        (cond (pastOK (S.put o.dst .undef) base all.length j && cond (hasBig E bf 0 all) (noItFrom (S.put o.dst .undef) base all.length) true) (evDraw E all bf base (j + 1) l (S.put o.dst .undef) K) none))
def evRegion (E : Env) (ops : List Oper) (draw : Bool) (S : St) (K : St → Option ρ) : Option ρ :=
  cond draw
    (cond (unseen S && drawOK E ops (befores ops []) 0 ops)
      (evDraw E ops (befores ops []) S.objs.length 0 ops { S with objs := S.objs ++ List.replicate ops.length OB.dead } K) none)
    (evOps E ops ops S K)
end

/-! ### The form of a state, where ways meet -/
mutual
inductive Sh where
  | int (k : IntKind) | bool | str | sl (T : Ty) | row (T : Ty) | box (d : TD) (s : Sh) | agg (l : Shs) | map (K V : Ty) | bytes
inductive Shs where
  | nil | cons (s : Sh) (l : Shs)
  /-- a cell, whatever it holds -/
  | skip (l : Shs)
end
mutual
def Sh.den : Sh → Type
  | .int _ => Int | .bool => Bool | .str => ByteArray | .sl T => List T.den | .row T => List T.den | .box _ s => s.den | .agg l => l.den | .map K V => MapC K V | .bytes => ByteArray
def Shs.den : Shs → Type
  | .nil => Unit | .cons s l => s.den × l.den | .skip l => l.den
end
/-- one cell, whatever it holds -/
def PV.isOne : PV → Bool
  | .any => true | .nilc _ => true | .ptr _ _ => true
  | _ => false
section
variable {ρ : Type}
mutual
/-- what a value of this form holds, and the objects that are taken for it (none: an empty row takes none) -/
def Sh.take (S : St) : (s : Sh) → PV → (s.den → List (Option Nat) → Option ρ) → Option ρ
  | .int k, v, K => match v with
    | .int k' x => cond (decide (k = k')) (K x []) none
    | _ => none
  | .bool, v, K => match v with
    | .bool b => K b []
    | _ => none
  | .str, v, K => match v with
    | .str s => K s []
    | _ => none
  | .sl T, v, K => match v with
    | .sl U xs => optK (castL U T xs) fun ys => K ys []
    | .nil => K [] []
    | _ => none
  | .row T, v, K => match v with
    | .row o => match S.ob o with
      | .row U xs => optK (castL U T xs) fun ys => K ys [some o]
      | _ => none
    | .nil => K [] [none]
    | _ => none
  | .box d s, v, K => match v with
    | .ptr o [] => match S.ob o with
      | .box d' v => cond (decide (d = d')) (Sh.take S s v fun y l => K y (l ++ [some o])) none
      | _ => none
    | _ => none
  | .agg l, v, K => match v with
    | .agg vs => Shs.take S l vs K
    | _ => none
  | .map T U, v, K => match v with
    | .mp o => match S.ob o with
      | .map T' U' c => optK (castM T' U' T U c) fun c => K c [some o]
      | _ => none
    | _ => none
  | .bytes, v, K => match v with
    | .row o => match S.ob o with
      | .bytes s => K s [some o]
      | _ => none
    | .nil => K ByteArray.empty [none]
    | _ => none
def Shs.take (S : St) : (s : Shs) → List PV → (s.den → List (Option Nat) → Option ρ) → Option ρ
  | .nil, vs, K => match vs with
    | [] => K () []
    | _ :: _ => none
  | .cons s l, vs, K => match vs with
    | v :: vs => Sh.take S s v fun y a => Shs.take S l vs fun z b => K (y, z) (a ++ b)
    | [] => none
  | .skip l, vs, K => match vs with
    | v :: vs => cond v.isOne (Shs.take S l vs K) none
    | [] => none
end
end
mutual
/-- a value of this form; objects are laid behind those that there are -/
def Sh.lay : (s : Sh) → s.den → List OB → PV × List OB
  | .int k, x, l => (.int k x, l) | .bool, b, l => (.bool b, l) | .str, s, l => (.str s, l) | .sl T, xs, l => (.sl T xs, l)
  | .row T, xs, l => (.row l.length, l ++ [.row T xs])
  | .box d s, y, l => let r := Sh.lay s y l; (.ptr r.2.length [], r.2 ++ [.box d r.1])
  | .agg s, y, l => let r := Shs.lay s y l; (.agg r.1, r.2)
  | .map T U, c, l => (.mp l.length, l ++ [.map T U c])
  | .bytes, s, l => (.row l.length, l ++ [.bytes s])
def Shs.lay : (s : Shs) → s.den → List OB → List PV × List OB
  | .nil, _, l => ([], l)
  | .cons s t, y, l => let r := Sh.lay s y.1 l; let q := Shs.lay t y.2 r.2; (r.1 :: q.1, q.2)
  | .skip t, y, l => let q := Shs.lay t y l; (.any :: q.1, q.2)
end
/-- The form of a state: variables that hold something (by form); objects that were there and hold something else now (a box, a row); objects that are used up. -/
structure SSh where
  slots : List (Nat × Sh)
  objs : List (Nat × Sh)
  gone : List Nat
def shsOf : List (Nat × Sh) → Shs
  | [] => .nil
  | p :: l => .cons p.2 (shsOf l)
abbrev SSh.den (s : SSh) : Type := (shsOf s.slots).den × (shsOf s.objs).den
section
variable {ρ : Type}
/-- what an object holds -/
def obTake (S : St) : (s : Sh) → OB → (s.den → List (Option Nat) → Option ρ) → Option ρ
  | .row T, b, K => match b with
    | .row U xs => optK (castL U T xs) fun ys => K ys []
    | _ => none
  | .box d s, b, K => match b with
    | .box d' v => cond (decide (d = d')) (Sh.take S s v K) none
    | _ => none
  | .map T U, b, K => match b with
    | .map T' U' c => optK (castM T' U' T U c) fun c => K c []
    | _ => none
  | _, _, _ => none
def objsTake (S : St) : (l : List (Nat × Sh)) → ((shsOf l).den → List (Option Nat) → Option ρ) → Option ρ
  | [], K => K () []
  | p :: r, K => obTake S p.2 (S.ob p.1) fun y a => objsTake S r fun z b => K (y, z) (a ++ b)
def slotsTake (S : St) : (l : List (Nat × Sh)) → ((shsOf l).den → List (Option Nat) → Option ρ) → Option ρ
  | [], K => K () []
  | p :: r, K => Sh.take S p.2 (S.slots.getD p.1 .any) fun y a => slotsTake S r fun z b => K (y, z) (a ++ b)
/-- objects of before the beginning (n0 there were) are of l -/
def within (n0 : Nat) (l : List Nat) : List Nat → Bool
  | [] => true
  | o :: r => (Nat.ble n0 o || mem o l) && within n0 l r
def used : List (Option Nat) → List Nat
  | [] => []
  | some o :: l => o :: used l
  | none :: l => used l
/-- parts of rows become rows -/
def settle : List (Nat × Sh) → St → (St → Option ρ) → Option ρ
  | [], S, K => K S
  | p :: r, S, K => match p.2 with
    | .row _ => match S.slots.getD p.1 .any with
      | .sub o lo hi => match S.ob o with
        | .row U xs => cond (S.fresh S.objs.length) (settle r (((S.setOb o .dead).new S.objs.length (.row U ((xs.take hi.toNat).drop lo.toNat))).put (some p.1) (.row S.objs.length)) K) none
        | _ => none
      | _ => settle r S K
    | _ => settle r S K
/-- What a state of this form holds. n0: how many objects there were at the beginning. -/
def SSh.take0 (s : SSh) (n0 : Nat) (S : St) (K : s.den → Option ρ) : Option ρ :=
  objsTake S s.objs fun z b => slotsTake S s.slots fun y a =>
    cond (nodup (used (b ++ a)) && (within n0 s.gone (used (b ++ a)) && (within n0 (s.gone ++ s.objs.map (·.1)) S.touched && Nat.ble n0 S.objs.length)))
      (K (y, z)) none
def SSh.take (s : SSh) (n0 : Nat) (S : St) (K : s.den → Option ρ) : Option ρ := settle s.slots S fun S => s.take0 n0 S K
end
/-- what an object becomes: its new content (its number stays), what lies within laid behind -/
def layOb : (s : Sh) → s.den → Nat → List OB → List OB
  | .row T, xs, o, l => l.set o (.row T xs)
  | .map T U, c, o, l => l.set o (.map T U c)
  | .box d s, y, o, l => let r := Sh.lay s y l; r.2.set o (.box d r.1)
  | _, _, _, l => l
def layObs : (l : List (Nat × Sh)) → (shsOf l).den → List OB → List OB
  | [], _, l => l
  | p :: r, y, l => layObs r y.2 (layOb p.2 y.1 p.1 l)
def laySlots : (l : List (Nat × Sh)) → (shsOf l).den → List PV → List OB → List PV × List OB
  | [], _, vs, l => (vs, l)
  | p :: r, y, vs, l => let q := Sh.lay p.2 y.1 l; laySlots r y.2 (vs.set p.1 q.1) q.2
def killAll : List Nat → List OB → List OB
  | [], l => l
  | o :: r, l => killAll r (l.set o .dead)
def anyAll : List Nat → List PV → List PV
  | [], l => l
  | t :: r, l => anyAll r (l.set t .any)
/-- the state of this form that holds this; ds: the variables that may have been written -/
def SSh.lay (s : SSh) (S : St) (ds : List Nat) (y : s.den) : St :=
  let l := layObs s.objs y.2 (killAll s.gone S.objs)
  let q := laySlots s.slots y.1 (anyAll ds S.slots) l
  { slots := q.1, objs := q.2, touched := s.gone ++ s.objs.map (·.1) }
/-- may this form be used, from this state on? -/
def SSh.fit (s : SSh) (S : St) (ds : List Nat) : Bool :=
  unseen S && (within0 (s.slots.map (·.1)) ds && (boundL S.objs.length (s.objs.map (·.1)) && (nodup (s.objs.map (·.1)) && disj (s.objs.map (·.1)) s.gone)))

/-! ### Control -/
def dstsOps : List Oper → List Nat
  | [] => []
  | o :: l => (match o.dst with | some d => [d] | none => []) ++ dstsOps l
def dsts : Code → List Nat
  | .region _ ops _ => dstsOps ops.toList
  | .seq a b => dsts a ++ dsts b
  | .cond c a b => (match c with | .tmp t => [t] | _ => []) ++ dsts a ++ dsts b
  | .block _ b => dsts b
  | .loop b => dsts b
  | _ => []
structure Hints where
  /-- by the enclosing block's number: the form at the loop's head, the block that it is left to, the form there -/
  loop : Nat → Option (SSh × Nat × SSh)
  /-- by the region's number -/
  region : Nat → Option SSh
  /-- by the variable that is asked -/
  cond : Nat → Option SSh
  /-- by the block's number -/
  block : Nat → Option SSh
structure Kt (σ : Type) where
  n : St → Option σ
  x : Nat → St → Option σ
  r : St → Option σ
def iter {σ τ : Type} : Nat → (σ → Option (σ ⊕ τ)) → σ → Option τ
  | 0, _, _ => none
  | k + 1, f, s => (f s).bind fun r => match r with
    | .inl s' => iter k f s'
    | .inr t => some t
/-- round by round -/
def unroll {σ : Type} : Nat → (St → (St → Option σ) → Option σ) → St → Option σ
  | 0, _, _ => none
  | m + 1, f, S => f S (unroll m f)
/-- the same state, but other objects count as touched -/
def St.touch (S : St) (l : List Nat) : St := { S with touched := l }
/-- ways that meet again: what holds there is handed on as one value -/
def meetK {σ : Type} (h : Option SSh) (ds : List Nat) (S : St) (K : Kt σ) (go : {τ : Type} → St → Kt τ → Option τ) : Option σ :=
  match h with
  | none => go S K
  | some s =>
    cond (s.fit S ds)
      ((go (τ := σ ⊕ s.den) (S.touch [])
        { n := fun S' => s.take S.objs.length S' fun y => some (.inr y)
          x := fun j S' => (K.x j (S'.touch (S'.touched ++ S.touched))).map .inl
          r := fun S' => (K.r (S'.touch (S'.touched ++ S.touched))).map .inl }).bind fun r =>
      match r with
      | .inl z => some z
      | .inr y => K.n ((s.lay S ds y).touch (s.gone ++ s.objs.map (·.1) ++ S.touched))) none

/-! ### Ranges over maps -/
open Classical in
/-- what comes of a list in whatever order, if it is one thing -/
noncomputable def anyOrder {α τ : Type} (es : List α) (F : List α → Option τ) : Option τ := if ∀ l, l.Perm es → F l = F es then F es else none
/-- a range over a list: what is behind, what is ahead -/
def rangeM {α Y T : Type} (f : List α → α → Y → Option (Y ⊕ T)) (fin : List α → Y → Option (Y ⊕ T)) : List α → List α → Y → Option T
  | [], D, y => (fin D y).bind fun r => match r with
    | .inl _ => none
    | .inr t => some t
  | e :: l, D, y => (f D e y).bind fun r => match r with
    | .inl y' => rangeM f fin l (D ++ [e]) y'
    | .inr t => some t
/-- a range over a map: the range, its step, the test -/
def rangeOps (ops : List Oper) : Option (Nat × Nat × Nat) :=
  match ops with
  | [o1, o2] => match o1.op, o1.dst, o1.guard, o2.op, o2.dst, o2.guard with
    | .next x false, some tn, none, .extract y 0, some tm, none => match x, y with
      | .tmp ti, .tmp tn' => cond (Nat.beq tn tn' && !Nat.beq tn tm) (some (ti, tn, tm)) none
      | _, _ => none
    | _, _, _, _, _, _ => none
  | _ => none
def rangeOf : Code → Option (Nat × Nat × Nat)
  | .seq a _ => match a with
    | .region _ ops draw => cond draw none (rangeOps ops.toList)
    | _ => none
  | _ => none
/-- what is ranged over: the range, the map, its types, since when, the entries -/
structure RangeAt where
  o : Nat
  m : Nat
  K : Ty
  V : Ty
  since : Nat
  es : List (K.den × V.den × Nat)
def rangeAt (S : St) (ti : Nat) : Option RangeAt :=
  match S.slots.getD ti .undef with
  | .it o => match S.ob o with
    | .iter m T U since seen _ => match S.ob m with
      | .map T' U' c => (castM T' U' T U c).bind fun c => match seen with
        | [] => some ⟨o, m, T, U, since, c.1⟩
        | _ :: _ => none
      | _ => none
    | _ => none
  | _ => none
def rangeFit (hd out : SSh) (S : St) (ds : List Nat) (ti tn o m : Nat) : Bool :=
  Nat.blt tn S.slots.length && (!mem ti ds && (disj [o, m] (hd.gone ++ hd.objs.map (·.1)) && (disj [o, m] (out.gone ++ out.objs.map (·.1)) && !Nat.beq o m)))
/-- in a round -/
def St.round (S : St) (hd : SSh) (ds : List Nat) (tn tm : Nat) (q : RangeAt) (D : List (q.K.den × q.V.den × Nat)) (e : q.K.den × q.V.den × Nat) (y : hd.den) : St :=
  ((hd.lay { S with objs := S.objs.set q.o (.iter q.m q.K q.V q.since ((D ++ [e]).map (·.2.2)) (some (e.1, e.2.1))) } ds y).put (some tn) (.tup [.bool true, explode q.K e.1, explode q.V e.2.1])).put (some tm) (.bool true)
/-- behind the last round -/
def St.over (S : St) (hd : SSh) (ds : List Nat) (tn tm : Nat) (q : RangeAt) (D : List (q.K.den × q.V.den × Nat)) (y : hd.den) : St :=
  ((hd.lay { S with objs := S.objs.set q.o (.iter q.m q.K q.V q.since (D.map (·.2.2)) none) } ds y).put (some tn) (.tup [.bool false])).put (some tm) (.bool false)
/-- the ways out of a round -/
def rangeKt (hd out : SSh) (n ex : Nat) : Kt (hd.den ⊕ out.den) where
  n := fun S' => hd.take n S' fun y => some (.inl y)
  x := fun j S' => cond (Nat.beq j ex) (out.take n S' fun z => some (.inr z)) none
  r := fun _ => none
/-- behind a range -/
def St.ranged (S : St) (out : SSh) (ds : List Nat) (o : Nat) (z : out.den) : St :=
  ((out.lay S ds z).setOb o .dead).touch (o :: (out.gone ++ out.objs.map (·.1) ++ S.touched))
def rangeL (hd out : SSh) (ex : Nat) (S : St) (ds : List Nat) (tn tm : Nat) (q : RangeAt) (go : St → Kt (hd.den ⊕ out.den) → Option (hd.den ⊕ out.den)) (y0 : hd.den) (l : List (q.K.den × q.V.den × Nat)) : Option out.den :=
  rangeM (fun D e y => go (S.round hd ds tn tm q D e y) (rangeKt hd out S.objs.length ex)) (fun D y => go (S.over hd ds tn tm q D y) (rangeKt hd out S.objs.length ex)) l [] y0

noncomputable def ev (E : Env) (H : Hints) (k : Nat) : Code → Nat → {σ : Type} → St → Kt σ → Option σ
  | .skip, _, _, S, K => K.n S
  | .region id ops draw, _, _, S, K => meetK (H.region id) (dstsOps ops.toList) S K fun S K => evRegion E ops.toList draw S K.n
  | .seq a b, i, _, S, K => ev E H k a i S { K with n := fun S' => ev E H k b i S' K }
  | .cond c a b, i, _, S, K =>
    match c with
    | .tmp t => match S.slots.getD t .undef with
      | .bool v => meetK (H.cond t) (t :: (dsts a ++ dsts b)) S K fun S K =>
          cond v (ev E H k a i { S with slots := S.slots.set t (.bool true) } K) (ev E H k b i { S with slots := S.slots.set t (.bool false) } K)
      | _ => none
    | .const q => match q with
      | .bool v => cond v (ev E H k a i S K) (ev E H k b i S K)
      | _ => none
    | _ => none
  | .block id b, _, _, S, K => meetK (H.block id) (dsts b) S K fun S K =>
      ev E H k b id S { K with x := fun j S' => cond (Nat.beq j id) (K.n S') (K.x j S') }
  | .exit id, _, _, S, K => K.x id S
  | .ret, _, _, S, K => K.r S
  | .loop b, i, σ, S, K =>
    match H.loop i with
    | none => unroll k (fun S n => ev E H k b i S { K with n := n }) S
    | some (hd, ex, out) =>
      match rangeOf b with
      | some (ti, tn, tm) => match b with
        | .seq _ rest => match rangeAt S ti with
          | some q =>
            cond ((hd.fit S (dsts b) && out.fit S (dsts b)) && rangeFit hd out S (dsts b) ti tn q.o q.m)
              (hd.take S.objs.length (S.touch []) fun y0 =>
                (anyOrder q.es fun l => rangeL hd out ex S (dsts b) tn tm q (fun S K => ev E H k rest i S K) y0 l).bind fun z => K.x ex (S.ranged out (dsts b) q.o z)) none
          | none => none
        | _ => none
      | none =>
      cond (hd.fit S (dsts b) && out.fit S (dsts b))
        (hd.take S.objs.length (S.touch []) fun y0 =>
          (iter (τ := σ ⊕ out.den) k (fun y =>
            ev E H k b i (σ := hd.den ⊕ (σ ⊕ out.den)) (hd.lay S (dsts b) y)
              { n := fun S' => hd.take S.objs.length S' fun y => some (.inl y)
                x := fun j S' => cond (Nat.beq j ex) (out.take S.objs.length S' fun z => some (.inr (.inr z))) none
                r := fun S' => (K.r (S'.touch (S'.touched ++ S.touched))).map fun z => .inr (.inl z) }) y0).bind fun r =>
          match r with
          | .inl z => some z
          | .inr z => K.x ex ((out.lay S (dsts b) z).touch (out.gone ++ out.objs.map (·.1) ++ S.touched))) none
  | _, _, _, _, _ => none
end Go.Vm

/- Vm: the package variables that a row lists, and what they hold (none in a plain seat). Own work. -/
set_option linter.unusedVariables false
namespace Go.Vm
/-- do calls never give back what they drew? (asked of comparisons by the sorts of the kit alone; texts that leave it open say 'variable [MonotC]') -/
class MonotC where
  p : Prop
@[reducible] def monotYes : MonotC := ⟨True⟩
instance (priority := low) monotDef : MonotC := monotYes
def Monot [MonotC] : Prop := MonotC.p
class MonotOK [MonotC] : Prop where
  ok : Monot
instance : @MonotOK monotDef := @MonotOK.mk monotDef trivial
def theLay : List (Nat × Array Value) := []
/-- .. so it lies -/
def LaidAt (w : World) (p : Nat × Array Value) : Prop := ∃ t z, w.heap[p.1]? = some (.cells p.2 t z)
theorem LaidAt.lt {w : World} {p : Nat × Array Value} (h : LaidAt w p) : p.1 < w.heap.size := by
  obtain ⟨t, z, h⟩ := h
  exact (Array.getElem?_eq_some_iff.1 h).1
theorem LaidAt.keep {w w' : World} {p : Nat × Array Value} (h : LaidAt w p) (e : w'.heap[p.1]? = w.heap[p.1]?) : LaidAt w' p := by
  obtain ⟨t, z, h⟩ := h
  exact ⟨t, z, e.trans h⟩
end Go.Vm

/- Vm, part 4: how values and objects lie in memory. Own work. -/
set_option linter.unusedSectionVars false
namespace Go.Vm
variable [MonotC]
open Go.RowKit

/-! ### Worlds -/
/-- Of what was there only blocks of M may have changed. -/
structure Keep (M : Nat → Prop) (w w' : World) : Prop where
  os : w'.os = w.os
  tape : w'.tape = w.tape
  output : w'.output = w.output
  size : w.heap.size ≤ w'.heap.size
  drawn : Monot → w.drawn ≤ w'.drawn
  froz : ∀ a : Addr, a.block < w.heap.size → ¬ M a.block → w'.frozen? a = w.frozen? a
  block : ∀ b, b < w.heap.size → ¬ M b → w'.heap[b]? = w.heap[b]?
  tys : ∀ (b : Nat) (cs : Array Value) (t : TypeId) (z : Nat × Nat), w.heap[b]? = some (Obj.cells cs t z) → ∃ (cs' : Array Value) (z' : Nat × Nat), w'.heap[b]? = some (Obj.cells cs' t z')
theorem Keep.refl (M : Nat → Prop) (w : World) : Keep M w w := ⟨rfl, rfl, rfl, Nat.le_refl _, fun _ => by first | exact Nat.le_refl _ | exact Nat.le_succ _, fun _ _ _ => rfl, fun _ _ _ => rfl, fun _ cs _ z h => ⟨cs, z, h⟩⟩
theorem Keep.trans {M M' M'' : Nat → Prop} {a b c : World} (h : Keep M a b) (k : Keep M' b c) (h1 : ∀ x, M x → M'' x) (h2 : ∀ x, x < a.heap.size → M' x → M'' x) : Keep M'' a c :=
  ⟨k.os.trans h.os, k.tape.trans h.tape, k.output.trans h.output, Nat.le_trans h.size k.size, fun m => Nat.le_trans (h.drawn m) (k.drawn m), fun x hx hn => (k.froz x (Nat.lt_of_lt_of_le hx h.size) (fun hm => hn (h2 _ hx hm))).trans (h.froz x hx (fun hm => hn (h1 _ hm))), fun x hx hn =>
    (k.block x (Nat.lt_of_lt_of_le hx h.size) (fun hm => hn (h2 x hx hm))).trans (h.block x hx (fun hm => hn (h1 x hm))), fun x cs t z hx => by
    obtain ⟨cs', z', hx'⟩ := h.tys x cs t z hx
    exact k.tys x cs' t z' hx'⟩
theorem Keep.mono {M M' : Nat → Prop} {w w' : World} (h : Keep M w w') (hm : ∀ x, x < w.heap.size → M x → M' x) : Keep M' w w' :=
  ⟨h.os, h.tape, h.output, h.size, h.drawn, fun a ha hn => h.froz a ha (fun hx => hn (hm _ ha hx)), fun b hb hn => h.block b hb (fun hx => hn (hm b hb hx)), h.tys⟩
theorem heap_lt {w : World} {b : Nat} {o : Obj} (h : w.heap[b]? = some o) : b < w.heap.size := by
  rcases Nat.lt_or_ge b w.heap.size with g | g
  · exact g
  · rw [Array.getElem?_eq_none g] at h; cases h
theorem Keep.alloc (M : Nat → Prop) (w : World) (cs : Array Value) (t : TypeId) : Keep M w (w.alloc (.cells cs t (0, 0))) :=
  ⟨rfl, rfl, rfl, by simp, fun _ => Nat.le_refl _, fun a _ _ => frozen?_alloc_cells w cs t a, fun b hb _ => Below.heap_alloc w _ b hb, fun b cs t z h => ⟨cs, z, by rw [Below.heap_alloc w _ b (heap_lt h)]; exact h⟩⟩
theorem Keep.drew (M : Nat → Prop) (w : World) : Keep M w { w with drawn := w.drawn + 1 } := ⟨rfl, rfl, rfl, Nat.le_refl _, fun _ => by first | exact Nat.le_refl _ | exact Nat.le_succ _, fun _ _ _ => rfl, fun _ _ _ => rfl, fun _ cs _ z h => ⟨cs, z, h⟩⟩
def None (_ : Nat) : Prop := False
theorem Keep.cell {M : Nat → Prop} {w w' : World} (h : Keep M w w') {b off : Nat} {v : Value} (hn : ¬ M b) (hc : w.cell? ⟨b, off, none⟩ = some v) : w'.cell? ⟨b, off, none⟩ = some v := by
  have hb : b < w.heap.size := World.block_lt_of_cell? w ⟨b, off, none⟩ hc
  rw [World.cell?_of_block (w := w) (a := ⟨b, off, none⟩) (h.block b hb hn)]; exact hc

/-! ### Plain data -/
def nth {α : Type} (xs : List α) (i : Nat) : Option α := xs[i]?
set_option linter.unusedVariables false
mutual
/-- x lies in these cells; what it leads to lies in blocks that are not of A -/
def DR (w : World) (A : Nat → Prop) : (T : Ty) → T.den → List Value → Prop
  | .int k, x, cs => cs = [.int k x]
  | .bool, b, cs => cs = [.bool b]
  | .str, s, cs => cs = [.string s] ∧ s.size ≤ 9223372036854775807
  | .slice T, xs, cs => ∃ a c, cs = [.slice a (List.length xs) c] ∧ (List.length xs ≤ c ∧ c ≤ 9223372036854775807) ∧
      (xs = [] ∨ ∃ b off, a = some ⟨b, off, none⟩ ∧ ¬ A b ∧ b < w.heap.size ∧ ∀ i x, nth (α := T.den) xs i = some x → ∃ cs', DR w A T x cs' ∧ ∀ j v, cs'[j]? = some v → w.cell? ⟨b, off + i * T.cells + j, none⟩ = some v)
  | .struct fs, x, cs => DRs w A fs x cs
def DRs (w : World) (A : Nat → Prop) : (T : Tys) → T.den → List Value → Prop
  | .nil, _, cs => cs = []
  | .cons t ts, x, cs => ∃ c1 c2, cs = c1 ++ c2 ∧ DR w A t x.1 c1 ∧ DRs w A ts x.2 c2
end
mutual
theorem DR.len {w : World} {A : Nat → Prop} : ∀ (T : Ty) (x : T.den) (cs : List Value), DR w A T x cs → cs.length = T.cells
  | .int _, _, _, h => by simp only [DR] at h; subst h; rfl
  | .bool, _, _, h => by simp only [DR] at h; subst h; rfl
  | .str, _, _, h => by simp only [DR] at h; rw [h.1]; rfl
  | .slice _, _, _, h => by simp only [DR] at h; obtain ⟨a, c, rfl, _⟩ := h; rfl
  | .struct fs, x, cs, h => by simp only [DR] at h; simpa [Ty.cells] using DRs.len fs x cs h
theorem DRs.len {w : World} {A : Nat → Prop} : ∀ (T : Tys) (x : T.den) (cs : List Value), DRs w A T x cs → cs.length = T.cells
  | .nil, _, _, h => by simp only [DRs] at h; subst h; rfl
  | .cons t ts, x, cs, h => by
    simp only [DRs] at h
    obtain ⟨c1, c2, rfl, h1, h2⟩ := h
    simp [Tys.cells, DR.len t x.1 c1 h1, DRs.len ts x.2 c2 h2]
end
mutual
theorem DR.keep {w w' : World} {A A' M : Nat → Prop} (hk : Keep M w w') (hA : ∀ b, b < w.heap.size → A' b → A b) (hM : ∀ b, M b → A b) : ∀ (T : Ty) (x : T.den) (cs : List Value), DR w A T x cs → DR w' A' T x cs
  | .int _, _, _, h => by simpa only [DR] using h
  | .bool, _, _, h => by simpa only [DR] using h
  | .str, _, _, h => by simpa only [DR] using h
  | .slice T, xs, cs, h => by
    simp only [DR] at h ⊢
    obtain ⟨a, c, e, hc, h⟩ := h
    refine ⟨a, c, e, hc, h.imp id ?_⟩
    rintro ⟨b, off, rfl, hn, hb, hx⟩
    refine ⟨b, off, rfl, fun h' => hn (hA b hb h'), Nat.lt_of_lt_of_le hb hk.size, fun i x hi => ?_⟩
    obtain ⟨cs', h1, h2⟩ := hx i x hi
    exact ⟨cs', DR.keep hk hA hM T x cs' h1, fun j v hj => hk.cell (fun hm => hn (hM b hm)) (h2 j v hj)⟩
  | .struct fs, x, cs, h => by simp only [DR] at h ⊢; exact DRs.keep hk hA hM fs x cs h
theorem DRs.keep {w w' : World} {A A' M : Nat → Prop} (hk : Keep M w w') (hA : ∀ b, b < w.heap.size → A' b → A b) (hM : ∀ b, M b → A b) : ∀ (T : Tys) (x : T.den) (cs : List Value), DRs w A T x cs → DRs w' A' T x cs
  | .nil, _, _, h => by simpa only [DRs] using h
  | .cons t ts, x, cs, h => by
    simp only [DRs] at h ⊢
    obtain ⟨c1, c2, rfl, h1, h2⟩ := h
    exact ⟨c1, c2, rfl, DR.keep hk hA hM t x.1 c1 h1, DRs.keep hk hA hM ts x.2 c2 h2⟩
end

/-! ### Values -/
def nilV : CK → Value
  | .ptr => .pointer none | .func => .nilFunc | .map => .map none | .iface => .nilIface
def aggV : Value → Bool
  | .agg _ => true
  | _ => false
def blkOf : Value → Option Nat
  | .pointer (some a) => some a.block
  | .slice (some a) _ _ => some a.block
  | .map (some b) => some b
  | _ => none
/-- the cells of x, from an address on -/
def LiesAt (w : World) (b off : Nat) (cs : List Value) : Prop := ∀ j v, cs[j]? = some v → w.cell? ⟨b, off + j, none⟩ = some v
/-- what a row looks like: where it has no room at all, whatever it points to -/
def HeadR (h v : Value) : Prop := h = v ∨ (h = .slice none 0 0 ∧ ∃ a, v = .slice a 0 0)
/-- what a slice of a row looks like -/
def SubV (h v : Value) (lo hi : Int) (k : Nat) : Prop :=
  (h = .slice none 0 0 ∧ (∃ a, v = .slice a 0 0) ∧ lo = 0 ∧ hi = 0) ∨
    ∃ b off n c o2, h = .slice (some ⟨b, off, none⟩) n c ∧ 0 ≤ lo ∧ lo ≤ hi ∧ hi ≤ n ∧ v = .slice (some ⟨b, o2, none⟩) (hi.toNat - lo.toNat) (c - lo.toNat) ∧ o2 ≤ off + lo.toNat * k ∧ (c ≠ lo.toNat → o2 = off + lo.toNat * k)
/-- a slice that is the whole of a box with parts of one cell each -/
def ArrV : TD → Value → Value → Prop
  | .agg ds, m, v => ∃ b, m = .pointer (some ⟨b, 0, none⟩) ∧ v = .slice (some ⟨b, 0, none⟩) ds.count ds.count ∧ ds.ones = true
  | _, _, _ => False
mutual
/-- these cells hold this value -/
def CR (w : World) (A : Nat → Prop) (ob : Nat → OB) (μ : Nat → Value) : PV → List Value → Prop
  | .any, cs => cs.length = 1
  | .undef, cs => cs = [Go.undef]
  | .int k x, cs => cs = [.int k x]
  | .bool b, cs => cs = [.bool b]
  | .str s, cs => cs = [.string s] ∧ s.size ≤ 9223372036854775807
  | .sl T xs, cs => DR w A (.slice T) xs cs
  | .nil, cs => cs = [.slice none 0 0]
  | .nilc k, cs => cs = [nilV k]
  | .row o, cs => ∃ v, cs = [v] ∧ v.oneCell' = true ∧ (match ob o with | .row _ _ => HeadR (μ o) v | .bytes _ => μ o = v | .box d _ => ArrV d (μ o) v | _ => True)
  | .agg l, cs => CRs w A ob μ l cs
  | .tup l, cs => ∃ vs, cs = [.tuple vs] ∧ TRs w A ob μ l vs.toList
  | .ptr o p, cs => ∃ v, cs = [v] ∧ v.oneCell' = true ∧ (match ob o with | .box d _ => ∃ b off d', μ o = .pointer (some ⟨b, 0, none⟩) ∧ d.off p = some (off, d') ∧ v = .pointer (some ⟨b, off, none⟩) | _ => True)
  | .el T x, cs => ∃ b off cx, cs = [.pointer (some ⟨b, off, none⟩)] ∧ ¬ A b ∧ b < w.heap.size ∧ DR w A T x cx ∧ LiesAt w b off cx
  | .elo o i p, cs => ∃ v, cs = [v] ∧ v.oneCell' = true ∧ (match ob o with | .row T _ => ∃ b off n c o2 T', μ o = .slice (some ⟨b, off, none⟩) n c ∧ T.off p = some (o2, T') ∧ 0 ≤ i ∧ v = .pointer (some ⟨b, off + i.toNat * T.cells + o2, none⟩) | _ => True)
  | .func f l, cs => ∃ vs, cs = [.func (.func f) #[] vs] ∧ TRs w A ob μ l vs.toList
  | .mp o, cs => ∃ v, cs = [v] ∧ v.oneCell' = true ∧ (match ob o with | .map _ _ _ => μ o = v | _ => True)
  | .it o, cs => ∃ v, cs = [v] ∧ v.oneCell' = true ∧ (match ob o with | .iter _ _ _ _ _ _ => μ o = v | _ => True)
  | .sub o lo hi, cs => ∃ v, cs = [v] ∧ v.oneCell' = true ∧ (match ob o with | .row T _ => SubV (μ o) v lo hi T.cells | _ => True)
def CRs (w : World) (A : Nat → Prop) (ob : Nat → OB) (μ : Nat → Value) : List PV → List Value → Prop
  | [], cs => cs = []
  | v :: l, cs => ∃ c1 c2, cs = c1 ++ c2 ∧ CR w A ob μ v c1 ∧ CRs w A ob μ l c2
def TRs (w : World) (A : Nat → Prop) (ob : Nat → OB) (μ : Nat → Value) : List PV → List Value → Prop
  | [], vs => vs = []
  | v :: l, vs => ∃ x r, vs = x :: r ∧ (v.isAny = true ∨ (CR w A ob μ v x.cells.toList ∧ aggV x = v.isAgg)) ∧ TRs w A ob μ l r
end
/-- this is that value -/
def VR (w : World) (A : Nat → Prop) (ob : Nat → OB) (μ : Nat → Value) (v : PV) (x : Value) : Prop :=
  v.isAny = true ∨ (CR w A ob μ v x.cells.toList ∧ aggV x = v.isAgg)

/-- what is now there was there, or is dead -/
def Later (ob : Nat → OB) (μ : Nat → Value) (ob' : Nat → OB) (μ' : Nat → Value) (o : Nat) : Prop :=
  match ob' o with
  | .dead => True
  | .box d _ => (∃ v, ob o = .box d v) ∧ μ' o = μ o
  | .row T _ => (∃ xs, ob o = .row T xs) ∧ μ' o = μ o
  | .bytes _ => (∃ s, ob o = .bytes s) ∧ μ' o = μ o
  | .map K V _ => (∃ c, ob o = .map K V c) ∧ μ' o = μ o
  | .iter _ K V _ _ _ => (∃ m n l c, ob o = .iter m K V n l c) ∧ μ' o = μ o
theorem Later.refl (ob : Nat → OB) (μ : Nat → Value) (o : Nat) : Later ob μ ob μ o := by
  unfold Later
  cases h : ob o <;> simp
section
variable {w w' : World} {A A' M : Nat → Prop} {ob ob' : Nat → OB} {μ μ' : Nat → Value}
mutual
theorem CR.later (hk : Keep M w w') (hA : ∀ b, b < w.heap.size → A' b → A b) (hM : ∀ b, M b → A b) : ∀ (v : PV) (hl : ∀ o ∈ v.oids, Later ob μ ob' μ' o) (cs : List Value), CR w A ob μ v cs → CR w' A' ob' μ' v cs
  | .any, _, _, h => by simpa only [CR] using h
  | .undef, _, _, h => by simpa only [CR] using h
  | .int _ _, _, _, h => by simpa only [CR] using h
  | .bool _, _, _, h => by simpa only [CR] using h
  | .str _, _, _, h => by simpa only [CR] using h
  | .sl T xs, _, cs, h => by simp only [CR] at h ⊢; exact DR.keep hk hA hM _ _ _ h
  | .nil, _, _, h => by simpa only [CR] using h
  | .nilc _, _, _, h => by simpa only [CR] using h
  | .row o, hl, cs, h => by
    simp only [CR] at h ⊢
    obtain ⟨v, e, ha, h⟩ := h
    refine ⟨v, e, ha, ?_⟩
    have := hl o (by simp [PV.oids])
    unfold Later at this
    cases hb : ob' o <;> simp only [hb] at this ⊢
    all_goals
      obtain ⟨⟨xs, hx⟩, hm⟩ := this
      simp only [hx] at h
      rw [hm]; exact h
  | .agg l, hl, cs, h => by simp only [CR] at h ⊢; exact CRs.later hk hA hM l (fun o ho => hl o (by simpa [PV.oids] using ho)) cs h
  | .tup l, hl, cs, h => by
    simp only [CR] at h ⊢
    obtain ⟨vs, e, h⟩ := h
    exact ⟨vs, e, TRs.later hk hA hM l (fun o ho => hl o (by simpa [PV.oids] using ho)) _ h⟩
  | .ptr o p, hl, cs, h => by
    simp only [CR] at h ⊢
    obtain ⟨v, e, ha, h⟩ := h
    refine ⟨v, e, ha, ?_⟩
    have := hl o (by simp [PV.oids])
    unfold Later at this
    cases hb : ob' o <;> simp only [hb] at this ⊢
    obtain ⟨⟨xs, hx⟩, hm⟩ := this
    simp only [hx] at h
    rw [hm]; exact h
  | .el T x, _, cs, h => by
    simp only [CR] at h ⊢
    obtain ⟨b, off, cx, e, hn, hb, hd, hc⟩ := h
    exact ⟨b, off, cx, e, fun h' => hn (hA b hb h'), Nat.lt_of_lt_of_le hb hk.size, DR.keep hk hA hM _ _ _ hd, fun j v hj => hk.cell (fun hm => hn (hM b hm)) (hc j v hj)⟩
  | .elo o i p, hl, cs, h => by
    simp only [CR] at h ⊢
    obtain ⟨v, e, ha, h⟩ := h
    refine ⟨v, e, ha, ?_⟩
    have := hl o (by simp [PV.oids])
    unfold Later at this
    cases hb : ob' o <;> simp only [hb] at this ⊢
    obtain ⟨⟨xs, hx⟩, hm⟩ := this
    simp only [hx] at h
    rw [hm]; exact h
  | .func f l, hl, cs, h => by
    simp only [CR] at h ⊢
    obtain ⟨vs, e, h⟩ := h
    exact ⟨vs, e, TRs.later hk hA hM l (fun o ho => hl o (by simpa [PV.oids] using ho)) _ h⟩
  | .mp o, hl, cs, h => by
    simp only [CR] at h ⊢
    obtain ⟨v, e, ha, h⟩ := h
    refine ⟨v, e, ha, ?_⟩
    have := hl o (by simp [PV.oids])
    unfold Later at this
    cases hb : ob' o <;> simp only [hb] at this ⊢
    obtain ⟨⟨c, hx⟩, hm⟩ := this
    simp only [hx] at h
    rw [hm]; exact h
  | .it o, hl, cs, h => by
    simp only [CR] at h ⊢
    obtain ⟨v, e, ha, h⟩ := h
    refine ⟨v, e, ha, ?_⟩
    have := hl o (by simp [PV.oids])
    unfold Later at this
    cases hb : ob' o <;> simp only [hb] at this ⊢
    obtain ⟨⟨m, n, l, c, hx⟩, hm⟩ := this
    simp only [hx] at h
    rw [hm]; exact h
  | .sub o lo hi, hl, cs, h => by
    simp only [CR] at h ⊢
    obtain ⟨v, e, ha, h⟩ := h
    refine ⟨v, e, ha, ?_⟩
    have := hl o (by simp [PV.oids])
    unfold Later at this
    cases hb : ob' o <;> simp only [hb] at this ⊢
    obtain ⟨⟨xs, hx⟩, hm⟩ := this
    simp only [hx] at h
    rw [hm]; exact h
theorem CRs.later (hk : Keep M w w') (hA : ∀ b, b < w.heap.size → A' b → A b) (hM : ∀ b, M b → A b) : ∀ (l : List PV) (hl : ∀ o ∈ PV.oidsL l, Later ob μ ob' μ' o) (cs : List Value), CRs w A ob μ l cs → CRs w' A' ob' μ' l cs
  | [], _, _, h => by simpa only [CRs] using h
  | v :: l, hl, cs, h => by
    simp only [CRs] at h ⊢
    obtain ⟨c1, c2, e, h1, h2⟩ := h
    exact ⟨c1, c2, e, CR.later hk hA hM v (fun o ho => hl o (by simp [PV.oidsL, ho])) c1 h1, CRs.later hk hA hM l (fun o ho => hl o (by simp [PV.oidsL, ho])) c2 h2⟩
theorem TRs.later (hk : Keep M w w') (hA : ∀ b, b < w.heap.size → A' b → A b) (hM : ∀ b, M b → A b) : ∀ (l : List PV) (hl : ∀ o ∈ PV.oidsL l, Later ob μ ob' μ' o) (vs : List Value), TRs w A ob μ l vs → TRs w' A' ob' μ' l vs
  | [], _, _, h => by simpa only [TRs] using h
  | v :: l, hl, vs, h => by
    simp only [TRs] at h ⊢
    obtain ⟨x, r, e, h1, h2⟩ := h
    exact ⟨x, r, e, h1.imp id (fun h => ⟨CR.later hk hA hM v (fun o ho => hl o (by simp [PV.oidsL, ho])) _ h.1, h.2⟩), TRs.later hk hA hM l (fun o ho => hl o (by simp [PV.oidsL, ho])) r h2⟩
end
theorem VR.later (hk : Keep M w w') (hA : ∀ b, b < w.heap.size → A' b → A b) (hM : ∀ b, M b → A b) {v : PV} (hl : ∀ o ∈ v.oids, Later ob μ ob' μ' o) {x : Value} (h : VR w A ob μ v x) : VR w' A' ob' μ' v x :=
  h.imp id fun h => ⟨CR.later hk hA hM v hl _ h.1, h.2⟩
end

/-! ### Objects -/
/-- the blocks that the objects have -/
def own (ob : Nat → OB) (μ : Nat → Value) (b : Nat) : Prop := ∃ o, (ob o).alive = true ∧ blkOf (μ o) = some b
/-- the entries of a map -/
def Ents (w : World) (A : Nat → Prop) (K V : Ty) : List (K.den × V.den × Nat) → List MapEntry → Prop
  | [], m => m = []
  | x :: l, m => ∃ e r, m = e :: r ∧ DR w A K x.1 e.key.cells.toList ∧ aggV e.key = K.isAgg ∧ DR w A V x.2.1 e.val.cells.toList ∧ aggV e.val = V.isAgg ∧ e.born = x.2.2 ∧ Ents w A K V l r
theorem Ents.keep {w w' : World} {A A' M : Nat → Prop} (hk : Keep M w w') (hA : ∀ b, b < w.heap.size → A' b → A b) (hM : ∀ b, M b → A b) {K V : Ty} : ∀ (l : List (K.den × V.den × Nat)) (m : List MapEntry), Ents w A K V l m → Ents w' A' K V l m
  | [], m, h => by simpa only [Ents] using h
  | x :: l, m, h => by
    simp only [Ents] at h ⊢
    obtain ⟨e, r, h0, h1, h2, h3, h4, h5, h6⟩ := h
    exact ⟨e, r, h0, DR.keep hk hA hM _ _ _ h1, h2, DR.keep hk hA hM _ _ _ h3, h4, h5, Ents.keep hk hA hM l r h6⟩
/-- entries stand in the order in which they came in -/
def BornOK {κ ν : Type} (l : List (κ × ν × Nat)) (n : Nat) : Prop := l.Pairwise (fun a b => a.2.2 < b.2.2) ∧ ∀ x ∈ l, x.2.2 < n
/-- what a range over a map is at -/
def CurR (w : World) (A : Nat → Prop) (K V : Ty) (seen : List Nat) (mes : Array MapEntry) (kv : K.den × V.den) : Prop :=
  ∃ s e, seen.getLast? = some s ∧ mes.find? (·.born == s) = some e ∧ DR w A K kv.1 e.key.cells.toList ∧ aggV e.key = K.isAgg ∧ DR w A V kv.2 e.val.cells.toList ∧ aggV e.val = V.isAgg
/-- of a strings.Builder's first cell -/
def HeadOK (d : TD) (b : Nat) (cs : Array Value) (t : TypeId) : Prop := d.isB = true → t = bldT ∧ (cs[0]? = some (.pointer none) ∨ cs[0]? = some (.pointer (some ⟨b, 0, none⟩)))
theorem HeadOK.no {d : TD} {b : Nat} {cs : Array Value} {t : TypeId} (h : d.isB = false) : HeadOK d b cs t := fun e => by rw [h] at e; cases e
/-- this object lies so in memory -/
def OR (w : World) (A : Nat → Prop) (ob : Nat → OB) (μ : Nat → Value) (o : Nat) : Prop :=
  match ob o with
  | .dead => True
  | .box d v => ∃ b cs t, μ o = .pointer (some ⟨b, 0, none⟩) ∧ w.heap[b]? = some (.cells cs t (0, 0)) ∧ d.fits v = true ∧ CR w A ob μ v cs.toList ∧ HeadOK d b cs t
  | .row T xs => (List.length xs = 0 ∧ μ o = .slice none 0 0) ∨
      ∃ b off c cs t, μ o = .slice (some ⟨b, off, none⟩) (List.length xs) c ∧ w.heap[b]? = some (.cells cs t (0, 0)) ∧ List.length xs ≤ c ∧ c ≤ 9223372036854775807 ∧ off + c * T.cells ≤ cs.size ∧
        ∀ i x, nth (α := T.den) xs i = some x → ∃ cx, DR w A T x cx ∧ ∀ j v, cx[j]? = some v → cs[off + i * T.cells + j]? = some v
  | .bytes s => (s.size = 0 ∧ μ o = .slice none 0 0) ∨
      0 < s.size ∧ ∃ b c cs, μ o = .slice (some ⟨b, 0, none⟩) s.size c ∧ w.heap[b]? = some (.cells cs byteT (0, 0)) ∧ s.size ≤ c ∧ c ≤ 9223372036854775807 ∧ c ≤ cs.size ∧
        ∀ (i : Nat) (x : UInt8), s.data[i]? = some x → cs[i]? = some (Value.int .u8 (x.toNat : Int))
  | .map K V c => ∃ b mes, μ o = .map (some b) ∧ w.heap[b]? = some (.map mes c.2) ∧ Ents w A K V c.1 mes.toList ∧ BornOK c.1 c.2
  | .iter m K V since seen cur => ∃ b, μ o = .pointer (some ⟨b, 0, none⟩) ∧ b < w.heap.size ∧ ((ob m).alive = true → ∃ bm mes, μ m = .map (some bm) ∧ w.heap[b]? = some (.mapIter (some bm) since seen.toArray since) ∧ w.heap[bm]? = some (.map mes since) ∧
      ∀ kv, cur = some kv → CurR w A K V seen mes kv)
/-- two objects never share a block -/
def Apart (ob : Nat → OB) (μ : Nat → Value) : Prop := ∀ o o' b, (ob o).alive = true → (ob o').alive = true → blkOf (μ o) = some b → blkOf (μ o') = some b → o = o'
/-- all objects lie so; A is what data keep out of: all that they have, and perhaps more -/
structure Objs (w : World) (A : Nat → Prop) (ob : Nat → OB) (μ : Nat → Value) : Prop where
  each : ∀ o, OR w A ob μ o
  apart : Apart ob μ
  mine : ∀ b, own ob μ b → A b
  old : ∀ b, A b → b < w.heap.size
  lay : ∀ p ∈ theLay, LaidAt w p ∧ ¬ A p.1
theorem lay_keep {w w' : World} {A A' M : Nat → Prop} (h : ∀ p ∈ theLay, LaidAt w p ∧ ¬ A p.1) (hk : Keep M w w') (hA : ∀ b, b < w.heap.size → A' b → A b) (hM : ∀ b, M b → A b) : ∀ p ∈ theLay, LaidAt w' p ∧ ¬ A' p.1 := fun p hp => by
  obtain ⟨h1, h2⟩ := h p hp
  have hlt := h1.lt
  exact ⟨h1.keep (hk.block p.1 hlt (fun m => h2 (hM _ m))), fun a => h2 (hA _ hlt a)⟩
end Go.Vm

/- Vm, part 5: the operations, one by one. Own work. -/
set_option linter.unusedVariables false
set_option linter.unusedSimpArgs false
set_option linter.unusedSectionVars false
namespace Go.Vm
variable [MonotC]
open Go.RowKit

/-! ### Types of the program -/
mutual
def zeroV : Ty → List Value
  | .int k => [.int k 0] | .bool => [.bool false] | .str => [.string ⟨#[]⟩] | .slice _ => [.slice none 0 0] | .struct fs => zerosV fs
def zerosV : Tys → List Value
  | .nil => [] | .cons t ts => zeroV t ++ zerosV ts
end
def wrapV (agg : Bool) (cs : List Value) : Value := if agg then .agg cs.toArray else cs.headD undef
mutual
def TyOK (P : Program) (t : TypeId) : Ty → Prop
  | .int k => (∃ i, P.info? t = some i ∧ i.size = 1 ∧ i.zero = some (.int k 0) ∧ i.bytes ≤ 16384) ∧ P.underlying t = some (.int k)
  | .bool => (∃ i, P.info? t = some i ∧ i.size = 1 ∧ i.zero = some (.bool false) ∧ i.bytes ≤ 16384) ∧ P.underlying t = some .bool
  | .str => (∃ i, P.info? t = some i ∧ i.size = 1 ∧ i.zero = some (.string ⟨#[]⟩) ∧ i.bytes ≤ 16384) ∧ P.underlying t = some .string
  | .slice T => (∃ i, P.info? t = some i ∧ i.size = 1 ∧ i.zero = some (.slice none 0 0) ∧ i.bytes ≤ 16384) ∧ ∃ e, P.underlying t = some (.slice e) ∧ TyOK P e T ∧ 0 < T.cells ∧ (t = bytesT → e = byteT)
  | .struct fs => (∃ i, P.info? t = some i ∧ i.size = fs.cells ∧ i.zero = some (.agg (zerosV fs).toArray) ∧ i.bytes ≤ 16384) ∧ ∃ fields, P.underlying t = some (.struct fields) ∧ TysOK P fields.toList 0 fs ∧ (Ty.deep.go fs = false → P.stoodInHeld t = false ∧ P.eqGuardType P.depth t = false ∧ ∀ f ∈ fields.toList, (f.name == "_") = false)
def TysOK (P : Program) : List Field → Nat → Tys → Prop
  | [], _, .nil => True
  | f :: l, off, .cons t ts => f.offset = off ∧ 0 < t.cells ∧ TyOK P f.type t ∧ TysOK P l (off + t.cells) ts
  | _, _, _ => False
end
mutual
def TD.zeroV : TD → List Value
  | .data T => Vm.zeroV T | .cell k => [nilV k] | .agg l => TDs.zeroV l | .map _ _ => [nilV .map]
def TDs.zeroV : TDs → List Value
  | .nil => [] | .cons d l => d.zeroV ++ TDs.zeroV l
end
mutual
def TDOK (P : Program) (t : TypeId) : TD → Prop
  | .data T => TyOK P t T
  | .cell k => (∃ i, P.info? t = some i ∧ i.size = 1 ∧ i.zero = some (nilV k) ∧ i.bytes ≤ 16384) ∧ ∃ d, P.underlying t = some d ∧ (match d with | .struct _ | .array _ _ => False | .interface _ => True | _ => k ≠ .iface)
  | .agg l => (∃ i, P.info? t = some i ∧ i.size = l.cells ∧ i.zero = some (.agg l.zeroV.toArray) ∧ i.bytes ≤ 16384) ∧ ∃ fields, P.underlying t = some (.struct fields) ∧ TDsOK P fields.toList 0 l
  | .map K V => (∃ i, P.info? t = some i ∧ i.size = 1 ∧ i.zero = some (nilV .map) ∧ i.bytes ≤ 16384) ∧ ∃ k e, P.underlying t = some (.map k e) ∧ TyOK P k K ∧ TyOK P e V ∧ K.deep = false ∧ K.height ≤ 100
def TDsOK (P : Program) : List Field → Nat → TDs → Prop
  | [], _, .nil => True
  | f :: l, off, .cons t ts => f.offset = off ∧ 0 < t.cells ∧ TDOK P f.type t ∧ TDsOK P l (off + t.cells) ts
  | _, _, _ => False
end
theorem TyOK.info {P : Program} {t : TypeId} : ∀ {T : Ty}, TyOK P t T → ∃ i, P.info? t = some i ∧ i.size = T.cells ∧ i.zero = some (wrapV T.isAgg (zeroV T)) ∧ i.bytes ≤ 16384
  | .int _, h => by simpa [TyOK, Ty.cells, wrapV, zeroV, Ty.isAgg] using h.1
  | .bool, h => by simpa [TyOK, Ty.cells, wrapV, zeroV, Ty.isAgg] using h.1
  | .str, h => by simpa [TyOK, Ty.cells, wrapV, zeroV, Ty.isAgg] using h.1
  | .slice _, h => by simp only [TyOK] at h; simpa [Ty.cells, wrapV, zeroV, Ty.isAgg] using h.1
  | .struct _, h => by simp only [TyOK] at h; simpa [Ty.cells, wrapV, zeroV, Ty.isAgg] using h.1
theorem TDOK.info {P : Program} {t : TypeId} : ∀ {T : TD}, TDOK P t T → ∃ i, P.info? t = some i ∧ i.size = T.cells ∧ i.zero = some (wrapV T.isAgg T.zeroV) ∧ i.bytes ≤ 16384
  | .data T, h => by simp only [TDOK] at h; simpa [TD.cells, TD.isAgg, TD.zeroV] using h.info
  | .cell _, h => by simp only [TDOK] at h; simpa [TD.cells, TD.isAgg, TD.zeroV, wrapV] using h.1
  | .agg _, h => by simp only [TDOK] at h; simpa [TD.cells, TD.isAgg, TD.zeroV, wrapV] using h.1
  | .map _ _, h => by simp only [TDOK] at h; simpa [TD.cells, TD.isAgg, TD.zeroV, wrapV] using h.1
theorem TyOK.agg {P : Program} {t : TypeId} : ∀ {T : Ty}, TyOK P t T → ∃ d, P.underlying t = some d ∧ (match d with | .struct _ | .array _ _ => true | _ => false) = T.isAgg
  | .int _, h => ⟨_, h.2, rfl⟩
  | .bool, h => ⟨_, h.2, rfl⟩
  | .str, h => ⟨_, h.2, rfl⟩
  | .slice _, h => by simp only [TyOK] at h; obtain ⟨_, e, h, _⟩ := h; exact ⟨_, h, rfl⟩
  | .struct _, h => by simp only [TyOK] at h; obtain ⟨_, e, h, _⟩ := h; exact ⟨_, h, rfl⟩
theorem TDOK.agg {P : Program} {t : TypeId} : ∀ {T : TD}, TDOK P t T → ∃ d, P.underlying t = some d ∧ (match d with | .struct _ | .array _ _ => true | _ => false) = T.isAgg
  | .data T, h => by simp only [TDOK] at h; exact h.agg
  | .cell _, h => by
    simp only [TDOK] at h
    obtain ⟨_, d, h, h2⟩ := h
    exact ⟨d, h, by cases d <;> simp_all [TD.isAgg]⟩
  | .agg _, h => by simp only [TDOK] at h; obtain ⟨_, e, h, _⟩ := h; exact ⟨_, h, rfl⟩
  | .map _ _, h => by simp only [TDOK] at h; obtain ⟨_, k, e, h, _⟩ := h; exact ⟨_, h, rfl⟩
def EnvTy (P : Program) (E : Env) : Prop := ∀ t d, E.td t = some d → TDOK P t d

section
variable {P : Program} {w : World}
theorem run_isAgg' {t : TypeId} {b : Bool} (h : ∃ d, P.underlying t = some d ∧ (match d with | .struct _ | .array _ _ => true | _ => false) = b) : (isAgg t).run P w = .ok b w := by
  obtain ⟨d, h, hb⟩ := h
  simp only [isAgg, Sem.run_bind, run_underlying h, Result.andThen]
  cases d <;> simp_all
theorem run_sizeOf' {t : TypeId} {n : Nat} (h : ∃ i, P.info? t = some i ∧ i.size = n) : (sizeOf t).run P w = .ok n w := by
  obtain ⟨i, h, rfl⟩ := h
  simp [sizeOf, typeInfo, h]
theorem run_zeroValue' {t : TypeId} {v : Value} (h : ∃ i, P.info? t = some i ∧ i.zero = some v) : (zeroValue t).run P w = .ok v w := by
  obtain ⟨i, h, h2⟩ := h
  simp [zeroValue, typeInfo, h, h2]
end
/-! ### Values that are told by their form -/
section
variable {w : World} {A : Nat → Prop} {ob : Nat → OB} {μ : Nat → Value}
theorem cells_one {x : Value} (h : aggV x = false) : x.cells = #[x] := by cases x <;> simp_all [aggV, Value.cells]
theorem VR.int {k : IntKind} {n : Int} {x : Value} (h : VR w A ob μ (.int k n) x) : x = .int k n := by
  rcases h with h | ⟨h, h2⟩
  · simp [PV.isAny] at h
  · rw [cells_one h2] at h; simpa [CR] using h
theorem VR.bool {b : Bool} {x : Value} (h : VR w A ob μ (.bool b) x) : x = .bool b := by
  rcases h with h | ⟨h, h2⟩
  · simp [PV.isAny] at h
  · rw [cells_one h2] at h; simpa [CR] using h
theorem VR.str {s : ByteArray} {x : Value} (h : VR w A ob μ (.str s) x) : x = .string s := by
  rcases h with h | ⟨h, h2⟩
  · simp [PV.isAny] at h
  · rw [cells_one h2] at h
    simp only [CR] at h
    simpa using h.1
theorem VR.undef {x : Value} (h : VR w A ob μ .undef x) : x = Go.undef := by
  rcases h with h | ⟨h, h2⟩
  · simp [PV.isAny] at h
  · rw [cells_one h2] at h; simpa [CR] using h
theorem VR.nil {x : Value} (h : VR w A ob μ .nil x) : x = .slice none 0 0 := by
  rcases h with h | ⟨h, h2⟩
  · simp [PV.isAny] at h
  · rw [cells_one h2] at h; simpa [CR] using h
theorem VR.nilc {k : CK} {x : Value} (h : VR w A ob μ (.nilc k) x) : x = nilV k := by
  rcases h with h | ⟨h, h2⟩
  · simp [PV.isAny] at h
  · rw [cells_one h2] at h; simpa [CR] using h
theorem VR.sl {T : Ty} {xs : List T.den} {x : Value} (h : VR w A ob μ (.sl T xs) x) : DR w A (.slice T) xs [x] := by
  rcases h with h | ⟨h, h2⟩
  · simp [PV.isAny] at h
  · rw [cells_one h2] at h; simpa [CR] using h
theorem VR.row {o : Nat} {x : Value} (h : VR w A ob μ (.row o) x) {T : Ty} {xs : List T.den} (ho : ob o = .row T xs) : HeadR (μ o) x := by
  rcases h with h | ⟨h, h2⟩
  · simp [PV.isAny] at h
  · rw [cells_one h2] at h; simp only [CR, ho] at h; obtain ⟨v, e, _, h⟩ := h; simp at e; rw [e]; exact h
theorem VR.subv {o : Nat} {lo hi : Int} {x : Value} (h : VR w A ob μ (.sub o lo hi) x) {T : Ty} {xs : List T.den} (ho : ob o = .row T xs) : SubV (μ o) x lo hi T.cells := by
  rcases h with h | ⟨h, h2⟩
  · simp [PV.isAny] at h
  · rw [cells_one h2] at h; simp only [CR, ho] at h; obtain ⟨v, e, _, h⟩ := h; simp at e; rw [e]; exact h
/-- a row lies where this slice leads to -/
def RowAt (w : World) (A : Nat → Prop) (T : Ty) (xs : List T.den) (v : Value) : Prop :=
  (List.length xs = 0 ∧ ∃ a, v = .slice a 0 0) ∨
    ∃ b off c cs t, v = .slice (some ⟨b, off, none⟩) (List.length xs) c ∧ w.heap[b]? = some (.cells cs t (0, 0)) ∧ List.length xs ≤ c ∧ c ≤ 9223372036854775807 ∧ off + c * T.cells ≤ cs.size ∧
      ∀ i x, nth (α := T.den) xs i = some x → ∃ cx, DR w A T x cx ∧ ∀ j v, cx[j]? = some v → cs[off + i * T.cells + j]? = some v
theorem OR.rowAt {o : Nat} (h : OR w A ob μ o) {T : Ty} {xs : List T.den} (ho : ob o = .row T xs) : RowAt w A T xs (μ o) := by
  unfold OR at h; rw [ho] at h; exact h.imp (fun h => ⟨h.1, _, h.2⟩) id
theorem VR.arr {o : Nat} {x : Value} (h : VR w A ob μ (.row o) x) {d : TD} {v : PV} (ho : ob o = .box d v) : ArrV d (μ o) x := by
  rcases h with h | ⟨h, h2⟩
  · simp [PV.isAny] at h
  · rw [cells_one h2] at h; simp only [CR, ho] at h; obtain ⟨v, e, _, h⟩ := h; simp at e; rw [e]; exact h
theorem TDs.off_ones : ∀ {ds : TDs} {n : Nat}, ds.ones = true → n < ds.count → ∃ d', (TD.agg ds).off [n] = some (n, d')
  | .nil, n, _, h => by simp [TDs.count] at h
  | .cons d l, 0, _, _ => ⟨d, by simp [TD.off, TD.off.go]⟩
  | .cons d l, n + 1, h, hn => by
    simp only [TDs.ones, Bool.and_eq_true, Nat.beq_eq] at h
    simp only [TDs.count] at hn
    obtain ⟨d', e⟩ := TDs.off_ones (n := n) h.2 (by omega)
    refine ⟨d', ?_⟩
    simp only [TD.off, TD.off.go] at e ⊢
    rw [e, h.1]
    simp only [Option.map_some, Nat.add_comm]
theorem Ty.isSl_cells {T : Ty} (h : T.isSl = true) : T.cells = 1 := by
  cases T <;> simp [Ty.isSl] at h
  rfl
theorem VR.rowB {o : Nat} {x : Value} (h : VR w A ob μ (.row o) x) {s : ByteArray} (ho : ob o = .bytes s) : μ o = x := by
  rcases h with h | ⟨h, h2⟩
  · simp [PV.isAny] at h
  · rw [cells_one h2] at h; simp only [CR, ho] at h; obtain ⟨v, e, _, h⟩ := h; simp at e; rw [e]; exact h
/-- a string's bytes -/
def bytesI (s : ByteArray) : List Int := s.data.toList.map fun b => (b.toNat : Int)
theorem bytesI_len (s : ByteArray) : (bytesI s).length = s.size := by
  unfold bytesI
  rw [List.length_map, Array.length_toList]; rfl
theorem bytesI_app (s t : ByteArray) : bytesI (s ++ t) = bytesI s ++ bytesI t := by
  unfold bytesI
  rw [ByteArray.data_append, Array.toList_append, List.map_append]
theorem OR.bytesAt {o : Nat} (h : OR w A ob μ o) {s : ByteArray} (ho : ob o = .bytes s) : RowAt w A (.int .u8) (bytesI s) (μ o) := by
  unfold OR at h; rw [ho] at h
  rcases h with ⟨h1, h2⟩ | ⟨_, b, c, cs, h1, h2, h3, h4, h5, h6⟩
  · exact .inl ⟨(bytesI_len s).trans h1, _, h2⟩
  · refine .inr ⟨b, 0, c, cs, byteT, ?_, h2, ?_, h4, ?_, fun i x hx => ?_⟩
    · exact h1.trans (congrArg (fun n => Value.slice (some ⟨b, 0, none⟩) n c) (bytesI_len s).symm)
    · exact Nat.le_trans (Nat.le_of_eq (bytesI_len s)) h3
    · show 0 + c * 1 ≤ cs.size
      omega
    · have hx : (s.data.toList.map fun b => (b.toNat : Int))[i]? = some x := hx
      rw [List.getElem?_map, Array.getElem?_toList] at hx
      cases hb : s.data[i]? with
      | none => rw [hb] at hx; cases hx
      | some b =>
        rw [hb] at hx
        cases hx
        refine ⟨[.int .u8 (b.toNat : Int)], by simp only [DR], fun j v hj => ?_⟩
        obtain rfl : j = 0 := by have := (List.getElem?_eq_some_iff.1 hj).1; simp at this; exact this
        show cs[0 + i * 1 + 0]? = _
        rw [Nat.zero_add, Nat.mul_one, Nat.add_zero, h6 i b hb]
        exact hj
theorem OR.nil0 {o : Nat} (h : OR w A ob μ o) {T : Ty} {xs : List T.den} (ho : ob o = .row T xs) : xs.length = 0 → μ o = .slice none 0 0 ∨ ∃ b off c, μ o = .slice (some ⟨b, off, none⟩) 0 c := fun h0 => by
  unfold OR at h; rw [ho] at h
  rcases h with ⟨_, h⟩ | ⟨b, off, c, _, _, e, _⟩
  · exact .inl h
  · exact .inr ⟨b, off, c, by rw [e, h0]⟩
theorem RowAt.head {T : Ty} {xs : List T.den} {h v : Value} (hr : RowAt w A T xs h) (hh : HeadR h v) : RowAt w A T xs v := by
  rcases hh with rfl | ⟨rfl, a, rfl⟩
  · exact hr
  · rcases hr with ⟨h0, _⟩ | ⟨_, _, _, _, _, e, _⟩
    · exact .inl ⟨h0, a, rfl⟩
    · cases e
theorem RowAt.blk {T : Ty} {xs : List T.den} {h v : Value} (hr : RowAt w A T xs h) (hh : HeadR h v) (hne : xs ≠ []) {b : Nat} (hb : blkOf v = some b) : blkOf h = some b := by
  rcases hh with rfl | ⟨rfl, a, rfl⟩
  · exact hb
  · rcases hr with ⟨h0, _⟩ | ⟨_, _, _, _, _, e, _⟩
    · exact absurd (List.length_eq_zero_iff.1 h0) hne
    · cases e
/-- .. of a row that may have no room -/
def SubW (h v : Value) (lo hi : Int) (k : Nat) : Prop :=
  (∃ a, h = .slice a 0 0 ∧ v = .slice a 0 0 ∧ lo = 0 ∧ hi = 0) ∨
    ∃ b off n c o2, h = .slice (some ⟨b, off, none⟩) n c ∧ 0 ≤ lo ∧ lo ≤ hi ∧ hi ≤ n ∧ v = .slice (some ⟨b, o2, none⟩) (hi.toNat - lo.toNat) (c - lo.toNat) ∧ o2 ≤ off + lo.toNat * k ∧ (c ≠ lo.toNat → o2 = off + lo.toNat * k)
theorem SubW.head {T : Ty} {xs : List T.den} {h x v : Value} {lo hi : Int} {k : Nat} (hr : RowAt w A T xs h) (hn : xs.length = 0 → h = .slice none 0 0 ∨ ∃ b off c, h = .slice (some ⟨b, off, none⟩) 0 c) (hh : HeadR h x) (hs : SubW x v lo hi k) : SubV h v lo hi k := by
  rcases hh with rfl | ⟨rfl, a, rfl⟩
  · rcases hs with ⟨a, rfl, rfl, rfl, rfl⟩ | hs
    · rcases hr with ⟨h0, _⟩ | ⟨b, off, c, cs, t, e, _⟩
      · rcases hn h0 with e | ⟨b, off, c, e⟩
        · exact .inl ⟨e, ⟨_, rfl⟩, rfl, rfl⟩
        · cases e; exact .inr ⟨b, off, 0, 0, off, rfl, by omega, by omega, by omega, rfl, by omega, fun h => absurd rfl h⟩
      · simp only [Value.slice.injEq] at e
        obtain ⟨rfl, _, rfl⟩ := e
        exact .inr ⟨b, off, 0, 0, off, rfl, by omega, by omega, by omega, rfl, by omega, fun h => absurd rfl h⟩
    · exact .inr hs
  · rcases hs with ⟨a', e, rfl, rfl, rfl⟩ | ⟨b, off, n, c, o2, e, h0, h1, h2, rfl, _⟩
    · exact .inl ⟨rfl, ⟨_, rfl⟩, rfl, rfl⟩
    · simp only [Value.slice.injEq] at e
      obtain ⟨_, rfl, rfl⟩ := e
      have e1 : lo = 0 := by omega
      have e2 : hi = 0 := by omega
      subst e1; subst e2
      exact .inl ⟨rfl, ⟨_, rfl⟩, rfl, rfl⟩
theorem RowAt.sub {T : Ty} {xs : List T.den} {h v : Value} {lo hi : Int} (hr : RowAt w A T xs h) (hs : SubV h v lo hi T.cells) :
    RowAt w A T ((xs.take hi.toNat).drop lo.toNat) v ∧ (0 ≤ lo ∧ lo ≤ hi ∧ hi ≤ (xs.length : Int)) ∧ (blkOf v = blkOf h ∨ ∃ a, v = .slice a 0 0) ∧ List.length ((xs.take hi.toNat).drop lo.toNat) = (hi - lo).toNat := by
  have hlen : ∀ (h0 : 0 ≤ lo) (h1 : lo ≤ hi) (h2 : hi ≤ (xs.length : Int)), List.length (List.drop lo.toNat (List.take hi.toNat xs)) = (hi - lo).toNat := fun h0 h1 h2 => by
    rw [List.length_drop, List.length_take]; omega
  rcases hs with ⟨rfl, ⟨a, rfl⟩, rfl, rfl⟩ | ⟨b, off, n, c, o2, rfl, h0, h1, h2, rfl, h3, h3'⟩
  · rcases hr with ⟨hz, _⟩ | ⟨_, _, _, _, _, e, _⟩
    · exact ⟨.inl ⟨by simp, a, rfl⟩, ⟨by omega, by omega, by omega⟩, .inr ⟨a, rfl⟩, by simp⟩
    · cases e
  · rcases hr with ⟨hz, a, e⟩ | ⟨b', off', c', cs, t, e, hh, hlc, hc, hsz, hel⟩
    · simp only [Value.slice.injEq] at e
      obtain ⟨_, rfl, rfl⟩ := e
      have e1 : lo = 0 := by omega
      have e2 : hi = 0 := by omega
      subst e1; subst e2
      exact ⟨.inl ⟨by simp, _, rfl⟩, ⟨by omega, by omega, by omega⟩, .inr ⟨_, rfl⟩, by simp⟩
    · simp only [Value.slice.injEq, Option.some.injEq, Addr.mk.injEq] at e
      obtain ⟨⟨rfl, rfl, _⟩, rfl, rfl⟩ := e
      have hl := hlen h0 h1 h2
      refine ⟨.inr ⟨b, _, _, cs, t, by rw [hl]; congr 1; omega, hh, by rw [hl]; omega, by omega, ?_, fun i x hx => ?_⟩, ⟨h0, h1, h2⟩, .inl rfl, hl⟩
      · have hmul : lo.toNat * T.cells + (c - lo.toNat) * T.cells = c * T.cells := by
          rw [← Nat.add_mul]; congr 1; omega
        by_cases e : c = lo.toNat
        · rw [show c - lo.toNat = 0 from by omega] at hmul ⊢; omega
        · rw [h3' e]; omega
      · have hlt : i < (hi - lo).toNat := by
          have := (List.getElem?_eq_some_iff.1 hx).1
          omega
        simp only [nth, List.getElem?_drop, List.getElem?_take] at hx
        rw [if_pos (by omega)] at hx
        obtain ⟨cx, h5, h4⟩ := hel _ x hx
        refine ⟨cx, h5, fun j v hj => ?_⟩
        have := h4 j v hj
        rw [h3' (by omega)]
        rw [Nat.add_mul] at this
        rwa [show off + lo.toNat * T.cells + i * T.cells + j = off + (lo.toNat * T.cells + i * T.cells) + j from by omega]
theorem VR.ptr {o : Nat} {p : List Nat} {x : Value} (h : VR w A ob μ (.ptr o p) x) {d : TD} {v : PV} (ho : ob o = .box d v) :
    ∃ b off d', μ o = .pointer (some ⟨b, 0, none⟩) ∧ d.off p = some (off, d') ∧ x = .pointer (some ⟨b, off, none⟩) := by
  rcases h with h | ⟨h, h2⟩
  · simp [PV.isAny] at h
  · rw [cells_one h2] at h; simp only [CR, ho] at h; obtain ⟨v, e, _, h⟩ := h; simp at e; rw [e]; exact h
theorem VR.elo {o : Nat} {i : Int} {p : List Nat} {x : Value} (h : VR w A ob μ (.elo o i p) x) {T : Ty} {xs : List T.den} (ho : ob o = .row T xs) :
    ∃ b off n c o2 T', μ o = .slice (some ⟨b, off, none⟩) n c ∧ T.off p = some (o2, T') ∧ 0 ≤ i ∧ x = .pointer (some ⟨b, off + i.toNat * T.cells + o2, none⟩) := by
  rcases h with h | ⟨h, h2⟩
  · simp [PV.isAny] at h
  · rw [cells_one h2] at h; simp only [CR, ho] at h; obtain ⟨v, e, _, h⟩ := h; simp at e; rw [e]; exact h
theorem VR.el {T : Ty} {y : T.den} {x : Value} (h : VR w A ob μ (.el T y) x) :
    ∃ b off cx, x = .pointer (some ⟨b, off, none⟩) ∧ ¬ A b ∧ b < w.heap.size ∧ DR w A T y cx ∧ LiesAt w b off cx := by
  rcases h with h | ⟨h, h2⟩
  · simp [PV.isAny] at h
  · rw [cells_one h2] at h; simp only [CR] at h; obtain ⟨b, off, cx, e, h⟩ := h; simp at e; exact ⟨b, off, cx, e, h⟩
theorem VR.func {f : Nat} {l : List PV} {x : Value} (h : VR w A ob μ (.func f l) x) : ∃ vs, x = .func (.func f) #[] vs ∧ TRs w A ob μ l vs.toList := by
  rcases h with h | ⟨h, h2⟩
  · simp [PV.isAny] at h
  · rw [cells_one h2] at h; simp only [CR] at h; obtain ⟨vs, e, h⟩ := h; simp at e; exact ⟨vs, e, h⟩
theorem VR.tup {l : List PV} {x : Value} (h : VR w A ob μ (.tup l) x) : ∃ vs, x = .tuple vs ∧ TRs w A ob μ l vs.toList := by
  rcases h with h | ⟨h, h2⟩
  · simp [PV.isAny] at h
  · rw [cells_one h2] at h; simp only [CR] at h; obtain ⟨vs, e, h⟩ := h; simp at e; exact ⟨vs, e, h⟩
theorem VR.agg {l : List PV} {x : Value} (h : VR w A ob μ (.agg l) x) : ∃ cs, x = .agg cs ∧ CRs w A ob μ l cs.toList := by
  rcases h with h | ⟨h, h2⟩
  · simp [PV.isAny] at h
  · cases x <;> simp_all [aggV, PV.isAgg, Value.cells, CR]
theorem VR.of_one {v : PV} {x : Value} (h : CR w A ob μ v [x]) (h1 : aggV x = false) (h2 : v.isAgg = false) : VR w A ob μ v x :=
  .inr ⟨by rw [cells_one h1]; exact h, by rw [h1, h2]⟩
theorem VR.mk_int (k : IntKind) (n : Int) : VR w A ob μ (.int k n) (.int k n) := .of_one (by simp [CR]) rfl rfl
theorem VR.mk_bool (b : Bool) : VR w A ob μ (.bool b) (.bool b) := .of_one (by simp [CR]) rfl rfl
theorem VR.mk_str (s : ByteArray) (h : s.size ≤ 9223372036854775807) : VR w A ob μ (.str s) (.string s) := .of_one (by unfold CR; exact ⟨rfl, h⟩) rfl rfl
theorem VR.str_size {s : ByteArray} {x : Value} (h : VR w A ob μ (.str s) x) : s.size ≤ 9223372036854775807 := by
  rcases h with h | ⟨h, _⟩
  · cases h
  · simp only [CR] at h; exact h.2
theorem VR.mk_any (x : Value) : VR w A ob μ .any x := .inl rfl
theorem VR.mk_undef : VR w A ob μ .undef Go.undef := .of_one (by simp [CR]) rfl rfl
theorem VR.mk_sl {T : Ty} {xs : List T.den} {x : Value} (h : DR w A (.slice T) xs [x]) : VR w A ob μ (.sl T xs) x := by
  refine .of_one (by simpa [CR] using h) ?_ rfl
  simp only [DR] at h
  obtain ⟨a, c, e, _⟩ := h
  simp at e; subst e; rfl

theorem VR.ofConst (v : Value) : VR w A ob μ (ofConst v) v := by
  unfold Vm.ofConst
  split
  · exact .mk_int _ _
  · exact .mk_bool _
  · rename_i s
    cases hb : Nat.ble s.size 9223372036854775807
    · exact .mk_any _
    · exact .mk_str _ (Nat.le_of_ble_eq_true hb)
  · exact .of_one (by simp [CR]) rfl rfl
  · exact .of_one (by simp [CR, nilV]) rfl rfl
  · exact .of_one (by simp [CR, nilV]) rfl rfl
  · exact .of_one (by simp [CR, nilV]) rfl rfl
  · exact .of_one (by simp [CR, nilV]) rfl rfl
  · exact .mk_any _
end

/-! ### The variables -/
/-- the variables hold these values -/
structure Slots (w : World) (A : Nat → Prop) (ob : Nat → OB) (μ : Nat → Value) (l : List PV) (a : Act) : Prop where
  size : a.tmps.size = l.length
  each : ∀ t v, l[t]? = some v → VR w A ob μ v (a.tmps.getD t Go.undef)
theorem Slots.opd {w : World} {A : Nat → Prop} {ob : Nat → OB} {μ : Nat → Value} {S : St} {a : Act} (h : Slots w A ob μ S.slots a) (x : Operand) : VR w A ob μ (opd S x) (a.eval x) := by
  cases x with
  | tmp t =>
    simp only [Vm.opd, Act.eval]
    cases ht : S.slots[t]? with
    | some v =>
      have : S.slots.getD t .undef = v := by simp [List.getD, ht]
      rw [this]; exact h.each t v ht
    | none =>
      have h1 : S.slots.getD t .undef = .undef := by simp [List.getD, ht]
      have h2 : a.tmps.getD t Go.undef = Go.undef := by
        have : ¬ t < a.tmps.size := by rw [h.size]; simpa using ht
        simp [Array.getD, this]
      rw [h1, h2]; exact .mk_undef
  | const v => exact VR.ofConst v
  | global g => exact .mk_any _
  | func f =>
    show VR w A ob μ (.func f []) (.func (.func f) #[] #[])
    exact .of_one (by simp [CR, TRs]) rfl rfl

/-! ### What an operation comes to -/
def upd {α : Type} (f : Nat → α) (a : Nat) (b : α) : Nat → α := fun x => if x = a then b else f x
def addA (A : Nat → Prop) (v : Value) : Nat → Prop := fun b => A b ∨ blkOf v = some b
/-- the value, and the object that was made: nothing that was there has changed -/
def QR (w : World) (A : Nat → Prop) (ob : Nat → OB) (μ : Nat → Value) (al : Nat) (res : Result Next) (pv : PV) (nb : Option OB) : Prop :=
  ∃ v w', res = .ok (.value v) w' ∧ Keep None w w' ∧
    match nb with
    | none => VR w' A ob μ pv v
    | some b => ∃ mv, (∀ x, blkOf mv = some x → w.heap.size ≤ x ∧ x < w'.heap.size) ∧ OR w' (addA A mv) (upd ob al b) (upd μ al mv) al ∧ VR w' (addA A mv) (upd ob al b) (upd μ al mv) pv v
theorem QR.plain {w : World} {A : Nat → Prop} {ob : Nat → OB} {μ : Nat → Value} {al : Nat} {pv : PV} {v : Value} (h : VR w A ob μ pv v) : QR w A ob μ al (.ok (.value v) w) pv none :=
  ⟨v, w, rfl, Keep.refl _ _, h⟩

section
variable {P : Program} {E : Env} {w : World} {A : Nat → Prop} {μ : Nat → Value} {S : St} {a : Act} {o : Oper} {al : Nat} {ρ : Type} {r : ρ}
theorem optK_some {α : Type} {x : Option α} {K : α → Option ρ} (h : optK x K = some r) : ∃ y, x = some y ∧ K y = some r := by
  cases x with
  | none => cases h
  | some y => exact ⟨y, rfl, h⟩
theorem cond_none {b : Bool} {x : Option ρ} (h : cond b none x = some r) : b = false ∧ x = some r := by
  cases b
  · exact ⟨rfl, h⟩
  · cases h
theorem cond_some {b : Bool} {x : Option ρ} (h : cond b x none = some r) : b = true ∧ x = some r := by
  cases b with
  | false => cases h
  | true => exact ⟨rfl, h⟩

theorem eqInt?_some {k : IntKind} {v : PV} {x : Int} (h : asInt? k v = some x) : v = .int k x := by
  unfold asInt? at h
  split at h
  · split at h
    · rename_i hk; subst hk; cases h; rfl
    · cases h
  · cases h
theorem eqBool?_some {v : PV} {x : Bool} (h : asBool? v = some x) : v = .bool x := by cases v <;> simp_all [asBool?]
theorem eqStr?_some {v : PV} {x : ByteArray} (h : asStr? v = some x) : v = .str x := by cases v <;> simp_all [asStr?]
theorem eqAgg?_some {v : PV} {l : List PV} (h : asAgg? v = some l) : v = .agg l := by cases v <;> simp_all [asAgg?]
mutual
theorem eqT_len {ob : Nat → OB} : ∀ (T : Ty) (v u : PV) (b : Bool) (cs cs' : List Value), eqT T v u = some b → CR w A ob μ v cs → CR w A ob μ u cs' → cs.length = T.cells ∧ cs'.length = T.cells
  | .int k, v, u, b, cs, cs', h, hc, hc' => by
    simp only [eqT] at h
    obtain ⟨x, h1, h⟩ := Option.bind_eq_some_iff.1 h
    obtain ⟨y, h2, h⟩ := Option.bind_eq_some_iff.1 h
    rw [eqInt?_some h1] at hc
    rw [eqInt?_some h2] at hc'
    simp only [CR] at hc hc'
    subst hc hc'
    exact ⟨rfl, rfl⟩
  | .bool, v, u, b, cs, cs', h, hc, hc' => by
    simp only [eqT] at h
    obtain ⟨x, h1, h⟩ := Option.bind_eq_some_iff.1 h
    obtain ⟨y, h2, h⟩ := Option.bind_eq_some_iff.1 h
    rw [eqBool?_some h1] at hc
    rw [eqBool?_some h2] at hc'
    simp only [CR] at hc hc'
    subst hc hc'
    exact ⟨rfl, rfl⟩
  | .str, v, u, b, cs, cs', h, hc, hc' => by
    simp only [eqT] at h
    obtain ⟨x, h1, h⟩ := Option.bind_eq_some_iff.1 h
    obtain ⟨y, h2, h⟩ := Option.bind_eq_some_iff.1 h
    rw [eqStr?_some h1] at hc
    rw [eqStr?_some h2] at hc'
    simp only [CR] at hc hc'
    rw [hc.1, hc'.1]
    exact ⟨rfl, rfl⟩
  | .slice _, v, u, b, cs, cs', h, hc, hc' => by simp only [eqT, reduceCtorEq] at h
  | .struct fs, v, u, b, cs, cs', h, hc, hc' => by
    simp only [eqT] at h
    obtain ⟨l, h1, h⟩ := Option.bind_eq_some_iff.1 h
    obtain ⟨m, h2, h⟩ := Option.bind_eq_some_iff.1 h
    rw [eqAgg?_some h1] at hc
    rw [eqAgg?_some h2] at hc'
    simp only [CR] at hc hc'
    simpa only [Ty.cells] using eqTs_len fs l m b cs cs' h hc hc'
theorem eqTs_len {ob : Nat → OB} : ∀ (T : Tys) (v u : List PV) (b : Bool) (cs cs' : List Value), eqTs T v u = some b → CRs w A ob μ v cs → CRs w A ob μ u cs' → cs.length = T.cells ∧ cs'.length = T.cells
  | .nil, v, u, b, cs, cs', h, hc, hc' => by
    simp only [eqTs] at h
    split at h
    · simp only [CRs] at hc hc'
      subst hc hc'
      exact ⟨rfl, rfl⟩
    · cases h
  | .cons t ts, v, u, b, cs, cs', h, hc, hc' => by
    simp only [eqTs] at h
    split at h
    · obtain ⟨x, h1, h⟩ := Option.bind_eq_some_iff.1 h
      obtain ⟨y, h2, h⟩ := Option.bind_eq_some_iff.1 h
      simp only [CRs] at hc hc'
      obtain ⟨c1, c2, rfl, k1, k2⟩ := hc
      obtain ⟨d1, d2, rfl, k3, k4⟩ := hc'
      have e1 := eqT_len t _ _ _ _ _ h1 k1 k3
      have e2 := eqTs_len ts _ _ _ _ _ h2 k2 k4
      simp [Tys.cells, e1, e2]
    · cases h
end
theorem run_part' {t : TypeId} {T : Ty} (hT : TyOK P t T) {xs : Array Value} {off : Nat} {c1 c2 : List Value} (h : xs.toList.drop off = c1 ++ c2) (hl : c1.length = T.cells) : (part t xs off).run P w = .ok (wrapV T.isAgg c1) w := by
  obtain ⟨i, hi, hs, _⟩ := hT.info
  unfold part
  simp only [Sem.run_bind, run_isAgg' hT.agg, Result.andThen]
  cases ha : T.isAgg
  · simp only [Bool.false_eq_true, if_false, wrapV]
    have h1 : T.cells = 1 := by cases T <;> simp_all [Ty.isAgg, Ty.cells]
    rw [h1] at hl
    obtain ⟨x, rfl⟩ : ∃ x, c1 = [x] := by
      match c1, hl with
      | [x], _ => exact ⟨x, rfl⟩
    have hx : xs[off]? = some x := by
      rw [← Array.getElem?_toList, ← List.head?_drop, h]; rfl
    simp [hx]
  · simp only [if_true, Sem.run_bind, run_sizeOf' ⟨i, hi, hs⟩, Result.andThen, wrapV, Sem.run_pure]
    congr 2
    apply Array.ext'
    simp only [Array.toList_extract, List.extract_eq_take_drop, Nat.add_sub_cancel_left, h]
    rw [← hl]
    simp
mutual
theorem eqT_sound {ob : Nat → OB} : ∀ (T : Ty) (t : TypeId) (v u : PV) (b : Bool) (cs cs' : List Value) (d : Nat), TyOK P t T → T.deep = false → eqT T v u = some b → CR w A ob μ v cs → CR w A ob μ u cs' → T.height ≤ d →
    (Op.equalIn (d + 1) t (wrapV T.isAgg cs) (wrapV T.isAgg cs')).run P w = .ok b w
  | .int k, t, v, u, b, cs, cs', d, hT, hd, h, hc, hc', hh => by
    simp only [eqT] at h
    obtain ⟨x, h1, h⟩ := Option.bind_eq_some_iff.1 h
    obtain ⟨y, h2, h⟩ := Option.bind_eq_some_iff.1 h
    cases h
    rw [eqInt?_some h1] at hc
    rw [eqInt?_some h2] at hc'
    simp only [CR] at hc hc'
    subst hc hc'
    simp only [TyOK] at hT
    exact run_equalIn_int w d t k k x y hT.2
  | .bool, t, v, u, b, cs, cs', d, hT, hd, h, hc, hc', hh => by
    simp only [eqT] at h
    obtain ⟨x, h1, h⟩ := Option.bind_eq_some_iff.1 h
    obtain ⟨y, h2, h⟩ := Option.bind_eq_some_iff.1 h
    cases h
    rw [eqBool?_some h1] at hc
    rw [eqBool?_some h2] at hc'
    simp only [CR] at hc hc'
    subst hc hc'
    simp only [TyOK] at hT
    exact run_equalIn_bool' w d t x y hT.2
  | .str, t, v, u, b, cs, cs', d, hT, hd, h, hc, hc', hh => by
    simp only [eqT] at h
    obtain ⟨x, h1, h⟩ := Option.bind_eq_some_iff.1 h
    obtain ⟨y, h2, h⟩ := Option.bind_eq_some_iff.1 h
    cases h
    rw [eqStr?_some h1] at hc
    rw [eqStr?_some h2] at hc'
    simp only [CR] at hc hc'
    rw [hc.1, hc'.1]
    simp only [TyOK] at hT
    exact run_equalIn_string w d t x y hT.2
  | .slice _, t, v, u, b, cs, cs', d, hT, hd, h, hc, hc', hh => by simp only [eqT, reduceCtorEq] at h
  | .struct fs, t, v, u, b, cs, cs', d, hT, hd, h, hc, hc', hh => by
    simp only [eqT] at h
    obtain ⟨l, h1, h⟩ := Option.bind_eq_some_iff.1 h
    obtain ⟨m, h2, h⟩ := Option.bind_eq_some_iff.1 h
    rw [eqAgg?_some h1] at hc
    rw [eqAgg?_some h2] at hc'
    simp only [CR] at hc hc'
    simp only [TyOK] at hT
    obtain ⟨_, fields, hu, hTs, hq⟩ := hT
    have hd' : Ty.deep.go fs = false := by simpa only [Ty.deep] using hd
    obtain ⟨q1, q2, q3⟩ := hq hd'
    simp only [Ty.height] at hh
    obtain ⟨d, rfl⟩ : ∃ e, d = e + 1 := ⟨d - 1, by omega⟩
    have hf : P.fieldsOf t = fields := by simp [Program.fieldsOf, hu]
    show (Op.equalIn (d + 1 + 1) t (.agg cs.toArray) (.agg cs'.toArray)).run P w = .ok b w
    rw [run_equalIn_struct w (d + 1) t _ _ (by rw [hf]; exact hu) q1, hf]
    exact eqTs_sound fs fields.toList 0 l m b cs cs' d _ _ hTs q3 hd' h hc hc' (by simp) (by simp) (by omega)
theorem eqTs_sound {ob : Nat → OB} : ∀ (T : Tys) (fields : List Field) (off : Nat) (l m : List PV) (b : Bool) (cs cs' : List Value) (d : Nat) (xs ys : Array Value), TysOK P fields off T → (∀ f ∈ fields, (f.name == "_") = false) → Ty.deep.go T = false → eqTs T l m = some b →
    CRs w A ob μ l cs → CRs w A ob μ m cs' → xs.toList.drop off = cs → ys.toList.drop off = cs' → T.height ≤ d → (Op.eqFields (d + 1) xs ys fields).run P w = .ok b w
  | .nil, [], off, l, m, b, cs, cs', d, xs, ys, hT, hn, hd, h, hc, hc', hx, hy, hh => by
    simp only [eqTs] at h
    split at h
    · cases h
      simp [Op.eqFields]
    · cases h
  | .nil, _ :: _, off, l, m, b, cs, cs', d, xs, ys, hT, hn, hd, h, hc, hc', hx, hy, hh => by simp only [TysOK] at hT
  | .cons t ts, [], off, l, m, b, cs, cs', d, xs, ys, hT, hn, hd, h, hc, hc', hx, hy, hh => by simp only [TysOK] at hT
  | .cons t ts, f :: fields, off, l, m, b, cs, cs', d, xs, ys, hT, hn, hd, h, hc, hc', hx, hy, hh => by
    simp only [eqTs] at h
    split at h
    · rename_i v l u m
      obtain ⟨b1, h1, h⟩ := Option.bind_eq_some_iff.1 h
      obtain ⟨b2, h2, h⟩ := Option.bind_eq_some_iff.1 h
      cases h
      simp only [CRs] at hc hc'
      obtain ⟨c1, c2, rfl, k1, k2⟩ := hc
      obtain ⟨d1, d2, rfl, k3, k4⟩ := hc'
      simp only [TysOK] at hT
      obtain ⟨ho, hpos, hTf, hTs⟩ := hT
      obtain ⟨l1, l2⟩ := eqT_len t _ _ _ _ _ h1 k1 k3
      have htd : t.deep = false := by cases t <;> simp [Ty.deep.go] at hd <;> simp [Ty.deep, hd]
      have htsd : Ty.deep.go ts = false := by cases t <;> simp [Ty.deep.go] at hd <;> first | exact hd | exact hd.2
      simp only [Tys.height] at hh
      have p1 := run_part' (w := w) hTf hx l1
      have p2 := run_part' (w := w) hTf hy l2
      have e1 := eqT_sound t f.type v u b1 c1 d1 d hTf htd h1 k1 k3 (by omega)
      have e2 := eqTs_sound ts fields (off + t.cells) l m b2 c2 d2 d xs ys hTs (fun g hg => hn g (List.mem_cons_of_mem _ hg)) htsd h2 k2 k4
        (by rw [← List.drop_drop, hx, ← l1]; simp) (by rw [← List.drop_drop, hy, ← l2]; simp) (by omega)
      have hnf : f.name ≠ "_" := by simpa using hn f (List.mem_cons_self ..)
      rw [Op.eqFields, if_pos hnf]
      rw [ho]
      simp only [Sem.run_bind, p1, p2, e1, Result.andThen_ok]
      cases b1
      · simp
      · simpa using e2
    · cases h
end
theorem run_cmp_slice_nil (w : World) (t e : TypeId) (a : Addr) (n c : Nat) (h : P.underlying t = some (.slice e)) :
    (binOp .eql t (.slice (some a) n c) (.slice none 0 0)).run P w = .ok (.bool false) w ∧ (binOp .neq t (.slice (some a) n c) (.slice none 0 0)).run P w = .ok (.bool true) w := by
  have h9 : ∀ d, (Op.equalIn (d + 1) t (.slice (some a) n c) (.slice none 0 0)).run P w = .ok false w := fun d => by
    simp [Op.equalIn, run_underlying h]
  constructor <;> simp only [binOp] <;> simp [Op.equal, Op.maxDepth, h9 9999]
theorem eqGuard_slice (op : BinOp) (t : TypeId) (x y : Operand) (a b : Option Addr) (n c m d : Nat) (K : Unit → World → Result Value) : ((eqGuard op t x y (.slice a n c) (.slice b m d)).run P w).andThen K = K () w := by
  unfold eqGuard
  cases op <;> simp [Result.andThen]
theorem bin_sound {okB okS : Bool} {q : Option Ty} {op : BinOp} {x y : PV} {K : PV → Option ρ} (h : bin okB okS q op x y K = some r) {u v : Value} (hx : VR w A S.ob μ x u) (hy : VR w A S.ob μ y v) (t : TypeId) (x0 y0 : Operand) (hB : okB = true → P.underlying t = some .bool) (hSl : okS = true → ∃ e, P.underlying t = some (.slice e)) (hq : ∀ T, q = some T → TyOK P t T) :
    ∃ pv z, K pv = some r ∧ (do eqGuard op t x0 y0 u v; binOp op t u v : Sem Value).run P w = .ok z w ∧ VR w A S.ob μ pv z := by
  unfold bin at h
  split at h
  · rename_i k a' k' b' 
    have e1 := hx.int; have e2 := hy.int; subst e1 e2
    unfold binInt at h
    have hk : ∀ {x : Option ρ}, (cond (decide (k = k')) x none) = some r → k = k' ∧ x = some r := fun h => by
      obtain ⟨h1, h2⟩ := cond_some h
      exact ⟨of_decide_eq_true h1, h2⟩
    rw [eqGuard_at_int]
    split at h
    · obtain ⟨hb, h⟩ := cond_some h
      have hb' : ¬ b' < 0 := by have := of_decide_eq_true hb; omega
      exact ⟨_, _, h, by simp [binOp, Op.shift, hb'], .mk_int _ _⟩
    · obtain ⟨hb, h⟩ := cond_some h
      have hb' : ¬ b' < 0 := by have := of_decide_eq_true hb; omega
      exact ⟨_, _, h, by simp [binOp, Op.shift, hb'], .mk_int _ _⟩
    · obtain ⟨hk1, h9⟩ := hk h; subst hk1; exact ⟨_, _, h9, by simp [binOp, Op.intArith], .mk_int _ _⟩
    · obtain ⟨hk1, h9⟩ := hk h; subst hk1; exact ⟨_, _, h9, by simp [binOp, Op.intArith], .mk_int _ _⟩
    · obtain ⟨hk1, h9⟩ := hk h; subst hk1; exact ⟨_, _, h9, by simp [binOp, Op.intArith], .mk_int _ _⟩
    · obtain ⟨hk1, h9⟩ := hk h; subst hk1
      obtain ⟨hb, h8⟩ := cond_none h9
      have hb' : ¬ b' = 0 := by simpa using hb
      exact ⟨_, _, h8, by simp [binOp, Op.intDiv, hb'], .mk_int _ _⟩
    · obtain ⟨hk1, h9⟩ := hk h; subst hk1
      obtain ⟨hb, h8⟩ := cond_none h9
      have hb' : ¬ b' = 0 := by simpa using hb
      exact ⟨_, _, h8, by simp [binOp, Op.intDiv, hb'], .mk_int _ _⟩
    · obtain ⟨hk1, h9⟩ := hk h; subst hk1; exact ⟨_, _, h9, by simp [binOp, Op.intCmp], .mk_bool _⟩
    · obtain ⟨hk1, h9⟩ := hk h; subst hk1; exact ⟨_, _, h9, by simp [binOp, Op.intCmp], .mk_bool _⟩
    · obtain ⟨hk1, h9⟩ := hk h; subst hk1; exact ⟨_, _, h9, by simp [binOp, Op.intCmp], .mk_bool _⟩
    · obtain ⟨hk1, h9⟩ := hk h; subst hk1; exact ⟨_, _, h9, by simp [binOp, Op.intCmp], .mk_bool _⟩
    · obtain ⟨hk1, h9⟩ := hk h; subst hk1; exact ⟨_, _, h9, by simp [binOp, Op.intCmp], .mk_bool _⟩
    · obtain ⟨hk1, h9⟩ := hk h; subst hk1; exact ⟨_, _, h9, by simp [binOp, Op.intCmp], .mk_bool _⟩
    · obtain ⟨hk1, h9⟩ := hk h; subst hk1; exact ⟨_, _, h9, by simp [binOp, Op.intBits, iand, ior, ixor, iandn], .mk_int _ _⟩
    · obtain ⟨hk1, h9⟩ := hk h; subst hk1; exact ⟨_, _, h9, by simp [binOp, Op.intBits, iand, ior, ixor, iandn], .mk_int _ _⟩
    · obtain ⟨hk1, h9⟩ := hk h; subst hk1; exact ⟨_, _, h9, by simp [binOp, Op.intBits, iand, ior, ixor, iandn], .mk_int _ _⟩
    · obtain ⟨hk1, h9⟩ := hk h; subst hk1; exact ⟨_, _, h9, by simp [binOp, Op.intBits, iand, ior, ixor, iandn], .mk_int _ _⟩
  · rename_i a' b'
    have e1 := hx.str; have e2 := hy.str; subst e1 e2
    split at h
    · obtain ⟨hb, h⟩ := cond_some h
      have hb' : a'.size + b'.size < 4611686018427387904 := by simpa using hb
      refine ⟨_, _, h, ?_, .mk_str _ (by rw [ByteArray.size_append]; omega)⟩
      have hm : ¬ ((a'.size + b'.size : Nat) : Int) > IntKind.i64.max := by
        have : IntKind.i64.max = 9223372036854775807 := by decide
        rw [this]; omega
      simp only [binOp, Op.stringOp]
      rw [if_neg hm]
      simp [eqGuard]
    · exact ⟨_, _, h, by simp [binOp, Op.stringOp, eqGuard, sEq, sLt], .mk_bool _⟩
    · exact ⟨_, _, h, by simp [binOp, Op.stringOp, eqGuard, sEq, sLt], .mk_bool _⟩
    · exact ⟨_, _, h, by simp [binOp, Op.stringOp, eqGuard, sEq, sLt], .mk_bool _⟩
    · exact ⟨_, _, h, by simp [binOp, Op.stringOp, eqGuard, sEq, sLt], .mk_bool _⟩
    · exact ⟨_, _, h, by simp [binOp, Op.stringOp, eqGuard, sEq, sLt], .mk_bool _⟩
    · exact ⟨_, _, h, by simp [binOp, Op.stringOp, eqGuard, sEq, sLt], .mk_bool _⟩
    · cases h
  · rename_i a' b'
    have e1 := hx.bool; have e2 := hy.bool; subst e1 e2
    rw [eqGuard_at_bool]
    split at h
    · obtain ⟨hb, h⟩ := cond_some h
      exact ⟨_, _, h, by rw [Sem.run_bind]; exact run_eql_bool w t _ _ (hB hb), .mk_bool _⟩
    · obtain ⟨hb, h⟩ := cond_some h
      exact ⟨_, _, h, by rw [Sem.run_bind]; exact run_neq_bool w t _ _ (hB hb), .mk_bool _⟩
    · cases h
  · rename_i T xs
    have e2 := hy.nil
    subst e2
    have hd := hx.sl
    simp only [DR] at hd
    obtain ⟨a, c, e1, _, hd⟩ := hd
    simp only [List.cons.injEq, and_true] at e1
    subst e1
    unfold binSl at h
    split at h
    · obtain ⟨hs, h⟩ := cond_some h
      obtain ⟨e, he⟩ := hSl hs
      obtain ⟨hl, h⟩ := cond_none h
      have hne : xs ≠ [] := by rintro rfl; simp at hl
      obtain ⟨b, off, rfl, _⟩ := hd.resolve_left hne
      exact ⟨_, _, h, by rw [Sem.run_bind, eqGuard_slice]; exact (run_cmp_slice_nil w t e _ _ _ he).1, .mk_bool _⟩
    · obtain ⟨hs, h⟩ := cond_some h
      obtain ⟨e, he⟩ := hSl hs
      obtain ⟨hl, h⟩ := cond_none h
      have hne : xs ≠ [] := by rintro rfl; simp at hl
      obtain ⟨b, off, rfl, _⟩ := hd.resolve_left hne
      exact ⟨_, _, h, by rw [Sem.run_bind, eqGuard_slice]; exact (run_cmp_slice_nil w t e _ _ _ he).2, .mk_bool _⟩
    · cases h
  · rename_i l m
    obtain ⟨cs, rfl, hc⟩ := hx.agg
    obtain ⟨cs', rfl, hc'⟩ := hy.agg
    unfold binAgg at h
    split at h
    · rename_i T
      obtain ⟨hst, h⟩ := cond_some h
      simp only [Bool.and_eq_true, Bool.not_eq_true'] at hst
      obtain ⟨ha, hd, hh⟩ := hst
      have hT := hq T rfl
      split at h
      · rename_i b hb
        have hg : P.eqGuardType P.depth t = false := by
          cases T with
          | struct fs =>
            simp only [TyOK] at hT
            obtain ⟨_, fields, _, _, hq⟩ := hT
            exact (hq (by simpa only [Ty.deep] using hd)).2.1
          | _ => cases ha
        have e := eqT_sound T t _ _ b cs.toList cs'.toList 9999 hT hd hb (by simpa only [CR] using hc) (by simpa only [CR] using hc') (by have := Nat.le_of_ble_eq_true hh; omega)
        rw [ha] at e
        simp only [wrapV, if_true, Array.toArray_toList] at e
        split at h
        · exact ⟨_, _, h, by rw [Sem.run_bind, run_eqGuard_agg w _ _ _ _ _ _ hg]; simp only [Result.andThen_ok]; rw [run_eql_struct, e]; rfl, .mk_bool _⟩
        · exact ⟨_, _, h, by rw [Sem.run_bind, run_eqGuard_agg w _ _ _ _ _ _ hg]; simp only [Result.andThen_ok]; rw [run_neq_struct, e]; rfl, .mk_bool _⟩
        · cases h
      · cases h
    · cases h
  · cases h
end
end Go.Vm

/- Vm, part 6: plain data and values; parts of values; reading and writing memory. Own work. -/
set_option linter.unusedVariables false
set_option linter.unusedSimpArgs false
set_option linter.unusedSectionVars false
namespace Go.Vm
variable [MonotC]
open Go.RowKit

theorem Ty.cells_one : ∀ {T : Ty}, T.isAgg = false → T.cells = 1
  | .int _, _ => rfl | .bool, _ => rfl | .str, _ => rfl | .slice _, _ => rfl | .struct _, h => by cases h
theorem TD.cells_one : ∀ {d : TD}, d.isAgg = false → d.cells = 1
  | .data _, h => Ty.cells_one h | .cell _, _ => rfl | .agg _, h => by cases h | .map _ _, _ => rfl

section
variable {w : World} {A : Nat → Prop} {ob : Nat → OB} {μ : Nat → Value}
mutual
theorem explode_sound : ∀ (T : Ty) (x : T.den) (cs : List Value), DR w A T x cs → CR w A ob μ (explode T x) cs
  | .int _, _, _, h => by simpa only [explode, CR, DR] using h
  | .bool, _, _, h => by simpa only [explode, CR, DR] using h
  | .str, _, _, h => by simpa only [explode, CR, DR] using h
  | .slice _, _, _, h => by simpa only [explode, CR] using h
  | .struct fs, x, cs, h => by simp only [DR] at h; simpa only [explode, CR] using explodes_sound fs x cs h
theorem explodes_sound : ∀ (T : Tys) (x : T.den) (cs : List Value), DRs w A T x cs → CRs w A ob μ (explodes T x) cs
  | .nil, _, _, h => by simpa only [explodes, CRs, DRs] using h
  | .cons t ts, x, cs, h => by
    simp only [DRs] at h
    obtain ⟨c1, c2, e, h1, h2⟩ := h
    simp only [explodes, CRs]
    exact ⟨c1, c2, e, explode_sound t x.1 c1 h1, explodes_sound ts x.2 c2 h2⟩
end
theorem asInt?_some {k : IntKind} {v : PV} {x : Int} (h : asInt? k v = some x) : v = .int k x := by
  cases v <;> simp only [asInt?] at h <;> try cases h
  split at h <;> cases h
  subst_vars; rfl
theorem asBool?_some {v : PV} {x : Bool} (h : asBool? v = some x) : v = .bool x := by cases v <;> simp_all [asBool?]
theorem asStr?_some {v : PV} {x : ByteArray} (h : asStr? v = some x) : v = .str x := by cases v <;> simp_all [asStr?]
theorem asAgg?_some {v : PV} {l : List PV} (h : asAgg? v = some l) : v = .agg l := by cases v <;> simp_all [asAgg?]
theorem castL_some {T U : Ty} {xs : List T.den} {ys : List U.den} (h : castL T U xs = some ys) : ∃ e : T = U, e ▸ xs = ys := by
  unfold castL at h
  split at h <;> cases h
  rename_i e
  exact ⟨e, rfl⟩
theorem asSl?_some {T : Ty} {v : PV} {xs : List T.den} (h : asSl? T v = some xs) : v = .sl T xs ∨ (v = .nil ∧ xs = []) := by
  cases v <;> simp only [asSl?] at h <;> try cases h
  · obtain ⟨e, h⟩ := castL_some h
    subst e; subst h; exact .inl rfl
  · exact .inr ⟨rfl, rfl⟩
mutual
theorem implode_sound : ∀ (T : Ty) (v : PV) (x : T.den) (cs : List Value), implode T v = some x → CR w A ob μ v cs → DR w A T x cs
  | .int k, v, x, cs, h, hc => by
    simp only [implode] at h
    obtain rfl := asInt?_some h
    simpa only [CR, DR] using hc
  | .bool, v, x, cs, h, hc => by
    simp only [implode] at h
    obtain rfl := asBool?_some h
    simpa only [CR, DR] using hc
  | .str, v, x, cs, h, hc => by
    simp only [implode] at h
    obtain rfl := asStr?_some h
    simpa only [CR, DR] using hc
  | .slice t, v, x, cs, h, hc => by
    simp only [implode] at h
    rcases asSl?_some h with rfl | ⟨rfl, rfl⟩
    · simpa only [CR] using hc
    · simp only [CR] at hc; subst hc
      simp only [DR]; exact ⟨none, 0, rfl, ⟨Nat.le_refl _, Nat.zero_le _⟩, .inl rfl⟩
  | .struct fs, v, x, cs, h, hc => by
    simp only [implode] at h
    cases ha : asAgg? v with
    | none => simp [ha] at h
    | some l =>
      obtain rfl := asAgg?_some ha
      simp only [ha] at h
      simp only [CR] at hc
      simp only [DR]
      exact implodes_sound fs l x cs h hc
theorem implodes_sound : ∀ (T : Tys) (l : List PV) (x : T.den) (cs : List Value), implodes T l = some x → CRs w A ob μ l cs → DRs w A T x cs
  | .nil, [], x, cs, h, hc => by simpa only [CRs, DRs] using hc
  | .nil, _ :: _, x, cs, h, hc => by simp [implodes] at h
  | .cons t ts, [], x, cs, h, hc => by simp [implodes] at h
  | .cons t ts, v :: l, x, cs, h, hc => by
    simp only [implodes, Option.bind_eq_some_iff] at h
    obtain ⟨y, h1, z, h2, h⟩ := h
    cases h
    simp only [CRs] at hc
    obtain ⟨c1, c2, e, h3, h4⟩ := hc
    simp only [DRs]
    exact ⟨c1, c2, e, implode_sound t v y c1 h1 h3, implodes_sound ts l z c2 h2 h4⟩
end
mutual
theorem zeroOf_sound : ∀ (T : Ty), CR w A ob μ (zeroOf T) (zeroV T)
  | .int _ => by simp [zeroOf, zeroV, CR] | .bool => by simp [zeroOf, zeroV, CR] | .str => by simp [zeroOf, zeroV, CR]; rfl | .slice _ => by simp [zeroOf, zeroV, CR]
  | .struct fs => by simpa only [zeroOf, zeroV, CR] using zerosOf_sound fs
theorem zerosOf_sound : ∀ (T : Tys), CRs w A ob μ (zerosOf T) (zerosV T)
  | .nil => by simp [zerosOf, zerosV, CRs]
  | .cons t ts => by simp only [zerosOf, zerosV, CRs]; exact ⟨_, _, rfl, zeroOf_sound t, zerosOf_sound ts⟩
end
mutual
theorem TD.zero_sound : ∀ (d : TD), CR w A ob μ d.zero d.zeroV
  | .data T => by simpa only [TD.zero, TD.zeroV] using zeroOf_sound T
  | .cell k => by simp [TD.zero, TD.zeroV, CR]
  | .map _ _ => by simp [TD.zero, TD.zeroV, CR]
  | .agg l => by simpa only [TD.zero, TD.zeroV, CR] using TDs.zero_sound l
theorem TDs.zero_sound : ∀ (d : TDs), CRs w A ob μ d.zero d.zeroV
  | .nil => by simp [TDs.zero, TDs.zeroV, CRs]
  | .cons d l => by simp only [TDs.zero, TDs.zeroV, CRs]; exact ⟨_, _, rfl, TD.zero_sound d, TDs.zero_sound l⟩
end
mutual
theorem dflt_sound : ∀ (T : Ty), DR w A T T.dflt (zeroV T)
  | .int _ => by simp [DR, Ty.dflt, zeroV] | .bool => by simp [DR, Ty.dflt, zeroV] | .str => by simp only [DR, Ty.dflt, zeroV]; exact ⟨rfl, Nat.zero_le _⟩
  | .slice _ => by simp only [DR, Ty.dflt, zeroV]; exact ⟨none, 0, rfl, ⟨Nat.le_refl _, Nat.zero_le _⟩, .inl rfl⟩
  | .struct fs => by simpa only [DR, Ty.dflt, zeroV] using dflts_sound fs
theorem dflts_sound : ∀ (T : Tys), DRs w A T T.dflt (zerosV T)
  | .nil => by simp [DRs, zerosV]
  | .cons t ts => by simp only [DRs, Tys.dflt, zerosV]; exact ⟨_, _, rfl, dflt_sound t, dflts_sound ts⟩
end
end

/-! ### Forms -/
mutual
theorem Ty.fits_explode : ∀ (T : Ty) (x : T.den), T.fits (explode T x) = true
  | .int _, _ => rfl | .bool, _ => rfl | .str, _ => rfl | .slice _, _ => rfl
  | .struct fs, x => by simpa only [explode, Ty.fits] using Tys.fits_explodes fs x
theorem Tys.fits_explodes : ∀ (T : Tys) (x : T.den), T.fits (explodes T x) = true
  | .nil, _ => rfl
  | .cons t ts, x => by simp only [explodes, Tys.fits, Bool.and_eq_true]; exact ⟨Ty.fits_explode t x.1, Tys.fits_explodes ts x.2⟩
end
mutual
theorem Ty.fits_zero : ∀ (T : Ty), T.fits (zeroOf T) = true
  | .int _ => rfl | .bool => rfl | .str => rfl | .slice _ => rfl
  | .struct fs => by simpa only [zeroOf, Ty.fits] using Tys.fits_zero fs
theorem Tys.fits_zero : ∀ (T : Tys), T.fits (zerosOf T) = true
  | .nil => rfl
  | .cons t ts => by simp only [zerosOf, Tys.fits, Bool.and_eq_true]; exact ⟨Ty.fits_zero t, Tys.fits_zero ts⟩
end
mutual
theorem TD.fits_zero : ∀ (d : TD), d.fits d.zero = true
  | .data T => by simpa only [TD.zero, TD.fits] using Ty.fits_zero T
  | .cell k => rfl
  | .map _ _ => rfl
  | .agg l => by simpa only [TD.zero, TD.fits] using TDs.fits_zero l
theorem TDs.fits_zero : ∀ (d : TDs), d.fits d.zero = true
  | .nil => rfl
  | .cons d l => by simp only [TDs.zero, TDs.fits, Bool.and_eq_true]; exact ⟨TD.fits_zero d, TDs.fits_zero l⟩
end
theorem Ty.fits_agg {T : Ty} {v : PV} (h : T.fits v = true) : v.isAgg = T.isAgg := by
  cases T <;> cases v <;> simp_all [Ty.fits, PV.isAgg, Ty.isAgg]
theorem TD.fits_agg {d : TD} {v : PV} (h : d.fits v = true) : v.isAgg = d.isAgg := by
  cases d with
  | data T => simp only [TD.fits] at h; simpa [TD.isAgg] using Ty.fits_agg h
  | cell k => simpa [TD.fits, TD.isAgg] using h
  | map K V => simpa [TD.fits, TD.isAgg] using h
  | agg l => cases v <;> simp_all [TD.fits, PV.isAgg, TD.isAgg]
section
variable {w : World} {A : Nat → Prop} {ob : Nat → OB} {μ : Nat → Value}
theorem CR.len_one {v : PV} {cs : List Value} (h : CR w A ob μ v cs) (hv : v.isAgg = false) : cs.length = 1 := by
  cases v <;> simp only [CR] at h <;> first
    | (subst h; rfl)
    | (rw [h.1]; rfl)
    | (obtain ⟨_, rfl, _⟩ := h; rfl)
    | exact h
    | (cases hv; done)
    | (simp only [DR] at h; obtain ⟨_, _, rfl, _⟩ := h; rfl)
    | (obtain ⟨_, _, _, rfl, _⟩ := h; rfl)
mutual
theorem Ty.fits_len : ∀ (T : Ty) (v : PV) (cs : List Value), T.fits v = true → CR w A ob μ v cs → cs.length = T.cells
  | .int k, v, cs, h, hc => hc.len_one (Ty.fits_agg h)
  | .bool, v, cs, h, hc => hc.len_one (Ty.fits_agg h)
  | .str, v, cs, h, hc => hc.len_one (Ty.fits_agg h)
  | .slice T, v, cs, h, hc => hc.len_one (Ty.fits_agg h)
  | .struct fs, .agg l, cs, h, hc => by
    simp only [Ty.fits] at h; simp only [CR] at hc
    simpa only [Ty.cells] using Tys.fits_len fs l cs h hc
theorem Tys.fits_len : ∀ (T : Tys) (v : List PV) (cs : List Value), T.fits v = true → CRs w A ob μ v cs → cs.length = T.cells
  | .nil, [], cs, h, hc => by simp only [CRs] at hc; subst hc; rfl
  | .cons t ts, v :: l, cs, h, hc => by
    simp only [Tys.fits, Bool.and_eq_true] at h; simp only [CRs] at hc
    obtain ⟨c1, c2, rfl, h1, h2⟩ := hc
    simp [Tys.cells, Ty.fits_len t v c1 h.1 h1, Tys.fits_len ts l c2 h.2 h2]
end
mutual
theorem TD.fits_len : ∀ (T : TD) (v : PV) (cs : List Value), T.fits v = true → CR w A ob μ v cs → cs.length = T.cells
  | .data T, v, cs, h, hc => by simp only [TD.fits] at h; simpa only [TD.cells] using Ty.fits_len T v cs h hc
  | .cell k, v, cs, h, hc => hc.len_one (TD.fits_agg h)
  | .map _ _, v, cs, h, hc => hc.len_one (TD.fits_agg h)
  | .agg fs, .agg l, cs, h, hc => by
    simp only [TD.fits] at h; simp only [CR] at hc
    simpa only [TD.cells] using TDs.fits_len fs l cs h hc
theorem TDs.fits_len : ∀ (T : TDs) (v : List PV) (cs : List Value), T.fits v = true → CRs w A ob μ v cs → cs.length = T.cells
  | .nil, [], cs, h, hc => by simp only [CRs] at hc; subst hc; rfl
  | .cons t ts, v :: l, cs, h, hc => by
    simp only [TDs.fits, Bool.and_eq_true] at h; simp only [CRs] at hc
    obtain ⟨c1, c2, rfl, h1, h2⟩ := hc
    simp [TDs.cells, TD.fits_len t v c1 h.1 h1, TDs.fits_len ts l c2 h.2 h2]
end
end
/-! ### Parts -/
theorem LiesAt.sub {w : World} {b off : Nat} {cs : List Value} (h : LiesAt w b off cs) (k n : Nat) : LiesAt w b (off + k) ((cs.drop k).take n) := by
  intro j v hj
  rw [List.getElem?_take] at hj
  split at hj
  · rw [List.getElem?_drop] at hj
    have := h (k + j) v hj
    rwa [← Nat.add_assoc] at this
  · cases hj
section
variable {w : World} {A : Nat → Prop} {ob : Nat → OB} {μ : Nat → Value}
/-- a part of plain data: its value, its cells -/
theorem DRs.split {ts : Tys} {t : Ty} {x : (Tys.cons t ts).den} {cs : List Value} (h : DRs w A (.cons t ts) x cs) :
    DR w A t x.1 (cs.take t.cells) ∧ DRs w A ts x.2 (cs.drop t.cells) := by
  simp only [DRs] at h
  obtain ⟨c1, c2, rfl, h1, h2⟩ := h
  have hl := DR.len t _ _ h1
  rw [List.take_left' hl, List.drop_left' hl]
  exact ⟨h1, h2⟩
mutual
theorem getT_sound : ∀ (T : Ty) (p : List Nat) (x : T.den) (v : PV) (cs : List Value), getT T p x = some v → DR w A T x cs →
    ∃ off T', T.off p = some (off, T') ∧ CR w A ob μ v ((cs.drop off).take T'.cells) ∧ T'.fits v = true ∧ off + T'.cells ≤ T.cells
  | T, [], x, v, cs, h, hd => by
    cases T <;> (simp only [getT, Option.some.injEq] at h; subst h; refine ⟨0, _, by simp only [Ty.off], ?_, Ty.fits_explode _ _, by omega⟩; rw [List.drop_zero, List.take_of_length_le (Nat.le_of_eq (DR.len _ _ _ hd))]; exact explode_sound _ _ _ hd)
  | .struct fs, i :: p, x, v, cs, h, hd => by
    simp only [getT] at h
    simp only [DR] at hd
    obtain ⟨off, T', h1, h2, h3, h4⟩ := getTs_sound fs i p x v cs h hd
    exact ⟨off, T', by simp only [Ty.off, h1], h2, h3, by simpa only [Ty.cells] using h4⟩
  | .int _, _ :: _, x, v, cs, h, hd => by simp [getT] at h
  | .bool, _ :: _, x, v, cs, h, hd => by simp [getT] at h
  | .str, _ :: _, x, v, cs, h, hd => by simp [getT] at h
  | .slice _, _ :: _, x, v, cs, h, hd => by simp [getT] at h
theorem getTs_sound : ∀ (fs : Tys) (i : Nat) (p : List Nat) (x : fs.den) (v : PV) (cs : List Value), getT.go fs i p x = some v → DRs w A fs x cs →
    ∃ off T', Ty.off.go fs i p = some (off, T') ∧ CR w A ob μ v ((cs.drop off).take T'.cells) ∧ T'.fits v = true ∧ off + T'.cells ≤ fs.cells
  | .nil, _, _, x, v, cs, h, hd => by simp [getT.go] at h
  | .cons t ts, 0, p, x, v, cs, h, hd => by
    simp only [getT.go] at h
    obtain ⟨off, T', h1, h2, h3, h4⟩ := getT_sound t p x.1 v _ h hd.split.1
    refine ⟨off, T', by simp only [Ty.off.go, h1], ?_, h3, by simp only [Tys.cells]; omega⟩
    rw [List.drop_take, List.take_take] at h2
    rwa [show min T'.cells (t.cells - off) = T'.cells from by omega] at h2
  | .cons t ts, n + 1, p, x, v, cs, h, hd => by
    simp only [getT.go] at h
    obtain ⟨off, T', h1, h2, h3, h4⟩ := getTs_sound ts n p x.2 v _ h hd.split.2
    refine ⟨t.cells + off, T', by simp only [Ty.off.go, h1, Option.map_some], ?_, h3, by simp only [Tys.cells]; omega⟩
    rwa [List.drop_drop] at h2
end

def splice (cs : List Value) (off : Nat) (cv : List Value) : List Value := cs.take off ++ (cv ++ cs.drop (off + cv.length))
theorem splice_whole {cs cv : List Value} (h : cs.length = cv.length) : splice cs 0 cv = cv := by
  simp [splice, List.drop_of_length_le (Nat.le_of_eq h)]
theorem splice_len {cs cv : List Value} {off : Nat} (h : off + cv.length ≤ cs.length) : (splice cs off cv).length = cs.length := by
  simp [splice]; omega
theorem splice_head {c1 c2 cv : List Value} {off : Nat} (h : off + cv.length ≤ c1.length) : splice (c1 ++ c2) off cv = splice c1 off cv ++ c2 := by
  simp only [splice, List.append_assoc]
  rw [List.take_append_of_le_length (by omega), List.drop_append_of_le_length h]
theorem splice_tail {c1 c2 cv : List Value} {off : Nat} : splice (c1 ++ c2) (c1.length + off) cv = c1 ++ splice c2 off cv := by
  simp only [splice]
  rw [List.take_length_add_append, Nat.add_assoc, List.drop_length_add_append, List.append_assoc]
mutual
theorem setT_sound : ∀ (T : Ty) (p : List Nat) (x : T.den) (v : PV) (y : T.den) (cs cv : List Value), setT T p x v = some y → DR w A T x cs → CR w A ob μ v cv →
    ∃ off T', T.off p = some (off, T') ∧ off + cv.length ≤ T.cells ∧ cv.length = T'.cells ∧ DR w A T y (splice cs off cv)
  | T, [], x, v, y, cs, cv, h, hd, hv => by
    cases T <;> (simp only [setT] at h; have hy := implode_sound _ _ _ _ h hv; refine ⟨0, _, by simp only [Ty.off], by rw [DR.len _ _ _ hy]; omega, DR.len _ _ _ hy, ?_⟩; rw [splice_whole (by rw [DR.len _ _ _ hd, DR.len _ _ _ hy])]; exact hy)
  | .struct fs, i :: p, x, v, y, cs, cv, h, hd, hv => by
    simp only [setT] at h
    simp only [DR] at hd
    obtain ⟨off, T', h1, h2, h3, h4⟩ := setTs_sound fs i p x v y cs cv h hd hv
    exact ⟨off, T', by simp only [Ty.off, h1], by simpa only [Ty.cells] using h2, h3, by simpa only [DR] using h4⟩
  | .int _, _ :: _, x, v, y, cs, cv, h, hd, hv => by simp [setT] at h
  | .bool, _ :: _, x, v, y, cs, cv, h, hd, hv => by simp [setT] at h
  | .str, _ :: _, x, v, y, cs, cv, h, hd, hv => by simp [setT] at h
  | .slice _, _ :: _, x, v, y, cs, cv, h, hd, hv => by simp [setT] at h
theorem setTs_sound : ∀ (fs : Tys) (i : Nat) (p : List Nat) (x : fs.den) (v : PV) (y : fs.den) (cs cv : List Value), setT.go fs i p x v = some y → DRs w A fs x cs → CR w A ob μ v cv →
    ∃ off T', Ty.off.go fs i p = some (off, T') ∧ off + cv.length ≤ fs.cells ∧ cv.length = T'.cells ∧ DRs w A fs y (splice cs off cv)
  | .nil, _, _, x, v, y, cs, cv, h, hd, hv => by simp [setT.go] at h
  | .cons t ts, 0, p, x, v, y, cs, cv, h, hd, hv => by
    simp only [setT.go] at h
    obtain ⟨z, hz, rfl⟩ := Option.map_eq_some_iff.1 h
    simp only [DRs] at hd
    obtain ⟨c1, c2, rfl, hd1, hd2⟩ := hd
    obtain ⟨off, T', h1, h2, h3, h4⟩ := setT_sound t p x.1 v z c1 cv hz hd1 hv
    refine ⟨off, T', by simp only [Ty.off.go, h1], by simp only [Tys.cells]; omega, h3, ?_⟩
    simp only [DRs]
    exact ⟨_, c2, splice_head (by rw [DR.len _ _ _ hd1]; exact h2), h4, hd2⟩
  | .cons t ts, n + 1, p, x, v, y, cs, cv, h, hd, hv => by
    simp only [setT.go] at h
    obtain ⟨z, hz, rfl⟩ := Option.map_eq_some_iff.1 h
    simp only [DRs] at hd
    obtain ⟨c1, c2, rfl, hd1, hd2⟩ := hd
    obtain ⟨off, T', h1, h2, h3, h4⟩ := setTs_sound ts n p x.2 v z c2 cv hz hd2 hv
    refine ⟨t.cells + off, T', by simp only [Ty.off.go, h1, Option.map_some], by simp only [Tys.cells]; omega, h3, ?_⟩
    simp only [DRs]
    exact ⟨c1, _, by rw [← DR.len _ _ _ hd1, splice_tail], hd1, h4⟩
end
mutual
theorem Ty.path_sound : ∀ (T : Ty) (p : List Nat) (v : PV) (cs : List Value) (off : Nat) (T' : Ty), T.fits v = true → CR w A ob μ v cs → T.off p = some (off, T') →
    CR w A ob μ (getPath v p) ((cs.drop off).take T'.cells) ∧ T'.fits (getPath v p) = true ∧ off + T'.cells ≤ T.cells ∧
    ∀ x cx, T'.fits x = true → CR w A ob μ x cx → CR w A ob μ (setPath v p x) (splice cs off cx) ∧ T.fits (setPath v p x) = true
  | T, [], v, cs, off, T', hf, hc, h => by
    have : off = 0 ∧ T = T' := by cases T <;> (simp only [Ty.off, Option.some.injEq, Prod.mk.injEq] at h; exact ⟨h.1.symm, h.2⟩)
    obtain ⟨rfl, rfl⟩ := this
    have hl := Ty.fits_len T v cs hf hc
    refine ⟨by rw [List.drop_zero, List.take_of_length_le (by omega)]; cases v <;> simpa only [getPath] using hc, by cases v <;> simpa only [getPath] using hf, by omega, fun x cx hx hcx => ?_⟩
    have hlx := Ty.fits_len T x cx hx hcx
    rw [splice_whole (by omega)]
    exact ⟨by cases v <;> simpa only [setPath] using hcx, by cases v <;> simpa only [setPath] using hx⟩
  | .struct fs, i :: p, .agg l, cs, off, T', hf, hc, h => by
    simp only [Ty.off] at h
    simp only [Ty.fits] at hf
    simp only [CR] at hc
    obtain ⟨h1, h2, h3, h4⟩ := Tys.path_sound fs i p l cs off T' hf hc h
    refine ⟨by simpa only [getPath] using h1, by simpa only [getPath] using h2, by simpa only [Ty.cells] using h3, fun x cx hx hcx => ?_⟩
    obtain ⟨h5, h6⟩ := h4 x cx hx hcx
    exact ⟨by simpa only [setPath, CR] using h5, by simpa only [setPath, Ty.fits] using h6⟩
  | .int _, _ :: _, v, cs, off, T', hf, hc, h => by simp [Ty.off] at h
  | .bool, _ :: _, v, cs, off, T', hf, hc, h => by simp [Ty.off] at h
  | .str, _ :: _, v, cs, off, T', hf, hc, h => by simp [Ty.off] at h
  | .slice _, _ :: _, v, cs, off, T', hf, hc, h => by simp [Ty.off] at h
theorem Tys.path_sound : ∀ (T : Tys) (i : Nat) (p : List Nat) (l : List PV) (cs : List Value) (off : Nat) (T' : Ty), T.fits l = true → CRs w A ob μ l cs → Ty.off.go T i p = some (off, T') →
    CR w A ob μ (getPath (l.getD i .any) p) ((cs.drop off).take T'.cells) ∧ T'.fits (getPath (l.getD i .any) p) = true ∧ off + T'.cells ≤ T.cells ∧
    ∀ x cx, T'.fits x = true → CR w A ob μ x cx → CRs w A ob μ (l.set i (setPath (l.getD i .any) p x)) (splice cs off cx) ∧ T.fits (l.set i (setPath (l.getD i .any) p x)) = true
  | .nil, i, p, l, cs, off, T', hf, hc, h => by simp [Ty.off.go] at h
  | .cons t ts, 0, p, [], cs, off, T', hf, hc, h => by simp [Tys.fits] at hf
  | .cons t ts, 0, p, v :: l, cs, off, T', hf, hc, h => by
    simp only [Ty.off.go] at h
    simp only [Tys.fits, Bool.and_eq_true] at hf
    simp only [CRs] at hc
    obtain ⟨c1, c2, rfl, hc1, hc2⟩ := hc
    have hl := Ty.fits_len t v c1 hf.1 hc1
    obtain ⟨h1, h2, h3, h4⟩ := Ty.path_sound t p v c1 off T' hf.1 hc1 h
    refine ⟨?_, h2, by simp only [Tys.cells]; omega, fun x cx hx hcx => ?_⟩
    · show CR w A ob μ (getPath v p) _
      rw [List.drop_append_of_le_length (by omega), List.take_append_of_le_length (by simp; omega)]
      exact h1
    · obtain ⟨h5, h6⟩ := h4 x cx hx hcx
      have hlx := Ty.fits_len T' x cx hx hcx
      refine ⟨?_, ?_⟩
      · show CRs w A ob μ (setPath v p x :: l) _
        simp only [CRs]
        exact ⟨_, c2, splice_head (by omega), h5, hc2⟩
      · show Tys.fits (.cons t ts) (setPath v p x :: l) = true
        simp only [Tys.fits, Bool.and_eq_true]
        exact ⟨h6, hf.2⟩
  | .cons t ts, n + 1, p, [], cs, off, T', hf, hc, h => by simp [Tys.fits] at hf
  | .cons t ts, n + 1, p, v :: l, cs, off, T', hf, hc, h => by
    simp only [Ty.off.go, Option.map_eq_some_iff] at h
    obtain ⟨⟨off', T''⟩, h, e⟩ := h
    simp only [Prod.mk.injEq] at e
    obtain ⟨rfl, rfl⟩ := e
    simp only [Tys.fits, Bool.and_eq_true] at hf
    simp only [CRs] at hc
    obtain ⟨c1, c2, rfl, hc1, hc2⟩ := hc
    have hl := Ty.fits_len t v c1 hf.1 hc1
    obtain ⟨h1, h2, h3, h4⟩ := Tys.path_sound ts n p l c2 off' T'' hf.2 hc2 h
    refine ⟨?_, h2, by simp only [Tys.cells]; omega, fun x cx hx hcx => ?_⟩
    · show CR w A ob μ (getPath (l.getD n .any) p) _
      rw [← hl, List.drop_length_add_append]
      exact h1
    · obtain ⟨h5, h6⟩ := h4 x cx hx hcx
      refine ⟨?_, ?_⟩
      · show CRs w A ob μ (v :: l.set n (setPath (l.getD n .any) p x)) _
        simp only [CRs]
        exact ⟨c1, _, by rw [← hl, splice_tail], hc1, h5⟩
      · show Tys.fits (.cons t ts) (v :: l.set n (setPath (l.getD n .any) p x)) = true
        simp only [Tys.fits, Bool.and_eq_true]
        exact ⟨hf.1, h6⟩
end
mutual
theorem TD.path_sound : ∀ (T : TD) (p : List Nat) (v : PV) (cs : List Value) (off : Nat) (T' : TD), T.fits v = true → CR w A ob μ v cs → T.off p = some (off, T') →
    CR w A ob μ (getPath v p) ((cs.drop off).take T'.cells) ∧ T'.fits (getPath v p) = true ∧ off + T'.cells ≤ T.cells ∧
    ∀ x cx, T'.fits x = true → CR w A ob μ x cx → CR w A ob μ (setPath v p x) (splice cs off cx) ∧ T.fits (setPath v p x) = true
  | T, [], v, cs, off, T', hf, hc, h => by
    have : off = 0 ∧ T = T' := by cases T <;> (simp only [TD.off, Option.some.injEq, Prod.mk.injEq] at h; exact ⟨h.1.symm, h.2⟩)
    obtain ⟨rfl, rfl⟩ := this
    have hl := TD.fits_len T v cs hf hc
    refine ⟨by rw [List.drop_zero, List.take_of_length_le (by omega)]; cases v <;> simpa only [getPath] using hc, by cases v <;> simpa only [getPath] using hf, by omega, fun x cx hx hcx => ?_⟩
    have hlx := TD.fits_len T x cx hx hcx
    rw [splice_whole (by omega)]
    exact ⟨by cases v <;> simpa only [setPath] using hcx, by cases v <;> simpa only [setPath] using hx⟩
  | .data T, i :: p, v, cs, off, T', hf, hc, h => by
    simp only [TD.off, Option.map_eq_some_iff] at h
    obtain ⟨⟨off', T''⟩, h, e⟩ := h
    simp only [Prod.mk.injEq] at e
    obtain ⟨rfl, rfl⟩ := e
    simp only [TD.fits] at hf ⊢
    simp only [TD.cells]
    exact Ty.path_sound T (i :: p) v cs off' T'' hf hc h
  | .agg fs, i :: p, .agg l, cs, off, T', hf, hc, h => by
    simp only [TD.off] at h
    simp only [TD.fits] at hf
    simp only [CR] at hc
    obtain ⟨h1, h2, h3, h4⟩ := TDs.path_sound fs i p l cs off T' hf hc h
    refine ⟨by simpa only [getPath] using h1, by simpa only [getPath] using h2, by simpa only [TD.cells] using h3, fun x cx hx hcx => ?_⟩
    obtain ⟨h5, h6⟩ := h4 x cx hx hcx
    exact ⟨by simpa only [setPath, CR] using h5, by simpa only [setPath, TD.fits] using h6⟩
  | .cell _, _ :: _, v, cs, off, T', hf, hc, h => by simp [TD.off] at h
  | .map _ _, _ :: _, v, cs, off, T', hf, hc, h => by simp [TD.off] at h
theorem TDs.path_sound : ∀ (T : TDs) (i : Nat) (p : List Nat) (l : List PV) (cs : List Value) (off : Nat) (T' : TD), T.fits l = true → CRs w A ob μ l cs → TD.off.go T i p = some (off, T') →
    CR w A ob μ (getPath (l.getD i .any) p) ((cs.drop off).take T'.cells) ∧ T'.fits (getPath (l.getD i .any) p) = true ∧ off + T'.cells ≤ T.cells ∧
    ∀ x cx, T'.fits x = true → CR w A ob μ x cx → CRs w A ob μ (l.set i (setPath (l.getD i .any) p x)) (splice cs off cx) ∧ T.fits (l.set i (setPath (l.getD i .any) p x)) = true
  | .nil, i, p, l, cs, off, T', hf, hc, h => by simp [TD.off.go] at h
  | .cons t ts, 0, p, [], cs, off, T', hf, hc, h => by simp [TDs.fits] at hf
  | .cons t ts, 0, p, v :: l, cs, off, T', hf, hc, h => by
    simp only [TD.off.go] at h
    simp only [TDs.fits, Bool.and_eq_true] at hf
    simp only [CRs] at hc
    obtain ⟨c1, c2, rfl, hc1, hc2⟩ := hc
    have hl := TD.fits_len t v c1 hf.1 hc1
    obtain ⟨h1, h2, h3, h4⟩ := TD.path_sound t p v c1 off T' hf.1 hc1 h
    refine ⟨?_, h2, by simp only [TDs.cells]; omega, fun x cx hx hcx => ?_⟩
    · show CR w A ob μ (getPath v p) _
      rw [List.drop_append_of_le_length (by omega), List.take_append_of_le_length (by simp; omega)]
      exact h1
    · obtain ⟨h5, h6⟩ := h4 x cx hx hcx
      have hlx := TD.fits_len T' x cx hx hcx
      refine ⟨?_, ?_⟩
      · show CRs w A ob μ (setPath v p x :: l) _
        simp only [CRs]
        exact ⟨_, c2, splice_head (by omega), h5, hc2⟩
      · show TDs.fits (.cons t ts) (setPath v p x :: l) = true
        simp only [TDs.fits, Bool.and_eq_true]
        exact ⟨h6, hf.2⟩
  | .cons t ts, n + 1, p, [], cs, off, T', hf, hc, h => by simp [TDs.fits] at hf
  | .cons t ts, n + 1, p, v :: l, cs, off, T', hf, hc, h => by
    simp only [TD.off.go, Option.map_eq_some_iff] at h
    obtain ⟨⟨off', T''⟩, h, e⟩ := h
    simp only [Prod.mk.injEq] at e
    obtain ⟨rfl, rfl⟩ := e
    simp only [TDs.fits, Bool.and_eq_true] at hf
    simp only [CRs] at hc
    obtain ⟨c1, c2, rfl, hc1, hc2⟩ := hc
    have hl := TD.fits_len t v c1 hf.1 hc1
    obtain ⟨h1, h2, h3, h4⟩ := TDs.path_sound ts n p l c2 off' T'' hf.2 hc2 h
    refine ⟨?_, h2, by simp only [TDs.cells]; omega, fun x cx hx hcx => ?_⟩
    · show CR w A ob μ (getPath (l.getD n .any) p) _
      rw [← hl, List.drop_length_add_append]
      exact h1
    · obtain ⟨h5, h6⟩ := h4 x cx hx hcx
      refine ⟨?_, ?_⟩
      · show CRs w A ob μ (v :: l.set n (setPath (l.getD n .any) p x)) _
        simp only [CRs]
        exact ⟨c1, _, by rw [← hl, splice_tail], hc1, h5⟩
      · show TDs.fits (.cons t ts) (v :: l.set n (setPath (l.getD n .any) p x)) = true
        simp only [TDs.fits, Bool.and_eq_true]
        exact ⟨hf.1, h6⟩
end
end
end Go.Vm

/- Vm, part 7: the operations that change nothing. Own work. -/
set_option linter.unusedVariables false
set_option linter.unusedSimpArgs false
set_option linter.unusedSectionVars false
namespace Go.Vm
variable [MonotC]
open Go.RowKit

theorem oneCell_aggV {x : Value} (h : x.oneCell' = true) : aggV x = false := by cases x <;> simp_all [Value.oneCell', aggV]
theorem CR.leaf {w : World} {A : Nat → Prop} {ob : Nat → OB} {μ : Nat → Value} {v : PV} {x : Value} (h : CR w A ob μ v [x]) (hv : v.isAgg = false) (ha : v.isAny = false) : aggV x = false := by
  cases v <;> simp only [CR] at h <;> first
    | (cases hv; done)
    | (cases ha; done)
    | (simp only [List.cons.injEq, and_true] at h; subst h; first | rfl | (rename_i k; cases k <;> rfl))
    | (have e := h.1; simp only [List.cons.injEq, and_true] at e; rw [e]; rfl)
    | (obtain ⟨_, e, ha, _⟩ := h; simp at e; subst e; exact oneCell_aggV ha)
    | (obtain ⟨_, e, _⟩ := h; simp at e; subst e; rfl)
    | (simp only [DR] at h; obtain ⟨_, _, e, _⟩ := h; simp at e; subst e; rfl)
    | (obtain ⟨_, _, _, e, _⟩ := h; simp at e; subst e; rfl)
/-- cells as a value -/
theorem VR.of_cells {w : World} {A : Nat → Prop} {ob : Nat → OB} {μ : Nat → Value} {v : PV} {cs : List Value} (h : CR w A ob μ v cs) {b : Bool} (hb : v.isAgg = b) : VR w A ob μ v (wrapV b cs) := by
  subst hb
  by_cases ha : v.isAny = true
  · exact .inl ha
  · simp only [Bool.not_eq_true] at ha
    cases hv : v.isAgg
    · have hl := h.len_one hv
      match cs, hl with
      | [x], _ => exact .of_one h (h.leaf hv ha) hv
    · refine .inr ⟨by simpa [wrapV, Value.cells] using h, by simp [wrapV, aggV, hv]⟩

section
variable {P : Program} {w : World}
theorem run_loadVar' {t : TypeId} {d : TD} (ht : TDOK P t d) {b off : Nat} {cs : List Value} (hc : LiesAt w b off cs) (hl : cs.length = d.cells) :
    (loadVar t ⟨b, off, none⟩).run P w = .ok (wrapV d.isAgg cs) w := by
  have h1 := run_isAgg' (w := w) ht.agg
  obtain ⟨i, hi, hs, _⟩ := ht.info
  have h2 := run_sizeOf' (w := w) (n := d.cells) ⟨i, hi, hs⟩
  unfold loadVar
  simp only [Sem.run_bind, h1, Result.andThen]
  cases ha : d.isAgg
  · have : d.cells = 1 := TD.cells_one ha
    match cs, (hl.trans this) with
    | [x], _ =>
      have := hc 0 x rfl
      simp only [Nat.add_zero] at this
      simp [run_load, this, wrapV]
  · simp only [if_true, Sem.run_bind, h2, Result.andThen]
    have := run_loadCells_list (P := P) w ⟨b, off, none⟩ cs (fun j v hj => by rw [show (⟨b, off, none⟩ : Addr).add j = ⟨b, off + j, none⟩ from Addr.add_lit _ _ _]; exact hc j v hj)
    rw [hl] at this
    rw [this]
    simp [wrapV]
end

/-! ### What is made -/
theorem alloc_at (w : World) (o : Obj) : (w.alloc o).heap[w.heap.size]? = some o := by
  show (w.heap.push o)[w.heap.size]? = _
  simp
theorem upd_same {α : Type} (f : Nat → α) (a : Nat) (b : α) : upd f a b a = b := by simp [upd]
theorem upd_other {α : Type} (f : Nat → α) {a x : Nat} (b : α) (h : x ≠ a) : upd f a b x = f x := by simp [upd, h]
theorem later_upd {ob : Nat → OB} {μ : Nat → Value} {al o : Nat} (b : OB) (mv : Value) (h : o ≠ al) : Later ob μ (upd ob al b) (upd μ al mv) o := by
  unfold Later
  rw [upd_other _ _ h, upd_other _ _ h]
  cases hb : ob o <;> simp
section
variable {w : World} {A : Nat → Prop} {ob : Nat → OB} {μ : Nat → Value} {al : Nat}
theorem addA_old {mv : Value} (h : ∀ x, blkOf mv = some x → w.heap.size ≤ x) : ∀ b, b < w.heap.size → addA A mv b → A b := fun b hb h' => by
  rcases h' with h' | h'
  · exact h'
  · have := h b h'; omega
theorem head_zero (d : TD) (b : Nat) {t : TypeId} (ht : (!d.isB || decide (t = bldT)) = true) : HeadOK d b d.zeroV.toArray t := fun h => by
  rw [h] at ht
  refine ⟨by simpa using ht, ?_⟩
  unfold TD.isB at h
  split at h
  · exact .inl rfl
  · cases h
theorem QR.box {d : TD} {v : PV} {cs : List Value} {t : TypeId} (hf : d.fits v = true) (hc : CR w A ob μ v cs) (hal : al ∉ v.oids) (hb : HeadOK d w.heap.size cs.toArray t) :
    QR w A ob μ al (.ok (.value (.pointer (some ⟨w.heap.size, 0, none⟩))) (w.alloc (.cells cs.toArray t (0, 0)))) (.ptr al []) (some (.box d v)) := by
  refine ⟨_, _, rfl, Keep.alloc _ _ _ _, .pointer (some ⟨w.heap.size, 0, none⟩), fun x hx => ?_, ?_, ?_⟩
  · simp only [blkOf, Option.some.injEq] at hx; subst hx; simp
  · unfold OR
    rw [upd_same, upd_same]
    refine ⟨w.heap.size, cs.toArray, t, rfl, alloc_at _ _, hf, ?_, hb⟩
    exact CR.later (Keep.alloc None w _ _) (addA_old fun x hx => by simp only [blkOf, Option.some.injEq] at hx; omega) (fun _ h => h.elim) v (fun o ho => later_upd _ _ (fun e => hal (by subst e; exact ho))) _ hc
  · refine .of_one ?_ rfl rfl
    simp only [CR, upd_same]
    refine ⟨_, rfl, rfl, w.heap.size, 0, d, rfl, ?_, rfl⟩
    cases d <;> simp [TD.off]
theorem QR.row {T : Ty} {xs : List T.den} {cs : Array Value} {c : Nat} {t : TypeId} {w' : World} (hw : w' = w.alloc (.cells cs t (0, 0))) (hn : xs.length ≤ c) (hc : c ≤ 9223372036854775807) (hs : c * T.cells ≤ cs.size)
    (hx : ∀ i x, nth (α := T.den) xs i = some x → ∃ cx, DR w A T x cx ∧ ∀ j v, cx[j]? = some v → cs[i * T.cells + j]? = some v) :
    QR w A ob μ al (.ok (.value (.slice (some ⟨w.heap.size, 0, none⟩) xs.length c)) w') (.row al) (some (.row T xs)) := by
  subst hw
  refine ⟨_, _, rfl, Keep.alloc _ _ _ _, .slice (some ⟨w.heap.size, 0, none⟩) xs.length c, fun x hx => ?_, ?_, ?_⟩
  · simp only [blkOf, Option.some.injEq] at hx; subst hx; simp
  · unfold OR
    rw [upd_same, upd_same]
    refine .inr ⟨w.heap.size, 0, c, cs, t, rfl, alloc_at _ _, hn, hc, by omega, fun i x hi => ?_⟩
    obtain ⟨cx, h1, h2⟩ := hx i x hi
    exact ⟨cx, DR.keep (Keep.alloc None w _ _) (addA_old fun x hx => by simp only [blkOf, Option.some.injEq] at hx; omega) (fun _ h => h.elim) T x cx h1, fun j v hj => by rw [Nat.zero_add]; exact h2 j v hj⟩
  · refine .of_one ?_ rfl rfl
    simp only [CR, upd_same]
    exact ⟨_, rfl, rfl, .inl rfl⟩
theorem TDs.rep_count : ∀ (n : Nat) (d : TD), (TDs.rep n d).count = n
  | 0, _ => rfl
  | n + 1, d => by simp only [TDs.rep, TDs.count, TDs.rep_count n d]
theorem TDs.rep_ones {d : TD} (h : d.cells = 1) : ∀ n : Nat, (TDs.rep n d).ones = true
  | 0 => rfl
  | n + 1 => by simp only [TDs.rep, TDs.ones, h, TDs.rep_ones h n, Bool.and_true]; rfl
theorem TDs.rep_fits {T : Ty} (h : T.isSl = true) : ∀ n : Nat, TDs.fits (TDs.rep n (.data T)) (List.replicate n .nil) = true
  | 0 => by simp [TDs.rep, TDs.fits]
  | n + 1 => by
    simp only [TDs.rep, List.replicate_succ, TDs.fits, TDs.rep_fits h n, Bool.and_true]
    cases T <;> simp [Ty.isSl] at h
    simp [TD.fits, Ty.fits, PV.isAgg]
theorem CRs.nils {w : World} {A : Nat → Prop} {ob : Nat → OB} {μ : Nat → Value} : ∀ n : Nat, CRs w A ob μ (List.replicate n .nil) (List.replicate n (Value.slice none 0 0))
  | 0 => by simp only [List.replicate_zero, CRs]
  | n + 1 => by
    simp only [List.replicate_succ, CRs]
    exact ⟨[.slice none 0 0], _, rfl, by simp only [CR], CRs.nils n⟩
/-- a slice of own slices -/
theorem QR.arr {T : Ty} {k : Nat} {t : TypeId} (hsl : T.isSl = true) :
    QR w A ob μ al (.ok (.value (.slice (some ⟨w.heap.size, 0, none⟩) k k)) (w.alloc (.cells (List.replicate k (Value.slice none 0 0)).toArray t (0, 0)))) (.row al) (some (.box (.agg (TDs.rep k (.data T))) (.agg (List.replicate k .nil)))) := by
  have hcells : (TD.data T).cells = 1 := by cases T <;> simp [Ty.isSl] at hsl; rfl
  refine ⟨_, _, rfl, Keep.alloc _ _ _ _, .pointer (some ⟨w.heap.size, 0, none⟩), fun x hx => ?_, ?_, ?_⟩
  · simp only [blkOf, Option.some.injEq] at hx; subst hx; simp
  · unfold OR
    rw [upd_same, upd_same]
    refine ⟨w.heap.size, _, t, rfl, alloc_at _ _, by simp only [TD.fits]; exact TDs.rep_fits hsl k, ?_, HeadOK.no ?_⟩
    · simp only [CR]
      exact CRs.nils k
    · cases T <;> simp [Ty.isSl] at hsl
      match k with
      | 0 => rfl
      | 1 => rfl
      | k + 2 => rfl
  · refine .of_one ?_ rfl rfl
    simp only [CR, upd_same]
    exact ⟨_, rfl, rfl, w.heap.size, rfl, by rw [TDs.rep_count], TDs.rep_ones hcells k⟩
/-- a slice that is written down: data -/
theorem QR.slit {T : Ty} {xs : List T.den} {cs : Array Value} {c : Nat} {t : TypeId} {w' : World} (hold : ∀ b, A b → b < w.heap.size) (hw : w' = w.alloc (.cells cs t (0, 0))) (hn : xs.length ≤ c) (hc : c ≤ 9223372036854775807)
    (hx : ∀ i x, nth (α := T.den) xs i = some x → ∃ cx, DR w A T x cx ∧ ∀ j v, cx[j]? = some v → cs[i * T.cells + j]? = some v) :
    QR w A ob μ al (.ok (.value (.slice (some ⟨w.heap.size, 0, none⟩) xs.length c)) w') (.sl T xs) none := by
  subst hw
  refine ⟨_, _, rfl, Keep.alloc _ _ _ _, VR.mk_sl ?_⟩
  simp only [DR]
  refine ⟨_, c, rfl, ⟨hn, hc⟩, .inr ⟨w.heap.size, 0, rfl, fun h => Nat.lt_irrefl _ (hold _ h), by simp, fun i x hi => ?_⟩⟩
  obtain ⟨cx, h1, h2⟩ := hx i x hi
  refine ⟨cx, DR.keep (Keep.alloc None w _ _) (fun _ _ h => h) (fun _ h => h.elim) T x cx h1, fun j v hj => ?_⟩
  have := h2 j v hj
  simp only [World.cell?, alloc_at, Nat.zero_add]
  exact this
end
end Go.Vm

/- Vm, part 8b: maps. Own work. -/
set_option linter.unusedVariables false
set_option linter.unusedSimpArgs false
namespace Go.Vm
open Go.RowKit
section
variable {P : Program} {w : World} {A : Nat → Prop} {ob : Nat → OB} {μ : Nat → Value}
theorem val_wrap {v : Value} {b : Bool} (h : aggV v = b) : v = wrapV b v.cells.toList := by
  subst h
  cases v <;> simp [aggV, wrapV, Value.cells]
/-! ### Keys -/
mutual
theorem DR.flat_eq : ∀ (T : Ty) (x : T.den) (cs cs' : List Value), T.deep = false → DR w A T x cs → DR w A T x cs' → cs = cs'
  | .int _, _, _, _, _, h, h' => by simp only [DR] at h h'; rw [h, h']
  | .bool, _, _, _, _, h, h' => by simp only [DR] at h h'; rw [h, h']
  | .str, _, _, _, _, h, h' => by simp only [DR] at h h'; rw [h.1, h'.1]
  | .slice _, _, _, _, hd, _, _ => by simp [Ty.deep] at hd
  | .struct fs, x, cs, cs', hd, h, h' => by simp only [DR] at h h'; exact DRs.flat_eq fs x cs cs' (by simpa only [Ty.deep] using hd) h h'
theorem DRs.flat_eq : ∀ (T : Tys) (x : T.den) (cs cs' : List Value), Ty.deep.go T = false → DRs w A T x cs → DRs w A T x cs' → cs = cs'
  | .nil, _, _, _, _, h, h' => by simp only [DRs] at h h'; rw [h, h']
  | .cons t ts, x, cs, cs', hd, h, h' => by
    simp only [DRs] at h h'
    obtain ⟨c1, c2, rfl, h1, h2⟩ := h
    obtain ⟨d1, d2, rfl, h3, h4⟩ := h'
    have hts : Ty.deep.go ts = false := by cases t <;> simp [Ty.deep.go] at hd <;> first | exact hd | exact hd.2
    have ht : t.deep = false := by cases t <;> simp [Ty.deep.go] at hd <;> simp [Ty.deep, hd]
    rw [DR.flat_eq t x.1 c1 d1 ht h1 h3, DRs.flat_eq ts x.2 c2 d2 hts h2 h4]
end
theorem bytes_ext {s t : ByteArray} (h : s.toList = t.toList) : s = t := by
  rw [ByteArray.toList_eq, ByteArray.toList_eq] at h
  exact ByteArray.ext (Array.toList_inj.1 h)
theorem sEq_iff {s t : ByteArray} : sEq s t = true ↔ s = t := by
  unfold sEq
  rw [beq_iff_eq]
  exact ⟨bytes_ext, fun h => by rw [h]⟩
mutual
theorem keq_eq : ∀ (K : Ty) (x y : K.den), keq K x y = true → x = y
  | .int _, x, y, h => by simp only [keq] at h; exact (@beq_iff_eq Int _ _ x y).1 h
  | .bool, x, y, h => by simp only [keq] at h; exact (@beq_iff_eq Bool _ _ x y).1 h
  | .str, x, y, h => by simp only [keq] at h; exact sEq_iff.1 h
  | .slice _, x, y, h => by simp only [keq] at h; cases h
  | .struct fs, x, y, h => by simp only [keq] at h; exact keqs_eq fs x y h
theorem keqs_eq : ∀ (K : Tys) (x y : K.den), keqs K x y = true → x = y
  | .nil, x, y, h => rfl
  | .cons t ts, x, y, h => by
    simp only [keqs, Bool.and_eq_true] at h
    exact Prod.ext (keq_eq t x.1 y.1 h.1) (keqs_eq ts x.2 y.2 h.2)
end
mutual
theorem keq_eqT : ∀ (K : Ty) (x y : K.den), K.deep = false → eqT K (explode K x) (explode K y) = some (keq K x y)
  | .int k, x, y, h => by simp only [eqT, explode, asInt?, keq, if_true]; rfl
  | .bool, x, y, h => by simp only [eqT, explode, asBool?, keq]; rfl
  | .str, x, y, h => by simp only [eqT, explode, asStr?, keq]; rfl
  | .slice _, x, y, h => by simp [Ty.deep] at h
  | .struct fs, x, y, h => by
    simp only [eqT, explode, asAgg?, keq, Option.bind_some]
    exact keqs_eqTs fs x y (by simpa only [Ty.deep] using h)
theorem keqs_eqTs : ∀ (K : Tys) (x y : K.den), Ty.deep.go K = false → eqTs K (explodes K x) (explodes K y) = some (keqs K x y)
  | .nil, x, y, h => by simp [eqTs, explodes, keqs]
  | .cons t ts, x, y, hd => by
    have hts : Ty.deep.go ts = false := by cases t <;> simp [Ty.deep.go] at hd <;> first | exact hd | exact hd.2
    have ht : t.deep = false := by cases t <;> simp [Ty.deep.go] at hd <;> simp [Ty.deep, hd]
    simp only [eqTs, explodes, keq_eqT t x.1 y.1 ht, keqs_eqTs ts x.2 y.2 hts, Option.bind_some, keqs]
end
/-- a key in a value -/
def KeyR (w : World) (A : Nat → Prop) (K : Ty) (x : K.den) (v : Value) : Prop := DR w A K x v.cells.toList ∧ aggV v = K.isAgg
theorem KeyR.eq {K : Ty} {x : K.den} {v v' : Value} (hd : K.deep = false) (h : KeyR w A K x v) (h' : KeyR w A K x v') : v = v' := by
  rw [val_wrap h.2, val_wrap h'.2, DR.flat_eq K x _ _ hd h.1 h'.1]
mutual
theorem checkKey_ok : ∀ (K : Ty) (t : TypeId) (x : K.den) (cs : List Value) (n : Nat) (e : Bool), TyOK P t K → K.deep = false → DR w A K x cs → K.height ≤ n → (Instr.checkKey e (n + 1) t (wrapV K.isAgg cs)).run P w = .ok () w
  | .int k, t, x, cs, n, e, ht, hd, h, hn => by
    simp only [TyOK] at ht; simp only [DR] at h; subst h
    rw [Instr.checkKey]
    simp [Sem.run_bind, run_underlying ht.2, Result.andThen, wrapV, Ty.isAgg]
  | .bool, t, x, cs, n, e, ht, hd, h, hn => by
    simp only [TyOK] at ht; simp only [DR] at h; subst h
    rw [Instr.checkKey]
    simp [Sem.run_bind, run_underlying ht.2, Result.andThen, wrapV, Ty.isAgg]
  | .str, t, x, cs, n, e, ht, hd, h, hn => by
    simp only [TyOK] at ht; simp only [DR] at h; rw [h.1]
    rw [Instr.checkKey]
    simp [Sem.run_bind, run_underlying ht.2, Result.andThen, wrapV, Ty.isAgg]
  | .slice _, t, x, cs, n, e, ht, hd, h, hn => by simp [Ty.deep] at hd
  | .struct fs, t, x, cs, n, e, ht, hd, h, hn => by
    simp only [TyOK] at ht; simp only [DR] at h
    obtain ⟨_, fields, hu, hTs, hq⟩ := ht
    simp only [Ty.height] at hn
    obtain ⟨m, rfl⟩ : ∃ m, n = m + 1 := ⟨n - 1, by omega⟩
    have := checkKeys_ok fs fields.toList 0 x cs m e cs.toArray hTs (by simpa only [Ty.deep] using hd) h (by simp) (by omega)
    rw [Instr.checkKey]
    simp only [Sem.run_bind, run_underlying hu, Result.andThen, wrapV, Ty.isAgg, if_true]
    rw [← Array.forIn_toList, this]
    rfl
theorem checkKeys_ok : ∀ (K : Tys) (fields : List Field) (off : Nat) (x : K.den) (cs : List Value) (n : Nat) (e : Bool) (xs : Array Value), TysOK P fields off K → Ty.deep.go K = false → DRs w A K x cs → xs.toList.drop off = cs → K.height ≤ n →
    (forIn fields PUnit.unit fun f (__s : PUnit) => (if f.name ≠ "_" then do
            let __do_lift ← part f.type xs f.offset
            Instr.checkKey e (n + 1) f.type __do_lift
            pure (ForInStep.yield PUnit.unit)
          else pure (ForInStep.yield PUnit.unit) : Sem (ForInStep PUnit))).run P w = .ok PUnit.unit w
  | .nil, [], off, x, cs, n, e, xs, hT, hd, h, hx, hh => by simp
  | .nil, _ :: _, off, x, cs, n, e, xs, hT, hd, h, hx, hh => by simp only [TysOK] at hT
  | .cons t ts, [], off, x, cs, n, e, xs, hT, hd, h, hx, hh => by simp only [TysOK] at hT
  | .cons t ts, f :: fields, off, x, cs, n, e, xs, hT, hd, h, hx, hh => by
    simp only [DRs] at h
    obtain ⟨c1, c2, rfl, k1, k2⟩ := h
    simp only [TysOK] at hT
    obtain ⟨ho, hpos, hTf, hTs⟩ := hT
    have htd : t.deep = false := by cases t <;> simp [Ty.deep.go] at hd <;> simp [Ty.deep, hd]
    have htsd : Ty.deep.go ts = false := by cases t <;> simp [Ty.deep.go] at hd <;> first | exact hd | exact hd.2
    simp only [Tys.height] at hh
    have p1 := run_part' (w := w) hTf hx (DR.len _ _ _ k1)
    have e1 := checkKey_ok t f.type x.1 c1 n e hTf htd k1 (by omega)
    have e2 := checkKeys_ok ts fields (off + t.cells) x.2 c2 n e xs hTs htsd k2 (by rw [← List.drop_drop, hx, ← DR.len _ _ _ k1]; simp) (by omega)
    rw [List.forIn_cons]
    by_cases hn : f.name ≠ "_"
    · rw [if_pos hn, ho]
      simp only [Sem.run_bind, p1, e1, Result.andThen_ok, Sem.run_pure]
      exact e2
    · rw [if_neg hn]
      simp only [Sem.run_bind, Result.andThen_ok, Sem.run_pure]
      exact e2
end
/-! ### Finding -/
theorem sameNow_str (a b : ByteArray) : Instr.sameNow .string (.string a) (.string b) = some (sEq a b) := by
  simp only [Instr.sameNow, Option.some.injEq]
  show (a.data == b.data) = _
  rw [Bool.eq_iff_iff, sEq_iff, beq_iff_eq]
  exact ⟨ByteArray.ext, fun h => by rw [h]⟩
/-- is this the first entry with this key? -/
def FindR {κ ν : Type} (eq : κ → κ → Bool) (k : κ) (es : List (κ × ν × Nat)) (mes : List MapEntry) (i0 : Nat) (r : Option (Nat × Value)) : Prop :=
  (r = none ∧ ∀ x ∈ es, eq k x.1 = false) ∨ ∃ es1 x es2 ms1 e ms2, es = es1 ++ x :: es2 ∧ mes = ms1 ++ e :: ms2 ∧ es1.length = ms1.length ∧ eq k x.1 = true ∧ (∀ y ∈ es1, eq k y.1 = false) ∧ r = some (i0 + ms1.length, e.val)
theorem FindR.cons {κ ν : Type} {eq : κ → κ → Bool} {k : κ} {es : List (κ × ν × Nat)} {mes : List MapEntry} {i0 : Nat} {r : Option (Nat × Value)} {x : κ × ν × Nat} {e : MapEntry} (h : FindR eq k es mes (i0 + 1) r) (hx : eq k x.1 = false) : FindR eq k (x :: es) (e :: mes) i0 r := by
  rcases h with ⟨h1, h2⟩ | ⟨es1, y, es2, ms1, f, ms2, rfl, rfl, h3, h4, h5, h6⟩
  · exact .inl ⟨h1, fun y hy => by rcases List.mem_cons.1 hy with rfl | hy; exact hx; exact h2 y hy⟩
  · refine .inr ⟨x :: es1, y, es2, e :: ms1, f, ms2, rfl, rfl, by simp [h3], h4, fun z hz => by rcases List.mem_cons.1 hz with rfl | hz; exact hx; exact h5 z hz, ?_⟩
    rw [h6]; simp; omega
theorem findNow_ok {kind : TypeDesc} {K V : Ty} {k : K.den} {key : Value} (hs : ∀ (y : K.den) (v : Value), KeyR w A K y v → Instr.sameNow kind key v = some (keq K k y)) : ∀ (es : List (K.den × V.den × Nat)) (mes : List MapEntry) (i : Nat), Ents w A K V es mes →
    ∃ r, Instr.findNow kind key mes i = some r ∧ FindR (keq K) k es mes i r
  | [], mes, i, h => by
    simp only [Ents] at h; subst h
    exact ⟨none, rfl, .inl ⟨rfl, fun x hx => by cases hx⟩⟩
  | x :: es, mes, i, h => by
    simp only [Ents] at h
    obtain ⟨e, r, rfl, h1, h2, h3, h4, h5, h6⟩ := h
    have := hs x.1 e.key ⟨h1, h2⟩
    simp only [Instr.findNow, this]
    cases hx : keq K k x.1
    · obtain ⟨r', g1, g2⟩ := findNow_ok hs es r (i + 1) h6
      exact ⟨r', g1, g2.cons hx⟩
    · exact ⟨_, rfl, .inr ⟨[], x, es, [], e, r, rfl, rfl, rfl, hx, fun y hy => (by cases hy), rfl⟩⟩
theorem findAsking_ok {kt : TypeId} {K V : Ty} {k : K.den} {key : Value} (hs : ∀ (y : K.den) (v : Value), KeyR w A K y v → (Op.equal kt key v).run P w = .ok (keq K k y) w) : ∀ (es : List (K.den × V.den × Nat)) (mes : List MapEntry) (i : Nat), Ents w A K V es mes →
    ∃ r, (Instr.findAsking kt key mes i).run P w = .ok r w ∧ FindR (keq K) k es mes i r
  | [], mes, i, h => by
    simp only [Ents] at h; subst h
    exact ⟨none, by simp [Instr.findAsking], .inl ⟨rfl, fun x hx => by cases hx⟩⟩
  | x :: es, mes, i, h => by
    simp only [Ents] at h
    obtain ⟨e, r, rfl, h1, h2, h3, h4, h5, h6⟩ := h
    have := hs x.1 e.key ⟨h1, h2⟩
    simp only [Instr.findAsking, Sem.run_bind, this, Result.andThen_ok]
    cases hx : keq K k x.1
    · obtain ⟨r', g1, g2⟩ := findAsking_ok hs es r (i + 1) h6
      exact ⟨r', by simpa using g1, g2.cons hx⟩
    · exact ⟨some (i, e.val), by simp, .inr ⟨[], x, es, [], e, r, rfl, rfl, rfl, hx, fun y hy => (by cases hy), rfl⟩⟩
theorem findKey_ok {kt : TypeId} {K V : Ty} (hT : TyOK P kt K) (hd : K.deep = false) (hh : K.height ≤ 100) {k : K.den} {key : Value} (hk : KeyR w A K k key) {es : List (K.den × V.den × Nat)} {mes : List MapEntry} (h : Ents w A K V es mes) :
    ∃ r, (Instr.findKey kt key mes).run P w = .ok r w ∧ FindR (keq K) k es mes 0 r := by
  have hnow : ∀ kind, P.underlying kt = some kind → (∀ (y : K.den) (v : Value), KeyR w A K y v → Instr.sameNow kind key v = some (keq K k y)) → ∃ r, (Instr.findKey kt key mes).run P w = .ok r w ∧ FindR (keq K) k es mes 0 r := by
    intro kind hu hs
    obtain ⟨r, h1, h2⟩ := findNow_ok hs es mes 0 h
    exact ⟨r, by simp [Instr.findKey, Sem.run_bind, run_underlying hu, Result.andThen_ok, h1], h2⟩
  cases K with
  | int q =>
    refine hnow _ hT.2 fun y v hy => ?_
    have h1 := hk.1; have h2 := hy.1
    have e1 := val_wrap hk.2; have e2 := val_wrap hy.2
    simp only [DR] at h1 h2
    rw [h1] at e1; rw [h2] at e2
    rw [e1, e2]
    simp [wrapV, Ty.isAgg, Instr.sameNow, keq]
  | bool =>
    refine hnow _ hT.2 fun y v hy => ?_
    have h1 := hk.1; have h2 := hy.1
    have e1 := val_wrap hk.2; have e2 := val_wrap hy.2
    simp only [DR] at h1 h2
    rw [h1] at e1; rw [h2] at e2
    rw [e1, e2]
    simp [wrapV, Ty.isAgg, Instr.sameNow, keq]
  | str =>
    refine hnow _ hT.2 fun y v hy => ?_
    have h1 := hk.1; have h2 := hy.1
    have e1 := val_wrap hk.2; have e2 := val_wrap hy.2
    simp only [DR] at h1 h2
    rw [h1.1] at e1; rw [h2.1] at e2
    rw [e1, e2]
    exact sameNow_str _ _
  | slice t => simp [Ty.deep] at hd
  | struct fs =>
    obtain ⟨r, h1, h2⟩ := findAsking_ok (P := P) (kt := kt) (V := V) (k := k) (key := key) (K := .struct fs) (fun y v hy => by
      have := eqT_sound (P := P) (w := w) (A := A) (ob := fun _ => .dead) (μ := fun _ => .nilFunc) (.struct fs) kt _ _ _ key.cells.toList v.cells.toList 9999 hT hd (keq_eqT (.struct fs) k y hd) (explode_sound _ _ _ hk.1) (explode_sound _ _ _ hy.1) (by omega)
      rw [← val_wrap hk.2, ← val_wrap hy.2] at this
      exact this) es mes 0 h
    simp only [TyOK] at hT
    obtain ⟨_, fields, hu, _⟩ := hT
    cases mes with
    | nil => exact ⟨r, by simpa [Instr.findKey, Sem.run_bind, run_underlying hu, Result.andThen_ok, Instr.findNow, Instr.findAsking] using h1, h2⟩
    | cons e mes =>
      refine ⟨r, ?_, h2⟩
      have : Instr.findNow (.struct fields) key (e :: mes) 0 = none := by simp [Instr.findNow, Instr.sameNow]
      simp only [Instr.findKey, Sem.run_bind, run_underlying hu, Result.andThen_ok, this]
      exact h1
/-- what is found, in the map's own words -/
theorem FindR.spec {κ ν : Type} {eq : κ → κ → Bool} {k : κ} {es : List (κ × ν × Nat)} {mes : List MapEntry} {i0 : Nat} {r : Option (Nat × Value)} (h : FindR eq k es mes i0 r) :
    (r = none ∧ mhas eq k es = false ∧ mfind eq k es = none ∧ (∀ v, mrep eq k v es = es) ∧ mdel eq k es = es ∧ ∀ n, mborn eq n k es = n) ∨
    ∃ es1 x es2 ms1 e ms2, es = es1 ++ x :: es2 ∧ mes = ms1 ++ e :: ms2 ∧ es1.length = ms1.length ∧ eq k x.1 = true ∧ r = some (i0 + ms1.length, e.val) ∧
      mhas eq k es = true ∧ mfind eq k es = some x.2.1 ∧ (∀ v, mrep eq k v es = es1 ++ (x.1, v, x.2.2) :: es2) ∧ mdel eq k es = es1 ++ es2 ∧ ∀ n, mborn eq n k es = x.2.2 := by
  rcases h with ⟨h1, h2⟩ | ⟨es1, x, es2, ms1, e, ms2, rfl, rfl, h3, h4, h5, h6⟩
  · left
    refine ⟨h1, ?_⟩
    clear h1
    induction es with
    | nil => simp [mhas, mfind, mrep, mdel, mborn]
    | cons y es ih =>
      have := h2 y (List.mem_cons_self ..)
      obtain ⟨i1, i2, i3, i4, i5⟩ := ih (fun z hz => h2 z (List.mem_cons_of_mem _ hz))
      simp [mhas, mfind, mrep, mdel, mborn, this, i1, i2, i3, i4, i5]
  · right
    refine ⟨es1, x, es2, ms1, e, ms2, rfl, rfl, h3, h4, h6, ?_⟩
    clear h6 h3
    induction es1 with
    | nil => simp [mhas, mfind, mrep, mdel, mborn, h4]
    | cons y es ih =>
      have := h5 y (List.mem_cons_self ..)
      obtain ⟨i1, i2, i3, i4, i5⟩ := ih (fun z hz => h5 z (List.mem_cons_of_mem _ hz))
      simp [mhas, mfind, mrep, mdel, mborn, this, i1, i2, i3, i4, i5]
end
end Go.Vm
