/- Vm, part 3: regions that draw their order, joins, loops, control. Own work. -/
import Derived.Test.YtfiembgemhonlaaVmEval
namespace Go.Vm

/-! ### A region that draws its order -/
def tmpsOf (xs : Array Operand) : List Nat := xs.toList.filterMap fun x => match x with | .tmp t => some t | _ => none
def readsOf (all : List Oper) (o : Oper) : List Nat :=
  tmpsOf o.op.operands ++ (match guardOf all o with | some (some (g, _)) => [g] | _ => [])
def bindsAlways (e : Edge) : Bool := match e.ground with | .textOnly _ => false | .gcOnly _ => false | _ => true
/-- what stands before each operation, whatever the order -/
def befores : List Oper → List (List Nat) → List (List Nat)
  | [], acc => acc
  | o :: l, acc => befores l (acc ++ [(o.after.toList.filter bindsAlways).foldl (fun r e => e.on :: (acc.getD e.on [] ++ r)) []])
def isQuiet (E : Env) (o : Oper) : Bool :=
  match o.op with
  | .store .. => false
  | .call c => match c.callee with
    | .value (.func f) => (E.call f).quiet
    | .builtin .len | .builtin .min | .builtin .max => true
    | _ => false
  | _ => true
def allBefore (bs : List Nat) : Nat → Bool
  | 0 => true
  | n + 1 => mem n bs && allBefore bs n
/-- May operation j (o, its predecessors bs) stand with those that come before it in the text (i: the next to be asked)? -/
def standsWith (E : Env) (all : List Oper) (bf : List (List Nat)) (j : Nat) (o : Oper) : Nat → List Oper → Bool
  | _, [] => true
  | i, p :: l =>
    cond (Nat.blt i j)
      ((cond (mem i (bf.getD j [])) true
        (isQuiet E o && isQuiet E p
          && (match p.dst with | some d => !mem d (readsOf all o) | none => true)
          && (match o.dst with | some d => !mem d (readsOf all p) && (match p.dst with | some d' => !Nat.beq d d' | none => true) | none => true)))
        && standsWith E all bf j o (i + 1) l) true
def drawOK (E : Env) (all : List Oper) (bf : List (List Nat)) : Nat → List Oper → Bool
  | _, [] => true
  | j, o :: l => (boundL j (bf.getD j []) && standsWith E all bf j o 0 all) && drawOK E all bf (j + 1) l
/-- the state as an operation may see it: what others of its region have made that need not stand before it is not there -/
def maskFrom (base n : Nat) (bs : List Nat) : Nat → List OB → List OB
  | _, [] => []
  | i, b :: l => (cond (Nat.blt i base || (Nat.ble (base + n) i || mem (i - base) bs)) b .dead) :: maskFrom base n bs (i + 1) l
def St.mask (S : St) (base n : Nat) (bs : List Nat) : St := { S with objs := maskFrom base n bs 0 S.objs }
def St.add (S : St) (al : Nat) (d : Option Tmp) (v : PV) (b : Option OB) : St := (match b with | none => S | some b => S.new al b).put d v
section
variable {ρ : Type}
def evQuiet (E : Env) (o : Oper) (S : St) (al : Nat) (K : PV → Option OB → Option ρ) : Option ρ :=
  match o.op with
  | .call c => match c.callee with
    | .value (.func g) =>
      optK (showArgs S (E.call g).modes (c.args.toList.map (opd S))) fun as =>
        cond (PV.oidsL as).isEmpty
          ((E.call g).run as [] fun v l =>
            cond ((shownIn (E.call g).modes (c.args.toList.map (opd S))).isEmpty || (v.noSl && noSlAll l))
              (match l with
              | [] => cond v.oids.isEmpty (K v none) none
              | [b] => cond (b.alive && (boundL 1 v.oids && boundL 1 b.oids)) (K (v.ren fun _ => al) (some (b.ren fun _ => al))) none
              | _ => none) none) none
    | _ => evP E o S al K
  | _ => evP E o S al K
/-- does a value lead to such alone as its operation may see? -/
def okOid (base n j : Nat) (bs : List Nat) : List Nat → Bool
  | [] => true
  | x :: l => (Nat.blt x base || (Nat.ble (base + n) x || (Nat.beq x (base + j) || mem (x - base) bs))) && okOid base n j bs l
def obOids : Option OB → List Nat
  | none => []
  | some b => b.oids
/-- nothing leads to what is made later in the region -/
def okPast (lo hi : Nat) : List Nat → Bool
  | [] => true
  | x :: l => (Nat.ble x lo || Nat.ble hi x) && okPast lo hi l
def okPastO (lo hi : Nat) : List OB → Bool
  | [] => true
  | b :: l => okPast lo hi b.oids && okPastO lo hi l
def deadFrom (S : St) : Nat → Nat → Bool
  | _, 0 => true
  | i, k + 1 => !(S.ob i).alive && deadFrom S (i + 1) k
def pastOK (S : St) (base n j : Nat) : Bool :=
  Nat.ble (base + n) S.objs.length && (okPast (base + j) (base + n) (PV.oidsL S.slots) && (okPastO (base + j) (base + n) S.objs && deadFrom S (base + j + 1) (n - (j + 1))))
def evDraw (E : Env) (all : List Oper) (bf : List (List Nat)) (base : Nat) : Nat → List Oper → St → (St → Option ρ) → Option ρ
  | _, [], S, K => K S
  | j, o :: l, S, K => wantK all o S
      (fun S => cond (isQuiet E o)
        (evQuiet E o (S.mask base all.length (bf.getD j [])) (base + j) fun v b =>
          cond (okOid base all.length j (bf.getD j []) (v.oids ++ obOids b)) (evDraw E all bf base (j + 1) l (S.add (base + j) o.dst v b) K) none)
        (evF E o S (base + j) fun S' => cond (pastOK S' base all.length j) (evDraw E all bf base (j + 1) l S' K) none))
      (fun S => cond (isQuiet E o) (evDraw E all bf base (j + 1) l (S.put o.dst .undef) K)
        (cond (pastOK (S.put o.dst .undef) base all.length j) (evDraw E all bf base (j + 1) l (S.put o.dst .undef) K) none))
def evRegion (E : Env) (ops : List Oper) (draw : Bool) (S : St) (K : St → Option ρ) : Option ρ :=
  cond draw
    (cond (unseen S && drawOK E ops (befores ops []) 0 ops)
      (evDraw E ops (befores ops []) S.objs.length 0 ops { S with objs := S.objs ++ List.replicate ops.length OB.dead } K) none)
    (evOps E ops ops S K)
end

/-! ### The form of a state, where ways meet -/
mutual
inductive Sh where
  | int (k : IntKind) | bool | str | sl (T : Ty) | row (T : Ty) | box (d : TD) (s : Sh) | agg (l : Shs)
inductive Shs where
  | nil | cons (s : Sh) (l : Shs)
end
mutual
def Sh.den : Sh → Type
  | .int _ => Int | .bool => Bool | .str => ByteArray | .sl T => List T.den | .row T => List T.den | .box _ s => s.den | .agg l => l.den
def Shs.den : Shs → Type
  | .nil => Unit | .cons s l => s.den × l.den
end
section
variable {ρ : Type}
mutual
/-- what a value of this form holds, and the objects that are taken for it (none: an empty row takes none) -/
def Sh.take (S : St) : (s : Sh) → PV → (s.den → List (Option Nat) → Option ρ) → Option ρ
  | .int k, v, K => match v with
    | .int k' x => cond (decide (k = k')) (K x []) none
    | _ => none
  | .bool, v, K => match v with
    | .bool b => K b []
    | _ => none
  | .str, v, K => match v with
    | .str s => K s []
    | _ => none
  | .sl T, v, K => match v with
    | .sl U xs => optK (castL U T xs) fun ys => K ys []
    | .nil => K [] []
    | _ => none
  | .row T, v, K => match v with
    | .row o => match S.ob o with
      | .row U xs => optK (castL U T xs) fun ys => K ys [some o]
      | _ => none
    | .nil => K [] [none]
    | _ => none
  | .box d s, v, K => match v with
    | .ptr o [] => match S.ob o with
      | .box d' v => cond (decide (d = d')) (Sh.take S s v fun y l => K y (l ++ [some o])) none
      | _ => none
    | _ => none
  | .agg l, v, K => match v with
    | .agg vs => Shs.take S l vs K
    | _ => none
def Shs.take (S : St) : (s : Shs) → List PV → (s.den → List (Option Nat) → Option ρ) → Option ρ
  | .nil, vs, K => match vs with
    | [] => K () []
    | _ :: _ => none
  | .cons s l, vs, K => match vs with
    | v :: vs => Sh.take S s v fun y a => Shs.take S l vs fun z b => K (y, z) (a ++ b)
    | [] => none
end
end
mutual
/-- a value of this form; objects are laid behind those that there are -/
def Sh.lay : (s : Sh) → s.den → List OB → PV × List OB
  | .int k, x, l => (.int k x, l) | .bool, b, l => (.bool b, l) | .str, s, l => (.str s, l) | .sl T, xs, l => (.sl T xs, l)
  | .row T, xs, l => (.row l.length, l ++ [.row T xs])
  | .box d s, y, l => let r := Sh.lay s y l; (.ptr r.2.length [], r.2 ++ [.box d r.1])
  | .agg s, y, l => let r := Shs.lay s y l; (.agg r.1, r.2)
def Shs.lay : (s : Shs) → s.den → List OB → List PV × List OB
  | .nil, _, l => ([], l)
  | .cons s t, y, l => let r := Sh.lay s y.1 l; let q := Shs.lay t y.2 r.2; (r.1 :: q.1, q.2)
end
/-- The form of a state: variables that hold something (by form); objects that were there and hold something else now (a box, a row); objects that are used up. -/
structure SSh where
  slots : List (Nat × Sh)
  objs : List (Nat × Sh)
  gone : List Nat
def shsOf : List (Nat × Sh) → Shs
  | [] => .nil
  | p :: l => .cons p.2 (shsOf l)
abbrev SSh.den (s : SSh) : Type := (shsOf s.slots).den × (shsOf s.objs).den
section
variable {ρ : Type}
/-- what an object holds -/
def obTake (S : St) : (s : Sh) → OB → (s.den → List (Option Nat) → Option ρ) → Option ρ
  | .row T, b, K => match b with
    | .row U xs => optK (castL U T xs) fun ys => K ys []
    | _ => none
  | .box d s, b, K => match b with
    | .box d' v => cond (decide (d = d')) (Sh.take S s v K) none
    | _ => none
  | _, _, _ => none
def objsTake (S : St) : (l : List (Nat × Sh)) → ((shsOf l).den → List (Option Nat) → Option ρ) → Option ρ
  | [], K => K () []
  | p :: r, K => obTake S p.2 (S.ob p.1) fun y a => objsTake S r fun z b => K (y, z) (a ++ b)
def slotsTake (S : St) : (l : List (Nat × Sh)) → ((shsOf l).den → List (Option Nat) → Option ρ) → Option ρ
  | [], K => K () []
  | p :: r, K => Sh.take S p.2 (S.slots.getD p.1 .any) fun y a => slotsTake S r fun z b => K (y, z) (a ++ b)
/-- objects of before the beginning (n0 there were) are of l -/
def within (n0 : Nat) (l : List Nat) : List Nat → Bool
  | [] => true
  | o :: r => (Nat.ble n0 o || mem o l) && within n0 l r
def used : List (Option Nat) → List Nat
  | [] => []
  | some o :: l => o :: used l
  | none :: l => used l
/-- What a state of this form holds. n0: how many objects there were at the beginning. -/
def SSh.take (s : SSh) (n0 : Nat) (S : St) (K : s.den → Option ρ) : Option ρ :=
  objsTake S s.objs fun z b => slotsTake S s.slots fun y a =>
    cond (nodup (used (b ++ a)) && (within n0 s.gone (used (b ++ a)) && (within n0 (s.gone ++ s.objs.map (·.1)) S.touched && Nat.ble n0 S.objs.length)))
      (K (y, z)) none
end
/-- what an object becomes: its new content (its number stays), what lies within laid behind -/
def layOb : (s : Sh) → s.den → Nat → List OB → List OB
  | .row T, xs, o, l => l.set o (.row T xs)
  | .box d s, y, o, l => let r := Sh.lay s y l; r.2.set o (.box d r.1)
  | _, _, _, l => l
def layObs : (l : List (Nat × Sh)) → (shsOf l).den → List OB → List OB
  | [], _, l => l
  | p :: r, y, l => layObs r y.2 (layOb p.2 y.1 p.1 l)
def laySlots : (l : List (Nat × Sh)) → (shsOf l).den → List PV → List OB → List PV × List OB
  | [], _, vs, l => (vs, l)
  | p :: r, y, vs, l => let q := Sh.lay p.2 y.1 l; laySlots r y.2 (vs.set p.1 q.1) q.2
def killAll : List Nat → List OB → List OB
  | [], l => l
  | o :: r, l => killAll r (l.set o .dead)
def anyAll : List Nat → List PV → List PV
  | [], l => l
  | t :: r, l => anyAll r (l.set t .any)
/-- the state of this form that holds this; ds: the variables that may have been written -/
def SSh.lay (s : SSh) (S : St) (ds : List Nat) (y : s.den) : St :=
  let l := layObs s.objs y.2 (killAll s.gone S.objs)
  let q := laySlots s.slots y.1 (anyAll ds S.slots) l
  { slots := q.1, objs := q.2, touched := s.gone ++ s.objs.map (·.1) }
/-- may this form be used, from this state on? -/
def SSh.fit (s : SSh) (S : St) (ds : List Nat) : Bool :=
  unseen S && (within0 (s.slots.map (·.1)) ds && (boundL S.objs.length (s.objs.map (·.1)) && (nodup (s.objs.map (·.1)) && disj (s.objs.map (·.1)) s.gone)))

/-! ### Control -/
def dstsOps : List Oper → List Nat
  | [] => []
  | o :: l => (match o.dst with | some d => [d] | none => []) ++ dstsOps l
def dsts : Code → List Nat
  | .region _ ops _ => dstsOps ops.toList
  | .seq a b => dsts a ++ dsts b
  | .cond c a b => (match c with | .tmp t => [t] | _ => []) ++ dsts a ++ dsts b
  | .block _ b => dsts b
  | .loop b => dsts b
  | _ => []
structure Hints where
  /-- by the enclosing block's number: the form at the loop's head, the block that it is left to, the form there -/
  loop : Nat → Option (SSh × Nat × SSh)
  /-- by the region's number -/
  region : Nat → Option SSh
  /-- by the variable that is asked -/
  cond : Nat → Option SSh
  /-- by the block's number -/
  block : Nat → Option SSh
structure Kt (σ : Type) where
  n : St → Option σ
  x : Nat → St → Option σ
  r : St → Option σ
def iter {σ τ : Type} : Nat → (σ → Option (σ ⊕ τ)) → σ → Option τ
  | 0, _, _ => none
  | k + 1, f, s => (f s).bind fun r => match r with
    | .inl s' => iter k f s'
    | .inr t => some t
/-- the same state, but other objects count as touched -/
def St.touch (S : St) (l : List Nat) : St := { S with touched := l }
/-- ways that meet again: what holds there is handed on as one value -/
def meetK {σ : Type} (h : Option SSh) (ds : List Nat) (S : St) (K : Kt σ) (go : {τ : Type} → St → Kt τ → Option τ) : Option σ :=
  match h with
  | none => go S K
  | some s =>
    cond (s.fit S ds)
      ((go (τ := σ ⊕ s.den) (S.touch [])
        { n := fun S' => s.take S.objs.length S' fun y => some (.inr y)
          x := fun j S' => (K.x j (S'.touch (S'.touched ++ S.touched))).map .inl
          r := fun S' => (K.r (S'.touch (S'.touched ++ S.touched))).map .inl }).bind fun r =>
      match r with
      | .inl z => some z
      | .inr y => K.n ((s.lay S ds y).touch (s.gone ++ s.objs.map (·.1) ++ S.touched))) none

def ev (E : Env) (H : Hints) (k : Nat) : Code → Nat → {σ : Type} → St → Kt σ → Option σ
  | .skip, _, _, S, K => K.n S
  | .region id ops draw, _, _, S, K => meetK (H.region id) (dstsOps ops.toList) S K fun S K => evRegion E ops.toList draw S K.n
  | .seq a b, i, _, S, K => ev E H k a i S { K with n := fun S' => ev E H k b i S' K }
  | .cond c a b, i, _, S, K =>
    match c with
    | .tmp t => match S.slots.getD t .undef with
      | .bool v => meetK (H.cond t) (t :: (dsts a ++ dsts b)) S K fun S K =>
          cond v (ev E H k a i { S with slots := S.slots.set t (.bool true) } K) (ev E H k b i { S with slots := S.slots.set t (.bool false) } K)
      | _ => none
    | _ => none
  | .block id b, _, _, S, K => meetK (H.block id) (dsts b) S K fun S K =>
      ev E H k b id S { K with x := fun j S' => cond (Nat.beq j id) (K.n S') (K.x j S') }
  | .exit id, _, _, S, K => K.x id S
  | .ret, _, _, S, K => K.r S
  | .loop b, i, σ, S, K =>
    match H.loop i with
    | none => none
    | some (hd, ex, out) =>
      cond (hd.fit S (dsts b) && out.fit S (dsts b))
        (hd.take S.objs.length (S.touch []) fun y0 =>
          (iter (τ := σ ⊕ out.den) k (fun y =>
            ev E H k b i (σ := hd.den ⊕ (σ ⊕ out.den)) (hd.lay S (dsts b) y)
              { n := fun S' => hd.take S.objs.length S' fun y => some (.inl y)
                x := fun j S' => cond (Nat.beq j ex) (out.take S.objs.length S' fun z => some (.inr (.inr z))) none
                r := fun S' => (K.r (S'.touch (S'.touched ++ S.touched))).map fun z => .inr (.inl z) }) y0).bind fun r =>
          match r with
          | .inl z => some z
          | .inr z => K.x ex ((out.lay S (dsts b) z).touch (out.gone ++ out.objs.map (·.1) ++ S.touched))) none
  | _, _, _, _, _ => none
end Go.Vm
