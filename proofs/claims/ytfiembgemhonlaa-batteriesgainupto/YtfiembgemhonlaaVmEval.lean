/- Vm, part 2: operations that change what is there, calls, regions, control. Own work. -/
import Derived.Test.YtfiembgemhonlaaVmCore
namespace Go.Vm

mutual
/-- the objects that a value leads to -/
def PV.oids : PV → List Nat
  | .row o => [o] | .ptr o _ => [o] | .elo o _ _ => [o]
  | .agg l => PV.oidsL l | .tup l => PV.oidsL l | .func _ l => PV.oidsL l
  | _ => []
def PV.oidsL : List PV → List Nat
  | [] => []
  | v :: l => v.oids ++ PV.oidsL l
end
mutual
def PV.ren (f : Nat → Nat) : PV → PV
  | .row o => .row (f o) | .ptr o p => .ptr (f o) p | .elo o i p => .elo (f o) i p
  | .agg l => .agg (PV.renL f l) | .tup l => .tup (PV.renL f l) | .func g l => .func g (PV.renL f l)
  | v => v
def PV.renL (f : Nat → Nat) : List PV → List PV
  | [] => []
  | v :: l => v.ren f :: PV.renL f l
end
mutual
/-- no slice that is only seen -/
def PV.noSl : PV → Bool
  | .sl _ _ => false | .el _ _ => false
  | .agg l => PV.noSlL l | .tup l => PV.noSlL l | .func _ l => PV.noSlL l
  | _ => true
def PV.noSlL : List PV → Bool
  | [] => true
  | v :: l => v.noSl && PV.noSlL l
end
def OB.oids : OB → List Nat
  | .box _ v => v.oids
  | _ => []
def OB.ren (f : Nat → Nat) : OB → OB
  | .box d v => .box d (v.ren f)
  | b => b
def OB.noSl : OB → Bool
  | .box _ v => v.noSl
  | .row T _ => !T.deep
  | .dead => true
def OB.alive : OB → Bool
  | .dead => false
  | _ => true
def mem (n : Nat) : List Nat → Bool
  | [] => false
  | m :: l => Nat.beq n m || mem n l
def nodup : List Nat → Bool
  | [] => true
  | n :: l => !mem n l && nodup l
/-- the objects that are come to from some -/
def reach (S : St) : Nat → List Nat → List Nat → List Nat
  | 0, _, acc => acc
  | _ + 1, [], acc => acc
  | n + 1, o :: l, acc => cond (mem o acc) (reach S n l acc) (reach S n ((S.ob o).oids ++ l) (acc ++ [o]))
def posOf (n : Nat) : List Nat → Nat
  | [] => 0
  | m :: l => cond (Nat.beq n m) 0 (posOf n l + 1)
def allAlive (S : St) : List Nat → Bool
  | [] => true
  | o :: l => (S.ob o).alive && allAlive S l

def noOid (n : Nat) : List OB → Bool
  | [] => true
  | b :: l => !mem n b.oids && noOid n l
/-- nothing leads to this object yet -/
def St.fresh (S : St) (al : Nat) : Bool := !(S.ob al).alive && (!mem al (PV.oidsL S.slots) && noOid al S.objs)
/-- do all these objects lead to such alone? -/
def closed (S : St) (acc : List Nat) : Bool := go acc
where go : List Nat → Bool
  | [] => true
  | o :: l => ((S.ob o).oids.all fun x => mem x acc) && go l
def within0 : List Nat → List Nat → Bool
  | [], _ => true
  | o :: l, acc => mem o acc && within0 l acc
def boundL (n : Nat) : List Nat → Bool
  | [] => true
  | o :: l => Nat.blt o n && boundL n l
def boundO (n : Nat) : List OB → Bool
  | [] => true
  | b :: l => boundL n b.oids && boundO n l
/-- nothing leads beyond the objects that there are -/
def unseen (S : St) : Bool := boundL S.objs.length (PV.oidsL S.slots) && boundO S.objs.length S.objs

section
variable {ρ : Type}
/-- a nil slice that a function may write is made an object -/
def prepArgs (S : St) : List Mode → List PV → (St → List PV → Option ρ) → Option ρ
  | m :: ms, v :: vs, K => match m, v with
    | .rw T, .nil => cond (S.fresh S.objs.length) (prepArgs (S.new S.objs.length (.row T [])) ms vs fun S' l => K S' (.row S.objs.length :: l)) none
    | _, _ => prepArgs S ms vs fun S' l => K S' (v :: l)
  | [], vs, K => K S vs
  | _ :: _, [], K => K S []
/-- rows that a function only reads are shown as data -/
def showArgs (S : St) : List Mode → List PV → Option (List PV)
  | .ro T :: ms, v :: vs => (asData S T v).bind fun xs => (showArgs S ms vs).bind fun l => some (.sl T xs :: l)
  | .val :: ms, v :: vs => (showArgs S ms vs).bind fun l => some (v :: l)
  | .rw _ :: ms, v :: vs => (showArgs S ms vs).bind fun l => some (v :: l)
  | [], vs => some vs
  | _ :: _, [] => some []
/-- what is written back behind a call -/
def writeBack (back : Nat → Nat) : List Nat → List OB → List OB → List OB
  | o :: acc, b :: bs, objs => writeBack back acc bs (objs.set o (b.ren back))
  | _, bs, objs => objs ++ bs.map (OB.ren back)
def noSlAll : List OB → Bool
  | [] => true
  | b :: l => b.noSl && noSlAll l
def shownIn : List Mode → List PV → List Nat
  | .ro _ :: ms, .row o :: vs => o :: shownIn ms vs
  | _ :: ms, _ :: vs => shownIn ms vs
  | _, _ => []
def disj : List Nat → List Nat → Bool
  | [], _ => true
  | n :: l, m => !mem n m && disj l m

def evCall (E : Env) (f : Nat) (args : List PV) (S : St) (K : St → PV → Option ρ) : Option ρ :=
  prepArgs S (E.call f).modes args fun S1 args1 =>
    optK (showArgs S1 (E.call f).modes args1) fun as =>
      let acc := reach S1 1000 (PV.oidsL as) []
      cond (allAlive S1 acc && (nodup acc && (closed S1 acc && (within0 (PV.oidsL as) acc && disj (shownIn (E.call f).modes args1) acc))))
        ((E.call f).run (PV.renL (posOf · acc) as) (acc.map fun o => (S1.ob o).ren (posOf · acc)) fun v l =>
          let back := fun i => cond (Nat.blt i acc.length) (acc.getD i 0) (S1.objs.length + (i - acc.length))
          cond (((shownIn (E.call f).modes args1).isEmpty || (v.noSl && noSlAll l)) && unseen S1)
            (K { S1 with objs := writeBack back acc l S1.objs, touched := acc ++ S1.touched } (v.ren back)) none)
        none

def addK (S : St) (al : Nat) (d : Option Tmp) (v : PV) (b : Option OB) (K : St → Option ρ) : Option ρ :=
  match b with
  | none => K (S.put d v)
  | some b => cond (S.fresh al) (K ((S.new al b).put d v)) none

/-- An operation, whatever it does; what it makes lies at 'al'. -/
def evF (E : Env) (o : Oper) (S : St) (al : Nat) (K : St → Option ρ) : Option ρ :=
  match o.op with
  | .store t a x => match E.td t with
    | some d => match opd S a with
      | .ptr ob p => match S.ob ob with
        | .box e v => cond ((match e.off p with | some q => decide (q.2 = d) | none => false) && (d.fits (opd S x) && (opd S x).plain)) (K ((S.setOb ob (.box e (setPath v p (opd S x)))).put o.dst .undef)) none
        | _ => none
      | .elo ob i p => match S.ob ob with
        | .row T xs => cond ((match T.off p with | some q => decide (TD.data q.2 = d) | none => false) && inR i xs.length) (optK (setT T p (rd T.dflt xs i) (opd S x)) fun y => cond (d.fits (opd S x) && (opd S x).plain) (K ((S.setOb ob (.row T (xs.set i.toNat y))).put o.dst .undef)) none) none
        | _ => none
      | _ => none
    | none => none
  | .call c => match c.callee with
    | .builtin .append => match c.args.toList.map (opd S), c.argTypes.toList with
      | [s, x], t :: t2 :: _ => match E.elem t, E.elem t2 with
        | some T, some _ => optK (asData S T x) fun ys =>
          match s with
          | .nil => cond (decide (ys.length ≤ 4294967296)) (addK S al o.dst (.row al) (some (.row T ys)) K) none
          | .row ob => match S.ob ob with
            | .row U zs => optK (castL U T zs) fun xs =>
              cond (S.fresh al && decide (xs.length + ys.length ≤ 4294967296)) (K (((S.setOb ob .dead).new al (.row T (xs ++ ys))).put o.dst (.row al))) none
            | _ => none
          | _ => none
        | _, _ => none
      | _, _ => none
    | .builtin _ => evP E o S al fun v b => addK S al o.dst v b K
    | .value f => match opd S f with
      | .func g caps => evCall E g (c.args.toList.map (opd S) ++ caps) S fun S' v => K (S'.put o.dst v)
      | _ => none
    | _ => none
  | .slice t a lo hi mx => match opd S a, mx with
    | .row ob, none => match S.ob ob, E.elem t with
      | .row T xs, some U => evP.boundK S lo (0 : Int) fun l => evP.boundK S hi (xs.length : Int) fun h =>
        cond (S.fresh al && (decide (U = T) && (decide (0 ≤ l) && (decide (l ≤ h) && decide (h ≤ (xs.length : Int))))))
          (K (((S.setOb ob .dead).new al (.row T ((xs.take h.toNat).drop l.toNat))).put o.dst (.row al))) none
      | _, _ => none
    | _, _ => evP E o S al fun v b => addK S al o.dst v b K
  | _ => evP E o S al fun v b => addK S al o.dst v b K

/-- the guard of an operation: the variable that it asks, and what it wants there -/
def guardOf (all : List Oper) (o : Oper) : Option (Option (Nat × Bool)) :=
  match o.guard with
  | none => some none
  | some (i, want) => match (all[i]?).bind (·.dst) with
    | none => none
    | some g => some (some (g, want))

/-- is an operation wanted? Where that isn't known, both ways. -/
def wantK (all : List Oper) (o : Oper) (S : St) (yes no : St → Option ρ) : Option ρ :=
  match guardOf all o with
  | none => none
  | some none => yes S
  | some (some (g, want)) => match S.slots.getD g .undef with
    | .bool b =>
      cond b
        (cond want (yes { S with slots := S.slots.set g (.bool true) }) (no { S with slots := S.slots.set g (.bool true) }))
        (cond want (no { S with slots := S.slots.set g (.bool false) }) (yes { S with slots := S.slots.set g (.bool false) }))
    | .undef => no S
    | _ => none

/-- a region whose operations go as they stand -/
def evOps (E : Env) (all : List Oper) : List Oper → St → (St → Option ρ) → Option ρ
  | [], S, K => K S
  | o :: l, S, K => wantK all o S (fun S => evF E o S S.objs.length fun S' => evOps E all l S' K) (fun S => evOps E all l (S.put o.dst .undef) K)
end
end Go.Vm
