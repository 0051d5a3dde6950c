/- The program's functions, as an own tool reads them off its form. -/
import Derived.Test.YtbjpkdbneopgkaaVmK
import Derived.Test.YtbjpkdbneopgkaaProg
set_option maxRecDepth 100000
set_option linter.unusedVariables false
namespace Go.Vm
open Go.Proofs
abbrev PT0 : Type := (Int × Int × Unit)
abbrev PT1 : Type := (Int × Bool × Unit)
abbrev PT2 : Type := (ByteArray × ByteArray × Unit)
abbrev PT3 : Type := (ByteArray × ByteArray × Int × Unit)
abbrev PT4 : Type := (PT2 × Unit)
abbrev zPT0 : PT0 := ((0 : Int), (0 : Int), ())
abbrev zPT2 : PT2 := (ByteArray.empty, ByteArray.empty, ())
abbrev zPT3 : PT3 := (ByteArray.empty, ByteArray.empty, (0 : Int), ())
abbrev PY0 : Ty := (.struct (.cons .str (.cons .str .nil)))
abbrev PY1 : Ty := (.struct (.cons .str (.cons .str (.cons (.int .i64) .nil))))
theorem mixedOK : Try.prog.follows .mixedOrders = true := by kernel_rfl
def hint0 : Hints := { loop := fun _ => none, region := fun _ => none, cond := fun _ => none, block := fun _ => none }
/-! ### jitney/base.Key -/
def f34  (k : Nat) (x0 : ByteArray) : Option (Bool × Unit) :=
 bif (sEq x0 (ByteArray.mk #[])) then
 some (false, ())
 else
 bif (decide (((ByteArray.size x0 : Nat) : Int) > (40 : Int))) then
 some (false, ())
 else
 bif (inR (0 : Int) ((ByteArray.size x0 : Nat) : Int)) then
 bif (decide ((bt x0 (0 : Int)) < (97 : Int))) then
 some (false, ())
 else
 bif (inR (0 : Int) ((ByteArray.size x0 : Nat) : Int)) then
 bif (decide ((bt x0 (0 : Int)) > (122 : Int))) then
 some (false, ())
 else
 Option.bind (α := (Bool × Unit) ⊕ ((Unit) × (Unit))) (iter (σ := (Int × Unit) × (Unit)) (τ := (Bool × Unit) ⊕ ((Unit) × (Unit))) k (fun y1 =>
 bif (decide (y1.1.1 < ((ByteArray.size x0 : Nat) : Int))) then
 bif (inR y1.1.1 ((ByteArray.size x0 : Nat) : Int)) then
 bif (decide ((bt x0 y1.1.1) ≥ (97 : Int))) then
 bif (decide ((bt x0 y1.1.1) ≤ (122 : Int))) then
 some (.inl (((IntKind.i64.wrap (y1.1.1 + (1 : Int))), ()), ()))
 else
 bif (decide ((bt x0 y1.1.1) ≥ (48 : Int))) then
 bif (decide ((bt x0 y1.1.1) ≤ (57 : Int))) then
 some (.inl (((IntKind.i64.wrap (y1.1.1 + (1 : Int))), ()), ()))
 else
 bif ((bt x0 y1.1.1) == (45 : Int)) then
 some (.inl (((IntKind.i64.wrap (y1.1.1 + (1 : Int))), ()), ()))
 else
 bif (!((bt x0 y1.1.1) == (95 : Int))) then
 some (.inr (.inl (false, ())))
 else
 some (.inl (((IntKind.i64.wrap (y1.1.1 + (1 : Int))), ()), ()))
 else
 bif ((bt x0 y1.1.1) == (45 : Int)) then
 some (.inl (((IntKind.i64.wrap (y1.1.1 + (1 : Int))), ()), ()))
 else
 bif (!((bt x0 y1.1.1) == (95 : Int))) then
 some (.inr (.inl (false, ())))
 else
 some (.inl (((IntKind.i64.wrap (y1.1.1 + (1 : Int))), ()), ()))
 else
 bif (decide ((bt x0 y1.1.1) ≥ (48 : Int))) then
 bif (decide ((bt x0 y1.1.1) ≤ (57 : Int))) then
 some (.inl (((IntKind.i64.wrap (y1.1.1 + (1 : Int))), ()), ()))
 else
 bif ((bt x0 y1.1.1) == (45 : Int)) then
 some (.inl (((IntKind.i64.wrap (y1.1.1 + (1 : Int))), ()), ()))
 else
 bif (!((bt x0 y1.1.1) == (95 : Int))) then
 some (.inr (.inl (false, ())))
 else
 some (.inl (((IntKind.i64.wrap (y1.1.1 + (1 : Int))), ()), ()))
 else
 bif ((bt x0 y1.1.1) == (45 : Int)) then
 some (.inl (((IntKind.i64.wrap (y1.1.1 + (1 : Int))), ()), ()))
 else
 bif (!((bt x0 y1.1.1) == (95 : Int))) then
 some (.inr (.inl (false, ())))
 else
 some (.inl (((IntKind.i64.wrap (y1.1.1 + (1 : Int))), ()), ()))
 else
 none
 else
 some (.inr (.inr ((), ())))) (((0 : Int), ()), ())) fun r => match r with
 | .inl z => some z
 | .inr z2 =>
 some (true, ())
 else
 none
 else
 none
def H34 : Hints where
  loop := fun n => match n with
    | 0 => some ({ slots := [(24, (.int .i64))], objs := [], gone := [] }, 0, { slots := [], objs := [], gone := [] })
    | _ => none
  region := fun n => match n with
    | _ => none
  cond := fun n => match n with
    | _ => none
  block := fun n => match n with
    | _ => none
abbrev A34 : Tys := (.cons .str .nil)
def ts34 : List (Nat × TD) := [(3, (.data (.int .i64))), (4, (.data .bool)), (5, (.data (.int .u8))), (9, (.data .str))]
noncomputable def fs34  : List (Nat × FSem) := []
noncomputable def body34 : Code := match Try.f34.body with | some c => c | none => .skip
theorem ty34 : chkTypes Try.prog ts34 = true := by kernel_rfl
theorem ev34  (k : Nat) (x : ((.cons .str .nil) : Tys).den) : evFun (mkEnv ts34 (fs34 )) H34 k body34 54 [.tmp 2] (explodes (.cons .str .nil) x) [] (dec (.cons .bool .nil)) = f34  k x.1 := by kernel_rfl
/-! ### jitney/base.Out -/
def f35  (k : Nat) (x0 : Int) (x1 : Int) (x2 : Int) : Option (Bool × Unit) :=
 bif (decide (x0 < x1)) then
 some (true, ())
 else
 some ((decide (x0 > x2)), ())
def H35 : Hints := hint0
abbrev A35 : Tys := (.cons (.int .i64) (.cons (.int .i64) (.cons (.int .i64) .nil)))
def ts35 : List (Nat × TD) := [(3, (.data (.int .i64))), (4, (.data .bool))]
noncomputable def fs35  : List (Nat × FSem) := []
noncomputable def body35 : Code := match Try.f35.body with | some c => c | none => .skip
theorem ty35 : chkTypes Try.prog ts35 = true := by kernel_rfl
theorem ev35  (k : Nat) (x : ((.cons (.int .i64) (.cons (.int .i64) (.cons (.int .i64) .nil))) : Tys).den) : evFun (mkEnv ts35 (fs35 )) H35 k body35 15 [.tmp 6] (explodes (.cons (.int .i64) (.cons (.int .i64) (.cons (.int .i64) .nil))) x) [] (dec (.cons .bool .nil)) = f35  k x.1 x.2.1 x.2.2.1 := by kernel_rfl
/-! ### cmp.Or[int] -/
def f66  (k : Nat) (x0 : List Int) : Option (Int × Unit) :=
 Option.bind (α := (Int × Unit) ⊕ ((Unit) × (Unit))) (iter (σ := (Int × Unit) × (Unit)) (τ := (Int × Unit) ⊕ ((Unit) × (Unit))) k (fun y1 =>
 bif (decide (y1.1.1 < ((List.length x0 : Nat) : Int))) then
 bif (inR y1.1.1 ((List.length x0 : Nat) : Int)) then
 bif ((rd (α := Int) (0 : Int) x0 y1.1.1) != (0 : Int)) then
 some (.inr (.inl ((rd (α := Int) (0 : Int) x0 y1.1.1), ())))
 else
 some (.inl (((IntKind.i64.wrap (y1.1.1 + (1 : Int))), ()), ()))
 else
 none
 else
 some (.inr (.inr ((), ())))) (((0 : Int), ()), ())) fun r => match r with
 | .inl z => some z
 | .inr z2 =>
 some ((0 : Int), ())
def H66 : Hints where
  loop := fun n => match n with
    | 0 => some ({ slots := [(8, (.int .i64))], objs := [], gone := [] }, 0, { slots := [], objs := [], gone := [] })
    | _ => none
  region := fun n => match n with
    | _ => none
  cond := fun n => match n with
    | _ => none
  block := fun n => match n with
    | _ => none
abbrev A66 : Tys := (.cons (.slice (.int .i64)) .nil)
def ts66 : List (Nat × TD) := [(3, (.data (.int .i64))), (60, (.data (.slice (.int .i64))))]
noncomputable def fs66  : List (Nat × FSem) := []
noncomputable def body66 : Code := match Try.f66.body with | some c => c | none => .skip
theorem ty66 : chkTypes Try.prog ts66 = true := by kernel_rfl
theorem ev66  (k : Nat) (x : ((.cons (.slice (.int .i64)) .nil) : Tys).den) : evFun (mkEnv ts66 (fs66 )) H66 k body66 18 [.tmp 2] (explodes (.cons (.slice (.int .i64)) .nil) x) [] (dec (.cons (.int .i64) .nil)) = f66  k x.1 := by kernel_rfl
/-! ### strings.Compare -/
def f67 (g83 : ByteArray → ByteArray → (Int)) (k : Nat) (x0 : ByteArray) (x1 : ByteArray) : Option (Int × Unit) :=
 some ((g83 x0 x1), ())
def H67 : Hints := hint0
abbrev A67 : Tys := (.cons .str (.cons .str .nil))
def ts67 : List (Nat × TD) := [(3, (.data (.int .i64))), (9, (.data .str))]
noncomputable def fs67 (g83 : ByteArray → ByteArray → (Int)) : List (Nat × FSem) := [(83, .fn (.cons .str (.cons .str .nil)) (.cons (.int .i64) .nil) fun x => ((g83 x.1 x.2.1), ()))]
noncomputable def body67 : Code := match Try.f67.body with | some c => c | none => .skip
theorem ty67 : chkTypes Try.prog ts67 = true := by kernel_rfl
theorem ev67 (g83 : ByteArray → ByteArray → (Int)) (k : Nat) (x : ((.cons .str (.cons .str .nil)) : Tys).den) : evFun (mkEnv ts67 (fs67 g83)) H67 k body67 8 [.tmp 4] (explodes (.cons .str (.cons .str .nil)) x) [] (dec (.cons (.int .i64) .nil)) = f67 g83 k x.1 x.2.1 := by kernel_rfl
/-! ### jitney/match.byOffer -/
def f46 (g66 : (List Int) → (Int)) (g67 : ByteArray → ByteArray → (Int)) (k : Nat) (x0 : PT3) (x1 : PT3) : Option (Int × Unit) :=
 some ((g66 ([(g67 x0.1 x1.1), (g67 x0.2.1 x1.2.1)])), ())
def H46 : Hints := hint0
abbrev A46 : Tys := (.cons PY1 (.cons PY1 .nil))
def ts46 : List (Nat × TD) := [(3, (.data (.int .i64))), (9, (.data .str)), (43, (.data PY1)), (60, (.data (.slice (.int .i64))))]
noncomputable def fs46 (g66 : (List Int) → (Int)) (g67 : ByteArray → ByteArray → (Int)) : List (Nat × FSem) := [(66, .fn (.cons (.slice (.int .i64)) .nil) (.cons (.int .i64) .nil) fun x => ((g66 x.1), ())), (67, .fn (.cons .str (.cons .str .nil)) (.cons (.int .i64) .nil) fun x => ((g67 x.1 x.2.1), ()))]
noncomputable def body46 : Code := match Try.f46.body with | some c => c | none => .skip
theorem ty46 : chkTypes Try.prog ts46 = true := by kernel_rfl
theorem ev46 (g66 : (List Int) → (Int)) (g67 : ByteArray → ByteArray → (Int)) (k : Nat) (x : ((.cons PY1 (.cons PY1 .nil)) : Tys).den) : evFun (mkEnv ts46 (fs46 g66 g67)) H46 k body46 17 [.tmp 4] (explodes (.cons PY1 (.cons PY1 .nil)) x) [] (dec (.cons (.int .i64) .nil)) = f46 g66 g67 k x.1 x.2.1 := by kernel_rfl
/-! ### jitney/match.CheckOffers -/
def f21 (g34 : ByteArray → (Bool)) (g35 : Int → Int → Int → (Bool)) (g46 : PT3 → PT3 → (Int)) (k : Nat) (x0 : List PT3) : Option (Int × Unit) :=
 bif (decide (((List.length x0 : Nat) : Int) > (2000 : Int))) then
 some ((2 : Int), ())
 else
 Option.bind (α := (Int × Unit) ⊕ ((Unit) × (Unit))) (iter (σ := (Int × Unit) × (Unit)) (τ := (Int × Unit) ⊕ ((Unit) × (Unit))) k (fun y1 =>
 bif (decide (y1.1.1 < ((List.length x0 : Nat) : Int))) then
 bif (inR y1.1.1 ((List.length x0 : Nat) : Int)) then
 bif (!(g34 ((rd (α := PT3) zPT3 x0 y1.1.1).1))) then
 some (.inr (.inl ((5 : Int), ())))
 else
 bif (!(g34 ((rd (α := PT3) zPT3 x0 y1.1.1).2.1))) then
 some (.inr (.inl ((5 : Int), ())))
 else
 bif (g35 ((rd (α := PT3) zPT3 x0 y1.1.1).2.2.1) (0 : Int) (1000000000 : Int)) then
 some (.inr (.inl ((1 : Int), ())))
 else
 bif (decide (y1.1.1 > (0 : Int))) then
 bif (inR (IntKind.i64.wrap (y1.1.1 - (1 : Int))) ((List.length x0 : Nat) : Int)) then
 bif (decide ((g46 (rd (α := PT3) zPT3 x0 y1.1.1) (rd (α := PT3) zPT3 x0 (IntKind.i64.wrap (y1.1.1 - (1 : Int))))) ≤ (0 : Int))) then
 some (.inr (.inl ((7 : Int), ())))
 else
 some (.inl (((IntKind.i64.wrap (y1.1.1 + (1 : Int))), ()), ()))
 else
 none
 else
 some (.inl (((IntKind.i64.wrap (y1.1.1 + (1 : Int))), ()), ()))
 else
 none
 else
 some (.inr (.inr ((), ())))) (((0 : Int), ()), ())) fun r => match r with
 | .inl z => some z
 | .inr z2 =>
 some ((0 : Int), ())
def H21 : Hints where
  loop := fun n => match n with
    | 0 => some ({ slots := [(10, (.int .i64))], objs := [], gone := [] }, 0, { slots := [], objs := [], gone := [] })
    | _ => none
  region := fun n => match n with
    | _ => none
  cond := fun n => match n with
    | _ => none
  block := fun n => match n with
    | _ => none
abbrev A21 : Tys := (.cons (.slice PY1) .nil)
def ts21 : List (Nat × TD) := [(3, (.data (.int .i64))), (9, (.data .str)), (23, (.data (.int .i64))), (36, (.data (.slice PY1))), (43, (.data PY1))]
noncomputable def fs21 (g34 : ByteArray → (Bool)) (g35 : Int → Int → Int → (Bool)) (g46 : PT3 → PT3 → (Int)) : List (Nat × FSem) := [(34, .fn (.cons .str .nil) (.cons .bool .nil) fun x => ((g34 x.1), ())), (35, .fn (.cons (.int .i64) (.cons (.int .i64) (.cons (.int .i64) .nil))) (.cons .bool .nil) fun x => ((g35 x.1 x.2.1 x.2.2.1), ())), (46, .fn (.cons PY1 (.cons PY1 .nil)) (.cons (.int .i64) .nil) fun x => ((g46 x.1 x.2.1), ()))]
noncomputable def body21 : Code := match Try.f21.body with | some c => c | none => .skip
theorem ty21 : chkTypes Try.prog ts21 = true := by kernel_rfl
theorem ev21 (g34 : ByteArray → (Bool)) (g35 : Int → Int → Int → (Bool)) (g46 : PT3 → PT3 → (Int)) (k : Nat) (x : ((.cons (.slice PY1) .nil) : Tys).den) : evFun (mkEnv ts21 (fs21 g34 g35 g46)) H21 k body21 44 [.tmp 2] (explodes (.cons (.slice PY1) .nil) x) [] (dec (.cons (.int .i64) .nil)) = f21 g34 g35 g46 k x.1 := by kernel_rfl
/-! ### slices.Compact[[]string,string] -/
def f28  (k : Nat) (x0 : List ByteArray) : Option (List ByteArray) :=
 bif (decide (((List.length x0 : Nat) : Int) < (2 : Int))) then
 some x0
 else
 Option.bind (α := (List ByteArray) ⊕ ((Unit) × (Unit))) (iter (σ := (Int × Unit) × (Unit)) (τ := (List ByteArray) ⊕ ((Unit) × (Unit))) k (fun y1 =>
 bif (decide (y1.1.1 < ((List.length x0 : Nat) : Int))) then
 bif (inR y1.1.1 ((List.length x0 : Nat) : Int)) then
 bif (inR y1.1.1 ((List.length x0 : Nat) : Int)) then
 bif (inR (IntKind.i64.wrap (y1.1.1 - (1 : Int))) ((List.length x0 : Nat) : Int)) then
 bif (inR (IntKind.i64.wrap (y1.1.1 - (1 : Int))) ((List.length x0 : Nat) : Int)) then
 bif (sEq (rd (α := ByteArray) ByteArray.empty x0 y1.1.1) (rd (α := ByteArray) ByteArray.empty x0 (IntKind.i64.wrap (y1.1.1 - (1 : Int))))) then
 bif (decide (0 ≤ y1.1.1) && (decide (y1.1.1 ≤ ((List.length x0 : Nat) : Int)) && decide (((List.length x0 : Nat) : Int) ≤ ((List.length x0 : Nat) : Int)))) then
 Option.bind (α := (((Int × Unit) × (Unit)) ⊕ ((List ByteArray) ⊕ ((Unit) × (Unit)))) ⊕ ((Int × Unit) × ((List ByteArray) × Unit))) (iter (σ := PT0 × ((List ByteArray) × Unit)) (τ := (((Int × Unit) × (Unit)) ⊕ ((List ByteArray) ⊕ ((Unit) × (Unit)))) ⊕ ((Int × Unit) × ((List ByteArray) × Unit))) k (fun y2 =>
 bif (decide (y2.1.2.1 < (((List.length x0 : Nat) : Int) - y1.1.1))) then
 bif (inR y2.1.2.1 (((List.length x0 : Nat) : Int) - y1.1.1)) then
 bif (inR (y1.1.1 + y2.1.2.1) ((List.length y2.2.1 : Nat) : Int)) then
 bif (inR (IntKind.i64.wrap (y2.1.2.1 - (1 : Int))) (((List.length x0 : Nat) : Int) - y1.1.1)) then
 bif (inR (y1.1.1 + (IntKind.i64.wrap (y2.1.2.1 - (1 : Int)))) ((List.length y2.2.1 : Nat) : Int)) then
 bif (!(sEq (rd (α := ByteArray) ByteArray.empty y2.2.1 (y1.1.1 + y2.1.2.1)) (rd (α := ByteArray) ByteArray.empty y2.2.1 (y1.1.1 + (IntKind.i64.wrap (y2.1.2.1 - (1 : Int))))))) then
 bif (inR y2.1.2.1 (((List.length x0 : Nat) : Int) - y1.1.1)) then
 bif (inR (y1.1.1 + y2.1.2.1) ((List.length y2.2.1 : Nat) : Int)) then
 bif (inR y2.1.1 ((List.length y2.2.1 : Nat) : Int)) then
 bif (inR y2.1.1 ((List.length y2.2.1 : Nat) : Int)) then
 some (.inl (((IntKind.i64.wrap (y2.1.1 + (1 : Int))), (IntKind.i64.wrap (y2.1.2.1 + (1 : Int))), ()), ((List.set y2.2.1 (Int.toNat y2.1.1) (rd (α := ByteArray) ByteArray.empty y2.2.1 (y1.1.1 + y2.1.2.1))), ())))
 else
 none
 else
 none
 else
 none
 else
 none
 else
 some (.inl ((y2.1.1, (IntKind.i64.wrap (y2.1.2.1 + (1 : Int))), ()), (y2.2.1, ())))
 else
 none
 else
 none
 else
 none
 else
 none
 else
 some (.inr (.inr ((y2.1.1, ()), (y2.2.1, ()))))) ((y1.1.1, (1 : Int), ()), (x0, ()))) fun r => match r with
 | .inl z => some z
 | .inr z3 =>
 bif (decide (0 ≤ z3.1.1) && (decide (z3.1.1 ≤ ((List.length z3.2.1 : Nat) : Int)) && decide (((List.length z3.2.1 : Nat) : Int) ≤ ((List.length z3.2.1 : Nat) : Int)))) then
 bif (decide (0 ≤ (0 : Int)) && (decide ((0 : Int) ≤ z3.1.1) && decide (z3.1.1 ≤ ((List.length (List.take (Int.toNat z3.1.1) z3.2.1 ++ (List.replicate (Int.toNat (((List.length z3.2.1 : Nat) : Int) - z3.1.1)) ByteArray.empty ++ List.drop (Int.toNat ((List.length z3.2.1 : Nat) : Int)) z3.2.1)) : Nat) : Int)))) then
 some (.inr (.inl (List.drop (Int.toNat (0 : Int)) (List.take (Int.toNat z3.1.1) (List.take (Int.toNat z3.1.1) z3.2.1 ++ (List.replicate (Int.toNat (((List.length z3.2.1 : Nat) : Int) - z3.1.1)) ByteArray.empty ++ List.drop (Int.toNat ((List.length z3.2.1 : Nat) : Int)) z3.2.1))))))
 else
 none
 else
 none
 else
 none
 else
 some (.inl (((IntKind.i64.wrap (y1.1.1 + (1 : Int))), ()), ()))
 else
 none
 else
 none
 else
 none
 else
 none
 else
 some (.inr (.inr ((), ())))) (((1 : Int), ()), ())) fun r => match r with
 | .inl z => some z
 | .inr z4 =>
 some x0
def H28 : Hints where
  loop := fun n => match n with
    | 0 => some ({ slots := [(3, (.int .i64))], objs := [], gone := [] }, 0, { slots := [], objs := [], gone := [] })
    | 2 => some ({ slots := [(3, (.int .i64)), (5, (.int .i64))], objs := [(0, (.row .str))], gone := [] }, 2, { slots := [(3, (.int .i64))], objs := [(0, (.row .str))], gone := [] })
    | _ => none
  region := fun n => match n with
    | _ => none
  cond := fun n => match n with
    | _ => none
  block := fun n => match n with
    | _ => none
def ts28 : List (Nat × TD) := [(3, (.data (.int .i64))), (9, (.data .str)), (38, (.data (.slice .str)))]
noncomputable def fs28  : List (Nat × FSem) := []
noncomputable def body28 : Code := match Try.f28.body with | some c => c | none => .skip
theorem ty28 : chkTypes Try.prog ts28 = true := by kernel_rfl
theorem ev28  (k : Nat) (xs : List ByteArray) (a : (.nil : Tys).den) : evFun (mkEnvV ts28 (fs28 )) H28 k body28 61 [.tmp 2] (.row 0 :: explodes .nil a) [.row .str xs] (rowRes .str) = f28  k xs  := by kernel_rfl
/-! ### jitney/match.carsOf$1 -/
def f61  (k : Nat) (x0 : PT3) : Option (ByteArray × Unit) :=
 some (x0.1, ())
def H61 : Hints := hint0
abbrev A61 : Tys := (.cons PY1 .nil)
def ts61 : List (Nat × TD) := [(9, (.data .str)), (43, (.data PY1))]
noncomputable def fs61  : List (Nat × FSem) := []
noncomputable def body61 : Code := match Try.f61.body with | some c => c | none => .skip
theorem ty61 : chkTypes Try.prog ts61 = true := by kernel_rfl
theorem ev61  (k : Nat) (x : ((.cons PY1 .nil) : Tys).den) : evFun (mkEnv ts61 (fs61 )) H61 k body61 5 [.tmp 2] (explodes (.cons PY1 .nil) x) [] (dec (.cons .str .nil)) = f61  k x.1 := by kernel_rfl
/-! ### jitney/match.carsOf -/
def f39 (g27 : List ByteArray → Option (List ByteArray)) (g28 : List ByteArray → Option (List ByteArray)) (g61 : PT3 → (ByteArray)) (k : Nat) (x0 : List PT3) : Option ((List ByteArray) × Unit) :=
 Option.bind (α := ((List ByteArray) × Unit) ⊕ (((List ByteArray) × Unit) × (Unit))) (iter (σ := ((List ByteArray) × Int × Unit) × (Unit)) (τ := ((List ByteArray) × Unit) ⊕ (((List ByteArray) × Unit) × (Unit))) k (fun y1 =>
 bif (decide (y1.1.2.1 < ((List.length x0 : Nat) : Int))) then
 bif (inR y1.1.2.1 ((List.length x0 : Nat) : Int)) then
 bif decide (List.length y1.1.1 + List.length ([(g61 (rd (α := PT3) zPT3 x0 y1.1.2.1))]) ≤ 4294967296) then
 some (.inl (((y1.1.1 ++ [(g61 (rd (α := PT3) zPT3 x0 y1.1.2.1))]), (IntKind.i64.wrap (y1.1.2.1 + (1 : Int))), ()), ()))
 else
 none
 else
 none
 else
 some (.inr (.inr ((y1.1.1, ()), ())))) (([], (0 : Int), ()), ())) fun r => match r with
 | .inl z => some z
 | .inr z2 =>
 Option.bind (g27 z2.1.1) fun v3 =>
 Option.bind (g28 v3) fun v4 =>
 some (v4, ())
def H39 : Hints := hint0
def Hi39_60 : Hints where
  loop := fun n => match n with
    | 0 => some ({ slots := [(5, (.row .str)), (10, (.int .i64))], objs := [], gone := [] }, 0, { slots := [(5, (.row .str))], objs := [], gone := [] })
    | _ => none
  region := fun n => match n with
    | _ => none
  cond := fun n => match n with
    | _ => none
  block := fun n => match n with
    | _ => none
def tsi39_60 : List (Nat × TD) := [(3, (.data (.int .i64))), (36, (.data (.slice PY1))), (38, (.data (.slice .str))), (43, (.data PY1))]
noncomputable def bodyi39_60 : Code := match Try.f60.body with | some c => c | none => .skip
noncomputable def fsi39_60 (g27 : List ByteArray → Option (List ByteArray)) (g28 : List ByteArray → Option (List ByteArray)) (g61 : PT3 → (ByteArray)) (k : Nat) : List (Nat × FSem) := [(27, .wfn .str .nil fun xs a => g27 xs ), (28, .cfn .str .nil fun xs a => g28 xs ), (61, .fn (.cons PY1 .nil) (.cons .str .nil) fun x => ((g61 x.1), ()))]
theorem tyi39_60 : chkTypes Try.prog tsi39_60 = true := by kernel_rfl
abbrev A39 : Tys := (.cons (.slice PY1) .nil)
def ts39 : List (Nat × TD) := [(36, (.data (.slice PY1))), (38, (.data (.slice .str)))]
noncomputable def fs39 (g27 : List ByteArray → Option (List ByteArray)) (g28 : List ByteArray → Option (List ByteArray)) (g61 : PT3 → (ByteArray)) (k : Nat) : List (Nat × FSem) := [(60, .ev (mkEnv tsi39_60 (fsi39_60 g27 g28 g61 k)) Hi39_60 k bodyi39_60 25 [.tmp 4])]
noncomputable def body39 : Code := match Try.f39.body with | some c => c | none => .skip
theorem ty39 : chkTypes Try.prog ts39 = true := by kernel_rfl
theorem ev39 (g27 : List ByteArray → Option (List ByteArray)) (g28 : List ByteArray → Option (List ByteArray)) (g61 : PT3 → (ByteArray)) (k : Nat) (x : ((.cons (.slice PY1) .nil) : Tys).den) : evFun (mkEnv ts39 (fs39 g27 g28 g61 k)) H39 k body39 5 [.tmp 2] (explodes (.cons (.slice PY1) .nil) x) [] (dec (.cons (.slice .str) .nil)) = f39 g27 g28 g61 k x.1 := by kernel_rfl
/-! ### jitney/match.Cars -/
def f14 (g21 : (List PT3) → (Int)) (g39 : (List PT3) → Option ((List ByteArray) × Unit)) (k : Nat) (x0 : List PT3) : Option ((List ByteArray) × Int × Unit) :=
 bif ((g21 x0) != (0 : Int)) then
 some ([], (g21 x0), ())
 else
 Option.bind (g39 x0) fun v1 =>
 some (v1.1, (0 : Int), ())
def H14 : Hints := hint0
abbrev A14 : Tys := (.cons (.slice PY1) .nil)
def ts14 : List (Nat × TD) := [(23, (.data (.int .i64))), (36, (.data (.slice PY1))), (38, (.data (.slice .str)))]
noncomputable def fs14 (g21 : (List PT3) → (Int)) (g39 : (List PT3) → Option ((List ByteArray) × Unit)) : List (Nat × FSem) := [(21, .fn (.cons (.slice PY1) .nil) (.cons (.int .i64) .nil) fun x => ((g21 x.1), ())), (39, .pfn (.cons (.slice PY1) .nil) (.cons (.slice .str) .nil) fun x => (g39 x.1))]
noncomputable def body14 : Code := match Try.f14.body with | some c => c | none => .skip
theorem ty14 : chkTypes Try.prog ts14 = true := by kernel_rfl
theorem ev14 (g21 : (List PT3) → (Int)) (g39 : (List PT3) → Option ((List ByteArray) × Unit)) (k : Nat) (x : ((.cons (.slice PY1) .nil) : Tys).den) : evFun (mkEnv ts14 (fs14 g21 g39)) H14 k body14 12 [.tmp 2, .tmp 3] (explodes (.cons (.slice PY1) .nil) x) [] (dec (.cons (.slice .str) (.cons (.int .i64) .nil))) = f14 g21 g39 k x.1 := by kernel_rfl
/-! ### slices.Clone[[]jitney/api.Offer,jitney/api.Offer] -/
def f15  (k : Nat) (x0 : List PT3) : Option ((List PT3) × Unit) :=
 bif Nat.ble (List.length x0) 0 then
 none
 else
 bif decide (List.length ([] : List PT3) + List.length x0 ≤ 4294967296) then
 some ((([] : List PT3) ++ x0), ())
 else
 none
def H15 : Hints := hint0
def ts15 : List (Nat × TD) := [(36, (.data (.slice PY1)))]
noncomputable def fs15  : List (Nat × FSem) := []
noncomputable def body15 : Code := match Try.f15.body with | some c => c | none => .skip
theorem ty15 : chkTypes Try.prog ts15 = true := by kernel_rfl
theorem ev15  (k : Nat) (x : ((.cons (.slice PY1) .nil) : Tys).den) : evFun (mkEnv ts15 (fs15 )) H15 k body15 8 [.tmp 2] (explodes (.cons (.slice PY1) .nil) x) [] (dec (.cons (.slice PY1) .nil)) = f15  k x.1 := by kernel_rfl
def s15 (l : List PT3) : Option ((List PT3) × Unit) := if l.length ≤ 4294967296 then some (l, ()) else none
/-! ### jitney/match.ridesOf$1 -/
def f62  (k : Nat) (x0 : PT3) : Option (ByteArray × Unit) :=
 some (x0.2.1, ())
def H62 : Hints := hint0
abbrev A62 : Tys := (.cons PY1 .nil)
def ts62 : List (Nat × TD) := [(9, (.data .str)), (43, (.data PY1))]
noncomputable def fs62  : List (Nat × FSem) := []
noncomputable def body62 : Code := match Try.f62.body with | some c => c | none => .skip
theorem ty62 : chkTypes Try.prog ts62 = true := by kernel_rfl
theorem ev62  (k : Nat) (x : ((.cons PY1 .nil) : Tys).den) : evFun (mkEnv ts62 (fs62 )) H62 k body62 5 [.tmp 2] (explodes (.cons PY1 .nil) x) [] (dec (.cons .str .nil)) = f62  k x.1 := by kernel_rfl
/-! ### jitney/match.ridesOf -/
def f40 (g27 : List ByteArray → Option (List ByteArray)) (g28 : List ByteArray → Option (List ByteArray)) (g62 : PT3 → (ByteArray)) (k : Nat) (x0 : List PT3) : Option ((List ByteArray) × Unit) :=
 Option.bind (α := ((List ByteArray) × Unit) ⊕ (((List ByteArray) × Unit) × (Unit))) (iter (σ := ((List ByteArray) × Int × Unit) × (Unit)) (τ := ((List ByteArray) × Unit) ⊕ (((List ByteArray) × Unit) × (Unit))) k (fun y1 =>
 bif (decide (y1.1.2.1 < ((List.length x0 : Nat) : Int))) then
 bif (inR y1.1.2.1 ((List.length x0 : Nat) : Int)) then
 bif decide (List.length y1.1.1 + List.length ([(g62 (rd (α := PT3) zPT3 x0 y1.1.2.1))]) ≤ 4294967296) then
 some (.inl (((y1.1.1 ++ [(g62 (rd (α := PT3) zPT3 x0 y1.1.2.1))]), (IntKind.i64.wrap (y1.1.2.1 + (1 : Int))), ()), ()))
 else
 none
 else
 none
 else
 some (.inr (.inr ((y1.1.1, ()), ())))) (([], (0 : Int), ()), ())) fun r => match r with
 | .inl z => some z
 | .inr z2 =>
 Option.bind (g27 z2.1.1) fun v3 =>
 Option.bind (g28 v3) fun v4 =>
 some (v4, ())
def H40 : Hints := hint0
def Hi40_60 : Hints where
  loop := fun n => match n with
    | 0 => some ({ slots := [(5, (.row .str)), (10, (.int .i64))], objs := [], gone := [] }, 0, { slots := [(5, (.row .str))], objs := [], gone := [] })
    | _ => none
  region := fun n => match n with
    | _ => none
  cond := fun n => match n with
    | _ => none
  block := fun n => match n with
    | _ => none
def tsi40_60 : List (Nat × TD) := [(3, (.data (.int .i64))), (36, (.data (.slice PY1))), (38, (.data (.slice .str))), (43, (.data PY1))]
noncomputable def bodyi40_60 : Code := match Try.f60.body with | some c => c | none => .skip
noncomputable def fsi40_60 (g27 : List ByteArray → Option (List ByteArray)) (g28 : List ByteArray → Option (List ByteArray)) (g62 : PT3 → (ByteArray)) (k : Nat) : List (Nat × FSem) := [(27, .wfn .str .nil fun xs a => g27 xs ), (28, .cfn .str .nil fun xs a => g28 xs ), (62, .fn (.cons PY1 .nil) (.cons .str .nil) fun x => ((g62 x.1), ()))]
theorem tyi40_60 : chkTypes Try.prog tsi40_60 = true := by kernel_rfl
abbrev A40 : Tys := (.cons (.slice PY1) .nil)
def ts40 : List (Nat × TD) := [(36, (.data (.slice PY1))), (38, (.data (.slice .str)))]
noncomputable def fs40 (g27 : List ByteArray → Option (List ByteArray)) (g28 : List ByteArray → Option (List ByteArray)) (g62 : PT3 → (ByteArray)) (k : Nat) : List (Nat × FSem) := [(60, .ev (mkEnv tsi40_60 (fsi40_60 g27 g28 g62 k)) Hi40_60 k bodyi40_60 25 [.tmp 4])]
noncomputable def body40 : Code := match Try.f40.body with | some c => c | none => .skip
theorem ty40 : chkTypes Try.prog ts40 = true := by kernel_rfl
theorem ev40 (g27 : List ByteArray → Option (List ByteArray)) (g28 : List ByteArray → Option (List ByteArray)) (g62 : PT3 → (ByteArray)) (k : Nat) (x : ((.cons (.slice PY1) .nil) : Tys).den) : evFun (mkEnv ts40 (fs40 g27 g28 g62 k)) H40 k body40 5 [.tmp 2] (explodes (.cons (.slice PY1) .nil) x) [] (dec (.cons (.slice .str) .nil)) = f40 g27 g28 g62 k x.1 := by kernel_rfl
/-! ### jitney/match.RidesOf -/
def f16 (g21 : (List PT3) → (Int)) (g40 : (List PT3) → Option ((List ByteArray) × Unit)) (k : Nat) (x0 : List PT3) : Option ((List ByteArray) × Int × Unit) :=
 bif ((g21 x0) != (0 : Int)) then
 some ([], (g21 x0), ())
 else
 Option.bind (g40 x0) fun v1 =>
 some (v1.1, (0 : Int), ())
def H16 : Hints := hint0
abbrev A16 : Tys := (.cons (.slice PY1) .nil)
def ts16 : List (Nat × TD) := [(23, (.data (.int .i64))), (36, (.data (.slice PY1))), (38, (.data (.slice .str)))]
noncomputable def fs16 (g21 : (List PT3) → (Int)) (g40 : (List PT3) → Option ((List ByteArray) × Unit)) : List (Nat × FSem) := [(21, .fn (.cons (.slice PY1) .nil) (.cons (.int .i64) .nil) fun x => ((g21 x.1), ())), (40, .pfn (.cons (.slice PY1) .nil) (.cons (.slice .str) .nil) fun x => (g40 x.1))]
noncomputable def body16 : Code := match Try.f16.body with | some c => c | none => .skip
theorem ty16 : chkTypes Try.prog ts16 = true := by kernel_rfl
theorem ev16 (g21 : (List PT3) → (Int)) (g40 : (List PT3) → Option ((List ByteArray) × Unit)) (k : Nat) (x : ((.cons (.slice PY1) .nil) : Tys).den) : evFun (mkEnv ts16 (fs16 g21 g40)) H16 k body16 12 [.tmp 2, .tmp 3] (explodes (.cons (.slice PY1) .nil) x) [] (dec (.cons (.slice .str) (.cons (.int .i64) .nil))) = f16 g21 g40 k x.1 := by kernel_rfl
/-! ### jitney/match.find -/
noncomputable def mkEnvX47_68 (ts : List (Nat × TD)) (fs : List (Nat × FSem)) : Env := mkEnvF ts fs [(24, 46), (40, 46)]
theorem mkEnvX47_68_ok {P : Program} {ts : List (Nat × TD)} {fs : List (Nat × FSem)} (h1 : chkTypes P ts = true) (h2 : ∀ p ∈ fs, SoundF P p.1 p.2) : EnvOK P (mkEnvX47_68 ts fs) := mkEnvF_ok h1 h2
def f47 (g46 : PT3 → PT3 → (Int)) (k : Nat) (x0 : List PT3) (x1 : PT2) : Option (Int × Unit) :=
 Option.bind (α := (Int × Unit) ⊕ (PT1 × (Unit))) (
 Option.bind (α := ((Int × Unit) ⊕ (PT1 × (Unit))) ⊕ ((Int × Unit) × (Unit))) (iter (σ := PT0 × (Unit)) (τ := ((Int × Unit) ⊕ (PT1 × (Unit))) ⊕ ((Int × Unit) × (Unit))) k (fun y1 =>
 bif (decide (y1.1.1 < y1.1.2.1)) then
 bif (inR (IntKind.i64.wrap (Int.fdiv (IntKind.u64.wrap (IntKind.i64.wrap (y1.1.1 + y1.1.2.1))) (2 : Int))) ((List.length x0 : Nat) : Int)) then
 bif (decide ((g46 (rd (α := PT3) zPT3 x0 (IntKind.i64.wrap (Int.fdiv (IntKind.u64.wrap (IntKind.i64.wrap (y1.1.1 + y1.1.2.1))) (2 : Int)))) (x1.1, x1.2.1, (0 : Int), ())) < (0 : Int))) then
 some (.inl (((IntKind.i64.wrap ((IntKind.i64.wrap (Int.fdiv (IntKind.u64.wrap (IntKind.i64.wrap (y1.1.1 + y1.1.2.1))) (2 : Int))) + (1 : Int))), y1.1.2.1, ()), ()))
 else
 some (.inl ((y1.1.1, (IntKind.i64.wrap (Int.fdiv (IntKind.u64.wrap (IntKind.i64.wrap (y1.1.1 + y1.1.2.1))) (2 : Int))), ()), ()))
 else
 none
 else
 some (.inr (.inr ((y1.1.1, ()), ())))) (((0 : Int), ((List.length x0 : Nat) : Int), ()), ())) fun r => match r with
 | .inl z => some z
 | .inr z2 =>
 bif (decide (z2.1.1 < ((List.length x0 : Nat) : Int))) then
 bif (inR z2.1.1 ((List.length x0 : Nat) : Int)) then
 some (.inr ((z2.1.1, ((g46 (rd (α := PT3) zPT3 x0 z2.1.1) (x1.1, x1.2.1, (0 : Int), ())) == (0 : Int)), ()), ()))
 else
 none
 else
 some (.inr ((z2.1.1, false, ()), ()))) fun r => match r with
 | .inl z => some z
 | .inr y3 =>
 bif (!y3.1.2.1) then
 some ((-1 : Int), ())
 else
 some (y3.1.1, ())
def H47 : Hints where
  loop := fun n => match n with
    | _ => none
  region := fun n => match n with
    | 1 => some { slots := [(5, (.int .i64)), (6, .bool)], objs := [], gone := [] }
    | _ => none
  cond := fun n => match n with
    | _ => none
  block := fun n => match n with
    | _ => none
def Hi47_68 : Hints where
  loop := fun n => match n with
    | 0 => some ({ slots := [(9, (.int .i64)), (10, (.int .i64))], objs := [], gone := [] }, 0, { slots := [(9, (.int .i64))], objs := [], gone := [] })
    | _ => none
  region := fun n => match n with
    | _ => none
  cond := fun n => match n with
    | _ => none
  block := fun n => match n with
    | _ => none
def tsi47_68 : List (Nat × TD) := [(3, (.data (.int .i64))), (36, (.data (.slice PY1))), (43, (.data PY1)), (77, (.data (.int .u64)))]
noncomputable def bodyi47_68 : Code := match Try.f68.body with | some c => c | none => .skip
noncomputable def fsi47_68 (g46 : PT3 → PT3 → (Int)) (k : Nat) : List (Nat × FSem) := [(46, .fn (.cons PY1 (.cons PY1 .nil)) (.cons (.int .i64) .nil) fun x => ((g46 x.1 x.2.1), ()))]
theorem tyi47_68 : chkTypes Try.prog tsi47_68 = true := by kernel_rfl
abbrev A47 : Tys := (.cons (.slice PY1) (.cons PY0 .nil))
def ts47 : List (Nat × TD) := [(3, (.data (.int .i64))), (9, (.data .str)), (36, (.data (.slice PY1))), (43, (.data PY1)), (48, (.data PY0))]
noncomputable def fs47 (g46 : PT3 → PT3 → (Int)) (k : Nat) : List (Nat × FSem) := [(68, .ev (mkEnvX47_68 tsi47_68 (fsi47_68 g46 k)) Hi47_68 k bodyi47_68 49 [.tmp 6, .tmp 7])]
noncomputable def body47 : Code := match Try.f47.body with | some c => c | none => .skip
theorem ty47 : chkTypes Try.prog ts47 = true := by kernel_rfl
theorem ev47 (g46 : PT3 → PT3 → (Int)) (k : Nat) (x : ((.cons (.slice PY1) (.cons PY0 .nil)) : Tys).den) : evFun (mkEnv ts47 (fs47 g46 k)) H47 k body47 20 [.tmp 4] (explodes (.cons (.slice PY1) (.cons PY0 .nil)) x) [] (dec (.cons (.int .i64) .nil)) = f47 g46 k x.1 x.2.1 := by kernel_rfl
/-! ### jitney/match.CheckDeals -/
def f22 (g21 : (List PT3) → (Int)) (g47 : (List PT3) → PT2 → Option (Int × Unit)) (k : Nat) (x0 : List PT3) (x1 : List PT2) : Option (Int × Unit) :=
 bif ((g21 x0) != (0 : Int)) then
 some ((g21 x0), ())
 else
 bif (decide (((List.length x1 : Nat) : Int) > (200 : Int))) then
 some ((2 : Int), ())
 else
 Option.bind (α := (Int × Unit) ⊕ ((Unit) × ((MapC .str .bool) × Unit))) (iter (σ := (Int × Unit) × ((MapC .str .bool) × Unit)) (τ := (Int × Unit) ⊕ ((Unit) × ((MapC .str .bool) × Unit))) k (fun y1 =>
 bif (decide (y1.1.1 < ((List.length x1 : Nat) : Int))) then
 bif (inR y1.1.1 ((List.length x1 : Nat) : Int)) then
 Option.bind (g47 x0 (rd (α := PT2) zPT2 x1 y1.1.1)) fun v2 =>
 bif (decide (v2.1 < (0 : Int))) then
 some (.inr (.inl ((8 : Int), ())))
 else
 Option.bind (α := (((Int × Unit) × ((MapC .str .bool) × Unit)) ⊕ ((Int × Unit) ⊕ ((Unit) × ((MapC .str .bool) × Unit)))) ⊕ ((Bool × Unit) × (Unit))) (
 bif (decide (y1.1.1 > (0 : Int))) then
 bif (inR (IntKind.i64.wrap (y1.1.1 - (1 : Int))) ((List.length x1 : Nat) : Int)) then
 some (.inr ((((sLt ((rd (α := PT2) zPT2 x1 y1.1.1).1) ((rd (α := PT2) zPT2 x1 (IntKind.i64.wrap (y1.1.1 - (1 : Int)))).1)) || (sEq ((rd (α := PT2) zPT2 x1 y1.1.1).1) ((rd (α := PT2) zPT2 x1 (IntKind.i64.wrap (y1.1.1 - (1 : Int)))).1))), ()), ()))
 else
 none
 else
 some (.inr ((false, ()), ()))) fun r => match r with
 | .inl z => some z
 | .inr y3 =>
 bif y3.1.1 then
 some (.inr (.inl ((7 : Int), ())))
 else
 bif (mget (keq .str) false ((rd (α := PT2) zPT2 x1 y1.1.1).2.1) y1.2.1.1) then
 some (.inr (.inl ((6 : Int), ())))
 else
 some (.inl (((IntKind.i64.wrap (y1.1.1 + (1 : Int))), ()), ((mput (keq .str) ((rd (α := PT2) zPT2 x1 y1.1.1).2.1) true y1.2.1), ())))
 else
 none
 else
 some (.inr (.inr ((), (y1.2.1, ()))))) (((0 : Int), ()), ((([], 0) : MapC .str .bool), ()))) fun r => match r with
 | .inl z => some z
 | .inr z4 =>
 some ((0 : Int), ())
def H22 : Hints where
  loop := fun n => match n with
    | 0 => some ({ slots := [(20, (.int .i64))], objs := [(0, (.map .str .bool))], gone := [] }, 0, { slots := [], objs := [(0, (.map .str .bool))], gone := [] })
    | _ => none
  region := fun n => match n with
    | 12 => some { slots := [(30, .bool)], objs := [], gone := [] }
    | _ => none
  cond := fun n => match n with
    | _ => none
  block := fun n => match n with
    | _ => none
abbrev A22 : Tys := (.cons (.slice PY1) (.cons (.slice PY0) .nil))
def ts22 : List (Nat × TD) := [(3, (.data (.int .i64))), (9, (.data .str)), (23, (.data (.int .i64))), (36, (.data (.slice PY1))), (37, (.data (.slice PY0))), (48, (.data PY0)), (72, (.map .str .bool))]
noncomputable def fs22 (g21 : (List PT3) → (Int)) (g47 : (List PT3) → PT2 → Option (Int × Unit)) : List (Nat × FSem) := [(21, .fn (.cons (.slice PY1) .nil) (.cons (.int .i64) .nil) fun x => ((g21 x.1), ())), (47, .pfn (.cons (.slice PY1) (.cons PY0 .nil)) (.cons (.int .i64) .nil) fun x => (g47 x.1 x.2.1))]
noncomputable def body22 : Code := match Try.f22.body with | some c => c | none => .skip
theorem ty22 : chkTypes Try.prog ts22 = true := by kernel_rfl
theorem ev22 (g21 : (List PT3) → (Int)) (g47 : (List PT3) → PT2 → Option (Int × Unit)) (k : Nat) (x : ((.cons (.slice PY1) (.cons (.slice PY0) .nil)) : Tys).den) : evFun (mkEnv ts22 (fs22 g21 g47)) H22 k body22 53 [.tmp 4] (explodes (.cons (.slice PY1) (.cons (.slice PY0) .nil)) x) [] (dec (.cons (.int .i64) .nil)) = f22 g21 g47 k x.1 x.2.1 := by kernel_rfl
/-! ### jitney/match.cost -/
def f41 (g47 : (List PT3) → PT2 → Option (Int × Unit)) (k : Nat) (x0 : List PT3) (x1 : List PT2) : Option (Int × Unit) :=
 Option.bind (α := (Int × Unit) ⊕ ((Int × Unit) × (Unit))) (iter (σ := PT0 × (Unit)) (τ := (Int × Unit) ⊕ ((Int × Unit) × (Unit))) k (fun y1 =>
 bif (decide (y1.1.2.1 < ((List.length x1 : Nat) : Int))) then
 bif (inR y1.1.2.1 ((List.length x1 : Nat) : Int)) then
 Option.bind (g47 x0 (rd (α := PT2) zPT2 x1 y1.1.2.1)) fun v2 =>
 bif (inR v2.1 ((List.length x0 : Nat) : Int)) then
 some (.inl (((IntKind.i64.wrap (y1.1.1 + (rd (α := PT3) zPT3 x0 v2.1).2.2.1)), (IntKind.i64.wrap (y1.1.2.1 + (1 : Int))), ()), ()))
 else
 none
 else
 none
 else
 some (.inr (.inr ((y1.1.1, ()), ())))) (zPT0, ())) fun r => match r with
 | .inl z => some z
 | .inr z3 =>
 some (z3.1.1, ())
def H41 : Hints where
  loop := fun n => match n with
    | 0 => some ({ slots := [(5, (.int .i64)), (10, (.int .i64))], objs := [], gone := [] }, 0, { slots := [(5, (.int .i64))], objs := [], gone := [] })
    | _ => none
  region := fun n => match n with
    | _ => none
  cond := fun n => match n with
    | _ => none
  block := fun n => match n with
    | _ => none
abbrev A41 : Tys := (.cons (.slice PY1) (.cons (.slice PY0) .nil))
def ts41 : List (Nat × TD) := [(3, (.data (.int .i64))), (36, (.data (.slice PY1))), (37, (.data (.slice PY0))), (43, (.data PY1)), (48, (.data PY0))]
noncomputable def fs41 (g47 : (List PT3) → PT2 → Option (Int × Unit)) : List (Nat × FSem) := [(47, .pfn (.cons (.slice PY1) (.cons PY0 .nil)) (.cons (.int .i64) .nil) fun x => (g47 x.1 x.2.1))]
noncomputable def body41 : Code := match Try.f41.body with | some c => c | none => .skip
theorem ty41 : chkTypes Try.prog ts41 = true := by kernel_rfl
theorem ev41 (g47 : (List PT3) → PT2 → Option (Int × Unit)) (k : Nat) (x : ((.cons (.slice PY1) (.cons (.slice PY0) .nil)) : Tys).den) : evFun (mkEnv ts41 (fs41 g47)) H41 k body41 25 [.tmp 4] (explodes (.cons (.slice PY1) (.cons (.slice PY0) .nil)) x) [] (dec (.cons (.int .i64) .nil)) = f41 g47 k x.1 x.2.1 := by kernel_rfl
/-! ### jitney/match.Cost -/
def f17 (g22 : (List PT3) → (List PT2) → Option (Int × Unit)) (g41 : (List PT3) → (List PT2) → Option (Int × Unit)) (k : Nat) (x0 : List PT3) (x1 : List PT2) : Option PT0 :=
 Option.bind (g22 x0 x1) fun v1 =>
 bif (v1.1 != (0 : Int)) then
 some ((0 : Int), v1.1, ())
 else
 Option.bind (g41 x0 x1) fun v2 =>
 some (v2.1, (0 : Int), ())
def H17 : Hints := hint0
abbrev A17 : Tys := (.cons (.slice PY1) (.cons (.slice PY0) .nil))
def ts17 : List (Nat × TD) := [(3, (.data (.int .i64))), (23, (.data (.int .i64))), (36, (.data (.slice PY1))), (37, (.data (.slice PY0)))]
noncomputable def fs17 (g22 : (List PT3) → (List PT2) → Option (Int × Unit)) (g41 : (List PT3) → (List PT2) → Option (Int × Unit)) : List (Nat × FSem) := [(22, .pfn (.cons (.slice PY1) (.cons (.slice PY0) .nil)) (.cons (.int .i64) .nil) fun x => (g22 x.1 x.2.1)), (41, .pfn (.cons (.slice PY1) (.cons (.slice PY0) .nil)) (.cons (.int .i64) .nil) fun x => (g41 x.1 x.2.1))]
noncomputable def body17 : Code := match Try.f17.body with | some c => c | none => .skip
theorem ty17 : chkTypes Try.prog ts17 = true := by kernel_rfl
theorem ev17 (g22 : (List PT3) → (List PT2) → Option (Int × Unit)) (g41 : (List PT3) → (List PT2) → Option (Int × Unit)) (k : Nat) (x : ((.cons (.slice PY1) (.cons (.slice PY0) .nil)) : Tys).den) : evFun (mkEnv ts17 (fs17 g22 g41)) H17 k body17 16 [.tmp 4, .tmp 5] (explodes (.cons (.slice PY1) (.cons (.slice PY0) .nil)) x) [] (dec (.cons (.int .i64) (.cons (.int .i64) .nil))) = f17 g22 g41 k x.1 x.2.1 := by kernel_rfl
/-! ### slices.Clone[[]jitney/api.Deal,jitney/api.Deal] -/
def f18  (k : Nat) (x0 : List PT2) : Option ((List PT2) × Unit) :=
 bif Nat.ble (List.length x0) 0 then
 none
 else
 bif decide (List.length ([] : List PT2) + List.length x0 ≤ 4294967296) then
 some ((([] : List PT2) ++ x0), ())
 else
 none
def H18 : Hints := hint0
def ts18 : List (Nat × TD) := [(37, (.data (.slice PY0)))]
noncomputable def fs18  : List (Nat × FSem) := []
noncomputable def body18 : Code := match Try.f18.body with | some c => c | none => .skip
theorem ty18 : chkTypes Try.prog ts18 = true := by kernel_rfl
theorem ev18  (k : Nat) (x : ((.cons (.slice PY0) .nil) : Tys).den) : evFun (mkEnv ts18 (fs18 )) H18 k body18 8 [.tmp 2] (explodes (.cons (.slice PY0) .nil) x) [] (dec (.cons (.slice PY0) .nil)) = f18  k x.1 := by kernel_rfl
def s18 (l : List PT2) : Option ((List PT2) × Unit) := if l.length ≤ 4294967296 then some (l, ()) else none
/-! ### jitney/jitref2.in -/
def f32  (k : Nat) (x0 : Int) (x1 : Int) (x2 : Int) : Option (Bool × Unit) :=
 bif (decide (x1 ≤ x0)) then
 some ((decide (x0 ≤ x2)), ())
 else
 some (false, ())
def H32 : Hints := hint0
abbrev A32 : Tys := (.cons (.int .i64) (.cons (.int .i64) (.cons (.int .i64) .nil)))
def ts32 : List (Nat × TD) := [(3, (.data (.int .i64))), (4, (.data .bool))]
noncomputable def fs32  : List (Nat × FSem) := []
noncomputable def body32 : Code := match Try.f32.body with | some c => c | none => .skip
theorem ty32 : chkTypes Try.prog ts32 = true := by kernel_rfl
theorem ev32  (k : Nat) (x : ((.cons (.int .i64) (.cons (.int .i64) (.cons (.int .i64) .nil))) : Tys).den) : evFun (mkEnv ts32 (fs32 )) H32 k body32 15 [.tmp 6] (explodes (.cons (.int .i64) (.cons (.int .i64) (.cons (.int .i64) .nil))) x) [] (dec (.cons .bool .nil)) = f32  k x.1 x.2.1 x.2.2.1 := by kernel_rfl
/-! ### strings.IndexByte -/
def f80 (g89 : ByteArray → Int → (Int)) (k : Nat) (x0 : ByteArray) (x1 : Int) : Option (Int × Unit) :=
 some ((g89 x0 x1), ())
def H80 : Hints := hint0
abbrev A80 : Tys := (.cons .str (.cons (.int .u8) .nil))
def ts80 : List (Nat × TD) := [(3, (.data (.int .i64))), (5, (.data (.int .u8))), (9, (.data .str))]
noncomputable def fs80 (g89 : ByteArray → Int → (Int)) : List (Nat × FSem) := [(89, .fn (.cons .str (.cons (.int .u8) .nil)) (.cons (.int .i64) .nil) fun x => ((g89 x.1 x.2.1), ()))]
noncomputable def body80 : Code := match Try.f80.body with | some c => c | none => .skip
theorem ty80 : chkTypes Try.prog ts80 = true := by kernel_rfl
theorem ev80 (g89 : ByteArray → Int → (Int)) (k : Nat) (x : ((.cons .str (.cons (.int .u8) .nil)) : Tys).den) : evFun (mkEnv ts80 (fs80 g89)) H80 k body80 8 [.tmp 4] (explodes (.cons .str (.cons (.int .u8) .nil)) x) [] (dec (.cons (.int .i64) .nil)) = f80 g89 k x.1 x.2.1 := by kernel_rfl
/-! ### jitney/jitref2.only -/
def f55 (g80 : ByteArray → Int → (Int)) (k : Nat) (x0 : ByteArray) (x1 : ByteArray) : Option (Bool × Unit) :=
 Option.bind (α := (Bool × Unit) ⊕ ((Unit) × (Unit))) (iter (σ := (Int × Unit) × (Unit)) (τ := (Bool × Unit) ⊕ ((Unit) × (Unit))) k (fun y1 =>
 bif (decide (y1.1.1 < ((ByteArray.size x0 : Nat) : Int))) then
 bif (inR y1.1.1 ((ByteArray.size x0 : Nat) : Int)) then
 bif (decide ((g80 x1 (bt x0 y1.1.1)) < (0 : Int))) then
 some (.inr (.inl (false, ())))
 else
 some (.inl (((IntKind.i64.wrap (y1.1.1 + (1 : Int))), ()), ()))
 else
 none
 else
 some (.inr (.inr ((), ())))) (((0 : Int), ()), ())) fun r => match r with
 | .inl z => some z
 | .inr z2 =>
 some (true, ())
def H55 : Hints where
  loop := fun n => match n with
    | 0 => some ({ slots := [(8, (.int .i64))], objs := [], gone := [] }, 0, { slots := [], objs := [], gone := [] })
    | _ => none
  region := fun n => match n with
    | _ => none
  cond := fun n => match n with
    | _ => none
  block := fun n => match n with
    | _ => none
abbrev A55 : Tys := (.cons .str (.cons .str .nil))
def ts55 : List (Nat × TD) := [(3, (.data (.int .i64))), (4, (.data .bool)), (9, (.data .str))]
noncomputable def fs55 (g80 : ByteArray → Int → (Int)) : List (Nat × FSem) := [(80, .fn (.cons .str (.cons (.int .u8) .nil)) (.cons (.int .i64) .nil) fun x => ((g80 x.1 x.2.1), ()))]
noncomputable def body55 : Code := match Try.f55.body with | some c => c | none => .skip
theorem ty55 : chkTypes Try.prog ts55 = true := by kernel_rfl
theorem ev55 (g80 : ByteArray → Int → (Int)) (k : Nat) (x : ((.cons .str (.cons .str .nil)) : Tys).den) : evFun (mkEnv ts55 (fs55 g80)) H55 k body55 18 [.tmp 4] (explodes (.cons .str (.cons .str .nil)) x) [] (dec (.cons .bool .nil)) = f55 g80 k x.1 x.2.1 := by kernel_rfl
/-! ### jitney/jitref2.Key -/
def f31 (g32 : Int → Int → Int → (Bool)) (g55 : ByteArray → ByteArray → (Bool)) (k : Nat) (x0 : ByteArray) : Option (Bool × Unit) :=
 bif (g32 ((ByteArray.size x0 : Nat) : Int) (1 : Int) (40 : Int)) then
 bif (decide (0 ≤ (0 : Int)) && (decide ((0 : Int) ≤ (1 : Int)) && decide ((1 : Int) ≤ ((ByteArray.size x0 : Nat) : Int)))) then
 bif (g55 (ByteArray.extract x0 (Int.toNat (0 : Int)) (Int.toNat (1 : Int))) (ByteArray.mk #[97, 98, 99, 100, 101, 102, 103, 104, 105, 106, 107, 108, 109, 110, 111, 112, 113, 114, 115, 116, 117, 118, 119, 120, 121, 122])) then
 some ((g55 x0 (ByteArray.mk #[97, 98, 99, 100, 101, 102, 103, 104, 105, 106, 107, 108, 109, 110, 111, 112, 113, 114, 115, 116, 117, 118, 119, 120, 121, 122, 48, 49, 50, 51, 52, 53, 54, 55, 56, 57, 45, 95])), ())
 else
 some (false, ())
 else
 none
 else
 some (false, ())
def H31 : Hints := hint0
abbrev A31 : Tys := (.cons .str .nil)
def ts31 : List (Nat × TD) := [(4, (.data .bool)), (9, (.data .str))]
noncomputable def fs31 (g32 : Int → Int → Int → (Bool)) (g55 : ByteArray → ByteArray → (Bool)) : List (Nat × FSem) := [(32, .fn (.cons (.int .i64) (.cons (.int .i64) (.cons (.int .i64) .nil))) (.cons .bool .nil) fun x => ((g32 x.1 x.2.1 x.2.2.1), ())), (55, .fn (.cons .str (.cons .str .nil)) (.cons .bool .nil) fun x => ((g55 x.1 x.2.1), ()))]
noncomputable def body31 : Code := match Try.f31.body with | some c => c | none => .skip
theorem ty31 : chkTypes Try.prog ts31 = true := by kernel_rfl
theorem ev31 (g32 : Int → Int → Int → (Bool)) (g55 : ByteArray → ByteArray → (Bool)) (k : Nat) (x : ((.cons .str .nil) : Tys).den) : evFun (mkEnv ts31 (fs31 g32 g55)) H31 k body31 15 [.tmp 2] (explodes (.cons .str .nil) x) [] (dec (.cons .bool .nil)) = f31 g32 g55 k x.1 := by kernel_rfl
/-! ### cmp.isNaN[string] -/
def f79  (k : Nat) (x0 : ByteArray) : Option (Bool × Unit) :=
 some ((!(sEq x0 x0)), ())
def H79 : Hints := hint0
abbrev A79 : Tys := (.cons .str .nil)
def ts79 : List (Nat × TD) := [(4, (.data .bool)), (9, (.data .str))]
noncomputable def fs79  : List (Nat × FSem) := []
noncomputable def body79 : Code := match Try.f79.body with | some c => c | none => .skip
theorem ty79 : chkTypes Try.prog ts79 = true := by kernel_rfl
theorem ev79  (k : Nat) (x : ((.cons .str .nil) : Tys).den) : evFun (mkEnv ts79 (fs79 )) H79 k body79 6 [.tmp 2] (explodes (.cons .str .nil) x) [] (dec (.cons .bool .nil)) = f79  k x.1 := by kernel_rfl
/-! ### cmp.Compare[string] -/
def f56 (g79 : ByteArray → (Bool)) (k : Nat) (x0 : ByteArray) (x1 : ByteArray) : Option (Int × Unit) :=
 bif (g79 x0) then
 bif (g79 x1) then
 some ((0 : Int), ())
 else
 some ((-1 : Int), ())
 else
 bif (g79 x1) then
 some ((1 : Int), ())
 else
 bif (sLt x0 x1) then
 some ((-1 : Int), ())
 else
 bif (!((sLt x0 x1) || (sEq x0 x1))) then
 some ((1 : Int), ())
 else
 some ((0 : Int), ())
def H56 : Hints := hint0
abbrev A56 : Tys := (.cons .str (.cons .str .nil))
def ts56 : List (Nat × TD) := [(3, (.data (.int .i64))), (9, (.data .str))]
noncomputable def fs56 (g79 : ByteArray → (Bool)) : List (Nat × FSem) := [(79, .fn (.cons .str .nil) (.cons .bool .nil) fun x => ((g79 x.1), ()))]
noncomputable def body56 : Code := match Try.f56.body with | some c => c | none => .skip
theorem ty56 : chkTypes Try.prog ts56 = true := by kernel_rfl
theorem ev56 (g79 : ByteArray → (Bool)) (k : Nat) (x : ((.cons .str (.cons .str .nil)) : Tys).den) : evFun (mkEnv ts56 (fs56 g79)) H56 k body56 20 [.tmp 4] (explodes (.cons .str (.cons .str .nil)) x) [] (dec (.cons (.int .i64) .nil)) = f56 g79 k x.1 x.2.1 := by kernel_rfl
/-! ### slices.Compare[[]string,string] -/
def f33 (g56 : ByteArray → ByteArray → (Int)) (k : Nat) (x0 : List ByteArray) (x1 : List ByteArray) : Option (Int × Unit) :=
 Option.bind (α := (Int × Unit) ⊕ ((Unit) × (Unit))) (iter (σ := (Int × Unit) × (Unit)) (τ := (Int × Unit) ⊕ ((Unit) × (Unit))) k (fun y1 =>
 bif (decide (y1.1.1 < ((List.length x0 : Nat) : Int))) then
 bif (inR y1.1.1 ((List.length x0 : Nat) : Int)) then
 bif (decide (y1.1.1 ≥ ((List.length x1 : Nat) : Int))) then
 some (.inr (.inl ((1 : Int), ())))
 else
 bif (inR y1.1.1 ((List.length x1 : Nat) : Int)) then
 bif ((g56 (rd (α := ByteArray) ByteArray.empty x0 y1.1.1) (rd (α := ByteArray) ByteArray.empty x1 y1.1.1)) != (0 : Int)) then
 some (.inr (.inl ((g56 (rd (α := ByteArray) ByteArray.empty x0 y1.1.1) (rd (α := ByteArray) ByteArray.empty x1 y1.1.1)), ())))
 else
 some (.inl (((IntKind.i64.wrap (y1.1.1 + (1 : Int))), ()), ()))
 else
 none
 else
 none
 else
 some (.inr (.inr ((), ())))) (((0 : Int), ()), ())) fun r => match r with
 | .inl z => some z
 | .inr z2 =>
 bif (decide (((List.length x0 : Nat) : Int) < ((List.length x1 : Nat) : Int))) then
 some ((-1 : Int), ())
 else
 some ((0 : Int), ())
def H33 : Hints where
  loop := fun n => match n with
    | 0 => some ({ slots := [(11, (.int .i64))], objs := [], gone := [] }, 0, { slots := [], objs := [], gone := [] })
    | _ => none
  region := fun n => match n with
    | _ => none
  cond := fun n => match n with
    | _ => none
  block := fun n => match n with
    | _ => none
abbrev A33 : Tys := (.cons (.slice .str) (.cons (.slice .str) .nil))
def ts33 : List (Nat × TD) := [(3, (.data (.int .i64))), (9, (.data .str)), (38, (.data (.slice .str)))]
noncomputable def fs33 (g56 : ByteArray → ByteArray → (Int)) : List (Nat × FSem) := [(56, .fn (.cons .str (.cons .str .nil)) (.cons (.int .i64) .nil) fun x => ((g56 x.1 x.2.1), ()))]
noncomputable def body33 : Code := match Try.f33.body with | some c => c | none => .skip
theorem ty33 : chkTypes Try.prog ts33 = true := by kernel_rfl
theorem ev33 (g56 : ByteArray → ByteArray → (Int)) (k : Nat) (x : ((.cons (.slice .str) (.cons (.slice .str) .nil)) : Tys).den) : evFun (mkEnv ts33 (fs33 g56)) H33 k body33 36 [.tmp 4] (explodes (.cons (.slice .str) (.cons (.slice .str) .nil)) x) [] (dec (.cons (.int .i64) .nil)) = f33 g56 k x.1 x.2.1 := by kernel_rfl
/-! ### jitney/jitref2.OfferOrder -/
def f42 (g33 : (List ByteArray) → (List ByteArray) → (Int)) (k : Nat) (x0 : PT3) (x1 : PT3) : Option (Int × Unit) :=
 some ((g33 ([x0.1, x0.2.1]) ([x1.1, x1.2.1])), ())
def H42 : Hints := hint0
abbrev A42 : Tys := (.cons PY1 (.cons PY1 .nil))
def ts42 : List (Nat × TD) := [(3, (.data (.int .i64))), (9, (.data .str)), (38, (.data (.slice .str))), (43, (.data PY1))]
noncomputable def fs42 (g33 : (List ByteArray) → (List ByteArray) → (Int)) : List (Nat × FSem) := [(33, .fn (.cons (.slice .str) (.cons (.slice .str) .nil)) (.cons (.int .i64) .nil) fun x => ((g33 x.1 x.2.1), ()))]
noncomputable def body42 : Code := match Try.f42.body with | some c => c | none => .skip
theorem ty42 : chkTypes Try.prog ts42 = true := by kernel_rfl
theorem ev42 (g33 : (List ByteArray) → (List ByteArray) → (Int)) (k : Nat) (x : ((.cons PY1 (.cons PY1 .nil)) : Tys).den) : evFun (mkEnv ts42 (fs42 g33)) H42 k body42 16 [.tmp 4] (explodes (.cons PY1 (.cons PY1 .nil)) x) [] (dec (.cons (.int .i64) .nil)) = f42 g33 k x.1 x.2.1 := by kernel_rfl
/-! ### jitney/jitref2.OffersFault -/
def f19 (g31 : ByteArray → (Bool)) (g32 : Int → Int → Int → (Bool)) (g42 : PT3 → PT3 → (Int)) (k : Nat) (x0 : List PT3) : Option (Int × Unit) :=
 bif (decide (((List.length x0 : Nat) : Int) > (2000 : Int))) then
 some ((2 : Int), ())
 else
 Option.bind (α := (Int × Unit) ⊕ ((Unit) × (Unit))) (iter (σ := (Int × Unit) × (Unit)) (τ := (Int × Unit) ⊕ ((Unit) × (Unit))) k (fun y1 =>
 bif (decide (y1.1.1 < ((List.length x0 : Nat) : Int))) then
 bif (inR y1.1.1 ((List.length x0 : Nat) : Int)) then
 bif (!(g31 ((rd (α := PT3) zPT3 x0 y1.1.1).1))) then
 some (.inr (.inl ((5 : Int), ())))
 else
 bif (!(g31 ((rd (α := PT3) zPT3 x0 y1.1.1).2.1))) then
 some (.inr (.inl ((5 : Int), ())))
 else
 bif (!(g32 ((rd (α := PT3) zPT3 x0 y1.1.1).2.2.1) (0 : Int) (1000000000 : Int))) then
 some (.inr (.inl ((1 : Int), ())))
 else
 bif (decide (y1.1.1 > (0 : Int))) then
 bif (inR (IntKind.i64.wrap (y1.1.1 - (1 : Int))) ((List.length x0 : Nat) : Int)) then
 bif (decide ((g42 (rd (α := PT3) zPT3 x0 (IntKind.i64.wrap (y1.1.1 - (1 : Int)))) (rd (α := PT3) zPT3 x0 y1.1.1)) ≥ (0 : Int))) then
 some (.inr (.inl ((7 : Int), ())))
 else
 some (.inl (((IntKind.i64.wrap (y1.1.1 + (1 : Int))), ()), ()))
 else
 none
 else
 some (.inl (((IntKind.i64.wrap (y1.1.1 + (1 : Int))), ()), ()))
 else
 none
 else
 some (.inr (.inr ((), ())))) (((0 : Int), ()), ())) fun r => match r with
 | .inl z => some z
 | .inr z2 =>
 some ((0 : Int), ())
def H19 : Hints where
  loop := fun n => match n with
    | 0 => some ({ slots := [(10, (.int .i64))], objs := [], gone := [] }, 0, { slots := [], objs := [], gone := [] })
    | _ => none
  region := fun n => match n with
    | _ => none
  cond := fun n => match n with
    | _ => none
  block := fun n => match n with
    | _ => none
abbrev A19 : Tys := (.cons (.slice PY1) .nil)
def ts19 : List (Nat × TD) := [(3, (.data (.int .i64))), (9, (.data .str)), (23, (.data (.int .i64))), (36, (.data (.slice PY1))), (43, (.data PY1))]
noncomputable def fs19 (g31 : ByteArray → (Bool)) (g32 : Int → Int → Int → (Bool)) (g42 : PT3 → PT3 → (Int)) : List (Nat × FSem) := [(31, .fn (.cons .str .nil) (.cons .bool .nil) fun x => ((g31 x.1), ())), (32, .fn (.cons (.int .i64) (.cons (.int .i64) (.cons (.int .i64) .nil))) (.cons .bool .nil) fun x => ((g32 x.1 x.2.1 x.2.2.1), ())), (42, .fn (.cons PY1 (.cons PY1 .nil)) (.cons (.int .i64) .nil) fun x => ((g42 x.1 x.2.1), ()))]
noncomputable def body19 : Code := match Try.f19.body with | some c => c | none => .skip
theorem ty19 : chkTypes Try.prog ts19 = true := by kernel_rfl
theorem ev19 (g31 : ByteArray → (Bool)) (g32 : Int → Int → Int → (Bool)) (g42 : PT3 → PT3 → (Int)) (k : Nat) (x : ((.cons (.slice PY1) .nil) : Tys).den) : evFun (mkEnv ts19 (fs19 g31 g32 g42)) H19 k body19 45 [.tmp 2] (explodes (.cons (.slice PY1) .nil) x) [] (dec (.cons (.int .i64) .nil)) = f19 g31 g32 g42 k x.1 := by kernel_rfl
/-! ### jitney/jitref2.offerOf -/
def f43  (k : Nat) (x0 : List PT3) (x1 : PT2) : Option (Int × Unit) :=
 Option.bind (α := (Int × Unit) ⊕ ((Unit) × PT4)) (iter (σ := (Int × Unit) × PT4) (τ := (Int × Unit) ⊕ ((Unit) × PT4)) k (fun y1 =>
 bif (decide (y1.1.1 < ((List.length x0 : Nat) : Int))) then
 bif (inR y1.1.1 ((List.length x0 : Nat) : Int)) then
 bif (sEq ((rd (α := PT3) zPT3 x0 y1.1.1).1) y1.2.1.1) then
 bif (sEq ((rd (α := PT3) zPT3 x0 y1.1.1).2.1) y1.2.1.2.1) then
 some (.inr (.inl (y1.1.1, ())))
 else
 some (.inl (((IntKind.i64.wrap (y1.1.1 + (1 : Int))), ()), ((y1.2.1.1, y1.2.1.2.1, ()), ())))
 else
 some (.inl (((IntKind.i64.wrap (y1.1.1 + (1 : Int))), ()), ((y1.2.1.1, y1.2.1.2.1, ()), ())))
 else
 none
 else
 some (.inr (.inr ((), ((y1.2.1.1, y1.2.1.2.1, ()), ()))))) (((0 : Int), ()), (x1, ()))) fun r => match r with
 | .inl z => some z
 | .inr z2 =>
 some ((-1 : Int), ())
def H43 : Hints := hint0
def Hi43_64 : Hints := hint0
def tsi43_64 : List (Nat × TD) := [(9, (.data .str)), (43, (.data PY1)), (48, (.data PY0))]
noncomputable def bodyi43_64 : Code := match Try.f64.body with | some c => c | none => .skip
noncomputable def fsi43_64  (k : Nat) : List (Nat × FSem) := []
theorem tyi43_64 : chkTypes Try.prog tsi43_64 = true := by kernel_rfl
def Hi43_63 : Hints where
  loop := fun n => match n with
    | 0 => some ({ slots := [(8, (.int .i64))], objs := [(0, (.box (.data PY0) (.agg (.cons .str (.cons .str .nil)))))], gone := [] }, 0, { slots := [], objs := [(0, (.box (.data PY0) (.agg (.cons .str (.cons .str .nil)))))], gone := [] })
    | _ => none
  region := fun n => match n with
    | _ => none
  cond := fun n => match n with
    | _ => none
  block := fun n => match n with
    | _ => none
def tsi43_63 : List (Nat × TD) := [(3, (.data (.int .i64))), (36, (.data (.slice PY1))), (43, (.data PY1))]
noncomputable def bodyi43_63 : Code := match Try.f63.body with | some c => c | none => .skip
noncomputable def fsi43_63  (k : Nat) : List (Nat × FSem) := [(64, .ev (mkEnv tsi43_64 (fsi43_64  k)) Hi43_64 k bodyi43_64 16 [.tmp 3])]
theorem tyi43_63 : chkTypes Try.prog tsi43_63 = true := by kernel_rfl
abbrev A43 : Tys := (.cons (.slice PY1) (.cons PY0 .nil))
def ts43 : List (Nat × TD) := [(3, (.data (.int .i64))), (36, (.data (.slice PY1))), (48, (.data PY0))]
noncomputable def fs43  (k : Nat) : List (Nat × FSem) := [(63, .ev (mkEnv tsi43_63 (fsi43_63  k)) Hi43_63 k bodyi43_63 19 [.tmp 4])]
noncomputable def body43 : Code := match Try.f43.body with | some c => c | none => .skip
theorem ty43 : chkTypes Try.prog ts43 = true := by kernel_rfl
theorem ev43  (k : Nat) (x : ((.cons (.slice PY1) (.cons PY0 .nil)) : Tys).den) : evFun (mkEnv ts43 (fs43  k)) H43 k body43 8 [.tmp 4] (explodes (.cons (.slice PY1) (.cons PY0 .nil)) x) [] (dec (.cons (.int .i64) .nil)) = f43  k x.1 x.2.1 := by kernel_rfl
/-! ### jitney/jitref2.DealsFault -/
def f20 (g43 : (List PT3) → PT2 → (Int)) (k : Nat) (x0 : List PT3) (x1 : List PT2) : Option (Int × Unit) :=
 bif (decide (((List.length x1 : Nat) : Int) > (200 : Int))) then
 some ((2 : Int), ())
 else
 Option.bind (α := (Int × Unit) ⊕ ((Unit) × (Unit))) (iter (σ := (Int × Unit) × (Unit)) (τ := (Int × Unit) ⊕ ((Unit) × (Unit))) k (fun y1 =>
 bif (decide (y1.1.1 < ((List.length x1 : Nat) : Int))) then
 bif (inR y1.1.1 ((List.length x1 : Nat) : Int)) then
 bif (decide ((g43 x0 (rd (α := PT2) zPT2 x1 y1.1.1)) < (0 : Int))) then
 some (.inr (.inl ((8 : Int), ())))
 else
 Option.bind (α := (((Int × Unit) × (Unit)) ⊕ ((Int × Unit) ⊕ ((Unit) × (Unit)))) ⊕ ((Bool × Unit) × (Unit))) (
 bif (decide (y1.1.1 > (0 : Int))) then
 bif (inR (IntKind.i64.wrap (y1.1.1 - (1 : Int))) ((List.length x1 : Nat) : Int)) then
 some (.inr ((((sLt ((rd (α := PT2) zPT2 x1 y1.1.1).1) ((rd (α := PT2) zPT2 x1 (IntKind.i64.wrap (y1.1.1 - (1 : Int)))).1)) || (sEq ((rd (α := PT2) zPT2 x1 y1.1.1).1) ((rd (α := PT2) zPT2 x1 (IntKind.i64.wrap (y1.1.1 - (1 : Int)))).1))), ()), ()))
 else
 none
 else
 some (.inr ((false, ()), ()))) fun r => match r with
 | .inl z => some z
 | .inr y2 =>
 bif y2.1.1 then
 some (.inr (.inl ((7 : Int), ())))
 else
 bif (decide (0 ≤ (0 : Int)) && (decide ((0 : Int) ≤ y1.1.1) && decide (y1.1.1 ≤ ((List.length x1 : Nat) : Int)))) then
 Option.bind (α := (((Int × Unit) × (Unit)) ⊕ ((Int × Unit) ⊕ ((Unit) × (Unit)))) ⊕ ((Unit) × PT4)) (iter (σ := (Int × Unit) × PT4) (τ := (((Int × Unit) × (Unit)) ⊕ ((Int × Unit) ⊕ ((Unit) × (Unit)))) ⊕ ((Unit) × PT4)) k (fun y3 =>
 bif (decide (y3.1.1 < ((List.length (List.drop (Int.toNat (0 : Int)) (List.take (Int.toNat y1.1.1) x1)) : Nat) : Int))) then
 bif (inR y3.1.1 ((List.length (List.drop (Int.toNat (0 : Int)) (List.take (Int.toNat y1.1.1) x1)) : Nat) : Int)) then
 bif (sEq ((rd (α := PT2) zPT2 (List.drop (Int.toNat (0 : Int)) (List.take (Int.toNat y1.1.1) x1)) y3.1.1).2.1) y3.2.1.2.1) then
 Option.map (fun z => .inr (.inl z)) (
 bif (decide (y3.1.1 ≥ (0 : Int))) then
 some (.inr (.inl ((6 : Int), ())))
 else
 some (.inl (((IntKind.i64.wrap (y1.1.1 + (1 : Int))), ()), ())))
 else
 some (.inl (((IntKind.i64.wrap (y3.1.1 + (1 : Int))), ()), ((y3.2.1.1, y3.2.1.2.1, ()), ())))
 else
 none
 else
 some (.inr (.inr ((), ((y3.2.1.1, y3.2.1.2.1, ()), ()))))) (((0 : Int), ()), ((rd (α := PT2) zPT2 x1 y1.1.1), ()))) fun r => match r with
 | .inl z => some z
 | .inr z4 =>
 some (.inl (((IntKind.i64.wrap (y1.1.1 + (1 : Int))), ()), ()))
 else
 none
 else
 none
 else
 some (.inr (.inr ((), ())))) (((0 : Int), ()), ())) fun r => match r with
 | .inl z => some z
 | .inr z5 =>
 some ((0 : Int), ())
def H20 : Hints where
  loop := fun n => match n with
    | 0 => some ({ slots := [(12, (.int .i64))], objs := [], gone := [] }, 0, { slots := [], objs := [], gone := [] })
    | _ => none
  region := fun n => match n with
    | 8 => some { slots := [(22, .bool)], objs := [], gone := [] }
    | _ => none
  cond := fun n => match n with
    | _ => none
  block := fun n => match n with
    | _ => none
def Hi20_45 : Hints := hint0
def tsi20_45 : List (Nat × TD) := [(9, (.data .str)), (48, (.data PY0))]
noncomputable def bodyi20_45 : Code := match Try.f45.body with | some c => c | none => .skip
noncomputable def fsi20_45 (g43 : (List PT3) → PT2 → (Int)) (k : Nat) : List (Nat × FSem) := []
theorem tyi20_45 : chkTypes Try.prog tsi20_45 = true := by kernel_rfl
def Hi20_65 : Hints where
  loop := fun n => match n with
    | 0 => some ({ slots := [(8, (.int .i64))], objs := [(0, (.box (.data PY0) (.agg (.cons .str (.cons .str .nil)))))], gone := [] }, 0, { slots := [], objs := [(0, (.box (.data PY0) (.agg (.cons .str (.cons .str .nil)))))], gone := [] })
    | _ => none
  region := fun n => match n with
    | _ => none
  cond := fun n => match n with
    | _ => none
  block := fun n => match n with
    | _ => none
def tsi20_65 : List (Nat × TD) := [(3, (.data (.int .i64))), (37, (.data (.slice PY0))), (48, (.data PY0))]
noncomputable def bodyi20_65 : Code := match Try.f65.body with | some c => c | none => .skip
noncomputable def fsi20_65 (g43 : (List PT3) → PT2 → (Int)) (k : Nat) : List (Nat × FSem) := [(45, .ev (mkEnv tsi20_45 (fsi20_45 g43 k)) Hi20_45 k bodyi20_45 9 [.tmp 3])]
theorem tyi20_65 : chkTypes Try.prog tsi20_65 = true := by kernel_rfl
def Hi20_44 : Hints := hint0
def tsi20_44 : List (Nat × TD) := [(3, (.data (.int .i64)))]
noncomputable def bodyi20_44 : Code := match Try.f44.body with | some c => c | none => .skip
noncomputable def fsi20_44 (g43 : (List PT3) → PT2 → (Int)) (k : Nat) : List (Nat × FSem) := [(65, .ev (mkEnv tsi20_65 (fsi20_65 g43 k)) Hi20_65 k bodyi20_65 19 [.tmp 4])]
theorem tyi20_44 : chkTypes Try.prog tsi20_44 = true := by kernel_rfl
abbrev A20 : Tys := (.cons (.slice PY1) (.cons (.slice PY0) .nil))
def ts20 : List (Nat × TD) := [(3, (.data (.int .i64))), (9, (.data .str)), (23, (.data (.int .i64))), (36, (.data (.slice PY1))), (37, (.data (.slice PY0))), (48, (.data PY0))]
noncomputable def fs20 (g43 : (List PT3) → PT2 → (Int)) (k : Nat) : List (Nat × FSem) := [(43, .fn (.cons (.slice PY1) (.cons PY0 .nil)) (.cons (.int .i64) .nil) fun x => ((g43 x.1 x.2.1), ())), (44, .ev (mkEnv tsi20_44 (fsi20_44 g43 k)) Hi20_44 k bodyi20_44 9 [.tmp 4])]
noncomputable def body20 : Code := match Try.f20.body with | some c => c | none => .skip
theorem ty20 : chkTypes Try.prog ts20 = true := by kernel_rfl
theorem ev20 (g43 : (List PT3) → PT2 → (Int)) (k : Nat) (x : ((.cons (.slice PY1) (.cons (.slice PY0) .nil)) : Tys).den) : evFun (mkEnv ts20 (fs20 g43 k)) H20 k body20 43 [.tmp 4] (explodes (.cons (.slice PY1) (.cons (.slice PY0) .nil)) x) [] (dec (.cons (.int .i64) .nil)) = f20 g43 k x.1 x.2.1 := by kernel_rfl
/-! ### jitney/jitref2.CarsOf$1 -/
def f49  (k : Nat) (x0 : PT3) : Option (ByteArray × Unit) :=
 some (x0.1, ())
def H49 : Hints := hint0
abbrev A49 : Tys := (.cons PY1 .nil)
def ts49 : List (Nat × TD) := [(9, (.data .str)), (43, (.data PY1))]
noncomputable def fs49  : List (Nat × FSem) := []
noncomputable def body49 : Code := match Try.f49.body with | some c => c | none => .skip
theorem ty49 : chkTypes Try.prog ts49 = true := by kernel_rfl
theorem ev49  (k : Nat) (x : ((.cons PY1 .nil) : Tys).den) : evFun (mkEnv ts49 (fs49 )) H49 k body49 5 [.tmp 2] (explodes (.cons PY1 .nil) x) [] (dec (.cons .str .nil)) = f49  k x.1 := by kernel_rfl
/-! ### jitney/jitref2.CarsOf -/
def f23 (g27 : List ByteArray → Option (List ByteArray)) (g28 : List ByteArray → Option (List ByteArray)) (g49 : PT3 → (ByteArray)) (k : Nat) (x0 : List PT3) : Option ((List ByteArray) × Unit) :=
 Option.bind (α := ((List ByteArray) × Unit) ⊕ (((List ByteArray) × Unit) × (Unit))) (iter (σ := ((List ByteArray) × Int × Unit) × (Unit)) (τ := ((List ByteArray) × Unit) ⊕ (((List ByteArray) × Unit) × (Unit))) k (fun y1 =>
 bif (decide (y1.1.2.1 < ((List.length x0 : Nat) : Int))) then
 bif (inR y1.1.2.1 ((List.length x0 : Nat) : Int)) then
 bif decide (List.length y1.1.1 + List.length ([(g49 (rd (α := PT3) zPT3 x0 y1.1.2.1))]) ≤ 4294967296) then
 some (.inl (((y1.1.1 ++ [(g49 (rd (α := PT3) zPT3 x0 y1.1.2.1))]), (IntKind.i64.wrap (y1.1.2.1 + (1 : Int))), ()), ()))
 else
 none
 else
 none
 else
 some (.inr (.inr ((y1.1.1, ()), ())))) (([], (0 : Int), ()), ())) fun r => match r with
 | .inl z => some z
 | .inr z2 =>
 Option.bind (g27 z2.1.1) fun v3 =>
 Option.bind (g28 v3) fun v4 =>
 some (v4, ())
def H23 : Hints := hint0
def Hi23_48 : Hints where
  loop := fun n => match n with
    | 0 => some ({ slots := [(5, (.row .str)), (10, (.int .i64))], objs := [], gone := [] }, 0, { slots := [(5, (.row .str))], objs := [], gone := [] })
    | _ => none
  region := fun n => match n with
    | _ => none
  cond := fun n => match n with
    | _ => none
  block := fun n => match n with
    | _ => none
def tsi23_48 : List (Nat × TD) := [(3, (.data (.int .i64))), (36, (.data (.slice PY1))), (38, (.data (.slice .str))), (43, (.data PY1))]
noncomputable def bodyi23_48 : Code := match Try.f48.body with | some c => c | none => .skip
noncomputable def fsi23_48 (g27 : List ByteArray → Option (List ByteArray)) (g28 : List ByteArray → Option (List ByteArray)) (g49 : PT3 → (ByteArray)) (k : Nat) : List (Nat × FSem) := [(27, .wfn .str .nil fun xs a => g27 xs ), (28, .cfn .str .nil fun xs a => g28 xs ), (49, .fn (.cons PY1 .nil) (.cons .str .nil) fun x => ((g49 x.1), ()))]
theorem tyi23_48 : chkTypes Try.prog tsi23_48 = true := by kernel_rfl
abbrev A23 : Tys := (.cons (.slice PY1) .nil)
def ts23 : List (Nat × TD) := [(36, (.data (.slice PY1))), (38, (.data (.slice .str)))]
noncomputable def fs23 (g27 : List ByteArray → Option (List ByteArray)) (g28 : List ByteArray → Option (List ByteArray)) (g49 : PT3 → (ByteArray)) (k : Nat) : List (Nat × FSem) := [(48, .ev (mkEnv tsi23_48 (fsi23_48 g27 g28 g49 k)) Hi23_48 k bodyi23_48 25 [.tmp 4])]
noncomputable def body23 : Code := match Try.f23.body with | some c => c | none => .skip
theorem ty23 : chkTypes Try.prog ts23 = true := by kernel_rfl
theorem ev23 (g27 : List ByteArray → Option (List ByteArray)) (g28 : List ByteArray → Option (List ByteArray)) (g49 : PT3 → (ByteArray)) (k : Nat) (x : ((.cons (.slice PY1) .nil) : Tys).den) : evFun (mkEnv ts23 (fs23 g27 g28 g49 k)) H23 k body23 5 [.tmp 2] (explodes (.cons (.slice PY1) .nil) x) [] (dec (.cons (.slice .str) .nil)) = f23 g27 g28 g49 k x.1 := by kernel_rfl
/-! ### jitney/jitref2.RidesOfOffers$1 -/
def f50  (k : Nat) (x0 : PT3) : Option (ByteArray × Unit) :=
 some (x0.2.1, ())
def H50 : Hints := hint0
abbrev A50 : Tys := (.cons PY1 .nil)
def ts50 : List (Nat × TD) := [(9, (.data .str)), (43, (.data PY1))]
noncomputable def fs50  : List (Nat × FSem) := []
noncomputable def body50 : Code := match Try.f50.body with | some c => c | none => .skip
theorem ty50 : chkTypes Try.prog ts50 = true := by kernel_rfl
theorem ev50  (k : Nat) (x : ((.cons PY1 .nil) : Tys).den) : evFun (mkEnv ts50 (fs50 )) H50 k body50 5 [.tmp 2] (explodes (.cons PY1 .nil) x) [] (dec (.cons .str .nil)) = f50  k x.1 := by kernel_rfl
/-! ### jitney/jitref2.RidesOfOffers -/
def f24 (g27 : List ByteArray → Option (List ByteArray)) (g28 : List ByteArray → Option (List ByteArray)) (g50 : PT3 → (ByteArray)) (k : Nat) (x0 : List PT3) : Option ((List ByteArray) × Unit) :=
 Option.bind (α := ((List ByteArray) × Unit) ⊕ (((List ByteArray) × Unit) × (Unit))) (iter (σ := ((List ByteArray) × Int × Unit) × (Unit)) (τ := ((List ByteArray) × Unit) ⊕ (((List ByteArray) × Unit) × (Unit))) k (fun y1 =>
 bif (decide (y1.1.2.1 < ((List.length x0 : Nat) : Int))) then
 bif (inR y1.1.2.1 ((List.length x0 : Nat) : Int)) then
 bif decide (List.length y1.1.1 + List.length ([(g50 (rd (α := PT3) zPT3 x0 y1.1.2.1))]) ≤ 4294967296) then
 some (.inl (((y1.1.1 ++ [(g50 (rd (α := PT3) zPT3 x0 y1.1.2.1))]), (IntKind.i64.wrap (y1.1.2.1 + (1 : Int))), ()), ()))
 else
 none
 else
 none
 else
 some (.inr (.inr ((y1.1.1, ()), ())))) (([], (0 : Int), ()), ())) fun r => match r with
 | .inl z => some z
 | .inr z2 =>
 Option.bind (g27 z2.1.1) fun v3 =>
 Option.bind (g28 v3) fun v4 =>
 some (v4, ())
def H24 : Hints := hint0
def Hi24_48 : Hints where
  loop := fun n => match n with
    | 0 => some ({ slots := [(5, (.row .str)), (10, (.int .i64))], objs := [], gone := [] }, 0, { slots := [(5, (.row .str))], objs := [], gone := [] })
    | _ => none
  region := fun n => match n with
    | _ => none
  cond := fun n => match n with
    | _ => none
  block := fun n => match n with
    | _ => none
def tsi24_48 : List (Nat × TD) := [(3, (.data (.int .i64))), (36, (.data (.slice PY1))), (38, (.data (.slice .str))), (43, (.data PY1))]
noncomputable def bodyi24_48 : Code := match Try.f48.body with | some c => c | none => .skip
noncomputable def fsi24_48 (g27 : List ByteArray → Option (List ByteArray)) (g28 : List ByteArray → Option (List ByteArray)) (g50 : PT3 → (ByteArray)) (k : Nat) : List (Nat × FSem) := [(27, .wfn .str .nil fun xs a => g27 xs ), (28, .cfn .str .nil fun xs a => g28 xs ), (50, .fn (.cons PY1 .nil) (.cons .str .nil) fun x => ((g50 x.1), ()))]
theorem tyi24_48 : chkTypes Try.prog tsi24_48 = true := by kernel_rfl
abbrev A24 : Tys := (.cons (.slice PY1) .nil)
def ts24 : List (Nat × TD) := [(36, (.data (.slice PY1))), (38, (.data (.slice .str)))]
noncomputable def fs24 (g27 : List ByteArray → Option (List ByteArray)) (g28 : List ByteArray → Option (List ByteArray)) (g50 : PT3 → (ByteArray)) (k : Nat) : List (Nat × FSem) := [(48, .ev (mkEnv tsi24_48 (fsi24_48 g27 g28 g50 k)) Hi24_48 k bodyi24_48 25 [.tmp 4])]
noncomputable def body24 : Code := match Try.f24.body with | some c => c | none => .skip
theorem ty24 : chkTypes Try.prog ts24 = true := by kernel_rfl
theorem ev24 (g27 : List ByteArray → Option (List ByteArray)) (g28 : List ByteArray → Option (List ByteArray)) (g50 : PT3 → (ByteArray)) (k : Nat) (x : ((.cons (.slice PY1) .nil) : Tys).den) : evFun (mkEnv ts24 (fs24 g27 g28 g50 k)) H24 k body24 5 [.tmp 2] (explodes (.cons (.slice PY1) .nil) x) [] (dec (.cons (.slice .str) .nil)) = f24 g27 g28 g50 k x.1 := by kernel_rfl
/-! ### jitney/jitref2.CostOf -/
def f25 (g43 : (List PT3) → PT2 → (Int)) (k : Nat) (x0 : List PT3) (x1 : List PT2) : Option (Int × Unit) :=
 Option.bind (α := (Int × Unit) ⊕ ((Int × Unit) × (Unit))) (iter (σ := PT0 × (Unit)) (τ := (Int × Unit) ⊕ ((Int × Unit) × (Unit))) k (fun y1 =>
 bif (decide (y1.1.2.1 < ((List.length x1 : Nat) : Int))) then
 bif (inR y1.1.2.1 ((List.length x1 : Nat) : Int)) then
 bif (inR (g43 x0 (rd (α := PT2) zPT2 x1 y1.1.2.1)) ((List.length x0 : Nat) : Int)) then
 some (.inl (((IntKind.i64.wrap (y1.1.1 + (rd (α := PT3) zPT3 x0 (g43 x0 (rd (α := PT2) zPT2 x1 y1.1.2.1))).2.2.1)), (IntKind.i64.wrap (y1.1.2.1 + (1 : Int))), ()), ()))
 else
 none
 else
 none
 else
 some (.inr (.inr ((y1.1.1, ()), ())))) (zPT0, ())) fun r => match r with
 | .inl z => some z
 | .inr z2 =>
 some (z2.1.1, ())
def H25 : Hints where
  loop := fun n => match n with
    | 0 => some ({ slots := [(5, (.int .i64)), (10, (.int .i64))], objs := [], gone := [] }, 0, { slots := [(5, (.int .i64))], objs := [], gone := [] })
    | _ => none
  region := fun n => match n with
    | _ => none
  cond := fun n => match n with
    | _ => none
  block := fun n => match n with
    | _ => none
abbrev A25 : Tys := (.cons (.slice PY1) (.cons (.slice PY0) .nil))
def ts25 : List (Nat × TD) := [(3, (.data (.int .i64))), (36, (.data (.slice PY1))), (37, (.data (.slice PY0))), (43, (.data PY1)), (48, (.data PY0))]
noncomputable def fs25 (g43 : (List PT3) → PT2 → (Int)) : List (Nat × FSem) := [(43, .fn (.cons (.slice PY1) (.cons PY0 .nil)) (.cons (.int .i64) .nil) fun x => ((g43 x.1 x.2.1), ()))]
noncomputable def body25 : Code := match Try.f25.body with | some c => c | none => .skip
theorem ty25 : chkTypes Try.prog ts25 = true := by kernel_rfl
theorem ev25 (g43 : (List PT3) → PT2 → (Int)) (k : Nat) (x : ((.cons (.slice PY1) (.cons (.slice PY0) .nil)) : Tys).den) : evFun (mkEnv ts25 (fs25 g43)) H25 k body25 25 [.tmp 4] (explodes (.cons (.slice PY1) (.cons (.slice PY0) .nil)) x) [] (dec (.cons (.int .i64) .nil)) = f25 g43 k x.1 x.2.1 := by kernel_rfl
/-! ### slices.Equal[[]string,string] -/
def f26  (k : Nat) (x0 : List ByteArray) (x1 : List ByteArray) : Option (Bool × Unit) :=
 bif (((List.length x0 : Nat) : Int) != ((List.length x1 : Nat) : Int)) then
 some (false, ())
 else
 Option.bind (α := (Bool × Unit) ⊕ ((Unit) × (Unit))) (iter (σ := (Int × Unit) × (Unit)) (τ := (Bool × Unit) ⊕ ((Unit) × (Unit))) k (fun y1 =>
 bif (decide (y1.1.1 < ((List.length x0 : Nat) : Int))) then
 bif (inR y1.1.1 ((List.length x0 : Nat) : Int)) then
 bif (inR y1.1.1 ((List.length x1 : Nat) : Int)) then
 bif (!(sEq (rd (α := ByteArray) ByteArray.empty x0 y1.1.1) (rd (α := ByteArray) ByteArray.empty x1 y1.1.1))) then
 some (.inr (.inl (false, ())))
 else
 some (.inl (((IntKind.i64.wrap (y1.1.1 + (1 : Int))), ()), ()))
 else
 none
 else
 none
 else
 some (.inr (.inr ((), ())))) (((0 : Int), ()), ())) fun r => match r with
 | .inl z => some z
 | .inr z2 =>
 some (true, ())
def H26 : Hints where
  loop := fun n => match n with
    | 0 => some ({ slots := [(13, (.int .i64))], objs := [], gone := [] }, 0, { slots := [], objs := [], gone := [] })
    | _ => none
  region := fun n => match n with
    | _ => none
  cond := fun n => match n with
    | _ => none
  block := fun n => match n with
    | _ => none
abbrev A26 : Tys := (.cons (.slice .str) (.cons (.slice .str) .nil))
def ts26 : List (Nat × TD) := [(3, (.data (.int .i64))), (4, (.data .bool)), (9, (.data .str)), (38, (.data (.slice .str)))]
noncomputable def fs26  : List (Nat × FSem) := []
noncomputable def body26 : Code := match Try.f26.body with | some c => c | none => .skip
theorem ty26 : chkTypes Try.prog ts26 = true := by kernel_rfl
theorem ev26  (k : Nat) (x : ((.cons (.slice .str) (.cons (.slice .str) .nil)) : Tys).den) : evFun (mkEnv ts26 (fs26 )) H26 k body26 26 [.tmp 4] (explodes (.cons (.slice .str) (.cons (.slice .str) .nil)) x) [] (dec (.cons .bool .nil)) = f26  k x.1 x.2.1 := by kernel_rfl
/-! ### jitney/jitlaw2.OffersCount -/
def f4 (g13 : Option (Bool × Unit)) (g14 : (List PT3) → Option ((List ByteArray) × Int × Unit)) (g15 : (List PT3) → Option ((List PT3) × Unit)) (g16 : (List PT3) → Option ((List ByteArray) × Int × Unit)) (g17 : (List PT3) → (List PT2) → Option PT0) (g18 : (List PT2) → Option ((List PT2) × Unit)) (g19 : (List PT3) → (Int)) (g20 : (List PT3) → (List PT2) → Option (Int × Unit)) (g21 : (List PT3) → (Int)) (g22 : (List PT3) → (List PT2) → Option (Int × Unit)) (g23 : (List PT3) → Option ((List ByteArray) × Unit)) (g24 : (List PT3) → Option ((List ByteArray) × Unit)) (g25 : (List PT3) → (List PT2) → Option (Int × Unit)) (g26 : (List ByteArray) → (List ByteArray) → (Bool)) (k : Nat) (x0 : List PT3) (x1 : List PT2) : Option (Bool × Unit) :=
 Option.bind (g15 x0) fun v1 =>
 Option.bind (g14 v1.1) fun v2 =>
 Option.bind (g15 x0) fun v3 =>
 Option.bind (g16 v3.1) fun v4 =>
 Option.bind (g15 x0) fun v5 =>
 Option.bind (g18 x1) fun v6 =>
 Option.bind (g17 v5.1 v6.1) fun v7 =>
 Option.bind (α := (Bool × Unit) ⊕ ((Int × Unit) × (Unit))) (
 bif ((g19 x0) == (0 : Int)) then
 Option.bind (g20 x0 x1) fun v8 =>
 some (.inr ((v8.1, ()), ()))
 else
 some (.inr (((g19 x0), ()), ()))) fun r => match r with
 | .inl z => some z
 | .inr y9 =>
 Option.bind (g15 x0) fun v10 =>
 bif ((g21 v10.1) != (g19 x0)) then
 some (false, ())
 else
 Option.bind (g15 x0) fun v11 =>
 Option.bind (g18 x1) fun v12 =>
 Option.bind (g22 v11.1 v12.1) fun v13 =>
 bif (v13.1 != y9.1.1) then
 some (false, ())
 else
 Option.bind (α := (Bool × Unit) ⊕ (((List ByteArray) × (List ByteArray) × Unit) × (Unit))) (
 bif ((g19 x0) == (0 : Int)) then
 Option.bind (g23 x0) fun v14 =>
 Option.bind (g24 x0) fun v15 =>
 some (.inr ((v14.1, v15.1, ()), ()))
 else
 some (.inr (([], [], ()), ()))) fun r => match r with
 | .inl z => some z
 | .inr y16 =>
 Option.bind (α := (Bool × Unit) ⊕ ((Int × Unit) × (Unit))) (
 bif (y9.1.1 == (0 : Int)) then
 Option.bind (g25 x0 x1) fun v17 =>
 some (.inr ((v17.1, ()), ()))
 else
 some (.inr (((0 : Int), ()), ()))) fun r => match r with
 | .inl z => some z
 | .inr y18 =>
 bif (v2.2.1 == (g19 x0)) then
 bif (g26 v2.1 y16.1.1) then
 bif (v4.2.1 == (g19 x0)) then
 bif (g26 v4.1 y16.1.2.1) then
 bif (v7.2.1 == y9.1.1) then
 bif (v7.1 == y18.1.1) then
 Option.bind g13 fun v19 =>
 some (v19.1, ())
 else
 some (false, ())
 else
 some (false, ())
 else
 some (false, ())
 else
 some (false, ())
 else
 some (false, ())
 else
 some (false, ())
def H4 : Hints where
  loop := fun n => match n with
    | _ => none
  region := fun n => match n with
    | _ => none
  cond := fun n => match n with
    | 40 => some { slots := [(12, (.int .i64))], objs := [], gone := [] }
    | 59 => some { slots := [(13, (.sl .str)), (14, (.sl .str))], objs := [], gone := [] }
    | 65 => some { slots := [(15, (.int .i64))], objs := [], gone := [] }
    | _ => none
  block := fun n => match n with
    | _ => none
abbrev A4 : Tys := (.cons (.slice PY1) (.cons (.slice PY0) .nil))
def ts4 : List (Nat × TD) := [(3, (.data (.int .i64))), (4, (.data .bool)), (23, (.data (.int .i64))), (36, (.data (.slice PY1))), (37, (.data (.slice PY0)))]
noncomputable def fs4 (g13 : Option (Bool × Unit)) (g14 : (List PT3) → Option ((List ByteArray) × Int × Unit)) (g15 : (List PT3) → Option ((List PT3) × Unit)) (g16 : (List PT3) → Option ((List ByteArray) × Int × Unit)) (g17 : (List PT3) → (List PT2) → Option PT0) (g18 : (List PT2) → Option ((List PT2) × Unit)) (g19 : (List PT3) → (Int)) (g20 : (List PT3) → (List PT2) → Option (Int × Unit)) (g21 : (List PT3) → (Int)) (g22 : (List PT3) → (List PT2) → Option (Int × Unit)) (g23 : (List PT3) → Option ((List ByteArray) × Unit)) (g24 : (List PT3) → Option ((List ByteArray) × Unit)) (g25 : (List PT3) → (List PT2) → Option (Int × Unit)) (g26 : (List ByteArray) → (List ByteArray) → (Bool)) : List (Nat × FSem) := [(13, .pfn .nil (.cons .bool .nil) fun x => g13), (14, .pfn (.cons (.slice PY1) .nil) (.cons (.slice .str) (.cons (.int .i64) .nil)) fun x => (g14 x.1)), (15, .pfn (.cons (.slice PY1) .nil) (.cons (.slice PY1) .nil) fun x => (g15 x.1)), (16, .pfn (.cons (.slice PY1) .nil) (.cons (.slice .str) (.cons (.int .i64) .nil)) fun x => (g16 x.1)), (17, .pfn (.cons (.slice PY1) (.cons (.slice PY0) .nil)) (.cons (.int .i64) (.cons (.int .i64) .nil)) fun x => (g17 x.1 x.2.1)), (18, .pfn (.cons (.slice PY0) .nil) (.cons (.slice PY0) .nil) fun x => (g18 x.1)), (19, .fn (.cons (.slice PY1) .nil) (.cons (.int .i64) .nil) fun x => ((g19 x.1), ())), (20, .pfn (.cons (.slice PY1) (.cons (.slice PY0) .nil)) (.cons (.int .i64) .nil) fun x => (g20 x.1 x.2.1)), (21, .fn (.cons (.slice PY1) .nil) (.cons (.int .i64) .nil) fun x => ((g21 x.1), ())), (22, .pfn (.cons (.slice PY1) (.cons (.slice PY0) .nil)) (.cons (.int .i64) .nil) fun x => (g22 x.1 x.2.1)), (23, .pfn (.cons (.slice PY1) .nil) (.cons (.slice .str) .nil) fun x => (g23 x.1)), (24, .pfn (.cons (.slice PY1) .nil) (.cons (.slice .str) .nil) fun x => (g24 x.1)), (25, .pfn (.cons (.slice PY1) (.cons (.slice PY0) .nil)) (.cons (.int .i64) .nil) fun x => (g25 x.1 x.2.1)), (26, .fn (.cons (.slice .str) (.cons (.slice .str) .nil)) (.cons .bool .nil) fun x => ((g26 x.1 x.2.1), ()))]
noncomputable def body4 : Code := match Try.f4.body with | some c => c | none => .skip
theorem ty4 : chkTypes Try.prog ts4 = true := by kernel_rfl
theorem ev4 (g13 : Option (Bool × Unit)) (g14 : (List PT3) → Option ((List ByteArray) × Int × Unit)) (g15 : (List PT3) → Option ((List PT3) × Unit)) (g16 : (List PT3) → Option ((List ByteArray) × Int × Unit)) (g17 : (List PT3) → (List PT2) → Option PT0) (g18 : (List PT2) → Option ((List PT2) × Unit)) (g19 : (List PT3) → (Int)) (g20 : (List PT3) → (List PT2) → Option (Int × Unit)) (g21 : (List PT3) → (Int)) (g22 : (List PT3) → (List PT2) → Option (Int × Unit)) (g23 : (List PT3) → Option ((List ByteArray) × Unit)) (g24 : (List PT3) → Option ((List ByteArray) × Unit)) (g25 : (List PT3) → (List PT2) → Option (Int × Unit)) (g26 : (List ByteArray) → (List ByteArray) → (Bool)) (k : Nat) (x : ((.cons (.slice PY1) (.cons (.slice PY0) .nil)) : Tys).den) : evFun (mkEnv ts4 (fs4 g13 g14 g15 g16 g17 g18 g19 g20 g21 g22 g23 g24 g25 g26)) H4 k body4 100 [.tmp 4] (explodes (.cons (.slice PY1) (.cons (.slice PY0) .nil)) x) [] (dec (.cons .bool .nil)) = f4 g13 g14 g15 g16 g17 g18 g19 g20 g21 g22 g23 g24 g25 g26 k x.1 x.2.1 := by kernel_rfl
end Go.Vm
