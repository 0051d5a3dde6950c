/- The program's functions, as an own tool reads them off its form. -/
import Derived.Test.YtfiembgemhonlaaBFn
import Derived.Test.YtfiembgemhonlaaVmD
import Derived.Test.YtfiembgemhonlaaProg
set_option maxRecDepth 100000
set_option linter.unusedVariables false
namespace Go.Vm
open Go.Proofs
/-! ### jitney/jitref2.Moment -/
def f125 (g115 : Int → Int → Int → (Bool)) (k : Nat) (x0 : Int) : Option (Bool × Unit) :=
  some ((g115 x0 (0 : Int) (345686399999 : Int)), ())
def H125 : Hints where
  loop := fun n => match n with
    | _ => none
  region := fun n => match n with
    | _ => none
  cond := fun n => match n with
    | _ => none
  block := fun n => match n with
    | _ => none
abbrev A125 : Tys := (.cons (.int .i64) .nil)
def ts125 : List (Nat × TD) := [(3, (.data (.int .i64))), (4, (.data .bool))]
noncomputable def fs125 (g115 : Int → Int → Int → (Bool)) : List (Nat × FSem) := [(115, .fn (.cons (.int .i64) (.cons (.int .i64) (.cons (.int .i64) .nil))) (.cons .bool .nil) fun x => ((g115 x.1 x.2.1 x.2.2.1), ()))]
noncomputable def body125 : Code := match Try.f125.body with | some c => c | none => .skip
theorem ty125 : chkTypes Try.prog ts125 = true := by kernel_rfl
theorem ev125 (g115 : Int → Int → Int → (Bool)) (k : Nat) (x : ((.cons (.int .i64) .nil) : Tys).den) : evFun (mkEnv ts125 (fs125 g115)) H125 k body125 5 [.tmp 2] (explodes (.cons (.int .i64) .nil) x) [] (dec (.cons .bool .nil)) = f125 g115 k x.1 := by kernel_rfl
/-! ### jitney/jitlaw2.momentFault -/
def f32 (g21 : Bool → Int → (Int)) (g125 : Int → (Bool)) (k : Nat) (x0 : Int) : Option (Int × Unit) :=
  some ((g21 (!(g125 x0)) (1 : Int)), ())
def H32 : Hints where
  loop := fun n => match n with
    | _ => none
  region := fun n => match n with
    | _ => none
  cond := fun n => match n with
    | _ => none
  block := fun n => match n with
    | _ => none
abbrev A32 : Tys := (.cons (.int .i64) .nil)
def ts32 : List (Nat × TD) := [(3, (.data (.int .i64))), (28, (.data (.int .i64)))]
noncomputable def fs32 (g21 : Bool → Int → (Int)) (g125 : Int → (Bool)) : List (Nat × FSem) := [(21, .fn (.cons .bool (.cons (.int .i64) .nil)) (.cons (.int .i64) .nil) fun x => ((g21 x.1 x.2.1), ())), (125, .fn (.cons (.int .i64) .nil) (.cons .bool .nil) fun x => ((g125 x.1), ()))]
noncomputable def body32 : Code := match Try.f32.body with | some c => c | none => .skip
theorem ty32 : chkTypes Try.prog ts32 = true := by kernel_rfl
theorem ev32 (g21 : Bool → Int → (Int)) (g125 : Int → (Bool)) (k : Nat) (x : ((.cons (.int .i64) .nil) : Tys).den) : evFun (mkEnv ts32 (fs32 g21 g125)) H32 k body32 7 [.tmp 2] (explodes (.cons (.int .i64) .nil) x) [] (dec (.cons (.int .i64) .nil)) = f32 g21 g125 k x.1 := by kernel_rfl
/-! ### jitney/base.Moment -/
def f121 (g114 : Int → Int → Int → (Bool)) (k : Nat) (x0 : Int) : Option (Bool × Unit) :=
  some ((!(g114 x0 (0 : Int) (345686399999 : Int))), ())
def H121 : Hints where
  loop := fun n => match n with
    | _ => none
  region := fun n => match n with
    | _ => none
  cond := fun n => match n with
    | _ => none
  block := fun n => match n with
    | _ => none
abbrev A121 : Tys := (.cons (.int .i64) .nil)
def ts121 : List (Nat × TD) := [(3, (.data (.int .i64))), (4, (.data .bool))]
noncomputable def fs121 (g114 : Int → Int → Int → (Bool)) : List (Nat × FSem) := [(114, .fn (.cons (.int .i64) (.cons (.int .i64) (.cons (.int .i64) .nil))) (.cons .bool .nil) fun x => ((g114 x.1 x.2.1 x.2.2.1), ()))]
noncomputable def body121 : Code := match Try.f121.body with | some c => c | none => .skip
theorem ty121 : chkTypes Try.prog ts121 = true := by kernel_rfl
theorem ev121 (g114 : Int → Int → Int → (Bool)) (k : Nat) (x : ((.cons (.int .i64) .nil) : Tys).den) : evFun (mkEnv ts121 (fs121 g114)) H121 k body121 6 [.tmp 2] (explodes (.cons (.int .i64) .nil) x) [] (dec (.cons .bool .nil)) = f121 g114 k x.1 := by kernel_rfl
/-! ### jitney/fleet.CheckTrips -/
def f146 (g113 : ByteArray → (Bool)) (g114 : Int → Int → Int → (Bool)) (k : Nat) (x0 : List (ByteArray × (Int × Int × Unit) × Int × Int × Unit)) : Option (Int × Unit) :=
  bif (decide (((List.length x0 : Nat) : Int) > (1000 : Int))) then
    some ((2 : Int), ())
  else
    Option.bind (α := (Int × Unit) ⊕ ((Unit) × (Unit))) (iter (σ := (Int × Unit) × (Unit)) (τ := (Int × Unit) ⊕ ((Unit) × (Unit))) k (fun y1 =>
        bif (decide (y1.1.1 < ((List.length x0 : Nat) : Int))) then
          bif (inR y1.1.1 ((List.length x0 : Nat) : Int)) then
            bif (!(g113 ((rd (α := (ByteArray × (Int × Int × Unit) × Int × Int × Unit)) (ByteArray.empty, ((0 : Int), (0 : Int), ()), (0 : Int), (0 : Int), ()) x0 y1.1.1).1))) then
              some (.inr (.inl ((5 : Int), ())))
            else
              bif (decide ((rd (α := (ByteArray × (Int × Int × Unit) × Int × Int × Unit)) (ByteArray.empty, ((0 : Int), (0 : Int), ()), (0 : Int), (0 : Int), ()) x0 y1.1.1).2.1.1 < (0 : Int))) then
                some (.inr (.inl ((1 : Int), ())))
              else
                bif (decide ((rd (α := (ByteArray × (Int × Int × Unit) × Int × Int × Unit)) (ByteArray.empty, ((0 : Int), (0 : Int), ()), (0 : Int), (0 : Int), ()) x0 y1.1.1).2.1.1 ≥ (rd (α := (ByteArray × (Int × Int × Unit) × Int × Int × Unit)) (ByteArray.empty, ((0 : Int), (0 : Int), ()), (0 : Int), (0 : Int), ()) x0 y1.1.1).2.1.2.1)) then
                  some (.inr (.inl ((1 : Int), ())))
                else
                  bif (decide ((rd (α := (ByteArray × (Int × Int × Unit) × Int × Int × Unit)) (ByteArray.empty, ((0 : Int), (0 : Int), ()), (0 : Int), (0 : Int), ()) x0 y1.1.1).2.1.2.1 > (345686400000 : Int))) then
                    some (.inr (.inl ((1 : Int), ())))
                  else
                    bif (g114 ((rd (α := (ByteArray × (Int × Int × Unit) × Int × Int × Unit)) (ByteArray.empty, ((0 : Int), (0 : Int), ()), (0 : Int), (0 : Int), ()) x0 y1.1.1).2.2.1) (0 : Int) (1000000000 : Int)) then
                      some (.inr (.inl ((1 : Int), ())))
                    else
                      bif (g114 ((rd (α := (ByteArray × (Int × Int × Unit) × Int × Int × Unit)) (ByteArray.empty, ((0 : Int), (0 : Int), ()), (0 : Int), (0 : Int), ()) x0 y1.1.1).2.2.2.1) (0 : Int) (1000000 : Int)) then
                        some (.inr (.inl ((1 : Int), ())))
                      else
                        bif (y1.1.1 == (0 : Int)) then
                          some (.inl (((IntKind.i64.wrap (y1.1.1 + (1 : Int))), ()), ()))
                        else
                          bif (inR (IntKind.i64.wrap (y1.1.1 - (1 : Int))) ((List.length x0 : Nat) : Int)) then
                            bif (sLt ((rd (α := (ByteArray × (Int × Int × Unit) × Int × Int × Unit)) (ByteArray.empty, ((0 : Int), (0 : Int), ()), (0 : Int), (0 : Int), ()) x0 y1.1.1).1) ((rd (α := (ByteArray × (Int × Int × Unit) × Int × Int × Unit)) (ByteArray.empty, ((0 : Int), (0 : Int), ()), (0 : Int), (0 : Int), ()) x0 (IntKind.i64.wrap (y1.1.1 - (1 : Int)))).1)) then
                              some (.inr (.inl ((7 : Int), ())))
                            else
                              bif (sEq ((rd (α := (ByteArray × (Int × Int × Unit) × Int × Int × Unit)) (ByteArray.empty, ((0 : Int), (0 : Int), ()), (0 : Int), (0 : Int), ()) x0 y1.1.1).1) ((rd (α := (ByteArray × (Int × Int × Unit) × Int × Int × Unit)) (ByteArray.empty, ((0 : Int), (0 : Int), ()), (0 : Int), (0 : Int), ()) x0 (IntKind.i64.wrap (y1.1.1 - (1 : Int)))).1)) then
                                bif (decide ((rd (α := (ByteArray × (Int × Int × Unit) × Int × Int × Unit)) (ByteArray.empty, ((0 : Int), (0 : Int), ()), (0 : Int), (0 : Int), ()) x0 y1.1.1).2.1.1 ≤ (rd (α := (ByteArray × (Int × Int × Unit) × Int × Int × Unit)) (ByteArray.empty, ((0 : Int), (0 : Int), ()), (0 : Int), (0 : Int), ()) x0 (IntKind.i64.wrap (y1.1.1 - (1 : Int)))).2.1.1)) then
                                  some (.inr (.inl ((7 : Int), ())))
                                else
                                  bif (decide ((rd (α := (ByteArray × (Int × Int × Unit) × Int × Int × Unit)) (ByteArray.empty, ((0 : Int), (0 : Int), ()), (0 : Int), (0 : Int), ()) x0 y1.1.1).2.1.1 < (rd (α := (ByteArray × (Int × Int × Unit) × Int × Int × Unit)) (ByteArray.empty, ((0 : Int), (0 : Int), ()), (0 : Int), (0 : Int), ()) x0 (IntKind.i64.wrap (y1.1.1 - (1 : Int)))).2.1.2.1)) then
                                    some (.inr (.inl ((7 : Int), ())))
                                  else
                                    some (.inl (((IntKind.i64.wrap (y1.1.1 + (1 : Int))), ()), ()))
                              else
                                some (.inl (((IntKind.i64.wrap (y1.1.1 + (1 : Int))), ()), ()))
                          else
                            none
          else
            none
        else
          some (.inr (.inr ((), ())))) (((0 : Int), ()), ())) fun r => match r with
    | .inl z => some z
    | .inr z2 =>
      some ((0 : Int), ())
def H146 : Hints where
  loop := fun n => match n with
    | 0 => some ({ slots := [(11, (.int .i64))], objs := [], gone := [] }, 0, { slots := [], objs := [], gone := [] })
    | _ => none
  region := fun n => match n with
    | _ => none
  cond := fun n => match n with
    | _ => none
  block := fun n => match n with
    | _ => none
abbrev A146 : Tys := (.cons (.slice (.struct (.cons .str (.cons (.struct (.cons (.int .i64) (.cons (.int .i64) .nil))) (.cons (.int .i64) (.cons (.int .i64) .nil)))))) .nil)
def ts146 : List (Nat × TD) := [(3, (.data (.int .i64))), (9, (.data .str)), (28, (.data (.int .i64))), (56, (.data (.slice (.struct (.cons .str (.cons (.struct (.cons (.int .i64) (.cons (.int .i64) .nil))) (.cons (.int .i64) (.cons (.int .i64) .nil)))))))), (61, (.data (.struct (.cons (.int .i64) (.cons (.int .i64) .nil))))), (63, (.data (.struct (.cons .str (.cons (.struct (.cons (.int .i64) (.cons (.int .i64) .nil))) (.cons (.int .i64) (.cons (.int .i64) .nil)))))))]
noncomputable def fs146 (g113 : ByteArray → (Bool)) (g114 : Int → Int → Int → (Bool)) : List (Nat × FSem) := [(113, .fn (.cons .str .nil) (.cons .bool .nil) fun x => ((g113 x.1), ())), (114, .fn (.cons (.int .i64) (.cons (.int .i64) (.cons (.int .i64) .nil))) (.cons .bool .nil) fun x => ((g114 x.1 x.2.1 x.2.2.1), ()))]
noncomputable def body146 : Code := match Try.f146.body with | some c => c | none => .skip
theorem ty146 : chkTypes Try.prog ts146 = true := by kernel_rfl
theorem ev146 (g113 : ByteArray → (Bool)) (g114 : Int → Int → Int → (Bool)) (k : Nat) (x : ((.cons (.slice (.struct (.cons .str (.cons (.struct (.cons (.int .i64) (.cons (.int .i64) .nil))) (.cons (.int .i64) (.cons (.int .i64) .nil)))))) .nil) : Tys).den) : evFun (mkEnv ts146 (fs146 g113 g114)) H146 k body146 89 [.tmp 2] (explodes (.cons (.slice (.struct (.cons .str (.cons (.struct (.cons (.int .i64) (.cons (.int .i64) .nil))) (.cons (.int .i64) (.cons (.int .i64) .nil)))))) .nil) x) [] (dec (.cons (.int .i64) .nil)) = f146 g113 g114 k x.1 := by kernel_rfl
/-! ### jitney/fleet.chargedFault -/
def f215 (g113 : ByteArray → (Bool)) (g114 : Int → Int → Int → (Bool)) (k : Nat) (x0 : List (ByteArray × ByteArray × Int × Int × Int × Unit)) : Option (Int × Unit) :=
  bif (decide (((List.length x0 : Nat) : Int) > (1000 : Int))) then
    some ((2 : Int), ())
  else
    Option.bind (α := (Int × Unit) ⊕ ((Unit) × (Unit))) (iter (σ := (Int × Unit) × (Unit)) (τ := (Int × Unit) ⊕ ((Unit) × (Unit))) k (fun y1 =>
        bif (decide (y1.1.1 < ((List.length x0 : Nat) : Int))) then
          bif (inR y1.1.1 ((List.length x0 : Nat) : Int)) then
            bif (!(g113 ((rd (α := (ByteArray × ByteArray × Int × Int × Int × Unit)) (ByteArray.empty, ByteArray.empty, (0 : Int), (0 : Int), (0 : Int), ()) x0 y1.1.1).1))) then
              some (.inr (.inl ((5 : Int), ())))
            else
              bif (!(g113 ((rd (α := (ByteArray × ByteArray × Int × Int × Int × Unit)) (ByteArray.empty, ByteArray.empty, (0 : Int), (0 : Int), (0 : Int), ()) x0 y1.1.1).2.1))) then
                some (.inr (.inl ((5 : Int), ())))
              else
                Option.bind (α := (((Int × Unit) × (Unit)) ⊕ ((Int × Unit) ⊕ ((Unit) × (Unit)))) ⊕ ((Bool × Unit) × (Unit))) (
                    bif ((rd (α := (ByteArray × ByteArray × Int × Int × Int × Unit)) (ByteArray.empty, ByteArray.empty, (0 : Int), (0 : Int), (0 : Int), ()) x0 y1.1.1).2.2.1 != (-1 : Int)) then
                      bif (g114 ((rd (α := (ByteArray × ByteArray × Int × Int × Int × Unit)) (ByteArray.empty, ByteArray.empty, (0 : Int), (0 : Int), (0 : Int), ()) x0 y1.1.1).2.2.1) (0 : Int) ((rd (α := (ByteArray × ByteArray × Int × Int × Int × Unit)) (ByteArray.empty, ByteArray.empty, (0 : Int), (0 : Int), (0 : Int), ()) x0 y1.1.1).2.2.2.1)) then
                        some (.inr ((true, ()), ()))
                      else
                        some (.inr (((decide ((rd (α := (ByteArray × ByteArray × Int × Int × Int × Unit)) (ByteArray.empty, ByteArray.empty, (0 : Int), (0 : Int), (0 : Int), ()) x0 y1.1.1).2.2.2.1 > (345686400000 : Int))), ()), ()))
                    else
                      bif ((rd (α := (ByteArray × ByteArray × Int × Int × Int × Unit)) (ByteArray.empty, ByteArray.empty, (0 : Int), (0 : Int), (0 : Int), ()) x0 y1.1.1).2.2.2.1 != (-1 : Int)) then
                        bif (g114 ((rd (α := (ByteArray × ByteArray × Int × Int × Int × Unit)) (ByteArray.empty, ByteArray.empty, (0 : Int), (0 : Int), (0 : Int), ()) x0 y1.1.1).2.2.1) (0 : Int) ((rd (α := (ByteArray × ByteArray × Int × Int × Int × Unit)) (ByteArray.empty, ByteArray.empty, (0 : Int), (0 : Int), (0 : Int), ()) x0 y1.1.1).2.2.2.1)) then
                          some (.inr ((true, ()), ()))
                        else
                          some (.inr (((decide ((rd (α := (ByteArray × ByteArray × Int × Int × Int × Unit)) (ByteArray.empty, ByteArray.empty, (0 : Int), (0 : Int), (0 : Int), ()) x0 y1.1.1).2.2.2.1 > (345686400000 : Int))), ()), ()))
                      else
                        some (.inr ((false, ()), ()))) fun r => match r with
                | .inl z => some z
                | .inr y2 =>
                  bif y2.1.1 then
                    some (.inr (.inl ((1 : Int), ())))
                  else
                    bif (g114 ((rd (α := (ByteArray × ByteArray × Int × Int × Int × Unit)) (ByteArray.empty, ByteArray.empty, (0 : Int), (0 : Int), (0 : Int), ()) x0 y1.1.1).2.2.2.2.1) (0 : Int) (1000000 : Int)) then
                      some (.inr (.inl ((1 : Int), ())))
                    else
                      some (.inl (((IntKind.i64.wrap (y1.1.1 + (1 : Int))), ()), ()))
          else
            none
        else
          some (.inr (.inr ((), ())))) (((0 : Int), ()), ())) fun r => match r with
    | .inl z => some z
    | .inr z3 =>
      some ((0 : Int), ())
def H215 : Hints where
  loop := fun n => match n with
    | 0 => some ({ slots := [(10, (.int .i64))], objs := [], gone := [] }, 0, { slots := [], objs := [], gone := [] })
    | _ => none
  region := fun n => match n with
    | 8 => some { slots := [(25, .bool)], objs := [], gone := [] }
    | _ => none
  cond := fun n => match n with
    | _ => none
  block := fun n => match n with
    | _ => none
abbrev A215 : Tys := (.cons (.slice (.struct (.cons .str (.cons .str (.cons (.int .i64) (.cons (.int .i64) (.cons (.int .i64) .nil))))))) .nil)
def ts215 : List (Nat × TD) := [(3, (.data (.int .i64))), (9, (.data .str)), (28, (.data (.int .i64))), (57, (.data (.slice (.struct (.cons .str (.cons .str (.cons (.int .i64) (.cons (.int .i64) (.cons (.int .i64) .nil))))))))), (66, (.data (.struct (.cons .str (.cons .str (.cons (.int .i64) (.cons (.int .i64) (.cons (.int .i64) .nil))))))))]
noncomputable def fs215 (g113 : ByteArray → (Bool)) (g114 : Int → Int → Int → (Bool)) : List (Nat × FSem) := [(113, .fn (.cons .str .nil) (.cons .bool .nil) fun x => ((g113 x.1), ())), (114, .fn (.cons (.int .i64) (.cons (.int .i64) (.cons (.int .i64) .nil))) (.cons .bool .nil) fun x => ((g114 x.1 x.2.1 x.2.2.1), ()))]
noncomputable def body215 : Code := match Try.f215.body with | some c => c | none => .skip
theorem ty215 : chkTypes Try.prog ts215 = true := by kernel_rfl
theorem ev215 (g113 : ByteArray → (Bool)) (g114 : Int → Int → Int → (Bool)) (k : Nat) (x : ((.cons (.slice (.struct (.cons .str (.cons .str (.cons (.int .i64) (.cons (.int .i64) (.cons (.int .i64) .nil))))))) .nil) : Tys).den) : evFun (mkEnv ts215 (fs215 g113 g114)) H215 k body215 51 [.tmp 2] (explodes (.cons (.slice (.struct (.cons .str (.cons .str (.cons (.int .i64) (.cons (.int .i64) (.cons (.int .i64) .nil))))))) .nil) x) [] (dec (.cons (.int .i64) .nil)) = f215 g113 g114 k x.1 := by kernel_rfl
/-! ### jitney/fleet.levelFault -/
def f136 (g12 : (List (ByteArray × Int × Int × Int × Int × Unit)) → (Int)) (g114 : Int → Int → Int → (Bool)) (g123 : (List Int) → (Int)) (g146 : (List (ByteArray × (Int × Int × Unit) × Int × Int × Unit)) → (Int)) (g215 : (List (ByteArray × ByteArray × Int × Int × Int × Unit)) → (Int)) (k : Nat) (x0 : (ByteArray × Int × Int × Int × Int × Unit)) (x1 : List (ByteArray × (Int × Int × Unit) × Int × Int × Unit)) (x2 : List (ByteArray × ByteArray × Int × Int × Int × Unit)) (x3 : Int) : Option (Int × Unit) :=
  bif ((g123 ([(g12 ([x0])), (g146 x1), (g215 x2)])) == (0 : Int)) then
    bif (g114 x3 (0 : Int) x0.2.1) then
      some ((1 : Int), ())
    else
      some ((g123 ([(g12 ([x0])), (g146 x1), (g215 x2)])), ())
  else
    some ((g123 ([(g12 ([x0])), (g146 x1), (g215 x2)])), ())
def H136 : Hints where
  loop := fun n => match n with
    | _ => none
  region := fun n => match n with
    | _ => none
  cond := fun n => match n with
    | _ => none
  block := fun n => match n with
    | _ => none
abbrev A136 : Tys := (.cons (.struct (.cons .str (.cons (.int .i64) (.cons (.int .i64) (.cons (.int .i64) (.cons (.int .i64) .nil)))))) (.cons (.slice (.struct (.cons .str (.cons (.struct (.cons (.int .i64) (.cons (.int .i64) .nil))) (.cons (.int .i64) (.cons (.int .i64) .nil)))))) (.cons (.slice (.struct (.cons .str (.cons .str (.cons (.int .i64) (.cons (.int .i64) (.cons (.int .i64) .nil))))))) (.cons (.int .i64) .nil))))
def ts136 : List (Nat × TD) := [(3, (.data (.int .i64))), (22, (.data (.slice (.struct (.cons .str (.cons (.int .i64) (.cons (.int .i64) (.cons (.int .i64) (.cons (.int .i64) .nil))))))))), (25, (.data (.struct (.cons .str (.cons (.int .i64) (.cons (.int .i64) (.cons (.int .i64) (.cons (.int .i64) .nil)))))))), (28, (.data (.int .i64))), (56, (.data (.slice (.struct (.cons .str (.cons (.struct (.cons (.int .i64) (.cons (.int .i64) .nil))) (.cons (.int .i64) (.cons (.int .i64) .nil)))))))), (57, (.data (.slice (.struct (.cons .str (.cons .str (.cons (.int .i64) (.cons (.int .i64) (.cons (.int .i64) .nil))))))))), (184, (.data (.slice (.int .i64))))]
noncomputable def fs136 (g12 : (List (ByteArray × Int × Int × Int × Int × Unit)) → (Int)) (g114 : Int → Int → Int → (Bool)) (g123 : (List Int) → (Int)) (g146 : (List (ByteArray × (Int × Int × Unit) × Int × Int × Unit)) → (Int)) (g215 : (List (ByteArray × ByteArray × Int × Int × Int × Unit)) → (Int)) : List (Nat × FSem) := [(12, .fn (.cons (.slice (.struct (.cons .str (.cons (.int .i64) (.cons (.int .i64) (.cons (.int .i64) (.cons (.int .i64) .nil))))))) .nil) (.cons (.int .i64) .nil) fun x => ((g12 x.1), ())), (114, .fn (.cons (.int .i64) (.cons (.int .i64) (.cons (.int .i64) .nil))) (.cons .bool .nil) fun x => ((g114 x.1 x.2.1 x.2.2.1), ())), (123, .fn (.cons (.slice (.int .i64)) .nil) (.cons (.int .i64) .nil) fun x => ((g123 x.1), ())), (146, .fn (.cons (.slice (.struct (.cons .str (.cons (.struct (.cons (.int .i64) (.cons (.int .i64) .nil))) (.cons (.int .i64) (.cons (.int .i64) .nil)))))) .nil) (.cons (.int .i64) .nil) fun x => ((g146 x.1), ())), (215, .fn (.cons (.slice (.struct (.cons .str (.cons .str (.cons (.int .i64) (.cons (.int .i64) (.cons (.int .i64) .nil))))))) .nil) (.cons (.int .i64) .nil) fun x => ((g215 x.1), ()))]
noncomputable def body136 : Code := match Try.f136.body with | some c => c | none => .skip
theorem ty136 : chkTypes Try.prog ts136 = true := by kernel_rfl
theorem ev136 (g12 : (List (ByteArray × Int × Int × Int × Int × Unit)) → (Int)) (g114 : Int → Int → Int → (Bool)) (g123 : (List Int) → (Int)) (g146 : (List (ByteArray × (Int × Int × Unit) × Int × Int × Unit)) → (Int)) (g215 : (List (ByteArray × ByteArray × Int × Int × Int × Unit)) → (Int)) (k : Nat) (x : ((.cons (.struct (.cons .str (.cons (.int .i64) (.cons (.int .i64) (.cons (.int .i64) (.cons (.int .i64) .nil)))))) (.cons (.slice (.struct (.cons .str (.cons (.struct (.cons (.int .i64) (.cons (.int .i64) .nil))) (.cons (.int .i64) (.cons (.int .i64) .nil)))))) (.cons (.slice (.struct (.cons .str (.cons .str (.cons (.int .i64) (.cons (.int .i64) (.cons (.int .i64) .nil))))))) (.cons (.int .i64) .nil)))) : Tys).den) : evFun (mkEnv ts136 (fs136 g12 g114 g123 g146 g215)) H136 k body136 28 [.tmp 8] (explodes (.cons (.struct (.cons .str (.cons (.int .i64) (.cons (.int .i64) (.cons (.int .i64) (.cons (.int .i64) .nil)))))) (.cons (.slice (.struct (.cons .str (.cons (.struct (.cons (.int .i64) (.cons (.int .i64) .nil))) (.cons (.int .i64) (.cons (.int .i64) .nil)))))) (.cons (.slice (.struct (.cons .str (.cons .str (.cons (.int .i64) (.cons (.int .i64) (.cons (.int .i64) .nil))))))) (.cons (.int .i64) .nil)))) x) [] (dec (.cons (.int .i64) .nil)) = f136 g12 g114 g123 g146 g215 k x.1 x.2.1 x.2.2.1 x.2.2.2.1 := by kernel_rfl
/-! ### jitney/fleet.own -/
def f147  (k : Nat) (x0 : List (ByteArray × (Int × Int × Unit) × Int × Int × Unit)) (x1 : ByteArray) : Option ((List (ByteArray × (Int × Int × Unit) × Int × Int × Unit)) × Unit) :=
  Option.bind (α := ((List (ByteArray × (Int × Int × Unit) × Int × Int × Unit)) × Unit) ⊕ (((List (ByteArray × (Int × Int × Unit) × Int × Int × Unit)) × Unit) × (Unit))) (iter (σ := ((List (ByteArray × (Int × Int × Unit) × Int × Int × Unit)) × Int × Unit) × (Unit)) (τ := ((List (ByteArray × (Int × Int × Unit) × Int × Int × Unit)) × Unit) ⊕ (((List (ByteArray × (Int × Int × Unit) × Int × Int × Unit)) × Unit) × (Unit))) k (fun y1 =>
      bif (decide (y1.1.2.1 < ((List.length x0 : Nat) : Int))) then
        bif (inR y1.1.2.1 ((List.length x0 : Nat) : Int)) then
          bif (sEq ((rd (α := (ByteArray × (Int × Int × Unit) × Int × Int × Unit)) (ByteArray.empty, ((0 : Int), (0 : Int), ()), (0 : Int), (0 : Int), ()) x0 y1.1.2.1).1) x1) then
            bif decide (List.length y1.1.1 + List.length ([(rd (α := (ByteArray × (Int × Int × Unit) × Int × Int × Unit)) (ByteArray.empty, ((0 : Int), (0 : Int), ()), (0 : Int), (0 : Int), ()) x0 y1.1.2.1)]) ≤ 4294967296) then
              some (.inl (((y1.1.1 ++ [(rd (α := (ByteArray × (Int × Int × Unit) × Int × Int × Unit)) (ByteArray.empty, ((0 : Int), (0 : Int), ()), (0 : Int), (0 : Int), ()) x0 y1.1.2.1)]), (IntKind.i64.wrap (y1.1.2.1 + (1 : Int))), ()), ()))
            else
              none
          else
            some (.inl ((y1.1.1, (IntKind.i64.wrap (y1.1.2.1 + (1 : Int))), ()), ()))
        else
          none
      else
        some (.inr (.inr ((y1.1.1, ()), ())))) (([], (0 : Int), ()), ())) fun r => match r with
  | .inl z => some z
  | .inr z2 =>
    some (z2.1.1, ())
def H147 : Hints where
  loop := fun n => match n with
    | 0 => some ({ slots := [(5, (.row (.struct (.cons .str (.cons (.struct (.cons (.int .i64) (.cons (.int .i64) .nil))) (.cons (.int .i64) (.cons (.int .i64) .nil))))))), (10, (.int .i64))], objs := [], gone := [] }, 0, { slots := [(5, (.row (.struct (.cons .str (.cons (.struct (.cons (.int .i64) (.cons (.int .i64) .nil))) (.cons (.int .i64) (.cons (.int .i64) .nil)))))))], objs := [], gone := [] })
    | _ => none
  region := fun n => match n with
    | _ => none
  cond := fun n => match n with
    | _ => none
  block := fun n => match n with
    | _ => none
abbrev A147 : Tys := (.cons (.slice (.struct (.cons .str (.cons (.struct (.cons (.int .i64) (.cons (.int .i64) .nil))) (.cons (.int .i64) (.cons (.int .i64) .nil)))))) (.cons .str .nil))
def ts147 : List (Nat × TD) := [(3, (.data (.int .i64))), (9, (.data .str)), (56, (.data (.slice (.struct (.cons .str (.cons (.struct (.cons (.int .i64) (.cons (.int .i64) .nil))) (.cons (.int .i64) (.cons (.int .i64) .nil)))))))), (63, (.data (.struct (.cons .str (.cons (.struct (.cons (.int .i64) (.cons (.int .i64) .nil))) (.cons (.int .i64) (.cons (.int .i64) .nil)))))))]
noncomputable def fs147  : List (Nat × FSem) := []
noncomputable def body147 : Code := match Try.f147.body with | some c => c | none => .skip
theorem ty147 : chkTypes Try.prog ts147 = true := by kernel_rfl
theorem ev147  (k : Nat) (x : ((.cons (.slice (.struct (.cons .str (.cons (.struct (.cons (.int .i64) (.cons (.int .i64) .nil))) (.cons (.int .i64) (.cons (.int .i64) .nil)))))) (.cons .str .nil)) : Tys).den) : evFun (mkEnv ts147 (fs147 )) H147 k body147 24 [.tmp 4] (explodes (.cons (.slice (.struct (.cons .str (.cons (.struct (.cons (.int .i64) (.cons (.int .i64) .nil))) (.cons (.int .i64) (.cons (.int .i64) .nil)))))) (.cons .str .nil)) x) [] (dec (.cons (.slice (.struct (.cons .str (.cons (.struct (.cons (.int .i64) (.cons (.int .i64) .nil))) (.cons (.int .i64) (.cons (.int .i64) .nil)))))) .nil)) = f147  k x.1 x.2.1 := by kernel_rfl
/-! ### jitney/fleet.turns$1 -/
def f267 (g127 : (List Int) → (Int)) (g128 : Int → Int → (Int)) (k : Nat) (x0 : (Int × Int × Int × Unit)) (x1 : (Int × Int × Int × Unit)) : Option (Int × Unit) :=
  some ((g127 ([(g128 x0.1 x1.1), (g128 x0.2.1 x1.2.1)])), ())
def H267 : Hints where
  loop := fun n => match n with
    | _ => none
  region := fun n => match n with
    | _ => none
  cond := fun n => match n with
    | _ => none
  block := fun n => match n with
    | _ => none
abbrev A267 : Tys := (.cons (.struct (.cons (.int .i64) (.cons (.int .i64) (.cons (.int .i64) .nil)))) (.cons (.struct (.cons (.int .i64) (.cons (.int .i64) (.cons (.int .i64) .nil)))) .nil))
def ts267 : List (Nat × TD) := [(3, (.data (.int .i64))), (78, (.data (.slice (.int .i64)))), (267, (.data (.struct (.cons (.int .i64) (.cons (.int .i64) (.cons (.int .i64) .nil))))))]
noncomputable def fs267 (g127 : (List Int) → (Int)) (g128 : Int → Int → (Int)) : List (Nat × FSem) := [(127, .fn (.cons (.slice (.int .i64)) .nil) (.cons (.int .i64) .nil) fun x => ((g127 x.1), ())), (128, .fn (.cons (.int .i64) (.cons (.int .i64) .nil)) (.cons (.int .i64) .nil) fun x => ((g128 x.1 x.2.1), ()))]
noncomputable def body267 : Code := match Try.f267.body with | some c => c | none => .skip
theorem ty267 : chkTypes Try.prog ts267 = true := by kernel_rfl
theorem ev267 (g127 : (List Int) → (Int)) (g128 : Int → Int → (Int)) (k : Nat) (x : ((.cons (.struct (.cons (.int .i64) (.cons (.int .i64) (.cons (.int .i64) .nil)))) (.cons (.struct (.cons (.int .i64) (.cons (.int .i64) (.cons (.int .i64) .nil)))) .nil)) : Tys).den) : evFun (mkEnv ts267 (fs267 g127 g128)) H267 k body267 17 [.tmp 4] (explodes (.cons (.struct (.cons (.int .i64) (.cons (.int .i64) (.cons (.int .i64) .nil)))) (.cons (.struct (.cons (.int .i64) (.cons (.int .i64) (.cons (.int .i64) .nil)))) .nil)) x) [] (dec (.cons (.int .i64) .nil)) = f267 g127 g128 k x.1 x.2.1 := by kernel_rfl
/-! ### jitney/fleet.turns -/
def f217 (g147 : (List (ByteArray × (Int × Int × Unit) × Int × Int × Unit)) → ByteArray → Option ((List (ByteArray × (Int × Int × Unit) × Int × Int × Unit)) × Unit)) (g266 : List (Int × Int × Int × Unit) → Option (List (Int × Int × Int × Unit))) (k : Nat) (x0 : ByteArray) (x1 : List (ByteArray × (Int × Int × Unit) × Int × Int × Unit)) (x2 : List (ByteArray × ByteArray × Int × Int × Int × Unit)) : Option ((List (Int × Int × Int × Unit)) × Unit) :=
  Option.bind (α := ((List (Int × Int × Int × Unit)) × Unit) ⊕ (((List (Int × Int × Int × Unit)) × Unit) × (Unit))) (iter (σ := ((List (Int × Int × Int × Unit)) × Int × Unit) × (Unit)) (τ := ((List (Int × Int × Int × Unit)) × Unit) ⊕ (((List (Int × Int × Int × Unit)) × Unit) × (Unit))) k (fun y1 =>
      bif (decide (y1.1.2.1 < ((List.length x2 : Nat) : Int))) then
        bif (inR y1.1.2.1 ((List.length x2 : Nat) : Int)) then
          bif (sEq ((rd (α := (ByteArray × ByteArray × Int × Int × Int × Unit)) (ByteArray.empty, ByteArray.empty, (0 : Int), (0 : Int), (0 : Int), ()) x2 y1.1.2.1).1) x0) then
            bif (decide ((rd (α := (ByteArray × ByteArray × Int × Int × Int × Unit)) (ByteArray.empty, ByteArray.empty, (0 : Int), (0 : Int), (0 : Int), ()) x2 y1.1.2.1).2.2.2.1 ≥ (0 : Int))) then
              bif decide (List.length y1.1.1 + List.length ([((rd (α := (ByteArray × ByteArray × Int × Int × Int × Unit)) (ByteArray.empty, ByteArray.empty, (0 : Int), (0 : Int), (0 : Int), ()) x2 y1.1.2.1).2.2.2.1, (0 : Int), (rd (α := (ByteArray × ByteArray × Int × Int × Int × Unit)) (ByteArray.empty, ByteArray.empty, (0 : Int), (0 : Int), (0 : Int), ()) x2 y1.1.2.1).2.2.2.2.1, ())]) ≤ 4294967296) then
                some (.inl (((y1.1.1 ++ [((rd (α := (ByteArray × ByteArray × Int × Int × Int × Unit)) (ByteArray.empty, ByteArray.empty, (0 : Int), (0 : Int), (0 : Int), ()) x2 y1.1.2.1).2.2.2.1, (0 : Int), (rd (α := (ByteArray × ByteArray × Int × Int × Int × Unit)) (ByteArray.empty, ByteArray.empty, (0 : Int), (0 : Int), (0 : Int), ()) x2 y1.1.2.1).2.2.2.2.1, ())]), (IntKind.i64.wrap (y1.1.2.1 + (1 : Int))), ()), ()))
              else
                none
            else
              some (.inl ((y1.1.1, (IntKind.i64.wrap (y1.1.2.1 + (1 : Int))), ()), ()))
          else
            some (.inl ((y1.1.1, (IntKind.i64.wrap (y1.1.2.1 + (1 : Int))), ()), ()))
        else
          none
      else
        some (.inr (.inr ((y1.1.1, ()), ())))) (([], (0 : Int), ()), ())) fun r => match r with
  | .inl z => some z
  | .inr z2 =>
    Option.bind (g147 x1 x0) fun v3 =>
    Option.bind (α := ((List (Int × Int × Int × Unit)) × Unit) ⊕ (((List (Int × Int × Int × Unit)) × Unit) × (Unit))) (iter (σ := ((List (Int × Int × Int × Unit)) × Int × Unit) × (Unit)) (τ := ((List (Int × Int × Int × Unit)) × Unit) ⊕ (((List (Int × Int × Int × Unit)) × Unit) × (Unit))) k (fun y4 =>
        bif (decide (y4.1.2.1 < ((List.length v3.1 : Nat) : Int))) then
          bif (inR y4.1.2.1 ((List.length v3.1 : Nat) : Int)) then
            bif decide (List.length y4.1.1 + List.length ([((rd (α := (ByteArray × (Int × Int × Unit) × Int × Int × Unit)) (ByteArray.empty, ((0 : Int), (0 : Int), ()), (0 : Int), (0 : Int), ()) v3.1 y4.1.2.1).2.1.2.1, (1 : Int), (rd (α := (ByteArray × (Int × Int × Unit) × Int × Int × Unit)) (ByteArray.empty, ((0 : Int), (0 : Int), ()), (0 : Int), (0 : Int), ()) v3.1 y4.1.2.1).2.2.2.1, ())]) ≤ 4294967296) then
              some (.inl (((y4.1.1 ++ [((rd (α := (ByteArray × (Int × Int × Unit) × Int × Int × Unit)) (ByteArray.empty, ((0 : Int), (0 : Int), ()), (0 : Int), (0 : Int), ()) v3.1 y4.1.2.1).2.1.2.1, (1 : Int), (rd (α := (ByteArray × (Int × Int × Unit) × Int × Int × Unit)) (ByteArray.empty, ((0 : Int), (0 : Int), ()), (0 : Int), (0 : Int), ()) v3.1 y4.1.2.1).2.2.2.1, ())]), (IntKind.i64.wrap (y4.1.2.1 + (1 : Int))), ()), ()))
            else
              none
          else
            none
        else
          some (.inr (.inr ((y4.1.1, ()), ())))) ((z2.1.1, (0 : Int), ()), ())) fun r => match r with
    | .inl z => some z
    | .inr z5 =>
      Option.bind (g266 z5.1.1) fun v6 =>
      some (v6, ())
def H217 : Hints where
  loop := fun n => match n with
    | 0 => some ({ slots := [(7, (.row (.struct (.cons (.int .i64) (.cons (.int .i64) (.cons (.int .i64) .nil)))))), (14, (.int .i64))], objs := [], gone := [] }, 0, { slots := [(7, (.row (.struct (.cons (.int .i64) (.cons (.int .i64) (.cons (.int .i64) .nil))))))], objs := [], gone := [] })
    | 2 => some ({ slots := [(7, (.row (.struct (.cons (.int .i64) (.cons (.int .i64) (.cons (.int .i64) .nil)))))), (40, (.int .i64))], objs := [], gone := [0] }, 2, { slots := [(7, (.row (.struct (.cons (.int .i64) (.cons (.int .i64) (.cons (.int .i64) .nil))))))], objs := [], gone := [0] })
    | _ => none
  region := fun n => match n with
    | _ => none
  cond := fun n => match n with
    | _ => none
  block := fun n => match n with
    | _ => none
abbrev A217 : Tys := (.cons .str (.cons (.slice (.struct (.cons .str (.cons (.struct (.cons (.int .i64) (.cons (.int .i64) .nil))) (.cons (.int .i64) (.cons (.int .i64) .nil)))))) (.cons (.slice (.struct (.cons .str (.cons .str (.cons (.int .i64) (.cons (.int .i64) (.cons (.int .i64) .nil))))))) .nil)))
def ts217 : List (Nat × TD) := [(3, (.data (.int .i64))), (9, (.data .str)), (56, (.data (.slice (.struct (.cons .str (.cons (.struct (.cons (.int .i64) (.cons (.int .i64) .nil))) (.cons (.int .i64) (.cons (.int .i64) .nil)))))))), (57, (.data (.slice (.struct (.cons .str (.cons .str (.cons (.int .i64) (.cons (.int .i64) (.cons (.int .i64) .nil))))))))), (61, (.data (.struct (.cons (.int .i64) (.cons (.int .i64) .nil))))), (63, (.data (.struct (.cons .str (.cons (.struct (.cons (.int .i64) (.cons (.int .i64) .nil))) (.cons (.int .i64) (.cons (.int .i64) .nil))))))), (66, (.data (.struct (.cons .str (.cons .str (.cons (.int .i64) (.cons (.int .i64) (.cons (.int .i64) .nil)))))))), (264, (.data (.slice (.struct (.cons (.int .i64) (.cons (.int .i64) (.cons (.int .i64) .nil))))))), (267, (.data (.struct (.cons (.int .i64) (.cons (.int .i64) (.cons (.int .i64) .nil))))))]
noncomputable def fs217 (g147 : (List (ByteArray × (Int × Int × Unit) × Int × Int × Unit)) → ByteArray → Option ((List (ByteArray × (Int × Int × Unit) × Int × Int × Unit)) × Unit)) (g266 : List (Int × Int × Int × Unit) → Option (List (Int × Int × Int × Unit))) : List (Nat × FSem) := [(147, .pfn (.cons (.slice (.struct (.cons .str (.cons (.struct (.cons (.int .i64) (.cons (.int .i64) .nil))) (.cons (.int .i64) (.cons (.int .i64) .nil)))))) (.cons .str .nil)) (.cons (.slice (.struct (.cons .str (.cons (.struct (.cons (.int .i64) (.cons (.int .i64) .nil))) (.cons (.int .i64) (.cons (.int .i64) .nil)))))) .nil) fun x => (g147 x.1 x.2.1)), (266, .rfn (.struct (.cons (.int .i64) (.cons (.int .i64) (.cons (.int .i64) .nil)))) .nil 267 fun xs a => g266 xs )]
noncomputable def body217 : Code := match Try.f217.body with | some c => c | none => .skip
theorem ty217 : chkTypes Try.prog ts217 = true := by kernel_rfl
theorem ev217 (g147 : (List (ByteArray × (Int × Int × Unit) × Int × Int × Unit)) → ByteArray → Option ((List (ByteArray × (Int × Int × Unit) × Int × Int × Unit)) × Unit)) (g266 : List (Int × Int × Int × Unit) → Option (List (Int × Int × Int × Unit))) (k : Nat) (x : ((.cons .str (.cons (.slice (.struct (.cons .str (.cons (.struct (.cons (.int .i64) (.cons (.int .i64) .nil))) (.cons (.int .i64) (.cons (.int .i64) .nil)))))) (.cons (.slice (.struct (.cons .str (.cons .str (.cons (.int .i64) (.cons (.int .i64) (.cons (.int .i64) .nil))))))) .nil))) : Tys).den) : evFun (mkEnv ts217 (fs217 g147 g266)) H217 k body217 57 [.tmp 6] (explodes (.cons .str (.cons (.slice (.struct (.cons .str (.cons (.struct (.cons (.int .i64) (.cons (.int .i64) .nil))) (.cons (.int .i64) (.cons (.int .i64) .nil)))))) (.cons (.slice (.struct (.cons .str (.cons .str (.cons (.int .i64) (.cons (.int .i64) (.cons (.int .i64) .nil))))))) .nil))) x) [] (dec (.cons (.slice (.struct (.cons (.int .i64) (.cons (.int .i64) (.cons (.int .i64) .nil))))) .nil)) = f217 g147 g266 k x.1 x.2.1 x.2.2.1 := by kernel_rfl
/-! ### jitney/fleet.levelAt -/
def f137 (g217 : ByteArray → (List (ByteArray × (Int × Int × Unit) × Int × Int × Unit)) → (List (ByteArray × ByteArray × Int × Int × Int × Unit)) → Option ((List (Int × Int × Int × Unit)) × Unit)) (k : Nat) (x0 : ByteArray) (x1 : List (ByteArray × (Int × Int × Unit) × Int × Int × Unit)) (x2 : List (ByteArray × ByteArray × Int × Int × Int × Unit)) (x3 : Int) (x4 : Int) : Option (Int × Unit) :=
  Option.bind (g217 x0 x1 x2) fun v1 =>
  Option.bind (α := (Int × Unit) ⊕ ((Unit) × (Int × Unit))) (iter (σ := (Int × Int × Unit) × (Int × Unit)) (τ := (Int × Unit) ⊕ ((Unit) × (Int × Unit))) k (fun y2 =>
      bif (decide (y2.1.2.1 < ((List.length v1.1 : Nat) : Int))) then
        bif (inR y2.1.2.1 ((List.length v1.1 : Nat) : Int)) then
          bif (decide ((rd (α := (Int × Int × Int × Unit)) ((0 : Int), (0 : Int), (0 : Int), ()) v1.1 y2.1.2.1).1 > x4)) then
            some (.inr (.inl (y2.2.1, ())))
          else
            Option.bind (α := (((Int × Int × Unit) × (Int × Unit)) ⊕ ((Int × Unit) ⊕ ((Unit) × (Int × Unit)))) ⊕ ((Int × Unit) × (Unit))) (
                bif ((rd (α := (Int × Int × Int × Unit)) ((0 : Int), (0 : Int), (0 : Int), ()) v1.1 y2.1.2.1).2.1 == (0 : Int)) then
                  some (.inr (((if (decide ((rd (α := (Int × Int × Int × Unit)) ((0 : Int), (0 : Int), (0 : Int), ()) v1.1 y2.1.2.1).2.2.1 > y2.1.1)) then (rd (α := (Int × Int × Int × Unit)) ((0 : Int), (0 : Int), (0 : Int), ()) v1.1 y2.1.2.1).2.2.1 else y2.1.1), ()), ()))
                else
                  some (.inr (((IntKind.i64.wrap (y2.1.1 - (rd (α := (Int × Int × Int × Unit)) ((0 : Int), (0 : Int), (0 : Int), ()) v1.1 y2.1.2.1).2.2.1)), ()), ()))) fun r => match r with
            | .inl z => some z
            | .inr y3 =>
              some (.inl ((y3.1.1, (IntKind.i64.wrap (y2.1.2.1 + (1 : Int))), ()), (y3.1.1, ())))
        else
          none
      else
        some (.inr (.inr ((), (y2.2.1, ()))))) ((x3, (0 : Int), ()), (x3, ()))) fun r => match r with
  | .inl z => some z
  | .inr z4 =>
    some (z4.2.1, ())
def H137 : Hints where
  loop := fun n => match n with
    | _ => none
  region := fun n => match n with
    | _ => none
  cond := fun n => match n with
    | _ => none
  block := fun n => match n with
    | _ => none
def Hi137_216 : Hints where
  loop := fun n => match n with
    | _ => none
  region := fun n => match n with
    | _ => none
  cond := fun n => match n with
    | _ => none
  block := fun n => match n with
    | _ => none
def tsi137_216 : List (Nat × TD) := [(3, (.data (.int .i64)))]
noncomputable def bodyi137_216 : Code := match Try.f216.body with | some c => c | none => .skip
noncomputable def fsi137_216 (g217 : ByteArray → (List (ByteArray × (Int × Int × Unit) × Int × Int × Unit)) → (List (ByteArray × ByteArray × Int × Int × Int × Unit)) → Option ((List (Int × Int × Int × Unit)) × Unit)) (k : Nat) : List (Nat × FSem) := []
theorem tyi137_216 : chkTypes Try.prog tsi137_216 = true := by kernel_rfl
def Hi137_138 : Hints where
  loop := fun n => match n with
    | 0 => some ({ slots := [(3, (.int .i64)), (22, (.int .i64))], objs := [(0, (.box (.data (.int .i64)) (.int .i64)))], gone := [] }, 0, { slots := [], objs := [(0, (.box (.data (.int .i64)) (.int .i64)))], gone := [] })
    | _ => none
  region := fun n => match n with
    | _ => none
  cond := fun n => match n with
    | 32 => some { slots := [(3, (.int .i64))], objs := [], gone := [] }
    | _ => none
  block := fun n => match n with
    | _ => none
def tsi137_138 : List (Nat × TD) := [(3, (.data (.int .i64))), (264, (.data (.slice (.struct (.cons (.int .i64) (.cons (.int .i64) (.cons (.int .i64) .nil))))))), (267, (.data (.struct (.cons (.int .i64) (.cons (.int .i64) (.cons (.int .i64) .nil))))))]
noncomputable def bodyi137_138 : Code := match Try.f138.body with | some c => c | none => .skip
noncomputable def fsi137_138 (g217 : ByteArray → (List (ByteArray × (Int × Int × Unit) × Int × Int × Unit)) → (List (ByteArray × ByteArray × Int × Int × Int × Unit)) → Option ((List (Int × Int × Int × Unit)) × Unit)) (k : Nat) : List (Nat × FSem) := [(216, .ev (mkEnv tsi137_216 (fsi137_216 g217 k)) Hi137_216 k bodyi137_216 4 []), (217, .pfn (.cons .str (.cons (.slice (.struct (.cons .str (.cons (.struct (.cons (.int .i64) (.cons (.int .i64) .nil))) (.cons (.int .i64) (.cons (.int .i64) .nil)))))) (.cons (.slice (.struct (.cons .str (.cons .str (.cons (.int .i64) (.cons (.int .i64) (.cons (.int .i64) .nil))))))) .nil))) (.cons (.slice (.struct (.cons (.int .i64) (.cons (.int .i64) (.cons (.int .i64) .nil))))) .nil) fun x => (g217 x.1 x.2.1 x.2.2.1))]
theorem tyi137_138 : chkTypes Try.prog tsi137_138 = true := by kernel_rfl
abbrev A137 : Tys := (.cons .str (.cons (.slice (.struct (.cons .str (.cons (.struct (.cons (.int .i64) (.cons (.int .i64) .nil))) (.cons (.int .i64) (.cons (.int .i64) .nil)))))) (.cons (.slice (.struct (.cons .str (.cons .str (.cons (.int .i64) (.cons (.int .i64) (.cons (.int .i64) .nil))))))) (.cons (.int .i64) (.cons (.int .i64) .nil)))))
def ts137 : List (Nat × TD) := [(3, (.data (.int .i64))), (9, (.data .str)), (56, (.data (.slice (.struct (.cons .str (.cons (.struct (.cons (.int .i64) (.cons (.int .i64) .nil))) (.cons (.int .i64) (.cons (.int .i64) .nil)))))))), (57, (.data (.slice (.struct (.cons .str (.cons .str (.cons (.int .i64) (.cons (.int .i64) (.cons (.int .i64) .nil)))))))))]
noncomputable def fs137 (g217 : ByteArray → (List (ByteArray × (Int × Int × Unit) × Int × Int × Unit)) → (List (ByteArray × ByteArray × Int × Int × Int × Unit)) → Option ((List (Int × Int × Int × Unit)) × Unit)) (k : Nat) : List (Nat × FSem) := [(138, .ev (mkEnv tsi137_138 (fsi137_138 g217 k)) Hi137_138 k bodyi137_138 45 [])]
noncomputable def body137 : Code := match Try.f137.body with | some c => c | none => .skip
theorem ty137 : chkTypes Try.prog ts137 = true := by kernel_rfl
theorem ev137 (g217 : ByteArray → (List (ByteArray × (Int × Int × Unit) × Int × Int × Unit)) → (List (ByteArray × ByteArray × Int × Int × Int × Unit)) → Option ((List (Int × Int × Int × Unit)) × Unit)) (k : Nat) (x : ((.cons .str (.cons (.slice (.struct (.cons .str (.cons (.struct (.cons (.int .i64) (.cons (.int .i64) .nil))) (.cons (.int .i64) (.cons (.int .i64) .nil)))))) (.cons (.slice (.struct (.cons .str (.cons .str (.cons (.int .i64) (.cons (.int .i64) (.cons (.int .i64) .nil))))))) (.cons (.int .i64) (.cons (.int .i64) .nil))))) : Tys).den) : evFun (mkEnv ts137 (fs137 g217 k)) H137 k body137 20 [.tmp 10] (explodes (.cons .str (.cons (.slice (.struct (.cons .str (.cons (.struct (.cons (.int .i64) (.cons (.int .i64) .nil))) (.cons (.int .i64) (.cons (.int .i64) .nil)))))) (.cons (.slice (.struct (.cons .str (.cons .str (.cons (.int .i64) (.cons (.int .i64) (.cons (.int .i64) .nil))))))) (.cons (.int .i64) (.cons (.int .i64) .nil))))) x) [] (dec (.cons (.int .i64) .nil)) = f137 g217 k x.1 x.2.1 x.2.2.1 x.2.2.2.1 x.2.2.2.2.1 := by kernel_rfl
/-! ### jitney/fleet.Level -/
def f37 (g121 : Int → (Bool)) (g136 : (ByteArray × Int × Int × Int × Int × Unit) → (List (ByteArray × (Int × Int × Unit) × Int × Int × Unit)) → (List (ByteArray × ByteArray × Int × Int × Int × Unit)) → Int → (Int)) (g137 : ByteArray → (List (ByteArray × (Int × Int × Unit) × Int × Int × Unit)) → (List (ByteArray × ByteArray × Int × Int × Int × Unit)) → Int → Int → Option (Int × Unit)) (k : Nat) (x0 : (ByteArray × Int × Int × Int × Int × Unit)) (x1 : List (ByteArray × (Int × Int × Unit) × Int × Int × Unit)) (x2 : List (ByteArray × ByteArray × Int × Int × Int × Unit)) (x3 : Int) (x4 : Int) : Option (Int × Int × Unit) :=
  bif ((g136 x0 x1 x2 x3) != (0 : Int)) then
    some ((0 : Int), (g136 x0 x1 x2 x3), ())
  else
    bif (!(g121 x4)) then
      some ((0 : Int), (1 : Int), ())
    else
      Option.bind (g137 x0.1 x1 x2 x3 x4) fun v1 =>
      some (v1.1, (0 : Int), ())
def H37 : Hints where
  loop := fun n => match n with
    | _ => none
  region := fun n => match n with
    | _ => none
  cond := fun n => match n with
    | _ => none
  block := fun n => match n with
    | _ => none
abbrev A37 : Tys := (.cons (.struct (.cons .str (.cons (.int .i64) (.cons (.int .i64) (.cons (.int .i64) (.cons (.int .i64) .nil)))))) (.cons (.slice (.struct (.cons .str (.cons (.struct (.cons (.int .i64) (.cons (.int .i64) .nil))) (.cons (.int .i64) (.cons (.int .i64) .nil)))))) (.cons (.slice (.struct (.cons .str (.cons .str (.cons (.int .i64) (.cons (.int .i64) (.cons (.int .i64) .nil))))))) (.cons (.int .i64) (.cons (.int .i64) .nil)))))
def ts37 : List (Nat × TD) := [(3, (.data (.int .i64))), (9, (.data .str)), (25, (.data (.struct (.cons .str (.cons (.int .i64) (.cons (.int .i64) (.cons (.int .i64) (.cons (.int .i64) .nil)))))))), (28, (.data (.int .i64))), (56, (.data (.slice (.struct (.cons .str (.cons (.struct (.cons (.int .i64) (.cons (.int .i64) .nil))) (.cons (.int .i64) (.cons (.int .i64) .nil)))))))), (57, (.data (.slice (.struct (.cons .str (.cons .str (.cons (.int .i64) (.cons (.int .i64) (.cons (.int .i64) .nil)))))))))]
noncomputable def fs37 (g121 : Int → (Bool)) (g136 : (ByteArray × Int × Int × Int × Int × Unit) → (List (ByteArray × (Int × Int × Unit) × Int × Int × Unit)) → (List (ByteArray × ByteArray × Int × Int × Int × Unit)) → Int → (Int)) (g137 : ByteArray → (List (ByteArray × (Int × Int × Unit) × Int × Int × Unit)) → (List (ByteArray × ByteArray × Int × Int × Int × Unit)) → Int → Int → Option (Int × Unit)) : List (Nat × FSem) := [(121, .fn (.cons (.int .i64) .nil) (.cons .bool .nil) fun x => ((g121 x.1), ())), (136, .fn (.cons (.struct (.cons .str (.cons (.int .i64) (.cons (.int .i64) (.cons (.int .i64) (.cons (.int .i64) .nil)))))) (.cons (.slice (.struct (.cons .str (.cons (.struct (.cons (.int .i64) (.cons (.int .i64) .nil))) (.cons (.int .i64) (.cons (.int .i64) .nil)))))) (.cons (.slice (.struct (.cons .str (.cons .str (.cons (.int .i64) (.cons (.int .i64) (.cons (.int .i64) .nil))))))) (.cons (.int .i64) .nil)))) (.cons (.int .i64) .nil) fun x => ((g136 x.1 x.2.1 x.2.2.1 x.2.2.2.1), ())), (137, .pfn (.cons .str (.cons (.slice (.struct (.cons .str (.cons (.struct (.cons (.int .i64) (.cons (.int .i64) .nil))) (.cons (.int .i64) (.cons (.int .i64) .nil)))))) (.cons (.slice (.struct (.cons .str (.cons .str (.cons (.int .i64) (.cons (.int .i64) (.cons (.int .i64) .nil))))))) (.cons (.int .i64) (.cons (.int .i64) .nil))))) (.cons (.int .i64) .nil) fun x => (g137 x.1 x.2.1 x.2.2.1 x.2.2.2.1 x.2.2.2.2.1))]
noncomputable def body37 : Code := match Try.f37.body with | some c => c | none => .skip
theorem ty37 : chkTypes Try.prog ts37 = true := by kernel_rfl
theorem ev37 (g121 : Int → (Bool)) (g136 : (ByteArray × Int × Int × Int × Int × Unit) → (List (ByteArray × (Int × Int × Unit) × Int × Int × Unit)) → (List (ByteArray × ByteArray × Int × Int × Int × Unit)) → Int → (Int)) (g137 : ByteArray → (List (ByteArray × (Int × Int × Unit) × Int × Int × Unit)) → (List (ByteArray × ByteArray × Int × Int × Int × Unit)) → Int → Int → Option (Int × Unit)) (k : Nat) (x : ((.cons (.struct (.cons .str (.cons (.int .i64) (.cons (.int .i64) (.cons (.int .i64) (.cons (.int .i64) .nil)))))) (.cons (.slice (.struct (.cons .str (.cons (.struct (.cons (.int .i64) (.cons (.int .i64) .nil))) (.cons (.int .i64) (.cons (.int .i64) .nil)))))) (.cons (.slice (.struct (.cons .str (.cons .str (.cons (.int .i64) (.cons (.int .i64) (.cons (.int .i64) .nil))))))) (.cons (.int .i64) (.cons (.int .i64) .nil))))) : Tys).den) : evFun (mkEnv ts37 (fs37 g121 g136 g137)) H37 k body37 31 [.tmp 10, .tmp 11] (explodes (.cons (.struct (.cons .str (.cons (.int .i64) (.cons (.int .i64) (.cons (.int .i64) (.cons (.int .i64) .nil)))))) (.cons (.slice (.struct (.cons .str (.cons (.struct (.cons (.int .i64) (.cons (.int .i64) .nil))) (.cons (.int .i64) (.cons (.int .i64) .nil)))))) (.cons (.slice (.struct (.cons .str (.cons .str (.cons (.int .i64) (.cons (.int .i64) (.cons (.int .i64) .nil))))))) (.cons (.int .i64) (.cons (.int .i64) .nil))))) x) [] (dec (.cons (.int .i64) (.cons (.int .i64) .nil))) = f37 g121 g136 g137 k x.1 x.2.1 x.2.2.1 x.2.2.2.1 x.2.2.2.2.1 := by kernel_rfl
/-! ### slices.Clone[[]jitney/api.Run,jitney/api.Run] -/
def f38  (k : Nat) (x0 : List (ByteArray × (Int × Int × Unit) × Int × Int × Unit)) : Option ((List (ByteArray × (Int × Int × Unit) × Int × Int × Unit)) × Unit) :=
  bif Nat.ble (List.length x0) 0 then
    none
  else
    bif decide (List.length ([] : List (ByteArray × (Int × Int × Unit) × Int × Int × Unit)) + List.length x0 ≤ 4294967296) then
      some ((([] : List (ByteArray × (Int × Int × Unit) × Int × Int × Unit)) ++ x0), ())
    else
      none
def H38 : Hints where
  loop := fun n => match n with
    | _ => none
  region := fun n => match n with
    | _ => none
  cond := fun n => match n with
    | _ => none
  block := fun n => match n with
    | _ => none
abbrev A38 : Tys := (.cons (.slice (.struct (.cons .str (.cons (.struct (.cons (.int .i64) (.cons (.int .i64) .nil))) (.cons (.int .i64) (.cons (.int .i64) .nil)))))) .nil)
def ts38 : List (Nat × TD) := [(56, (.data (.slice (.struct (.cons .str (.cons (.struct (.cons (.int .i64) (.cons (.int .i64) .nil))) (.cons (.int .i64) (.cons (.int .i64) .nil))))))))]
noncomputable def fs38  : List (Nat × FSem) := []
noncomputable def body38 : Code := match Try.f38.body with | some c => c | none => .skip
theorem ty38 : chkTypes Try.prog ts38 = true := by kernel_rfl
theorem ev38  (k : Nat) (x : ((.cons (.slice (.struct (.cons .str (.cons (.struct (.cons (.int .i64) (.cons (.int .i64) .nil))) (.cons (.int .i64) (.cons (.int .i64) .nil)))))) .nil) : Tys).den) : evFun (mkEnv ts38 (fs38 )) H38 k body38 8 [.tmp 2] (explodes (.cons (.slice (.struct (.cons .str (.cons (.struct (.cons (.int .i64) (.cons (.int .i64) .nil))) (.cons (.int .i64) (.cons (.int .i64) .nil)))))) .nil) x) [] (dec (.cons (.slice (.struct (.cons .str (.cons (.struct (.cons (.int .i64) (.cons (.int .i64) .nil))) (.cons (.int .i64) (.cons (.int .i64) .nil)))))) .nil)) = f38  k x.1 := by kernel_rfl
def s38 (l : List (ByteArray × (Int × Int × Unit) × Int × Int × Unit)) : Option ((List (ByteArray × (Int × Int × Unit) × Int × Int × Unit)) × Unit) := if l.length ≤ 4294967296 then some (l, ()) else none
/-! ### slices.Clone[[]jitney/api.Charged,jitney/api.Charged] -/
def f39  (k : Nat) (x0 : List (ByteArray × ByteArray × Int × Int × Int × Unit)) : Option ((List (ByteArray × ByteArray × Int × Int × Int × Unit)) × Unit) :=
  bif Nat.ble (List.length x0) 0 then
    none
  else
    bif decide (List.length ([] : List (ByteArray × ByteArray × Int × Int × Int × Unit)) + List.length x0 ≤ 4294967296) then
      some ((([] : List (ByteArray × ByteArray × Int × Int × Int × Unit)) ++ x0), ())
    else
      none
def H39 : Hints where
  loop := fun n => match n with
    | _ => none
  region := fun n => match n with
    | _ => none
  cond := fun n => match n with
    | _ => none
  block := fun n => match n with
    | _ => none
abbrev A39 : Tys := (.cons (.slice (.struct (.cons .str (.cons .str (.cons (.int .i64) (.cons (.int .i64) (.cons (.int .i64) .nil))))))) .nil)
def ts39 : List (Nat × TD) := [(57, (.data (.slice (.struct (.cons .str (.cons .str (.cons (.int .i64) (.cons (.int .i64) (.cons (.int .i64) .nil)))))))))]
noncomputable def fs39  : List (Nat × FSem) := []
noncomputable def body39 : Code := match Try.f39.body with | some c => c | none => .skip
theorem ty39 : chkTypes Try.prog ts39 = true := by kernel_rfl
theorem ev39  (k : Nat) (x : ((.cons (.slice (.struct (.cons .str (.cons .str (.cons (.int .i64) (.cons (.int .i64) (.cons (.int .i64) .nil))))))) .nil) : Tys).den) : evFun (mkEnv ts39 (fs39 )) H39 k body39 8 [.tmp 2] (explodes (.cons (.slice (.struct (.cons .str (.cons .str (.cons (.int .i64) (.cons (.int .i64) (.cons (.int .i64) .nil))))))) .nil) x) [] (dec (.cons (.slice (.struct (.cons .str (.cons .str (.cons (.int .i64) (.cons (.int .i64) (.cons (.int .i64) .nil))))))) .nil)) = f39  k x.1 := by kernel_rfl
def s39 (l : List (ByteArray × ByteArray × Int × Int × Int × Unit)) : Option ((List (ByteArray × ByteArray × Int × Int × Int × Unit)) × Unit) := if l.length ≤ 4294967296 then some (l, ()) else none
/-! ### jitney/fleet.Low -/
def f40 (g136 : (ByteArray × Int × Int × Int × Int × Unit) → (List (ByteArray × (Int × Int × Unit) × Int × Int × Unit)) → (List (ByteArray × ByteArray × Int × Int × Int × Unit)) → Int → (Int)) (g217 : ByteArray → (List (ByteArray × (Int × Int × Unit) × Int × Int × Unit)) → (List (ByteArray × ByteArray × Int × Int × Int × Unit)) → Option ((List (Int × Int × Int × Unit)) × Unit)) (k : Nat) (x0 : (ByteArray × Int × Int × Int × Int × Unit)) (x1 : List (ByteArray × (Int × Int × Unit) × Int × Int × Unit)) (x2 : List (ByteArray × ByteArray × Int × Int × Int × Unit)) (x3 : Int) : Option (Int × Int × Unit) :=
  bif ((g136 x0 x1 x2 x3) != (0 : Int)) then
    some ((0 : Int), (g136 x0 x1 x2 x3), ())
  else
    Option.bind (g217 x0.1 x1 x2) fun v1 =>
    Option.bind (α := (Int × Int × Unit) ⊕ ((Unit) × (Int × Unit))) (iter (σ := (Int × Int × Unit) × (Int × Unit)) (τ := (Int × Int × Unit) ⊕ ((Unit) × (Int × Unit))) k (fun y2 =>
        bif (decide (y2.1.2.1 < ((List.length v1.1 : Nat) : Int))) then
          bif (inR y2.1.2.1 ((List.length v1.1 : Nat) : Int)) then
            bif (decide ((rd (α := (Int × Int × Int × Unit)) ((0 : Int), (0 : Int), (0 : Int), ()) v1.1 y2.1.2.1).1 > (345686400000 : Int))) then
              some (.inr (.inl (y2.2.1, (0 : Int), ())))
            else
              Option.bind (α := (((Int × Int × Unit) × (Int × Unit)) ⊕ ((Int × Int × Unit) ⊕ ((Unit) × (Int × Unit)))) ⊕ ((Int × Unit) × (Unit))) (
                  bif ((rd (α := (Int × Int × Int × Unit)) ((0 : Int), (0 : Int), (0 : Int), ()) v1.1 y2.1.2.1).2.1 == (0 : Int)) then
                    some (.inr (((if (decide ((rd (α := (Int × Int × Int × Unit)) ((0 : Int), (0 : Int), (0 : Int), ()) v1.1 y2.1.2.1).2.2.1 > y2.1.1)) then (rd (α := (Int × Int × Int × Unit)) ((0 : Int), (0 : Int), (0 : Int), ()) v1.1 y2.1.2.1).2.2.1 else y2.1.1), ()), ()))
                  else
                    some (.inr (((IntKind.i64.wrap (y2.1.1 - (rd (α := (Int × Int × Int × Unit)) ((0 : Int), (0 : Int), (0 : Int), ()) v1.1 y2.1.2.1).2.2.1)), ()), ()))) fun r => match r with
              | .inl z => some z
              | .inr y3 =>
                some (.inl ((y3.1.1, (IntKind.i64.wrap (y2.1.2.1 + (1 : Int))), ()), ((if (decide (y3.1.1 < y2.2.1)) then y3.1.1 else y2.2.1), ())))
          else
            none
        else
          some (.inr (.inr ((), (y2.2.1, ()))))) ((x3, (0 : Int), ()), ((if (decide (x3 < x3)) then x3 else x3), ()))) fun r => match r with
    | .inl z => some z
    | .inr z4 =>
      some (z4.2.1, (0 : Int), ())
def H40 : Hints where
  loop := fun n => match n with
    | _ => none
  region := fun n => match n with
    | _ => none
  cond := fun n => match n with
    | _ => none
  block := fun n => match n with
    | _ => none
def Hi40_139 : Hints where
  loop := fun n => match n with
    | _ => none
  region := fun n => match n with
    | _ => none
  cond := fun n => match n with
    | _ => none
  block := fun n => match n with
    | _ => none
def tsi40_139 : List (Nat × TD) := [(3, (.data (.int .i64)))]
noncomputable def bodyi40_139 : Code := match Try.f139.body with | some c => c | none => .skip
noncomputable def fsi40_139 (g136 : (ByteArray × Int × Int × Int × Int × Unit) → (List (ByteArray × (Int × Int × Unit) × Int × Int × Unit)) → (List (ByteArray × ByteArray × Int × Int × Int × Unit)) → Int → (Int)) (g217 : ByteArray → (List (ByteArray × (Int × Int × Unit) × Int × Int × Unit)) → (List (ByteArray × ByteArray × Int × Int × Int × Unit)) → Option ((List (Int × Int × Int × Unit)) × Unit)) (k : Nat) : List (Nat × FSem) := []
theorem tyi40_139 : chkTypes Try.prog tsi40_139 = true := by kernel_rfl
def Hi40_138 : Hints where
  loop := fun n => match n with
    | 0 => some ({ slots := [(3, (.int .i64)), (22, (.int .i64))], objs := [(0, (.box (.data (.int .i64)) (.int .i64)))], gone := [] }, 0, { slots := [], objs := [(0, (.box (.data (.int .i64)) (.int .i64)))], gone := [] })
    | _ => none
  region := fun n => match n with
    | _ => none
  cond := fun n => match n with
    | 32 => some { slots := [(3, (.int .i64))], objs := [], gone := [] }
    | _ => none
  block := fun n => match n with
    | _ => none
def tsi40_138 : List (Nat × TD) := [(3, (.data (.int .i64))), (264, (.data (.slice (.struct (.cons (.int .i64) (.cons (.int .i64) (.cons (.int .i64) .nil))))))), (267, (.data (.struct (.cons (.int .i64) (.cons (.int .i64) (.cons (.int .i64) .nil))))))]
noncomputable def bodyi40_138 : Code := match Try.f138.body with | some c => c | none => .skip
noncomputable def fsi40_138 (g136 : (ByteArray × Int × Int × Int × Int × Unit) → (List (ByteArray × (Int × Int × Unit) × Int × Int × Unit)) → (List (ByteArray × ByteArray × Int × Int × Int × Unit)) → Int → (Int)) (g217 : ByteArray → (List (ByteArray × (Int × Int × Unit) × Int × Int × Unit)) → (List (ByteArray × ByteArray × Int × Int × Int × Unit)) → Option ((List (Int × Int × Int × Unit)) × Unit)) (k : Nat) : List (Nat × FSem) := [(139, .ev (mkEnv tsi40_139 (fsi40_139 g136 g217 k)) Hi40_139 k bodyi40_139 6 []), (217, .pfn (.cons .str (.cons (.slice (.struct (.cons .str (.cons (.struct (.cons (.int .i64) (.cons (.int .i64) .nil))) (.cons (.int .i64) (.cons (.int .i64) .nil)))))) (.cons (.slice (.struct (.cons .str (.cons .str (.cons (.int .i64) (.cons (.int .i64) (.cons (.int .i64) .nil))))))) .nil))) (.cons (.slice (.struct (.cons (.int .i64) (.cons (.int .i64) (.cons (.int .i64) .nil))))) .nil) fun x => (g217 x.1 x.2.1 x.2.2.1))]
theorem tyi40_138 : chkTypes Try.prog tsi40_138 = true := by kernel_rfl
abbrev A40 : Tys := (.cons (.struct (.cons .str (.cons (.int .i64) (.cons (.int .i64) (.cons (.int .i64) (.cons (.int .i64) .nil)))))) (.cons (.slice (.struct (.cons .str (.cons (.struct (.cons (.int .i64) (.cons (.int .i64) .nil))) (.cons (.int .i64) (.cons (.int .i64) .nil)))))) (.cons (.slice (.struct (.cons .str (.cons .str (.cons (.int .i64) (.cons (.int .i64) (.cons (.int .i64) .nil))))))) (.cons (.int .i64) .nil))))
def ts40 : List (Nat × TD) := [(3, (.data (.int .i64))), (9, (.data .str)), (25, (.data (.struct (.cons .str (.cons (.int .i64) (.cons (.int .i64) (.cons (.int .i64) (.cons (.int .i64) .nil)))))))), (28, (.data (.int .i64))), (56, (.data (.slice (.struct (.cons .str (.cons (.struct (.cons (.int .i64) (.cons (.int .i64) .nil))) (.cons (.int .i64) (.cons (.int .i64) .nil)))))))), (57, (.data (.slice (.struct (.cons .str (.cons .str (.cons (.int .i64) (.cons (.int .i64) (.cons (.int .i64) .nil)))))))))]
noncomputable def fs40 (g136 : (ByteArray × Int × Int × Int × Int × Unit) → (List (ByteArray × (Int × Int × Unit) × Int × Int × Unit)) → (List (ByteArray × ByteArray × Int × Int × Int × Unit)) → Int → (Int)) (g217 : ByteArray → (List (ByteArray × (Int × Int × Unit) × Int × Int × Unit)) → (List (ByteArray × ByteArray × Int × Int × Int × Unit)) → Option ((List (Int × Int × Int × Unit)) × Unit)) (k : Nat) : List (Nat × FSem) := [(136, .fn (.cons (.struct (.cons .str (.cons (.int .i64) (.cons (.int .i64) (.cons (.int .i64) (.cons (.int .i64) .nil)))))) (.cons (.slice (.struct (.cons .str (.cons (.struct (.cons (.int .i64) (.cons (.int .i64) .nil))) (.cons (.int .i64) (.cons (.int .i64) .nil)))))) (.cons (.slice (.struct (.cons .str (.cons .str (.cons (.int .i64) (.cons (.int .i64) (.cons (.int .i64) .nil))))))) (.cons (.int .i64) .nil)))) (.cons (.int .i64) .nil) fun x => ((g136 x.1 x.2.1 x.2.2.1 x.2.2.2.1), ())), (138, .ev (mkEnv tsi40_138 (fsi40_138 g136 g217 k)) Hi40_138 k bodyi40_138 45 [])]
noncomputable def body40 : Code := match Try.f40.body with | some c => c | none => .skip
theorem ty40 : chkTypes Try.prog ts40 = true := by kernel_rfl
theorem ev40 (g136 : (ByteArray × Int × Int × Int × Int × Unit) → (List (ByteArray × (Int × Int × Unit) × Int × Int × Unit)) → (List (ByteArray × ByteArray × Int × Int × Int × Unit)) → Int → (Int)) (g217 : ByteArray → (List (ByteArray × (Int × Int × Unit) × Int × Int × Unit)) → (List (ByteArray × ByteArray × Int × Int × Int × Unit)) → Option ((List (Int × Int × Int × Unit)) × Unit)) (k : Nat) (x : ((.cons (.struct (.cons .str (.cons (.int .i64) (.cons (.int .i64) (.cons (.int .i64) (.cons (.int .i64) .nil)))))) (.cons (.slice (.struct (.cons .str (.cons (.struct (.cons (.int .i64) (.cons (.int .i64) .nil))) (.cons (.int .i64) (.cons (.int .i64) .nil)))))) (.cons (.slice (.struct (.cons .str (.cons .str (.cons (.int .i64) (.cons (.int .i64) (.cons (.int .i64) .nil))))))) (.cons (.int .i64) .nil)))) : Tys).den) : evFun (mkEnv ts40 (fs40 g136 g217 k)) H40 k body40 29 [.tmp 8, .tmp 9] (explodes (.cons (.struct (.cons .str (.cons (.int .i64) (.cons (.int .i64) (.cons (.int .i64) (.cons (.int .i64) .nil)))))) (.cons (.slice (.struct (.cons .str (.cons (.struct (.cons (.int .i64) (.cons (.int .i64) .nil))) (.cons (.int .i64) (.cons (.int .i64) .nil)))))) (.cons (.slice (.struct (.cons .str (.cons .str (.cons (.int .i64) (.cons (.int .i64) (.cons (.int .i64) .nil))))))) (.cons (.int .i64) .nil)))) x) [] (dec (.cons (.int .i64) (.cons (.int .i64) .nil))) = f40 g136 g217 k x.1 x.2.1 x.2.2.1 x.2.2.2.1 := by kernel_rfl
/-! ### jitney/jitref2.RunsFault -/
def f41 (g31 : ByteArray → (Bool)) (g115 : Int → Int → Int → (Bool)) (k : Nat) (x0 : List (ByteArray × (Int × Int × Unit) × Int × Int × Unit)) : Option (Int × Unit) :=
  bif (decide (((List.length x0 : Nat) : Int) > (1000 : Int))) then
    some ((2 : Int), ())
  else
    Option.bind (α := (Int × Unit) ⊕ ((Unit) × (Unit))) (iter (σ := (Int × Unit) × (Unit)) (τ := (Int × Unit) ⊕ ((Unit) × (Unit))) k (fun y1 =>
        bif (decide (y1.1.1 < ((List.length x0 : Nat) : Int))) then
          bif (inR y1.1.1 ((List.length x0 : Nat) : Int)) then
            bif (!(g31 ((rd (α := (ByteArray × (Int × Int × Unit) × Int × Int × Unit)) (ByteArray.empty, ((0 : Int), (0 : Int), ()), (0 : Int), (0 : Int), ()) x0 y1.1.1).1))) then
              some (.inr (.inl ((5 : Int), ())))
            else
              bif (decide ((rd (α := (ByteArray × (Int × Int × Unit) × Int × Int × Unit)) (ByteArray.empty, ((0 : Int), (0 : Int), ()), (0 : Int), (0 : Int), ()) x0 y1.1.1).2.1.1 < (0 : Int))) then
                some (.inr (.inl ((1 : Int), ())))
              else
                bif (decide ((rd (α := (ByteArray × (Int × Int × Unit) × Int × Int × Unit)) (ByteArray.empty, ((0 : Int), (0 : Int), ()), (0 : Int), (0 : Int), ()) x0 y1.1.1).2.1.1 ≥ (rd (α := (ByteArray × (Int × Int × Unit) × Int × Int × Unit)) (ByteArray.empty, ((0 : Int), (0 : Int), ()), (0 : Int), (0 : Int), ()) x0 y1.1.1).2.1.2.1)) then
                  some (.inr (.inl ((1 : Int), ())))
                else
                  bif (decide ((rd (α := (ByteArray × (Int × Int × Unit) × Int × Int × Unit)) (ByteArray.empty, ((0 : Int), (0 : Int), ()), (0 : Int), (0 : Int), ()) x0 y1.1.1).2.1.2.1 > (345686400000 : Int))) then
                    some (.inr (.inl ((1 : Int), ())))
                  else
                    bif (!(g115 ((rd (α := (ByteArray × (Int × Int × Unit) × Int × Int × Unit)) (ByteArray.empty, ((0 : Int), (0 : Int), ()), (0 : Int), (0 : Int), ()) x0 y1.1.1).2.2.1) (0 : Int) (1000000000 : Int))) then
                      some (.inr (.inl ((1 : Int), ())))
                    else
                      bif (!(g115 ((rd (α := (ByteArray × (Int × Int × Unit) × Int × Int × Unit)) (ByteArray.empty, ((0 : Int), (0 : Int), ()), (0 : Int), (0 : Int), ()) x0 y1.1.1).2.2.2.1) (0 : Int) (1000000 : Int))) then
                        some (.inr (.inl ((1 : Int), ())))
                      else
                        bif (y1.1.1 == (0 : Int)) then
                          some (.inl (((IntKind.i64.wrap (y1.1.1 + (1 : Int))), ()), ()))
                        else
                          bif (inR (IntKind.i64.wrap (y1.1.1 - (1 : Int))) ((List.length x0 : Nat) : Int)) then
                            bif (sLt ((rd (α := (ByteArray × (Int × Int × Unit) × Int × Int × Unit)) (ByteArray.empty, ((0 : Int), (0 : Int), ()), (0 : Int), (0 : Int), ()) x0 y1.1.1).1) ((rd (α := (ByteArray × (Int × Int × Unit) × Int × Int × Unit)) (ByteArray.empty, ((0 : Int), (0 : Int), ()), (0 : Int), (0 : Int), ()) x0 (IntKind.i64.wrap (y1.1.1 - (1 : Int)))).1)) then
                              some (.inr (.inl ((7 : Int), ())))
                            else
                              bif (sEq ((rd (α := (ByteArray × (Int × Int × Unit) × Int × Int × Unit)) (ByteArray.empty, ((0 : Int), (0 : Int), ()), (0 : Int), (0 : Int), ()) x0 y1.1.1).1) ((rd (α := (ByteArray × (Int × Int × Unit) × Int × Int × Unit)) (ByteArray.empty, ((0 : Int), (0 : Int), ()), (0 : Int), (0 : Int), ()) x0 (IntKind.i64.wrap (y1.1.1 - (1 : Int)))).1)) then
                                bif (decide ((rd (α := (ByteArray × (Int × Int × Unit) × Int × Int × Unit)) (ByteArray.empty, ((0 : Int), (0 : Int), ()), (0 : Int), (0 : Int), ()) x0 y1.1.1).2.1.1 < (rd (α := (ByteArray × (Int × Int × Unit) × Int × Int × Unit)) (ByteArray.empty, ((0 : Int), (0 : Int), ()), (0 : Int), (0 : Int), ()) x0 (IntKind.i64.wrap (y1.1.1 - (1 : Int)))).2.1.2.1)) then
                                  some (.inr (.inl ((7 : Int), ())))
                                else
                                  some (.inl (((IntKind.i64.wrap (y1.1.1 + (1 : Int))), ()), ()))
                              else
                                some (.inl (((IntKind.i64.wrap (y1.1.1 + (1 : Int))), ()), ()))
                          else
                            none
          else
            none
        else
          some (.inr (.inr ((), ())))) (((0 : Int), ()), ())) fun r => match r with
    | .inl z => some z
    | .inr z2 =>
      some ((0 : Int), ())
def H41 : Hints where
  loop := fun n => match n with
    | 0 => some ({ slots := [(11, (.int .i64))], objs := [], gone := [] }, 0, { slots := [], objs := [], gone := [] })
    | _ => none
  region := fun n => match n with
    | _ => none
  cond := fun n => match n with
    | _ => none
  block := fun n => match n with
    | _ => none
abbrev A41 : Tys := (.cons (.slice (.struct (.cons .str (.cons (.struct (.cons (.int .i64) (.cons (.int .i64) .nil))) (.cons (.int .i64) (.cons (.int .i64) .nil)))))) .nil)
def ts41 : List (Nat × TD) := [(3, (.data (.int .i64))), (9, (.data .str)), (28, (.data (.int .i64))), (56, (.data (.slice (.struct (.cons .str (.cons (.struct (.cons (.int .i64) (.cons (.int .i64) .nil))) (.cons (.int .i64) (.cons (.int .i64) .nil)))))))), (61, (.data (.struct (.cons (.int .i64) (.cons (.int .i64) .nil))))), (63, (.data (.struct (.cons .str (.cons (.struct (.cons (.int .i64) (.cons (.int .i64) .nil))) (.cons (.int .i64) (.cons (.int .i64) .nil)))))))]
noncomputable def fs41 (g31 : ByteArray → (Bool)) (g115 : Int → Int → Int → (Bool)) : List (Nat × FSem) := [(31, .fn (.cons .str .nil) (.cons .bool .nil) fun x => ((g31 x.1), ())), (115, .fn (.cons (.int .i64) (.cons (.int .i64) (.cons (.int .i64) .nil))) (.cons .bool .nil) fun x => ((g115 x.1 x.2.1 x.2.2.1), ()))]
noncomputable def body41 : Code := match Try.f41.body with | some c => c | none => .skip
theorem ty41 : chkTypes Try.prog ts41 = true := by kernel_rfl
theorem ev41 (g31 : ByteArray → (Bool)) (g115 : Int → Int → Int → (Bool)) (k : Nat) (x : ((.cons (.slice (.struct (.cons .str (.cons (.struct (.cons (.int .i64) (.cons (.int .i64) .nil))) (.cons (.int .i64) (.cons (.int .i64) .nil)))))) .nil) : Tys).den) : evFun (mkEnv ts41 (fs41 g31 g115)) H41 k body41 82 [.tmp 2] (explodes (.cons (.slice (.struct (.cons .str (.cons (.struct (.cons (.int .i64) (.cons (.int .i64) .nil))) (.cons (.int .i64) (.cons (.int .i64) .nil)))))) .nil) x) [] (dec (.cons (.int .i64) .nil)) = f41 g31 g115 k x.1 := by kernel_rfl
/-! ### jitney/jitref2.ChargedFault -/
def f42 (g31 : ByteArray → (Bool)) (g115 : Int → Int → Int → (Bool)) (k : Nat) (x0 : List (ByteArray × ByteArray × Int × Int × Int × Unit)) : Option (Int × Unit) :=
  bif (decide (((List.length x0 : Nat) : Int) > (1000 : Int))) then
    some ((2 : Int), ())
  else
    Option.bind (α := (Int × Unit) ⊕ ((Unit) × (Unit))) (iter (σ := (Int × Unit) × (Unit)) (τ := (Int × Unit) ⊕ ((Unit) × (Unit))) k (fun y1 =>
        bif (decide (y1.1.1 < ((List.length x0 : Nat) : Int))) then
          bif (inR y1.1.1 ((List.length x0 : Nat) : Int)) then
            Option.bind (α := (((Int × Unit) × (Unit)) ⊕ ((Int × Unit) ⊕ ((Unit) × (Unit)))) ⊕ ((Bool × Unit) × (Unit))) (
                bif ((rd (α := (ByteArray × ByteArray × Int × Int × Int × Unit)) (ByteArray.empty, ByteArray.empty, (0 : Int), (0 : Int), (0 : Int), ()) x0 y1.1.1).2.2.1 == (-1 : Int)) then
                  some (.inr ((((rd (α := (ByteArray × ByteArray × Int × Int × Int × Unit)) (ByteArray.empty, ByteArray.empty, (0 : Int), (0 : Int), (0 : Int), ()) x0 y1.1.1).2.2.2.1 == (-1 : Int)), ()), ()))
                else
                  some (.inr ((false, ()), ()))) fun r => match r with
            | .inl z => some z
            | .inr y2 =>
              bif (!(g31 ((rd (α := (ByteArray × ByteArray × Int × Int × Int × Unit)) (ByteArray.empty, ByteArray.empty, (0 : Int), (0 : Int), (0 : Int), ()) x0 y1.1.1).1))) then
                some (.inr (.inl ((5 : Int), ())))
              else
                bif (!(g31 ((rd (α := (ByteArray × ByteArray × Int × Int × Int × Unit)) (ByteArray.empty, ByteArray.empty, (0 : Int), (0 : Int), (0 : Int), ()) x0 y1.1.1).2.1))) then
                  some (.inr (.inl ((5 : Int), ())))
                else
                  bif (!y2.1.1) then
                    bif (!(g115 ((rd (α := (ByteArray × ByteArray × Int × Int × Int × Unit)) (ByteArray.empty, ByteArray.empty, (0 : Int), (0 : Int), (0 : Int), ()) x0 y1.1.1).2.2.1) (0 : Int) ((rd (α := (ByteArray × ByteArray × Int × Int × Int × Unit)) (ByteArray.empty, ByteArray.empty, (0 : Int), (0 : Int), (0 : Int), ()) x0 y1.1.1).2.2.2.1))) then
                      some (.inr (.inl ((1 : Int), ())))
                    else
                      bif (decide ((rd (α := (ByteArray × ByteArray × Int × Int × Int × Unit)) (ByteArray.empty, ByteArray.empty, (0 : Int), (0 : Int), (0 : Int), ()) x0 y1.1.1).2.2.2.1 > (345686400000 : Int))) then
                        some (.inr (.inl ((1 : Int), ())))
                      else
                        bif (!(g115 ((rd (α := (ByteArray × ByteArray × Int × Int × Int × Unit)) (ByteArray.empty, ByteArray.empty, (0 : Int), (0 : Int), (0 : Int), ()) x0 y1.1.1).2.2.2.2.1) (0 : Int) (1000000 : Int))) then
                          some (.inr (.inl ((1 : Int), ())))
                        else
                          some (.inl (((IntKind.i64.wrap (y1.1.1 + (1 : Int))), ()), ()))
                  else
                    bif (!(g115 ((rd (α := (ByteArray × ByteArray × Int × Int × Int × Unit)) (ByteArray.empty, ByteArray.empty, (0 : Int), (0 : Int), (0 : Int), ()) x0 y1.1.1).2.2.2.2.1) (0 : Int) (1000000 : Int))) then
                      some (.inr (.inl ((1 : Int), ())))
                    else
                      some (.inl (((IntKind.i64.wrap (y1.1.1 + (1 : Int))), ()), ()))
          else
            none
        else
          some (.inr (.inr ((), ())))) (((0 : Int), ()), ())) fun r => match r with
    | .inl z => some z
    | .inr z3 =>
      some ((0 : Int), ())
def H42 : Hints where
  loop := fun n => match n with
    | 0 => some ({ slots := [(11, (.int .i64))], objs := [], gone := [] }, 0, { slots := [], objs := [], gone := [] })
    | _ => none
  region := fun n => match n with
    | 6 => some { slots := [(5, .bool)], objs := [], gone := [] }
    | _ => none
  cond := fun n => match n with
    | _ => none
  block := fun n => match n with
    | _ => none
abbrev A42 : Tys := (.cons (.slice (.struct (.cons .str (.cons .str (.cons (.int .i64) (.cons (.int .i64) (.cons (.int .i64) .nil))))))) .nil)
def ts42 : List (Nat × TD) := [(3, (.data (.int .i64))), (9, (.data .str)), (28, (.data (.int .i64))), (57, (.data (.slice (.struct (.cons .str (.cons .str (.cons (.int .i64) (.cons (.int .i64) (.cons (.int .i64) .nil))))))))), (66, (.data (.struct (.cons .str (.cons .str (.cons (.int .i64) (.cons (.int .i64) (.cons (.int .i64) .nil))))))))]
noncomputable def fs42 (g31 : ByteArray → (Bool)) (g115 : Int → Int → Int → (Bool)) : List (Nat × FSem) := [(31, .fn (.cons .str .nil) (.cons .bool .nil) fun x => ((g31 x.1), ())), (115, .fn (.cons (.int .i64) (.cons (.int .i64) (.cons (.int .i64) .nil))) (.cons .bool .nil) fun x => ((g115 x.1 x.2.1 x.2.2.1), ()))]
noncomputable def body42 : Code := match Try.f42.body with | some c => c | none => .skip
theorem ty42 : chkTypes Try.prog ts42 = true := by kernel_rfl
theorem ev42 (g31 : ByteArray → (Bool)) (g115 : Int → Int → Int → (Bool)) (k : Nat) (x : ((.cons (.slice (.struct (.cons .str (.cons .str (.cons (.int .i64) (.cons (.int .i64) (.cons (.int .i64) .nil))))))) .nil) : Tys).den) : evFun (mkEnv ts42 (fs42 g31 g115)) H42 k body42 57 [.tmp 2] (explodes (.cons (.slice (.struct (.cons .str (.cons .str (.cons (.int .i64) (.cons (.int .i64) (.cons (.int .i64) .nil))))))) .nil) x) [] (dec (.cons (.int .i64) .nil)) = f42 g31 g115 k x.1 := by kernel_rfl
/-! ### slices.Compare[[]int,int] -/
def f220 (g128 : Int → Int → (Int)) (k : Nat) (x0 : List Int) (x1 : List Int) : Option (Int × Unit) :=
  Option.bind (α := (Int × Unit) ⊕ ((Unit) × (Unit))) (iter (σ := (Int × Unit) × (Unit)) (τ := (Int × Unit) ⊕ ((Unit) × (Unit))) k (fun y1 =>
      bif (decide (y1.1.1 < ((List.length x0 : Nat) : Int))) then
        bif (inR y1.1.1 ((List.length x0 : Nat) : Int)) then
          bif (decide (y1.1.1 ≥ ((List.length x1 : Nat) : Int))) then
            some (.inr (.inl ((1 : Int), ())))
          else
            bif (inR y1.1.1 ((List.length x1 : Nat) : Int)) then
              bif ((g128 (rd (α := Int) (0 : Int) x0 y1.1.1) (rd (α := Int) (0 : Int) x1 y1.1.1)) != (0 : Int)) then
                some (.inr (.inl ((g128 (rd (α := Int) (0 : Int) x0 y1.1.1) (rd (α := Int) (0 : Int) x1 y1.1.1)), ())))
              else
                some (.inl (((IntKind.i64.wrap (y1.1.1 + (1 : Int))), ()), ()))
            else
              none
        else
          none
      else
        some (.inr (.inr ((), ())))) (((0 : Int), ()), ())) fun r => match r with
  | .inl z => some z
  | .inr z2 =>
    bif (decide (((List.length x0 : Nat) : Int) < ((List.length x1 : Nat) : Int))) then
      some ((-1 : Int), ())
    else
      some ((0 : Int), ())
def H220 : Hints where
  loop := fun n => match n with
    | 0 => some ({ slots := [(11, (.int .i64))], objs := [], gone := [] }, 0, { slots := [], objs := [], gone := [] })
    | _ => none
  region := fun n => match n with
    | _ => none
  cond := fun n => match n with
    | _ => none
  block := fun n => match n with
    | _ => none
abbrev A220 : Tys := (.cons (.slice (.int .i64)) (.cons (.slice (.int .i64)) .nil))
def ts220 : List (Nat × TD) := [(3, (.data (.int .i64))), (78, (.data (.slice (.int .i64))))]
noncomputable def fs220 (g128 : Int → Int → (Int)) : List (Nat × FSem) := [(128, .fn (.cons (.int .i64) (.cons (.int .i64) .nil)) (.cons (.int .i64) .nil) fun x => ((g128 x.1 x.2.1), ()))]
noncomputable def body220 : Code := match Try.f220.body with | some c => c | none => .skip
theorem ty220 : chkTypes Try.prog ts220 = true := by kernel_rfl
theorem ev220 (g128 : Int → Int → (Int)) (k : Nat) (x : ((.cons (.slice (.int .i64)) (.cons (.slice (.int .i64)) .nil)) : Tys).den) : evFun (mkEnv ts220 (fs220 g128)) H220 k body220 36 [.tmp 4] (explodes (.cons (.slice (.int .i64)) (.cons (.slice (.int .i64)) .nil)) x) [] (dec (.cons (.int .i64) .nil)) = f220 g128 k x.1 x.2.1 := by kernel_rfl
/-! ### jitney/jitref2.levelsOf$1 -/
def f219 (g220 : (List Int) → (List Int) → (Int)) (k : Nat) (x0 : (Int × Int × Int × Unit)) (x1 : (Int × Int × Int × Unit)) : Option (Int × Unit) :=
  some ((g220 ([x0.1, x0.2.1]) ([x1.1, x1.2.1])), ())
def H219 : Hints where
  loop := fun n => match n with
    | _ => none
  region := fun n => match n with
    | _ => none
  cond := fun n => match n with
    | _ => none
  block := fun n => match n with
    | _ => none
abbrev A219 : Tys := (.cons (.struct (.cons (.int .i64) (.cons (.int .i64) (.cons (.int .i64) .nil)))) (.cons (.struct (.cons (.int .i64) (.cons (.int .i64) (.cons (.int .i64) .nil)))) .nil))
def ts219 : List (Nat × TD) := [(3, (.data (.int .i64))), (78, (.data (.slice (.int .i64)))), (270, (.data (.struct (.cons (.int .i64) (.cons (.int .i64) (.cons (.int .i64) .nil))))))]
noncomputable def fs219 (g220 : (List Int) → (List Int) → (Int)) : List (Nat × FSem) := [(220, .fn (.cons (.slice (.int .i64)) (.cons (.slice (.int .i64)) .nil)) (.cons (.int .i64) .nil) fun x => ((g220 x.1 x.2.1), ()))]
noncomputable def body219 : Code := match Try.f219.body with | some c => c | none => .skip
theorem ty219 : chkTypes Try.prog ts219 = true := by kernel_rfl
theorem ev219 (g220 : (List Int) → (List Int) → (Int)) (k : Nat) (x : ((.cons (.struct (.cons (.int .i64) (.cons (.int .i64) (.cons (.int .i64) .nil)))) (.cons (.struct (.cons (.int .i64) (.cons (.int .i64) (.cons (.int .i64) .nil)))) .nil)) : Tys).den) : evFun (mkEnv ts219 (fs219 g220)) H219 k body219 16 [.tmp 4] (explodes (.cons (.struct (.cons (.int .i64) (.cons (.int .i64) (.cons (.int .i64) .nil)))) (.cons (.struct (.cons (.int .i64) (.cons (.int .i64) (.cons (.int .i64) .nil)))) .nil)) x) [] (dec (.cons (.int .i64) .nil)) = f219 g220 k x.1 x.2.1 := by kernel_rfl
/-! ### jitney/jitref2.levelsOf -/
def f140 (g218 : List (Int × Int × Int × Unit) → Option (List (Int × Int × Int × Unit))) (k : Nat) (x0 : ByteArray) (x1 : List (ByteArray × (Int × Int × Unit) × Int × Int × Unit)) (x2 : List (ByteArray × ByteArray × Int × Int × Int × Unit)) (x3 : Int) : Option ((List Int) × (List Int) × Unit) :=
  Option.bind (α := ((List Int) × (List Int) × Unit) ⊕ (((List (Int × Int × Int × Unit)) × Unit) × (Unit))) (iter (σ := ((List (Int × Int × Int × Unit)) × Int × Unit) × (Unit)) (τ := ((List Int) × (List Int) × Unit) ⊕ (((List (Int × Int × Int × Unit)) × Unit) × (Unit))) k (fun y1 =>
      bif (decide (y1.1.2.1 < ((List.length x2 : Nat) : Int))) then
        bif (inR y1.1.2.1 ((List.length x2 : Nat) : Int)) then
          bif (sEq ((rd (α := (ByteArray × ByteArray × Int × Int × Int × Unit)) (ByteArray.empty, ByteArray.empty, (0 : Int), (0 : Int), (0 : Int), ()) x2 y1.1.2.1).1) x0) then
            bif (decide ((rd (α := (ByteArray × ByteArray × Int × Int × Int × Unit)) (ByteArray.empty, ByteArray.empty, (0 : Int), (0 : Int), (0 : Int), ()) x2 y1.1.2.1).2.2.2.1 ≥ (0 : Int))) then
              bif decide (List.length y1.1.1 + List.length ([((rd (α := (ByteArray × ByteArray × Int × Int × Int × Unit)) (ByteArray.empty, ByteArray.empty, (0 : Int), (0 : Int), (0 : Int), ()) x2 y1.1.2.1).2.2.2.1, (0 : Int), (rd (α := (ByteArray × ByteArray × Int × Int × Int × Unit)) (ByteArray.empty, ByteArray.empty, (0 : Int), (0 : Int), (0 : Int), ()) x2 y1.1.2.1).2.2.2.2.1, ())]) ≤ 4294967296) then
                some (.inl (((y1.1.1 ++ [((rd (α := (ByteArray × ByteArray × Int × Int × Int × Unit)) (ByteArray.empty, ByteArray.empty, (0 : Int), (0 : Int), (0 : Int), ()) x2 y1.1.2.1).2.2.2.1, (0 : Int), (rd (α := (ByteArray × ByteArray × Int × Int × Int × Unit)) (ByteArray.empty, ByteArray.empty, (0 : Int), (0 : Int), (0 : Int), ()) x2 y1.1.2.1).2.2.2.2.1, ())]), (IntKind.i64.wrap (y1.1.2.1 + (1 : Int))), ()), ()))
              else
                none
            else
              some (.inl ((y1.1.1, (IntKind.i64.wrap (y1.1.2.1 + (1 : Int))), ()), ()))
          else
            some (.inl ((y1.1.1, (IntKind.i64.wrap (y1.1.2.1 + (1 : Int))), ()), ()))
        else
          none
      else
        some (.inr (.inr ((y1.1.1, ()), ())))) (([], (0 : Int), ()), ())) fun r => match r with
  | .inl z => some z
  | .inr z2 =>
    Option.bind (α := ((List Int) × (List Int) × Unit) ⊕ (((List (Int × Int × Int × Unit)) × Unit) × (Unit))) (iter (σ := ((List (Int × Int × Int × Unit)) × Int × Unit) × (Unit)) (τ := ((List Int) × (List Int) × Unit) ⊕ (((List (Int × Int × Int × Unit)) × Unit) × (Unit))) k (fun y3 =>
        bif (decide (y3.1.2.1 < ((List.length x1 : Nat) : Int))) then
          bif (inR y3.1.2.1 ((List.length x1 : Nat) : Int)) then
            bif (sEq ((rd (α := (ByteArray × (Int × Int × Unit) × Int × Int × Unit)) (ByteArray.empty, ((0 : Int), (0 : Int), ()), (0 : Int), (0 : Int), ()) x1 y3.1.2.1).1) x0) then
              bif decide (List.length y3.1.1 + List.length ([((rd (α := (ByteArray × (Int × Int × Unit) × Int × Int × Unit)) (ByteArray.empty, ((0 : Int), (0 : Int), ()), (0 : Int), (0 : Int), ()) x1 y3.1.2.1).2.1.2.1, (1 : Int), (rd (α := (ByteArray × (Int × Int × Unit) × Int × Int × Unit)) (ByteArray.empty, ((0 : Int), (0 : Int), ()), (0 : Int), (0 : Int), ()) x1 y3.1.2.1).2.2.2.1, ())]) ≤ 4294967296) then
                some (.inl (((y3.1.1 ++ [((rd (α := (ByteArray × (Int × Int × Unit) × Int × Int × Unit)) (ByteArray.empty, ((0 : Int), (0 : Int), ()), (0 : Int), (0 : Int), ()) x1 y3.1.2.1).2.1.2.1, (1 : Int), (rd (α := (ByteArray × (Int × Int × Unit) × Int × Int × Unit)) (ByteArray.empty, ((0 : Int), (0 : Int), ()), (0 : Int), (0 : Int), ()) x1 y3.1.2.1).2.2.2.1, ())]), (IntKind.i64.wrap (y3.1.2.1 + (1 : Int))), ()), ()))
              else
                none
            else
              some (.inl ((y3.1.1, (IntKind.i64.wrap (y3.1.2.1 + (1 : Int))), ()), ()))
          else
            none
        else
          some (.inr (.inr ((y3.1.1, ()), ())))) ((z2.1.1, (0 : Int), ()), ())) fun r => match r with
    | .inl z => some z
    | .inr z4 =>
      Option.bind (g218 z4.1.1) fun v5 =>
      Option.bind (α := ((List Int) × (List Int) × Unit) ⊕ (((List Int) × (List Int) × Unit) × (Unit))) (iter (σ := ((List Int) × (List Int) × Int × Unit) × (Unit)) (τ := ((List Int) × (List Int) × Unit) ⊕ (((List Int) × (List Int) × Unit) × (Unit))) k (fun y6 =>
          bif (decide (y6.1.2.2.1 < ((List.length v5 : Nat) : Int))) then
            bif (inR y6.1.2.2.1 ((List.length v5 : Nat) : Int)) then
              bif (inR y6.1.2.2.1 ((List.length v5 : Nat) : Int)) then
                bif (inR (IntKind.i64.wrap (((List.length y6.1.2.1 : Nat) : Int) - (1 : Int))) ((List.length y6.1.2.1 : Nat) : Int)) then
                  bif (inR (IntKind.i64.wrap (((List.length y6.1.2.1 : Nat) : Int) - (1 : Int))) ((List.length y6.1.2.1 : Nat) : Int)) then
                    Option.bind (α := ((((List Int) × (List Int) × Int × Unit) × (Unit)) ⊕ (((List Int) × (List Int) × Unit) ⊕ (((List Int) × (List Int) × Unit) × (Unit)))) ⊕ ((Int × Unit) × (Unit))) (
                        bif ((rd (α := (Int × Int × Int × Unit)) ((0 : Int), (0 : Int), (0 : Int), ()) v5 y6.1.2.2.1).2.1 == (0 : Int)) then
                          some (.inr (((if (decide ((rd (α := (Int × Int × Int × Unit)) ((0 : Int), (0 : Int), (0 : Int), ()) v5 y6.1.2.2.1).2.2.1 > (rd (α := Int) (0 : Int) y6.1.2.1 (IntKind.i64.wrap (((List.length y6.1.2.1 : Nat) : Int) - (1 : Int)))))) then (rd (α := (Int × Int × Int × Unit)) ((0 : Int), (0 : Int), (0 : Int), ()) v5 y6.1.2.2.1).2.2.1 else (rd (α := Int) (0 : Int) y6.1.2.1 (IntKind.i64.wrap (((List.length y6.1.2.1 : Nat) : Int) - (1 : Int))))), ()), ()))
                        else
                          some (.inr (((IntKind.i64.wrap ((rd (α := Int) (0 : Int) y6.1.2.1 (IntKind.i64.wrap (((List.length y6.1.2.1 : Nat) : Int) - (1 : Int)))) - (rd (α := (Int × Int × Int × Unit)) ((0 : Int), (0 : Int), (0 : Int), ()) v5 y6.1.2.2.1).2.2.1)), ()), ()))) fun r => match r with
                    | .inl z => some z
                    | .inr y7 =>
                      bif decide (List.length y6.1.1 + List.length ([(rd (α := (Int × Int × Int × Unit)) ((0 : Int), (0 : Int), (0 : Int), ()) v5 y6.1.2.2.1).1]) ≤ 4294967296) then
                        bif decide (List.length y6.1.2.1 + List.length ([y7.1.1]) ≤ 4294967296) then
                          some (.inl (((y6.1.1 ++ [(rd (α := (Int × Int × Int × Unit)) ((0 : Int), (0 : Int), (0 : Int), ()) v5 y6.1.2.2.1).1]), (y6.1.2.1 ++ [y7.1.1]), (IntKind.i64.wrap (y6.1.2.2.1 + (1 : Int))), ()), ()))
                        else
                          none
                      else
                        none
                  else
                    none
                else
                  none
              else
                none
            else
              none
          else
            some (.inr (.inr ((y6.1.1, y6.1.2.1, ()), ())))) (([(-1 : Int)], [x3], (0 : Int), ()), ())) fun r => match r with
      | .inl z => some z
      | .inr z8 =>
        some (z8.1.1, z8.1.2.1, ())
def H140 : Hints where
  loop := fun n => match n with
    | 0 => some ({ slots := [(10, (.row (.struct (.cons (.int .i64) (.cons (.int .i64) (.cons (.int .i64) .nil)))))), (22, (.int .i64))], objs := [], gone := [] }, 0, { slots := [(10, (.row (.struct (.cons (.int .i64) (.cons (.int .i64) (.cons (.int .i64) .nil))))))], objs := [], gone := [] })
    | 2 => some ({ slots := [(10, (.row (.struct (.cons (.int .i64) (.cons (.int .i64) (.cons (.int .i64) .nil)))))), (46, (.int .i64))], objs := [], gone := [0] }, 2, { slots := [(10, (.row (.struct (.cons (.int .i64) (.cons (.int .i64) (.cons (.int .i64) .nil))))))], objs := [], gone := [0] })
    | 4 => some ({ slots := [(15, (.row (.int .i64))), (16, (.row (.int .i64))), (71, (.int .i64))], objs := [], gone := [2, 3] }, 4, { slots := [(15, (.row (.int .i64))), (16, (.row (.int .i64)))], objs := [], gone := [2, 3] })
    | _ => none
  region := fun n => match n with
    | _ => none
  cond := fun n => match n with
    | 83 => some { slots := [(19, (.int .i64))], objs := [], gone := [] }
    | _ => none
  block := fun n => match n with
    | _ => none
abbrev A140 : Tys := (.cons .str (.cons (.slice (.struct (.cons .str (.cons (.struct (.cons (.int .i64) (.cons (.int .i64) .nil))) (.cons (.int .i64) (.cons (.int .i64) .nil)))))) (.cons (.slice (.struct (.cons .str (.cons .str (.cons (.int .i64) (.cons (.int .i64) (.cons (.int .i64) .nil))))))) (.cons (.int .i64) .nil))))
def ts140 : List (Nat × TD) := [(3, (.data (.int .i64))), (9, (.data .str)), (56, (.data (.slice (.struct (.cons .str (.cons (.struct (.cons (.int .i64) (.cons (.int .i64) .nil))) (.cons (.int .i64) (.cons (.int .i64) .nil)))))))), (57, (.data (.slice (.struct (.cons .str (.cons .str (.cons (.int .i64) (.cons (.int .i64) (.cons (.int .i64) .nil))))))))), (61, (.data (.struct (.cons (.int .i64) (.cons (.int .i64) .nil))))), (63, (.data (.struct (.cons .str (.cons (.struct (.cons (.int .i64) (.cons (.int .i64) .nil))) (.cons (.int .i64) (.cons (.int .i64) .nil))))))), (66, (.data (.struct (.cons .str (.cons .str (.cons (.int .i64) (.cons (.int .i64) (.cons (.int .i64) .nil)))))))), (78, (.data (.slice (.int .i64)))), (268, (.data (.slice (.struct (.cons (.int .i64) (.cons (.int .i64) (.cons (.int .i64) .nil))))))), (270, (.data (.struct (.cons (.int .i64) (.cons (.int .i64) (.cons (.int .i64) .nil))))))]
noncomputable def fs140 (g218 : List (Int × Int × Int × Unit) → Option (List (Int × Int × Int × Unit))) : List (Nat × FSem) := [(218, .rfn (.struct (.cons (.int .i64) (.cons (.int .i64) (.cons (.int .i64) .nil)))) .nil 219 fun xs a => g218 xs )]
noncomputable def body140 : Code := match Try.f140.body with | some c => c | none => .skip
theorem ty140 : chkTypes Try.prog ts140 = true := by kernel_rfl
theorem ev140 (g218 : List (Int × Int × Int × Unit) → Option (List (Int × Int × Int × Unit))) (k : Nat) (x : ((.cons .str (.cons (.slice (.struct (.cons .str (.cons (.struct (.cons (.int .i64) (.cons (.int .i64) .nil))) (.cons (.int .i64) (.cons (.int .i64) .nil)))))) (.cons (.slice (.struct (.cons .str (.cons .str (.cons (.int .i64) (.cons (.int .i64) (.cons (.int .i64) .nil))))))) (.cons (.int .i64) .nil)))) : Tys).den) : evFun (mkEnv ts140 (fs140 g218)) H140 k body140 104 [.tmp 8, .tmp 9] (explodes (.cons .str (.cons (.slice (.struct (.cons .str (.cons (.struct (.cons (.int .i64) (.cons (.int .i64) .nil))) (.cons (.int .i64) (.cons (.int .i64) .nil)))))) (.cons (.slice (.struct (.cons .str (.cons .str (.cons (.int .i64) (.cons (.int .i64) (.cons (.int .i64) .nil))))))) (.cons (.int .i64) .nil)))) x) [] (dec (.cons (.slice (.int .i64)) (.cons (.slice (.int .i64)) .nil))) = f140 g218 k x.1 x.2.1 x.2.2.1 x.2.2.2.1 := by kernel_rfl
/-! ### jitney/jitref2.LevelAt -/
def f43 (g140 : ByteArray → (List (ByteArray × (Int × Int × Unit) × Int × Int × Unit)) → (List (ByteArray × ByteArray × Int × Int × Int × Unit)) → Int → Option ((List Int) × (List Int) × Unit)) (k : Nat) (x0 : ByteArray) (x1 : List (ByteArray × (Int × Int × Unit) × Int × Int × Unit)) (x2 : List (ByteArray × ByteArray × Int × Int × Int × Unit)) (x3 : Int) (x4 : Int) : Option (Int × Unit) :=
  Option.bind (g140 x0 x1 x2 x3) fun v1 =>
  Option.bind (α := (Int × Unit) ⊕ ((Int × Unit) × (Unit))) (iter (σ := (Int × Int × Unit) × (Unit)) (τ := (Int × Unit) ⊕ ((Int × Unit) × (Unit))) k (fun y2 =>
      bif (decide (y2.1.2.1 < ((List.length v1.1 : Nat) : Int))) then
        bif (inR y2.1.2.1 ((List.length v1.1 : Nat) : Int)) then
          bif (decide ((rd (α := Int) (0 : Int) v1.1 y2.1.2.1) ≤ x4)) then
            bif (inR y2.1.2.1 ((List.length v1.2.1 : Nat) : Int)) then
              some (.inl (((rd (α := Int) (0 : Int) v1.2.1 y2.1.2.1), (IntKind.i64.wrap (y2.1.2.1 + (1 : Int))), ()), ()))
            else
              none
          else
            some (.inl ((y2.1.1, (IntKind.i64.wrap (y2.1.2.1 + (1 : Int))), ()), ()))
        else
          none
      else
        some (.inr (.inr ((y2.1.1, ()), ())))) ((x3, (0 : Int), ()), ())) fun r => match r with
  | .inl z => some z
  | .inr z3 =>
    some (z3.1.1, ())
def H43 : Hints where
  loop := fun n => match n with
    | 0 => some ({ slots := [(13, (.int .i64)), (27, (.int .i64))], objs := [], gone := [] }, 0, { slots := [(13, (.int .i64))], objs := [], gone := [] })
    | _ => none
  region := fun n => match n with
    | _ => none
  cond := fun n => match n with
    | _ => none
  block := fun n => match n with
    | _ => none
abbrev A43 : Tys := (.cons .str (.cons (.slice (.struct (.cons .str (.cons (.struct (.cons (.int .i64) (.cons (.int .i64) .nil))) (.cons (.int .i64) (.cons (.int .i64) .nil)))))) (.cons (.slice (.struct (.cons .str (.cons .str (.cons (.int .i64) (.cons (.int .i64) (.cons (.int .i64) .nil))))))) (.cons (.int .i64) (.cons (.int .i64) .nil)))))
def ts43 : List (Nat × TD) := [(3, (.data (.int .i64))), (9, (.data .str)), (56, (.data (.slice (.struct (.cons .str (.cons (.struct (.cons (.int .i64) (.cons (.int .i64) .nil))) (.cons (.int .i64) (.cons (.int .i64) .nil)))))))), (57, (.data (.slice (.struct (.cons .str (.cons .str (.cons (.int .i64) (.cons (.int .i64) (.cons (.int .i64) .nil))))))))), (78, (.data (.slice (.int .i64))))]
noncomputable def fs43 (g140 : ByteArray → (List (ByteArray × (Int × Int × Unit) × Int × Int × Unit)) → (List (ByteArray × ByteArray × Int × Int × Int × Unit)) → Int → Option ((List Int) × (List Int) × Unit)) : List (Nat × FSem) := [(140, .pfn (.cons .str (.cons (.slice (.struct (.cons .str (.cons (.struct (.cons (.int .i64) (.cons (.int .i64) .nil))) (.cons (.int .i64) (.cons (.int .i64) .nil)))))) (.cons (.slice (.struct (.cons .str (.cons .str (.cons (.int .i64) (.cons (.int .i64) (.cons (.int .i64) .nil))))))) (.cons (.int .i64) .nil)))) (.cons (.slice (.int .i64)) (.cons (.slice (.int .i64)) .nil)) fun x => (g140 x.1 x.2.1 x.2.2.1 x.2.2.2.1))]
noncomputable def body43 : Code := match Try.f43.body with | some c => c | none => .skip
theorem ty43 : chkTypes Try.prog ts43 = true := by kernel_rfl
theorem ev43 (g140 : ByteArray → (List (ByteArray × (Int × Int × Unit) × Int × Int × Unit)) → (List (ByteArray × ByteArray × Int × Int × Int × Unit)) → Int → Option ((List Int) × (List Int) × Unit)) (k : Nat) (x : ((.cons .str (.cons (.slice (.struct (.cons .str (.cons (.struct (.cons (.int .i64) (.cons (.int .i64) .nil))) (.cons (.int .i64) (.cons (.int .i64) .nil)))))) (.cons (.slice (.struct (.cons .str (.cons .str (.cons (.int .i64) (.cons (.int .i64) (.cons (.int .i64) .nil))))))) (.cons (.int .i64) (.cons (.int .i64) .nil))))) : Tys).den) : evFun (mkEnv ts43 (fs43 g140)) H43 k body43 41 [.tmp 10] (explodes (.cons .str (.cons (.slice (.struct (.cons .str (.cons (.struct (.cons (.int .i64) (.cons (.int .i64) .nil))) (.cons (.int .i64) (.cons (.int .i64) .nil)))))) (.cons (.slice (.struct (.cons .str (.cons .str (.cons (.int .i64) (.cons (.int .i64) (.cons (.int .i64) .nil))))))) (.cons (.int .i64) (.cons (.int .i64) .nil))))) x) [] (dec (.cons (.int .i64) .nil)) = f43 g140 k x.1 x.2.1 x.2.2.1 x.2.2.2.1 x.2.2.2.2.1 := by kernel_rfl
/-! ### slices.Min[[]int,int] -/
def f141  (k : Nat) (x0 : List Int) : Option (Int × Unit) :=
  bif (decide (((List.length x0 : Nat) : Int) < (1 : Int))) then
    none
  else
    bif (inR (0 : Int) ((List.length x0 : Nat) : Int)) then
      Option.bind (α := (Int × Unit) ⊕ ((Int × Unit) × (Unit))) (iter (σ := (Int × Int × Unit) × (Unit)) (τ := (Int × Unit) ⊕ ((Int × Unit) × (Unit))) k (fun y1 =>
          bif (decide (y1.1.2.1 < ((List.length x0 : Nat) : Int))) then
            bif (inR y1.1.2.1 ((List.length x0 : Nat) : Int)) then
              some (.inl (((if (decide ((rd (α := Int) (0 : Int) x0 y1.1.2.1) < y1.1.1)) then (rd (α := Int) (0 : Int) x0 y1.1.2.1) else y1.1.1), (IntKind.i64.wrap (y1.1.2.1 + (1 : Int))), ()), ()))
            else
              none
          else
            some (.inr (.inr ((y1.1.1, ()), ())))) (((rd (α := Int) (0 : Int) x0 (0 : Int)), (1 : Int), ()), ())) fun r => match r with
      | .inl z => some z
      | .inr z2 =>
        some (z2.1.1, ())
    else
      none
def H141 : Hints where
  loop := fun n => match n with
    | 0 => some ({ slots := [(3, (.int .i64)), (4, (.int .i64))], objs := [], gone := [] }, 0, { slots := [(3, (.int .i64))], objs := [], gone := [] })
    | _ => none
  region := fun n => match n with
    | _ => none
  cond := fun n => match n with
    | _ => none
  block := fun n => match n with
    | _ => none
abbrev A141 : Tys := (.cons (.slice (.int .i64)) .nil)
def ts141 : List (Nat × TD) := [(3, (.data (.int .i64))), (78, (.data (.slice (.int .i64))))]
noncomputable def fs141  : List (Nat × FSem) := []
noncomputable def body141 : Code := match Try.f141.body with | some c => c | none => .skip
theorem ty141 : chkTypes Try.prog ts141 = true := by kernel_rfl
theorem ev141  (k : Nat) (x : ((.cons (.slice (.int .i64)) .nil) : Tys).den) : evFun (mkEnv ts141 (fs141 )) H141 k body141 25 [.tmp 2] (explodes (.cons (.slice (.int .i64)) .nil) x) [] (dec (.cons (.int .i64) .nil)) = f141  k x.1 := by kernel_rfl
/-! ### jitney/jitref2.LowOf -/
def f44 (g140 : ByteArray → (List (ByteArray × (Int × Int × Unit) × Int × Int × Unit)) → (List (ByteArray × ByteArray × Int × Int × Int × Unit)) → Int → Option ((List Int) × (List Int) × Unit)) (g141 : (List Int) → Option (Int × Unit)) (k : Nat) (x0 : ByteArray) (x1 : List (ByteArray × (Int × Int × Unit) × Int × Int × Unit)) (x2 : List (ByteArray × ByteArray × Int × Int × Int × Unit)) (x3 : Int) : Option (Int × Unit) :=
  Option.bind (g140 x0 x1 x2 x3) fun v1 =>
  Option.bind (g141 v1.2.1) fun v2 =>
  some (v2.1, ())
def H44 : Hints where
  loop := fun n => match n with
    | _ => none
  region := fun n => match n with
    | _ => none
  cond := fun n => match n with
    | _ => none
  block := fun n => match n with
    | _ => none
abbrev A44 : Tys := (.cons .str (.cons (.slice (.struct (.cons .str (.cons (.struct (.cons (.int .i64) (.cons (.int .i64) .nil))) (.cons (.int .i64) (.cons (.int .i64) .nil)))))) (.cons (.slice (.struct (.cons .str (.cons .str (.cons (.int .i64) (.cons (.int .i64) (.cons (.int .i64) .nil))))))) (.cons (.int .i64) .nil))))
def ts44 : List (Nat × TD) := [(3, (.data (.int .i64))), (9, (.data .str)), (56, (.data (.slice (.struct (.cons .str (.cons (.struct (.cons (.int .i64) (.cons (.int .i64) .nil))) (.cons (.int .i64) (.cons (.int .i64) .nil)))))))), (57, (.data (.slice (.struct (.cons .str (.cons .str (.cons (.int .i64) (.cons (.int .i64) (.cons (.int .i64) .nil)))))))))]
noncomputable def fs44 (g140 : ByteArray → (List (ByteArray × (Int × Int × Unit) × Int × Int × Unit)) → (List (ByteArray × ByteArray × Int × Int × Int × Unit)) → Int → Option ((List Int) × (List Int) × Unit)) (g141 : (List Int) → Option (Int × Unit)) : List (Nat × FSem) := [(140, .pfn (.cons .str (.cons (.slice (.struct (.cons .str (.cons (.struct (.cons (.int .i64) (.cons (.int .i64) .nil))) (.cons (.int .i64) (.cons (.int .i64) .nil)))))) (.cons (.slice (.struct (.cons .str (.cons .str (.cons (.int .i64) (.cons (.int .i64) (.cons (.int .i64) .nil))))))) (.cons (.int .i64) .nil)))) (.cons (.slice (.int .i64)) (.cons (.slice (.int .i64)) .nil)) fun x => (g140 x.1 x.2.1 x.2.2.1 x.2.2.2.1)), (141, .pfn (.cons (.slice (.int .i64)) .nil) (.cons (.int .i64) .nil) fun x => (g141 x.1))]
noncomputable def body44 : Code := match Try.f44.body with | some c => c | none => .skip
theorem ty44 : chkTypes Try.prog ts44 = true := by kernel_rfl
theorem ev44 (g140 : ByteArray → (List (ByteArray × (Int × Int × Unit) × Int × Int × Unit)) → (List (ByteArray × ByteArray × Int × Int × Int × Unit)) → Int → Option ((List Int) × (List Int) × Unit)) (g141 : (List Int) → Option (Int × Unit)) (k : Nat) (x : ((.cons .str (.cons (.slice (.struct (.cons .str (.cons (.struct (.cons (.int .i64) (.cons (.int .i64) .nil))) (.cons (.int .i64) (.cons (.int .i64) .nil)))))) (.cons (.slice (.struct (.cons .str (.cons .str (.cons (.int .i64) (.cons (.int .i64) (.cons (.int .i64) .nil))))))) (.cons (.int .i64) .nil)))) : Tys).den) : evFun (mkEnv ts44 (fs44 g140 g141)) H44 k body44 21 [.tmp 8] (explodes (.cons .str (.cons (.slice (.struct (.cons .str (.cons (.struct (.cons (.int .i64) (.cons (.int .i64) .nil))) (.cons (.int .i64) (.cons (.int .i64) .nil)))))) (.cons (.slice (.struct (.cons .str (.cons .str (.cons (.int .i64) (.cons (.int .i64) (.cons (.int .i64) .nil))))))) (.cons (.int .i64) .nil)))) x) [] (dec (.cons (.int .i64) .nil)) = f44 g140 g141 k x.1 x.2.1 x.2.2.1 x.2.2.2.1 := by kernel_rfl
/-! ### jitney/jitlaw2.LevelsReckoned -/
def f5 (g14 : (List (ByteArray × Int × Int × Int × Int × Unit)) → (Int)) (g20 : (List Int) → (Int)) (g21 : Bool → Int → (Int)) (g24 : Option (Bool × Unit)) (g32 : Int → (Int)) (g37 : (ByteArray × Int × Int × Int × Int × Unit) → (List (ByteArray × (Int × Int × Unit) × Int × Int × Unit)) → (List (ByteArray × ByteArray × Int × Int × Int × Unit)) → Int → Int → Option (Int × Int × Unit)) (g38 : (List (ByteArray × (Int × Int × Unit) × Int × Int × Unit)) → Option ((List (ByteArray × (Int × Int × Unit) × Int × Int × Unit)) × Unit)) (g39 : (List (ByteArray × ByteArray × Int × Int × Int × Unit)) → Option ((List (ByteArray × ByteArray × Int × Int × Int × Unit)) × Unit)) (g40 : (ByteArray × Int × Int × Int × Int × Unit) → (List (ByteArray × (Int × Int × Unit) × Int × Int × Unit)) → (List (ByteArray × ByteArray × Int × Int × Int × Unit)) → Int → Option (Int × Int × Unit)) (g41 : (List (ByteArray × (Int × Int × Unit) × Int × Int × Unit)) → (Int)) (g42 : (List (ByteArray × ByteArray × Int × Int × Int × Unit)) → (Int)) (g43 : ByteArray → (List (ByteArray × (Int × Int × Unit) × Int × Int × Unit)) → (List (ByteArray × ByteArray × Int × Int × Int × Unit)) → Int → Int → Option (Int × Unit)) (g44 : ByteArray → (List (ByteArray × (Int × Int × Unit) × Int × Int × Unit)) → (List (ByteArray × ByteArray × Int × Int × Int × Unit)) → Int → Option (Int × Unit)) (k : Nat) (x0 : (ByteArray × Int × Int × Int × Int × Unit)) (x1 : List (ByteArray × (Int × Int × Unit) × Int × Int × Unit)) (x2 : List (ByteArray × ByteArray × Int × Int × Int × Unit)) (x3 : Int) (x4 : Int) : Option (Bool × Unit) :=
  Option.bind (g38 x1) fun v1 =>
  Option.bind (g39 x2) fun v2 =>
  Option.bind (g37 x0 v1.1 v2.1 x3 x4) fun v3 =>
  Option.bind (g38 x1) fun v4 =>
  Option.bind (g39 x2) fun v5 =>
  Option.bind (g40 x0 v4.1 v5.1 x3) fun v6 =>
  Option.bind (α := (Bool × Unit) ⊕ ((Int × Unit) × (Unit))) (
      bif (decide (x3 < (0 : Int))) then
        some (.inr (((g20 ([(g14 ([x0])), (g41 x1), (g42 x2), (g21 true (1 : Int))])), ()), ()))
      else
        some (.inr (((g20 ([(g14 ([x0])), (g41 x1), (g42 x2), (g21 (decide (x3 > x0.2.1)) (1 : Int))])), ()), ()))) fun r => match r with
  | .inl z => some z
  | .inr y7 =>
    Option.bind (α := (Bool × Unit) ⊕ ((Int × Unit) × (Unit))) (
        bif ((g20 ([y7.1.1, (g32 x4)])) == (0 : Int)) then
          Option.bind (g43 x0.1 x1 x2 x3 x4) fun v8 =>
          some (.inr ((v8.1, ()), ()))
        else
          some (.inr (((0 : Int), ()), ()))) fun r => match r with
    | .inl z => some z
    | .inr y9 =>
      Option.bind (α := (Bool × Unit) ⊕ ((Int × Unit) × (Unit))) (
          bif (y7.1.1 == (0 : Int)) then
            Option.bind (g44 x0.1 x1 x2 x3) fun v10 =>
            some (.inr ((v10.1, ()), ()))
          else
            some (.inr (((0 : Int), ()), ()))) fun r => match r with
      | .inl z => some z
      | .inr y11 =>
        bif (v3.2.1 == (g20 ([y7.1.1, (g32 x4)]))) then
          bif (v3.1 == y9.1.1) then
            bif (v6.2.1 == y7.1.1) then
              bif (v6.1 == y11.1.1) then
                Option.bind g24 fun v12 =>
                some (v12.1, ())
              else
                some (false, ())
            else
              some (false, ())
          else
            some (false, ())
        else
          some (false, ())
def H5 : Hints where
  loop := fun n => match n with
    | _ => none
  region := fun n => match n with
    | 3 => some { slots := [(15, (.int .i64))], objs := [], gone := [] }
    | _ => none
  cond := fun n => match n with
    | 64 => some { slots := [(17, (.int .i64))], objs := [], gone := [] }
    | 73 => some { slots := [(18, (.int .i64))], objs := [], gone := [] }
    | _ => none
  block := fun n => match n with
    | _ => none
abbrev A5 : Tys := (.cons (.struct (.cons .str (.cons (.int .i64) (.cons (.int .i64) (.cons (.int .i64) (.cons (.int .i64) .nil)))))) (.cons (.slice (.struct (.cons .str (.cons (.struct (.cons (.int .i64) (.cons (.int .i64) .nil))) (.cons (.int .i64) (.cons (.int .i64) .nil)))))) (.cons (.slice (.struct (.cons .str (.cons .str (.cons (.int .i64) (.cons (.int .i64) (.cons (.int .i64) .nil))))))) (.cons (.int .i64) (.cons (.int .i64) .nil)))))
def ts5 : List (Nat × TD) := [(3, (.data (.int .i64))), (4, (.data .bool)), (9, (.data .str)), (22, (.data (.slice (.struct (.cons .str (.cons (.int .i64) (.cons (.int .i64) (.cons (.int .i64) (.cons (.int .i64) .nil))))))))), (25, (.data (.struct (.cons .str (.cons (.int .i64) (.cons (.int .i64) (.cons (.int .i64) (.cons (.int .i64) .nil)))))))), (28, (.data (.int .i64))), (56, (.data (.slice (.struct (.cons .str (.cons (.struct (.cons (.int .i64) (.cons (.int .i64) .nil))) (.cons (.int .i64) (.cons (.int .i64) .nil)))))))), (57, (.data (.slice (.struct (.cons .str (.cons .str (.cons (.int .i64) (.cons (.int .i64) (.cons (.int .i64) .nil))))))))), (184, (.data (.slice (.int .i64))))]
noncomputable def fs5 (g14 : (List (ByteArray × Int × Int × Int × Int × Unit)) → (Int)) (g20 : (List Int) → (Int)) (g21 : Bool → Int → (Int)) (g24 : Option (Bool × Unit)) (g32 : Int → (Int)) (g37 : (ByteArray × Int × Int × Int × Int × Unit) → (List (ByteArray × (Int × Int × Unit) × Int × Int × Unit)) → (List (ByteArray × ByteArray × Int × Int × Int × Unit)) → Int → Int → Option (Int × Int × Unit)) (g38 : (List (ByteArray × (Int × Int × Unit) × Int × Int × Unit)) → Option ((List (ByteArray × (Int × Int × Unit) × Int × Int × Unit)) × Unit)) (g39 : (List (ByteArray × ByteArray × Int × Int × Int × Unit)) → Option ((List (ByteArray × ByteArray × Int × Int × Int × Unit)) × Unit)) (g40 : (ByteArray × Int × Int × Int × Int × Unit) → (List (ByteArray × (Int × Int × Unit) × Int × Int × Unit)) → (List (ByteArray × ByteArray × Int × Int × Int × Unit)) → Int → Option (Int × Int × Unit)) (g41 : (List (ByteArray × (Int × Int × Unit) × Int × Int × Unit)) → (Int)) (g42 : (List (ByteArray × ByteArray × Int × Int × Int × Unit)) → (Int)) (g43 : ByteArray → (List (ByteArray × (Int × Int × Unit) × Int × Int × Unit)) → (List (ByteArray × ByteArray × Int × Int × Int × Unit)) → Int → Int → Option (Int × Unit)) (g44 : ByteArray → (List (ByteArray × (Int × Int × Unit) × Int × Int × Unit)) → (List (ByteArray × ByteArray × Int × Int × Int × Unit)) → Int → Option (Int × Unit)) : List (Nat × FSem) := [(14, .fn (.cons (.slice (.struct (.cons .str (.cons (.int .i64) (.cons (.int .i64) (.cons (.int .i64) (.cons (.int .i64) .nil))))))) .nil) (.cons (.int .i64) .nil) fun x => ((g14 x.1), ())), (20, .fn (.cons (.slice (.int .i64)) .nil) (.cons (.int .i64) .nil) fun x => ((g20 x.1), ())), (21, .fn (.cons .bool (.cons (.int .i64) .nil)) (.cons (.int .i64) .nil) fun x => ((g21 x.1 x.2.1), ())), (24, .pfn .nil (.cons .bool .nil) fun x => g24), (32, .fn (.cons (.int .i64) .nil) (.cons (.int .i64) .nil) fun x => ((g32 x.1), ())), (37, .pfn (.cons (.struct (.cons .str (.cons (.int .i64) (.cons (.int .i64) (.cons (.int .i64) (.cons (.int .i64) .nil)))))) (.cons (.slice (.struct (.cons .str (.cons (.struct (.cons (.int .i64) (.cons (.int .i64) .nil))) (.cons (.int .i64) (.cons (.int .i64) .nil)))))) (.cons (.slice (.struct (.cons .str (.cons .str (.cons (.int .i64) (.cons (.int .i64) (.cons (.int .i64) .nil))))))) (.cons (.int .i64) (.cons (.int .i64) .nil))))) (.cons (.int .i64) (.cons (.int .i64) .nil)) fun x => (g37 x.1 x.2.1 x.2.2.1 x.2.2.2.1 x.2.2.2.2.1)), (38, .pfn (.cons (.slice (.struct (.cons .str (.cons (.struct (.cons (.int .i64) (.cons (.int .i64) .nil))) (.cons (.int .i64) (.cons (.int .i64) .nil)))))) .nil) (.cons (.slice (.struct (.cons .str (.cons (.struct (.cons (.int .i64) (.cons (.int .i64) .nil))) (.cons (.int .i64) (.cons (.int .i64) .nil)))))) .nil) fun x => (g38 x.1)), (39, .pfn (.cons (.slice (.struct (.cons .str (.cons .str (.cons (.int .i64) (.cons (.int .i64) (.cons (.int .i64) .nil))))))) .nil) (.cons (.slice (.struct (.cons .str (.cons .str (.cons (.int .i64) (.cons (.int .i64) (.cons (.int .i64) .nil))))))) .nil) fun x => (g39 x.1)), (40, .pfn (.cons (.struct (.cons .str (.cons (.int .i64) (.cons (.int .i64) (.cons (.int .i64) (.cons (.int .i64) .nil)))))) (.cons (.slice (.struct (.cons .str (.cons (.struct (.cons (.int .i64) (.cons (.int .i64) .nil))) (.cons (.int .i64) (.cons (.int .i64) .nil)))))) (.cons (.slice (.struct (.cons .str (.cons .str (.cons (.int .i64) (.cons (.int .i64) (.cons (.int .i64) .nil))))))) (.cons (.int .i64) .nil)))) (.cons (.int .i64) (.cons (.int .i64) .nil)) fun x => (g40 x.1 x.2.1 x.2.2.1 x.2.2.2.1)), (41, .fn (.cons (.slice (.struct (.cons .str (.cons (.struct (.cons (.int .i64) (.cons (.int .i64) .nil))) (.cons (.int .i64) (.cons (.int .i64) .nil)))))) .nil) (.cons (.int .i64) .nil) fun x => ((g41 x.1), ())), (42, .fn (.cons (.slice (.struct (.cons .str (.cons .str (.cons (.int .i64) (.cons (.int .i64) (.cons (.int .i64) .nil))))))) .nil) (.cons (.int .i64) .nil) fun x => ((g42 x.1), ())), (43, .pfn (.cons .str (.cons (.slice (.struct (.cons .str (.cons (.struct (.cons (.int .i64) (.cons (.int .i64) .nil))) (.cons (.int .i64) (.cons (.int .i64) .nil)))))) (.cons (.slice (.struct (.cons .str (.cons .str (.cons (.int .i64) (.cons (.int .i64) (.cons (.int .i64) .nil))))))) (.cons (.int .i64) (.cons (.int .i64) .nil))))) (.cons (.int .i64) .nil) fun x => (g43 x.1 x.2.1 x.2.2.1 x.2.2.2.1 x.2.2.2.2.1)), (44, .pfn (.cons .str (.cons (.slice (.struct (.cons .str (.cons (.struct (.cons (.int .i64) (.cons (.int .i64) .nil))) (.cons (.int .i64) (.cons (.int .i64) .nil)))))) (.cons (.slice (.struct (.cons .str (.cons .str (.cons (.int .i64) (.cons (.int .i64) (.cons (.int .i64) .nil))))))) (.cons (.int .i64) .nil)))) (.cons (.int .i64) .nil) fun x => (g44 x.1 x.2.1 x.2.2.1 x.2.2.2.1))]
noncomputable def body5 : Code := match Try.f5.body with | some c => c | none => .skip
theorem ty5 : chkTypes Try.prog ts5 = true := by kernel_rfl
theorem ev5 (g14 : (List (ByteArray × Int × Int × Int × Int × Unit)) → (Int)) (g20 : (List Int) → (Int)) (g21 : Bool → Int → (Int)) (g24 : Option (Bool × Unit)) (g32 : Int → (Int)) (g37 : (ByteArray × Int × Int × Int × Int × Unit) → (List (ByteArray × (Int × Int × Unit) × Int × Int × Unit)) → (List (ByteArray × ByteArray × Int × Int × Int × Unit)) → Int → Int → Option (Int × Int × Unit)) (g38 : (List (ByteArray × (Int × Int × Unit) × Int × Int × Unit)) → Option ((List (ByteArray × (Int × Int × Unit) × Int × Int × Unit)) × Unit)) (g39 : (List (ByteArray × ByteArray × Int × Int × Int × Unit)) → Option ((List (ByteArray × ByteArray × Int × Int × Int × Unit)) × Unit)) (g40 : (ByteArray × Int × Int × Int × Int × Unit) → (List (ByteArray × (Int × Int × Unit) × Int × Int × Unit)) → (List (ByteArray × ByteArray × Int × Int × Int × Unit)) → Int → Option (Int × Int × Unit)) (g41 : (List (ByteArray × (Int × Int × Unit) × Int × Int × Unit)) → (Int)) (g42 : (List (ByteArray × ByteArray × Int × Int × Int × Unit)) → (Int)) (g43 : ByteArray → (List (ByteArray × (Int × Int × Unit) × Int × Int × Unit)) → (List (ByteArray × ByteArray × Int × Int × Int × Unit)) → Int → Int → Option (Int × Unit)) (g44 : ByteArray → (List (ByteArray × (Int × Int × Unit) × Int × Int × Unit)) → (List (ByteArray × ByteArray × Int × Int × Int × Unit)) → Int → Option (Int × Unit)) (k : Nat) (x : ((.cons (.struct (.cons .str (.cons (.int .i64) (.cons (.int .i64) (.cons (.int .i64) (.cons (.int .i64) .nil)))))) (.cons (.slice (.struct (.cons .str (.cons (.struct (.cons (.int .i64) (.cons (.int .i64) .nil))) (.cons (.int .i64) (.cons (.int .i64) .nil)))))) (.cons (.slice (.struct (.cons .str (.cons .str (.cons (.int .i64) (.cons (.int .i64) (.cons (.int .i64) .nil))))))) (.cons (.int .i64) (.cons (.int .i64) .nil))))) : Tys).den) : evFun (mkEnv ts5 (fs5 g14 g20 g21 g24 g32 g37 g38 g39 g40 g41 g42 g43 g44)) H5 k body5 101 [.tmp 10] (explodes (.cons (.struct (.cons .str (.cons (.int .i64) (.cons (.int .i64) (.cons (.int .i64) (.cons (.int .i64) .nil)))))) (.cons (.slice (.struct (.cons .str (.cons (.struct (.cons (.int .i64) (.cons (.int .i64) .nil))) (.cons (.int .i64) (.cons (.int .i64) .nil)))))) (.cons (.slice (.struct (.cons .str (.cons .str (.cons (.int .i64) (.cons (.int .i64) (.cons (.int .i64) .nil))))))) (.cons (.int .i64) (.cons (.int .i64) .nil))))) x) [] (dec (.cons .bool .nil)) = f5 g14 g20 g21 g24 g32 g37 g38 g39 g40 g41 g42 g43 g44 k x.1 x.2.1 x.2.2.1 x.2.2.2.1 x.2.2.2.2.1 := by kernel_rfl
end Go.Vm
