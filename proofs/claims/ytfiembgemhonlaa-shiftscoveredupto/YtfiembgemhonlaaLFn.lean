/- The program's functions, as an own tool reads them off its form. -/
import Derived.Test.YtfiembgemhonlaaBFn
import Derived.Test.YtfiembgemhonlaaVmD
import Derived.Test.YtfiembgemhonlaaProg
set_option maxRecDepth 100000
set_option linter.unusedVariables false
namespace Go.Vm
open Go.Proofs
/-! ### jitney/jitref2.Moment -/
def f125 (g115 : Int → Int → Int → (Bool)) (k : Nat) (x0 : Int) : Option (Bool × Unit) :=
  some ((g115 x0 (0 : Int) (345686399999 : Int)), ())
/-! ### jitney/jitlaw2.momentFault -/
/-! ### jitney/base.Moment -/
/-! ### jitney/fleet.CheckTrips -/
def f146 (g113 : ByteArray → (Bool)) (g114 : Int → Int → Int → (Bool)) (k : Nat) (x0 : List (ByteArray × (Int × Int × Unit) × Int × Int × Unit)) : Option (Int × Unit) :=
  bif (decide (((List.length x0 : Nat) : Int) > (1000 : Int))) then
    some ((2 : Int), ())
  else
    Option.bind (α := (Int × Unit) ⊕ ((Unit) × (Unit))) (iter (σ := (Int × Unit) × (Unit)) (τ := (Int × Unit) ⊕ ((Unit) × (Unit))) k (fun y1 =>
        bif (decide (y1.1.1 < ((List.length x0 : Nat) : Int))) then
          bif (inR y1.1.1 ((List.length x0 : Nat) : Int)) then
            bif (!(g113 ((rd (α := (ByteArray × (Int × Int × Unit) × Int × Int × Unit)) (ByteArray.empty, ((0 : Int), (0 : Int), ()), (0 : Int), (0 : Int), ()) x0 y1.1.1).1))) then
              some (.inr (.inl ((5 : Int), ())))
            else
              bif (decide ((rd (α := (ByteArray × (Int × Int × Unit) × Int × Int × Unit)) (ByteArray.empty, ((0 : Int), (0 : Int), ()), (0 : Int), (0 : Int), ()) x0 y1.1.1).2.1.1 < (0 : Int))) then
                some (.inr (.inl ((1 : Int), ())))
              else
                bif (decide ((rd (α := (ByteArray × (Int × Int × Unit) × Int × Int × Unit)) (ByteArray.empty, ((0 : Int), (0 : Int), ()), (0 : Int), (0 : Int), ()) x0 y1.1.1).2.1.1 ≥ (rd (α := (ByteArray × (Int × Int × Unit) × Int × Int × Unit)) (ByteArray.empty, ((0 : Int), (0 : Int), ()), (0 : Int), (0 : Int), ()) x0 y1.1.1).2.1.2.1)) then
                  some (.inr (.inl ((1 : Int), ())))
                else
                  bif (decide ((rd (α := (ByteArray × (Int × Int × Unit) × Int × Int × Unit)) (ByteArray.empty, ((0 : Int), (0 : Int), ()), (0 : Int), (0 : Int), ()) x0 y1.1.1).2.1.2.1 > (345686400000 : Int))) then
                    some (.inr (.inl ((1 : Int), ())))
                  else
                    bif (g114 ((rd (α := (ByteArray × (Int × Int × Unit) × Int × Int × Unit)) (ByteArray.empty, ((0 : Int), (0 : Int), ()), (0 : Int), (0 : Int), ()) x0 y1.1.1).2.2.1) (0 : Int) (1000000000 : Int)) then
                      some (.inr (.inl ((1 : Int), ())))
                    else
                      bif (g114 ((rd (α := (ByteArray × (Int × Int × Unit) × Int × Int × Unit)) (ByteArray.empty, ((0 : Int), (0 : Int), ()), (0 : Int), (0 : Int), ()) x0 y1.1.1).2.2.2.1) (0 : Int) (1000000 : Int)) then
                        some (.inr (.inl ((1 : Int), ())))
                      else
                        bif (y1.1.1 == (0 : Int)) then
                          some (.inl (((IntKind.i64.wrap (y1.1.1 + (1 : Int))), ()), ()))
                        else
                          bif (inR (IntKind.i64.wrap (y1.1.1 - (1 : Int))) ((List.length x0 : Nat) : Int)) then
                            bif (sLt ((rd (α := (ByteArray × (Int × Int × Unit) × Int × Int × Unit)) (ByteArray.empty, ((0 : Int), (0 : Int), ()), (0 : Int), (0 : Int), ()) x0 y1.1.1).1) ((rd (α := (ByteArray × (Int × Int × Unit) × Int × Int × Unit)) (ByteArray.empty, ((0 : Int), (0 : Int), ()), (0 : Int), (0 : Int), ()) x0 (IntKind.i64.wrap (y1.1.1 - (1 : Int)))).1)) then
                              some (.inr (.inl ((7 : Int), ())))
                            else
                              bif (sEq ((rd (α := (ByteArray × (Int × Int × Unit) × Int × Int × Unit)) (ByteArray.empty, ((0 : Int), (0 : Int), ()), (0 : Int), (0 : Int), ()) x0 y1.1.1).1) ((rd (α := (ByteArray × (Int × Int × Unit) × Int × Int × Unit)) (ByteArray.empty, ((0 : Int), (0 : Int), ()), (0 : Int), (0 : Int), ()) x0 (IntKind.i64.wrap (y1.1.1 - (1 : Int)))).1)) then
                                bif (decide ((rd (α := (ByteArray × (Int × Int × Unit) × Int × Int × Unit)) (ByteArray.empty, ((0 : Int), (0 : Int), ()), (0 : Int), (0 : Int), ()) x0 y1.1.1).2.1.1 ≤ (rd (α := (ByteArray × (Int × Int × Unit) × Int × Int × Unit)) (ByteArray.empty, ((0 : Int), (0 : Int), ()), (0 : Int), (0 : Int), ()) x0 (IntKind.i64.wrap (y1.1.1 - (1 : Int)))).2.1.1)) then
                                  some (.inr (.inl ((7 : Int), ())))
                                else
                                  bif (decide ((rd (α := (ByteArray × (Int × Int × Unit) × Int × Int × Unit)) (ByteArray.empty, ((0 : Int), (0 : Int), ()), (0 : Int), (0 : Int), ()) x0 y1.1.1).2.1.1 < (rd (α := (ByteArray × (Int × Int × Unit) × Int × Int × Unit)) (ByteArray.empty, ((0 : Int), (0 : Int), ()), (0 : Int), (0 : Int), ()) x0 (IntKind.i64.wrap (y1.1.1 - (1 : Int)))).2.1.2.1)) then
                                    some (.inr (.inl ((7 : Int), ())))
                                  else
                                    some (.inl (((IntKind.i64.wrap (y1.1.1 + (1 : Int))), ()), ()))
                              else
                                some (.inl (((IntKind.i64.wrap (y1.1.1 + (1 : Int))), ()), ()))
                          else
                            none
          else
            none
        else
          some (.inr (.inr ((), ())))) (((0 : Int), ()), ())) fun r => match r with
    | .inl z => some z
    | .inr z2 =>
      some ((0 : Int), ())
def H146 : Hints where
  loop := fun n => match n with
    | 0 => some ({ slots := [(11, (.int .i64))], objs := [], gone := [] }, 0, { slots := [], objs := [], gone := [] })
    | _ => none
  region := fun n => match n with
    | _ => none
  cond := fun n => match n with
    | _ => none
  block := fun n => match n with
    | _ => none
abbrev A146 : Tys := (.cons (.slice (.struct (.cons .str (.cons (.struct (.cons (.int .i64) (.cons (.int .i64) .nil))) (.cons (.int .i64) (.cons (.int .i64) .nil)))))) .nil)
def ts146 : List (Nat × TD) := [(3, (.data (.int .i64))), (9, (.data .str)), (28, (.data (.int .i64))), (56, (.data (.slice (.struct (.cons .str (.cons (.struct (.cons (.int .i64) (.cons (.int .i64) .nil))) (.cons (.int .i64) (.cons (.int .i64) .nil)))))))), (61, (.data (.struct (.cons (.int .i64) (.cons (.int .i64) .nil))))), (63, (.data (.struct (.cons .str (.cons (.struct (.cons (.int .i64) (.cons (.int .i64) .nil))) (.cons (.int .i64) (.cons (.int .i64) .nil)))))))]
noncomputable def fs146 (g113 : ByteArray → (Bool)) (g114 : Int → Int → Int → (Bool)) : List (Nat × FSem) := [(113, .fn (.cons .str .nil) (.cons .bool .nil) fun x => ((g113 x.1), ())), (114, .fn (.cons (.int .i64) (.cons (.int .i64) (.cons (.int .i64) .nil))) (.cons .bool .nil) fun x => ((g114 x.1 x.2.1 x.2.2.1), ()))]
noncomputable def body146 : Code := match Try.f146.body with | some c => c | none => .skip
theorem ty146 : chkTypes Try.prog ts146 = true := by kernel_rfl
theorem ev146 (g113 : ByteArray → (Bool)) (g114 : Int → Int → Int → (Bool)) (k : Nat) (x : ((.cons (.slice (.struct (.cons .str (.cons (.struct (.cons (.int .i64) (.cons (.int .i64) .nil))) (.cons (.int .i64) (.cons (.int .i64) .nil)))))) .nil) : Tys).den) : evFun (mkEnv ts146 (fs146 g113 g114)) H146 k body146 89 [.tmp 2] (explodes (.cons (.slice (.struct (.cons .str (.cons (.struct (.cons (.int .i64) (.cons (.int .i64) .nil))) (.cons (.int .i64) (.cons (.int .i64) .nil)))))) .nil) x) [] (dec (.cons (.int .i64) .nil)) = f146 g113 g114 k x.1 := by kernel_rfl
/-! ### jitney/fleet.chargedFault -/
def f215 (g113 : ByteArray → (Bool)) (g114 : Int → Int → Int → (Bool)) (k : Nat) (x0 : List (ByteArray × ByteArray × Int × Int × Int × Unit)) : Option (Int × Unit) :=
  bif (decide (((List.length x0 : Nat) : Int) > (1000 : Int))) then
    some ((2 : Int), ())
  else
    Option.bind (α := (Int × Unit) ⊕ ((Unit) × (Unit))) (iter (σ := (Int × Unit) × (Unit)) (τ := (Int × Unit) ⊕ ((Unit) × (Unit))) k (fun y1 =>
        bif (decide (y1.1.1 < ((List.length x0 : Nat) : Int))) then
          bif (inR y1.1.1 ((List.length x0 : Nat) : Int)) then
            bif (!(g113 ((rd (α := (ByteArray × ByteArray × Int × Int × Int × Unit)) (ByteArray.empty, ByteArray.empty, (0 : Int), (0 : Int), (0 : Int), ()) x0 y1.1.1).1))) then
              some (.inr (.inl ((5 : Int), ())))
            else
              bif (!(g113 ((rd (α := (ByteArray × ByteArray × Int × Int × Int × Unit)) (ByteArray.empty, ByteArray.empty, (0 : Int), (0 : Int), (0 : Int), ()) x0 y1.1.1).2.1))) then
                some (.inr (.inl ((5 : Int), ())))
              else
                Option.bind (α := (((Int × Unit) × (Unit)) ⊕ ((Int × Unit) ⊕ ((Unit) × (Unit)))) ⊕ ((Bool × Unit) × (Unit))) (
                    bif ((rd (α := (ByteArray × ByteArray × Int × Int × Int × Unit)) (ByteArray.empty, ByteArray.empty, (0 : Int), (0 : Int), (0 : Int), ()) x0 y1.1.1).2.2.1 != (-1 : Int)) then
                      bif (g114 ((rd (α := (ByteArray × ByteArray × Int × Int × Int × Unit)) (ByteArray.empty, ByteArray.empty, (0 : Int), (0 : Int), (0 : Int), ()) x0 y1.1.1).2.2.1) (0 : Int) ((rd (α := (ByteArray × ByteArray × Int × Int × Int × Unit)) (ByteArray.empty, ByteArray.empty, (0 : Int), (0 : Int), (0 : Int), ()) x0 y1.1.1).2.2.2.1)) then
                        some (.inr ((true, ()), ()))
                      else
                        some (.inr (((decide ((rd (α := (ByteArray × ByteArray × Int × Int × Int × Unit)) (ByteArray.empty, ByteArray.empty, (0 : Int), (0 : Int), (0 : Int), ()) x0 y1.1.1).2.2.2.1 > (345686400000 : Int))), ()), ()))
                    else
                      bif ((rd (α := (ByteArray × ByteArray × Int × Int × Int × Unit)) (ByteArray.empty, ByteArray.empty, (0 : Int), (0 : Int), (0 : Int), ()) x0 y1.1.1).2.2.2.1 != (-1 : Int)) then
                        bif (g114 ((rd (α := (ByteArray × ByteArray × Int × Int × Int × Unit)) (ByteArray.empty, ByteArray.empty, (0 : Int), (0 : Int), (0 : Int), ()) x0 y1.1.1).2.2.1) (0 : Int) ((rd (α := (ByteArray × ByteArray × Int × Int × Int × Unit)) (ByteArray.empty, ByteArray.empty, (0 : Int), (0 : Int), (0 : Int), ()) x0 y1.1.1).2.2.2.1)) then
                          some (.inr ((true, ()), ()))
                        else
                          some (.inr (((decide ((rd (α := (ByteArray × ByteArray × Int × Int × Int × Unit)) (ByteArray.empty, ByteArray.empty, (0 : Int), (0 : Int), (0 : Int), ()) x0 y1.1.1).2.2.2.1 > (345686400000 : Int))), ()), ()))
                      else
                        some (.inr ((false, ()), ()))) fun r => match r with
                | .inl z => some z
                | .inr y2 =>
                  bif y2.1.1 then
                    some (.inr (.inl ((1 : Int), ())))
                  else
                    bif (g114 ((rd (α := (ByteArray × ByteArray × Int × Int × Int × Unit)) (ByteArray.empty, ByteArray.empty, (0 : Int), (0 : Int), (0 : Int), ()) x0 y1.1.1).2.2.2.2.1) (0 : Int) (1000000 : Int)) then
                      some (.inr (.inl ((1 : Int), ())))
                    else
                      some (.inl (((IntKind.i64.wrap (y1.1.1 + (1 : Int))), ()), ()))
          else
            none
        else
          some (.inr (.inr ((), ())))) (((0 : Int), ()), ())) fun r => match r with
    | .inl z => some z
    | .inr z3 =>
      some ((0 : Int), ())
/-! ### jitney/fleet.levelFault -/
/-! ### jitney/fleet.own -/
def f147  (k : Nat) (x0 : List (ByteArray × (Int × Int × Unit) × Int × Int × Unit)) (x1 : ByteArray) : Option ((List (ByteArray × (Int × Int × Unit) × Int × Int × Unit)) × Unit) :=
  Option.bind (α := ((List (ByteArray × (Int × Int × Unit) × Int × Int × Unit)) × Unit) ⊕ (((List (ByteArray × (Int × Int × Unit) × Int × Int × Unit)) × Unit) × (Unit))) (iter (σ := ((List (ByteArray × (Int × Int × Unit) × Int × Int × Unit)) × Int × Unit) × (Unit)) (τ := ((List (ByteArray × (Int × Int × Unit) × Int × Int × Unit)) × Unit) ⊕ (((List (ByteArray × (Int × Int × Unit) × Int × Int × Unit)) × Unit) × (Unit))) k (fun y1 =>
      bif (decide (y1.1.2.1 < ((List.length x0 : Nat) : Int))) then
        bif (inR y1.1.2.1 ((List.length x0 : Nat) : Int)) then
          bif (sEq ((rd (α := (ByteArray × (Int × Int × Unit) × Int × Int × Unit)) (ByteArray.empty, ((0 : Int), (0 : Int), ()), (0 : Int), (0 : Int), ()) x0 y1.1.2.1).1) x1) then
            bif decide (List.length y1.1.1 + List.length ([(rd (α := (ByteArray × (Int × Int × Unit) × Int × Int × Unit)) (ByteArray.empty, ((0 : Int), (0 : Int), ()), (0 : Int), (0 : Int), ()) x0 y1.1.2.1)]) ≤ 4294967296) then
              some (.inl (((y1.1.1 ++ [(rd (α := (ByteArray × (Int × Int × Unit) × Int × Int × Unit)) (ByteArray.empty, ((0 : Int), (0 : Int), ()), (0 : Int), (0 : Int), ()) x0 y1.1.2.1)]), (IntKind.i64.wrap (y1.1.2.1 + (1 : Int))), ()), ()))
            else
              none
          else
            some (.inl ((y1.1.1, (IntKind.i64.wrap (y1.1.2.1 + (1 : Int))), ()), ()))
        else
          none
      else
        some (.inr (.inr ((y1.1.1, ()), ())))) (([], (0 : Int), ()), ())) fun r => match r with
  | .inl z => some z
  | .inr z2 =>
    some (z2.1.1, ())
def H147 : Hints where
  loop := fun n => match n with
    | 0 => some ({ slots := [(5, (.row (.struct (.cons .str (.cons (.struct (.cons (.int .i64) (.cons (.int .i64) .nil))) (.cons (.int .i64) (.cons (.int .i64) .nil))))))), (10, (.int .i64))], objs := [], gone := [] }, 0, { slots := [(5, (.row (.struct (.cons .str (.cons (.struct (.cons (.int .i64) (.cons (.int .i64) .nil))) (.cons (.int .i64) (.cons (.int .i64) .nil)))))))], objs := [], gone := [] })
    | _ => none
  region := fun n => match n with
    | _ => none
  cond := fun n => match n with
    | _ => none
  block := fun n => match n with
    | _ => none
abbrev A147 : Tys := (.cons (.slice (.struct (.cons .str (.cons (.struct (.cons (.int .i64) (.cons (.int .i64) .nil))) (.cons (.int .i64) (.cons (.int .i64) .nil)))))) (.cons .str .nil))
def ts147 : List (Nat × TD) := [(3, (.data (.int .i64))), (9, (.data .str)), (56, (.data (.slice (.struct (.cons .str (.cons (.struct (.cons (.int .i64) (.cons (.int .i64) .nil))) (.cons (.int .i64) (.cons (.int .i64) .nil)))))))), (63, (.data (.struct (.cons .str (.cons (.struct (.cons (.int .i64) (.cons (.int .i64) .nil))) (.cons (.int .i64) (.cons (.int .i64) .nil)))))))]
noncomputable def fs147  : List (Nat × FSem) := []
noncomputable def body147 : Code := match Try.f147.body with | some c => c | none => .skip
theorem ty147 : chkTypes Try.prog ts147 = true := by kernel_rfl
theorem ev147  (k : Nat) (x : ((.cons (.slice (.struct (.cons .str (.cons (.struct (.cons (.int .i64) (.cons (.int .i64) .nil))) (.cons (.int .i64) (.cons (.int .i64) .nil)))))) (.cons .str .nil)) : Tys).den) : evFun (mkEnv ts147 (fs147 )) H147 k body147 24 [.tmp 4] (explodes (.cons (.slice (.struct (.cons .str (.cons (.struct (.cons (.int .i64) (.cons (.int .i64) .nil))) (.cons (.int .i64) (.cons (.int .i64) .nil)))))) (.cons .str .nil)) x) [] (dec (.cons (.slice (.struct (.cons .str (.cons (.struct (.cons (.int .i64) (.cons (.int .i64) .nil))) (.cons (.int .i64) (.cons (.int .i64) .nil)))))) .nil)) = f147  k x.1 x.2.1 := by kernel_rfl
/-! ### jitney/fleet.turns$1 -/
/-! ### jitney/fleet.turns -/
/-! ### jitney/fleet.levelAt -/
/-! ### jitney/fleet.Level -/
def f37 (g121 : Int → (Bool)) (g136 : (ByteArray × Int × Int × Int × Int × Unit) → (List (ByteArray × (Int × Int × Unit) × Int × Int × Unit)) → (List (ByteArray × ByteArray × Int × Int × Int × Unit)) → Int → (Int)) (g137 : ByteArray → (List (ByteArray × (Int × Int × Unit) × Int × Int × Unit)) → (List (ByteArray × ByteArray × Int × Int × Int × Unit)) → Int → Int → Option (Int × Unit)) (k : Nat) (x0 : (ByteArray × Int × Int × Int × Int × Unit)) (x1 : List (ByteArray × (Int × Int × Unit) × Int × Int × Unit)) (x2 : List (ByteArray × ByteArray × Int × Int × Int × Unit)) (x3 : Int) (x4 : Int) : Option (Int × Int × Unit) :=
  bif ((g136 x0 x1 x2 x3) != (0 : Int)) then
    some ((0 : Int), (g136 x0 x1 x2 x3), ())
  else
    bif (!(g121 x4)) then
      some ((0 : Int), (1 : Int), ())
    else
      Option.bind (g137 x0.1 x1 x2 x3 x4) fun v1 =>
      some (v1.1, (0 : Int), ())
/-! ### slices.Clone[[]jitney/api.Run,jitney/api.Run] -/
def f38  (k : Nat) (x0 : List (ByteArray × (Int × Int × Unit) × Int × Int × Unit)) : Option ((List (ByteArray × (Int × Int × Unit) × Int × Int × Unit)) × Unit) :=
  bif Nat.ble (List.length x0) 0 then
    none
  else
    bif decide (List.length ([] : List (ByteArray × (Int × Int × Unit) × Int × Int × Unit)) + List.length x0 ≤ 4294967296) then
      some ((([] : List (ByteArray × (Int × Int × Unit) × Int × Int × Unit)) ++ x0), ())
    else
      none
def H38 : Hints where
  loop := fun n => match n with
    | _ => none
  region := fun n => match n with
    | _ => none
  cond := fun n => match n with
    | _ => none
  block := fun n => match n with
    | _ => none
def ts38 : List (Nat × TD) := [(56, (.data (.slice (.struct (.cons .str (.cons (.struct (.cons (.int .i64) (.cons (.int .i64) .nil))) (.cons (.int .i64) (.cons (.int .i64) .nil))))))))]
noncomputable def fs38  : List (Nat × FSem) := []
noncomputable def body38 : Code := match Try.f38.body with | some c => c | none => .skip
theorem ty38 : chkTypes Try.prog ts38 = true := by kernel_rfl
theorem ev38  (k : Nat) (x : ((.cons (.slice (.struct (.cons .str (.cons (.struct (.cons (.int .i64) (.cons (.int .i64) .nil))) (.cons (.int .i64) (.cons (.int .i64) .nil)))))) .nil) : Tys).den) : evFun (mkEnv ts38 (fs38 )) H38 k body38 8 [.tmp 2] (explodes (.cons (.slice (.struct (.cons .str (.cons (.struct (.cons (.int .i64) (.cons (.int .i64) .nil))) (.cons (.int .i64) (.cons (.int .i64) .nil)))))) .nil) x) [] (dec (.cons (.slice (.struct (.cons .str (.cons (.struct (.cons (.int .i64) (.cons (.int .i64) .nil))) (.cons (.int .i64) (.cons (.int .i64) .nil)))))) .nil)) = f38  k x.1 := by kernel_rfl
def s38 (l : List (ByteArray × (Int × Int × Unit) × Int × Int × Unit)) : Option ((List (ByteArray × (Int × Int × Unit) × Int × Int × Unit)) × Unit) := if l.length ≤ 4294967296 then some (l, ()) else none
/-! ### slices.Clone[[]jitney/api.Charged,jitney/api.Charged] -/
def s39 (l : List (ByteArray × ByteArray × Int × Int × Int × Unit)) : Option ((List (ByteArray × ByteArray × Int × Int × Int × Unit)) × Unit) := if l.length ≤ 4294967296 then some (l, ()) else none
/-! ### jitney/fleet.Low -/
/-! ### jitney/jitref2.RunsFault -/
def f41 (g31 : ByteArray → (Bool)) (g115 : Int → Int → Int → (Bool)) (k : Nat) (x0 : List (ByteArray × (Int × Int × Unit) × Int × Int × Unit)) : Option (Int × Unit) :=
  bif (decide (((List.length x0 : Nat) : Int) > (1000 : Int))) then
    some ((2 : Int), ())
  else
    Option.bind (α := (Int × Unit) ⊕ ((Unit) × (Unit))) (iter (σ := (Int × Unit) × (Unit)) (τ := (Int × Unit) ⊕ ((Unit) × (Unit))) k (fun y1 =>
        bif (decide (y1.1.1 < ((List.length x0 : Nat) : Int))) then
          bif (inR y1.1.1 ((List.length x0 : Nat) : Int)) then
            bif (!(g31 ((rd (α := (ByteArray × (Int × Int × Unit) × Int × Int × Unit)) (ByteArray.empty, ((0 : Int), (0 : Int), ()), (0 : Int), (0 : Int), ()) x0 y1.1.1).1))) then
              some (.inr (.inl ((5 : Int), ())))
            else
              bif (decide ((rd (α := (ByteArray × (Int × Int × Unit) × Int × Int × Unit)) (ByteArray.empty, ((0 : Int), (0 : Int), ()), (0 : Int), (0 : Int), ()) x0 y1.1.1).2.1.1 < (0 : Int))) then
                some (.inr (.inl ((1 : Int), ())))
              else
                bif (decide ((rd (α := (ByteArray × (Int × Int × Unit) × Int × Int × Unit)) (ByteArray.empty, ((0 : Int), (0 : Int), ()), (0 : Int), (0 : Int), ()) x0 y1.1.1).2.1.1 ≥ (rd (α := (ByteArray × (Int × Int × Unit) × Int × Int × Unit)) (ByteArray.empty, ((0 : Int), (0 : Int), ()), (0 : Int), (0 : Int), ()) x0 y1.1.1).2.1.2.1)) then
                  some (.inr (.inl ((1 : Int), ())))
                else
                  bif (decide ((rd (α := (ByteArray × (Int × Int × Unit) × Int × Int × Unit)) (ByteArray.empty, ((0 : Int), (0 : Int), ()), (0 : Int), (0 : Int), ()) x0 y1.1.1).2.1.2.1 > (345686400000 : Int))) then
                    some (.inr (.inl ((1 : Int), ())))
                  else
                    bif (!(g115 ((rd (α := (ByteArray × (Int × Int × Unit) × Int × Int × Unit)) (ByteArray.empty, ((0 : Int), (0 : Int), ()), (0 : Int), (0 : Int), ()) x0 y1.1.1).2.2.1) (0 : Int) (1000000000 : Int))) then
                      some (.inr (.inl ((1 : Int), ())))
                    else
                      bif (!(g115 ((rd (α := (ByteArray × (Int × Int × Unit) × Int × Int × Unit)) (ByteArray.empty, ((0 : Int), (0 : Int), ()), (0 : Int), (0 : Int), ()) x0 y1.1.1).2.2.2.1) (0 : Int) (1000000 : Int))) then
                        some (.inr (.inl ((1 : Int), ())))
                      else
                        bif (y1.1.1 == (0 : Int)) then
                          some (.inl (((IntKind.i64.wrap (y1.1.1 + (1 : Int))), ()), ()))
                        else
                          bif (inR (IntKind.i64.wrap (y1.1.1 - (1 : Int))) ((List.length x0 : Nat) : Int)) then
                            bif (sLt ((rd (α := (ByteArray × (Int × Int × Unit) × Int × Int × Unit)) (ByteArray.empty, ((0 : Int), (0 : Int), ()), (0 : Int), (0 : Int), ()) x0 y1.1.1).1) ((rd (α := (ByteArray × (Int × Int × Unit) × Int × Int × Unit)) (ByteArray.empty, ((0 : Int), (0 : Int), ()), (0 : Int), (0 : Int), ()) x0 (IntKind.i64.wrap (y1.1.1 - (1 : Int)))).1)) then
                              some (.inr (.inl ((7 : Int), ())))
                            else
                              bif (sEq ((rd (α := (ByteArray × (Int × Int × Unit) × Int × Int × Unit)) (ByteArray.empty, ((0 : Int), (0 : Int), ()), (0 : Int), (0 : Int), ()) x0 y1.1.1).1) ((rd (α := (ByteArray × (Int × Int × Unit) × Int × Int × Unit)) (ByteArray.empty, ((0 : Int), (0 : Int), ()), (0 : Int), (0 : Int), ()) x0 (IntKind.i64.wrap (y1.1.1 - (1 : Int)))).1)) then
                                bif (decide ((rd (α := (ByteArray × (Int × Int × Unit) × Int × Int × Unit)) (ByteArray.empty, ((0 : Int), (0 : Int), ()), (0 : Int), (0 : Int), ()) x0 y1.1.1).2.1.1 < (rd (α := (ByteArray × (Int × Int × Unit) × Int × Int × Unit)) (ByteArray.empty, ((0 : Int), (0 : Int), ()), (0 : Int), (0 : Int), ()) x0 (IntKind.i64.wrap (y1.1.1 - (1 : Int)))).2.1.2.1)) then
                                  some (.inr (.inl ((7 : Int), ())))
                                else
                                  some (.inl (((IntKind.i64.wrap (y1.1.1 + (1 : Int))), ()), ()))
                              else
                                some (.inl (((IntKind.i64.wrap (y1.1.1 + (1 : Int))), ()), ()))
                          else
                            none
          else
            none
        else
          some (.inr (.inr ((), ())))) (((0 : Int), ()), ())) fun r => match r with
    | .inl z => some z
    | .inr z2 =>
      some ((0 : Int), ())
def H41 : Hints where
  loop := fun n => match n with
    | 0 => some ({ slots := [(11, (.int .i64))], objs := [], gone := [] }, 0, { slots := [], objs := [], gone := [] })
    | _ => none
  region := fun n => match n with
    | _ => none
  cond := fun n => match n with
    | _ => none
  block := fun n => match n with
    | _ => none
abbrev A41 : Tys := (.cons (.slice (.struct (.cons .str (.cons (.struct (.cons (.int .i64) (.cons (.int .i64) .nil))) (.cons (.int .i64) (.cons (.int .i64) .nil)))))) .nil)
def ts41 : List (Nat × TD) := [(3, (.data (.int .i64))), (9, (.data .str)), (28, (.data (.int .i64))), (56, (.data (.slice (.struct (.cons .str (.cons (.struct (.cons (.int .i64) (.cons (.int .i64) .nil))) (.cons (.int .i64) (.cons (.int .i64) .nil)))))))), (61, (.data (.struct (.cons (.int .i64) (.cons (.int .i64) .nil))))), (63, (.data (.struct (.cons .str (.cons (.struct (.cons (.int .i64) (.cons (.int .i64) .nil))) (.cons (.int .i64) (.cons (.int .i64) .nil)))))))]
noncomputable def fs41 (g31 : ByteArray → (Bool)) (g115 : Int → Int → Int → (Bool)) : List (Nat × FSem) := [(31, .fn (.cons .str .nil) (.cons .bool .nil) fun x => ((g31 x.1), ())), (115, .fn (.cons (.int .i64) (.cons (.int .i64) (.cons (.int .i64) .nil))) (.cons .bool .nil) fun x => ((g115 x.1 x.2.1 x.2.2.1), ()))]
noncomputable def body41 : Code := match Try.f41.body with | some c => c | none => .skip
theorem ty41 : chkTypes Try.prog ts41 = true := by kernel_rfl
theorem ev41 (g31 : ByteArray → (Bool)) (g115 : Int → Int → Int → (Bool)) (k : Nat) (x : ((.cons (.slice (.struct (.cons .str (.cons (.struct (.cons (.int .i64) (.cons (.int .i64) .nil))) (.cons (.int .i64) (.cons (.int .i64) .nil)))))) .nil) : Tys).den) : evFun (mkEnv ts41 (fs41 g31 g115)) H41 k body41 82 [.tmp 2] (explodes (.cons (.slice (.struct (.cons .str (.cons (.struct (.cons (.int .i64) (.cons (.int .i64) .nil))) (.cons (.int .i64) (.cons (.int .i64) .nil)))))) .nil) x) [] (dec (.cons (.int .i64) .nil)) = f41 g31 g115 k x.1 := by kernel_rfl
/-! ### jitney/jitref2.ChargedFault -/
/-! ### slices.Compare[[]int,int] -/
/-! ### jitney/jitref2.levelsOf$1 -/
/-! ### jitney/jitref2.levelsOf -/
/-! ### jitney/jitref2.LevelAt -/
/-! ### slices.Min[[]int,int] -/
/-! ### jitney/jitref2.LowOf -/
/-! ### jitney/jitlaw2.LevelsReckoned -/
def f5 (g14 : (List (ByteArray × Int × Int × Int × Int × Unit)) → (Int)) (g20 : (List Int) → (Int)) (g21 : Bool → Int → (Int)) (g24 : Option (Bool × Unit)) (g32 : Int → (Int)) (g37 : (ByteArray × Int × Int × Int × Int × Unit) → (List (ByteArray × (Int × Int × Unit) × Int × Int × Unit)) → (List (ByteArray × ByteArray × Int × Int × Int × Unit)) → Int → Int → Option (Int × Int × Unit)) (g38 : (List (ByteArray × (Int × Int × Unit) × Int × Int × Unit)) → Option ((List (ByteArray × (Int × Int × Unit) × Int × Int × Unit)) × Unit)) (g39 : (List (ByteArray × ByteArray × Int × Int × Int × Unit)) → Option ((List (ByteArray × ByteArray × Int × Int × Int × Unit)) × Unit)) (g40 : (ByteArray × Int × Int × Int × Int × Unit) → (List (ByteArray × (Int × Int × Unit) × Int × Int × Unit)) → (List (ByteArray × ByteArray × Int × Int × Int × Unit)) → Int → Option (Int × Int × Unit)) (g41 : (List (ByteArray × (Int × Int × Unit) × Int × Int × Unit)) → (Int)) (g42 : (List (ByteArray × ByteArray × Int × Int × Int × Unit)) → (Int)) (g43 : ByteArray → (List (ByteArray × (Int × Int × Unit) × Int × Int × Unit)) → (List (ByteArray × ByteArray × Int × Int × Int × Unit)) → Int → Int → Option (Int × Unit)) (g44 : ByteArray → (List (ByteArray × (Int × Int × Unit) × Int × Int × Unit)) → (List (ByteArray × ByteArray × Int × Int × Int × Unit)) → Int → Option (Int × Unit)) (k : Nat) (x0 : (ByteArray × Int × Int × Int × Int × Unit)) (x1 : List (ByteArray × (Int × Int × Unit) × Int × Int × Unit)) (x2 : List (ByteArray × ByteArray × Int × Int × Int × Unit)) (x3 : Int) (x4 : Int) : Option (Bool × Unit) :=
  Option.bind (g38 x1) fun v1 =>
  Option.bind (g39 x2) fun v2 =>
  Option.bind (g37 x0 v1.1 v2.1 x3 x4) fun v3 =>
  Option.bind (g38 x1) fun v4 =>
  Option.bind (g39 x2) fun v5 =>
  Option.bind (g40 x0 v4.1 v5.1 x3) fun v6 =>
  Option.bind (α := (Bool × Unit) ⊕ ((Int × Unit) × (Unit))) (
      bif (decide (x3 < (0 : Int))) then
        some (.inr (((g20 ([(g14 ([x0])), (g41 x1), (g42 x2), (g21 true (1 : Int))])), ()), ()))
      else
        some (.inr (((g20 ([(g14 ([x0])), (g41 x1), (g42 x2), (g21 (decide (x3 > x0.2.1)) (1 : Int))])), ()), ()))) fun r => match r with
  | .inl z => some z
  | .inr y7 =>
    Option.bind (α := (Bool × Unit) ⊕ ((Int × Unit) × (Unit))) (
        bif ((g20 ([y7.1.1, (g32 x4)])) == (0 : Int)) then
          Option.bind (g43 x0.1 x1 x2 x3 x4) fun v8 =>
          some (.inr ((v8.1, ()), ()))
        else
          some (.inr (((0 : Int), ()), ()))) fun r => match r with
    | .inl z => some z
    | .inr y9 =>
      Option.bind (α := (Bool × Unit) ⊕ ((Int × Unit) × (Unit))) (
          bif (y7.1.1 == (0 : Int)) then
            Option.bind (g44 x0.1 x1 x2 x3) fun v10 =>
            some (.inr ((v10.1, ()), ()))
          else
            some (.inr (((0 : Int), ()), ()))) fun r => match r with
      | .inl z => some z
      | .inr y11 =>
        bif (v3.2.1 == (g20 ([y7.1.1, (g32 x4)]))) then
          bif (v3.1 == y9.1.1) then
            bif (v6.2.1 == y7.1.1) then
              bif (v6.1 == y11.1.1) then
                Option.bind g24 fun v12 =>
                some (v12.1, ())
              else
                some (false, ())
            else
              some (false, ())
          else
            some (false, ())
        else
          some (false, ())
abbrev A5 : Tys := (.cons (.struct (.cons .str (.cons (.int .i64) (.cons (.int .i64) (.cons (.int .i64) (.cons (.int .i64) .nil)))))) (.cons (.slice (.struct (.cons .str (.cons (.struct (.cons (.int .i64) (.cons (.int .i64) .nil))) (.cons (.int .i64) (.cons (.int .i64) .nil)))))) (.cons (.slice (.struct (.cons .str (.cons .str (.cons (.int .i64) (.cons (.int .i64) (.cons (.int .i64) .nil))))))) (.cons (.int .i64) (.cons (.int .i64) .nil)))))
end Go.Vm
