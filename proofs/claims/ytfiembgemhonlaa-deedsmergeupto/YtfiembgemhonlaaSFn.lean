/- The program's functions, as an own tool reads them off its form. -/
import Derived.Test.YtfiembgemhonlaaLFn
import Derived.Test.YtfiembgemhonlaaVmK
import Derived.Test.YtfiembgemhonlaaProg
set_option maxRecDepth 100000
set_option linter.unusedVariables false
namespace Go.Vm
open Go.Proofs
/-! ### slices.Clone[[]jitney/api.Window,jitney/api.Window] -/
def f46  (k : Nat) (x0 : List (Int × Int × Unit)) : Option ((List (Int × Int × Unit)) × Unit) :=
  bif Nat.ble (List.length x0) 0 then
    none
  else
    bif decide (List.length ([] : List (Int × Int × Unit)) + List.length x0 ≤ 4294967296) then
      some ((([] : List (Int × Int × Unit)) ++ x0), ())
    else
      none
def s46 (l : List (Int × Int × Unit)) : Option ((List (Int × Int × Unit)) × Unit) := if l.length ≤ 4294967296 then some (l, ()) else none
/-! ### jitney/fleet.Rosters -/
def f47 (g53 : (List (Int × Int × Unit)) → Option (Int × Unit)) (g142 : (List (Int × Int × Unit)) → Option ((List Int) × Int × Unit)) (k : Nat) (x0 : List (Int × Int × Unit)) : Option ((List Int) × Int × Unit) :=
  Option.bind (g53 x0) fun v1 =>
  bif (v1.1 != (0 : Int)) then
    some ([], v1.1, ())
  else
    Option.bind (g142 x0) fun v2 =>
    some (v2.1, (0 : Int), ())
/-! ### jitney/base.Window -/
/-! ### slices.Compact[[]int,int] -/
/-! ### jitney/fleet.Thin -/
def f48 (g53 : (List (Int × Int × Unit)) → Option (Int × Unit)) (g114 : Int → Int → Int → (Bool)) (g143 : (Int × Int × Unit) → (Bool)) (g144 : List Int → Option (List Int)) (g145 : List Int → Option (List Int)) (k : Nat) (x0 : List (Int × Int × Unit)) (x1 : (Int × Int × Unit)) (x2 : Int) : Option ((List (Int × Int × Unit)) × Int × Unit) :=
  Option.bind (g53 x0) fun v1 =>
  bif (v1.1 != (0 : Int)) then
    some ([], v1.1, ())
  else
    bif (!(g143 x1)) then
      some ([], (1 : Int), ())
    else
      bif (g114 x2 (0 : Int) (500 : Int)) then
        some ([], (1 : Int), ())
      else
        Option.bind (α := ((List (Int × Int × Unit)) × Int × Unit) ⊕ (((List Int) × Unit) × (Unit))) (iter (σ := ((List Int) × Int × Unit) × (Unit)) (τ := ((List (Int × Int × Unit)) × Int × Unit) ⊕ (((List Int) × Unit) × (Unit))) k (fun y2 =>
            bif (decide (y2.1.2.1 < ((List.length x0 : Nat) : Int))) then
              bif (inR y2.1.2.1 ((List.length x0 : Nat) : Int)) then
                Option.bind (α := ((((List Int) × Int × Unit) × (Unit)) ⊕ (((List (Int × Int × Unit)) × Int × Unit) ⊕ (((List Int) × Unit) × (Unit)))) ⊕ (((List Int) × Unit) × (Unit))) (iter (σ := ((List Int) × Int × Unit) × (Unit)) (τ := ((((List Int) × Int × Unit) × (Unit)) ⊕ (((List (Int × Int × Unit)) × Int × Unit) ⊕ (((List Int) × Unit) × (Unit)))) ⊕ (((List Int) × Unit) × (Unit))) k (fun y3 =>
                    bif (decide (y3.1.2.1 < ((List.length ([(rd (α := (Int × Int × Unit)) ((0 : Int), (0 : Int), ()) x0 y2.1.2.1).1, (rd (α := (Int × Int × Unit)) ((0 : Int), (0 : Int), ()) x0 y2.1.2.1).2.1]) : Nat) : Int))) then
                      bif (inR y3.1.2.1 ((List.length ([(rd (α := (Int × Int × Unit)) ((0 : Int), (0 : Int), ()) x0 y2.1.2.1).1, (rd (α := (Int × Int × Unit)) ((0 : Int), (0 : Int), ()) x0 y2.1.2.1).2.1]) : Nat) : Int)) then
                        bif (inR y3.1.2.1 ((List.length ([(rd (α := (Int × Int × Unit)) ((0 : Int), (0 : Int), ()) x0 y2.1.2.1).1, (rd (α := (Int × Int × Unit)) ((0 : Int), (0 : Int), ()) x0 y2.1.2.1).2.1]) : Nat) : Int)) then
                          bif (decide ((rd (α := Int) (0 : Int) ([(rd (α := (Int × Int × Unit)) ((0 : Int), (0 : Int), ()) x0 y2.1.2.1).1, (rd (α := (Int × Int × Unit)) ((0 : Int), (0 : Int), ()) x0 y2.1.2.1).2.1]) y3.1.2.1) > x1.1)) then
                            bif (decide ((rd (α := Int) (0 : Int) ([(rd (α := (Int × Int × Unit)) ((0 : Int), (0 : Int), ()) x0 y2.1.2.1).1, (rd (α := (Int × Int × Unit)) ((0 : Int), (0 : Int), ()) x0 y2.1.2.1).2.1]) y3.1.2.1) < x1.2.1)) then
                              bif decide (List.length y3.1.1 + List.length ([(rd (α := Int) (0 : Int) ([(rd (α := (Int × Int × Unit)) ((0 : Int), (0 : Int), ()) x0 y2.1.2.1).1, (rd (α := (Int × Int × Unit)) ((0 : Int), (0 : Int), ()) x0 y2.1.2.1).2.1]) y3.1.2.1)]) ≤ 4294967296) then
                                some (.inl (((y3.1.1 ++ [(rd (α := Int) (0 : Int) ([(rd (α := (Int × Int × Unit)) ((0 : Int), (0 : Int), ()) x0 y2.1.2.1).1, (rd (α := (Int × Int × Unit)) ((0 : Int), (0 : Int), ()) x0 y2.1.2.1).2.1]) y3.1.2.1)]), (IntKind.i64.wrap (y3.1.2.1 + (1 : Int))), ()), ()))
                              else
                                none
                            else
                              some (.inl ((y3.1.1, (IntKind.i64.wrap (y3.1.2.1 + (1 : Int))), ()), ()))
                          else
                            some (.inl ((y3.1.1, (IntKind.i64.wrap (y3.1.2.1 + (1 : Int))), ()), ()))
                        else
                          none
                      else
                        none
                    else
                      some (.inr (.inr ((y3.1.1, ()), ())))) ((y2.1.1, (0 : Int), ()), ())) fun r => match r with
                | .inl z => some z
                | .inr z4 =>
                  some (.inl ((z4.1.1, (IntKind.i64.wrap (y2.1.2.1 + (1 : Int))), ()), ()))
              else
                none
            else
              some (.inr (.inr ((y2.1.1, ()), ())))) (([x1.1, x1.2.1], (0 : Int), ()), ())) fun r => match r with
        | .inl z => some z
        | .inr z5 =>
          Option.bind (g144 z5.1.1) fun v6 =>
          Option.bind (g145 v6) fun v7 =>
          Option.bind (α := ((List (Int × Int × Unit)) × Int × Unit) ⊕ (((List (Int × Int × Unit)) × Unit) × (Unit))) (iter (σ := ((List (Int × Int × Unit)) × Int × Unit) × (Unit)) (τ := ((List (Int × Int × Unit)) × Int × Unit) ⊕ (((List (Int × Int × Unit)) × Unit) × (Unit))) k (fun y8 =>
              bif (decide (y8.1.2.1 < ((List.length v7 : Nat) : Int))) then
                bif (inR (IntKind.i64.wrap (y8.1.2.1 - (1 : Int))) ((List.length v7 : Nat) : Int)) then
                  bif (inR (IntKind.i64.wrap (y8.1.2.1 - (1 : Int))) ((List.length v7 : Nat) : Int)) then
                    bif (inR y8.1.2.1 ((List.length v7 : Nat) : Int)) then
                      bif (inR y8.1.2.1 ((List.length v7 : Nat) : Int)) then
                        Option.bind (α := ((((List (Int × Int × Unit)) × Int × Unit) × (Unit)) ⊕ (((List (Int × Int × Unit)) × Int × Unit) ⊕ (((List (Int × Int × Unit)) × Unit) × (Unit)))) ⊕ ((Int × Unit) × (Unit))) (iter (σ := (Int × Int × Unit) × (Unit)) (τ := ((((List (Int × Int × Unit)) × Int × Unit) × (Unit)) ⊕ (((List (Int × Int × Unit)) × Int × Unit) ⊕ (((List (Int × Int × Unit)) × Unit) × (Unit)))) ⊕ ((Int × Unit) × (Unit))) k (fun y9 =>
                            bif (decide (y9.1.2.1 < ((List.length x0 : Nat) : Int))) then
                              bif (inR y9.1.2.1 ((List.length x0 : Nat) : Int)) then
                                bif (decide ((rd (α := (Int × Int × Unit)) ((0 : Int), (0 : Int), ()) x0 y9.1.2.1).1 ≤ (rd (α := Int) (0 : Int) v7 (IntKind.i64.wrap (y8.1.2.1 - (1 : Int)))))) then
                                  bif (decide ((rd (α := Int) (0 : Int) v7 (IntKind.i64.wrap (y8.1.2.1 - (1 : Int)))) < (rd (α := (Int × Int × Unit)) ((0 : Int), (0 : Int), ()) x0 y9.1.2.1).2.1)) then
                                    some (.inl (((IntKind.i64.wrap (y9.1.1 + (1 : Int))), (IntKind.i64.wrap (y9.1.2.1 + (1 : Int))), ()), ()))
                                  else
                                    some (.inl ((y9.1.1, (IntKind.i64.wrap (y9.1.2.1 + (1 : Int))), ()), ()))
                                else
                                  some (.inl ((y9.1.1, (IntKind.i64.wrap (y9.1.2.1 + (1 : Int))), ()), ()))
                              else
                                none
                            else
                              some (.inr (.inr ((y9.1.1, ()), ())))) (((0 : Int), (0 : Int), ()), ())) fun r => match r with
                        | .inl z => some z
                        | .inr z10 =>
                          bif (decide (z10.1.1 ≥ x2)) then
                            some (.inl ((y8.1.1, (IntKind.i64.wrap (y8.1.2.1 + (1 : Int))), ()), ()))
                          else
                            Option.bind (α := ((((List (Int × Int × Unit)) × Int × Unit) × (Unit)) ⊕ (((List (Int × Int × Unit)) × Int × Unit) ⊕ (((List (Int × Int × Unit)) × Unit) × (Unit)))) ⊕ ((Bool × Unit) × (Unit))) (
                                bif (decide ((IntKind.i64.wrap (((List.length y8.1.1 : Nat) : Int) - (1 : Int))) ≥ (0 : Int))) then
                                  bif (inR (IntKind.i64.wrap (((List.length y8.1.1 : Nat) : Int) - (1 : Int))) ((List.length y8.1.1 : Nat) : Int)) then
                                    bif (inR (IntKind.i64.wrap (((List.length y8.1.1 : Nat) : Int) - (1 : Int))) ((List.length y8.1.1 : Nat) : Int)) then
                                      some (.inr ((((rd (α := (Int × Int × Unit)) ((0 : Int), (0 : Int), ()) y8.1.1 (IntKind.i64.wrap (((List.length y8.1.1 : Nat) : Int) - (1 : Int)))).2.1 == (rd (α := Int) (0 : Int) v7 (IntKind.i64.wrap (y8.1.2.1 - (1 : Int))))), ()), ()))
                                    else
                                      none
                                  else
                                    none
                                else
                                  some (.inr ((false, ()), ()))) fun r => match r with
                            | .inl z => some z
                            | .inr y11 =>
                              bif y11.1.1 then
                                bif (inR (IntKind.i64.wrap (((List.length y8.1.1 : Nat) : Int) - (1 : Int))) ((List.length y8.1.1 : Nat) : Int)) then
                                  bif (inR (IntKind.i64.wrap (((List.length y8.1.1 : Nat) : Int) - (1 : Int))) ((List.length y8.1.1 : Nat) : Int)) then
                                    some (.inl (((List.set y8.1.1 (Int.toNat (IntKind.i64.wrap (((List.length y8.1.1 : Nat) : Int) - (1 : Int)))) ((rd (α := (Int × Int × Unit)) ((0 : Int), (0 : Int), ()) y8.1.1 (IntKind.i64.wrap (((List.length y8.1.1 : Nat) : Int) - (1 : Int)))).1, (rd (α := Int) (0 : Int) v7 y8.1.2.1), (rd (α := (Int × Int × Unit)) ((0 : Int), (0 : Int), ()) y8.1.1 (IntKind.i64.wrap (((List.length y8.1.1 : Nat) : Int) - (1 : Int)))).2.2)), (IntKind.i64.wrap (y8.1.2.1 + (1 : Int))), ()), ()))
                                  else
                                    none
                                else
                                  none
                              else
                                bif decide (List.length y8.1.1 + List.length ([((rd (α := Int) (0 : Int) v7 (IntKind.i64.wrap (y8.1.2.1 - (1 : Int)))), (rd (α := Int) (0 : Int) v7 y8.1.2.1), ())]) ≤ 4294967296) then
                                  some (.inl (((y8.1.1 ++ [((rd (α := Int) (0 : Int) v7 (IntKind.i64.wrap (y8.1.2.1 - (1 : Int)))), (rd (α := Int) (0 : Int) v7 y8.1.2.1), ())]), (IntKind.i64.wrap (y8.1.2.1 + (1 : Int))), ()), ()))
                                else
                                  none
                      else
                        none
                    else
                      none
                  else
                    none
                else
                  none
              else
                some (.inr (.inr ((y8.1.1, ()), ())))) (([], (1 : Int), ()), ())) fun r => match r with
          | .inl z => some z
          | .inr z12 =>
            some (z12.1.1, (0 : Int), ())
/-! ### jitney/fleet.Tired -/
def f49 (g113 : ByteArray → (Bool)) (g114 : Int → Int → Int → (Bool)) (g146 : (List (ByteArray × (Int × Int × Unit) × Int × Int × Unit)) → (Int)) (g147 : (List (ByteArray × (Int × Int × Unit) × Int × Int × Unit)) → ByteArray → Option ((List (ByteArray × (Int × Int × Unit) × Int × Int × Unit)) × Unit)) (k : Nat) (x0 : (Int × Int × Unit)) (x1 : List (ByteArray × (Int × Int × Unit) × Int × Int × Unit)) (x2 : ByteArray) : Option ((List Int) × Int × Unit) :=
  bif (g114 x0.1 (1 : Int) (86400000 : Int)) then
    some ([], (1 : Int), ())
  else
    bif (g114 x0.2.1 (1 : Int) (86400000 : Int)) then
      some ([], (1 : Int), ())
    else
      bif ((g146 x1) != (0 : Int)) then
        some ([], (g146 x1), ())
      else
        bif (!(g113 x2)) then
          some ([], (5 : Int), ())
        else
          Option.bind (g147 x1 x2) fun v1 =>
          Option.bind (α := ((List Int) × Int × Unit) ⊕ (((List Int) × Unit) × (Unit))) (iter (σ := ((List Int) × Int × Int × Int × Unit) × (Unit)) (τ := ((List Int) × Int × Unit) ⊕ (((List Int) × Unit) × (Unit))) k (fun y2 =>
              bif (decide (y2.1.2.2.2.1 < ((List.length v1.1 : Nat) : Int))) then
                bif (inR y2.1.2.2.2.1 ((List.length v1.1 : Nat) : Int)) then
                  Option.bind (α := ((((List Int) × Int × Int × Int × Unit) × (Unit)) ⊕ (((List Int) × Int × Unit) ⊕ (((List Int) × Unit) × (Unit)))) ⊕ ((Bool × Unit) × (Unit))) (
                      bif (decide (y2.1.2.2.2.1 > (0 : Int))) then
                        some (.inr (((decide ((IntKind.i64.wrap ((rd (α := (ByteArray × (Int × Int × Unit) × Int × Int × Unit)) (ByteArray.empty, ((0 : Int), (0 : Int), ()), (0 : Int), (0 : Int), ()) v1.1 y2.1.2.2.2.1).2.1.1 - y2.1.2.2.1)) ≥ x0.2.1)), ()), ()))
                      else
                        some (.inr ((false, ()), ()))) fun r => match r with
                  | .inl z => some z
                  | .inr y3 =>
                    Option.bind (α := ((((List Int) × Int × Int × Int × Unit) × (Unit)) ⊕ (((List Int) × Int × Unit) ⊕ (((List Int) × Unit) × (Unit)))) ⊕ ((Int × Unit) × (Unit))) (
                        bif y3.1.1 then
                          some (.inr (((0 : Int), ()), ()))
                        else
                          some (.inr ((y2.1.2.1, ()), ()))) fun r => match r with
                    | .inl z => some z
                    | .inr y4 =>
                      Option.bind (α := ((((List Int) × Int × Int × Int × Unit) × (Unit)) ⊕ (((List Int) × Int × Unit) ⊕ (((List Int) × Unit) × (Unit)))) ⊕ (((List Int) × Unit) × (Unit))) (
                          bif (decide (y4.1.1 ≥ x0.1)) then
                            bif decide (List.length y2.1.1 + List.length ([y2.1.2.2.2.1]) ≤ 4294967296) then
                              some (.inr (((y2.1.1 ++ [y2.1.2.2.2.1]), ()), ()))
                            else
                              none
                          else
                            some (.inr ((y2.1.1, ()), ()))) fun r => match r with
                      | .inl z => some z
                      | .inr y5 =>
                        some (.inl ((y5.1.1, (IntKind.i64.wrap (y4.1.1 + (IntKind.i64.wrap ((rd (α := (ByteArray × (Int × Int × Unit) × Int × Int × Unit)) (ByteArray.empty, ((0 : Int), (0 : Int), ()), (0 : Int), (0 : Int), ()) v1.1 y2.1.2.2.2.1).2.1.2.1 - (rd (α := (ByteArray × (Int × Int × Unit) × Int × Int × Unit)) (ByteArray.empty, ((0 : Int), (0 : Int), ()), (0 : Int), (0 : Int), ()) v1.1 y2.1.2.2.2.1).2.1.1)))), (rd (α := (ByteArray × (Int × Int × Unit) × Int × Int × Unit)) (ByteArray.empty, ((0 : Int), (0 : Int), ()), (0 : Int), (0 : Int), ()) v1.1 y2.1.2.2.2.1).2.1.2.1, (IntKind.i64.wrap (y2.1.2.2.2.1 + (1 : Int))), ()), ()))
                else
                  none
              else
                some (.inr (.inr ((y2.1.1, ()), ())))) (([], (0 : Int), (0 : Int), (0 : Int), ()), ())) fun r => match r with
          | .inl z => some z
          | .inr z6 =>
            some (z6.1.1, (0 : Int), ())
/-! ### jitney/jitref2.ShiftsFault -/
def f50  (k : Nat) (x0 : List (Int × Int × Unit)) : Option (Int × Unit) :=
  bif (decide (((List.length x0 : Nat) : Int) > (500 : Int))) then
    some ((2 : Int), ())
  else
    Option.bind (α := (Int × Unit) ⊕ ((Unit) × (Unit))) (iter (σ := (Int × Unit) × (Unit)) (τ := (Int × Unit) ⊕ ((Unit) × (Unit))) k (fun y1 =>
        bif (decide (y1.1.1 < ((List.length x0 : Nat) : Int))) then
          bif (inR y1.1.1 ((List.length x0 : Nat) : Int)) then
            bif (decide ((rd (α := (Int × Int × Unit)) ((0 : Int), (0 : Int), ()) x0 y1.1.1).1 < (0 : Int))) then
              some (.inr (.inl ((1 : Int), ())))
            else
              bif (decide ((rd (α := (Int × Int × Unit)) ((0 : Int), (0 : Int), ()) x0 y1.1.1).1 ≥ (rd (α := (Int × Int × Unit)) ((0 : Int), (0 : Int), ()) x0 y1.1.1).2.1)) then
                some (.inr (.inl ((1 : Int), ())))
              else
                bif (decide ((rd (α := (Int × Int × Unit)) ((0 : Int), (0 : Int), ()) x0 y1.1.1).2.1 > (345686400000 : Int))) then
                  some (.inr (.inl ((1 : Int), ())))
                else
                  bif (decide (y1.1.1 > (0 : Int))) then
                    bif (inR (IntKind.i64.wrap (y1.1.1 - (1 : Int))) ((List.length x0 : Nat) : Int)) then
                      bif (decide ((rd (α := (Int × Int × Unit)) ((0 : Int), (0 : Int), ()) x0 y1.1.1).1 < (rd (α := (Int × Int × Unit)) ((0 : Int), (0 : Int), ()) x0 (IntKind.i64.wrap (y1.1.1 - (1 : Int)))).1)) then
                        some (.inr (.inl ((7 : Int), ())))
                      else
                        bif (inR (IntKind.i64.wrap (y1.1.1 - (1 : Int))) ((List.length x0 : Nat) : Int)) then
                          bif ((rd (α := (Int × Int × Unit)) ((0 : Int), (0 : Int), ()) x0 y1.1.1).1 == (rd (α := (Int × Int × Unit)) ((0 : Int), (0 : Int), ()) x0 (IntKind.i64.wrap (y1.1.1 - (1 : Int)))).1) then
                            bif (inR (IntKind.i64.wrap (y1.1.1 - (1 : Int))) ((List.length x0 : Nat) : Int)) then
                              bif (decide ((rd (α := (Int × Int × Unit)) ((0 : Int), (0 : Int), ()) x0 y1.1.1).2.1 < (rd (α := (Int × Int × Unit)) ((0 : Int), (0 : Int), ()) x0 (IntKind.i64.wrap (y1.1.1 - (1 : Int)))).2.1)) then
                                some (.inr (.inl ((7 : Int), ())))
                              else
                                some (.inl (((IntKind.i64.wrap (y1.1.1 + (1 : Int))), ()), ()))
                            else
                              none
                          else
                            some (.inl (((IntKind.i64.wrap (y1.1.1 + (1 : Int))), ()), ()))
                        else
                          none
                    else
                      none
                  else
                    some (.inl (((IntKind.i64.wrap (y1.1.1 + (1 : Int))), ()), ()))
          else
            none
        else
          some (.inr (.inr ((), ())))) (((0 : Int), ()), ())) fun r => match r with
    | .inl z => some z
    | .inr z2 =>
      some ((0 : Int), ())
/-! ### jitney/jitref2.WindowFault -/
/-! ### jitney/jitref2.RestFault -/
/-! ### jitney/jitref2.inside -/
/-! ### jitney/jitref2.onAt -/
/-! ### jitney/jitref2.DriversOf -/
/-! ### jitney/jitref2.RostersOf -/
/-! ### jitney/jitref2.ThinOf -/
def m38 (l : List (ByteArray × (Int × Int × Unit) × Int × Int × Unit)) : Option (List (ByteArray × (Int × Int × Unit) × Int × Int × Unit)) := if l.length ≤ 4294967296 then some l else none
/-! ### jitney/jitref2.TiredOf -/
def f57 (m38 : (List (ByteArray × (Int × Int × Unit) × Int × Int × Unit)) → Option (List (ByteArray × (Int × Int × Unit) × Int × Int × Unit))) (k : Nat) (x0 : (Int × Int × Unit)) (x1 : List (ByteArray × (Int × Int × Unit) × Int × Int × Unit)) (x2 : ByteArray) : Option ((List Int) × Unit) :=
  Option.bind (α := ((List Int) × Unit) ⊕ (((List (ByteArray × (Int × Int × Unit) × Int × Int × Unit)) × Unit) × (ByteArray × Unit))) (
      Option.bind (m38 x1) fun v1 =>
      Option.bind (α := (((List Int) × Unit) ⊕ (((List (ByteArray × (Int × Int × Unit) × Int × Int × Unit)) × Unit) × (ByteArray × Unit))) ⊕ ((Int × Unit) × ((List (ByteArray × (Int × Int × Unit) × Int × Int × Unit)) × ByteArray × Unit))) (
          Option.bind (α := ((((List Int) × Unit) ⊕ (((List (ByteArray × (Int × Int × Unit) × Int × Int × Unit)) × Unit) × (ByteArray × Unit))) ⊕ ((Int × Unit) × ((List (ByteArray × (Int × Int × Unit) × Int × Int × Unit)) × ByteArray × Unit))) ⊕ ((Unit) × (ByteArray × Unit))) (iter (σ := (Int × Unit) × (ByteArray × Unit)) (τ := ((((List Int) × Unit) ⊕ (((List (ByteArray × (Int × Int × Unit) × Int × Int × Unit)) × Unit) × (ByteArray × Unit))) ⊕ ((Int × Unit) × ((List (ByteArray × (Int × Int × Unit) × Int × Int × Unit)) × ByteArray × Unit))) ⊕ ((Unit) × (ByteArray × Unit))) k (fun y2 =>
              bif (decide (y2.1.1 < ((List.length v1 : Nat) : Int))) then
                bif (inR y2.1.1 ((List.length v1 : Nat) : Int)) then
                  bif (inR y2.1.1 ((List.length v1 : Nat) : Int)) then
                    bif (!(sEq ((rd (α := (ByteArray × (Int × Int × Unit) × Int × Int × Unit)) (ByteArray.empty, ((0 : Int), (0 : Int), ()), (0 : Int), (0 : Int), ()) v1 y2.1.1).1) y2.2.1)) then
                      some (.inr (.inl (.inr ((y2.1.1, ()), (v1, y2.2.1, ())))))
                    else
                      some (.inl (((IntKind.i64.wrap (y2.1.1 + (1 : Int))), ()), (y2.2.1, ())))
                  else
                    none
                else
                  none
              else
                some (.inr (.inr ((), (y2.2.1, ()))))) (((0 : Int), ()), (x2, ()))) fun r => match r with
          | .inl z => some z
          | .inr z3 =>
            some (.inr (((-1 : Int), ()), (v1, z3.2.1, ())))) fun r => match r with
      | .inl z => some z
      | .inr y4 =>
        bif (y4.1.1 == (-1 : Int)) then
          some (.inr ((y4.2.1, ()), (y4.2.2.1, ())))
        else
          Option.bind (α := (((List Int) × Unit) ⊕ (((List (ByteArray × (Int × Int × Unit) × Int × Int × Unit)) × Unit) × (ByteArray × Unit))) ⊕ ((Int × Unit) × ((List (ByteArray × (Int × Int × Unit) × Int × Int × Unit)) × ByteArray × Unit))) (iter (σ := (Int × Int × Unit) × ((List (ByteArray × (Int × Int × Unit) × Int × Int × Unit)) × ByteArray × Unit)) (τ := (((List Int) × Unit) ⊕ (((List (ByteArray × (Int × Int × Unit) × Int × Int × Unit)) × Unit) × (ByteArray × Unit))) ⊕ ((Int × Unit) × ((List (ByteArray × (Int × Int × Unit) × Int × Int × Unit)) × ByteArray × Unit))) k (fun y5 =>
              bif (decide (y5.1.2.1 < ((List.length y5.2.1 : Nat) : Int))) then
                bif (inR y5.1.2.1 ((List.length y5.2.1 : Nat) : Int)) then
                  bif (inR y5.1.2.1 ((List.length y5.2.1 : Nat) : Int)) then
                    bif (!(!(sEq ((rd (α := (ByteArray × (Int × Int × Unit) × Int × Int × Unit)) (ByteArray.empty, ((0 : Int), (0 : Int), ()), (0 : Int), (0 : Int), ()) y5.2.1 y5.1.2.1).1) y5.2.2.1))) then
                      bif (inR y5.1.1 ((List.length y5.2.1 : Nat) : Int)) then
                        bif (inR y5.1.1 ((List.length y5.2.1 : Nat) : Int)) then
                          some (.inl (((IntKind.i64.wrap (y5.1.1 + (1 : Int))), (IntKind.i64.wrap (y5.1.2.1 + (1 : Int))), ()), ((List.set y5.2.1 (Int.toNat y5.1.1) (rd (α := (ByteArray × (Int × Int × Unit) × Int × Int × Unit)) (ByteArray.empty, ((0 : Int), (0 : Int), ()), (0 : Int), (0 : Int), ()) y5.2.1 y5.1.2.1)), y5.2.2.1, ())))
                        else
                          none
                      else
                        none
                    else
                      some (.inl ((y5.1.1, (IntKind.i64.wrap (y5.1.2.1 + (1 : Int))), ()), (y5.2.1, y5.2.2.1, ())))
                  else
                    none
                else
                  none
              else
                some (.inr (.inr ((y5.1.1, ()), (y5.2.1, y5.2.2.1, ()))))) ((y4.1.1, (IntKind.i64.wrap (y4.1.1 + (1 : Int))), ()), (y4.2.1, y4.2.2.1, ()))) fun r => match r with
          | .inl z => some z
          | .inr z6 =>
            bif (decide (0 ≤ z6.1.1) && (decide (z6.1.1 ≤ ((List.length z6.2.1 : Nat) : Int)) && decide (((List.length z6.2.1 : Nat) : Int) ≤ ((List.length z6.2.1 : Nat) : Int)))) then
              bif (decide (0 ≤ (0 : Int)) && (decide ((0 : Int) ≤ z6.1.1) && decide (z6.1.1 ≤ ((List.length (List.take (Int.toNat z6.1.1) z6.2.1 ++ (List.replicate (Int.toNat (((List.length z6.2.1 : Nat) : Int) - z6.1.1)) (ByteArray.empty, ((0 : Int), (0 : Int), ()), (0 : Int), (0 : Int), ()) ++ List.drop (Int.toNat ((List.length z6.2.1 : Nat) : Int)) z6.2.1)) : Nat) : Int)))) then
                some (.inr (((List.drop (Int.toNat (0 : Int)) (List.take (Int.toNat z6.1.1) (List.take (Int.toNat z6.1.1) z6.2.1 ++ (List.replicate (Int.toNat (((List.length z6.2.1 : Nat) : Int) - z6.1.1)) (ByteArray.empty, ((0 : Int), (0 : Int), ()), (0 : Int), (0 : Int), ()) ++ List.drop (Int.toNat ((List.length z6.2.1 : Nat) : Int)) z6.2.1)))), ()), (z6.2.2.1, ())))
              else
                none
            else
              none) fun r => match r with
  | .inl z => some z
  | .inr y7 =>
    Option.bind (α := ((List Int) × Unit) ⊕ (((List Int) × Unit) × (Unit))) (iter (σ := ((List Int) × Int × Unit) × (Unit)) (τ := ((List Int) × Unit) ⊕ (((List Int) × Unit) × (Unit))) k (fun y8 =>
        bif (decide (y8.1.2.1 < ((List.length y7.1.1 : Nat) : Int))) then
          Option.bind (α := ((((List Int) × Int × Unit) × (Unit)) ⊕ (((List Int) × Unit) ⊕ (((List Int) × Unit) × (Unit)))) ⊕ ((Int × Unit) × (Unit))) (iter (σ := (Int × Int × Unit) × (Unit)) (τ := ((((List Int) × Int × Unit) × (Unit)) ⊕ (((List Int) × Unit) ⊕ (((List Int) × Unit) × (Unit)))) ⊕ ((Int × Unit) × (Unit))) k (fun y9 =>
              bif (decide (y9.1.2.1 > (0 : Int))) then
                bif (inR y9.1.2.1 ((List.length y7.1.1 : Nat) : Int)) then
                  bif (inR y9.1.2.1 ((List.length y7.1.1 : Nat) : Int)) then
                    bif (inR (IntKind.i64.wrap (y9.1.2.1 - (1 : Int))) ((List.length y7.1.1 : Nat) : Int)) then
                      bif (inR (IntKind.i64.wrap (y9.1.2.1 - (1 : Int))) ((List.length y7.1.1 : Nat) : Int)) then
                        bif (decide ((IntKind.i64.wrap ((rd (α := (ByteArray × (Int × Int × Unit) × Int × Int × Unit)) (ByteArray.empty, ((0 : Int), (0 : Int), ()), (0 : Int), (0 : Int), ()) y7.1.1 y9.1.2.1).2.1.1 - (rd (α := (ByteArray × (Int × Int × Unit) × Int × Int × Unit)) (ByteArray.empty, ((0 : Int), (0 : Int), ()), (0 : Int), (0 : Int), ()) y7.1.1 (IntKind.i64.wrap (y9.1.2.1 - (1 : Int)))).2.1.2.1)) < x0.2.1)) then
                          bif (inR (IntKind.i64.wrap (y9.1.2.1 - (1 : Int))) ((List.length y7.1.1 : Nat) : Int)) then
                            bif (inR (IntKind.i64.wrap (y9.1.2.1 - (1 : Int))) ((List.length y7.1.1 : Nat) : Int)) then
                              bif (inR (IntKind.i64.wrap (y9.1.2.1 - (1 : Int))) ((List.length y7.1.1 : Nat) : Int)) then
                                bif (inR (IntKind.i64.wrap (y9.1.2.1 - (1 : Int))) ((List.length y7.1.1 : Nat) : Int)) then
                                  some (.inl (((IntKind.i64.wrap (y9.1.1 + (IntKind.i64.wrap ((rd (α := (ByteArray × (Int × Int × Unit) × Int × Int × Unit)) (ByteArray.empty, ((0 : Int), (0 : Int), ()), (0 : Int), (0 : Int), ()) y7.1.1 (IntKind.i64.wrap (y9.1.2.1 - (1 : Int)))).2.1.2.1 - (rd (α := (ByteArray × (Int × Int × Unit) × Int × Int × Unit)) (ByteArray.empty, ((0 : Int), (0 : Int), ()), (0 : Int), (0 : Int), ()) y7.1.1 (IntKind.i64.wrap (y9.1.2.1 - (1 : Int)))).2.1.1)))), (IntKind.i64.wrap (y9.1.2.1 - (1 : Int))), ()), ()))
                                else
                                  none
                              else
                                none
                            else
                              none
                          else
                            none
                        else
                          some (.inr (.inr ((y9.1.1, ()), ())))
                      else
                        none
                    else
                      none
                  else
                    none
                else
                  none
              else
                some (.inr (.inr ((y9.1.1, ()), ())))) (((0 : Int), y8.1.2.1, ()), ())) fun r => match r with
          | .inl z => some z
          | .inr z10 =>
            bif (decide (z10.1.1 ≥ x0.1)) then
              bif decide (List.length y8.1.1 + List.length ([y8.1.2.1]) ≤ 4294967296) then
                some (.inl (((y8.1.1 ++ [y8.1.2.1]), (IntKind.i64.wrap (y8.1.2.1 + (1 : Int))), ()), ()))
              else
                none
            else
              some (.inl ((y8.1.1, (IntKind.i64.wrap (y8.1.2.1 + (1 : Int))), ()), ()))
        else
          some (.inr (.inr ((y8.1.1, ()), ())))) (([], (0 : Int), ()), ())) fun r => match r with
    | .inl z => some z
    | .inr z11 =>
      some (z11.1.1, ())
/-! ### slices.Equal[[]int,int] -/
/-! ### slices.Equal[[]jitney/api.Window,jitney/api.Window] -/
/-! ### jitney/jitlaw2.ShiftsCovered -/
def f6 (g20 : (List Int) → (Int)) (g21 : Bool → Int → (Int)) (g24 : Option (Bool × Unit)) (g31 : ByteArray → (Bool)) (g38 : (List (ByteArray × (Int × Int × Unit) × Int × Int × Unit)) → Option ((List (ByteArray × (Int × Int × Unit) × Int × Int × Unit)) × Unit)) (g41 : (List (ByteArray × (Int × Int × Unit) × Int × Int × Unit)) → (Int)) (g45 : (List (Int × Int × Unit)) → Option (Int × Int × Unit)) (g46 : (List (Int × Int × Unit)) → Option ((List (Int × Int × Unit)) × Unit)) (g47 : (List (Int × Int × Unit)) → Option ((List Int) × Int × Unit)) (g48 : (List (Int × Int × Unit)) → (Int × Int × Unit) → Int → Option ((List (Int × Int × Unit)) × Int × Unit)) (g49 : (Int × Int × Unit) → (List (ByteArray × (Int × Int × Unit) × Int × Int × Unit)) → ByteArray → Option ((List Int) × Int × Unit)) (g50 : (List (Int × Int × Unit)) → (Int)) (g51 : (Int × Int × Unit) → (Int)) (g52 : (Int × Int × Unit) → (Int)) (g53 : (List (Int × Int × Unit)) → Option (Int × Unit)) (g54 : (List (Int × Int × Unit)) → Option (Int × Unit)) (g55 : (List (Int × Int × Unit)) → Option ((List Int) × Unit)) (g56 : (List (Int × Int × Unit)) → (Int × Int × Unit) → Int → Option ((List (Int × Int × Unit)) × Unit)) (g57 : (Int × Int × Unit) → (List (ByteArray × (Int × Int × Unit) × Int × Int × Unit)) → ByteArray → Option ((List Int) × Unit)) (g58 : (List Int) → (List Int) → (Bool)) (g59 : (List (Int × Int × Unit)) → (List (Int × Int × Unit)) → (Bool)) (k : Nat) (x0 : List (Int × Int × Unit)) (x1 : (Int × Int × Unit)) (x2 : Int) (x3 : List (ByteArray × (Int × Int × Unit) × Int × Int × Unit)) (x4 : (Int × Int × Unit)) (x5 : ByteArray) : Option (Bool × Unit) :=
  Option.bind (g46 x0) fun v1 =>
  Option.bind (g45 v1.1) fun v2 =>
  Option.bind (g46 x0) fun v3 =>
  Option.bind (g47 v3.1) fun v4 =>
  Option.bind (g46 x0) fun v5 =>
  Option.bind (g48 v5.1 x1 x2) fun v6 =>
  Option.bind (g38 x3) fun v7 =>
  Option.bind (g49 x4 v7.1 x5) fun v8 =>
  Option.bind (α := (Bool × Unit) ⊕ ((Int × Unit) × (Unit))) (
      bif (decide (x2 < (0 : Int))) then
        some (.inr (((g20 ([(g50 x0), (g51 x1), (g21 true (1 : Int))])), ()), ()))
      else
        some (.inr (((g20 ([(g50 x0), (g51 x1), (g21 (decide (x2 > (500 : Int))) (1 : Int))])), ()), ()))) fun r => match r with
  | .inl z => some z
  | .inr y9 =>
    Option.bind (g46 x0) fun v10 =>
    Option.bind (g53 v10.1) fun v11 =>
    bif (v11.1 != (g50 x0)) then
      some (false, ())
    else
      Option.bind (α := (Bool × Unit) ⊕ ((Int × (List Int) × Unit) × (Unit))) (
          bif ((g50 x0) == (0 : Int)) then
            Option.bind (g54 x0) fun v12 =>
            Option.bind (g55 x0) fun v13 =>
            some (.inr ((v12.1, v13.1, ()), ()))
          else
            some (.inr (((0 : Int), [], ()), ()))) fun r => match r with
      | .inl z => some z
      | .inr y14 =>
        Option.bind (α := (Bool × Unit) ⊕ (((List (Int × Int × Unit)) × Unit) × (Unit))) (
            bif (y9.1.1 == (0 : Int)) then
              Option.bind (g56 x0 x1 x2) fun v15 =>
              some (.inr ((v15.1, ()), ()))
            else
              some (.inr (([], ()), ()))) fun r => match r with
        | .inl z => some z
        | .inr y16 =>
          Option.bind (α := (Bool × Unit) ⊕ (((List Int) × Unit) × (Unit))) (
              bif ((g20 ([(g52 x4), (g41 x3), (g21 (!(g31 x5)) (5 : Int))])) == (0 : Int)) then
                Option.bind (g57 x4 x3 x5) fun v17 =>
                some (.inr ((v17.1, ()), ()))
              else
                some (.inr (([], ()), ()))) fun r => match r with
          | .inl z => some z
          | .inr y18 =>
            bif (v2.2.1 == (g50 x0)) then
              bif (v2.1 == y14.1.1) then
                bif (v4.2.1 == (g50 x0)) then
                  bif (g58 v4.1 y14.1.2.1) then
                    bif (v6.2.1 == y9.1.1) then
                      bif (g59 v6.1 y16.1.1) then
                        bif (v8.2.1 == (g20 ([(g52 x4), (g41 x3), (g21 (!(g31 x5)) (5 : Int))]))) then
                          bif (g58 v8.1 y18.1.1) then
                            Option.bind g24 fun v19 =>
                            some (v19.1, ())
                          else
                            some (false, ())
                        else
                          some (false, ())
                      else
                        some (false, ())
                    else
                      some (false, ())
                  else
                    some (false, ())
                else
                  some (false, ())
              else
                some (false, ())
            else
              some (false, ())
abbrev A6 : Tys := (.cons (.slice (.struct (.cons (.int .i64) (.cons (.int .i64) .nil)))) (.cons (.struct (.cons (.int .i64) (.cons (.int .i64) .nil))) (.cons (.int .i64) (.cons (.slice (.struct (.cons .str (.cons (.struct (.cons (.int .i64) (.cons (.int .i64) .nil))) (.cons (.int .i64) (.cons (.int .i64) .nil)))))) (.cons (.struct (.cons (.int .i64) (.cons (.int .i64) .nil))) (.cons .str .nil))))))
end Go.Vm
