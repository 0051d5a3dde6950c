/- Vm, part 32: Go's stable sort over any type of elements, printed by an own tool (wip/tools/mk_stable.py). -/
import Derived.Test.YtjkidhjkpkcnhaaGreatDoorVmD
set_option linter.unusedVariables false
namespace Go.Vm
section
variable {α : Type} (d : α) (cmp : α → α → Int)
def swapRange (k : Nat) (x0 : List α) (x1 : Int) (x2 : Int) (x3 : Int) : Option (List α) :=
  Option.bind (α := (List α) ⊕ ((Unit) × ((List α) × Unit))) (iter (σ := (Int × Unit) × ((List α) × Unit)) (τ := (List α) ⊕ ((Unit) × ((List α) × Unit))) k (fun y1 =>
      bif (decide (y1.1.1 < x3)) then
        bif (inR (IntKind.i64.wrap (x2 + y1.1.1)) ((List.length y1.2.1 : Nat) : Int)) then
          bif (inR (IntKind.i64.wrap (x2 + y1.1.1)) ((List.length y1.2.1 : Nat) : Int)) then
            bif (inR (IntKind.i64.wrap (x1 + y1.1.1)) ((List.length y1.2.1 : Nat) : Int)) then
              bif (inR (IntKind.i64.wrap (x1 + y1.1.1)) ((List.length y1.2.1 : Nat) : Int)) then
                bif (inR (IntKind.i64.wrap (x1 + y1.1.1)) ((List.length y1.2.1 : Nat) : Int)) then
                  bif (inR (IntKind.i64.wrap (x1 + y1.1.1)) ((List.length y1.2.1 : Nat) : Int)) then
                    bif (inR (IntKind.i64.wrap (x2 + y1.1.1)) ((List.length (List.set y1.2.1 (Int.toNat (IntKind.i64.wrap (x1 + y1.1.1))) (rd (α := α) d y1.2.1 (IntKind.i64.wrap (x2 + y1.1.1)))) : Nat) : Int)) then
                      bif (inR (IntKind.i64.wrap (x2 + y1.1.1)) ((List.length (List.set y1.2.1 (Int.toNat (IntKind.i64.wrap (x1 + y1.1.1))) (rd (α := α) d y1.2.1 (IntKind.i64.wrap (x2 + y1.1.1)))) : Nat) : Int)) then
                        some (.inl (((IntKind.i64.wrap (y1.1.1 + (1 : Int))), ()), ((List.set (List.set y1.2.1 (Int.toNat (IntKind.i64.wrap (x1 + y1.1.1))) (rd (α := α) d y1.2.1 (IntKind.i64.wrap (x2 + y1.1.1)))) (Int.toNat (IntKind.i64.wrap (x2 + y1.1.1))) (rd (α := α) d y1.2.1 (IntKind.i64.wrap (x1 + y1.1.1)))), ())))
                      else
                        none
                    else
                      none
                  else
                    none
                else
                  none
              else
                none
            else
              none
          else
            none
        else
          none
      else
        some (.inr (.inr ((), (y1.2.1, ()))))) (((0 : Int), ()), (x0, ()))) fun r => match r with
  | .inl z => some z
  | .inr z2 =>
    some z2.2.1
def rotate (k : Nat) (x0 : List α) (x1 : Int) (x2 : Int) (x3 : Int) : Option (List α) :=
  Option.bind (α := (List α) ⊕ ((Int × Unit) × ((List α) × Unit))) (iter (σ := (Int × Int × Unit) × ((List α) × Unit)) (τ := (List α) ⊕ ((Int × Unit) × ((List α) × Unit))) k (fun y1 =>
      bif (y1.1.1 != y1.1.2.1) then
        bif (decide (y1.1.1 > y1.1.2.1)) then
          Option.bind ((swapRange d k) y1.2.1 (IntKind.i64.wrap (x2 - y1.1.1)) x2 y1.1.2.1) fun v2 =>
          some (.inl (((IntKind.i64.wrap (y1.1.1 - y1.1.2.1)), y1.1.2.1, ()), (v2, ())))
        else
          Option.bind ((swapRange d k) y1.2.1 (IntKind.i64.wrap (x2 - y1.1.1)) (IntKind.i64.wrap ((IntKind.i64.wrap (x2 + y1.1.2.1)) - y1.1.1)) y1.1.1) fun v3 =>
          some (.inl ((y1.1.1, (IntKind.i64.wrap (y1.1.2.1 - y1.1.1)), ()), (v3, ())))
      else
        some (.inr (.inr ((y1.1.1, ()), (y1.2.1, ()))))) (((IntKind.i64.wrap (x2 - x1)), (IntKind.i64.wrap (x3 - x2)), ()), (x0, ()))) fun r => match r with
  | .inl z => some z
  | .inr z4 =>
    Option.bind ((swapRange d k) z4.2.1 (IntKind.i64.wrap (x2 - z4.1.1)) x2 z4.1.1) fun v5 =>
    some v5
def insSort (k : Nat) (x0 : List α) (x1 : Int) (x2 : Int) : Option (List α) :=
  Option.bind (α := (List α) ⊕ ((Unit) × ((List α) × Unit))) (iter (σ := (Int × Unit) × ((List α) × Unit)) (τ := (List α) ⊕ ((Unit) × ((List α) × Unit))) k (fun y1 =>
      bif (decide (y1.1.1 < x2)) then
        Option.bind (α := (((Int × Unit) × ((List α) × Unit)) ⊕ ((List α) ⊕ ((Unit) × ((List α) × Unit)))) ⊕ ((Unit) × ((List α) × Unit))) (iter (σ := (Int × Unit) × ((List α) × Unit)) (τ := (((Int × Unit) × ((List α) × Unit)) ⊕ ((List α) ⊕ ((Unit) × ((List α) × Unit)))) ⊕ ((Unit) × ((List α) × Unit))) k (fun y2 =>
            bif (decide (y2.1.1 > x1)) then
              bif (inR y2.1.1 ((List.length y2.2.1 : Nat) : Int)) then
                bif (inR y2.1.1 ((List.length y2.2.1 : Nat) : Int)) then
                  bif (inR (IntKind.i64.wrap (y2.1.1 - (1 : Int))) ((List.length y2.2.1 : Nat) : Int)) then
                    bif (inR (IntKind.i64.wrap (y2.1.1 - (1 : Int))) ((List.length y2.2.1 : Nat) : Int)) then
                      bif (decide ((cmp (rd (α := α) d y2.2.1 y2.1.1) (rd (α := α) d y2.2.1 (IntKind.i64.wrap (y2.1.1 - (1 : Int))))) < (0 : Int))) then
                        bif (inR (IntKind.i64.wrap (y2.1.1 - (1 : Int))) ((List.length y2.2.1 : Nat) : Int)) then
                          bif (inR (IntKind.i64.wrap (y2.1.1 - (1 : Int))) ((List.length y2.2.1 : Nat) : Int)) then
                            bif (inR y2.1.1 ((List.length y2.2.1 : Nat) : Int)) then
                              bif (inR y2.1.1 ((List.length y2.2.1 : Nat) : Int)) then
                                bif (inR y2.1.1 ((List.length y2.2.1 : Nat) : Int)) then
                                  bif (inR y2.1.1 ((List.length y2.2.1 : Nat) : Int)) then
                                    bif (inR (IntKind.i64.wrap (y2.1.1 - (1 : Int))) ((List.length (List.set y2.2.1 (Int.toNat y2.1.1) (rd (α := α) d y2.2.1 (IntKind.i64.wrap (y2.1.1 - (1 : Int))))) : Nat) : Int)) then
                                      bif (inR (IntKind.i64.wrap (y2.1.1 - (1 : Int))) ((List.length (List.set y2.2.1 (Int.toNat y2.1.1) (rd (α := α) d y2.2.1 (IntKind.i64.wrap (y2.1.1 - (1 : Int))))) : Nat) : Int)) then
                                        some (.inl (((IntKind.i64.wrap (y2.1.1 - (1 : Int))), ()), ((List.set (List.set y2.2.1 (Int.toNat y2.1.1) (rd (α := α) d y2.2.1 (IntKind.i64.wrap (y2.1.1 - (1 : Int))))) (Int.toNat (IntKind.i64.wrap (y2.1.1 - (1 : Int)))) (rd (α := α) d y2.2.1 y2.1.1)), ())))
                                      else
                                        none
                                    else
                                      none
                                  else
                                    none
                                else
                                  none
                              else
                                none
                            else
                              none
                          else
                            none
                        else
                          none
                      else
                        some (.inr (.inr ((), (y2.2.1, ()))))
                    else
                      none
                  else
                    none
                else
                  none
              else
                none
            else
              some (.inr (.inr ((), (y2.2.1, ()))))) ((y1.1.1, ()), (y1.2.1, ()))) fun r => match r with
        | .inl z => some z
        | .inr z3 =>
          some (.inl (((IntKind.i64.wrap (y1.1.1 + (1 : Int))), ()), (z3.2.1, ())))
      else
        some (.inr (.inr ((), (y1.2.1, ()))))) (((IntKind.i64.wrap (x1 + (1 : Int))), ()), (x0, ()))) fun r => match r with
  | .inl z => some z
  | .inr z4 =>
    some z4.2.1
def symMergeF (rec : List α → Int → Int → Int → Option (List α)) (k : Nat) (x0 : List α) (x1 : Int) (x2 : Int) (x3 : Int) : Option (List α) :=
  bif ((IntKind.i64.wrap (x2 - x1)) == (1 : Int)) then
    Option.bind (α := (List α) ⊕ ((Int × Unit) × (Unit))) (iter (σ := (Int × Int × Unit) × (Unit)) (τ := (List α) ⊕ ((Int × Unit) × (Unit))) k (fun y1 =>
        bif (decide (y1.1.1 < y1.1.2.1)) then
          bif (inR (IntKind.i64.wrap (Int.fdiv (IntKind.u64.wrap (IntKind.i64.wrap (y1.1.1 + y1.1.2.1))) (2 : Int))) ((List.length x0 : Nat) : Int)) then
            bif (inR (IntKind.i64.wrap (Int.fdiv (IntKind.u64.wrap (IntKind.i64.wrap (y1.1.1 + y1.1.2.1))) (2 : Int))) ((List.length x0 : Nat) : Int)) then
              bif (inR x1 ((List.length x0 : Nat) : Int)) then
                bif (inR x1 ((List.length x0 : Nat) : Int)) then
                  bif (decide ((cmp (rd (α := α) d x0 (IntKind.i64.wrap (Int.fdiv (IntKind.u64.wrap (IntKind.i64.wrap (y1.1.1 + y1.1.2.1))) (2 : Int)))) (rd (α := α) d x0 x1)) < (0 : Int))) then
                    some (.inl (((IntKind.i64.wrap ((IntKind.i64.wrap (Int.fdiv (IntKind.u64.wrap (IntKind.i64.wrap (y1.1.1 + y1.1.2.1))) (2 : Int))) + (1 : Int))), y1.1.2.1, ()), ()))
                  else
                    some (.inl ((y1.1.1, (IntKind.i64.wrap (Int.fdiv (IntKind.u64.wrap (IntKind.i64.wrap (y1.1.1 + y1.1.2.1))) (2 : Int))), ()), ()))
                else
                  none
              else
                none
            else
              none
          else
            none
        else
          some (.inr (.inr ((y1.1.1, ()), ())))) ((x2, x3, ()), ())) fun r => match r with
    | .inl z => some z
    | .inr z2 =>
      Option.bind (α := (List α) ⊕ ((Unit) × ((List α) × Unit))) (iter (σ := (Int × Unit) × ((List α) × Unit)) (τ := (List α) ⊕ ((Unit) × ((List α) × Unit))) k (fun y3 =>
          bif (decide (y3.1.1 < (IntKind.i64.wrap (z2.1.1 - (1 : Int))))) then
            bif (inR (IntKind.i64.wrap (y3.1.1 + (1 : Int))) ((List.length y3.2.1 : Nat) : Int)) then
              bif (inR (IntKind.i64.wrap (y3.1.1 + (1 : Int))) ((List.length y3.2.1 : Nat) : Int)) then
                bif (inR y3.1.1 ((List.length y3.2.1 : Nat) : Int)) then
                  bif (inR y3.1.1 ((List.length y3.2.1 : Nat) : Int)) then
                    bif (inR y3.1.1 ((List.length y3.2.1 : Nat) : Int)) then
                      bif (inR y3.1.1 ((List.length y3.2.1 : Nat) : Int)) then
                        bif (inR (IntKind.i64.wrap (y3.1.1 + (1 : Int))) ((List.length (List.set y3.2.1 (Int.toNat y3.1.1) (rd (α := α) d y3.2.1 (IntKind.i64.wrap (y3.1.1 + (1 : Int))))) : Nat) : Int)) then
                          bif (inR (IntKind.i64.wrap (y3.1.1 + (1 : Int))) ((List.length (List.set y3.2.1 (Int.toNat y3.1.1) (rd (α := α) d y3.2.1 (IntKind.i64.wrap (y3.1.1 + (1 : Int))))) : Nat) : Int)) then
                            some (.inl (((IntKind.i64.wrap (y3.1.1 + (1 : Int))), ()), ((List.set (List.set y3.2.1 (Int.toNat y3.1.1) (rd (α := α) d y3.2.1 (IntKind.i64.wrap (y3.1.1 + (1 : Int))))) (Int.toNat (IntKind.i64.wrap (y3.1.1 + (1 : Int)))) (rd (α := α) d y3.2.1 y3.1.1)), ())))
                          else
                            none
                        else
                          none
                      else
                        none
                    else
                      none
                  else
                    none
                else
                  none
              else
                none
            else
              none
          else
            some (.inr (.inr ((), (y3.2.1, ()))))) ((x1, ()), (x0, ()))) fun r => match r with
      | .inl z => some z
      | .inr z4 =>
        some z4.2.1
  else
    bif ((IntKind.i64.wrap (x3 - x2)) == (1 : Int)) then
      Option.bind (α := (List α) ⊕ ((Int × Unit) × (Unit))) (iter (σ := (Int × Int × Unit) × (Unit)) (τ := (List α) ⊕ ((Int × Unit) × (Unit))) k (fun y5 =>
          bif (decide (y5.1.1 < y5.1.2.1)) then
            bif (inR x2 ((List.length x0 : Nat) : Int)) then
              bif (inR x2 ((List.length x0 : Nat) : Int)) then
                bif (inR (IntKind.i64.wrap (Int.fdiv (IntKind.u64.wrap (IntKind.i64.wrap (y5.1.1 + y5.1.2.1))) (2 : Int))) ((List.length x0 : Nat) : Int)) then
                  bif (inR (IntKind.i64.wrap (Int.fdiv (IntKind.u64.wrap (IntKind.i64.wrap (y5.1.1 + y5.1.2.1))) (2 : Int))) ((List.length x0 : Nat) : Int)) then
                    bif (!(decide ((cmp (rd (α := α) d x0 x2) (rd (α := α) d x0 (IntKind.i64.wrap (Int.fdiv (IntKind.u64.wrap (IntKind.i64.wrap (y5.1.1 + y5.1.2.1))) (2 : Int))))) < (0 : Int)))) then
                      some (.inl (((IntKind.i64.wrap ((IntKind.i64.wrap (Int.fdiv (IntKind.u64.wrap (IntKind.i64.wrap (y5.1.1 + y5.1.2.1))) (2 : Int))) + (1 : Int))), y5.1.2.1, ()), ()))
                    else
                      some (.inl ((y5.1.1, (IntKind.i64.wrap (Int.fdiv (IntKind.u64.wrap (IntKind.i64.wrap (y5.1.1 + y5.1.2.1))) (2 : Int))), ()), ()))
                  else
                    none
                else
                  none
              else
                none
            else
              none
          else
            some (.inr (.inr ((y5.1.1, ()), ())))) ((x1, x2, ()), ())) fun r => match r with
      | .inl z => some z
      | .inr z6 =>
        Option.bind (α := (List α) ⊕ ((Unit) × ((List α) × Unit))) (iter (σ := (Int × Unit) × ((List α) × Unit)) (τ := (List α) ⊕ ((Unit) × ((List α) × Unit))) k (fun y7 =>
            bif (decide (y7.1.1 > z6.1.1)) then
              bif (inR (IntKind.i64.wrap (y7.1.1 - (1 : Int))) ((List.length y7.2.1 : Nat) : Int)) then
                bif (inR (IntKind.i64.wrap (y7.1.1 - (1 : Int))) ((List.length y7.2.1 : Nat) : Int)) then
                  bif (inR y7.1.1 ((List.length y7.2.1 : Nat) : Int)) then
                    bif (inR y7.1.1 ((List.length y7.2.1 : Nat) : Int)) then
                      bif (inR y7.1.1 ((List.length y7.2.1 : Nat) : Int)) then
                        bif (inR y7.1.1 ((List.length y7.2.1 : Nat) : Int)) then
                          bif (inR (IntKind.i64.wrap (y7.1.1 - (1 : Int))) ((List.length (List.set y7.2.1 (Int.toNat y7.1.1) (rd (α := α) d y7.2.1 (IntKind.i64.wrap (y7.1.1 - (1 : Int))))) : Nat) : Int)) then
                            bif (inR (IntKind.i64.wrap (y7.1.1 - (1 : Int))) ((List.length (List.set y7.2.1 (Int.toNat y7.1.1) (rd (α := α) d y7.2.1 (IntKind.i64.wrap (y7.1.1 - (1 : Int))))) : Nat) : Int)) then
                              some (.inl (((IntKind.i64.wrap (y7.1.1 - (1 : Int))), ()), ((List.set (List.set y7.2.1 (Int.toNat y7.1.1) (rd (α := α) d y7.2.1 (IntKind.i64.wrap (y7.1.1 - (1 : Int))))) (Int.toNat (IntKind.i64.wrap (y7.1.1 - (1 : Int)))) (rd (α := α) d y7.2.1 y7.1.1)), ())))
                            else
                              none
                          else
                            none
                        else
                          none
                      else
                        none
                    else
                      none
                  else
                    none
                else
                  none
              else
                none
            else
              some (.inr (.inr ((), (y7.2.1, ()))))) ((x2, ()), (x0, ()))) fun r => match r with
        | .inl z => some z
        | .inr z8 =>
          some z8.2.1
    else
      Option.bind (α := (List α) ⊕ ((Int × Int × Unit) × (Unit))) (
          bif (decide (x2 > (IntKind.i64.wrap (Int.fdiv (IntKind.u64.wrap (IntKind.i64.wrap (x1 + x3))) (2 : Int))))) then
            some (.inr (((IntKind.i64.wrap ((IntKind.i64.wrap ((IntKind.i64.wrap (Int.fdiv (IntKind.u64.wrap (IntKind.i64.wrap (x1 + x3))) (2 : Int))) + x2)) - x3)), (IntKind.i64.wrap (Int.fdiv (IntKind.u64.wrap (IntKind.i64.wrap (x1 + x3))) (2 : Int))), ()), ()))
          else
            some (.inr ((x1, x2, ()), ()))) fun r => match r with
      | .inl z => some z
      | .inr y9 =>
        Option.bind (α := (List α) ⊕ ((Int × Unit) × (Unit))) (iter (σ := (Int × Int × Unit) × (Unit)) (τ := (List α) ⊕ ((Int × Unit) × (Unit))) k (fun y10 =>
            bif (decide (y10.1.1 < y10.1.2.1)) then
              bif (inR (IntKind.i64.wrap ((IntKind.i64.wrap ((IntKind.i64.wrap ((IntKind.i64.wrap (Int.fdiv (IntKind.u64.wrap (IntKind.i64.wrap (x1 + x3))) (2 : Int))) + x2)) - (1 : Int))) - (IntKind.i64.wrap (Int.fdiv (IntKind.u64.wrap (IntKind.i64.wrap (y10.1.1 + y10.1.2.1))) (2 : Int))))) ((List.length x0 : Nat) : Int)) then
                bif (inR (IntKind.i64.wrap ((IntKind.i64.wrap ((IntKind.i64.wrap ((IntKind.i64.wrap (Int.fdiv (IntKind.u64.wrap (IntKind.i64.wrap (x1 + x3))) (2 : Int))) + x2)) - (1 : Int))) - (IntKind.i64.wrap (Int.fdiv (IntKind.u64.wrap (IntKind.i64.wrap (y10.1.1 + y10.1.2.1))) (2 : Int))))) ((List.length x0 : Nat) : Int)) then
                  bif (inR (IntKind.i64.wrap (Int.fdiv (IntKind.u64.wrap (IntKind.i64.wrap (y10.1.1 + y10.1.2.1))) (2 : Int))) ((List.length x0 : Nat) : Int)) then
                    bif (inR (IntKind.i64.wrap (Int.fdiv (IntKind.u64.wrap (IntKind.i64.wrap (y10.1.1 + y10.1.2.1))) (2 : Int))) ((List.length x0 : Nat) : Int)) then
                      bif (!(decide ((cmp (rd (α := α) d x0 (IntKind.i64.wrap ((IntKind.i64.wrap ((IntKind.i64.wrap ((IntKind.i64.wrap (Int.fdiv (IntKind.u64.wrap (IntKind.i64.wrap (x1 + x3))) (2 : Int))) + x2)) - (1 : Int))) - (IntKind.i64.wrap (Int.fdiv (IntKind.u64.wrap (IntKind.i64.wrap (y10.1.1 + y10.1.2.1))) (2 : Int)))))) (rd (α := α) d x0 (IntKind.i64.wrap (Int.fdiv (IntKind.u64.wrap (IntKind.i64.wrap (y10.1.1 + y10.1.2.1))) (2 : Int))))) < (0 : Int)))) then
                        some (.inl (((IntKind.i64.wrap ((IntKind.i64.wrap (Int.fdiv (IntKind.u64.wrap (IntKind.i64.wrap (y10.1.1 + y10.1.2.1))) (2 : Int))) + (1 : Int))), y10.1.2.1, ()), ()))
                      else
                        some (.inl ((y10.1.1, (IntKind.i64.wrap (Int.fdiv (IntKind.u64.wrap (IntKind.i64.wrap (y10.1.1 + y10.1.2.1))) (2 : Int))), ()), ()))
                    else
                      none
                  else
                    none
                else
                  none
              else
                none
            else
              some (.inr (.inr ((y10.1.1, ()), ())))) ((y9.1.1, y9.1.2.1, ()), ())) fun r => match r with
        | .inl z => some z
        | .inr z11 =>
          Option.bind (α := (List α) ⊕ ((Bool × Unit) × (Unit))) (
              bif (decide (z11.1.1 < x2)) then
                some (.inr (((decide (x2 < (IntKind.i64.wrap ((IntKind.i64.wrap ((IntKind.i64.wrap (Int.fdiv (IntKind.u64.wrap (IntKind.i64.wrap (x1 + x3))) (2 : Int))) + x2)) - z11.1.1)))), ()), ()))
              else
                some (.inr ((false, ()), ()))) fun r => match r with
          | .inl z => some z
          | .inr y12 =>
            Option.bind (α := (List α) ⊕ ((Unit) × ((List α) × Unit))) (
                bif y12.1.1 then
                  Option.bind ((rotate d k) x0 z11.1.1 x2 (IntKind.i64.wrap ((IntKind.i64.wrap ((IntKind.i64.wrap (Int.fdiv (IntKind.u64.wrap (IntKind.i64.wrap (x1 + x3))) (2 : Int))) + x2)) - z11.1.1))) fun v13 =>
                  some (.inr ((), (v13, ())))
                else
                  some (.inr ((), (x0, ())))) fun r => match r with
            | .inl z => some z
            | .inr y14 =>
              Option.bind (α := (List α) ⊕ ((Bool × Unit) × (Unit))) (
                  bif (decide (x1 < z11.1.1)) then
                    some (.inr (((decide (z11.1.1 < (IntKind.i64.wrap (Int.fdiv (IntKind.u64.wrap (IntKind.i64.wrap (x1 + x3))) (2 : Int))))), ()), ()))
                  else
                    some (.inr ((false, ()), ()))) fun r => match r with
              | .inl z => some z
              | .inr y15 =>
                Option.bind (α := (List α) ⊕ ((Unit) × ((List α) × Unit))) (
                    bif y15.1.1 then
                      Option.bind (rec y14.2.1 x1 z11.1.1 (IntKind.i64.wrap (Int.fdiv (IntKind.u64.wrap (IntKind.i64.wrap (x1 + x3))) (2 : Int)))) fun v16 =>
                      some (.inr ((), (v16, ())))
                    else
                      some (.inr ((), (y14.2.1, ())))) fun r => match r with
                | .inl z => some z
                | .inr y17 =>
                  bif (decide ((IntKind.i64.wrap (Int.fdiv (IntKind.u64.wrap (IntKind.i64.wrap (x1 + x3))) (2 : Int))) < (IntKind.i64.wrap ((IntKind.i64.wrap ((IntKind.i64.wrap (Int.fdiv (IntKind.u64.wrap (IntKind.i64.wrap (x1 + x3))) (2 : Int))) + x2)) - z11.1.1)))) then
                    bif (decide ((IntKind.i64.wrap ((IntKind.i64.wrap ((IntKind.i64.wrap (Int.fdiv (IntKind.u64.wrap (IntKind.i64.wrap (x1 + x3))) (2 : Int))) + x2)) - z11.1.1)) < x3)) then
                      Option.bind (rec y17.2.1 (IntKind.i64.wrap (Int.fdiv (IntKind.u64.wrap (IntKind.i64.wrap (x1 + x3))) (2 : Int))) (IntKind.i64.wrap ((IntKind.i64.wrap ((IntKind.i64.wrap (Int.fdiv (IntKind.u64.wrap (IntKind.i64.wrap (x1 + x3))) (2 : Int))) + x2)) - z11.1.1)) x3) fun v18 =>
                      some v18
                    else
                      some y17.2.1
                  else
                    some y17.2.1
/-- .. that calls itself -/
def symMergeK (k : Nat) : Nat → List α → Int → Int → Int → Option (List α)
  | 0 => fun _ _ _ _ => none
  | n + 1 => symMergeF d cmp (symMergeK k n) k
def stableRow (k : Nat) (x0 : List α) (x1 : Int) : Option (List α) :=
  Option.bind (α := (List α) ⊕ ((Int × Unit) × ((List α) × Unit))) (iter (σ := (Int × Int × Unit) × ((List α) × Unit)) (τ := (List α) ⊕ ((Int × Unit) × ((List α) × Unit))) k (fun y1 =>
      bif (decide (y1.1.2.1 ≤ x1)) then
        Option.bind ((insSort d cmp k) y1.2.1 y1.1.1 y1.1.2.1) fun v2 =>
        some (.inl ((y1.1.2.1, (IntKind.i64.wrap (y1.1.2.1 + (20 : Int))), ()), (v2, ())))
      else
        some (.inr (.inr ((y1.1.1, ()), (y1.2.1, ()))))) (((0 : Int), (20 : Int), ()), (x0, ()))) fun r => match r with
  | .inl z => some z
  | .inr z3 =>
    Option.bind ((insSort d cmp k) z3.2.1 z3.1.1 x1) fun v4 =>
    Option.bind (α := (List α) ⊕ ((Unit) × ((List α) × Unit))) (iter (σ := (Int × Unit) × ((List α) × Unit)) (τ := (List α) ⊕ ((Unit) × ((List α) × Unit))) k (fun y5 =>
        bif (decide (y5.1.1 < x1)) then
          Option.bind (α := (((Int × Unit) × ((List α) × Unit)) ⊕ ((List α) ⊕ ((Unit) × ((List α) × Unit)))) ⊕ ((Int × Unit) × ((List α) × Unit))) (iter (σ := (Int × Int × Unit) × ((List α) × Unit)) (τ := (((Int × Unit) × ((List α) × Unit)) ⊕ ((List α) ⊕ ((Unit) × ((List α) × Unit)))) ⊕ ((Int × Unit) × ((List α) × Unit))) k (fun y6 =>
              bif (decide (y6.1.2.1 ≤ x1)) then
                Option.bind ((symMergeK d cmp k k) y6.2.1 y6.1.1 (IntKind.i64.wrap (y6.1.1 + y5.1.1)) y6.1.2.1) fun v7 =>
                some (.inl ((y6.1.2.1, (IntKind.i64.wrap (y6.1.2.1 + (IntKind.i64.wrap ((2 : Int) * y5.1.1)))), ()), (v7, ())))
              else
                some (.inr (.inr ((y6.1.1, ()), (y6.2.1, ()))))) (((0 : Int), (IntKind.i64.wrap ((2 : Int) * y5.1.1)), ()), (y5.2.1, ()))) fun r => match r with
          | .inl z => some z
          | .inr z8 =>
            bif (decide ((IntKind.i64.wrap (z8.1.1 + y5.1.1)) < x1)) then
              Option.bind ((symMergeK d cmp k k) z8.2.1 z8.1.1 (IntKind.i64.wrap (z8.1.1 + y5.1.1)) x1) fun v9 =>
              some (.inl (((IntKind.i64.wrap (y5.1.1 * (2 : Int))), ()), (v9, ())))
            else
              some (.inl (((IntKind.i64.wrap (y5.1.1 * (2 : Int))), ()), (z8.2.1, ())))
        else
          some (.inr (.inr ((), (y5.2.1, ()))))) (((20 : Int), ()), (v4, ()))) fun r => match r with
    | .inl z => some z
    | .inr z10 =>
      some z10.2.1
def sortStable (k : Nat) (x0 : List α) : Option (List α) :=
  Option.bind ((stableRow d cmp k) x0 ((List.length x0 : Nat) : Int)) fun v1 =>
  some v1
end
def H_swapRange (T : Ty) : Hints where
  loop := fun n => match n with
    | 0 => some ({ slots := [(10, (.int .i64))], objs := [(0, (.row T))], gone := [] }, 0, { slots := [], objs := [(0, (.row T))], gone := [] })
    | _ => none
  region := fun n => match n with
    | _ => none
  cond := fun n => match n with
    | _ => none
  block := fun n => match n with
    | _ => none

def H_rotate (T : Ty) : Hints where
  loop := fun n => match n with
    | 0 => some ({ slots := [(10, (.int .i64)), (11, (.int .i64))], objs := [(0, (.row T))], gone := [] }, 0, { slots := [(10, (.int .i64))], objs := [(0, (.row T))], gone := [] })
    | _ => none
  region := fun n => match n with
    | _ => none
  cond := fun n => match n with
    | _ => none
  block := fun n => match n with
    | _ => none

def H_insSort (T : Ty) : Hints where
  loop := fun n => match n with
    | 0 => some ({ slots := [(8, (.int .i64))], objs := [(0, (.row T))], gone := [] }, 0, { slots := [], objs := [(0, (.row T))], gone := [] })
    | 2 => some ({ slots := [(9, (.int .i64))], objs := [(0, (.row T))], gone := [] }, 2, { slots := [], objs := [(0, (.row T))], gone := [] })
    | _ => none
  region := fun n => match n with
    | _ => none
  cond := fun n => match n with
    | _ => none
  block := fun n => match n with
    | _ => none

def H_symMerge (T : Ty) : Hints where
  loop := fun n => match n with
    | 0 => some ({ slots := [(10, (.int .i64)), (11, (.int .i64))], objs := [], gone := [] }, 0, { slots := [(10, (.int .i64))], objs := [], gone := [] })
    | 2 => some ({ slots := [(13, (.int .i64))], objs := [(0, (.row T))], gone := [] }, 2, { slots := [], objs := [(0, (.row T))], gone := [] })
    | 4 => some ({ slots := [(14, (.int .i64)), (15, (.int .i64))], objs := [], gone := [] }, 4, { slots := [(14, (.int .i64))], objs := [], gone := [] })
    | 6 => some ({ slots := [(17, (.int .i64))], objs := [(0, (.row T))], gone := [] }, 6, { slots := [], objs := [(0, (.row T))], gone := [] })
    | 8 => some ({ slots := [(20, (.int .i64)), (21, (.int .i64))], objs := [], gone := [] }, 8, { slots := [(20, (.int .i64))], objs := [], gone := [] })
    | _ => none
  region := fun n => match n with
    | 39 => some { slots := [(185, .bool)], objs := [], gone := [] }
    | 41 => some { slots := [(199, .bool)], objs := [], gone := [] }
    | _ => none
  cond := fun n => match n with
    | 140 => some { slots := [(20, (.int .i64)), (21, (.int .i64))], objs := [], gone := [] }
    | 185 => some { slots := [], objs := [(0, (.row T))], gone := [] }
    | 199 => some { slots := [], objs := [(0, (.row T))], gone := [] }
    | _ => none
  block := fun n => match n with
    | _ => none

def H_stableRow (T : Ty) : Hints where
  loop := fun n => match n with
    | 0 => some ({ slots := [(7, (.int .i64)), (8, (.int .i64))], objs := [(0, (.row T))], gone := [] }, 0, { slots := [(7, (.int .i64))], objs := [(0, (.row T))], gone := [] })
    | 2 => some ({ slots := [(6, (.int .i64))], objs := [(0, (.row T))], gone := [] }, 2, { slots := [], objs := [(0, (.row T))], gone := [] })
    | 4 => some ({ slots := [(7, (.int .i64)), (8, (.int .i64))], objs := [(0, (.row T))], gone := [] }, 4, { slots := [(7, (.int .i64))], objs := [(0, (.row T))], gone := [] })
    | _ => none
  region := fun n => match n with
    | _ => none
  cond := fun n => match n with
    | _ => none
  block := fun n => match n with
    | _ => none

def H_sortStable (T : Ty) : Hints where
  loop := fun n => match n with
    | _ => none
  region := fun n => match n with
    | _ => none
  cond := fun n => match n with
    | _ => none
  block := fun n => match n with
    | _ => none

end Go.Vm

/- Vm, part 33: Go's stable sort: exchanges and rotations. Plain law. Own work. -/
set_option linter.unusedVariables false
set_option linter.unusedSimpArgs false
namespace Go.Vm
section
variable {α : Type} (d : α) (cmp : α → α → Int)
theorem rd_mid {A B : List α} {x : α} {i : Int} (h : i = (A.length : Int)) : rd d (A ++ x :: B) i = x := by
  subst h
  simp [rd, List.getD]
theorem inR_of {n : Nat} {i : Int} (h0 : 0 ≤ i) (h1 : i < (n : Int)) : inR i (n : Int) = true := by simp [inR]; omega
theorem set_mid {A B : List α} {x y : α} {i : Int} (h : i = (A.length : Int)) : (A ++ x :: B).set (Int.toNat i) y = A ++ y :: B := by
  subst h
  simp
theorem swapRange_ok {P X Q Y S : List α} (hn : X.length = Y.length) {a b n : Int} (ha : a = (P.length : Int)) (hb : b = ((P ++ X ++ Q).length : Int)) (hnn : n = (X.length : Int)) (hL : (P ++ X ++ Q ++ Y ++ S).length ≤ 4611686018427387904) {k : Nat} (hk : X.length < k) :
    swapRange d k (P ++ X ++ Q ++ Y ++ S) a b n = some (P ++ Y ++ Q ++ X ++ S) := by
  unfold swapRange
  subst ha hb hnn
  simp only [List.length_append] at hL
  rw [iter_some (fun s : (Int × Unit) × (List α × Unit) => ∃ X1 X2 Y1 Y2, X = X1 ++ X2 ∧ Y = Y1 ++ Y2 ∧ X1.length = Y1.length ∧ s = (((X1.length : Int), ()), (P ++ Y1 ++ X2 ++ Q ++ X1 ++ Y2 ++ S, ())))
    (fun s => ((X.length : Int) - s.1.1).toNat) (fun _ => .inr ((), (P ++ Y ++ Q ++ X ++ S, ()))) ?_ k _ ⟨[], X, [], Y, rfl, rfl, rfl, by simp⟩ (by simp; omega)]
  · rfl
  · rintro s ⟨X1, X2, Y1, Y2, hX, hY, hXY, rfl⟩
    subst hX hY
    simp only [List.length_append] at hn hL
    cases X2 with
    | nil =>
      have : Y2 = [] := by
        cases Y2 with
        | nil => rfl
        | cons y Y2 => simp at hn; omega
      subst this
      right
      simp
    | cons x X2 =>
      cases Y2 with
      | nil => simp at hn; omega
      | cons y Y2 =>
        left
        simp only [List.length_cons] at hn hL
        have e1 : IntKind.i64.wrap (((P.length : Nat) : Int) + (X1.length : Int)) = ((P ++ Y1).length : Int) := by
          rw [wrap_ok (by omega) (by omega)]; simp [hXY]
        have e2 : IntKind.i64.wrap ((((P ++ (X1 ++ x :: X2) ++ Q).length : Nat) : Int) + (X1.length : Int)) = ((P ++ Y1 ++ x :: (X2 ++ Q ++ X1)).length : Int) := by
          rw [wrap_ok (by simp; omega) (by simp; omega)]; simp; omega
        have e3 : IntKind.i64.wrap ((X1.length : Int) + 1) = (((X1 ++ [x]).length : Nat) : Int) := by
          rw [wrap_ok (by omega) (by omega)]; simp
        have dat : P ++ Y1 ++ x :: X2 ++ Q ++ X1 ++ y :: Y2 ++ S = (P ++ Y1 ++ x :: (X2 ++ Q ++ X1)) ++ y :: (Y2 ++ S) := by simp
        have dat2 : P ++ Y1 ++ x :: X2 ++ Q ++ X1 ++ y :: Y2 ++ S = (P ++ Y1) ++ x :: ((X2 ++ Q ++ X1) ++ y :: (Y2 ++ S)) := by simp
        have r1 : rd d (P ++ Y1 ++ x :: X2 ++ Q ++ X1 ++ y :: Y2 ++ S) ((P ++ Y1 ++ x :: (X2 ++ Q ++ X1)).length : Int) = y := by rw [dat]; exact rd_mid d rfl
        have r2 : rd d (P ++ Y1 ++ x :: X2 ++ Q ++ X1 ++ y :: Y2 ++ S) ((P ++ Y1).length : Int) = x := by rw [dat2]; exact rd_mid d rfl
        have s1 : List.set (P ++ Y1 ++ x :: X2 ++ Q ++ X1 ++ y :: Y2 ++ S) (Int.toNat ((P ++ Y1).length : Int)) y = (P ++ Y1 ++ y :: (X2 ++ Q ++ X1)) ++ y :: (Y2 ++ S) := by
          rw [dat2, set_mid rfl]; simp
        have s2 : List.set ((P ++ Y1 ++ y :: (X2 ++ Q ++ X1)) ++ y :: (Y2 ++ S)) (Int.toNat ((P ++ Y1 ++ x :: (X2 ++ Q ++ X1)).length : Int)) x = (P ++ Y1 ++ y :: (X2 ++ Q ++ X1)) ++ x :: (Y2 ++ S) := set_mid (by simp)
        have i1 : inR ((P ++ Y1 ++ x :: (X2 ++ Q ++ X1)).length : Int) (((P ++ Y1 ++ x :: X2 ++ Q ++ X1 ++ y :: Y2 ++ S).length : Nat) : Int) = true := inR_of (by omega) (by simp; omega)
        have i2 : inR ((P ++ Y1).length : Int) (((P ++ Y1 ++ x :: X2 ++ Q ++ X1 ++ y :: Y2 ++ S).length : Nat) : Int) = true := inR_of (by omega) (by simp; omega)
        have i3 : inR ((P ++ Y1 ++ x :: (X2 ++ Q ++ X1)).length : Int) ((((P ++ Y1 ++ y :: (X2 ++ Q ++ X1)) ++ y :: (Y2 ++ S)).length : Nat) : Int) = true := inR_of (by omega) (by simp; omega)
        have l1 : decide ((X1.length : Int) < ((X1 ++ x :: X2).length : Nat)) = true := by simp; omega
        refine ⟨(((((X1 ++ [x]).length : Nat) : Int), ()), (P ++ (Y1 ++ [y]) ++ X2 ++ Q ++ (X1 ++ [x]) ++ Y2 ++ S, ())), ?_, ⟨X1 ++ [x], X2, Y1 ++ [y], Y2, by simp, by simp, by simp [hXY], rfl⟩, ?_, rfl⟩
        · simp only [l1, cond_true, e1, e2, e3, r1, r2, s1, s2, i1, i2, i3]
          simp
        · simp; omega
theorem rotate_ok {P S : List α} {k : Nat} : ∀ (U V : List α), U ≠ [] → V ≠ [] → (P ++ U ++ V ++ S).length ≤ 4611686018427387904 → (P ++ U ++ V ++ S).length < k → ∀ {a m b : Int}, a = (P.length : Int) → m = ((P ++ U).length : Int) → b = ((P ++ U ++ V).length : Int) →
    rotate d k (P ++ U ++ V ++ S) a m b = some (P ++ V ++ U ++ S) := by
  intro U V hU hV hL hk a m b ha hm hb
  subst ha hm hb
  unfold rotate
  simp only [List.length_append] at hL hk
  have w1 : IntKind.i64.wrap (((P ++ U).length : Nat) - (P.length : Int)) = (U.length : Int) := by rw [wrap_ok (by simp; omega) (by simp; omega)]; simp; omega
  have w2 : IntKind.i64.wrap (((P ++ U ++ V).length : Nat) - ((P ++ U).length : Nat) : Int) = (V.length : Int) := by rw [wrap_ok (by simp; omega) (by simp; omega)]; simp; omega
  rw [w1, w2]
  have key := iter_post (k := k) (f := fun (y1 : (Int × Int × Unit) × (List α × Unit)) => (
      bif (y1.1.1 != y1.1.2.1) then
        bif (decide (y1.1.1 > y1.1.2.1)) then
          Option.bind ((swapRange d k) y1.2.1 (IntKind.i64.wrap (((P ++ U).length : Nat) - y1.1.1)) ((P ++ U).length : Nat) y1.1.2.1) fun v2 =>
          some (.inl (((IntKind.i64.wrap (y1.1.1 - y1.1.2.1)), y1.1.2.1, ()), (v2, ())))
        else
          Option.bind ((swapRange d k) y1.2.1 (IntKind.i64.wrap (((P ++ U).length : Nat) - y1.1.1)) (IntKind.i64.wrap ((IntKind.i64.wrap (((P ++ U).length : Nat) + y1.1.2.1)) - y1.1.1)) y1.1.1) fun v3 =>
          some (.inl ((y1.1.1, (IntKind.i64.wrap (y1.1.2.1 - y1.1.1)), ()), (v3, ())))
      else
        some (.inr (.inr ((y1.1.1, ()), (y1.2.1, ())))) : Option (((Int × Int × Unit) × (List α × Unit)) ⊕ ((List α) ⊕ ((Int × Unit) × ((List α) × Unit))))))
    (fun s => ∃ A U' V' B, U' ≠ [] ∧ V' ≠ [] ∧ (A ++ U').length = (P ++ U).length ∧ A ++ V' ++ U' ++ B = P ++ V ++ U ++ S ∧ s = (((U'.length : Int), (V'.length : Int), ()), (A ++ U' ++ V' ++ B, ())))
    (fun s => (s.1.1 + s.1.2.1).toNat)
    (fun t => ∃ A U' V' B, U'.length = V'.length ∧ (A ++ U').length = (P ++ U).length ∧ A ++ V' ++ U' ++ B = P ++ V ++ U ++ S ∧ t = .inr (((U'.length : Int), ()), (A ++ U' ++ V' ++ B, ()))) ?_ (((U.length : Int), (V.length : Int), ()), (P ++ U ++ V ++ S, ())) ⟨P, U, V, S, hU, hV, rfl, rfl, rfl⟩ (by simp; omega)
  · obtain ⟨t, ht, A, U', V', B, h1, h2, h3, rfl⟩ := key
    rw [ht]
    simp only [Option.bind_some]
    have hl := congrArg List.length h3
    simp only [List.length_append] at hl h2
    have w3 : IntKind.i64.wrap (((P ++ U).length : Nat) - (U'.length : Int)) = (A.length : Int) := by rw [wrap_ok (by simp; omega) (by simp; omega)]; simp; omega
    rw [w3]
    have := swapRange_ok d (P := A) (X := U') (Q := []) (Y := V') (S := B) h1 rfl (b := ((P ++ U).length : Nat)) (by simp; omega) rfl (by simp; omega) (k := k) (by omega)
    simp only [List.append_nil] at this
    rw [this, h3]
    rfl
  · rintro s ⟨A, U', V', B, n1, n2, h2, h3, rfl⟩
    have hl := congrArg List.length h3
    simp only [List.length_append] at hl h2
    have p1 : 0 < U'.length := List.length_pos_iff.2 n1
    have p2 : 0 < V'.length := List.length_pos_iff.2 n2
    by_cases he : U'.length = V'.length
    · right
      have : (((U'.length : Nat) : Int) != ((V'.length : Nat) : Int)) = false := by simp; omega
      simp only [this, cond_false]
      exact ⟨_, rfl, A, U', V', B, he, by simp; omega, h3, rfl⟩
    · left
      have : (((U'.length : Nat) : Int) != ((V'.length : Nat) : Int)) = true := by simp; omega
      simp only [this, cond_true]
      have w3 : IntKind.i64.wrap (((P ++ U).length : Nat) - (U'.length : Int)) = (A.length : Int) := by rw [wrap_ok (by simp; omega) (by simp; omega)]; simp; omega
      rw [w3]
      by_cases hgt : U'.length > V'.length
      · have hd : decide (((U'.length : Nat) : Int) > ((V'.length : Nat) : Int)) = true := by simp; omega
        simp only [hd, cond_true]
        obtain ⟨U1, U2, rfl, hU1⟩ : ∃ U1 U2, U' = U1 ++ U2 ∧ U1.length = V'.length := ⟨U'.take V'.length, U'.drop V'.length, by simp, by simp; omega⟩
        simp only [List.length_append] at *
        have hsw := swapRange_ok d (P := A) (X := U1) (Q := U2) (Y := V') (S := B) hU1 rfl (b := ((P ++ U).length : Nat)) (by simp; omega) (n := (V'.length : Int)) (by omega) (by simp; omega) (k := k) (by omega)
        have e : A ++ (U1 ++ U2) ++ V' ++ B = A ++ U1 ++ U2 ++ V' ++ B := by simp
        simp only [List.length_append] at hsw
        rw [e, hsw]
        simp only [Option.bind_some]
        have w4 : IntKind.i64.wrap (((U1.length + U2.length : Nat) : Int) - (V'.length : Int)) = (U2.length : Int) := by rw [wrap_ok (by omega) (by omega)]; omega
        rw [w4]
        refine ⟨_, rfl, ⟨A ++ V', U2, U1, B, by intro h; subst h; simp at hgt; omega, by intro h; subst h; simp at hU1; omega, by simp only [List.length_append]; omega, by rw [← h3]; simp, ?_⟩, ?_⟩
        · simp [hU1]
        · simp; omega
      · have hd : decide (((U'.length : Nat) : Int) > ((V'.length : Nat) : Int)) = false := by simp; omega
        simp only [hd, cond_false]
        obtain ⟨V1, V2, rfl, hV2⟩ : ∃ V1 V2, V' = V1 ++ V2 ∧ V2.length = U'.length := ⟨V'.take (V'.length - U'.length), V'.drop (V'.length - U'.length), by simp, by simp; omega⟩
        simp only [List.length_append] at *
        have w5 : IntKind.i64.wrap (IntKind.i64.wrap (((P.length + U.length : Nat) : Int) + ((V1.length + V2.length : Nat) : Int)) - (U'.length : Int)) = ((A ++ U' ++ V1).length : Int) := by
          rw [wrap_ok (n := ((P.length + U.length : Nat) : Int) + ((V1.length + V2.length : Nat) : Int)) (by omega) (by omega), wrap_ok (by omega) (by omega)]; simp; omega
        rw [w5]
        have hsw := swapRange_ok d (P := A) (X := U') (Q := V1) (Y := V2) (S := B) hV2.symm rfl rfl rfl (by simp; omega) (k := k) (by omega)
        have e : A ++ U' ++ (V1 ++ V2) ++ B = A ++ U' ++ V1 ++ V2 ++ B := by simp
        rw [e, hsw]
        simp only [Option.bind_some]
        have w4 : IntKind.i64.wrap (((V1.length + V2.length : Nat) : Int) - (U'.length : Int)) = (V1.length : Int) := by rw [wrap_ok (by omega) (by omega)]; omega
        rw [w4]
        refine ⟨_, rfl, ⟨A, V2, V1, U' ++ B, by intro h; subst h; simp at hV2; omega, by intro h; subst h; simp at he; omega, by omega, by rw [← h3]; simp, ?_⟩, ?_⟩
        · simp [hV2]
        · simp; omega
end
end Go.Vm

/- Vm: loops by name. Own work (lift_loops.py). -/
set_option linter.unusedVariables false
namespace Go.Vm
section
variable {α : Type}
def insSort_l2 (d : α) (cmp : α → α → Int) (x1 : Int) (y2 : (Int × Unit) × ((List α) × Unit)) : Option (((Int × Unit) × ((List α) × Unit)) ⊕ ((((Int × Unit) × ((List α) × Unit)) ⊕ ((List α) ⊕ ((Unit) × ((List α) × Unit)))) ⊕ ((Unit) × ((List α) × Unit)))) :=
            bif (decide (y2.1.1 > x1)) then
              bif (inR y2.1.1 ((List.length y2.2.1 : Nat) : Int)) then
                bif (inR y2.1.1 ((List.length y2.2.1 : Nat) : Int)) then
                  bif (inR (IntKind.i64.wrap (y2.1.1 - (1 : Int))) ((List.length y2.2.1 : Nat) : Int)) then
                    bif (inR (IntKind.i64.wrap (y2.1.1 - (1 : Int))) ((List.length y2.2.1 : Nat) : Int)) then
                      bif (decide ((cmp (rd (α := α) d y2.2.1 y2.1.1) (rd (α := α) d y2.2.1 (IntKind.i64.wrap (y2.1.1 - (1 : Int))))) < (0 : Int))) then
                        bif (inR (IntKind.i64.wrap (y2.1.1 - (1 : Int))) ((List.length y2.2.1 : Nat) : Int)) then
                          bif (inR (IntKind.i64.wrap (y2.1.1 - (1 : Int))) ((List.length y2.2.1 : Nat) : Int)) then
                            bif (inR y2.1.1 ((List.length y2.2.1 : Nat) : Int)) then
                              bif (inR y2.1.1 ((List.length y2.2.1 : Nat) : Int)) then
                                bif (inR y2.1.1 ((List.length y2.2.1 : Nat) : Int)) then
                                  bif (inR y2.1.1 ((List.length y2.2.1 : Nat) : Int)) then
                                    bif (inR (IntKind.i64.wrap (y2.1.1 - (1 : Int))) ((List.length (List.set y2.2.1 (Int.toNat y2.1.1) (rd (α := α) d y2.2.1 (IntKind.i64.wrap (y2.1.1 - (1 : Int))))) : Nat) : Int)) then
                                      bif (inR (IntKind.i64.wrap (y2.1.1 - (1 : Int))) ((List.length (List.set y2.2.1 (Int.toNat y2.1.1) (rd (α := α) d y2.2.1 (IntKind.i64.wrap (y2.1.1 - (1 : Int))))) : Nat) : Int)) then
                                        some (.inl (((IntKind.i64.wrap (y2.1.1 - (1 : Int))), ()), ((List.set (List.set y2.2.1 (Int.toNat y2.1.1) (rd (α := α) d y2.2.1 (IntKind.i64.wrap (y2.1.1 - (1 : Int))))) (Int.toNat (IntKind.i64.wrap (y2.1.1 - (1 : Int)))) (rd (α := α) d y2.2.1 y2.1.1)), ())))
                                      else
                                        none
                                    else
                                      none
                                  else
                                    none
                                else
                                  none
                              else
                                none
                            else
                              none
                          else
                            none
                        else
                          none
                      else
                        some (.inr (.inr ((), (y2.2.1, ()))))
                    else
                      none
                  else
                    none
                else
                  none
              else
                none
            else
              some (.inr (.inr ((), (y2.2.1, ()))))
def insSort_l1 (d : α) (cmp : α → α → Int) (k : Nat) (x1 : Int) (x2 : Int) (y1 : (Int × Unit) × ((List α) × Unit)) : Option (((Int × Unit) × ((List α) × Unit)) ⊕ ((List α) ⊕ ((Unit) × ((List α) × Unit)))) :=
      bif (decide (y1.1.1 < x2)) then
        Option.bind (α := (((Int × Unit) × ((List α) × Unit)) ⊕ ((List α) ⊕ ((Unit) × ((List α) × Unit)))) ⊕ ((Unit) × ((List α) × Unit))) (iter (σ := (Int × Unit) × ((List α) × Unit)) (τ := (((Int × Unit) × ((List α) × Unit)) ⊕ ((List α) ⊕ ((Unit) × ((List α) × Unit)))) ⊕ ((Unit) × ((List α) × Unit))) k (insSort_l2 d cmp x1) ((y1.1.1, ()), (y1.2.1, ()))) fun r => match r with
        | .inl z => some z
        | .inr z3 =>
          some (.inl (((IntKind.i64.wrap (y1.1.1 + (1 : Int))), ()), (z3.2.1, ())))
      else
        some (.inr (.inr ((), (y1.2.1, ()))))
theorem insSort_eq (d : α) (cmp : α → α → Int) (k : Nat) (x0 : List α) (x1 : Int) (x2 : Int) : insSort d cmp k x0 x1 x2 =
  Option.bind (α := (List α) ⊕ ((Unit) × ((List α) × Unit))) (iter (σ := (Int × Unit) × ((List α) × Unit)) (τ := (List α) ⊕ ((Unit) × ((List α) × Unit))) k (insSort_l1 d cmp k x1 x2) (((IntKind.i64.wrap (x1 + (1 : Int))), ()), (x0, ()))) fun r => match r with
  | .inl z => some z
  | .inr z4 =>
    some z4.2.1 := rfl
def symMergeF_l1 (d : α) (cmp : α → α → Int) (x0 : List α) (x1 : Int) (y1 : (Int × Int × Unit) × (Unit)) : Option (((Int × Int × Unit) × (Unit)) ⊕ ((List α) ⊕ ((Int × Unit) × (Unit)))) :=
        bif (decide (y1.1.1 < y1.1.2.1)) then
          bif (inR (IntKind.i64.wrap (Int.fdiv (IntKind.u64.wrap (IntKind.i64.wrap (y1.1.1 + y1.1.2.1))) (2 : Int))) ((List.length x0 : Nat) : Int)) then
            bif (inR (IntKind.i64.wrap (Int.fdiv (IntKind.u64.wrap (IntKind.i64.wrap (y1.1.1 + y1.1.2.1))) (2 : Int))) ((List.length x0 : Nat) : Int)) then
              bif (inR x1 ((List.length x0 : Nat) : Int)) then
                bif (inR x1 ((List.length x0 : Nat) : Int)) then
                  bif (decide ((cmp (rd (α := α) d x0 (IntKind.i64.wrap (Int.fdiv (IntKind.u64.wrap (IntKind.i64.wrap (y1.1.1 + y1.1.2.1))) (2 : Int)))) (rd (α := α) d x0 x1)) < (0 : Int))) then
                    some (.inl (((IntKind.i64.wrap ((IntKind.i64.wrap (Int.fdiv (IntKind.u64.wrap (IntKind.i64.wrap (y1.1.1 + y1.1.2.1))) (2 : Int))) + (1 : Int))), y1.1.2.1, ()), ()))
                  else
                    some (.inl ((y1.1.1, (IntKind.i64.wrap (Int.fdiv (IntKind.u64.wrap (IntKind.i64.wrap (y1.1.1 + y1.1.2.1))) (2 : Int))), ()), ()))
                else
                  none
              else
                none
            else
              none
          else
            none
        else
          some (.inr (.inr ((y1.1.1, ()), ())))
def symMergeF_l3 (d : α) (z2 : ((Int × Unit) × (Unit))) (y3 : (Int × Unit) × ((List α) × Unit)) : Option (((Int × Unit) × ((List α) × Unit)) ⊕ ((List α) ⊕ ((Unit) × ((List α) × Unit)))) :=
          bif (decide (y3.1.1 < (IntKind.i64.wrap (z2.1.1 - (1 : Int))))) then
            bif (inR (IntKind.i64.wrap (y3.1.1 + (1 : Int))) ((List.length y3.2.1 : Nat) : Int)) then
              bif (inR (IntKind.i64.wrap (y3.1.1 + (1 : Int))) ((List.length y3.2.1 : Nat) : Int)) then
                bif (inR y3.1.1 ((List.length y3.2.1 : Nat) : Int)) then
                  bif (inR y3.1.1 ((List.length y3.2.1 : Nat) : Int)) then
                    bif (inR y3.1.1 ((List.length y3.2.1 : Nat) : Int)) then
                      bif (inR y3.1.1 ((List.length y3.2.1 : Nat) : Int)) then
                        bif (inR (IntKind.i64.wrap (y3.1.1 + (1 : Int))) ((List.length (List.set y3.2.1 (Int.toNat y3.1.1) (rd (α := α) d y3.2.1 (IntKind.i64.wrap (y3.1.1 + (1 : Int))))) : Nat) : Int)) then
                          bif (inR (IntKind.i64.wrap (y3.1.1 + (1 : Int))) ((List.length (List.set y3.2.1 (Int.toNat y3.1.1) (rd (α := α) d y3.2.1 (IntKind.i64.wrap (y3.1.1 + (1 : Int))))) : Nat) : Int)) then
                            some (.inl (((IntKind.i64.wrap (y3.1.1 + (1 : Int))), ()), ((List.set (List.set y3.2.1 (Int.toNat y3.1.1) (rd (α := α) d y3.2.1 (IntKind.i64.wrap (y3.1.1 + (1 : Int))))) (Int.toNat (IntKind.i64.wrap (y3.1.1 + (1 : Int)))) (rd (α := α) d y3.2.1 y3.1.1)), ())))
                          else
                            none
                        else
                          none
                      else
                        none
                    else
                      none
                  else
                    none
                else
                  none
              else
                none
            else
              none
          else
            some (.inr (.inr ((), (y3.2.1, ()))))
def symMergeF_l5 (d : α) (cmp : α → α → Int) (x0 : List α) (x2 : Int) (y5 : (Int × Int × Unit) × (Unit)) : Option (((Int × Int × Unit) × (Unit)) ⊕ ((List α) ⊕ ((Int × Unit) × (Unit)))) :=
          bif (decide (y5.1.1 < y5.1.2.1)) then
            bif (inR x2 ((List.length x0 : Nat) : Int)) then
              bif (inR x2 ((List.length x0 : Nat) : Int)) then
                bif (inR (IntKind.i64.wrap (Int.fdiv (IntKind.u64.wrap (IntKind.i64.wrap (y5.1.1 + y5.1.2.1))) (2 : Int))) ((List.length x0 : Nat) : Int)) then
                  bif (inR (IntKind.i64.wrap (Int.fdiv (IntKind.u64.wrap (IntKind.i64.wrap (y5.1.1 + y5.1.2.1))) (2 : Int))) ((List.length x0 : Nat) : Int)) then
                    bif (!(decide ((cmp (rd (α := α) d x0 x2) (rd (α := α) d x0 (IntKind.i64.wrap (Int.fdiv (IntKind.u64.wrap (IntKind.i64.wrap (y5.1.1 + y5.1.2.1))) (2 : Int))))) < (0 : Int)))) then
                      some (.inl (((IntKind.i64.wrap ((IntKind.i64.wrap (Int.fdiv (IntKind.u64.wrap (IntKind.i64.wrap (y5.1.1 + y5.1.2.1))) (2 : Int))) + (1 : Int))), y5.1.2.1, ()), ()))
                    else
                      some (.inl ((y5.1.1, (IntKind.i64.wrap (Int.fdiv (IntKind.u64.wrap (IntKind.i64.wrap (y5.1.1 + y5.1.2.1))) (2 : Int))), ()), ()))
                  else
                    none
                else
                  none
              else
                none
            else
              none
          else
            some (.inr (.inr ((y5.1.1, ()), ())))
def symMergeF_l7 (d : α) (z6 : ((Int × Unit) × (Unit))) (y7 : (Int × Unit) × ((List α) × Unit)) : Option (((Int × Unit) × ((List α) × Unit)) ⊕ ((List α) ⊕ ((Unit) × ((List α) × Unit)))) :=
            bif (decide (y7.1.1 > z6.1.1)) then
              bif (inR (IntKind.i64.wrap (y7.1.1 - (1 : Int))) ((List.length y7.2.1 : Nat) : Int)) then
                bif (inR (IntKind.i64.wrap (y7.1.1 - (1 : Int))) ((List.length y7.2.1 : Nat) : Int)) then
                  bif (inR y7.1.1 ((List.length y7.2.1 : Nat) : Int)) then
                    bif (inR y7.1.1 ((List.length y7.2.1 : Nat) : Int)) then
                      bif (inR y7.1.1 ((List.length y7.2.1 : Nat) : Int)) then
                        bif (inR y7.1.1 ((List.length y7.2.1 : Nat) : Int)) then
                          bif (inR (IntKind.i64.wrap (y7.1.1 - (1 : Int))) ((List.length (List.set y7.2.1 (Int.toNat y7.1.1) (rd (α := α) d y7.2.1 (IntKind.i64.wrap (y7.1.1 - (1 : Int))))) : Nat) : Int)) then
                            bif (inR (IntKind.i64.wrap (y7.1.1 - (1 : Int))) ((List.length (List.set y7.2.1 (Int.toNat y7.1.1) (rd (α := α) d y7.2.1 (IntKind.i64.wrap (y7.1.1 - (1 : Int))))) : Nat) : Int)) then
                              some (.inl (((IntKind.i64.wrap (y7.1.1 - (1 : Int))), ()), ((List.set (List.set y7.2.1 (Int.toNat y7.1.1) (rd (α := α) d y7.2.1 (IntKind.i64.wrap (y7.1.1 - (1 : Int))))) (Int.toNat (IntKind.i64.wrap (y7.1.1 - (1 : Int)))) (rd (α := α) d y7.2.1 y7.1.1)), ())))
                            else
                              none
                          else
                            none
                        else
                          none
                      else
                        none
                    else
                      none
                  else
                    none
                else
                  none
              else
                none
            else
              some (.inr (.inr ((), (y7.2.1, ()))))
def symMergeF_l10 (d : α) (cmp : α → α → Int) (x0 : List α) (x1 : Int) (x2 : Int) (x3 : Int) (y10 : (Int × Int × Unit) × (Unit)) : Option (((Int × Int × Unit) × (Unit)) ⊕ ((List α) ⊕ ((Int × Unit) × (Unit)))) :=
            bif (decide (y10.1.1 < y10.1.2.1)) then
              bif (inR (IntKind.i64.wrap ((IntKind.i64.wrap ((IntKind.i64.wrap ((IntKind.i64.wrap (Int.fdiv (IntKind.u64.wrap (IntKind.i64.wrap (x1 + x3))) (2 : Int))) + x2)) - (1 : Int))) - (IntKind.i64.wrap (Int.fdiv (IntKind.u64.wrap (IntKind.i64.wrap (y10.1.1 + y10.1.2.1))) (2 : Int))))) ((List.length x0 : Nat) : Int)) then
                bif (inR (IntKind.i64.wrap ((IntKind.i64.wrap ((IntKind.i64.wrap ((IntKind.i64.wrap (Int.fdiv (IntKind.u64.wrap (IntKind.i64.wrap (x1 + x3))) (2 : Int))) + x2)) - (1 : Int))) - (IntKind.i64.wrap (Int.fdiv (IntKind.u64.wrap (IntKind.i64.wrap (y10.1.1 + y10.1.2.1))) (2 : Int))))) ((List.length x0 : Nat) : Int)) then
                  bif (inR (IntKind.i64.wrap (Int.fdiv (IntKind.u64.wrap (IntKind.i64.wrap (y10.1.1 + y10.1.2.1))) (2 : Int))) ((List.length x0 : Nat) : Int)) then
                    bif (inR (IntKind.i64.wrap (Int.fdiv (IntKind.u64.wrap (IntKind.i64.wrap (y10.1.1 + y10.1.2.1))) (2 : Int))) ((List.length x0 : Nat) : Int)) then
                      bif (!(decide ((cmp (rd (α := α) d x0 (IntKind.i64.wrap ((IntKind.i64.wrap ((IntKind.i64.wrap ((IntKind.i64.wrap (Int.fdiv (IntKind.u64.wrap (IntKind.i64.wrap (x1 + x3))) (2 : Int))) + x2)) - (1 : Int))) - (IntKind.i64.wrap (Int.fdiv (IntKind.u64.wrap (IntKind.i64.wrap (y10.1.1 + y10.1.2.1))) (2 : Int)))))) (rd (α := α) d x0 (IntKind.i64.wrap (Int.fdiv (IntKind.u64.wrap (IntKind.i64.wrap (y10.1.1 + y10.1.2.1))) (2 : Int))))) < (0 : Int)))) then
                        some (.inl (((IntKind.i64.wrap ((IntKind.i64.wrap (Int.fdiv (IntKind.u64.wrap (IntKind.i64.wrap (y10.1.1 + y10.1.2.1))) (2 : Int))) + (1 : Int))), y10.1.2.1, ()), ()))
                      else
                        some (.inl ((y10.1.1, (IntKind.i64.wrap (Int.fdiv (IntKind.u64.wrap (IntKind.i64.wrap (y10.1.1 + y10.1.2.1))) (2 : Int))), ()), ()))
                    else
                      none
                  else
                    none
                else
                  none
              else
                none
            else
              some (.inr (.inr ((y10.1.1, ()), ())))
theorem symMergeF_eq (d : α) (cmp : α → α → Int) (rec : List α → Int → Int → Int → Option (List α)) (k : Nat) (x0 : List α) (x1 : Int) (x2 : Int) (x3 : Int) : symMergeF d cmp rec k x0 x1 x2 x3 =
  bif ((IntKind.i64.wrap (x2 - x1)) == (1 : Int)) then
    Option.bind (α := (List α) ⊕ ((Int × Unit) × (Unit))) (iter (σ := (Int × Int × Unit) × (Unit)) (τ := (List α) ⊕ ((Int × Unit) × (Unit))) k (symMergeF_l1 d cmp x0 x1) ((x2, x3, ()), ())) fun r => match r with
    | .inl z => some z
    | .inr z2 =>
      Option.bind (α := (List α) ⊕ ((Unit) × ((List α) × Unit))) (iter (σ := (Int × Unit) × ((List α) × Unit)) (τ := (List α) ⊕ ((Unit) × ((List α) × Unit))) k (symMergeF_l3 d z2) ((x1, ()), (x0, ()))) fun r => match r with
      | .inl z => some z
      | .inr z4 =>
        some z4.2.1
  else
    bif ((IntKind.i64.wrap (x3 - x2)) == (1 : Int)) then
      Option.bind (α := (List α) ⊕ ((Int × Unit) × (Unit))) (iter (σ := (Int × Int × Unit) × (Unit)) (τ := (List α) ⊕ ((Int × Unit) × (Unit))) k (symMergeF_l5 d cmp x0 x2) ((x1, x2, ()), ())) fun r => match r with
      | .inl z => some z
      | .inr z6 =>
        Option.bind (α := (List α) ⊕ ((Unit) × ((List α) × Unit))) (iter (σ := (Int × Unit) × ((List α) × Unit)) (τ := (List α) ⊕ ((Unit) × ((List α) × Unit))) k (symMergeF_l7 d z6) ((x2, ()), (x0, ()))) fun r => match r with
        | .inl z => some z
        | .inr z8 =>
          some z8.2.1
    else
      Option.bind (α := (List α) ⊕ ((Int × Int × Unit) × (Unit))) (
          bif (decide (x2 > (IntKind.i64.wrap (Int.fdiv (IntKind.u64.wrap (IntKind.i64.wrap (x1 + x3))) (2 : Int))))) then
            some (.inr (((IntKind.i64.wrap ((IntKind.i64.wrap ((IntKind.i64.wrap (Int.fdiv (IntKind.u64.wrap (IntKind.i64.wrap (x1 + x3))) (2 : Int))) + x2)) - x3)), (IntKind.i64.wrap (Int.fdiv (IntKind.u64.wrap (IntKind.i64.wrap (x1 + x3))) (2 : Int))), ()), ()))
          else
            some (.inr ((x1, x2, ()), ()))) fun r => match r with
      | .inl z => some z
      | .inr y9 =>
        Option.bind (α := (List α) ⊕ ((Int × Unit) × (Unit))) (iter (σ := (Int × Int × Unit) × (Unit)) (τ := (List α) ⊕ ((Int × Unit) × (Unit))) k (symMergeF_l10 d cmp x0 x1 x2 x3) ((y9.1.1, y9.1.2.1, ()), ())) fun r => match r with
        | .inl z => some z
        | .inr z11 =>
          Option.bind (α := (List α) ⊕ ((Bool × Unit) × (Unit))) (
              bif (decide (z11.1.1 < x2)) then
                some (.inr (((decide (x2 < (IntKind.i64.wrap ((IntKind.i64.wrap ((IntKind.i64.wrap (Int.fdiv (IntKind.u64.wrap (IntKind.i64.wrap (x1 + x3))) (2 : Int))) + x2)) - z11.1.1)))), ()), ()))
              else
                some (.inr ((false, ()), ()))) fun r => match r with
          | .inl z => some z
          | .inr y12 =>
            Option.bind (α := (List α) ⊕ ((Unit) × ((List α) × Unit))) (
                bif y12.1.1 then
                  Option.bind ((rotate d k) x0 z11.1.1 x2 (IntKind.i64.wrap ((IntKind.i64.wrap ((IntKind.i64.wrap (Int.fdiv (IntKind.u64.wrap (IntKind.i64.wrap (x1 + x3))) (2 : Int))) + x2)) - z11.1.1))) fun v13 =>
                  some (.inr ((), (v13, ())))
                else
                  some (.inr ((), (x0, ())))) fun r => match r with
            | .inl z => some z
            | .inr y14 =>
              Option.bind (α := (List α) ⊕ ((Bool × Unit) × (Unit))) (
                  bif (decide (x1 < z11.1.1)) then
                    some (.inr (((decide (z11.1.1 < (IntKind.i64.wrap (Int.fdiv (IntKind.u64.wrap (IntKind.i64.wrap (x1 + x3))) (2 : Int))))), ()), ()))
                  else
                    some (.inr ((false, ()), ()))) fun r => match r with
              | .inl z => some z
              | .inr y15 =>
                Option.bind (α := (List α) ⊕ ((Unit) × ((List α) × Unit))) (
                    bif y15.1.1 then
                      Option.bind (rec y14.2.1 x1 z11.1.1 (IntKind.i64.wrap (Int.fdiv (IntKind.u64.wrap (IntKind.i64.wrap (x1 + x3))) (2 : Int)))) fun v16 =>
                      some (.inr ((), (v16, ())))
                    else
                      some (.inr ((), (y14.2.1, ())))) fun r => match r with
                | .inl z => some z
                | .inr y17 =>
                  bif (decide ((IntKind.i64.wrap (Int.fdiv (IntKind.u64.wrap (IntKind.i64.wrap (x1 + x3))) (2 : Int))) < (IntKind.i64.wrap ((IntKind.i64.wrap ((IntKind.i64.wrap (Int.fdiv (IntKind.u64.wrap (IntKind.i64.wrap (x1 + x3))) (2 : Int))) + x2)) - z11.1.1)))) then
                    bif (decide ((IntKind.i64.wrap ((IntKind.i64.wrap ((IntKind.i64.wrap (Int.fdiv (IntKind.u64.wrap (IntKind.i64.wrap (x1 + x3))) (2 : Int))) + x2)) - z11.1.1)) < x3)) then
                      Option.bind (rec y17.2.1 (IntKind.i64.wrap (Int.fdiv (IntKind.u64.wrap (IntKind.i64.wrap (x1 + x3))) (2 : Int))) (IntKind.i64.wrap ((IntKind.i64.wrap ((IntKind.i64.wrap (Int.fdiv (IntKind.u64.wrap (IntKind.i64.wrap (x1 + x3))) (2 : Int))) + x2)) - z11.1.1)) x3) fun v18 =>
                      some v18
                    else
                      some y17.2.1
                  else
                    some y17.2.1 := rfl
def stableRow_l1 (d : α) (cmp : α → α → Int) (k : Nat) (x1 : Int) (y1 : (Int × Int × Unit) × ((List α) × Unit)) : Option (((Int × Int × Unit) × ((List α) × Unit)) ⊕ ((List α) ⊕ ((Int × Unit) × ((List α) × Unit)))) :=
      bif (decide (y1.1.2.1 ≤ x1)) then
        Option.bind ((insSort d cmp k) y1.2.1 y1.1.1 y1.1.2.1) fun v2 =>
        some (.inl ((y1.1.2.1, (IntKind.i64.wrap (y1.1.2.1 + (20 : Int))), ()), (v2, ())))
      else
        some (.inr (.inr ((y1.1.1, ()), (y1.2.1, ()))))
def stableRow_l6 (d : α) (cmp : α → α → Int) (k : Nat) (x1 : Int) (y5 : (Int × Unit) × ((List α) × Unit)) (y6 : (Int × Int × Unit) × ((List α) × Unit)) : Option (((Int × Int × Unit) × ((List α) × Unit)) ⊕ ((((Int × Unit) × ((List α) × Unit)) ⊕ ((List α) ⊕ ((Unit) × ((List α) × Unit)))) ⊕ ((Int × Unit) × ((List α) × Unit)))) :=
              bif (decide (y6.1.2.1 ≤ x1)) then
                Option.bind ((symMergeK d cmp k k) y6.2.1 y6.1.1 (IntKind.i64.wrap (y6.1.1 + y5.1.1)) y6.1.2.1) fun v7 =>
                some (.inl ((y6.1.2.1, (IntKind.i64.wrap (y6.1.2.1 + (IntKind.i64.wrap ((2 : Int) * y5.1.1)))), ()), (v7, ())))
              else
                some (.inr (.inr ((y6.1.1, ()), (y6.2.1, ()))))
def stableRow_l5 (d : α) (cmp : α → α → Int) (k : Nat) (x1 : Int) (y5 : (Int × Unit) × ((List α) × Unit)) : Option (((Int × Unit) × ((List α) × Unit)) ⊕ ((List α) ⊕ ((Unit) × ((List α) × Unit)))) :=
        bif (decide (y5.1.1 < x1)) then
          Option.bind (α := (((Int × Unit) × ((List α) × Unit)) ⊕ ((List α) ⊕ ((Unit) × ((List α) × Unit)))) ⊕ ((Int × Unit) × ((List α) × Unit))) (iter (σ := (Int × Int × Unit) × ((List α) × Unit)) (τ := (((Int × Unit) × ((List α) × Unit)) ⊕ ((List α) ⊕ ((Unit) × ((List α) × Unit)))) ⊕ ((Int × Unit) × ((List α) × Unit))) k (stableRow_l6 d cmp k x1 y5) (((0 : Int), (IntKind.i64.wrap ((2 : Int) * y5.1.1)), ()), (y5.2.1, ()))) fun r => match r with
          | .inl z => some z
          | .inr z8 =>
            bif (decide ((IntKind.i64.wrap (z8.1.1 + y5.1.1)) < x1)) then
              Option.bind ((symMergeK d cmp k k) z8.2.1 z8.1.1 (IntKind.i64.wrap (z8.1.1 + y5.1.1)) x1) fun v9 =>
              some (.inl (((IntKind.i64.wrap (y5.1.1 * (2 : Int))), ()), (v9, ())))
            else
              some (.inl (((IntKind.i64.wrap (y5.1.1 * (2 : Int))), ()), (z8.2.1, ())))
        else
          some (.inr (.inr ((), (y5.2.1, ()))))
theorem stableRow_eq (d : α) (cmp : α → α → Int) (k : Nat) (x0 : List α) (x1 : Int) : stableRow d cmp k x0 x1 =
  Option.bind (α := (List α) ⊕ ((Int × Unit) × ((List α) × Unit))) (iter (σ := (Int × Int × Unit) × ((List α) × Unit)) (τ := (List α) ⊕ ((Int × Unit) × ((List α) × Unit))) k (stableRow_l1 d cmp k x1) (((0 : Int), (20 : Int), ()), (x0, ()))) fun r => match r with
  | .inl z => some z
  | .inr z3 =>
    Option.bind ((insSort d cmp k) z3.2.1 z3.1.1 x1) fun v4 =>
    Option.bind (α := (List α) ⊕ ((Unit) × ((List α) × Unit))) (iter (σ := (Int × Unit) × ((List α) × Unit)) (τ := (List α) ⊕ ((Unit) × ((List α) × Unit))) k (stableRow_l5 d cmp k x1) (((20 : Int), ()), (v4, ()))) fun r => match r with
    | .inl z => some z
    | .inr z10 =>
      some z10.2.1 := rfl
end
end Go.Vm

/- Vm, part 34: Go's stable sort: what is stable; insertion. Plain law. Own work. -/
set_option linter.unusedVariables false
set_option linter.unusedSimpArgs false
namespace Go.Vm
section
variable {α : Type}
/-- a strict weak order -/
structure Weak (lt : α → α → Bool) : Prop where
  irrefl : ∀ x, lt x x = false
  trans : ∀ x y z, lt x y = true → lt y z = true → lt x z = true
  ntrans : ∀ x y z, lt x y = false → lt y z = false → lt x z = false
theorem Weak.asymm {lt : α → α → Bool} (W : Weak lt) {x y : α} (h : lt x y = true) : lt y x = false := by
  cases hy : lt y x
  · rfl
  · have := W.trans x y x h hy
    rw [W.irrefl] at this; cases this
def eqv (lt : α → α → Bool) (z x : α) : Bool := !lt z x && !lt x z
def InOrder (lt : α → α → Bool) (l : List α) : Prop := l.Pairwise (fun a b => lt b a = false)
/-- the same elements, and equal ones in the same order -/
def Same (lt : α → α → Bool) (l m : List α) : Prop := l.length = m.length ∧ ∀ z, l.filter (eqv lt z) = m.filter (eqv lt z)
variable {lt : α → α → Bool}
theorem Same.refl (l : List α) : Same lt l l := ⟨rfl, fun _ => rfl⟩
theorem Same.trans {l m n : List α} (h : Same lt l m) (k : Same lt m n) : Same lt l n := ⟨h.1.trans k.1, fun z => (h.2 z).trans (k.2 z)⟩
theorem Same.symm {l m : List α} (h : Same lt l m) : Same lt m l := ⟨h.1.symm, fun z => (h.2 z).symm⟩
theorem Same.append {l m l' m' : List α} (h : Same lt l l') (k : Same lt m m') : Same lt (l ++ m) (l' ++ m') :=
  ⟨by simp [h.1, k.1], fun z => by rw [List.filter_append, List.filter_append, h.2, k.2]⟩
theorem eqv_self (W : Weak lt) (x : α) : eqv lt x x = true := by simp [eqv, W.irrefl]
theorem Same.mem (W : Weak lt) {l m : List α} (h : Same lt l m) {x : α} (hx : x ∈ m) : x ∈ l := by
  have : x ∈ m.filter (eqv lt x) := List.mem_filter.2 ⟨hx, eqv_self W x⟩
  rw [← h.2] at this
  exact (List.mem_filter.1 this).1
theorem Same.blocks (W : Weak lt) {U V : List α} (h : ∀ u ∈ U, ∀ v ∈ V, lt v u = true) : Same lt (U ++ V) (V ++ U) := by
  refine ⟨by simp; omega, fun z => ?_⟩
  rw [List.filter_append, List.filter_append]
  by_cases hu : U.filter (eqv lt z) = []
  · rw [hu]; simp
  · by_cases hv : V.filter (eqv lt z) = []
    · rw [hv]; simp
    · exfalso
      obtain ⟨u, hu⟩ := List.exists_mem_of_ne_nil _ hu
      obtain ⟨v, hv⟩ := List.exists_mem_of_ne_nil _ hv
      obtain ⟨u1, u2⟩ := List.mem_filter.1 hu
      obtain ⟨v1, v2⟩ := List.mem_filter.1 hv
      simp only [eqv, Bool.and_eq_true, Bool.not_eq_true'] at u2 v2
      have := W.ntrans v z u v2.2 u2.1
      rw [h u u1 v v1] at this; cases this
theorem Same.swap (W : Weak lt) {A B : List α} {x y : α} (h : lt x y = true) : Same lt (A ++ y :: x :: B) (A ++ x :: y :: B) := by
  have := Same.append (Same.refl (lt := lt) A) (Same.append (Same.blocks W (U := [y]) (V := [x]) (by simp [h])) (Same.refl B))
  simpa using this
/-- THERE IS ONE. -/
theorem Same.unique (W : Weak lt) : ∀ {l m : List α}, InOrder lt l → InOrder lt m → Same lt l m → l = m
  | [], m, _, _, h => by have := h.1; simp at this; exact (List.length_eq_zero_iff.1 this.symm).symm
  | a :: l, [], _, _, h => by have := h.1; simp at this
  | a :: l, b :: m, hl, hm, h => by
    have hl' := List.pairwise_cons.1 hl
    have hm' := List.pairwise_cons.1 hm
    have hb : b ∈ a :: l := h.mem W (List.mem_cons_self ..)
    have ha : a ∈ b :: m := h.symm.mem W (List.mem_cons_self ..)
    have h1 : lt b a = false := by
      rcases List.mem_cons.1 hb with e | hb
      · rw [e]; exact W.irrefl a
      · exact hl'.1 b hb
    have h2 : lt a b = false := by
      rcases List.mem_cons.1 ha with e | ha
      · rw [e]; exact W.irrefl b
      · exact hm'.1 a ha
    have e : a = b := by
      have := h.2 a
      rw [List.filter_cons_of_pos (eqv_self W a), List.filter_cons_of_pos (by simp [eqv, h1, h2])] at this
      exact (List.cons.inj this).1
    subst e
    have : Same lt l m := ⟨by simpa using h.1, fun z => by
      have := h.2 z
      simp only [List.filter_cons] at this
      split at this
      · exact (List.cons.inj this).2
      · exact this⟩
    rw [Same.unique W hl'.2 hm'.2 this]
def insertS (lt : α → α → Bool) (x : α) : List α → List α
  | [] => [x]
  | y :: l => if lt y x = true then y :: insertS lt x l else x :: y :: l
/-- sorted, equal ones as they stood -/
def stab (lt : α → α → Bool) : List α → List α
  | [] => []
  | x :: l => insertS lt x (stab lt l)
theorem insertS_same (W : Weak lt) (x : α) : ∀ l : List α, Same lt (x :: l) (insertS lt x l)
  | [] => Same.refl _
  | y :: l => by
    unfold insertS
    split
    · rename_i h
      refine (Same.swap W (A := []) (B := l) h).trans ?_
      exact Same.append (Same.refl [y]) (insertS_same W x l)
    · exact Same.refl _
theorem insertS_order (W : Weak lt) (x : α) : ∀ l : List α, InOrder lt l → InOrder lt (insertS lt x l)
  | [], _ => by simp [insertS, InOrder]
  | y :: l, h => by
    have h' := List.pairwise_cons.1 h
    unfold insertS
    split
    · rename_i hy
      refine List.pairwise_cons.2 ⟨fun z hz => ?_, insertS_order W x l h'.2⟩
      have := (insertS_same W x l).mem W hz
      rcases List.mem_cons.1 this with rfl | hz
      · exact W.asymm hy
      · exact h'.1 z hz
    · rename_i hy
      have hy : lt y x = false := by simpa using hy
      refine List.pairwise_cons.2 ⟨fun z hz => ?_, h⟩
      rcases List.mem_cons.1 hz with rfl | hz
      · exact hy
      · exact W.ntrans z y x (h'.1 z hz) hy
theorem stab_order (W : Weak lt) : ∀ l : List α, InOrder lt (stab lt l)
  | [] => List.Pairwise.nil
  | x :: l => insertS_order W x _ (stab_order W l)
theorem stab_same (W : Weak lt) : ∀ l : List α, Same lt l (stab lt l)
  | [] => Same.refl _
  | x :: l => (Same.append (Same.refl [x]) (stab_same W l)).trans (insertS_same W x _)
/-- the order of a comparison -/
def ltOf (cmp : α → α → Int) (a b : α) : Bool := decide (cmp a b < 0)
variable (d : α) (cmp : α → α → Int)
theorem order_mid (W : Weak lt) {L R : List α} {x : α} (h : InOrder lt (L ++ R)) (h1 : ∀ l ∈ L, lt x l = false) (h2 : ∀ r ∈ R, lt r x = false) : InOrder lt (L ++ x :: R) := by
  obtain ⟨a, b, c⟩ := List.pairwise_append.1 h
  refine List.pairwise_append.2 ⟨a, List.pairwise_cons.2 ⟨h2, b⟩, fun l hl r hr => ?_⟩
  rcases List.mem_cons.1 hr with rfl | hr
  · exact h1 l hl
  · exact c l hl r hr
theorem insSort_in (W : Weak (ltOf cmp)) {P : List α} {k : Nat} (M1 : List α) (x : α) (rest : List α) (hM1 : InOrder (ltOf cmp) M1) (hL : P.length + M1.length + 1 + rest.length ≤ 4611686018427387904) (hk : P.length + M1.length + 1 + rest.length < k) : ∃ N, InOrder (ltOf cmp) N ∧ Same (ltOf cmp) (M1 ++ [x]) N ∧
    iter k (insSort_l2 d cmp (P.length : Int)) (((((P ++ M1).length : Nat) : Int), ()), (P ++ M1 ++ x :: rest, ())) = some (.inr ((), (P ++ N ++ rest, ()))) := by
  have key := iter_post (k := k) (f := insSort_l2 d cmp (P.length : Int)) (fun s : (Int × Unit) × ((List α) × Unit) => ∃ L R, L ++ R = M1 ∧ (∀ r ∈ R, ltOf cmp x r = true) ∧ Same (ltOf cmp) (M1 ++ [x]) (L ++ x :: R) ∧ s = (((((P ++ L).length : Nat) : Int), ()), (P ++ L ++ x :: (R ++ rest), ())))
    (fun s => s.1.1.toNat) (fun t => ∃ N, InOrder (ltOf cmp) N ∧ Same (ltOf cmp) (M1 ++ [x]) N ∧ t = .inr ((), (P ++ N ++ rest, ()))) ?_ (((((P ++ M1).length : Nat) : Int), ()), (P ++ M1 ++ x :: rest, ())) ⟨M1, [], by simp, by simp, Same.refl _, by simp⟩ (by simp; omega)
  · obtain ⟨t, ht, N, h1, h2, rfl⟩ := key
    exact ⟨N, h1, h2, ht⟩
  · rintro s ⟨L, R, rfl, hR, hS, rfl⟩
    have done : (∀ l ∈ L, ltOf cmp x l = false) → ∃ N, InOrder (ltOf cmp) N ∧ Same (ltOf cmp) (L ++ R ++ [x]) N ∧ (Sum.inr ((), (P ++ L ++ x :: (R ++ rest), ())) : (((Int × Unit) × ((List α) × Unit)) ⊕ ((List α) ⊕ ((Unit) × ((List α) × Unit)))) ⊕ ((Unit) × ((List α) × Unit))) = .inr ((), (P ++ N ++ rest, ())) := fun hl =>
      ⟨L ++ x :: R, order_mid W hM1 hl (fun r hr => W.asymm (hR r hr)), hS, by simp⟩
    unfold insSort_l2
    rcases List.eq_nil_or_concat L with rfl | ⟨L, l, rfl⟩
    · right
      have : decide (((((P ++ []).length : Nat) : Int)) > (P.length : Int)) = false := by simp
      simp only [this, cond_false]
      exact ⟨_, rfl, done (by simp)⟩
    · simp only [List.concat_eq_append] at *
      have hn : (P ++ (L ++ [l])).length = P.length + (L.length + 1) := by simp
      rw [hn]
      have hn2 : (P ++ L).length = P.length + L.length := by simp
      simp only [List.length_append, List.length_singleton] at hL hk
      have c1 : decide (((P.length + (L.length + 1) : Nat) : Int) > (P.length : Int)) = true := by simp; omega
      have w1 : IntKind.i64.wrap (((P.length + (L.length + 1) : Nat) : Int) - 1) = (((P ++ L).length : Nat) : Int) := by rw [wrap_ok (by omega) (by omega), hn2]; omega
      have dat : P ++ (L ++ [l]) ++ x :: (R ++ rest) = (P ++ L) ++ l :: (x :: (R ++ rest)) := by simp
      have r1 : rd d (P ++ (L ++ [l]) ++ x :: (R ++ rest)) ((P.length + (L.length + 1) : Nat) : Int) = x := rd_mid d (by rw [hn])
      have r2 : rd d (P ++ (L ++ [l]) ++ x :: (R ++ rest)) (((P ++ L).length : Nat) : Int) = l := by rw [dat]; exact rd_mid d rfl
      have i1 : inR ((P.length + (L.length + 1) : Nat) : Int) (((P ++ (L ++ [l]) ++ x :: (R ++ rest)).length : Nat) : Int) = true := inR_of (by omega) (by simp; omega)
      have i2 : inR (((P ++ L).length : Nat) : Int) (((P ++ (L ++ [l]) ++ x :: (R ++ rest)).length : Nat) : Int) = true := inR_of (by omega) (by simp; omega)
      have s1 : List.set (P ++ (L ++ [l]) ++ x :: (R ++ rest)) (Int.toNat ((P.length + (L.length + 1) : Nat) : Int)) l = (P ++ L) ++ l :: (l :: (R ++ rest)) := by
        rw [set_mid (by rw [hn])]; simp
      have s2 : List.set ((P ++ L) ++ l :: (l :: (R ++ rest))) (Int.toNat (((P ++ L).length : Nat) : Int)) x = (P ++ L) ++ x :: (l :: (R ++ rest)) := set_mid rfl
      have i3 : inR (((P ++ L).length : Nat) : Int) ((((P ++ L) ++ l :: (l :: (R ++ rest))).length : Nat) : Int) = true := inR_of (by omega) (by simp; omega)
      simp only [c1, cond_true, w1, i1, i2, r1, r2, s1, s2, i3]
      by_cases hlt : cmp x l < 0
      · left
        have hd : decide (cmp x l < 0) = true := by simpa using hlt
        simp only [hd, cond_true]
        refine ⟨_, rfl, ⟨L, l :: R, by simp, ?_, ?_, by simp⟩, by simp; omega⟩
        · intro r hr
          rcases List.mem_cons.1 hr with rfl | hr
          · exact hd
          · exact hR r hr
        · refine hS.trans ?_
          have := Same.swap W (A := L) (B := R) (x := x) (y := l) hd
          simpa using this
      · right
        have hd : decide (cmp x l < 0) = false := by simpa using hlt
        simp only [hd, cond_false]
        refine ⟨_, rfl, done (fun y hy => ?_)⟩
        rcases List.mem_append.1 hy with hy | hy
        · have hso := (List.pairwise_append.1 (List.pairwise_append.1 hM1).1).2.2 y hy l (by simp)
          exact W.ntrans x l y hd hso
        · rw [List.mem_singleton.1 hy]; exact hd
theorem insSort_ok (W : Weak (ltOf cmp)) {P M S : List α} (hL : (P ++ M ++ S).length ≤ 4611686018427387904) {k : Nat} (hk : (P ++ M ++ S).length < k) {a b : Int} (ha : a = (P.length : Int)) (hb : b = ((P ++ M).length : Int)) :
    ∃ M', insSort d cmp k (P ++ M ++ S) a b = some (P ++ M' ++ S) ∧ InOrder (ltOf cmp) M' ∧ Same (ltOf cmp) M M' := by
  subst ha hb
  simp only [List.length_append] at hL hk
  have w0 : IntKind.i64.wrap ((P.length : Int) + 1) = (P.length : Int) + 1 := wrap_ok (by omega) (by omega)
  rw [insSort_eq, w0]
  cases M with
  | nil =>
    refine ⟨[], ?_, List.Pairwise.nil, Same.refl _⟩
    obtain ⟨k, rfl⟩ : ∃ j, k = j + 1 := ⟨k - 1, by omega⟩
    have : decide ((P.length : Int) + 1 < (((P ++ []).length : Nat) : Int)) = false := by simp; omega
    simp only [iter, insSort_l1, this, cond_false, Option.bind_some]
  | cons m0 M =>
    simp only [List.length_cons] at hL hk
    have key := iter_post (k := k) (f := insSort_l1 d cmp k (P.length : Int) (((P ++ m0 :: M).length : Nat) : Int)) (fun s : (Int × Unit) × ((List α) × Unit) => ∃ M1 M2, InOrder (ltOf cmp) M1 ∧ Same (ltOf cmp) (m0 :: M) (M1 ++ M2) ∧ s = (((((P ++ M1).length : Nat) : Int), ()), (P ++ M1 ++ M2 ++ S, ())))
      (fun s => (P.length + (M.length + 1) + 1 - s.1.1.toNat)) (fun t => ∃ N, InOrder (ltOf cmp) N ∧ Same (ltOf cmp) (m0 :: M) N ∧ t = .inr ((), (P ++ N ++ S, ()))) ?_ (((P.length : Int) + 1, ()), (P ++ m0 :: M ++ S, ())) ⟨[m0], M, by simp [InOrder], Same.refl _, by simp⟩ (by simp; omega)
    · obtain ⟨t, ht, N, h1, h2, rfl⟩ := key
      rw [ht]
      exact ⟨N, rfl, h1, h2⟩
    · rintro s ⟨M1, M2, h1, h2, rfl⟩
      have hlen := h2.1
      simp only [List.length_cons, List.length_append] at hlen
      unfold insSort_l1
      cases M2 with
      | nil =>
        right
        simp only [List.length_nil] at hlen
        have : decide ((((P ++ M1).length : Nat) : Int) < (((P ++ m0 :: M).length : Nat) : Int)) = false := by simp; omega
        simp only [this, cond_false]
        exact ⟨_, rfl, M1, h1, by simpa using h2, by simp⟩
      | cons x M2 =>
        left
        simp only [List.length_cons] at hlen
        have c1 : decide ((((P ++ M1).length : Nat) : Int) < (((P ++ m0 :: M).length : Nat) : Int)) = true := by simp; omega
        obtain ⟨N, n1, n2, n3⟩ := insSort_in d cmp W (P := P) (k := k) M1 x (M2 ++ S) h1 (by simp; omega) (by simp; omega)
        have w1 : IntKind.i64.wrap ((((P ++ M1).length : Nat) : Int) + 1) = (((P ++ N).length : Nat) : Int) := by
          have := n2.1
          simp at this
          rw [wrap_ok (by simp; omega) (by simp; omega)]; simp; omega
        simp only [c1, cond_true, w1]
        rw [show P ++ M1 ++ x :: M2 ++ S = P ++ M1 ++ x :: (M2 ++ S) from by simp, n3]
        refine ⟨_, rfl, ⟨N, M2, n1, h2.trans ?_, by simp⟩, ?_⟩
        · have := Same.append n2 (Same.refl M2)
          simpa using this
        · have := n2.1
          simp at this
          simp; omega
end
end Go.Vm

/- Vm, part 35: Go's stable sort: searches, shifts. Plain law. Own work. -/
set_option linter.unusedVariables false
set_option linter.unusedSimpArgs false
namespace Go.Vm
section
variable {α : Type}
theorem wrap_mid {i j : Nat} (h : i + j ≤ 9223372036854775807) : IntKind.i64.wrap (Int.fdiv (IntKind.u64.wrap (IntKind.i64.wrap ((i : Int) + (j : Int)))) (2 : Int)) = (((i + j) / 2 : Nat) : Int) := by
  rw [wrap_ok (n := (i : Int) + (j : Int)) (by omega) (by omega)]
  have : IntKind.u64.wrap ((i : Int) + (j : Int)) = (i : Int) + (j : Int) := by
    unfold IntKind.wrap
    have h4 : (2 : Int) ^ 64 = 18446744073709551616 := by decide
    simp only [IntKind.signed, IntKind.bits, Bool.false_and, h4]
    simp
    omega
  rw [this]
  have : Int.fdiv ((i : Int) + (j : Int)) 2 = (((i + j) / 2 : Nat) : Int) := by
    rw [Int.fdiv_eq_ediv_of_nonneg _ (by omega)]; omega
  rw [this, wrap_ok (by omega) (by omega)]
/-- A BINARY SEARCH. -/
theorem bsearch {β : Type} {f : (Int × Int × Unit) × Unit → Option (((Int × Int × Unit) × Unit) ⊕ (β ⊕ ((Int × Unit) × Unit)))} (test : Nat → Bool) (lo hi : Nat) (hle : lo ≤ hi)
    (h1 : ∀ i j : Nat, lo ≤ i → i < j → j ≤ hi → f (((i : Int), (j : Int), ()), ()) = some (.inl (bif test ((i + j) / 2) then (((((i + j) / 2 + 1 : Nat) : Int), (j : Int), ()), ()) else (((i : Int), (((i + j) / 2 : Nat) : Int), ()), ()))))
    (h2 : ∀ i : Nat, f (((i : Int), (i : Int), ()), ()) = some (.inr (.inr (((i : Int), ()), ())))) {k : Nat} (hk : hi < k) :
    ∃ s : Nat, lo ≤ s ∧ s ≤ hi ∧ (s = lo ∨ test (s - 1) = true) ∧ (s = hi ∨ test s = false) ∧ iter k f (((lo : Int), (hi : Int), ()), ()) = some (.inr (((s : Int), ()), ())) := by
  have key := iter_post (k := k) (f := f) (fun s : (Int × Int × Unit) × Unit => ∃ i j : Nat, lo ≤ i ∧ i ≤ j ∧ j ≤ hi ∧ (i = lo ∨ test (i - 1) = true) ∧ (j = hi ∨ test j = false) ∧ s = (((i : Int), (j : Int), ()), ()))
    (fun s => (s.1.2.1 - s.1.1).toNat) (fun t => ∃ s : Nat, lo ≤ s ∧ s ≤ hi ∧ (s = lo ∨ test (s - 1) = true) ∧ (s = hi ∨ test s = false) ∧ t = .inr (((s : Int), ()), ())) ?_ (((lo : Int), (hi : Int), ()), ()) ⟨lo, hi, by omega, hle, by omega, .inl rfl, .inl rfl, rfl⟩ (by simp; omega)
  · obtain ⟨t, ht, s, a, b, c, e, rfl⟩ := key
    exact ⟨s, a, b, c, e, ht⟩
  · rintro s ⟨i, j, a, b, c, e, g, rfl⟩
    by_cases hij : i < j
    · left
      rw [h1 i j a hij c]
      cases ht : test ((i + j) / 2)
      · refine ⟨_, rfl, ⟨i, (i + j) / 2, a, by omega, by omega, e, .inr ht, rfl⟩, ?_⟩
        simp only [cond_false]; omega
      · refine ⟨_, rfl, ⟨(i + j) / 2 + 1, j, by omega, by omega, by omega, .inr (by simpa using ht), g, rfl⟩, ?_⟩
        simp only [cond_true]; omega
    · right
      have : i = j := by omega
      subst this
      rw [h2]
      exact ⟨_, rfl, i, a, c, e, g, rfl⟩
variable (d : α) (cmp : α → α → Int)
theorem shiftR {P Y R : List α} {x : α} (hL : P.length + Y.length + R.length + 1 ≤ 4611686018427387904) {k : Nat} (hk : Y.length < k) {z : (Int × Unit) × Unit} (hz : z.1.1 = ((P.length + 1 + Y.length : Nat) : Int)) :
    iter k (symMergeF_l3 d z) (((P.length : Int), ()), (P ++ x :: (Y ++ R), ())) = some (.inr ((), (P ++ Y ++ x :: R, ()))) := by
  rw [iter_some (f := symMergeF_l3 d z) (fun s : (Int × Unit) × (List α × Unit) => ∃ A B, Y = A ++ B ∧ s = (((((P ++ A).length : Nat) : Int), ()), (P ++ A ++ x :: (B ++ R), ())))
    (fun s => ((P.length + Y.length : Int) - s.1.1).toNat) (fun _ => .inr ((), (P ++ Y ++ x :: R, ()))) ?_ k _ ⟨[], Y, rfl, by simp⟩ (by simp; omega)]
  rintro s ⟨A, B, rfl, rfl⟩
  simp only [List.length_append] at hL hz
  unfold symMergeF_l3
  have w0 : IntKind.i64.wrap (z.1.1 - 1) = ((P.length + A.length + B.length : Nat) : Int) := by rw [hz, wrap_ok (by omega) (by omega)]; omega
  rw [w0]
  cases B with
  | nil =>
    right
    have : decide ((((P ++ A).length : Nat) : Int) < ((P.length + A.length + ([] : List α).length : Nat) : Int)) = false := by simp
    simp only [this, cond_false]
    simp
  | cons b B =>
    left
    simp only [List.length_cons] at *
    have c1 : decide ((((P ++ A).length : Nat) : Int) < ((P.length + A.length + (B.length + 1) : Nat) : Int)) = true := by simp; omega
    have w1 : IntKind.i64.wrap ((((P ++ A).length : Nat) : Int) + 1) = (((P ++ A ++ [b]).length : Nat) : Int) := by rw [wrap_ok (by simp; omega) (by simp; omega)]; simp; omega
    have dat : P ++ A ++ x :: (b :: B ++ R) = (P ++ A ++ [x]) ++ b :: (B ++ R) := by simp
    have r1 : rd d (P ++ A ++ x :: (b :: B ++ R)) (((P ++ A).length : Nat) : Int) = x := rd_mid d rfl
    have r2 : rd d (P ++ A ++ x :: (b :: B ++ R)) (((P ++ A ++ [b]).length : Nat) : Int) = b := by rw [dat]; exact rd_mid d (by simp)
    have i1 : inR (((P ++ A).length : Nat) : Int) (((P ++ A ++ x :: (b :: B ++ R)).length : Nat) : Int) = true := inR_of (by omega) (by simp; omega)
    have i2 : inR (((P ++ A ++ [b]).length : Nat) : Int) (((P ++ A ++ x :: (b :: B ++ R)).length : Nat) : Int) = true := inR_of (by omega) (by simp; omega)
    have s1 : List.set (P ++ A ++ x :: (b :: B ++ R)) (Int.toNat (((P ++ A).length : Nat) : Int)) b = (P ++ A ++ [b]) ++ b :: (B ++ R) := by
      rw [set_mid rfl]; simp
    have s2 : List.set ((P ++ A ++ [b]) ++ b :: (B ++ R)) (Int.toNat (((P ++ A ++ [b]).length : Nat) : Int)) x = (P ++ A ++ [b]) ++ x :: (B ++ R) := set_mid rfl
    have i3 : inR (((P ++ A ++ [b]).length : Nat) : Int) ((((P ++ A ++ [b]) ++ b :: (B ++ R)).length : Nat) : Int) = true := inR_of (by omega) (by simp; omega)
    simp only [c1, cond_true, w1, i1, i2, r1, r2, s1, s2, i3]
    exact ⟨_, rfl, ⟨A ++ [b], B, by simp, by simp⟩, by simp; omega, trivial⟩
theorem shiftL {P X R : List α} {y : α} (hL : P.length + X.length + R.length + 1 ≤ 4611686018427387904) {k : Nat} (hk : P.length + X.length < k) {z : (Int × Unit) × Unit} (hz : z.1.1 = (P.length : Int)) :
    iter k (symMergeF_l7 d z) (((((P ++ X).length : Nat) : Int), ()), (P ++ X ++ y :: R, ())) = some (.inr ((), (P ++ y :: (X ++ R), ()))) := by
  rw [iter_some (f := symMergeF_l7 d z) (fun s : (Int × Unit) × (List α × Unit) => ∃ A B, X = A ++ B ∧ s = (((((P ++ A).length : Nat) : Int), ()), (P ++ A ++ y :: (B ++ R), ())))
    (fun s => s.1.1.toNat) (fun _ => .inr ((), (P ++ y :: (X ++ R), ()))) ?_ k _ ⟨X, [], by simp, by simp⟩ (by simp; omega)]
  rintro s ⟨A, B, rfl, rfl⟩
  simp only [List.length_append] at hL
  unfold symMergeF_l7
  rcases List.eq_nil_or_concat A with rfl | ⟨A, a, rfl⟩
  · right
    have : decide ((((P ++ []).length : Nat) : Int) > z.1.1) = false := by rw [hz]; simp
    simp only [this, cond_false]
    simp
  · left
    simp only [List.concat_eq_append, List.length_append, List.length_singleton] at hL
    simp only [List.concat_eq_append]
    have c1 : decide ((((P ++ (A ++ [a])).length : Nat) : Int) > z.1.1) = true := by rw [hz]; simp; omega
    have w1 : IntKind.i64.wrap ((((P ++ (A ++ [a])).length : Nat) : Int) - 1) = (((P ++ A).length : Nat) : Int) := by rw [wrap_ok (by simp; omega) (by simp; omega)]; simp; omega
    have dat : P ++ (A ++ [a]) ++ y :: (B ++ R) = (P ++ A) ++ a :: (y :: (B ++ R)) := by simp
    have r1 : rd d (P ++ (A ++ [a]) ++ y :: (B ++ R)) (((P ++ (A ++ [a])).length : Nat) : Int) = y := rd_mid d rfl
    have r2 : rd d (P ++ (A ++ [a]) ++ y :: (B ++ R)) (((P ++ A).length : Nat) : Int) = a := by rw [dat]; exact rd_mid d rfl
    have i1 : inR (((P ++ (A ++ [a])).length : Nat) : Int) (((P ++ (A ++ [a]) ++ y :: (B ++ R)).length : Nat) : Int) = true := inR_of (by omega) (by simp; omega)
    have i2 : inR (((P ++ A).length : Nat) : Int) (((P ++ (A ++ [a]) ++ y :: (B ++ R)).length : Nat) : Int) = true := inR_of (by omega) (by simp; omega)
    have s1 : List.set (P ++ (A ++ [a]) ++ y :: (B ++ R)) (Int.toNat (((P ++ (A ++ [a])).length : Nat) : Int)) a = (P ++ A) ++ a :: (a :: (B ++ R)) := by
      rw [set_mid rfl]; simp
    have s2 : List.set ((P ++ A) ++ a :: (a :: (B ++ R))) (Int.toNat (((P ++ A).length : Nat) : Int)) y = (P ++ A) ++ y :: (a :: (B ++ R)) := set_mid rfl
    have i3 : inR (((P ++ A).length : Nat) : Int) ((((P ++ A) ++ a :: (a :: (B ++ R))).length : Nat) : Int) = true := inR_of (by omega) (by simp; omega)
    simp only [c1, cond_true, w1, i1, i2, r1, r2, s1, s2, i3]
    exact ⟨_, rfl, ⟨A, a :: B, by simp, by simp⟩, by simp; omega, trivial⟩
end
section
variable {α : Type} {lt : α → α → Bool}
theorem InOrder.head (W : Weak lt) {y : α} {Y : List α} (h : InOrder lt (y :: Y)) {z : α} (hz : z ∈ y :: Y) : lt z y = false := by
  rcases List.mem_cons.1 hz with rfl | hz
  · exact W.irrefl _
  · exact (List.pairwise_cons.1 h).1 z hz
theorem InOrder.last (W : Weak lt) {y : α} {Y : List α} (h : InOrder lt (Y ++ [y])) {z : α} (hz : z ∈ Y ++ [y]) : lt y z = false := by
  rcases List.mem_append.1 hz with hz | hz
  · exact (List.pairwise_append.1 h).2.2 z hz y (by simp)
  · rw [List.mem_singleton.1 hz]; exact W.irrefl _
/-- the last of the one is before the first of the other: all are -/
theorem all_before (W : Weak lt) {U V : List α} {u v : α} (hU : InOrder lt (U ++ [u])) (hV : InOrder lt (v :: V)) (h : lt u v = true) : ∀ a ∈ U ++ [u], ∀ b ∈ v :: V, lt a b = true := by
  intro a ha b hb
  cases hh : lt a b
  · have h1 := hU.last W ha
    have h2 := hV.head W hb
    have := W.ntrans u b v (W.ntrans u a b h1 hh) h2
    rw [h] at this; cases this
  · rfl
theorem none_after (W : Weak lt) {U V : List α} {u v : α} (hU : InOrder lt (U ++ [u])) (hV : InOrder lt (v :: V)) (h : lt v u = false) : ∀ a ∈ U ++ [u], ∀ b ∈ v :: V, lt b a = false := by
  intro a ha b hb
  exact W.ntrans b u a (W.ntrans b v u (hV.head W hb) h) (hU.last W ha)
end
end Go.Vm

/- Vm, part 36: Go's stable sort: merging in place. Plain law. Own work. -/
set_option linter.unusedVariables false
set_option linter.unusedSimpArgs false
namespace Go.Vm
section
variable {α : Type} (d : α) (cmp : α → α → Int)
theorem cut (X : List α) (n : Nat) (h : n ≤ X.length) : ∃ X1 X2, X = X1 ++ X2 ∧ X1.length = n := ⟨X.take n, X.drop n, by simp, by simp; omega⟩
theorem symMerge_one (W : Weak (ltOf cmp)) {P Y S : List α} {x : α} (hY : InOrder (ltOf cmp) Y) (hL : P.length + 1 + Y.length + S.length ≤ 4611686018427387904) {k : Nat} (hk : P.length + 1 + Y.length + S.length < k) (rec : List α → Int → Int → Int → Option (List α)) {a m b : Int}
    (ha : a = (P.length : Int)) (hm : m = ((P.length + 1 : Nat) : Int)) (hb : b = ((P.length + 1 + Y.length : Nat) : Int)) :
    ∃ M, symMergeF d cmp rec k (P ++ x :: (Y ++ S)) a m b = some (P ++ M ++ S) ∧ InOrder (ltOf cmp) M ∧ Same (ltOf cmp) (x :: Y) M := by
  subst ha hm hb
  rw [symMergeF_eq]
  have w0 : (IntKind.i64.wrap (((P.length + 1 : Nat) : Int) - (P.length : Int)) == 1) = true := by rw [wrap_ok (by omega) (by omega)]; simp; omega
  have hlen : (P ++ x :: (Y ++ S)).length = P.length + 1 + Y.length + S.length := by simp; omega
  have ra : rd d (P ++ x :: (Y ++ S)) (P.length : Int) = x := rd_mid d rfl
  obtain ⟨s, s1, s2, s3, s4, s5⟩ := bsearch (f := symMergeF_l1 d cmp (P ++ x :: (Y ++ S)) (P.length : Int)) (fun h => ltOf cmp (rd d (P ++ x :: (Y ++ S)) (h : Int)) x) (P.length + 1) (P.length + 1 + Y.length) (by omega) (by
    intro i j h1 h2 h3
    have c1 : decide ((i : Int) < (j : Int)) = true := by simp; omega
    have i1 : inR (((i + j) / 2 : Nat) : Int) (((P ++ x :: (Y ++ S)).length : Nat) : Int) = true := inR_of (by omega) (by rw [hlen]; omega)
    have i2 : inR (P.length : Int) (((P ++ x :: (Y ++ S)).length : Nat) : Int) = true := inR_of (by omega) (by rw [hlen]; omega)
    have w1 : IntKind.i64.wrap ((((i + j) / 2 : Nat) : Int) + 1) = (((i + j) / 2 + 1 : Nat) : Int) := by rw [wrap_ok (by omega) (by omega)]; omega
    unfold symMergeF_l1 ltOf
    simp only [c1, cond_true, wrap_mid (show i + j ≤ 9223372036854775807 by omega), i1, i2, ra, w1]
    cases decide (cmp (rd d (P ++ x :: (Y ++ S)) (((i + j) / 2 : Nat) : Int)) x < 0) <;> rfl) (by
    intro i
    have c1 : decide ((i : Int) < (i : Int)) = false := by simp
    unfold symMergeF_l1
    simp only [c1, cond_false]) (k := k) (by omega)
  obtain ⟨Y1, Y2, rfl, hY1⟩ := cut Y (s - (P.length + 1)) (by omega)
  simp only [List.length_append] at *
  have hA : ∀ y ∈ Y1, ltOf cmp y x = true := by
    rcases List.eq_nil_or_concat Y1 with rfl | ⟨Y1, y, rfl⟩
    · simp
    · simp only [List.concat_eq_append] at *
      simp only [List.length_append, List.length_singleton] at hY1
      have : ltOf cmp y x = true := by
        rcases s3 with s3 | s3
        · omega
        · rwa [show P ++ x :: (Y1 ++ [y] ++ Y2 ++ S) = (P ++ x :: Y1) ++ y :: (Y2 ++ S) from by simp, rd_mid d (show ((s - 1 : Nat) : Int) = ((P ++ x :: Y1).length : Nat) from by simp; omega)] at s3
      intro z hz
      exact all_before W (List.pairwise_append.1 hY).1 (v := x) (V := []) (by simp [InOrder]) this z hz x (by simp)
  have hB : ∀ y ∈ Y2, ltOf cmp y x = false := by
    cases Y2 with
    | nil => simp
    | cons y Y2 =>
      have : ltOf cmp y x = false := by
        rcases s4 with s4 | s4
        · simp at s4; omega
        · rwa [show P ++ x :: (Y1 ++ y :: Y2 ++ S) = (P ++ x :: Y1) ++ y :: (Y2 ++ S) from by simp, rd_mid d (show ((s : Nat) : Int) = ((P ++ x :: Y1).length : Nat) from by simp; omega)] at s4
      intro z hz
      exact none_after W (U := []) (u := x) (by simp [InOrder]) (List.pairwise_append.1 hY).2.1 this x (by simp) z hz
  have sh := shiftR d (P := P) (Y := Y1) (R := Y2 ++ S) (x := x) (by simp; omega) (k := k) (by omega) (z := (((s : Int), ()), ())) (by simp; omega)
  simp only [List.append_assoc] at sh s5 ⊢
  refine ⟨Y1 ++ x :: Y2, ?_, order_mid W hY (fun l hl => W.asymm (hA l hl)) hB, ?_⟩
  · simp only [w0, cond_true]
    rw [s5]
    simp only [Option.bind_some]
    rw [sh]
    simp
  · have := Same.append (Same.blocks W (U := [x]) (V := Y1) (fun u hu v hv => by rw [List.mem_singleton.1 hu]; exact hA v hv)) (Same.refl Y2)
    simpa using this
theorem symMerge_last (W : Weak (ltOf cmp)) {P X S : List α} {y : α} (hX : InOrder (ltOf cmp) X) (hX1 : X.length ≠ 1) (hL : P.length + X.length + 1 + S.length ≤ 4611686018427387904) {k : Nat} (hk : P.length + X.length + 1 + S.length < k) (rec : List α → Int → Int → Int → Option (List α)) {a m b : Int}
    (ha : a = (P.length : Int)) (hm : m = ((P.length + X.length : Nat) : Int)) (hb : b = ((P.length + X.length + 1 : Nat) : Int)) :
    ∃ M, symMergeF d cmp rec k (P ++ X ++ y :: S) a m b = some (P ++ M ++ S) ∧ InOrder (ltOf cmp) M ∧ Same (ltOf cmp) (X ++ [y]) M := by
  subst ha hm hb
  rw [symMergeF_eq]
  have w0 : (IntKind.i64.wrap (((P.length + X.length : Nat) : Int) - (P.length : Int)) == 1) = false := by rw [wrap_ok (by omega) (by omega)]; simp; omega
  have w00 : (IntKind.i64.wrap (((P.length + X.length + 1 : Nat) : Int) - ((P.length + X.length : Nat) : Int)) == 1) = true := by rw [wrap_ok (by omega) (by omega)]; simp; omega
  have hlen : (P ++ X ++ y :: S).length = P.length + X.length + 1 + S.length := by simp; omega
  have ra : rd d (P ++ X ++ y :: S) ((P.length + X.length : Nat) : Int) = y := rd_mid d (by simp)
  obtain ⟨s, s1, s2, s3, s4, s5⟩ := bsearch (f := symMergeF_l5 d cmp (P ++ X ++ y :: S) ((P.length + X.length : Nat) : Int)) (fun h => !ltOf cmp y (rd d (P ++ X ++ y :: S) (h : Int))) P.length (P.length + X.length) (by omega) (by
    intro i j h1 h2 h3
    have c1 : decide ((i : Int) < (j : Int)) = true := by simp; omega
    have i1 : inR (((i + j) / 2 : Nat) : Int) (((P ++ X ++ y :: S).length : Nat) : Int) = true := inR_of (by omega) (by rw [hlen]; omega)
    have i2 : inR ((P.length + X.length : Nat) : Int) (((P ++ X ++ y :: S).length : Nat) : Int) = true := inR_of (by omega) (by rw [hlen]; omega)
    have w1 : IntKind.i64.wrap ((((i + j) / 2 : Nat) : Int) + 1) = (((i + j) / 2 + 1 : Nat) : Int) := by rw [wrap_ok (by omega) (by omega)]; omega
    unfold symMergeF_l5 ltOf
    simp only [c1, cond_true, wrap_mid (show i + j ≤ 9223372036854775807 by omega), i1, i2, ra, w1]
    cases decide (cmp y (rd d (P ++ X ++ y :: S) (((i + j) / 2 : Nat) : Int)) < 0) <;> rfl) (by
    intro i
    have c1 : decide ((i : Int) < (i : Int)) = false := by simp
    unfold symMergeF_l5
    simp only [c1, cond_false]) (k := k) (by omega)
  obtain ⟨X1, X2, rfl, hY1⟩ := cut X (s - P.length) (by omega)
  simp only [List.length_append] at *
  have hA : ∀ z ∈ X1, ltOf cmp y z = false := by
    rcases List.eq_nil_or_concat X1 with rfl | ⟨X1, x, rfl⟩
    · simp
    · simp only [List.concat_eq_append] at *
      simp only [List.length_append, List.length_singleton] at hY1
      have : ltOf cmp y x = false := by
        rcases s3 with s3 | s3
        · omega
        · rw [show P ++ (X1 ++ [x] ++ X2) ++ y :: S = (P ++ X1) ++ x :: (X2 ++ y :: S) from by simp, rd_mid d (show ((s - 1 : Nat) : Int) = ((P ++ X1).length : Nat) from by simp; omega)] at s3
          simpa using s3
      intro z hz
      exact none_after W (List.pairwise_append.1 hX).1 (v := y) (V := []) (by simp [InOrder]) this z hz y (by simp)
  have hB : ∀ z ∈ X2, ltOf cmp y z = true := by
    cases X2 with
    | nil => simp
    | cons x X2 =>
      have : ltOf cmp y x = true := by
        rcases s4 with s4 | s4
        · simp at s4; omega
        · rw [show P ++ (X1 ++ x :: X2) ++ y :: S = (P ++ X1) ++ x :: (X2 ++ y :: S) from by simp, rd_mid d (show ((s : Nat) : Int) = ((P ++ X1).length : Nat) from by simp; omega)] at s4
          simpa using s4
      intro z hz
      exact all_before W (U := []) (u := y) (by simp [InOrder]) (List.pairwise_append.1 hX).2.1 this y (by simp) z hz
  have sh := shiftL d (P := P ++ X1) (X := X2) (R := S) (y := y) (by simp; omega) (k := k) (by simp; omega) (z := (((s : Int), ()), ())) (by simp; omega)
  refine ⟨X1 ++ y :: X2, ?_, order_mid W hX hA (fun r hr => W.asymm (hB r hr)), ?_⟩
  · simp only [w0, w00, cond_true, cond_false]
    rw [s5]
    simp only [Option.bind_some]
    have e : ((P.length + (X1.length + X2.length) : Nat) : Int) = (((P ++ X1 ++ X2).length : Nat) : Int) := by simp [Nat.add_assoc]
    have e2 : P ++ (X1 ++ X2) ++ y :: S = P ++ X1 ++ X2 ++ y :: S := by simp
    rw [e, e2, sh]
    simp
  · have := Same.append (Same.refl X1) (Same.blocks W (U := X2) (V := [y]) (fun u hu v hv => by rw [List.mem_singleton.1 hv]; exact hB u hu))
    simpa using this
/-- what is merged apart is merged -/
theorem merge_parts {lt : α → α → Bool} (W : Weak lt) {X1 X2 Y1 Y2 M1 M2 : List α} (hX : InOrder lt (X1 ++ X2)) (hY : InOrder lt (Y1 ++ Y2)) (hA : ∀ y ∈ Y1, ∀ x ∈ X2, lt y x = true) (hB : ∀ x ∈ X1, ∀ y ∈ Y2, lt y x = false)
    (m1 : InOrder lt M1) (e1 : Same lt (X1 ++ Y1) M1) (m2 : InOrder lt M2) (e2 : Same lt (X2 ++ Y2) M2) : InOrder lt (M1 ++ M2) ∧ Same lt ((X1 ++ X2) ++ (Y1 ++ Y2)) (M1 ++ M2) := by
  refine ⟨List.pairwise_append.2 ⟨m1, m2, fun u hu v hv => ?_⟩, ?_⟩
  · rcases List.mem_append.1 (e1.mem W hu) with hu | hu <;> rcases List.mem_append.1 (e2.mem W hv) with hv | hv
    · exact (List.pairwise_append.1 hX).2.2 u hu v hv
    · exact hB u hu v hv
    · exact W.asymm (hA u hu v hv)
    · exact (List.pairwise_append.1 hY).2.2 u hu v hv
  · have h1 := Same.append (Same.refl (lt := lt) X1) (Same.append (Same.blocks W (U := X2) (V := Y1) (fun u hu v hv => hA v hv u hu)) (Same.refl Y2))
    have h2 := Same.append e1 e2
    refine Same.trans ?_ h2
    simpa using h1
end
end Go.Vm

/- Vm, part 37: Go's stable sort: merging in place, in all. Plain law. Own work. -/
set_option linter.unusedVariables false
set_option linter.unusedSimpArgs false
namespace Go.Vm
section
variable {α : Type} (d : α) (cmp : α → α → Int)
theorem symMerge_gen (W : Weak (ltOf cmp)) {P X Y S : List α} (hX : InOrder (ltOf cmp) X) (hY : InOrder (ltOf cmp) Y) (hX1 : 2 ≤ X.length) (hY1 : 2 ≤ Y.length) (hL : P.length + X.length + Y.length + S.length ≤ 1152921504606846976) {k : Nat} (hk : P.length + X.length + Y.length + S.length < k) (rec : List α → Int → Int → Int → Option (List α))
    (hrec : ∀ P' X' Y' S' : List α, X' ≠ [] → Y' ≠ [] → InOrder (ltOf cmp) X' → InOrder (ltOf cmp) Y' → P'.length + X'.length + Y'.length + S'.length = P.length + X.length + Y.length + S.length → X'.length + Y'.length < X.length + Y.length →
      ∀ {a m b : Int}, a = (P'.length : Int) → m = ((P'.length + X'.length : Nat) : Int) → b = ((P'.length + X'.length + Y'.length : Nat) : Int) → ∃ M, rec (P' ++ X' ++ Y' ++ S') a m b = some (P' ++ M ++ S') ∧ InOrder (ltOf cmp) M ∧ Same (ltOf cmp) (X' ++ Y') M)
    {A M B : Nat} (hA0 : A = P.length) (hM0 : M = P.length + X.length) (hB0 : B = P.length + X.length + Y.length) :
    ∃ N, symMergeF d cmp rec k (P ++ X ++ Y ++ S) (A : Int) (M : Int) (B : Int) = some (P ++ N ++ S) ∧ InOrder (ltOf cmp) N ∧ Same (ltOf cmp) (X ++ Y) N := by
  rw [symMergeF_eq]
  have w0 : (IntKind.i64.wrap ((M : Int) - (A : Int)) == 1) = false := by rw [wrap_ok (by omega) (by omega)]; simp; omega
  have w00 : (IntKind.i64.wrap ((B : Int) - (M : Int)) == 1) = false := by rw [wrap_ok (by omega) (by omega)]; simp; omega
  have hlen : (P ++ X ++ Y ++ S).length = P.length + X.length + Y.length + S.length := by simp; omega
  obtain ⟨L, hL0⟩ : ∃ L, L = P ++ X ++ Y ++ S := ⟨_, rfl⟩
  obtain ⟨D, hD0⟩ : ∃ D, D = (A + B) / 2 := ⟨_, rfl⟩
  have wD : IntKind.i64.wrap (Int.fdiv (IntKind.u64.wrap (IntKind.i64.wrap ((A : Int) + (B : Int)))) (2 : Int)) = (D : Int) := by rw [hD0]; exact wrap_mid (by omega)
  have wN : IntKind.i64.wrap ((D : Int) + (M : Int)) = ((D + M : Nat) : Int) := by rw [wrap_ok (by omega) (by omega)]; omega
  rw [← hL0] at hlen ⊢
  simp only [w0, w00, cond_false, wD, wN]
  -- where the search begins and ends
  obtain ⟨lo, hi, f1, f2, f3, f4, f5, f6, f7, f8, start⟩ : ∃ lo hi : Nat, A ≤ lo ∧ lo ≤ hi ∧ hi ≤ M ∧ hi ≤ D ∧ D + M - lo ≤ B ∧ M ≤ D + M - hi ∧ (lo = A ∨ D + M - lo = B) ∧ (hi = M ∨ D + M - hi = M) ∧
      (bif (decide ((M : Int) > (D : Int))) then (some (.inr (((IntKind.i64.wrap (((D + M : Nat) : Int) - (B : Int))), (D : Int), ()), ())) : Option (List α ⊕ ((Int × Int × Unit) × Unit))) else some (.inr (((A : Int), (M : Int), ()), ()))) = some (.inr (((lo : Int), (hi : Int), ()), ())) := by
    by_cases h : M > D
    · refine ⟨D + M - B, D, by omega, by omega, by omega, by omega, by omega, by omega, by omega, by omega, ?_⟩
      have h1 : decide ((M : Int) > (D : Int)) = true := by simp; omega
      have h2 : IntKind.i64.wrap (((D + M : Nat) : Int) - (B : Int)) = ((D + M - B : Nat) : Int) := by rw [wrap_ok (by omega) (by omega)]; omega
      rw [h1, h2]; rfl
    · refine ⟨A, M, by omega, by omega, by omega, by omega, by omega, by omega, by omega, by omega, ?_⟩
      have h1 : decide ((M : Int) > (D : Int)) = false := by simp; omega
      rw [h1]; rfl
  rw [start]
  simp only [Option.bind_some]
  obtain ⟨s, s1, s2, s3, s4, s5⟩ := bsearch (f := symMergeF_l10 d cmp L (A : Int) (M : Int) (B : Int)) (fun h => !ltOf cmp (rd d L ((D + M - 1 - h : Nat) : Int)) (rd d L (h : Int))) lo hi f2 (by
    intro i j h1 h2 h3
    have c1 : decide ((i : Int) < (j : Int)) = true := by simp; omega
    have w3 : IntKind.i64.wrap (((D + M : Nat) : Int) - 1) = ((D + M - 1 : Nat) : Int) := by rw [wrap_ok (by omega) (by omega)]; omega
    have w4 : IntKind.i64.wrap (((D + M - 1 : Nat) : Int) - (((i + j) / 2 : Nat) : Int)) = ((D + M - 1 - (i + j) / 2 : Nat) : Int) := by rw [wrap_ok (by omega) (by omega)]; omega
    have i1 : inR (((i + j) / 2 : Nat) : Int) ((L.length : Nat) : Int) = true := inR_of (by omega) (by rw [hlen]; omega)
    have i2 : inR ((D + M - 1 - (i + j) / 2 : Nat) : Int) ((L.length : Nat) : Int) = true := inR_of (by omega) (by rw [hlen]; omega)
    have w1 : IntKind.i64.wrap ((((i + j) / 2 : Nat) : Int) + 1) = (((i + j) / 2 + 1 : Nat) : Int) := by rw [wrap_ok (by omega) (by omega)]; omega
    unfold symMergeF_l10 ltOf
    simp only [c1, cond_true, wrap_mid (show i + j ≤ 9223372036854775807 by omega), wD, wN, w3, w4, i1, i2, w1]
    cases decide (cmp (rd d L ((D + M - 1 - (i + j) / 2 : Nat) : Int)) (rd d L (((i + j) / 2 : Nat) : Int)) < 0) <;> rfl) (by
    intro i
    have c1 : decide ((i : Int) < (i : Int)) = false := by simp
    unfold symMergeF_l10
    simp only [c1, cond_false]) (k := k) (by omega)
  rw [s5]
  simp only [Option.bind_some]
  have wE : IntKind.i64.wrap (((D + M : Nat) : Int) - (s : Int)) = ((D + M - s : Nat) : Int) := by rw [wrap_ok (by omega) (by omega)]; omega
  simp only [wE]
  obtain ⟨X1, X2, rfl, hx1⟩ := cut X (s - A) (by omega)
  obtain ⟨Y1, Y2, rfl, hy1⟩ := cut Y (D - s) (by omega)
  simp only [List.length_append] at hM0 hB0 hL hk hrec hlen
  have hA : ∀ y ∈ Y1, ∀ x ∈ X2, ltOf cmp y x = true := by
    rcases List.eq_nil_or_concat Y1 with rfl | ⟨Y1, y, rfl⟩
    · simp
    · cases X2 with
      | nil => simp
      | cons x X2 =>
        simp only [List.concat_eq_append] at *
        simp only [List.length_append, List.length_cons, List.length_nil] at hy1 hM0 hB0
        have : ltOf cmp y x = true := by
          rcases s4 with s4 | s4
          · omega
          · rw [hL0, show P ++ (X1 ++ x :: X2) ++ (Y1 ++ [y] ++ Y2) ++ S = (P ++ X1) ++ x :: (X2 ++ (Y1 ++ [y] ++ Y2) ++ S) from by simp, rd_mid d (show ((s : Nat) : Int) = ((P ++ X1).length : Nat) from by simp; omega),
              show (P ++ X1) ++ x :: (X2 ++ (Y1 ++ [y] ++ Y2) ++ S) = (P ++ X1 ++ x :: X2 ++ Y1) ++ y :: (Y2 ++ S) from by simp, rd_mid d (show ((D + M - 1 - s : Nat) : Int) = ((P ++ X1 ++ x :: X2 ++ Y1).length : Nat) from by simp; omega)] at s4
            simpa using s4
        exact all_before W (List.pairwise_append.1 hY).1 (List.pairwise_append.1 hX).2.1 this
  have hB : ∀ x ∈ X1, ∀ y ∈ Y2, ltOf cmp y x = false := by
    rcases List.eq_nil_or_concat X1 with rfl | ⟨X1, x, rfl⟩
    · simp
    · cases Y2 with
      | nil => simp
      | cons y Y2 =>
        simp only [List.concat_eq_append] at *
        simp only [List.length_append, List.length_cons, List.length_nil] at hx1 hM0 hB0
        have : ltOf cmp y x = false := by
          rcases s3 with s3 | s3
          · omega
          · rw [hL0, show P ++ (X1 ++ [x] ++ X2) ++ (Y1 ++ y :: Y2) ++ S = (P ++ X1) ++ x :: (X2 ++ (Y1 ++ y :: Y2) ++ S) from by simp, rd_mid d (show ((s - 1 : Nat) : Int) = ((P ++ X1).length : Nat) from by simp; omega),
              show (P ++ X1) ++ x :: (X2 ++ (Y1 ++ y :: Y2) ++ S) = (P ++ X1 ++ [x] ++ X2 ++ Y1) ++ y :: (Y2 ++ S) from by simp, rd_mid d (show ((D + M - 1 - (s - 1) : Nat) : Int) = ((P ++ X1 ++ [x] ++ X2 ++ Y1).length : Nat) from by simp; omega)] at s3
            simpa using s3
        exact none_after W (List.pairwise_append.1 hX).1 (List.pairwise_append.1 hY).2.1 this
  -- the rotation
  obtain ⟨q, q1⟩ : ∃ q : Bool, (bif (decide ((s : Int) < (M : Int))) then (some (.inr (((decide ((M : Int) < ((D + M - s : Nat) : Int))), ()), ())) : Option (List α ⊕ ((Bool × Unit) × Unit))) else some (.inr ((false, ()), ()))) = some (.inr ((q, ()), ())) ∧ q = (decide (s < M) && decide (M < D + M - s)) := by
    refine ⟨_, ?_, rfl⟩
    by_cases h : s < M
    · have h1 : decide ((s : Int) < (M : Int)) = true := by simp; omega
      rw [h1]; simp [h]
    · have h1 : decide ((s : Int) < (M : Int)) = false := by simp; omega
      rw [h1]; simp [h]
  rw [q1.1]
  simp only [Option.bind_some]
  have rot : (bif q then Option.bind (rotate d k L (s : Int) (M : Int) ((D + M - s : Nat) : Int)) fun v13 => (some (.inr ((), (v13, ()))) : Option (List α ⊕ (Unit × (List α × Unit)))) else some (.inr ((), (L, ())))) = some (.inr ((), (P ++ X1 ++ Y1 ++ (X2 ++ Y2 ++ S), ()))) := by
    rw [q1.2]
    by_cases h : s < M ∧ M < D + M - s
    · have h1 : (decide (s < M) && decide (M < D + M - s)) = true := by simp [h]
      have := rotate_ok d (P := P ++ X1) (S := Y2 ++ S) (k := k) X2 Y1 (by intro e; subst e; simp at hM0; omega) (by intro e; subst e; simp at hy1; omega) (by simp; omega) (by simp; omega) (a := (s : Int)) (m := (M : Int)) (b := ((D + M - s : Nat) : Int)) (by simp; omega) (by simp; omega) (by simp; omega)
      rw [h1, hL0, show P ++ (X1 ++ X2) ++ (Y1 ++ Y2) ++ S = P ++ X1 ++ X2 ++ Y1 ++ (Y2 ++ S) from by simp, this]
      simp
    · have h1 : (decide (s < M) && decide (M < D + M - s)) = false := by simp; omega
      rw [h1, hL0]
      by_cases hs : s < M
      · have : Y1 = [] := List.length_eq_zero_iff.1 (by omega)
        subst this; simp
      · have : X2 = [] := List.length_eq_zero_iff.1 (by omega)
        subst this; simp
  rw [rot]
  simp only [Option.bind_some]
  -- the left part
  obtain ⟨q', q2⟩ : ∃ q : Bool, (bif (decide ((A : Int) < (s : Int))) then (some (.inr (((decide ((s : Int) < (D : Int))), ()), ())) : Option (List α ⊕ ((Bool × Unit) × Unit))) else some (.inr ((false, ()), ()))) = some (.inr ((q, ()), ())) ∧ q = (decide (A < s) && decide (s < D)) := by
    refine ⟨_, ?_, rfl⟩
    by_cases h : A < s
    · have h1 : decide ((A : Int) < (s : Int)) = true := by simp; omega
      rw [h1]; simp [h]
    · have h1 : decide ((A : Int) < (s : Int)) = false := by simp; omega
      rw [h1]; simp [h]
  rw [q2.1]
  simp only [Option.bind_some]
  obtain ⟨M1, left, m1, e1⟩ : ∃ M1, (bif q' then Option.bind (rec (P ++ X1 ++ Y1 ++ (X2 ++ Y2 ++ S)) (A : Int) (s : Int) (D : Int)) fun v13 => (some (.inr ((), (v13, ()))) : Option (List α ⊕ (Unit × (List α × Unit)))) else some (.inr ((), (P ++ X1 ++ Y1 ++ (X2 ++ Y2 ++ S), ())))) = some (.inr ((), (P ++ M1 ++ (X2 ++ Y2 ++ S), ()))) ∧ InOrder (ltOf cmp) M1 ∧ Same (ltOf cmp) (X1 ++ Y1) M1 := by
    rw [q2.2]
    by_cases h : A < s ∧ s < D
    · have h1 : (decide (A < s) && decide (s < D)) = true := by simp [h]
      obtain ⟨M1, g1, g2, g3⟩ := hrec P X1 Y1 (X2 ++ Y2 ++ S) (by intro e; subst e; simp at hx1; omega) (by intro e; subst e; simp at hy1; omega) (List.pairwise_append.1 hX).1 (List.pairwise_append.1 hY).1 (by simp; omega) (by omega) (a := (A : Int)) (m := (s : Int)) (b := (D : Int)) (by omega) (by omega) (by omega)
      refine ⟨M1, ?_, g2, g3⟩
      rw [h1, g1]; rfl
    · have h1 : (decide (A < s) && decide (s < D)) = false := by simp; omega
      rw [h1]
      refine ⟨X1 ++ Y1, by simp, ?_, Same.refl _⟩
      by_cases hs : A < s
      · have : Y1 = [] := List.length_eq_zero_iff.1 (by omega)
        subst this; simpa [InOrder] using (List.pairwise_append.1 hX).1
      · have : X1 = [] := List.length_eq_zero_iff.1 (by omega)
        subst this; simpa [InOrder] using (List.pairwise_append.1 hY).1
  rw [left]
  simp only [Option.bind_some]
  -- the right part
  have l1 := e1.1
  simp only [List.length_append] at l1
  obtain ⟨M2, right, m2, e2⟩ : ∃ M2, (bif (decide ((D : Int) < ((D + M - s : Nat) : Int))) then bif (decide (((D + M - s : Nat) : Int) < (B : Int))) then Option.bind (rec (P ++ M1 ++ (X2 ++ Y2 ++ S)) (D : Int) ((D + M - s : Nat) : Int) (B : Int)) fun v13 => some v13 else some (P ++ M1 ++ (X2 ++ Y2 ++ S)) else some (P ++ M1 ++ (X2 ++ Y2 ++ S))) = some (P ++ (M1 ++ M2) ++ S) ∧ InOrder (ltOf cmp) M2 ∧ Same (ltOf cmp) (X2 ++ Y2) M2 := by
    by_cases h : D < D + M - s
    · have h1 : decide ((D : Int) < ((D + M - s : Nat) : Int)) = true := by simp; omega
      rw [h1]
      by_cases h' : D + M - s < B
      · have h2 : decide (((D + M - s : Nat) : Int) < (B : Int)) = true := by simp; omega
        rw [h2]
        obtain ⟨M2, g1, g2, g3⟩ := hrec (P ++ M1) X2 Y2 S (by intro e; subst e; simp at hM0; omega) (by intro e; subst e; simp at hB0; omega) (List.pairwise_append.1 hX).2.1 (List.pairwise_append.1 hY).2.1 (by simp; omega) (by omega) (a := (D : Int)) (m := ((D + M - s : Nat) : Int)) (b := (B : Int)) (by simp; omega) (by simp; omega) (by simp; omega)
        refine ⟨M2, ?_, g2, g3⟩
        rw [show P ++ M1 ++ (X2 ++ Y2 ++ S) = P ++ M1 ++ X2 ++ Y2 ++ S from by simp, g1]
        simp
      · have h2 : decide (((D + M - s : Nat) : Int) < (B : Int)) = false := by simp; omega
        rw [h2]
        have : Y2 = [] := List.length_eq_zero_iff.1 (by omega)
        subst this
        exact ⟨X2, by simp, (List.pairwise_append.1 hX).2.1, by simpa using Same.refl X2⟩
    · have h1 : decide ((D : Int) < ((D + M - s : Nat) : Int)) = false := by simp; omega
      rw [h1]
      have : X2 = [] := List.length_eq_zero_iff.1 (by omega)
      subst this
      exact ⟨Y2, by simp, (List.pairwise_append.1 hY).2.1, by simpa using Same.refl Y2⟩
  rw [right]
  exact ⟨M1 ++ M2, rfl, merge_parts W hX hY hA hB m1 e1 m2 e2⟩
/-- MERGING IN PLACE. -/
theorem symMerge_ok (W : Weak (ltOf cmp)) {k : Nat} : ∀ (n : Nat) (P X Y S : List α), X ≠ [] → Y ≠ [] → InOrder (ltOf cmp) X → InOrder (ltOf cmp) Y → P.length + X.length + Y.length + S.length ≤ 1152921504606846976 → P.length + X.length + Y.length + S.length < k → X.length + Y.length ≤ n →
    ∀ a m b : Int, a = (P.length : Int) → m = ((P.length + X.length : Nat) : Int) → b = ((P.length + X.length + Y.length : Nat) : Int) → ∃ M, symMergeK d cmp k n (P ++ X ++ Y ++ S) a m b = some (P ++ M ++ S) ∧ InOrder (ltOf cmp) M ∧ Same (ltOf cmp) (X ++ Y) M
  | 0, P, X, Y, S, hX, hY, _, _, _, _, hn, _, _, _, _, _, _ => by
    have := List.length_pos_iff.2 hX
    omega
  | n + 1, P, X, Y, S, hX, hY, oX, oY, hL, hk, hn, a, m, b, ha, hm, hb => by
    have p1 := List.length_pos_iff.2 hX
    have p2 := List.length_pos_iff.2 hY
    show ∃ M, symMergeF d cmp (symMergeK d cmp k n) k (P ++ X ++ Y ++ S) a m b = some (P ++ M ++ S) ∧ _
    by_cases h1 : X.length = 1
    · obtain ⟨x, rfl⟩ := List.length_eq_one_iff.1 h1
      simp only [List.length_singleton] at *
      have := symMerge_one d cmp W (P := P) (Y := Y) (S := S) (x := x) oY (by omega) (k := k) (by omega) (symMergeK d cmp k n) ha hm hb
      simpa using this
    · by_cases h2 : Y.length = 1
      · obtain ⟨y, rfl⟩ := List.length_eq_one_iff.1 h2
        simp only [List.length_singleton] at *
        have := symMerge_last d cmp W (P := P) (X := X) (S := S) (y := y) oX h1 (by omega) (k := k) (by omega) (symMergeK d cmp k n) ha hm hb
        simpa using this
      · subst ha hm hb
        refine symMerge_gen d cmp W oX oY (by omega) (by omega) hL hk _ ?_ rfl rfl rfl
        intro P' X' Y' S' a1 a2 a3 a4 a5 a6 a m b ha hm hb
        exact symMerge_ok W n P' X' Y' S' a1 a2 a3 a4 (by omega) (by omega) (by omega) a m b ha hm hb
end
end Go.Vm

/- Vm, part 38: Go's stable sort is stable sorting. Plain law. Own work. -/
set_option linter.unusedVariables false
set_option linter.unusedSimpArgs false
namespace Go.Vm
section
variable {α : Type} (d : α) (cmp : α → α → Int)
/-- runs of a length -/
def AllRuns (lt : α → α → Bool) (n : Nat) (Ls : List (List α)) : Prop := ∀ l ∈ Ls, l.length = n ∧ InOrder lt l
theorem AllRuns.len {lt : α → α → Bool} {n : Nat} : ∀ {Ls : List (List α)}, AllRuns lt n Ls → Ls.flatten.length = n * Ls.length
  | [], _ => by simp
  | l :: Ls, h => by
    have h1 := AllRuns.len (Ls := Ls) (fun x hx => h x (List.mem_cons_of_mem _ hx))
    have h2 := (h l (List.mem_cons_self ..)).1
    rw [List.flatten_cons, List.length_append, h1, h2, List.length_cons, Nat.mul_succ]; omega
def Runs (lt : α → α → Bool) (n : Nat) (L : List α) : Prop := ∃ Ls R, L = List.flatten Ls ++ R ∧ AllRuns lt n Ls ∧ InOrder lt R ∧ R.length < n
theorem runs_first (W : Weak (ltOf cmp)) {L : List α} (hL : L.length ≤ 1152921504606846000) {k : Nat} (hk : L.length < k) :
    ∃ L1 t, iter k (stableRow_l1 d cmp k (L.length : Int)) (((0 : Int), (20 : Int), ()), (L, ())) = some (.inr ((t, ()), (L1, ()))) ∧ ∃ L2, insSort d cmp k L1 t (L.length : Int) = some L2 ∧ Runs (ltOf cmp) 20 L2 ∧ Same (ltOf cmp) L L2 := by
  have key := iter_post (k := k) (f := stableRow_l1 d cmp k (L.length : Int)) (fun s : (Int × Int × Unit) × (List α × Unit) => ∃ C R Ls, L = C ++ R ∧ Same (ltOf cmp) C (List.flatten Ls) ∧ AllRuns (ltOf cmp) 20 Ls ∧ s = (((C.length : Int), ((C.length + 20 : Nat) : Int), ()), (List.flatten Ls ++ R, ())))
    (fun s => ((L.length : Int) - s.1.1).toNat) (fun t => ∃ C R Ls, L = C ++ R ∧ R.length < 20 ∧ Same (ltOf cmp) C (List.flatten Ls) ∧ AllRuns (ltOf cmp) 20 Ls ∧ t = .inr (((C.length : Int), ()), (List.flatten Ls ++ R, ()))) ?_ (((0 : Int), (20 : Int), ()), (L, ())) ⟨[], L, [], rfl, Same.refl _, (by intro l hl; cases hl), rfl⟩ (by simp; omega)
  · obtain ⟨t, ht, C, R, Ls, rfl, h1, h2, h3, rfl⟩ := key
    refine ⟨_, _, ht, ?_⟩
    simp only [List.length_append] at hL hk
    have hl := h2.1
    obtain ⟨R', e1, e2, e3⟩ := insSort_ok d cmp W (P := List.flatten Ls) (M := R) (S := []) (by simp only [List.length_append, List.length_nil]; omega) (k := k) (by simp only [List.length_append, List.length_nil]; omega) (a := (C.length : Int)) (b := ((C ++ R).length : Int)) (by rw [hl]) (by simp only [List.length_append, hl])
    simp only [List.append_nil] at e1
    refine ⟨_, e1, ⟨Ls, R', rfl, h3, e2, ?_⟩, Same.append h2 e3⟩
    have := e3.1
    omega
  · rintro s ⟨C, R, Ls, rfl, h2, h3, rfl⟩
    simp only [List.length_append] at hL hk
    have hl := h2.1
    unfold stableRow_l1
    by_cases h : 20 ≤ R.length
    · left
      obtain ⟨R1, R2, rfl, hR⟩ := cut R 20 h
      simp only [List.length_append] at hL hk
      have c1 : decide (((C.length + 20 : Nat) : Int) ≤ (((C ++ (R1 ++ R2)).length : Nat) : Int)) = true := by simp; omega
      obtain ⟨R', e1, e2, e3⟩ := insSort_ok d cmp W (P := List.flatten Ls) (M := R1) (S := R2) (by simp only [List.length_append]; omega) (k := k) (by simp only [List.length_append]; omega) (a := (C.length : Int)) (b := ((C.length + 20 : Nat) : Int)) (by rw [hl]) (by simp only [List.length_append, hl, hR])
      have w1 : IntKind.i64.wrap (((C.length + 20 : Nat) : Int) + 20) = ((C.length + 20 + 20 : Nat) : Int) := by rw [wrap_ok (by omega) (by omega)]; omega
      simp only [c1, cond_true, w1]
      rw [← List.append_assoc, e1]
      have e4 := e3.1
      refine ⟨_, rfl, ⟨C ++ R1, R2, Ls ++ [R'], by simp, by simpa using Same.append h2 e3, ?_, by simp [hR]⟩, by simp; omega⟩
      intro l hl
      rcases List.mem_append.1 hl with hl | hl
      · exact h3 l hl
      · rw [List.mem_singleton.1 hl]; exact ⟨by omega, e2⟩
    · right
      have c1 : decide (((C.length + 20 : Nat) : Int) ≤ (((C ++ R).length : Nat) : Int)) = false := by simp; omega
      simp only [c1, cond_false]
      exact ⟨_, rfl, C, R, Ls, rfl, by omega, h2, h3, rfl⟩
/-- one round: runs of twice the length -/
theorem runs_double (W : Weak (ltOf cmp)) {L : List α} {n : Nat} (hn : 20 ≤ n) (hnL : n < L.length) (hL : L.length ≤ 1152921504606846000) {k : Nat} (hk : L.length < k) (hR : Runs (ltOf cmp) n L) :
    ∃ L2, stableRow_l5 d cmp k (L.length : Int) (((n : Int), ()), (L, ())) = some (.inl ((((2 * n : Nat) : Int), ()), (L2, ()))) ∧ Runs (ltOf cmp) (2 * n) L2 ∧ Same (ltOf cmp) L L2 := by
  obtain ⟨Ls, R, hLR, hall, oR, lR⟩ := hR
  have hlenL : L.length = n * Ls.length + R.length := by rw [hLR, List.length_append, hall.len]
  have w2 : IntKind.i64.wrap ((2 : Int) * (n : Int)) = ((2 * n : Nat) : Int) := by rw [wrap_ok (by omega) (by omega)]; omega
  have w2' : IntKind.i64.wrap ((n : Int) * (2 : Int)) = ((2 * n : Nat) : Int) := by rw [wrap_ok (by omega) (by omega)]; omega
  have key := iter_post (k := k) (f := stableRow_l6 d cmp k (L.length : Int) (((n : Int), ()), (L, ()))) (fun s : (Int × Int × Unit) × (List α × Unit) => ∃ Ms Ns, AllRuns (ltOf cmp) (2 * n) Ms ∧ AllRuns (ltOf cmp) n Ns ∧ Same (ltOf cmp) L (Ms.flatten ++ Ns.flatten ++ R) ∧ s = (((Ms.flatten.length : Int), ((Ms.flatten.length + 2 * n : Nat) : Int), ()), (Ms.flatten ++ Ns.flatten ++ R, ())))
    (fun s => ((L.length : Int) - s.1.1).toNat) (fun t => ∃ Ms Ns, AllRuns (ltOf cmp) (2 * n) Ms ∧ AllRuns (ltOf cmp) n Ns ∧ Ns.flatten.length + R.length < 2 * n ∧ Same (ltOf cmp) L (Ms.flatten ++ Ns.flatten ++ R) ∧ t = .inr (((Ms.flatten.length : Int), ()), (Ms.flatten ++ Ns.flatten ++ R, ()))) ?_ (((0 : Int), ((2 * n : Nat) : Int), ()), (L, ())) ⟨[], Ls, (by intro l hl; cases hl), hall, by simpa [← hLR] using Same.refl L, by simp [← hLR]⟩ (by simp; omega)
  · obtain ⟨t, ht, Ms, Ns, h1, h2, h3, h4, rfl⟩ := key
    have hlen := h4.1
    simp only [List.length_append] at hlen
    have c0 : decide ((n : Int) < (L.length : Int)) = true := decide_eq_true (by omega)
    have w3 : IntKind.i64.wrap ((Ms.flatten.length : Int) + (n : Int)) = ((Ms.flatten.length + n : Nat) : Int) := by rw [wrap_ok (by omega) (by omega)]; omega
    unfold stableRow_l5
    simp only [c0, cond_true, w2, w2']
    rw [ht]
    simp only [Option.bind_some, w3]
    have hns : Ns = [] ∨ ∃ l, Ns = [l] := by
      match Ns, h2, h3 with
      | [], _, _ => exact .inl rfl
      | [l], _, _ => exact .inr ⟨l, rfl⟩
      | a :: b :: Ns, h2, h3 =>
        have := h2.len
        simp only [List.length_cons, Nat.mul_succ] at this
        omega
    by_cases h : Ms.flatten.length + n < L.length
    · have c1 : decide (((Ms.flatten.length + n : Nat) : Int) < (L.length : Int)) = true := decide_eq_true (by omega)
      simp only [c1, cond_true]
      rcases hns with rfl | ⟨l, rfl⟩
      · simp only [List.flatten_cons, List.flatten_nil, List.length_append, List.length_nil, List.append_nil] at hlen; omega
      · have hl := h2 l (by simp)
        simp only [List.flatten_cons, List.flatten_nil, List.append_nil] at *
        obtain ⟨M, g1, g2, g3⟩ := symMerge_ok d cmp W (k := k) k Ms.flatten l R [] (by intro e; subst e; simp only [List.length_nil] at hl; omega) (by intro e; subst e; simp only [List.flatten_cons, List.flatten_nil, List.length_append, List.length_nil, List.append_nil] at hlen; omega) hl.2 oR (by simp only [List.length_nil]; omega) (by simp only [List.length_nil]; omega) (by omega) (Ms.flatten.length : Int) ((Ms.flatten.length + n : Nat) : Int) (L.length : Int) rfl (by rw [hl.1]) (by omega)
        simp only [List.append_nil] at g1
        rw [g1]
        refine ⟨_, rfl, ⟨Ms, M, rfl, h1, g2, ?_⟩, ?_⟩
        · have := g3.1
          simp only [List.length_append] at this
          omega
        · refine h4.trans ?_
          rw [List.append_assoc]
          exact Same.append (Same.refl _) g3
    · have c1 : decide (((Ms.flatten.length + n : Nat) : Int) < (L.length : Int)) = false := decide_eq_false (by omega)
      simp only [c1, cond_false]
      refine ⟨_, rfl, ⟨Ms, Ns.flatten ++ R, by simp, h1, ?_, by simp only [List.length_append]; omega⟩, h4⟩
      rcases hns with rfl | ⟨l, rfl⟩
      · simpa using oR
      · have hl := h2 l (by simp)
        have : R = [] := List.length_eq_zero_iff.1 (by simp only [List.flatten_cons, List.flatten_nil, List.length_append, List.length_nil, List.append_nil] at hlen; omega)
        subst this
        simpa using hl.2
  · rintro s ⟨Ms, Ns, h1, h2, h4, rfl⟩
    have hlen := h4.1
    simp only [List.length_append] at hlen
    unfold stableRow_l6
    by_cases h : Ms.flatten.length + 2 * n ≤ L.length
    · left
      have c1 : decide (((Ms.flatten.length + 2 * n : Nat) : Int) ≤ (L.length : Int)) = true := decide_eq_true (by omega)
      match Ns, h2, h4, hlen with
      | [], h2, h4, hlen => simp only [List.flatten_cons, List.flatten_nil, List.length_append, List.length_nil, List.append_nil] at hlen; omega
      | [l], h2, h4, hlen =>
        have := (h2 l (by simp)).1
        simp only [List.flatten_cons, List.flatten_nil, List.length_append, List.length_nil, List.append_nil] at hlen; omega
      | a :: b :: Ns, h2, h4, hlen =>
        have ha := h2 a (by simp)
        have hb := h2 b (by simp)
        have w3 : IntKind.i64.wrap ((Ms.flatten.length : Int) + (n : Int)) = ((Ms.flatten.length + n : Nat) : Int) := by rw [wrap_ok (by omega) (by omega)]; omega
        have w4 : IntKind.i64.wrap (((Ms.flatten.length + 2 * n : Nat) : Int) + ((2 * n : Nat) : Int)) = ((Ms.flatten.length + 2 * n + 2 * n : Nat) : Int) := by rw [wrap_ok (by omega) (by omega)]; omega
        simp only [List.flatten_cons, List.length_append] at hlen
        obtain ⟨M, g1, g2, g3⟩ := symMerge_ok d cmp W (k := k) k Ms.flatten a b (Ns.flatten ++ R) (by intro e; subst e; simp only [List.length_nil] at ha; omega) (by intro e; subst e; simp only [List.length_nil] at hb; omega) ha.2 hb.2 (by simp only [List.length_append]; omega) (by simp only [List.length_append]; omega) (by omega) (Ms.flatten.length : Int) ((Ms.flatten.length + n : Nat) : Int) ((Ms.flatten.length + 2 * n : Nat) : Int) rfl (by omega) (by omega)
        have e : Ms.flatten ++ (a :: b :: Ns).flatten ++ R = Ms.flatten ++ a ++ b ++ (Ns.flatten ++ R) := by simp
        have g3' := g3.1
        simp only [List.length_append] at g3'
        simp only [c1, cond_true, w2, w3, w4]
        rw [e, g1]
        refine ⟨_, rfl, ⟨Ms ++ [M], Ns, ?_, fun l hl => h2 l (by simp [hl]), ?_, ?_⟩, ?_⟩
        · intro l hl
          rcases List.mem_append.1 hl with hl | hl
          · exact h1 l hl
          · rw [List.mem_singleton.1 hl]; exact ⟨by omega, g2⟩
        · refine h4.trans ?_
          have := Same.append (Same.refl (lt := ltOf cmp) Ms.flatten) (Same.append g3 (Same.refl (Ns.flatten ++ R)))
          simpa using this
        · simp only [List.flatten_append, List.flatten_cons, List.flatten_nil, List.append_nil, List.length_append, List.append_assoc]
          have : M.length = 2 * n := by omega
          rw [this]
        · simp only; omega
    · right
      have c1 : decide (((Ms.flatten.length + 2 * n : Nat) : Int) ≤ (L.length : Int)) = false := decide_eq_false (by omega)
      simp only [c1, cond_false]
      exact ⟨_, rfl, Ms, Ns, h1, h2, by omega, h4, rfl⟩
/-- STABLE SORTING. -/
theorem sortStable_ok (W : Weak (ltOf cmp)) {L : List α} (hL : L.length ≤ 1152921504606846000) {k : Nat} (hk : L.length + 1 < k) : sortStable d cmp k L = some (stab (ltOf cmp) L) := by
  unfold sortStable
  rw [stableRow_eq]
  obtain ⟨L1, t, h1, L2, h2, h3, h4⟩ := runs_first d cmp W hL (k := k) (by omega)
  rw [h1]
  simp only [Option.bind_some]
  rw [h2]
  simp only [Option.bind_some]
  have hl := h4.1
  have key := iter_post (k := k) (f := stableRow_l5 d cmp k (L.length : Int)) (fun s : (Int × Unit) × (List α × Unit) => ∃ n L3, 20 ≤ n ∧ Runs (ltOf cmp) n L3 ∧ Same (ltOf cmp) L L3 ∧ s = (((n : Int), ()), (L3, ())))
    (fun s => ((L.length : Int) - s.1.1).toNat) (fun t => ∃ L3, InOrder (ltOf cmp) L3 ∧ Same (ltOf cmp) L L3 ∧ t = .inr ((), (L3, ()))) ?_ (((20 : Int), ()), (L2, ())) ⟨20, L2, by omega, h3, h4, rfl⟩ (by simp; omega)
  · obtain ⟨t, ht, L3, g1, g2, rfl⟩ := key
    rw [ht]
    simp only [Option.bind_some]
    rw [Same.unique W g1 (stab_order W L) (g2.symm.trans (stab_same W L))]
  · rintro s ⟨n, L3, hn, hR, hS, rfl⟩
    have hl3 := hS.1
    by_cases h : n < L.length
    · left
      obtain ⟨L4, g1, g2, g3⟩ := runs_double d cmp W hn (by omega) (by omega) (k := k) (by omega) hR
      rw [hl3, g1]
      exact ⟨_, rfl, ⟨2 * n, L4, by omega, g2, hS.trans g3, rfl⟩, by simp only; omega⟩
    · right
      have c0 : decide ((n : Int) < (L.length : Int)) = false := decide_eq_false (by omega)
      unfold stableRow_l5
      simp only [c0, cond_false]
      refine ⟨_, rfl, L3, ?_, hS, rfl⟩
      obtain ⟨Ls, R, rfl, hall, oR, lR⟩ := hR
      have hlen := hall.len
      simp only [List.length_append, hlen] at hl3
      match Ls, hall, hl3 with
      | [], hall, hl3 => simpa using oR
      | [l], hall, hl3 =>
        have hl := hall l (by simp)
        have : R = [] := List.length_eq_zero_iff.1 (by simp only [List.length_singleton, Nat.mul_one] at hl3; omega)
        subst this
        simpa using hl.2
      | a :: b :: Ls, hall, hl3 =>
        simp only [List.length_cons, Nat.mul_succ] at hl3
        omega
end
end Go.Vm
