/- SeriesRide: Rides and Same, with the day's ride named. Own work. -/
import Derived.Test.YtjkidhjkpkcnhaaGreatDoorWDayW
set_option maxRecDepth 100000
set_option linter.unusedVariables false
namespace Go.Vm
open Go.RowKit
def f9w (g17 : (List (ByteArray × ByteArray × ByteArray × ByteArray × Int × Int × Int × Int × Int × Int × Int × Int × Int × (List WT3) × Unit)) → (Int)) (g63 : WT0 → (Bool)) (g64 : List WT6 → Option (List WT6)) (g73 : Int → (Bool)) (g107 : Int → Option (ByteArray × Unit)) (g127 : WT3 → Int → (Int)) (g129 : ByteArray → Int → Option (ByteArray × Unit)) (k : Nat) (x0 : (ByteArray × ByteArray × ByteArray × ByteArray × Int × Int × Int × Int × Int × Int × Int × Int × Int × (List WT3) × Unit)) (x1 : WT0) : Option ((List WT6) × Int × Unit) :=
  bif ((g17 ([x0])) != (0 : Int)) then
    some ([], (g17 ([x0])), ())
  else
    bif (!(g63 x1)) then
      some ([], (1 : Int), ())
    else
      Option.bind (α := ((List WT6) × Int × Unit) ⊕ (((List WT6) × Unit) × ((ByteArray × ByteArray × ByteArray × ByteArray × Int × Int × Int × Int × Int × Int × Int × Int × Int × (List WT3) × Unit) × Unit))) (iter (σ := ((List WT6) × Int × Unit) × ((ByteArray × ByteArray × ByteArray × ByteArray × Int × Int × Int × Int × Int × Int × Int × Int × Int × (List WT3) × Unit) × Unit)) (τ := ((List WT6) × Int × Unit) ⊕ (((List WT6) × Unit) × ((ByteArray × ByteArray × ByteArray × ByteArray × Int × Int × Int × Int × Int × Int × Int × Int × Int × (List WT3) × Unit) × Unit))) k (fun y1 =>
          bif (decide (y1.1.2.1 ≤ y1.2.1.2.2.2.2.2.1)) then
            Option.bind (α := ((((List WT6) × Int × Unit) × ((ByteArray × ByteArray × ByteArray × ByteArray × Int × Int × Int × Int × Int × Int × Int × Int × Int × (List WT3) × Unit) × Unit)) ⊕ (((List WT6) × Int × Unit) ⊕ (((List WT6) × Unit) × ((ByteArray × ByteArray × ByteArray × ByteArray × Int × Int × Int × Int × Int × Int × Int × Int × Int × (List WT3) × Unit) × Unit)))) ⊕ (WT7 × ((ByteArray × ByteArray × ByteArray × ByteArray × Int × Int × Int × Int × Int × Int × Int × Int × Int × (List WT3) × Unit) × Unit))) (
                dayW g73 g107 g127 g129 k y1.2.1 y1.1.2.1) fun r => match r with
            | .inl z => some z
            | .inr y8 =>
              Option.bind (α := ((((List WT6) × Int × Unit) × ((ByteArray × ByteArray × ByteArray × ByteArray × Int × Int × Int × Int × Int × Int × Int × Int × Int × (List WT3) × Unit) × Unit)) ⊕ (((List WT6) × Int × Unit) ⊕ (((List WT6) × Unit) × ((ByteArray × ByteArray × ByteArray × ByteArray × Int × Int × Int × Int × Int × Int × Int × Int × Int × (List WT3) × Unit) × Unit)))) ⊕ ((Bool × Unit) × (Unit))) (
                  bif y8.1.2.1 then
                    bif (decide (y8.1.1.2.2.2.2.1 ≥ x1.1)) then
                      some (.inr (((decide (y8.1.1.2.2.2.2.1 < x1.2.1)), ()), ()))
                    else
                      some (.inr ((false, ()), ()))
                  else
                    some (.inr ((false, ()), ()))) fun r => match r with
              | .inl z => some z
              | .inr y9 =>
                bif y9.1.1 then
                  bif decide (List.length y1.1.1 + List.length ([(y8.1.1.1, y8.1.1.2.1, y8.1.1.2.2.1, y8.1.1.2.2.2.1, y8.1.1.2.2.2.2.1, y8.1.1.2.2.2.2.2.1, y8.1.1.2.2.2.2.2.2.1, y8.1.1.2.2.2.2.2.2.2.1, ())]) ≤ 4294967296) then
                    some (.inl (((y1.1.1 ++ [(y8.1.1.1, y8.1.1.2.1, y8.1.1.2.2.1, y8.1.1.2.2.2.1, y8.1.1.2.2.2.2.1, y8.1.1.2.2.2.2.2.1, y8.1.1.2.2.2.2.2.2.1, y8.1.1.2.2.2.2.2.2.2.1, ())]), (IntKind.i64.wrap (y1.1.2.1 + (1 : Int))), ()), ((y8.2.1.1, y8.2.1.2.1, y8.2.1.2.2.1, y8.2.1.2.2.2.1, y8.2.1.2.2.2.2.1, y8.2.1.2.2.2.2.2.1, y8.2.1.2.2.2.2.2.2.1, y8.2.1.2.2.2.2.2.2.2.1, y8.2.1.2.2.2.2.2.2.2.2.1, y8.2.1.2.2.2.2.2.2.2.2.2.1, y8.2.1.2.2.2.2.2.2.2.2.2.2.1, y8.2.1.2.2.2.2.2.2.2.2.2.2.2.1, y8.2.1.2.2.2.2.2.2.2.2.2.2.2.2.1, y8.2.1.2.2.2.2.2.2.2.2.2.2.2.2.2.1, ()), ())))
                  else
                    none
                else
                  some (.inl ((y1.1.1, (IntKind.i64.wrap (y1.1.2.1 + (1 : Int))), ()), ((y8.2.1.1, y8.2.1.2.1, y8.2.1.2.2.1, y8.2.1.2.2.2.1, y8.2.1.2.2.2.2.1, y8.2.1.2.2.2.2.2.1, y8.2.1.2.2.2.2.2.2.1, y8.2.1.2.2.2.2.2.2.2.1, y8.2.1.2.2.2.2.2.2.2.2.1, y8.2.1.2.2.2.2.2.2.2.2.2.1, y8.2.1.2.2.2.2.2.2.2.2.2.2.1, y8.2.1.2.2.2.2.2.2.2.2.2.2.2.1, y8.2.1.2.2.2.2.2.2.2.2.2.2.2.2.1, y8.2.1.2.2.2.2.2.2.2.2.2.2.2.2.2.1, ()), ())))
          else
            some (.inr (.inr ((y1.1.1, ()), ((y1.2.1.1, y1.2.1.2.1, y1.2.1.2.2.1, y1.2.1.2.2.2.1, y1.2.1.2.2.2.2.1, y1.2.1.2.2.2.2.2.1, y1.2.1.2.2.2.2.2.2.1, y1.2.1.2.2.2.2.2.2.2.1, y1.2.1.2.2.2.2.2.2.2.2.1, y1.2.1.2.2.2.2.2.2.2.2.2.1, y1.2.1.2.2.2.2.2.2.2.2.2.2.1, y1.2.1.2.2.2.2.2.2.2.2.2.2.2.1, y1.2.1.2.2.2.2.2.2.2.2.2.2.2.2.1, y1.2.1.2.2.2.2.2.2.2.2.2.2.2.2.2.1, ()), ()))))) (([], x0.2.2.2.2.1, ()), (x0, ()))) fun r => match r with
      | .inl z => some z
      | .inr z10 =>
        Option.bind (g64 z10.1.1) fun v11 =>
        some (v11, (0 : Int), ())
def f10w (g17 : (List (ByteArray × ByteArray × ByteArray × ByteArray × Int × Int × Int × Int × Int × Int × Int × Int × Int × (List WT3) × Unit)) → (Int)) (g69 : (List Int) → (Int)) (g70 : WT6 → WT6 → (Bool)) (g73 : Int → (Bool)) (g107 : Int → Option (ByteArray × Unit)) (g127 : WT3 → Int → (Int)) (g129 : ByteArray → Int → Option (ByteArray × Unit)) (k : Nat) (x0 : (ByteArray × ByteArray × ByteArray × ByteArray × Int × Int × Int × Int × Int × Int × Int × Int × Int × (List WT3) × Unit)) (x1 : (ByteArray × ByteArray × ByteArray × ByteArray × Int × Int × Int × Int × Int × Int × Int × Int × Int × (List WT3) × Unit)) : Option ((List Int) × Int × Unit) :=
  bif ((g69 ([(g17 ([x0])), (g17 ([x1]))])) != (0 : Int)) then
    some ([], (g69 ([(g17 ([x0])), (g17 ([x1]))])), ())
  else
    bif (!(sEq x0.2.1 x1.2.1)) then
      some ([], (0 : Int), ())
    else
      bif (!(sEq x0.2.2.1 x1.2.2.1)) then
        some ([], (0 : Int), ())
      else
        bif (!(sEq x0.2.2.2.1 x1.2.2.2.1)) then
          some ([], (0 : Int), ())
        else
          Option.bind (α := ((List Int) × Int × Unit) ⊕ (((List Int) × Unit) × ((ByteArray × ByteArray × ByteArray × ByteArray × Int × Int × Int × Int × Int × Int × Int × Int × Int × (List WT3) × Unit) × (ByteArray × ByteArray × ByteArray × ByteArray × Int × Int × Int × Int × Int × Int × Int × Int × Int × (List WT3) × Unit) × Unit))) (iter (σ := ((List Int) × Int × Unit) × ((ByteArray × ByteArray × ByteArray × ByteArray × Int × Int × Int × Int × Int × Int × Int × Int × Int × (List WT3) × Unit) × (ByteArray × ByteArray × ByteArray × ByteArray × Int × Int × Int × Int × Int × Int × Int × Int × Int × (List WT3) × Unit) × Unit)) (τ := ((List Int) × Int × Unit) ⊕ (((List Int) × Unit) × ((ByteArray × ByteArray × ByteArray × ByteArray × Int × Int × Int × Int × Int × Int × Int × Int × Int × (List WT3) × Unit) × (ByteArray × ByteArray × ByteArray × ByteArray × Int × Int × Int × Int × Int × Int × Int × Int × Int × (List WT3) × Unit) × Unit))) k (fun y1 =>
              bif (decide (y1.1.2.1 ≤ (if (decide (y1.2.2.1.2.2.2.2.2.1 < y1.2.1.2.2.2.2.2.1)) then y1.2.2.1.2.2.2.2.2.1 else y1.2.1.2.2.2.2.2.1))) then
                Option.bind (α := ((((List Int) × Int × Unit) × ((ByteArray × ByteArray × ByteArray × ByteArray × Int × Int × Int × Int × Int × Int × Int × Int × Int × (List WT3) × Unit) × (ByteArray × ByteArray × ByteArray × ByteArray × Int × Int × Int × Int × Int × Int × Int × Int × Int × (List WT3) × Unit) × Unit)) ⊕ (((List Int) × Int × Unit) ⊕ (((List Int) × Unit) × ((ByteArray × ByteArray × ByteArray × ByteArray × Int × Int × Int × Int × Int × Int × Int × Int × Int × (List WT3) × Unit) × (ByteArray × ByteArray × ByteArray × ByteArray × Int × Int × Int × Int × Int × Int × Int × Int × Int × (List WT3) × Unit) × Unit)))) ⊕ (WT7 × ((ByteArray × ByteArray × ByteArray × ByteArray × Int × Int × Int × Int × Int × Int × Int × Int × Int × (List WT3) × Unit) × Unit))) (
                    dayW g73 g107 g127 g129 k y1.2.1 y1.1.2.1) fun r => match r with
                | .inl z => some z
                | .inr y8 =>
                  Option.bind (α := ((((List Int) × Int × Unit) × ((ByteArray × ByteArray × ByteArray × ByteArray × Int × Int × Int × Int × Int × Int × Int × Int × Int × (List WT3) × Unit) × (ByteArray × ByteArray × ByteArray × ByteArray × Int × Int × Int × Int × Int × Int × Int × Int × Int × (List WT3) × Unit) × Unit)) ⊕ (((List Int) × Int × Unit) ⊕ (((List Int) × Unit) × ((ByteArray × ByteArray × ByteArray × ByteArray × Int × Int × Int × Int × Int × Int × Int × Int × Int × (List WT3) × Unit) × (ByteArray × ByteArray × ByteArray × ByteArray × Int × Int × Int × Int × Int × Int × Int × Int × Int × (List WT3) × Unit) × Unit)))) ⊕ (WT7 × ((ByteArray × ByteArray × ByteArray × ByteArray × Int × Int × Int × Int × Int × Int × Int × Int × Int × (List WT3) × Unit) × Unit))) (
                      dayW g73 g107 g127 g129 k y1.2.2.1 y1.1.2.1) fun r => match r with
                  | .inl z => some z
                  | .inr y15 =>
                    Option.bind (α := ((((List Int) × Int × Unit) × ((ByteArray × ByteArray × ByteArray × ByteArray × Int × Int × Int × Int × Int × Int × Int × Int × Int × (List WT3) × Unit) × (ByteArray × ByteArray × ByteArray × ByteArray × Int × Int × Int × Int × Int × Int × Int × Int × Int × (List WT3) × Unit) × Unit)) ⊕ (((List Int) × Int × Unit) ⊕ (((List Int) × Unit) × ((ByteArray × ByteArray × ByteArray × ByteArray × Int × Int × Int × Int × Int × Int × Int × Int × Int × (List WT3) × Unit) × (ByteArray × ByteArray × ByteArray × ByteArray × Int × Int × Int × Int × Int × Int × Int × Int × Int × (List WT3) × Unit) × Unit)))) ⊕ ((Bool × Unit) × (Unit))) (
                        bif y8.1.2.1 then
                          bif y15.1.2.1 then
                            some (.inr (((g70 (y8.1.1.1, y8.1.1.2.1, y8.1.1.2.2.1, y8.1.1.2.2.2.1, y8.1.1.2.2.2.2.1, y8.1.1.2.2.2.2.2.1, y8.1.1.2.2.2.2.2.2.1, y8.1.1.2.2.2.2.2.2.2.1, ()) (y15.1.1.1, y15.1.1.2.1, y15.1.1.2.2.1, y15.1.1.2.2.2.1, y15.1.1.2.2.2.2.1, y15.1.1.2.2.2.2.2.1, y15.1.1.2.2.2.2.2.2.1, y15.1.1.2.2.2.2.2.2.2.1, ())), ()), ()))
                          else
                            some (.inr ((false, ()), ()))
                        else
                          some (.inr ((false, ()), ()))) fun r => match r with
                    | .inl z => some z
                    | .inr y16 =>
                      bif y16.1.1 then
                        bif decide (List.length y1.1.1 + List.length ([y1.1.2.1]) ≤ 4294967296) then
                          some (.inl (((y1.1.1 ++ [y1.1.2.1]), (IntKind.i64.wrap (y1.1.2.1 + (1 : Int))), ()), ((y8.2.1.1, y8.2.1.2.1, y8.2.1.2.2.1, y8.2.1.2.2.2.1, y8.2.1.2.2.2.2.1, y8.2.1.2.2.2.2.2.1, y8.2.1.2.2.2.2.2.2.1, y8.2.1.2.2.2.2.2.2.2.1, y8.2.1.2.2.2.2.2.2.2.2.1, y8.2.1.2.2.2.2.2.2.2.2.2.1, y8.2.1.2.2.2.2.2.2.2.2.2.2.1, y8.2.1.2.2.2.2.2.2.2.2.2.2.2.1, y8.2.1.2.2.2.2.2.2.2.2.2.2.2.2.1, y8.2.1.2.2.2.2.2.2.2.2.2.2.2.2.2.1, ()), (y15.2.1.1, y15.2.1.2.1, y15.2.1.2.2.1, y15.2.1.2.2.2.1, y15.2.1.2.2.2.2.1, y15.2.1.2.2.2.2.2.1, y15.2.1.2.2.2.2.2.2.1, y15.2.1.2.2.2.2.2.2.2.1, y15.2.1.2.2.2.2.2.2.2.2.1, y15.2.1.2.2.2.2.2.2.2.2.2.1, y15.2.1.2.2.2.2.2.2.2.2.2.2.1, y15.2.1.2.2.2.2.2.2.2.2.2.2.2.1, y15.2.1.2.2.2.2.2.2.2.2.2.2.2.2.1, y15.2.1.2.2.2.2.2.2.2.2.2.2.2.2.2.1, ()), ())))
                        else
                          none
                      else
                        some (.inl ((y1.1.1, (IntKind.i64.wrap (y1.1.2.1 + (1 : Int))), ()), ((y8.2.1.1, y8.2.1.2.1, y8.2.1.2.2.1, y8.2.1.2.2.2.1, y8.2.1.2.2.2.2.1, y8.2.1.2.2.2.2.2.1, y8.2.1.2.2.2.2.2.2.1, y8.2.1.2.2.2.2.2.2.2.1, y8.2.1.2.2.2.2.2.2.2.2.1, y8.2.1.2.2.2.2.2.2.2.2.2.1, y8.2.1.2.2.2.2.2.2.2.2.2.2.1, y8.2.1.2.2.2.2.2.2.2.2.2.2.2.1, y8.2.1.2.2.2.2.2.2.2.2.2.2.2.2.1, y8.2.1.2.2.2.2.2.2.2.2.2.2.2.2.2.1, ()), (y15.2.1.1, y15.2.1.2.1, y15.2.1.2.2.1, y15.2.1.2.2.2.1, y15.2.1.2.2.2.2.1, y15.2.1.2.2.2.2.2.1, y15.2.1.2.2.2.2.2.2.1, y15.2.1.2.2.2.2.2.2.2.1, y15.2.1.2.2.2.2.2.2.2.2.1, y15.2.1.2.2.2.2.2.2.2.2.2.1, y15.2.1.2.2.2.2.2.2.2.2.2.2.1, y15.2.1.2.2.2.2.2.2.2.2.2.2.2.1, y15.2.1.2.2.2.2.2.2.2.2.2.2.2.2.1, y15.2.1.2.2.2.2.2.2.2.2.2.2.2.2.2.1, ()), ())))
              else
                some (.inr (.inr ((y1.1.1, ()), ((y1.2.1.1, y1.2.1.2.1, y1.2.1.2.2.1, y1.2.1.2.2.2.1, y1.2.1.2.2.2.2.1, y1.2.1.2.2.2.2.2.1, y1.2.1.2.2.2.2.2.2.1, y1.2.1.2.2.2.2.2.2.2.1, y1.2.1.2.2.2.2.2.2.2.2.1, y1.2.1.2.2.2.2.2.2.2.2.2.1, y1.2.1.2.2.2.2.2.2.2.2.2.2.1, y1.2.1.2.2.2.2.2.2.2.2.2.2.2.1, y1.2.1.2.2.2.2.2.2.2.2.2.2.2.2.1, y1.2.1.2.2.2.2.2.2.2.2.2.2.2.2.2.1, ()), (y1.2.2.1.1, y1.2.2.1.2.1, y1.2.2.1.2.2.1, y1.2.2.1.2.2.2.1, y1.2.2.1.2.2.2.2.1, y1.2.2.1.2.2.2.2.2.1, y1.2.2.1.2.2.2.2.2.2.1, y1.2.2.1.2.2.2.2.2.2.2.1, y1.2.2.1.2.2.2.2.2.2.2.2.1, y1.2.2.1.2.2.2.2.2.2.2.2.2.1, y1.2.2.1.2.2.2.2.2.2.2.2.2.2.1, y1.2.2.1.2.2.2.2.2.2.2.2.2.2.2.1, y1.2.2.1.2.2.2.2.2.2.2.2.2.2.2.2.1, y1.2.2.1.2.2.2.2.2.2.2.2.2.2.2.2.2.1, ()), ()))))) (([], (if (decide (x1.2.2.2.2.1 > x0.2.2.2.2.1)) then x1.2.2.2.2.1 else x0.2.2.2.2.1), ()), (x0, x1, ()))) fun r => match r with
          | .inl z => some z
          | .inr z17 =>
            some (z17.1.1, (0 : Int), ())
theorem f9w_eq : @f9 = @f9w := by kernel_rfl
theorem f10w_eq : @f10 = @f10w := by kernel_rfl
end Go.Vm
