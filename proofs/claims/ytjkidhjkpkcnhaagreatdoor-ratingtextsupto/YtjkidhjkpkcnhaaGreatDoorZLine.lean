/- A text's law: Read, with the reading of a line named. Own work. -/
import Derived.Test.YtjkidhjkpkcnhaaGreatDoorZSpecC
set_option maxRecDepth 100000
set_option linter.unusedVariables false
namespace Go.Vm
open Go.RowKit
def lineW (g112 : ByteArray → Int → Option ((List ByteArray) × Bool × Unit)) (g113 : (List ByteArray) → Int → Option ((List Int) × Bool × Unit)) (line : ByteArray) (i : Int) (out : List ZT10) : Option (((Int × Unit) × ((List ZT10) × Unit)) ⊕ ((((List ZT10) × Int × Int × Unit) ⊕ (ZT1 × ((List ZT10) × Unit))) ⊕ ((Unit) × ((List ZT10) × Unit)))) :=
  Option.bind (g112 line (5 : Int)) fun v3 =>
  bif (!v3.2.1) then
    some (.inr (.inl (.inr ((i, false, ()), (out, ())))))
  else
    bif (decide (0 ≤ (3 : Int)) && (decide ((3 : Int) ≤ ((List.length v3.1 : Nat) : Int)) && decide (((List.length v3.1 : Nat) : Int) ≤ ((List.length v3.1 : Nat) : Int)))) then
      Option.bind (g113 (List.drop (Int.toNat (3 : Int)) (List.take (Int.toNat ((List.length v3.1 : Nat) : Int)) v3.1)) (15 : Int)) fun v4 =>
      bif v4.2.1 then
        bif (inR (0 : Int) ((List.length v3.1 : Nat) : Int)) then
          bif (inR (1 : Int) ((List.length v3.1 : Nat) : Int)) then
            bif (inR (2 : Int) ((List.length v3.1 : Nat) : Int)) then
              bif (inR (0 : Int) ((List.length v4.1 : Nat) : Int)) then
                bif (inR (1 : Int) ((List.length v4.1 : Nat) : Int)) then
                  bif decide (List.length out + List.length ([((rd (α := ByteArray) ByteArray.empty v3.1 (0 : Int)), (rd (α := ByteArray) ByteArray.empty v3.1 (1 : Int)), (rd (α := ByteArray) ByteArray.empty v3.1 (2 : Int)), (rd (α := Int) (0 : Int) v4.1 (0 : Int)), (rd (α := Int) (0 : Int) v4.1 (1 : Int)), ())]) ≤ 4294967296) then
                    bif (!v4.2.1) then
                      some (.inr (.inl (.inr ((i, false, ()), ((out ++ [((rd (α := ByteArray) ByteArray.empty v3.1 (0 : Int)), (rd (α := ByteArray) ByteArray.empty v3.1 (1 : Int)), (rd (α := ByteArray) ByteArray.empty v3.1 (2 : Int)), (rd (α := Int) (0 : Int) v4.1 (0 : Int)), (rd (α := Int) (0 : Int) v4.1 (1 : Int)), ())]), ())))))
                    else
                      some (.inl (((IntKind.i64.wrap (i + (1 : Int))), ()), ((out ++ [((rd (α := ByteArray) ByteArray.empty v3.1 (0 : Int)), (rd (α := ByteArray) ByteArray.empty v3.1 (1 : Int)), (rd (α := ByteArray) ByteArray.empty v3.1 (2 : Int)), (rd (α := Int) (0 : Int) v4.1 (0 : Int)), (rd (α := Int) (0 : Int) v4.1 (1 : Int)), ())]), ())))
                  else
                    none
                else
                  none
              else
                none
            else
              none
          else
            none
        else
          none
      else
        bif (!v4.2.1) then
          some (.inr (.inl (.inr ((i, false, ()), (out, ())))))
        else
          some (.inl (((IntKind.i64.wrap (i + (1 : Int))), ()), (out, ())))
    else
      none
def f57w (g112 : ByteArray → Int → Option ((List ByteArray) × Bool × Unit)) (g113 : (List ByteArray) → Int → Option ((List Int) × Bool × Unit)) (g121 : (List ZT10) → (Int)) (g156 : ByteArray → Option ((List ByteArray) × Bool × Unit)) (k : Nat) (x0 : ByteArray) : Option ((List ZT10) × Int × Int × Unit) :=
  bif (decide (((ByteArray.size x0 : Nat) : Int) > (200000 : Int))) then
    some ([], (0 : Int), (2 : Int), ())
  else
    Option.bind (α := ((List ZT10) × Int × Int × Unit) ⊕ (ZT1 × ((List ZT10) × Unit))) (
        Option.bind (g156 x0) fun v1 =>
        Option.bind (α := (((List ZT10) × Int × Int × Unit) ⊕ (ZT1 × ((List ZT10) × Unit))) ⊕ ((Unit) × ((List ZT10) × Unit))) (iter (σ := (Int × Unit) × ((List ZT10) × Unit)) (τ := (((List ZT10) × Int × Int × Unit) ⊕ (ZT1 × ((List ZT10) × Unit))) ⊕ ((Unit) × ((List ZT10) × Unit))) k (fun y2 =>
            bif (decide (y2.1.1 < ((List.length v1.1 : Nat) : Int))) then
              bif (inR y2.1.1 ((List.length v1.1 : Nat) : Int)) then
                bif (!v1.2.1) then
                  bif (y2.1.1 == (IntKind.i64.wrap (((List.length v1.1 : Nat) : Int) - (1 : Int)))) then
                    some (.inr (.inl (.inr ((y2.1.1, false, ()), (y2.2.1, ())))))
                  else
                    lineW g112 g113 (rd (α := ByteArray) ByteArray.empty v1.1 y2.1.1) y2.1.1 y2.2.1
                else
                  lineW g112 g113 (rd (α := ByteArray) ByteArray.empty v1.1 y2.1.1) y2.1.1 y2.2.1
              else
                none
            else
              some (.inr (.inr ((), (y2.2.1, ()))))) (((0 : Int), ()), ([], ()))) fun r => match r with
        | .inl z => some z
        | .inr z7 =>
          some (.inr (((0 : Int), true, ()), (z7.2.1, ())))) fun r => match r with
    | .inl z => some z
    | .inr y8 =>
      bif (!y8.1.2.1) then
        some ([], y8.1.1, (9 : Int), ())
      else
        bif ((g121 y8.2.1) != (0 : Int)) then
          some ([], (0 : Int), (g121 y8.2.1), ())
        else
          some (y8.2.1, (0 : Int), (0 : Int), ())
theorem f57w_eq : @f57 = @f57w := by kernel_rfl
end Go.Vm
