/- The program's functions, as an own tool reads them off its form. -/
import Derived.Test.YtfiembgemhonlaaSFn
import Derived.Test.YtfiembgemhonlaaVmQ
import Derived.Test.YtfiembgemhonlaaVmD
import Derived.Test.YtfiembgemhonlaaProg
set_option maxRecDepth 100000
set_option linter.unusedVariables false
namespace Go.Vm
open Go.Proofs
abbrev DT0 : Type := (Int × Int × Unit)
abbrev DT1 : Type := (ByteArray × Int × Int × Unit)
abbrev DT2 : Type := (ByteArray × ByteArray × ByteArray × ByteArray × Int × Int × Int × Int × Unit)
abbrev DT3 : Type := (ByteArray × Int × Int × Int × ByteArray × ByteArray × DT1 × DT2 × Unit)
abbrev DT4 : Type := (DT3 × Unit)
abbrev zDT0 : DT0 := ((0 : Int), (0 : Int), ())
abbrev zDT1 : DT1 := (ByteArray.empty, (0 : Int), (0 : Int), ())
abbrev zDT2 : DT2 := (ByteArray.empty, ByteArray.empty, ByteArray.empty, ByteArray.empty, (0 : Int), (0 : Int), (0 : Int), (0 : Int), ())
abbrev zDT3 : DT3 := (ByteArray.empty, (0 : Int), (0 : Int), (0 : Int), ByteArray.empty, ByteArray.empty, zDT1, zDT2, ())
abbrev DY0 : Ty := (.struct (.cons .str (.cons (.int .i64) .nil)))
abbrev DY1 : Ty := (.struct (.cons .str (.cons (.int .i64) (.cons (.int .i64) .nil))))
abbrev DY2 : Ty := (.struct (.cons .str (.cons .str (.cons .str (.cons .str (.cons (.int .i64) (.cons (.int .i64) (.cons (.int .i64) (.cons (.int .i64) .nil)))))))))
abbrev DY3 : Ty := (.struct (.cons .str (.cons (.int .i64) (.cons (.int .i64) (.cons (.int .i64) (.cons .str (.cons .str (.cons DY1 (.cons DY2 .nil)))))))))
/-! ### jitney/jitref2.RideFault -/
def f226 (g31 : ByteArray → (Bool)) (g115 : Int → Int → Int → (Bool)) (g125 : Int → (Bool)) (k : Nat) (x0 : DT2) : Option (Int × Unit) :=
  bif (!(g31 x0.1)) then
    some ((5 : Int), ())
  else
    bif (!(g31 x0.2.1)) then
      some ((5 : Int), ())
    else
      bif (!(g31 x0.2.2.1)) then
        some ((5 : Int), ())
      else
        bif (!(g31 x0.2.2.2.1)) then
          some ((5 : Int), ())
        else
          bif (sEq x0.2.2.1 x0.2.2.2.1) then
            some ((6 : Int), ())
          else
            bif (!(g125 x0.2.2.2.2.1)) then
              some ((1 : Int), ())
            else
              bif (!(g115 x0.2.2.2.2.2.1 (IntKind.i64.wrap (x0.2.2.2.2.1 + (1 : Int))) (345686400000 : Int))) then
                some ((1 : Int), ())
              else
                bif (!(g115 x0.2.2.2.2.2.2.1 (0 : Int) (60 : Int))) then
                  some ((1 : Int), ())
                else
                  bif (!(g115 x0.2.2.2.2.2.2.2.1 (0 : Int) (60 : Int))) then
                    some ((1 : Int), ())
                  else
                    bif ((IntKind.i64.wrap (x0.2.2.2.2.2.2.1 + x0.2.2.2.2.2.2.2.1)) == (0 : Int)) then
                      some ((3 : Int), ())
                    else
                      some ((0 : Int), ())
def H226 : Hints where
  loop := fun n => match n with
    | _ => none
  region := fun n => match n with
    | _ => none
  cond := fun n => match n with
    | _ => none
  block := fun n => match n with
    | _ => none
abbrev A226 : Tys := (.cons DY2 .nil)
def ts226 : List (Nat × TD) := [(3, (.data (.int .i64))), (9, (.data .str)), (28, (.data (.int .i64))), (98, (.data DY2))]
noncomputable def fs226 (g31 : ByteArray → (Bool)) (g115 : Int → Int → Int → (Bool)) (g125 : Int → (Bool)) : List (Nat × FSem) := [(31, .fn (.cons .str .nil) (.cons .bool .nil) fun x => ((g31 x.1), ())), (115, .fn (.cons (.int .i64) (.cons (.int .i64) (.cons (.int .i64) .nil))) (.cons .bool .nil) fun x => ((g115 x.1 x.2.1 x.2.2.1), ())), (125, .fn (.cons (.int .i64) .nil) (.cons .bool .nil) fun x => ((g125 x.1), ()))]
noncomputable def body226 : Code := match Try.f226.body with | some c => c | none => .skip
theorem ty226 : chkTypes Try.prog ts226 = true := by kernel_rfl
theorem ev226 (g31 : ByteArray → (Bool)) (g115 : Int → Int → Int → (Bool)) (g125 : Int → (Bool)) (k : Nat) (x : ((.cons DY2 .nil) : Tys).den) : evFun (mkEnv ts226 (fs226 g31 g115 g125)) H226 k body226 65 [.tmp 2] (explodes (.cons DY2 .nil) x) [] (dec (.cons (.int .i64) .nil)) = f226 g31 g115 g125 k x.1 := by kernel_rfl
/-! ### jitney/jitref2.DeedFault -/
def f153 (g31 : ByteArray → (Bool)) (g115 : Int → Int → Int → (Bool)) (g125 : Int → (Bool)) (g226 : DT2 → (Int)) (k : Nat) (x0 : DT3) : Option (Int × Unit) :=
  bif (!(g31 x0.1)) then
    some ((5 : Int), ())
  else
    bif (!(g115 x0.2.1 (1 : Int) (1000000 : Int))) then
      some ((1 : Int), ())
    else
      bif (!(g125 x0.2.2.1)) then
        some ((1 : Int), ())
      else
        bif (!(g115 x0.2.2.2.1 (1 : Int) (4 : Int))) then
          some ((4 : Int), ())
        else
          Option.bind (α := (Int × Unit) ⊕ ((Unit) × DT4)) (
              bif (x0.2.2.2.1 == (1 : Int)) then
                bif (!(g31 x0.2.2.2.2.2.2.1.1)) then
                  some (.inl ((5 : Int), ()))
                else
                  bif (!(g31 x0.2.2.2.2.2.1)) then
                    some (.inl ((5 : Int), ()))
                  else
                    bif (!(g115 x0.2.2.2.2.2.2.1.2.1 (0 : Int) (60 : Int))) then
                      some (.inl ((1 : Int), ()))
                    else
                      bif (!(g115 x0.2.2.2.2.2.2.1.2.2.1 (0 : Int) (60 : Int))) then
                        some (.inl ((1 : Int), ()))
                      else
                        some (.inr ((), (((ByteArray.mk #[]), (0 : Int), (0 : Int), (0 : Int), x0.2.2.2.2.1, (ByteArray.mk #[]), zDT1, x0.2.2.2.2.2.2.2.1, ()), ())))
              else
                bif (x0.2.2.2.1 == (3 : Int)) then
                  bif ((g226 x0.2.2.2.2.2.2.2.1) != (0 : Int)) then
                    some (.inl ((g226 x0.2.2.2.2.2.2.2.1), ()))
                  else
                    some (.inr ((), (((ByteArray.mk #[]), (0 : Int), (0 : Int), (0 : Int), x0.2.2.2.2.1, x0.2.2.2.2.2.1, x0.2.2.2.2.2.2.1, zDT2, ()), ())))
                else
                  bif (!(g31 x0.2.2.2.2.1)) then
                    some (.inl ((5 : Int), ()))
                  else
                    some (.inr ((), (((ByteArray.mk #[]), (0 : Int), (0 : Int), (0 : Int), (ByteArray.mk #[]), x0.2.2.2.2.2.1, x0.2.2.2.2.2.2.1, x0.2.2.2.2.2.2.2.1, ()), ())))) fun r => match r with
          | .inl z => some z
          | .inr y1 =>
            bif (!((sEq y1.2.1.1 ByteArray.empty) && ((y1.2.1.2.1 == (0 : Int)) && ((y1.2.1.2.2.1 == (0 : Int)) && ((y1.2.1.2.2.2.1 == (0 : Int)) && ((sEq y1.2.1.2.2.2.2.1 ByteArray.empty) && ((sEq y1.2.1.2.2.2.2.2.1 ByteArray.empty) && (((sEq y1.2.1.2.2.2.2.2.2.1.1 ByteArray.empty) && ((y1.2.1.2.2.2.2.2.2.1.2.1 == (0 : Int)) && ((y1.2.1.2.2.2.2.2.2.1.2.2.1 == (0 : Int)) && true))) && (((sEq y1.2.1.2.2.2.2.2.2.2.1.1 ByteArray.empty) && ((sEq y1.2.1.2.2.2.2.2.2.2.1.2.1 ByteArray.empty) && ((sEq y1.2.1.2.2.2.2.2.2.2.1.2.2.1 ByteArray.empty) && ((sEq y1.2.1.2.2.2.2.2.2.2.1.2.2.2.1 ByteArray.empty) && ((y1.2.1.2.2.2.2.2.2.2.1.2.2.2.2.1 == (0 : Int)) && ((y1.2.1.2.2.2.2.2.2.2.1.2.2.2.2.2.1 == (0 : Int)) && ((y1.2.1.2.2.2.2.2.2.2.1.2.2.2.2.2.2.1 == (0 : Int)) && ((y1.2.1.2.2.2.2.2.2.2.1.2.2.2.2.2.2.2.1 == (0 : Int)) && true)))))))) && true))))))))) then
              some ((3 : Int), ())
            else
              some ((0 : Int), ())
def H153 : Hints where
  loop := fun n => match n with
    | _ => none
  region := fun n => match n with
    | _ => none
  cond := fun n => match n with
    | _ => none
  block := fun n => match n with
    | 1 => some { slots := [], objs := [(1, (.box (.data DY3) (.agg (.cons .str (.cons (.int .i64) (.cons (.int .i64) (.cons (.int .i64) (.cons .str (.cons .str (.cons (.agg (.cons .str (.cons (.int .i64) (.cons (.int .i64) .nil)))) (.cons (.agg (.cons .str (.cons .str (.cons .str (.cons .str (.cons (.int .i64) (.cons (.int .i64) (.cons (.int .i64) (.cons (.int .i64) .nil))))))))) .nil)))))))))))], gone := [] }
    | _ => none
abbrev A153 : Tys := (.cons DY3 .nil)
def ts153 : List (Nat × TD) := [(3, (.data (.int .i64))), (9, (.data .str)), (28, (.data (.int .i64))), (96, (.data DY1)), (98, (.data DY2)), (100, (.data DY3))]
noncomputable def fs153 (g31 : ByteArray → (Bool)) (g115 : Int → Int → Int → (Bool)) (g125 : Int → (Bool)) (g226 : DT2 → (Int)) : List (Nat × FSem) := [(31, .fn (.cons .str .nil) (.cons .bool .nil) fun x => ((g31 x.1), ())), (115, .fn (.cons (.int .i64) (.cons (.int .i64) (.cons (.int .i64) .nil))) (.cons .bool .nil) fun x => ((g115 x.1 x.2.1 x.2.2.1), ())), (125, .fn (.cons (.int .i64) .nil) (.cons .bool .nil) fun x => ((g125 x.1), ())), (226, .fn (.cons DY2 .nil) (.cons (.int .i64) .nil) fun x => ((g226 x.1), ()))]
noncomputable def body153 : Code := match Try.f153.body with | some c => c | none => .skip
theorem ty153 : chkTypes Try.prog ts153 = true := by kernel_rfl
theorem ev153 (g31 : ByteArray → (Bool)) (g115 : Int → Int → Int → (Bool)) (g125 : Int → (Bool)) (g226 : DT2 → (Int)) (k : Nat) (x : ((.cons DY3 .nil) : Tys).den) : evFun (mkEnv ts153 (fs153 g31 g115 g125 g226)) H153 k body153 79 [.tmp 2] (explodes (.cons DY3 .nil) x) [] (dec (.cons (.int .i64) .nil)) = f153 g31 g115 g125 g226 k x.1 := by kernel_rfl
/-! ### strings.Compare -/
def f129 (g211 : ByteArray → ByteArray → (Int)) (k : Nat) (x0 : ByteArray) (x1 : ByteArray) : Option (Int × Unit) :=
  some ((g211 x0 x1), ())
def H129 : Hints where
  loop := fun n => match n with
    | _ => none
  region := fun n => match n with
    | _ => none
  cond := fun n => match n with
    | _ => none
  block := fun n => match n with
    | _ => none
abbrev A129 : Tys := (.cons .str (.cons .str .nil))
def ts129 : List (Nat × TD) := [(3, (.data (.int .i64))), (9, (.data .str))]
noncomputable def fs129 (g211 : ByteArray → ByteArray → (Int)) : List (Nat × FSem) := [(211, .fn (.cons .str (.cons .str .nil)) (.cons (.int .i64) .nil) fun x => ((g211 x.1 x.2.1), ()))]
noncomputable def body129 : Code := match Try.f129.body with | some c => c | none => .skip
theorem ty129 : chkTypes Try.prog ts129 = true := by kernel_rfl
theorem ev129 (g211 : ByteArray → ByteArray → (Int)) (k : Nat) (x : ((.cons .str (.cons .str .nil)) : Tys).den) : evFun (mkEnv ts129 (fs129 g211)) H129 k body129 8 [.tmp 4] (explodes (.cons .str (.cons .str .nil)) x) [] (dec (.cons (.int .i64) .nil)) = f129 g211 k x.1 x.2.1 := by kernel_rfl
/-! ### jitney/jitref2.sign -/
def f227  (k : Nat) (x0 : Int) : Option (Int × Unit) :=
  bif (decide (x0 < (0 : Int))) then
    some ((-1 : Int), ())
  else
    bif (decide (x0 > (0 : Int))) then
      some ((1 : Int), ())
    else
      some ((0 : Int), ())
def H227 : Hints where
  loop := fun n => match n with
    | _ => none
  region := fun n => match n with
    | _ => none
  cond := fun n => match n with
    | _ => none
  block := fun n => match n with
    | _ => none
abbrev A227 : Tys := (.cons (.int .i64) .nil)
def ts227 : List (Nat × TD) := [(3, (.data (.int .i64)))]
noncomputable def fs227  : List (Nat × FSem) := []
noncomputable def body227 : Code := match Try.f227.body with | some c => c | none => .skip
theorem ty227 : chkTypes Try.prog ts227 = true := by kernel_rfl
theorem ev227  (k : Nat) (x : ((.cons (.int .i64) .nil) : Tys).den) : evFun (mkEnv ts227 (fs227 )) H227 k body227 9 [.tmp 2] (explodes (.cons (.int .i64) .nil) x) [] (dec (.cons (.int .i64) .nil)) = f227  k x.1 := by kernel_rfl
/-! ### jitney/jitref2.DeedOrder -/
def f154 (g129 : ByteArray → ByteArray → (Int)) (g227 : Int → (Int)) (k : Nat) (x0 : DT3) (x1 : DT3) : Option (Int × Unit) :=
  bif (x0.2.2.1 != x1.2.2.1) then
    some ((g227 (IntKind.i64.wrap (x0.2.2.1 - x1.2.2.1))), ())
  else
    bif (!(sEq x0.1 x1.1)) then
      some ((g129 x0.1 x1.1), ())
    else
      some ((g227 (IntKind.i64.wrap (x0.2.1 - x1.2.1))), ())
def H154 : Hints where
  loop := fun n => match n with
    | _ => none
  region := fun n => match n with
    | _ => none
  cond := fun n => match n with
    | _ => none
  block := fun n => match n with
    | _ => none
abbrev A154 : Tys := (.cons DY3 (.cons DY3 .nil))
def ts154 : List (Nat × TD) := [(3, (.data (.int .i64))), (9, (.data .str)), (100, (.data DY3))]
noncomputable def fs154 (g129 : ByteArray → ByteArray → (Int)) (g227 : Int → (Int)) : List (Nat × FSem) := [(129, .fn (.cons .str (.cons .str .nil)) (.cons (.int .i64) .nil) fun x => ((g129 x.1 x.2.1), ())), (227, .fn (.cons (.int .i64) .nil) (.cons (.int .i64) .nil) fun x => ((g227 x.1), ()))]
noncomputable def body154 : Code := match Try.f154.body with | some c => c | none => .skip
theorem ty154 : chkTypes Try.prog ts154 = true := by kernel_rfl
theorem ev154 (g129 : ByteArray → ByteArray → (Int)) (g227 : Int → (Int)) (k : Nat) (x : ((.cons DY3 (.cons DY3 .nil)) : Tys).den) : evFun (mkEnv ts154 (fs154 g129 g227)) H154 k body154 34 [.tmp 4] (explodes (.cons DY3 (.cons DY3 .nil)) x) [] (dec (.cons (.int .i64) .nil)) = f154 g129 g227 k x.1 x.2.1 := by kernel_rfl
/-! ### jitney/jitref2.sameNo -/
def f157  (k : Nat) (x0 : DT3) (x1 : DT3) : Option (Bool × Unit) :=
  bif (sEq x0.1 x1.1) then
    some ((x0.2.1 == x1.2.1), ())
  else
    some (false, ())
def H157 : Hints where
  loop := fun n => match n with
    | _ => none
  region := fun n => match n with
    | _ => none
  cond := fun n => match n with
    | _ => none
  block := fun n => match n with
    | _ => none
abbrev A157 : Tys := (.cons DY3 (.cons DY3 .nil))
def ts157 : List (Nat × TD) := [(3, (.data (.int .i64))), (4, (.data .bool)), (9, (.data .str)), (100, (.data DY3))]
noncomputable def fs157  : List (Nat × FSem) := []
noncomputable def body157 : Code := match Try.f157.body with | some c => c | none => .skip
theorem ty157 : chkTypes Try.prog ts157 = true := by kernel_rfl
theorem ev157  (k : Nat) (x : ((.cons DY3 (.cons DY3 .nil)) : Tys).den) : evFun (mkEnv ts157 (fs157 )) H157 k body157 17 [.tmp 4] (explodes (.cons DY3 (.cons DY3 .nil)) x) [] (dec (.cons .bool .nil)) = f157  k x.1 x.2.1 := by kernel_rfl
/-! ### jitney/jitref2.DeedsFault -/
def f60 (g153 : DT3 → (Int)) (g154 : DT3 → DT3 → (Int)) (g157 : DT3 → DT3 → (Bool)) (k : Nat) (x0 : List DT3) : Option (Int × Unit) :=
  bif (decide (((List.length x0 : Nat) : Int) > (1000 : Int))) then
    some ((2 : Int), ())
  else
    Option.bind (α := (Int × Unit) ⊕ ((Unit) × (Unit))) (iter (σ := (Int × Unit) × (Unit)) (τ := (Int × Unit) ⊕ ((Unit) × (Unit))) k (fun y1 =>
        bif (decide (y1.1.1 < ((List.length x0 : Nat) : Int))) then
          bif (inR y1.1.1 ((List.length x0 : Nat) : Int)) then
            bif ((g153 (rd (α := DT3) zDT3 x0 y1.1.1)) != (0 : Int)) then
              some (.inr (.inl ((g153 (rd (α := DT3) zDT3 x0 y1.1.1)), ())))
            else
              bif (decide (y1.1.1 > (0 : Int))) then
                bif (inR (IntKind.i64.wrap (y1.1.1 - (1 : Int))) ((List.length x0 : Nat) : Int)) then
                  bif (decide ((g154 (rd (α := DT3) zDT3 x0 (IntKind.i64.wrap (y1.1.1 - (1 : Int)))) (rd (α := DT3) zDT3 x0 y1.1.1)) ≥ (0 : Int))) then
                    some (.inr (.inl ((7 : Int), ())))
                  else
                    some (.inl (((IntKind.i64.wrap (y1.1.1 + (1 : Int))), ()), ()))
                else
                  none
              else
                some (.inl (((IntKind.i64.wrap (y1.1.1 + (1 : Int))), ()), ()))
          else
            none
        else
          some (.inr (.inr ((), ())))) (((0 : Int), ()), ())) fun r => match r with
    | .inl z => some z
    | .inr z2 =>
      Option.bind (α := (Int × Unit) ⊕ ((Unit) × (Unit))) (iter (σ := (Int × Unit) × (Unit)) (τ := (Int × Unit) ⊕ ((Unit) × (Unit))) k (fun y3 =>
          bif (decide (y3.1.1 < ((List.length x0 : Nat) : Int))) then
            bif (inR y3.1.1 ((List.length x0 : Nat) : Int)) then
              bif (decide (0 ≤ (0 : Int)) && (decide ((0 : Int) ≤ y3.1.1) && decide (y3.1.1 ≤ ((List.length x0 : Nat) : Int)))) then
                Option.bind (α := (((Int × Unit) × (Unit)) ⊕ ((Int × Unit) ⊕ ((Unit) × (Unit)))) ⊕ ((Unit) × DT4)) (iter (σ := (Int × Unit) × DT4) (τ := (((Int × Unit) × (Unit)) ⊕ ((Int × Unit) ⊕ ((Unit) × (Unit)))) ⊕ ((Unit) × DT4)) k (fun y4 =>
                    bif (decide (y4.1.1 < ((List.length (List.drop (Int.toNat (0 : Int)) (List.take (Int.toNat y3.1.1) x0)) : Nat) : Int))) then
                      bif (inR y4.1.1 ((List.length (List.drop (Int.toNat (0 : Int)) (List.take (Int.toNat y3.1.1) x0)) : Nat) : Int)) then
                        bif (g157 (rd (α := DT3) zDT3 (List.drop (Int.toNat (0 : Int)) (List.take (Int.toNat y3.1.1) x0)) y4.1.1) (y4.2.1.1, y4.2.1.2.1, y4.2.1.2.2.1, y4.2.1.2.2.2.1, y4.2.1.2.2.2.2.1, y4.2.1.2.2.2.2.2.1, (y4.2.1.2.2.2.2.2.2.1.1, y4.2.1.2.2.2.2.2.2.1.2.1, y4.2.1.2.2.2.2.2.2.1.2.2.1, ()), (y4.2.1.2.2.2.2.2.2.2.1.1, y4.2.1.2.2.2.2.2.2.2.1.2.1, y4.2.1.2.2.2.2.2.2.2.1.2.2.1, y4.2.1.2.2.2.2.2.2.2.1.2.2.2.1, y4.2.1.2.2.2.2.2.2.2.1.2.2.2.2.1, y4.2.1.2.2.2.2.2.2.2.1.2.2.2.2.2.1, y4.2.1.2.2.2.2.2.2.2.1.2.2.2.2.2.2.1, y4.2.1.2.2.2.2.2.2.2.1.2.2.2.2.2.2.2.1, ()), ())) then
                          Option.map (fun z => .inr (.inl z)) (
                            bif (decide (y4.1.1 ≥ (0 : Int))) then
                              some (.inr (.inl ((6 : Int), ())))
                            else
                              some (.inl (((IntKind.i64.wrap (y3.1.1 + (1 : Int))), ()), ())))
                        else
                          some (.inl (((IntKind.i64.wrap (y4.1.1 + (1 : Int))), ()), ((y4.2.1.1, y4.2.1.2.1, y4.2.1.2.2.1, y4.2.1.2.2.2.1, y4.2.1.2.2.2.2.1, y4.2.1.2.2.2.2.2.1, (y4.2.1.2.2.2.2.2.2.1.1, y4.2.1.2.2.2.2.2.2.1.2.1, y4.2.1.2.2.2.2.2.2.1.2.2.1, ()), (y4.2.1.2.2.2.2.2.2.2.1.1, y4.2.1.2.2.2.2.2.2.2.1.2.1, y4.2.1.2.2.2.2.2.2.2.1.2.2.1, y4.2.1.2.2.2.2.2.2.2.1.2.2.2.1, y4.2.1.2.2.2.2.2.2.2.1.2.2.2.2.1, y4.2.1.2.2.2.2.2.2.2.1.2.2.2.2.2.1, y4.2.1.2.2.2.2.2.2.2.1.2.2.2.2.2.2.1, y4.2.1.2.2.2.2.2.2.2.1.2.2.2.2.2.2.2.1, ()), ()), ())))
                      else
                        none
                    else
                      some (.inr (.inr ((), ((y4.2.1.1, y4.2.1.2.1, y4.2.1.2.2.1, y4.2.1.2.2.2.1, y4.2.1.2.2.2.2.1, y4.2.1.2.2.2.2.2.1, (y4.2.1.2.2.2.2.2.2.1.1, y4.2.1.2.2.2.2.2.2.1.2.1, y4.2.1.2.2.2.2.2.2.1.2.2.1, ()), (y4.2.1.2.2.2.2.2.2.2.1.1, y4.2.1.2.2.2.2.2.2.2.1.2.1, y4.2.1.2.2.2.2.2.2.2.1.2.2.1, y4.2.1.2.2.2.2.2.2.2.1.2.2.2.1, y4.2.1.2.2.2.2.2.2.2.1.2.2.2.2.1, y4.2.1.2.2.2.2.2.2.2.1.2.2.2.2.2.1, y4.2.1.2.2.2.2.2.2.2.1.2.2.2.2.2.2.1, y4.2.1.2.2.2.2.2.2.2.1.2.2.2.2.2.2.2.1, ()), ()), ()))))) (((0 : Int), ()), ((rd (α := DT3) zDT3 x0 y3.1.1), ()))) fun r => match r with
                | .inl z => some z
                | .inr z5 =>
                  some (.inl (((IntKind.i64.wrap (y3.1.1 + (1 : Int))), ()), ()))
              else
                none
            else
              none
          else
            some (.inr (.inr ((), ())))) (((0 : Int), ()), ())) fun r => match r with
      | .inl z => some z
      | .inr z6 =>
        some ((0 : Int), ())
def H60 : Hints where
  loop := fun n => match n with
    | 0 => some ({ slots := [(13, (.int .i64))], objs := [], gone := [] }, 0, { slots := [], objs := [], gone := [] })
    | 2 => some ({ slots := [(38, (.int .i64))], objs := [], gone := [] }, 2, { slots := [], objs := [], gone := [] })
    | _ => none
  region := fun n => match n with
    | _ => none
  cond := fun n => match n with
    | _ => none
  block := fun n => match n with
    | _ => none
def Hi60_156 : Hints where
  loop := fun n => match n with
    | _ => none
  region := fun n => match n with
    | _ => none
  cond := fun n => match n with
    | _ => none
  block := fun n => match n with
    | _ => none
def tsi60_156 : List (Nat × TD) := [(100, (.data DY3))]
noncomputable def bodyi60_156 : Code := match Try.f156.body with | some c => c | none => .skip
noncomputable def fsi60_156 (g153 : DT3 → (Int)) (g154 : DT3 → DT3 → (Int)) (g157 : DT3 → DT3 → (Bool)) (k : Nat) : List (Nat × FSem) := [(157, .fn (.cons DY3 (.cons DY3 .nil)) (.cons .bool .nil) fun x => ((g157 x.1 x.2.1), ()))]
theorem tyi60_156 : chkTypes Try.prog tsi60_156 = true := by kernel_rfl
def Hi60_164 : Hints where
  loop := fun n => match n with
    | 0 => some ({ slots := [(8, (.int .i64))], objs := [(0, (.box (.data DY3) (.agg (.cons .str (.cons (.int .i64) (.cons (.int .i64) (.cons (.int .i64) (.cons .str (.cons .str (.cons (.agg (.cons .str (.cons (.int .i64) (.cons (.int .i64) .nil)))) (.cons (.agg (.cons .str (.cons .str (.cons .str (.cons .str (.cons (.int .i64) (.cons (.int .i64) (.cons (.int .i64) (.cons (.int .i64) .nil))))))))) .nil)))))))))))], gone := [] }, 0, { slots := [], objs := [(0, (.box (.data DY3) (.agg (.cons .str (.cons (.int .i64) (.cons (.int .i64) (.cons (.int .i64) (.cons .str (.cons .str (.cons (.agg (.cons .str (.cons (.int .i64) (.cons (.int .i64) .nil)))) (.cons (.agg (.cons .str (.cons .str (.cons .str (.cons .str (.cons (.int .i64) (.cons (.int .i64) (.cons (.int .i64) (.cons (.int .i64) .nil))))))))) .nil)))))))))))], gone := [] })
    | _ => none
  region := fun n => match n with
    | _ => none
  cond := fun n => match n with
    | _ => none
  block := fun n => match n with
    | _ => none
def tsi60_164 : List (Nat × TD) := [(3, (.data (.int .i64))), (94, (.data (.slice DY3))), (100, (.data DY3))]
noncomputable def bodyi60_164 : Code := match Try.f164.body with | some c => c | none => .skip
noncomputable def fsi60_164 (g153 : DT3 → (Int)) (g154 : DT3 → DT3 → (Int)) (g157 : DT3 → DT3 → (Bool)) (k : Nat) : List (Nat × FSem) := [(156, .ev (mkEnv tsi60_156 (fsi60_156 g153 g154 g157 k)) Hi60_156 k bodyi60_156 7 [.tmp 3])]
theorem tyi60_164 : chkTypes Try.prog tsi60_164 = true := by kernel_rfl
def Hi60_155 : Hints where
  loop := fun n => match n with
    | _ => none
  region := fun n => match n with
    | _ => none
  cond := fun n => match n with
    | _ => none
  block := fun n => match n with
    | _ => none
def tsi60_155 : List (Nat × TD) := [(3, (.data (.int .i64)))]
noncomputable def bodyi60_155 : Code := match Try.f155.body with | some c => c | none => .skip
noncomputable def fsi60_155 (g153 : DT3 → (Int)) (g154 : DT3 → DT3 → (Int)) (g157 : DT3 → DT3 → (Bool)) (k : Nat) : List (Nat × FSem) := [(164, .ev (mkEnv tsi60_164 (fsi60_164 g153 g154 g157 k)) Hi60_164 k bodyi60_164 19 [.tmp 4])]
theorem tyi60_155 : chkTypes Try.prog tsi60_155 = true := by kernel_rfl
abbrev A60 : Tys := (.cons (.slice DY3) .nil)
def ts60 : List (Nat × TD) := [(3, (.data (.int .i64))), (28, (.data (.int .i64))), (94, (.data (.slice DY3))), (100, (.data DY3))]
noncomputable def fs60 (g153 : DT3 → (Int)) (g154 : DT3 → DT3 → (Int)) (g157 : DT3 → DT3 → (Bool)) (k : Nat) : List (Nat × FSem) := [(153, .fn (.cons DY3 .nil) (.cons (.int .i64) .nil) fun x => ((g153 x.1), ())), (154, .fn (.cons DY3 (.cons DY3 .nil)) (.cons (.int .i64) .nil) fun x => ((g154 x.1 x.2.1), ())), (155, .ev (mkEnv tsi60_155 (fsi60_155 g153 g154 g157 k)) Hi60_155 k bodyi60_155 9 [.tmp 4])]
noncomputable def body60 : Code := match Try.f60.body with | some c => c | none => .skip
theorem ty60 : chkTypes Try.prog ts60 = true := by kernel_rfl
theorem ev60 (g153 : DT3 → (Int)) (g154 : DT3 → DT3 → (Int)) (g157 : DT3 → DT3 → (Bool)) (k : Nat) (x : ((.cons (.slice DY3) .nil) : Tys).den) : evFun (mkEnv ts60 (fs60 g153 g154 g157 k)) H60 k body60 49 [.tmp 2] (explodes (.cons (.slice DY3) .nil) x) [] (dec (.cons (.int .i64) .nil)) = f60 g153 g154 g157 k x.1 := by kernel_rfl
/-! ### jitney/net.byMoment -/
def f160 (g127 : (List Int) → (Int)) (g128 : Int → Int → (Int)) (g129 : ByteArray → ByteArray → (Int)) (k : Nat) (x0 : DT3) (x1 : DT3) : Option (Int × Unit) :=
  some ((g127 ([(g128 x0.2.2.1 x1.2.2.1), (g129 x0.1 x1.1), (g128 x0.2.1 x1.2.1)])), ())
def H160 : Hints where
  loop := fun n => match n with
    | _ => none
  region := fun n => match n with
    | _ => none
  cond := fun n => match n with
    | _ => none
  block := fun n => match n with
    | _ => none
abbrev A160 : Tys := (.cons DY3 (.cons DY3 .nil))
def ts160 : List (Nat × TD) := [(3, (.data (.int .i64))), (9, (.data .str)), (78, (.data (.slice (.int .i64)))), (100, (.data DY3))]
noncomputable def fs160 (g127 : (List Int) → (Int)) (g128 : Int → Int → (Int)) (g129 : ByteArray → ByteArray → (Int)) : List (Nat × FSem) := [(127, .fn (.cons (.slice (.int .i64)) .nil) (.cons (.int .i64) .nil) fun x => ((g127 x.1), ())), (128, .fn (.cons (.int .i64) (.cons (.int .i64) .nil)) (.cons (.int .i64) .nil) fun x => ((g128 x.1 x.2.1), ())), (129, .fn (.cons .str (.cons .str .nil)) (.cons (.int .i64) .nil) fun x => ((g129 x.1 x.2.1), ()))]
noncomputable def body160 : Code := match Try.f160.body with | some c => c | none => .skip
theorem ty160 : chkTypes Try.prog ts160 = true := by kernel_rfl
theorem ev160 (g127 : (List Int) → (Int)) (g128 : Int → Int → (Int)) (g129 : ByteArray → ByteArray → (Int)) (k : Nat) (x : ((.cons DY3 (.cons DY3 .nil)) : Tys).den) : evFun (mkEnv ts160 (fs160 g127 g128 g129)) H160 k body160 22 [.tmp 4] (explodes (.cons DY3 (.cons DY3 .nil)) x) [] (dec (.cons (.int .i64) .nil)) = f160 g127 g128 g129 k x.1 x.2.1 := by kernel_rfl
/-! ### jitney/request.allKeys$1 -/
def f335 (g113 : ByteArray → (Bool)) (k : Nat) (x0 : ByteArray) : Option (Bool × Unit) :=
  some ((!(g113 x0)), ())
def H335 : Hints where
  loop := fun n => match n with
    | _ => none
  region := fun n => match n with
    | _ => none
  cond := fun n => match n with
    | _ => none
  block := fun n => match n with
    | _ => none
abbrev A335 : Tys := (.cons .str .nil)
def ts335 : List (Nat × TD) := [(4, (.data .bool)), (9, (.data .str))]
noncomputable def fs335 (g113 : ByteArray → (Bool)) : List (Nat × FSem) := [(113, .fn (.cons .str .nil) (.cons .bool .nil) fun x => ((g113 x.1), ()))]
noncomputable def body335 : Code := match Try.f335.body with | some c => c | none => .skip
theorem ty335 : chkTypes Try.prog ts335 = true := by kernel_rfl
theorem ev335 (g113 : ByteArray → (Bool)) (k : Nat) (x : ((.cons .str .nil) : Tys).den) : evFun (mkEnv ts335 (fs335 g113)) H335 k body335 6 [.tmp 2] (explodes (.cons .str .nil) x) [] (dec (.cons .bool .nil)) = f335 g113 k x.1 := by kernel_rfl
/-! ### jitney/request.allKeys -/
def f289 (g335 : ByteArray → (Bool)) (k : Nat) (x0 : List ByteArray) : Option (Bool × Unit) :=
  Option.bind (α := (Bool × Unit) ⊕ ((Unit) × (Unit))) (iter (σ := (Int × Unit) × (Unit)) (τ := (Bool × Unit) ⊕ ((Unit) × (Unit))) k (fun y1 =>
      bif (decide (y1.1.1 < ((List.length x0 : Nat) : Int))) then
        bif (inR y1.1.1 ((List.length x0 : Nat) : Int)) then
          bif (g335 (rd (α := ByteArray) ByteArray.empty x0 y1.1.1)) then
            some (.inr (.inl ((!(decide (y1.1.1 ≥ (0 : Int)))), ())))
          else
            some (.inl (((IntKind.i64.wrap (y1.1.1 + (1 : Int))), ()), ()))
        else
          none
      else
        some (.inr (.inr ((), ())))) (((0 : Int), ()), ())) fun r => match r with
  | .inl z => some z
  | .inr z2 =>
    some (true, ())
def H289 : Hints where
  loop := fun n => match n with
    | _ => none
  region := fun n => match n with
    | _ => none
  cond := fun n => match n with
    | _ => none
  block := fun n => match n with
    | _ => none
def Hi289_214 : Hints where
  loop := fun n => match n with
    | 0 => some ({ slots := [(8, (.int .i64))], objs := [], gone := [] }, 0, { slots := [], objs := [], gone := [] })
    | _ => none
  region := fun n => match n with
    | _ => none
  cond := fun n => match n with
    | _ => none
  block := fun n => match n with
    | _ => none
def tsi289_214 : List (Nat × TD) := [(3, (.data (.int .i64))), (9, (.data .str)), (41, (.data (.slice .str)))]
noncomputable def bodyi289_214 : Code := match Try.f214.body with | some c => c | none => .skip
noncomputable def fsi289_214 (g335 : ByteArray → (Bool)) (k : Nat) : List (Nat × FSem) := [(335, .fn (.cons .str .nil) (.cons .bool .nil) fun x => ((g335 x.1), ()))]
theorem tyi289_214 : chkTypes Try.prog tsi289_214 = true := by kernel_rfl
def Hi289_133 : Hints where
  loop := fun n => match n with
    | _ => none
  region := fun n => match n with
    | _ => none
  cond := fun n => match n with
    | _ => none
  block := fun n => match n with
    | _ => none
def tsi289_133 : List (Nat × TD) := [(3, (.data (.int .i64)))]
noncomputable def bodyi289_133 : Code := match Try.f133.body with | some c => c | none => .skip
noncomputable def fsi289_133 (g335 : ByteArray → (Bool)) (k : Nat) : List (Nat × FSem) := [(214, .ev (mkEnv tsi289_214 (fsi289_214 g335 k)) Hi289_214 k bodyi289_214 19 [.tmp 4])]
theorem tyi289_133 : chkTypes Try.prog tsi289_133 = true := by kernel_rfl
abbrev A289 : Tys := (.cons (.slice .str) .nil)
def ts289 : List (Nat × TD) := [(4, (.data .bool)), (41, (.data (.slice .str)))]
noncomputable def fs289 (g335 : ByteArray → (Bool)) (k : Nat) : List (Nat × FSem) := [(133, .ev (mkEnv tsi289_133 (fsi289_133 g335 k)) Hi289_133 k bodyi289_133 9 [.tmp 4])]
noncomputable def body289 : Code := match Try.f289.body with | some c => c | none => .skip
theorem ty289 : chkTypes Try.prog ts289 = true := by kernel_rfl
theorem ev289 (g335 : ByteArray → (Bool)) (k : Nat) (x : ((.cons (.slice .str) .nil) : Tys).den) : evFun (mkEnv ts289 (fs289 g335 k)) H289 k body289 6 [.tmp 2] (explodes (.cons (.slice .str) .nil) x) [] (dec (.cons .bool .nil)) = f289 g335 k x.1 := by kernel_rfl
/-! ### jitney/request.CheckRide -/
def f235 (g114 : Int → Int → Int → (Bool)) (g121 : Int → (Bool)) (g289 : (List ByteArray) → (Bool)) (k : Nat) (x0 : DT2) : Option (Int × Unit) :=
  bif (!(g289 ([x0.1, x0.2.1, x0.2.2.1, x0.2.2.2.1]))) then
    some ((5 : Int), ())
  else
    bif (sEq x0.2.2.1 x0.2.2.2.1) then
      some ((6 : Int), ())
    else
      bif (!(g121 x0.2.2.2.2.1)) then
        some ((1 : Int), ())
      else
        bif (g114 x0.2.2.2.2.2.1 (IntKind.i64.wrap (x0.2.2.2.2.1 + (1 : Int))) (345686400000 : Int)) then
          some ((1 : Int), ())
        else
          bif (g114 x0.2.2.2.2.2.2.1 (0 : Int) (60 : Int)) then
            some ((1 : Int), ())
          else
            bif (g114 x0.2.2.2.2.2.2.2.1 (0 : Int) (60 : Int)) then
              some ((1 : Int), ())
            else
              bif ((IntKind.i64.wrap (x0.2.2.2.2.2.2.1 + x0.2.2.2.2.2.2.2.1)) == (0 : Int)) then
                some ((3 : Int), ())
              else
                some ((0 : Int), ())
def H235 : Hints where
  loop := fun n => match n with
    | _ => none
  region := fun n => match n with
    | _ => none
  cond := fun n => match n with
    | _ => none
  block := fun n => match n with
    | _ => none
abbrev A235 : Tys := (.cons DY2 .nil)
def ts235 : List (Nat × TD) := [(3, (.data (.int .i64))), (9, (.data .str)), (28, (.data (.int .i64))), (41, (.data (.slice .str))), (98, (.data DY2))]
noncomputable def fs235 (g114 : Int → Int → Int → (Bool)) (g121 : Int → (Bool)) (g289 : (List ByteArray) → (Bool)) : List (Nat × FSem) := [(114, .fn (.cons (.int .i64) (.cons (.int .i64) (.cons (.int .i64) .nil))) (.cons .bool .nil) fun x => ((g114 x.1 x.2.1 x.2.2.1), ())), (121, .fn (.cons (.int .i64) .nil) (.cons .bool .nil) fun x => ((g121 x.1), ())), (289, .fn (.cons (.slice .str) .nil) (.cons .bool .nil) fun x => ((g289 x.1), ()))]
noncomputable def body235 : Code := match Try.f235.body with | some c => c | none => .skip
theorem ty235 : chkTypes Try.prog ts235 = true := by kernel_rfl
theorem ev235 (g114 : Int → Int → Int → (Bool)) (g121 : Int → (Bool)) (g289 : (List ByteArray) → (Bool)) (k : Nat) (x : ((.cons DY2 .nil) : Tys).den) : evFun (mkEnv ts235 (fs235 g114 g121 g289)) H235 k body235 51 [.tmp 2] (explodes (.cons DY2 .nil) x) [] (dec (.cons (.int .i64) .nil)) = f235 g114 g121 g289 k x.1 := by kernel_rfl
/-! ### jitney/net.deedFault -/
def f167 (g113 : ByteArray → (Bool)) (g114 : Int → Int → Int → (Bool)) (g121 : Int → (Bool)) (g235 : DT2 → (Int)) (k : Nat) (x0 : DT3) : Option (Int × Unit) :=
  bif (!(g113 x0.1)) then
    some ((5 : Int), ())
  else
    bif (g114 x0.2.1 (1 : Int) (1000000 : Int)) then
      some ((1 : Int), ())
    else
      bif (!(g121 x0.2.2.1)) then
        some ((1 : Int), ())
      else
        bif (g114 x0.2.2.2.1 (1 : Int) (4 : Int)) then
          some ((4 : Int), ())
        else
          Option.bind (α := (Int × Unit) ⊕ ((Unit) × DT4)) (
              bif (x0.2.2.2.1 == (1 : Int)) then
                bif (!(g113 x0.2.2.2.2.2.2.1.1)) then
                  some (.inl ((5 : Int), ()))
                else
                  bif (!(g113 x0.2.2.2.2.2.1)) then
                    some (.inl ((5 : Int), ()))
                  else
                    bif (g114 x0.2.2.2.2.2.2.1.2.1 (0 : Int) (60 : Int)) then
                      some (.inl ((1 : Int), ()))
                    else
                      bif (g114 x0.2.2.2.2.2.2.1.2.2.1 (0 : Int) (60 : Int)) then
                        some (.inl ((1 : Int), ()))
                      else
                        some (.inr ((), ((x0.1, x0.2.1, x0.2.2.1, x0.2.2.2.1, ByteArray.empty, x0.2.2.2.2.2.1, x0.2.2.2.2.2.2.1, zDT2, ()), ())))
              else
                bif (x0.2.2.2.1 == (3 : Int)) then
                  bif ((g235 x0.2.2.2.2.2.2.2.1) != (0 : Int)) then
                    some (.inl ((g235 x0.2.2.2.2.2.2.2.1), ()))
                  else
                    some (.inr ((), ((x0.1, x0.2.1, x0.2.2.1, x0.2.2.2.1, ByteArray.empty, ByteArray.empty, zDT1, x0.2.2.2.2.2.2.2.1, ()), ())))
                else
                  bif (!(g113 x0.2.2.2.2.1)) then
                    some (.inl ((5 : Int), ()))
                  else
                    some (.inr ((), ((x0.1, x0.2.1, x0.2.2.1, x0.2.2.2.1, x0.2.2.2.2.1, ByteArray.empty, zDT1, zDT2, ()), ())))) fun r => match r with
          | .inl z => some z
          | .inr y1 =>
            bif (!((sEq x0.1 y1.2.1.1) && ((x0.2.1 == y1.2.1.2.1) && ((x0.2.2.1 == y1.2.1.2.2.1) && ((x0.2.2.2.1 == y1.2.1.2.2.2.1) && ((sEq x0.2.2.2.2.1 y1.2.1.2.2.2.2.1) && ((sEq x0.2.2.2.2.2.1 y1.2.1.2.2.2.2.2.1) && (((sEq x0.2.2.2.2.2.2.1.1 y1.2.1.2.2.2.2.2.2.1.1) && ((x0.2.2.2.2.2.2.1.2.1 == y1.2.1.2.2.2.2.2.2.1.2.1) && ((x0.2.2.2.2.2.2.1.2.2.1 == y1.2.1.2.2.2.2.2.2.1.2.2.1) && true))) && (((sEq x0.2.2.2.2.2.2.2.1.1 y1.2.1.2.2.2.2.2.2.2.1.1) && ((sEq x0.2.2.2.2.2.2.2.1.2.1 y1.2.1.2.2.2.2.2.2.2.1.2.1) && ((sEq x0.2.2.2.2.2.2.2.1.2.2.1 y1.2.1.2.2.2.2.2.2.2.1.2.2.1) && ((sEq x0.2.2.2.2.2.2.2.1.2.2.2.1 y1.2.1.2.2.2.2.2.2.2.1.2.2.2.1) && ((x0.2.2.2.2.2.2.2.1.2.2.2.2.1 == y1.2.1.2.2.2.2.2.2.2.1.2.2.2.2.1) && ((x0.2.2.2.2.2.2.2.1.2.2.2.2.2.1 == y1.2.1.2.2.2.2.2.2.2.1.2.2.2.2.2.1) && ((x0.2.2.2.2.2.2.2.1.2.2.2.2.2.2.1 == y1.2.1.2.2.2.2.2.2.2.1.2.2.2.2.2.2.1) && ((x0.2.2.2.2.2.2.2.1.2.2.2.2.2.2.2.1 == y1.2.1.2.2.2.2.2.2.2.1.2.2.2.2.2.2.2.1) && true)))))))) && true))))))))) then
              some ((3 : Int), ())
            else
              some ((0 : Int), ())
def H167 : Hints where
  loop := fun n => match n with
    | _ => none
  region := fun n => match n with
    | _ => none
  cond := fun n => match n with
    | _ => none
  block := fun n => match n with
    | 1 => some { slots := [], objs := [(1, (.box (.data DY3) (.agg (.cons .str (.cons (.int .i64) (.cons (.int .i64) (.cons (.int .i64) (.cons .str (.cons .str (.cons (.agg (.cons .str (.cons (.int .i64) (.cons (.int .i64) .nil)))) (.cons (.agg (.cons .str (.cons .str (.cons .str (.cons .str (.cons (.int .i64) (.cons (.int .i64) (.cons (.int .i64) (.cons (.int .i64) .nil))))))))) .nil)))))))))))], gone := [] }
    | _ => none
abbrev A167 : Tys := (.cons DY3 .nil)
def ts167 : List (Nat × TD) := [(3, (.data (.int .i64))), (9, (.data .str)), (28, (.data (.int .i64))), (96, (.data DY1)), (98, (.data DY2)), (100, (.data DY3))]
noncomputable def fs167 (g113 : ByteArray → (Bool)) (g114 : Int → Int → Int → (Bool)) (g121 : Int → (Bool)) (g235 : DT2 → (Int)) : List (Nat × FSem) := [(113, .fn (.cons .str .nil) (.cons .bool .nil) fun x => ((g113 x.1), ())), (114, .fn (.cons (.int .i64) (.cons (.int .i64) (.cons (.int .i64) .nil))) (.cons .bool .nil) fun x => ((g114 x.1 x.2.1 x.2.2.1), ())), (121, .fn (.cons (.int .i64) .nil) (.cons .bool .nil) fun x => ((g121 x.1), ())), (235, .fn (.cons DY2 .nil) (.cons (.int .i64) .nil) fun x => ((g235 x.1), ()))]
noncomputable def body167 : Code := match Try.f167.body with | some c => c | none => .skip
theorem ty167 : chkTypes Try.prog ts167 = true := by kernel_rfl
theorem ev167 (g113 : ByteArray → (Bool)) (g114 : Int → Int → Int → (Bool)) (g121 : Int → (Bool)) (g235 : DT2 → (Int)) (k : Nat) (x : ((.cons DY3 .nil) : Tys).den) : evFun (mkEnv ts167 (fs167 g113 g114 g121 g235)) H167 k body167 87 [.tmp 2] (explodes (.cons DY3 .nil) x) [] (dec (.cons (.int .i64) .nil)) = f167 g113 g114 g121 g235 k x.1 := by kernel_rfl
/-! ### jitney/net.CheckDeeds -/
def f68 (g160 : DT3 → DT3 → (Int)) (g167 : DT3 → (Int)) (k : Nat) (x0 : List DT3) : Option (Int × Unit) :=
  bif (decide (((List.length x0 : Nat) : Int) > (1000 : Int))) then
    some ((2 : Int), ())
  else
    Option.bind (α := (Int × Unit) ⊕ ((Unit) × (Unit))) (iter (σ := (Int × Unit) × (Unit)) (τ := (Int × Unit) ⊕ ((Unit) × (Unit))) k (fun y1 =>
        bif (decide (y1.1.1 < ((List.length x0 : Nat) : Int))) then
          bif (inR y1.1.1 ((List.length x0 : Nat) : Int)) then
            bif ((g167 (rd (α := DT3) zDT3 x0 y1.1.1)) != (0 : Int)) then
              some (.inr (.inl ((g167 (rd (α := DT3) zDT3 x0 y1.1.1)), ())))
            else
              bif (decide (y1.1.1 > (0 : Int))) then
                bif (inR (IntKind.i64.wrap (y1.1.1 - (1 : Int))) ((List.length x0 : Nat) : Int)) then
                  bif (decide ((g160 (rd (α := DT3) zDT3 x0 y1.1.1) (rd (α := DT3) zDT3 x0 (IntKind.i64.wrap (y1.1.1 - (1 : Int))))) ≤ (0 : Int))) then
                    some (.inr (.inl ((7 : Int), ())))
                  else
                    some (.inl (((IntKind.i64.wrap (y1.1.1 + (1 : Int))), ()), ()))
                else
                  none
              else
                some (.inl (((IntKind.i64.wrap (y1.1.1 + (1 : Int))), ()), ()))
          else
            none
        else
          some (.inr (.inr ((), ())))) (((0 : Int), ()), ())) fun r => match r with
    | .inl z => some z
    | .inr z2 =>
      Option.bind (α := (Int × Unit) ⊕ ((Unit) × ((MapC DY0 .bool) × Unit))) (iter (σ := (Int × Unit) × ((MapC DY0 .bool) × Unit)) (τ := (Int × Unit) ⊕ ((Unit) × ((MapC DY0 .bool) × Unit))) k (fun y3 =>
          bif (decide (y3.1.1 < ((List.length x0 : Nat) : Int))) then
            bif (inR y3.1.1 ((List.length x0 : Nat) : Int)) then
              bif (mget (keq DY0) false ((rd (α := DT3) zDT3 x0 y3.1.1).1, (rd (α := DT3) zDT3 x0 y3.1.1).2.1, ()) y3.2.1.1) then
                some (.inr (.inl ((6 : Int), ())))
              else
                some (.inl (((IntKind.i64.wrap (y3.1.1 + (1 : Int))), ()), ((mput (keq DY0) ((rd (α := DT3) zDT3 x0 y3.1.1).1, (rd (α := DT3) zDT3 x0 y3.1.1).2.1, ()) true y3.2.1), ())))
            else
              none
          else
            some (.inr (.inr ((), (y3.2.1, ()))))) (((0 : Int), ()), ((([], 0) : MapC DY0 .bool), ()))) fun r => match r with
      | .inl z => some z
      | .inr z4 =>
        some ((0 : Int), ())
def H68 : Hints where
  loop := fun n => match n with
    | 0 => some ({ slots := [(14, (.int .i64))], objs := [], gone := [] }, 0, { slots := [], objs := [], gone := [] })
    | 2 => some ({ slots := [(40, (.int .i64))], objs := [(0, (.map DY0 .bool))], gone := [] }, 2, { slots := [], objs := [(0, (.map DY0 .bool))], gone := [] })
    | _ => none
  region := fun n => match n with
    | _ => none
  cond := fun n => match n with
    | _ => none
  block := fun n => match n with
    | _ => none
abbrev A68 : Tys := (.cons (.slice DY3) .nil)
def ts68 : List (Nat × TD) := [(3, (.data (.int .i64))), (9, (.data .str)), (28, (.data (.int .i64))), (94, (.data (.slice DY3))), (100, (.data DY3)), (226, (.data DY0)), (232, (.map DY0 .bool))]
noncomputable def fs68 (g160 : DT3 → DT3 → (Int)) (g167 : DT3 → (Int)) : List (Nat × FSem) := [(160, .fn (.cons DY3 (.cons DY3 .nil)) (.cons (.int .i64) .nil) fun x => ((g160 x.1 x.2.1), ())), (167, .fn (.cons DY3 .nil) (.cons (.int .i64) .nil) fun x => ((g167 x.1), ()))]
noncomputable def body68 : Code := match Try.f68.body with | some c => c | none => .skip
theorem ty68 : chkTypes Try.prog ts68 = true := by kernel_rfl
theorem ev68 (g160 : DT3 → DT3 → (Int)) (g167 : DT3 → (Int)) (k : Nat) (x : ((.cons (.slice DY3) .nil) : Tys).den) : evFun (mkEnv ts68 (fs68 g160 g167)) H68 k body68 58 [.tmp 2] (explodes (.cons (.slice DY3) .nil) x) [] (dec (.cons (.int .i64) .nil)) = f68 g160 g167 k x.1 := by kernel_rfl
/-! ### slices.Concat[[]jitney/api.Deed,jitney/api.Deed] -/
def f158  (k : Nat) (x0 : List (List DT3)) : Option (List DT3) :=
  Option.bind (α := (List DT3) ⊕ ((Int × Unit) × (Unit))) (iter (σ := DT0 × (Unit)) (τ := (List DT3) ⊕ ((Int × Unit) × (Unit))) k (fun y1 =>
      bif (decide (y1.1.2.1 < ((List.length x0 : Nat) : Int))) then
        bif (inR y1.1.2.1 ((List.length x0 : Nat) : Int)) then
          bif (decide ((IntKind.i64.wrap (y1.1.1 + ((List.length (rd (α := List DT3) ([] : List DT3) x0 y1.1.2.1) : Nat) : Int))) < (0 : Int))) then
            none
          else
            some (.inl (((IntKind.i64.wrap (y1.1.1 + ((List.length (rd (α := List DT3) ([] : List DT3) x0 y1.1.2.1) : Nat) : Int))), (IntKind.i64.wrap (y1.1.2.1 + (1 : Int))), ()), ()))
        else
          none
      else
        some (.inr (.inr ((y1.1.1, ()), ())))) (zDT0, ())) fun r => match r with
  | .inl z => some z
  | .inr z2 =>
    Option.bind (α := (List DT3) ⊕ (((List DT3) × Unit) × (Unit))) (
        bif (decide (z2.1.1 < (0 : Int))) then
          none
        else
          bif (decide ((IntKind.i64.wrap (z2.1.1 - (0 : Int))) > (0 : Int))) then
            bif (decide (0 ≤ (IntKind.i64.wrap (z2.1.1 - (0 : Int)))) && decide ((IntKind.i64.wrap (z2.1.1 - (0 : Int))) ≤ 4294967296)) then
              bif (decide (0 ≤ (0 : Int)) && (decide ((0 : Int) ≤ (0 : Int)) && decide ((0 : Int) ≤ ((List.length (List.replicate (α := DT3) (Int.toNat (IntKind.i64.wrap (z2.1.1 - (0 : Int)))) zDT3) : Nat) : Int)))) then
                some (.inr (((List.drop (Int.toNat (0 : Int)) (List.take (Int.toNat (0 : Int)) (List.replicate (α := DT3) (Int.toNat (IntKind.i64.wrap (z2.1.1 - (0 : Int)))) zDT3))), ()), ()))
              else
                none
            else
              none
          else
            some (.inr (([], ()), ()))) fun r => match r with
    | .inl z => some z
    | .inr y3 =>
      Option.bind (α := (List DT3) ⊕ (((List DT3) × Unit) × (Unit))) (iter (σ := ((List DT3) × Int × Unit) × (Unit)) (τ := (List DT3) ⊕ (((List DT3) × Unit) × (Unit))) k (fun y4 =>
          bif (decide (y4.1.2.1 < ((List.length x0 : Nat) : Int))) then
            bif (inR y4.1.2.1 ((List.length x0 : Nat) : Int)) then
              bif decide (List.length y4.1.1 + List.length (rd (α := List DT3) ([] : List DT3) x0 y4.1.2.1) ≤ 4294967296) then
                some (.inl (((y4.1.1 ++ (rd (α := List DT3) ([] : List DT3) x0 y4.1.2.1)), (IntKind.i64.wrap (y4.1.2.1 + (1 : Int))), ()), ()))
              else
                none
            else
              none
          else
            some (.inr (.inr ((y4.1.1, ()), ())))) ((y3.1.1, (0 : Int), ()), ())) fun r => match r with
      | .inl z => some z
      | .inr z5 =>
        some z5.1.1
def H158 : Hints where
  loop := fun n => match n with
    | 0 => some ({ slots := [(3, (.int .i64)), (11, (.int .i64))], objs := [], gone := [] }, 0, { slots := [(3, (.int .i64))], objs := [], gone := [] })
    | 2 => some ({ slots := [(6, (.row DY3)), (27, (.int .i64))], objs := [], gone := [0] }, 2, { slots := [(6, (.row DY3))], objs := [], gone := [0] })
    | _ => none
  region := fun n => match n with
    | 9 => some { slots := [(6, (.row DY3))], objs := [], gone := [] }
    | _ => none
  cond := fun n => match n with
    | _ => none
  block := fun n => match n with
    | _ => none
def Hi158_228 : Hints where
  loop := fun n => match n with
    | _ => none
  region := fun n => match n with
    | _ => none
  cond := fun n => match n with
    | _ => none
  block := fun n => match n with
    | _ => none
def tsi158_228 : List (Nat × TD) := [(3, (.data (.int .i64))), (94, (.data (.slice DY3)))]
noncomputable def bodyi158_228 : Code := match Try.f228.body with | some c => c | none => .skip
noncomputable def fsi158_228  (k : Nat) : List (Nat × FSem) := []
theorem tyi158_228 : chkTypes Try.prog tsi158_228 = true := by kernel_rfl
abbrev A158 : Tys := (.cons (.slice (.slice DY3)) .nil)
def ts158 : List (Nat × TD) := [(3, (.data (.int .i64))), (94, (.data (.slice DY3))), (280, (.data (.slice (.slice DY3))))]
noncomputable def fs158  (k : Nat) : List (Nat × FSem) := [(228, .ev (mkEnv tsi158_228 (fsi158_228  k)) Hi158_228 k bodyi158_228 27 [.tmp 4])]
noncomputable def body158 : Code := match Try.f158.body with | some c => c | none => .skip
theorem ty158 : chkTypes Try.prog ts158 = true := by kernel_rfl
theorem ev158  (k : Nat) (x : ((.cons (.slice (.slice DY3)) .nil) : Tys).den) : evFun (mkEnv ts158 (fs158  k)) H158 k body158 36 [.tmp 2] (explodes (.cons (.slice (.slice DY3)) .nil) x) [] (rowRes DY3) = f158  k x.1 := by kernel_rfl
/-! ### jitney/net.Merge -/
def f61 (g68 : (List DT3) → (Int)) (g123 : (List Int) → (Int)) (g158 : (List (List DT3)) → Option (List DT3)) (g159_160 : List DT3 → Option (List DT3)) (k : Nat) (x0 : List DT3) (x1 : List DT3) : Option ((List DT3) × Int × Unit) :=
  bif ((g123 ([(g68 x0), (g68 x1)])) != (0 : Int)) then
    some ([], (g123 ([(g68 x0), (g68 x1)])), ())
  else
    Option.bind (g158 ([x0, x1])) fun v1 =>
    Option.bind (α := ((List DT3) × Int × Unit) ⊕ (((List DT3) × Unit) × ((MapC DY0 DY3) × Unit))) (iter (σ := ((List DT3) × Int × Unit) × ((MapC DY0 DY3) × Unit)) (τ := ((List DT3) × Int × Unit) ⊕ (((List DT3) × Unit) × ((MapC DY0 DY3) × Unit))) k (fun y2 =>
        bif (decide (y2.1.2.1 < ((List.length v1 : Nat) : Int))) then
          bif (inR y2.1.2.1 ((List.length v1 : Nat) : Int)) then
            bif (inR y2.1.2.1 ((List.length v1 : Nat) : Int)) then
              bif (!(mhas (keq DY0) ((rd (α := DT3) zDT3 v1 y2.1.2.1).1, (rd (α := DT3) zDT3 v1 y2.1.2.1).2.1, ()) y2.2.1.1)) then
                bif decide (List.length y2.1.1 + List.length ([(rd (α := DT3) zDT3 v1 y2.1.2.1)]) ≤ 4294967296) then
                  some (.inl (((y2.1.1 ++ [(rd (α := DT3) zDT3 v1 y2.1.2.1)]), (IntKind.i64.wrap (y2.1.2.1 + (1 : Int))), ()), ((mput (keq DY0) ((rd (α := DT3) zDT3 v1 y2.1.2.1).1, (rd (α := DT3) zDT3 v1 y2.1.2.1).2.1, ()) (rd (α := DT3) zDT3 v1 y2.1.2.1) y2.2.1), ())))
                else
                  none
              else
                bif (!((sEq ((mget (keq DY0) zDT3 ((rd (α := DT3) zDT3 v1 y2.1.2.1).1, (rd (α := DT3) zDT3 v1 y2.1.2.1).2.1, ()) y2.2.1.1).1) ((rd (α := DT3) zDT3 v1 y2.1.2.1).1)) && (((mget (keq DY0) zDT3 ((rd (α := DT3) zDT3 v1 y2.1.2.1).1, (rd (α := DT3) zDT3 v1 y2.1.2.1).2.1, ()) y2.2.1.1).2.1 == (rd (α := DT3) zDT3 v1 y2.1.2.1).2.1) && (((mget (keq DY0) zDT3 ((rd (α := DT3) zDT3 v1 y2.1.2.1).1, (rd (α := DT3) zDT3 v1 y2.1.2.1).2.1, ()) y2.2.1.1).2.2.1 == (rd (α := DT3) zDT3 v1 y2.1.2.1).2.2.1) && (((mget (keq DY0) zDT3 ((rd (α := DT3) zDT3 v1 y2.1.2.1).1, (rd (α := DT3) zDT3 v1 y2.1.2.1).2.1, ()) y2.2.1.1).2.2.2.1 == (rd (α := DT3) zDT3 v1 y2.1.2.1).2.2.2.1) && ((sEq ((mget (keq DY0) zDT3 ((rd (α := DT3) zDT3 v1 y2.1.2.1).1, (rd (α := DT3) zDT3 v1 y2.1.2.1).2.1, ()) y2.2.1.1).2.2.2.2.1) ((rd (α := DT3) zDT3 v1 y2.1.2.1).2.2.2.2.1)) && ((sEq ((mget (keq DY0) zDT3 ((rd (α := DT3) zDT3 v1 y2.1.2.1).1, (rd (α := DT3) zDT3 v1 y2.1.2.1).2.1, ()) y2.2.1.1).2.2.2.2.2.1) ((rd (α := DT3) zDT3 v1 y2.1.2.1).2.2.2.2.2.1)) && (((sEq ((mget (keq DY0) zDT3 ((rd (α := DT3) zDT3 v1 y2.1.2.1).1, (rd (α := DT3) zDT3 v1 y2.1.2.1).2.1, ()) y2.2.1.1).2.2.2.2.2.2.1.1) ((rd (α := DT3) zDT3 v1 y2.1.2.1).2.2.2.2.2.2.1.1)) && (((mget (keq DY0) zDT3 ((rd (α := DT3) zDT3 v1 y2.1.2.1).1, (rd (α := DT3) zDT3 v1 y2.1.2.1).2.1, ()) y2.2.1.1).2.2.2.2.2.2.1.2.1 == (rd (α := DT3) zDT3 v1 y2.1.2.1).2.2.2.2.2.2.1.2.1) && (((mget (keq DY0) zDT3 ((rd (α := DT3) zDT3 v1 y2.1.2.1).1, (rd (α := DT3) zDT3 v1 y2.1.2.1).2.1, ()) y2.2.1.1).2.2.2.2.2.2.1.2.2.1 == (rd (α := DT3) zDT3 v1 y2.1.2.1).2.2.2.2.2.2.1.2.2.1) && true))) && (((sEq ((mget (keq DY0) zDT3 ((rd (α := DT3) zDT3 v1 y2.1.2.1).1, (rd (α := DT3) zDT3 v1 y2.1.2.1).2.1, ()) y2.2.1.1).2.2.2.2.2.2.2.1.1) ((rd (α := DT3) zDT3 v1 y2.1.2.1).2.2.2.2.2.2.2.1.1)) && ((sEq ((mget (keq DY0) zDT3 ((rd (α := DT3) zDT3 v1 y2.1.2.1).1, (rd (α := DT3) zDT3 v1 y2.1.2.1).2.1, ()) y2.2.1.1).2.2.2.2.2.2.2.1.2.1) ((rd (α := DT3) zDT3 v1 y2.1.2.1).2.2.2.2.2.2.2.1.2.1)) && ((sEq ((mget (keq DY0) zDT3 ((rd (α := DT3) zDT3 v1 y2.1.2.1).1, (rd (α := DT3) zDT3 v1 y2.1.2.1).2.1, ()) y2.2.1.1).2.2.2.2.2.2.2.1.2.2.1) ((rd (α := DT3) zDT3 v1 y2.1.2.1).2.2.2.2.2.2.2.1.2.2.1)) && ((sEq ((mget (keq DY0) zDT3 ((rd (α := DT3) zDT3 v1 y2.1.2.1).1, (rd (α := DT3) zDT3 v1 y2.1.2.1).2.1, ()) y2.2.1.1).2.2.2.2.2.2.2.1.2.2.2.1) ((rd (α := DT3) zDT3 v1 y2.1.2.1).2.2.2.2.2.2.2.1.2.2.2.1)) && (((mget (keq DY0) zDT3 ((rd (α := DT3) zDT3 v1 y2.1.2.1).1, (rd (α := DT3) zDT3 v1 y2.1.2.1).2.1, ()) y2.2.1.1).2.2.2.2.2.2.2.1.2.2.2.2.1 == (rd (α := DT3) zDT3 v1 y2.1.2.1).2.2.2.2.2.2.2.1.2.2.2.2.1) && (((mget (keq DY0) zDT3 ((rd (α := DT3) zDT3 v1 y2.1.2.1).1, (rd (α := DT3) zDT3 v1 y2.1.2.1).2.1, ()) y2.2.1.1).2.2.2.2.2.2.2.1.2.2.2.2.2.1 == (rd (α := DT3) zDT3 v1 y2.1.2.1).2.2.2.2.2.2.2.1.2.2.2.2.2.1) && (((mget (keq DY0) zDT3 ((rd (α := DT3) zDT3 v1 y2.1.2.1).1, (rd (α := DT3) zDT3 v1 y2.1.2.1).2.1, ()) y2.2.1.1).2.2.2.2.2.2.2.1.2.2.2.2.2.2.1 == (rd (α := DT3) zDT3 v1 y2.1.2.1).2.2.2.2.2.2.2.1.2.2.2.2.2.2.1) && (((mget (keq DY0) zDT3 ((rd (α := DT3) zDT3 v1 y2.1.2.1).1, (rd (α := DT3) zDT3 v1 y2.1.2.1).2.1, ()) y2.2.1.1).2.2.2.2.2.2.2.1.2.2.2.2.2.2.2.1 == (rd (α := DT3) zDT3 v1 y2.1.2.1).2.2.2.2.2.2.2.1.2.2.2.2.2.2.2.1) && true)))))))) && true))))))))) then
                  some (.inr (.inl ([], (13 : Int), ())))
                else
                  some (.inl ((y2.1.1, (IntKind.i64.wrap (y2.1.2.1 + (1 : Int))), ()), (y2.2.1, ())))
            else
              none
          else
            none
        else
          some (.inr (.inr ((y2.1.1, ()), (y2.2.1, ()))))) (([], (0 : Int), ()), ((([], 0) : MapC DY0 DY3), ()))) fun r => match r with
    | .inl z => some z
    | .inr z3 =>
      bif (decide (((List.length z3.1.1 : Nat) : Int) > (1000 : Int))) then
        some ([], (2 : Int), ())
      else
        Option.bind (g159_160 z3.1.1) fun v4 =>
        some (v4, (0 : Int), ())
def H61 : Hints where
  loop := fun n => match n with
    | 0 => some ({ slots := [(8, (.row DY3)), (29, (.int .i64))], objs := [(1, (.map DY0 DY3))], gone := [] }, 0, { slots := [(8, (.row DY3))], objs := [(1, (.map DY0 DY3))], gone := [] })
    | _ => none
  region := fun n => match n with
    | _ => none
  cond := fun n => match n with
    | _ => none
  block := fun n => match n with
    | _ => none
abbrev A61 : Tys := (.cons (.slice DY3) (.cons (.slice DY3) .nil))
def ts61 : List (Nat × TD) := [(3, (.data (.int .i64))), (9, (.data .str)), (28, (.data (.int .i64))), (94, (.data (.slice DY3))), (100, (.data DY3)), (184, (.data (.slice (.int .i64)))), (223, (.map DY0 DY3)), (226, (.data DY0)), (280, (.data (.slice (.slice DY3))))]
noncomputable def fs61 (g68 : (List DT3) → (Int)) (g123 : (List Int) → (Int)) (g158 : (List (List DT3)) → Option (List DT3)) (g159_160 : List DT3 → Option (List DT3)) : List (Nat × FSem) := [(68, .fn (.cons (.slice DY3) .nil) (.cons (.int .i64) .nil) fun x => ((g68 x.1), ())), (123, .fn (.cons (.slice (.int .i64)) .nil) (.cons (.int .i64) .nil) fun x => ((g123 x.1), ())), (158, .mfn DY3 (.cons (.slice (.slice DY3)) .nil) fun x => g158 x.1), (159, .rfn DY3 .nil 160 fun xs a => g159_160 xs )]
noncomputable def body61 : Code := match Try.f61.body with | some c => c | none => .skip
theorem ty61 : chkTypes Try.prog ts61 = true := by kernel_rfl
theorem ev61 (g68 : (List DT3) → (Int)) (g123 : (List Int) → (Int)) (g158 : (List (List DT3)) → Option (List DT3)) (g159_160 : List DT3 → Option (List DT3)) (k : Nat) (x : ((.cons (.slice DY3) (.cons (.slice DY3) .nil)) : Tys).den) : evFun (mkEnv ts61 (fs61 g68 g123 g158 g159_160)) H61 k body61 65 [.tmp 4, .tmp 5] (explodes (.cons (.slice DY3) (.cons (.slice DY3) .nil)) x) [] (dec (.cons (.slice DY3) (.cons (.int .i64) .nil))) = f61 g68 g123 g158 g159_160 k x.1 x.2.1 := by kernel_rfl
/-! ### slices.Clone[[]jitney/api.Deed,jitney/api.Deed] -/
def f62  (k : Nat) (x0 : List DT3) : Option ((List DT3) × Unit) :=
  bif Nat.ble (List.length x0) 0 then
    none
  else
    bif decide (List.length ([] : List DT3) + List.length x0 ≤ 4294967296) then
      some ((([] : List DT3) ++ x0), ())
    else
      none
def H62 : Hints where
  loop := fun n => match n with
    | _ => none
  region := fun n => match n with
    | _ => none
  cond := fun n => match n with
    | _ => none
  block := fun n => match n with
    | _ => none
def ts62 : List (Nat × TD) := [(94, (.data (.slice DY3)))]
noncomputable def fs62  : List (Nat × FSem) := []
noncomputable def body62 : Code := match Try.f62.body with | some c => c | none => .skip
theorem ty62 : chkTypes Try.prog ts62 = true := by kernel_rfl
theorem ev62  (k : Nat) (x : ((.cons (.slice DY3) .nil) : Tys).den) : evFun (mkEnv ts62 (fs62 )) H62 k body62 8 [.tmp 2] (explodes (.cons (.slice DY3) .nil) x) [] (dec (.cons (.slice DY3) .nil)) = f62  k x.1 := by kernel_rfl
def s62 (l : List DT3) : Option ((List DT3) × Unit) := if l.length ≤ 4294967296 then some (l, ()) else none
/-! ### jitney/net.momentFault -/
def f161 (g68 : (List DT3) → (Int)) (g121 : Int → (Bool)) (k : Nat) (x0 : List DT3) (x1 : Int) : Option (Int × Unit) :=
  bif ((g68 x0) == (0 : Int)) then
    bif (!(g121 x1)) then
      some ((1 : Int), ())
    else
      some ((g68 x0), ())
  else
    some ((g68 x0), ())
def H161 : Hints where
  loop := fun n => match n with
    | _ => none
  region := fun n => match n with
    | _ => none
  cond := fun n => match n with
    | _ => none
  block := fun n => match n with
    | _ => none
abbrev A161 : Tys := (.cons (.slice DY3) (.cons (.int .i64) .nil))
def ts161 : List (Nat × TD) := [(3, (.data (.int .i64))), (28, (.data (.int .i64))), (94, (.data (.slice DY3)))]
noncomputable def fs161 (g68 : (List DT3) → (Int)) (g121 : Int → (Bool)) : List (Nat × FSem) := [(68, .fn (.cons (.slice DY3) .nil) (.cons (.int .i64) .nil) fun x => ((g68 x.1), ())), (121, .fn (.cons (.int .i64) .nil) (.cons .bool .nil) fun x => ((g121 x.1), ()))]
noncomputable def body161 : Code := match Try.f161.body with | some c => c | none => .skip
theorem ty161 : chkTypes Try.prog ts161 = true := by kernel_rfl
theorem ev161 (g68 : (List DT3) → (Int)) (g121 : Int → (Bool)) (k : Nat) (x : ((.cons (.slice DY3) (.cons (.int .i64) .nil)) : Tys).den) : evFun (mkEnv ts161 (fs161 g68 g121)) H161 k body161 16 [.tmp 4] (explodes (.cons (.slice DY3) (.cons (.int .i64) .nil)) x) [] (dec (.cons (.int .i64) .nil)) = f161 g68 g121 k x.1 x.2.1 := by kernel_rfl
/-! ### jitney/net.cars$1 -/
def f230 (g129 : ByteArray → ByteArray → (Int)) (k : Nat) (x0 : DT3) (x1 : DT3) : Option (Int × Unit) :=
  some ((g129 x0.2.2.2.2.2.2.1.1 x1.2.2.2.2.2.2.1.1), ())
def H230 : Hints where
  loop := fun n => match n with
    | _ => none
  region := fun n => match n with
    | _ => none
  cond := fun n => match n with
    | _ => none
  block := fun n => match n with
    | _ => none
abbrev A230 : Tys := (.cons DY3 (.cons DY3 .nil))
def ts230 : List (Nat × TD) := [(3, (.data (.int .i64))), (9, (.data .str)), (96, (.data DY1)), (100, (.data DY3))]
noncomputable def fs230 (g129 : ByteArray → ByteArray → (Int)) : List (Nat × FSem) := [(129, .fn (.cons .str (.cons .str .nil)) (.cons (.int .i64) .nil) fun x => ((g129 x.1 x.2.1), ()))]
noncomputable def body230 : Code := match Try.f230.body with | some c => c | none => .skip
theorem ty230 : chkTypes Try.prog ts230 = true := by kernel_rfl
theorem ev230 (g129 : ByteArray → ByteArray → (Int)) (k : Nat) (x : ((.cons DY3 (.cons DY3 .nil)) : Tys).den) : evFun (mkEnv ts230 (fs230 g129)) H230 k body230 12 [.tmp 4] (explodes (.cons DY3 (.cons DY3 .nil)) x) [] (dec (.cons (.int .i64) .nil)) = f230 g129 k x.1 x.2.1 := by kernel_rfl
/-! ### jitney/net.cars -/
noncomputable def f162 (g159_230 : List DT3 → Option (List DT3)) (k : Nat) (x0 : List DT3) (x1 : Int) : Option ((List DT3) × Unit) :=
  Option.bind (α := ((List DT3) × Unit) ⊕ ((Unit) × ((MapC .str DY3) × Unit))) (iter (σ := (Int × Unit) × ((MapC .str DY3) × Unit)) (τ := ((List DT3) × Unit) ⊕ ((Unit) × ((MapC .str DY3) × Unit))) k (fun y1 =>
      bif (decide (y1.1.1 < ((List.length x0 : Nat) : Int))) then
        bif (inR y1.1.1 ((List.length x0 : Nat) : Int)) then
          bif (decide ((rd (α := DT3) zDT3 x0 y1.1.1).2.2.1 > x1)) then
            some (.inl (((IntKind.i64.wrap (y1.1.1 + (1 : Int))), ()), (y1.2.1, ())))
          else
            bif ((rd (α := DT3) zDT3 x0 y1.1.1).2.2.2.1 == (1 : Int)) then
              some (.inl (((IntKind.i64.wrap (y1.1.1 + (1 : Int))), ()), ((mput (keq .str) ((rd (α := DT3) zDT3 x0 y1.1.1).2.2.2.2.2.2.1.1) (rd (α := DT3) zDT3 x0 y1.1.1) y1.2.1), ())))
            else
              bif ((rd (α := DT3) zDT3 x0 y1.1.1).2.2.2.1 == (2 : Int)) then
                some (.inl (((IntKind.i64.wrap (y1.1.1 + (1 : Int))), ()), ((mdel (keq .str) ((rd (α := DT3) zDT3 x0 y1.1.1).2.2.2.2.1) y1.2.1.1, y1.2.1.2), ())))
              else
                some (.inl (((IntKind.i64.wrap (y1.1.1 + (1 : Int))), ()), (y1.2.1, ())))
        else
          none
      else
        some (.inr (.inr ((), (y1.2.1, ()))))) (((0 : Int), ()), ((([], 0) : MapC .str DY3), ()))) fun r => match r with
  | .inl z => some z
  | .inr z2 =>
    anyOrder z2.2.1.1 fun l7 => Option.bind (α := ((List DT3) × Unit) × (Unit)) (rangeM (α := (ByteArray × DT3 × Nat)) (Y := ((List DT3) × Unit) × (Unit)) (T := ((List DT3) × Unit) × (Unit)) (fun D e4 y3 =>
        bif decide (List.length y3.1.1 + List.length ([e4.2.1]) ≤ 4294967296) then
          some (.inl (((y3.1.1 ++ [e4.2.1]), ()), ()))
        else
          none) (fun D y3 =>
        some (.inr ((y3.1.1, ()), ()))) l7 [] (([], ()), ())) fun z5 =>
      Option.bind (g159_230 z5.1.1) fun v6 =>
      some (v6, ())
def H162 : Hints where
  loop := fun n => match n with
    | 0 => some ({ slots := [(14, (.int .i64))], objs := [(0, (.map .str DY3))], gone := [] }, 0, { slots := [], objs := [(0, (.map .str DY3))], gone := [] })
    | 3 => some ({ slots := [(8, (.row DY3))], objs := [], gone := [] }, 3, { slots := [(8, (.row DY3))], objs := [], gone := [] })
    | _ => none
  region := fun n => match n with
    | _ => none
  cond := fun n => match n with
    | _ => none
  block := fun n => match n with
    | _ => none
abbrev A162 : Tys := (.cons (.slice DY3) (.cons (.int .i64) .nil))
def ts162 : List (Nat × TD) := [(3, (.data (.int .i64))), (9, (.data .str)), (94, (.data (.slice DY3))), (96, (.data DY1)), (100, (.data DY3)), (282, (.map .str DY3))]
noncomputable def fs162 (g159_230 : List DT3 → Option (List DT3)) : List (Nat × FSem) := [(159, .rfn DY3 .nil 230 fun xs a => g159_230 xs )]
noncomputable def body162 : Code := match Try.f162.body with | some c => c | none => .skip
theorem ty162 : chkTypes Try.prog ts162 = true := by kernel_rfl
theorem ev162 (g159_230 : List DT3 → Option (List DT3)) (k : Nat) (x : ((.cons (.slice DY3) (.cons (.int .i64) .nil)) : Tys).den) : evFunR (mkEnv ts162 (fs162 g159_230)) H162 k body162 53 [.tmp 4] (explodes (.cons (.slice DY3) (.cons (.int .i64) .nil)) x) [] (dec (.cons (.slice DY3) .nil)) = f162 g159_230 k x.1 x.2.1 := by kernel_rfl
/-! ### jitney/net.Cars -/
def f63 (g161 : (List DT3) → Int → (Int)) (g162 : (List DT3) → Int → Option ((List DT3) × Unit)) (k : Nat) (x0 : List DT3) (x1 : Int) : Option ((List DT3) × Int × Unit) :=
  bif ((g161 x0 x1) != (0 : Int)) then
    some ([], (g161 x0 x1), ())
  else
    Option.bind (g162 x0 x1) fun v1 =>
    some (v1.1, (0 : Int), ())
def H63 : Hints where
  loop := fun n => match n with
    | _ => none
  region := fun n => match n with
    | _ => none
  cond := fun n => match n with
    | _ => none
  block := fun n => match n with
    | _ => none
abbrev A63 : Tys := (.cons (.slice DY3) (.cons (.int .i64) .nil))
def ts63 : List (Nat × TD) := [(3, (.data (.int .i64))), (28, (.data (.int .i64))), (94, (.data (.slice DY3)))]
noncomputable def fs63 (g161 : (List DT3) → Int → (Int)) (g162 : (List DT3) → Int → Option ((List DT3) × Unit)) : List (Nat × FSem) := [(161, .fn (.cons (.slice DY3) (.cons (.int .i64) .nil)) (.cons (.int .i64) .nil) fun x => ((g161 x.1 x.2.1), ())), (162, .pfn (.cons (.slice DY3) (.cons (.int .i64) .nil)) (.cons (.slice DY3) .nil) fun x => (g162 x.1 x.2.1))]
noncomputable def body63 : Code := match Try.f63.body with | some c => c | none => .skip
theorem ty63 : chkTypes Try.prog ts63 = true := by kernel_rfl
theorem ev63 (g161 : (List DT3) → Int → (Int)) (g162 : (List DT3) → Int → Option ((List DT3) × Unit)) (k : Nat) (x : ((.cons (.slice DY3) (.cons (.int .i64) .nil)) : Tys).den) : evFun (mkEnv ts63 (fs63 g161 g162)) H63 k body63 16 [.tmp 4, .tmp 5] (explodes (.cons (.slice DY3) (.cons (.int .i64) .nil)) x) [] (dec (.cons (.slice DY3) (.cons (.int .i64) .nil))) = f63 g161 g162 k x.1 x.2.1 := by kernel_rfl
/-! ### jitney/net.asked$1 -/
def f232 (g129 : ByteArray → ByteArray → (Int)) (k : Nat) (x0 : DT2) (x1 : DT2) : Option (Int × Unit) :=
  some ((g129 x0.1 x1.1), ())
def H232 : Hints where
  loop := fun n => match n with
    | _ => none
  region := fun n => match n with
    | _ => none
  cond := fun n => match n with
    | _ => none
  block := fun n => match n with
    | _ => none
abbrev A232 : Tys := (.cons DY2 (.cons DY2 .nil))
def ts232 : List (Nat × TD) := [(3, (.data (.int .i64))), (9, (.data .str)), (98, (.data DY2))]
noncomputable def fs232 (g129 : ByteArray → ByteArray → (Int)) : List (Nat × FSem) := [(129, .fn (.cons .str (.cons .str .nil)) (.cons (.int .i64) .nil) fun x => ((g129 x.1 x.2.1), ()))]
noncomputable def body232 : Code := match Try.f232.body with | some c => c | none => .skip
theorem ty232 : chkTypes Try.prog ts232 = true := by kernel_rfl
theorem ev232 (g129 : ByteArray → ByteArray → (Int)) (k : Nat) (x : ((.cons DY2 (.cons DY2 .nil)) : Tys).den) : evFun (mkEnv ts232 (fs232 g129)) H232 k body232 10 [.tmp 4] (explodes (.cons DY2 (.cons DY2 .nil)) x) [] (dec (.cons (.int .i64) .nil)) = f232 g129 k x.1 x.2.1 := by kernel_rfl
/-! ### jitney/net.asked -/
noncomputable def f163 (g231_232 : List DT2 → Option (List DT2)) (k : Nat) (x0 : List DT3) (x1 : Int) : Option ((List DT2) × Unit) :=
  Option.bind (α := ((List DT2) × Unit) ⊕ ((Unit) × ((MapC .str DY2) × Unit))) (iter (σ := (Int × Unit) × ((MapC .str DY2) × Unit)) (τ := ((List DT2) × Unit) ⊕ ((Unit) × ((MapC .str DY2) × Unit))) k (fun y1 =>
      bif (decide (y1.1.1 < ((List.length x0 : Nat) : Int))) then
        bif (inR y1.1.1 ((List.length x0 : Nat) : Int)) then
          bif (decide ((rd (α := DT3) zDT3 x0 y1.1.1).2.2.1 > x1)) then
            some (.inl (((IntKind.i64.wrap (y1.1.1 + (1 : Int))), ()), (y1.2.1, ())))
          else
            bif ((rd (α := DT3) zDT3 x0 y1.1.1).2.2.2.1 == (3 : Int)) then
              some (.inl (((IntKind.i64.wrap (y1.1.1 + (1 : Int))), ()), ((mput (keq .str) ((rd (α := DT3) zDT3 x0 y1.1.1).2.2.2.2.2.2.2.1.1) ((rd (α := DT3) zDT3 x0 y1.1.1).2.2.2.2.2.2.2.1) y1.2.1), ())))
            else
              bif ((rd (α := DT3) zDT3 x0 y1.1.1).2.2.2.1 == (4 : Int)) then
                some (.inl (((IntKind.i64.wrap (y1.1.1 + (1 : Int))), ()), ((mdel (keq .str) ((rd (α := DT3) zDT3 x0 y1.1.1).2.2.2.2.1) y1.2.1.1, y1.2.1.2), ())))
              else
                some (.inl (((IntKind.i64.wrap (y1.1.1 + (1 : Int))), ()), (y1.2.1, ())))
        else
          none
      else
        some (.inr (.inr ((), (y1.2.1, ()))))) (((0 : Int), ()), ((([], 0) : MapC .str DY2), ()))) fun r => match r with
  | .inl z => some z
  | .inr z2 =>
    anyOrder z2.2.1.1 fun l7 => Option.bind (α := ((List DT2) × Unit) × (Unit)) (rangeM (α := (ByteArray × DT2 × Nat)) (Y := ((List DT2) × Unit) × (Unit)) (T := ((List DT2) × Unit) × (Unit)) (fun D e4 y3 =>
        bif decide (List.length y3.1.1 + List.length ([e4.2.1]) ≤ 4294967296) then
          some (.inl (((y3.1.1 ++ [e4.2.1]), ()), ()))
        else
          none) (fun D y3 =>
        some (.inr ((y3.1.1, ()), ()))) l7 [] (([], ()), ())) fun z5 =>
      Option.bind (g231_232 z5.1.1) fun v6 =>
      some (v6, ())
def H163 : Hints where
  loop := fun n => match n with
    | 0 => some ({ slots := [(14, (.int .i64))], objs := [(0, (.map .str DY2))], gone := [] }, 0, { slots := [], objs := [(0, (.map .str DY2))], gone := [] })
    | 3 => some ({ slots := [(8, (.row DY2))], objs := [], gone := [] }, 3, { slots := [(8, (.row DY2))], objs := [], gone := [] })
    | _ => none
  region := fun n => match n with
    | _ => none
  cond := fun n => match n with
    | _ => none
  block := fun n => match n with
    | _ => none
abbrev A163 : Tys := (.cons (.slice DY3) (.cons (.int .i64) .nil))
def ts163 : List (Nat × TD) := [(3, (.data (.int .i64))), (9, (.data .str)), (94, (.data (.slice DY3))), (98, (.data DY2)), (100, (.data DY3)), (106, (.data (.slice DY2))), (283, (.map .str DY2))]
noncomputable def fs163 (g231_232 : List DT2 → Option (List DT2)) : List (Nat × FSem) := [(231, .rfn DY2 .nil 232 fun xs a => g231_232 xs )]
noncomputable def body163 : Code := match Try.f163.body with | some c => c | none => .skip
theorem ty163 : chkTypes Try.prog ts163 = true := by kernel_rfl
theorem ev163 (g231_232 : List DT2 → Option (List DT2)) (k : Nat) (x : ((.cons (.slice DY3) (.cons (.int .i64) .nil)) : Tys).den) : evFunR (mkEnv ts163 (fs163 g231_232)) H163 k body163 54 [.tmp 4] (explodes (.cons (.slice DY3) (.cons (.int .i64) .nil)) x) [] (dec (.cons (.slice DY2) .nil)) = f163 g231_232 k x.1 x.2.1 := by kernel_rfl
/-! ### jitney/net.Asked -/
def f64 (g161 : (List DT3) → Int → (Int)) (g163 : (List DT3) → Int → Option ((List DT2) × Unit)) (k : Nat) (x0 : List DT3) (x1 : Int) : Option ((List DT2) × Int × Unit) :=
  bif ((g161 x0 x1) != (0 : Int)) then
    some ([], (g161 x0 x1), ())
  else
    Option.bind (g163 x0 x1) fun v1 =>
    some (v1.1, (0 : Int), ())
def H64 : Hints where
  loop := fun n => match n with
    | _ => none
  region := fun n => match n with
    | _ => none
  cond := fun n => match n with
    | _ => none
  block := fun n => match n with
    | _ => none
abbrev A64 : Tys := (.cons (.slice DY3) (.cons (.int .i64) .nil))
def ts64 : List (Nat × TD) := [(3, (.data (.int .i64))), (28, (.data (.int .i64))), (94, (.data (.slice DY3))), (106, (.data (.slice DY2)))]
noncomputable def fs64 (g161 : (List DT3) → Int → (Int)) (g163 : (List DT3) → Int → Option ((List DT2) × Unit)) : List (Nat × FSem) := [(161, .fn (.cons (.slice DY3) (.cons (.int .i64) .nil)) (.cons (.int .i64) .nil) fun x => ((g161 x.1 x.2.1), ())), (163, .pfn (.cons (.slice DY3) (.cons (.int .i64) .nil)) (.cons (.slice DY2) .nil) fun x => (g163 x.1 x.2.1))]
noncomputable def body64 : Code := match Try.f64.body with | some c => c | none => .skip
theorem ty64 : chkTypes Try.prog ts64 = true := by kernel_rfl
theorem ev64 (g161 : (List DT3) → Int → (Int)) (g163 : (List DT3) → Int → Option ((List DT2) × Unit)) (k : Nat) (x : ((.cons (.slice DY3) (.cons (.int .i64) .nil)) : Tys).den) : evFun (mkEnv ts64 (fs64 g161 g163)) H64 k body64 16 [.tmp 4, .tmp 5] (explodes (.cons (.slice DY3) (.cons (.int .i64) .nil)) x) [] (dec (.cons (.slice DY2) (.cons (.int .i64) .nil))) = f64 g161 g163 k x.1 x.2.1 := by kernel_rfl
def fm62 (k : Nat) (x0 : List DT3) : Option (List DT3) :=
  bif Nat.ble (List.length x0) 0 then
    none
  else
    bif decide (List.length ([] : List DT3) + List.length x0 ≤ 4294967296) then
      some (([] : List DT3) ++ x0)
    else
      none
def Hm62 : Hints where
  loop := fun n => match n with
    | _ => none
  region := fun n => match n with
    | _ => none
  cond := fun n => match n with
    | _ => none
  block := fun n => match n with
    | _ => none
def tsm62 : List (Nat × TD) := [(94, (.data (.slice DY3)))]
noncomputable def bodym62 : Code := match Try.f62.body with | some c => c | none => .skip
theorem tym62 : chkTypes Try.prog tsm62 = true := by kernel_rfl
theorem evm62 (k : Nat) (x : ((.cons (.slice DY3) .nil) : Tys).den) : evFun (mkEnv tsm62 []) Hm62 k bodym62 8 [.tmp 2] (explodes (.cons (.slice DY3) .nil) x) [] (rowRes DY3) = fm62 k x.1 := by kernel_rfl
def m62 (l : List DT3) : Option (List DT3) := if l.length ≤ 4294967296 then some l else none
/-! ### jitney/jitref2.DeedsOf -/
def f65 (m62 : (List DT3) → Option (List DT3)) (g157 : DT3 → DT3 → (Bool)) (g159_154 : List DT3 → Option (List DT3)) (k : Nat) (x0 : List DT3) (x1 : List DT3) : Option ((List DT3) × Int × Unit) :=
  Option.bind (m62 x0) fun v1 =>
  Option.bind (α := ((List DT3) × Int × Unit) ⊕ (((List DT3) × Unit) × (Unit))) (iter (σ := ((List DT3) × Int × Unit) × (Unit)) (τ := ((List DT3) × Int × Unit) ⊕ (((List DT3) × Unit) × (Unit))) k (fun y2 =>
      bif (decide (y2.1.2.1 < ((List.length x1 : Nat) : Int))) then
        bif (inR y2.1.2.1 ((List.length x1 : Nat) : Int)) then
          Option.bind (α := ((((List DT3) × Int × Unit) × (Unit)) ⊕ (((List DT3) × Int × Unit) ⊕ (((List DT3) × Unit) × (Unit)))) ⊕ ((Int × Unit) × ((List DT3) × DT3 × Unit))) (
              Option.bind (α := (((((List DT3) × Int × Unit) × (Unit)) ⊕ (((List DT3) × Int × Unit) ⊕ (((List DT3) × Unit) × (Unit)))) ⊕ ((Int × Unit) × ((List DT3) × DT3 × Unit))) ⊕ ((Unit) × DT4)) (iter (σ := (Int × Unit) × DT4) (τ := (((((List DT3) × Int × Unit) × (Unit)) ⊕ (((List DT3) × Int × Unit) ⊕ (((List DT3) × Unit) × (Unit)))) ⊕ ((Int × Unit) × ((List DT3) × DT3 × Unit))) ⊕ ((Unit) × DT4)) k (fun y3 =>
                  bif (decide (y3.1.1 < ((List.length y2.1.1 : Nat) : Int))) then
                    bif (inR y3.1.1 ((List.length y2.1.1 : Nat) : Int)) then
                      bif (inR y3.1.1 ((List.length y2.1.1 : Nat) : Int)) then
                        bif (g157 (rd (α := DT3) zDT3 y2.1.1 y3.1.1) (y3.2.1.1, y3.2.1.2.1, y3.2.1.2.2.1, y3.2.1.2.2.2.1, y3.2.1.2.2.2.2.1, y3.2.1.2.2.2.2.2.1, (y3.2.1.2.2.2.2.2.2.1.1, y3.2.1.2.2.2.2.2.2.1.2.1, y3.2.1.2.2.2.2.2.2.1.2.2.1, ()), (y3.2.1.2.2.2.2.2.2.2.1.1, y3.2.1.2.2.2.2.2.2.2.1.2.1, y3.2.1.2.2.2.2.2.2.2.1.2.2.1, y3.2.1.2.2.2.2.2.2.2.1.2.2.2.1, y3.2.1.2.2.2.2.2.2.2.1.2.2.2.2.1, y3.2.1.2.2.2.2.2.2.2.1.2.2.2.2.2.1, y3.2.1.2.2.2.2.2.2.2.1.2.2.2.2.2.2.1, y3.2.1.2.2.2.2.2.2.2.1.2.2.2.2.2.2.2.1, ()), ())) then
                          some (.inr (.inl (.inr ((y3.1.1, ()), (y2.1.1, (y3.2.1.1, y3.2.1.2.1, y3.2.1.2.2.1, y3.2.1.2.2.2.1, y3.2.1.2.2.2.2.1, y3.2.1.2.2.2.2.2.1, (y3.2.1.2.2.2.2.2.2.1.1, y3.2.1.2.2.2.2.2.2.1.2.1, y3.2.1.2.2.2.2.2.2.1.2.2.1, ()), (y3.2.1.2.2.2.2.2.2.2.1.1, y3.2.1.2.2.2.2.2.2.2.1.2.1, y3.2.1.2.2.2.2.2.2.2.1.2.2.1, y3.2.1.2.2.2.2.2.2.2.1.2.2.2.1, y3.2.1.2.2.2.2.2.2.2.1.2.2.2.2.1, y3.2.1.2.2.2.2.2.2.2.1.2.2.2.2.2.1, y3.2.1.2.2.2.2.2.2.2.1.2.2.2.2.2.2.1, y3.2.1.2.2.2.2.2.2.2.1.2.2.2.2.2.2.2.1, ()), ()), ())))))
                        else
                          some (.inl (((IntKind.i64.wrap (y3.1.1 + (1 : Int))), ()), ((y3.2.1.1, y3.2.1.2.1, y3.2.1.2.2.1, y3.2.1.2.2.2.1, y3.2.1.2.2.2.2.1, y3.2.1.2.2.2.2.2.1, (y3.2.1.2.2.2.2.2.2.1.1, y3.2.1.2.2.2.2.2.2.1.2.1, y3.2.1.2.2.2.2.2.2.1.2.2.1, ()), (y3.2.1.2.2.2.2.2.2.2.1.1, y3.2.1.2.2.2.2.2.2.2.1.2.1, y3.2.1.2.2.2.2.2.2.2.1.2.2.1, y3.2.1.2.2.2.2.2.2.2.1.2.2.2.1, y3.2.1.2.2.2.2.2.2.2.1.2.2.2.2.1, y3.2.1.2.2.2.2.2.2.2.1.2.2.2.2.2.1, y3.2.1.2.2.2.2.2.2.2.1.2.2.2.2.2.2.1, y3.2.1.2.2.2.2.2.2.2.1.2.2.2.2.2.2.2.1, ()), ()), ())))
                      else
                        none
                    else
                      none
                  else
                    some (.inr (.inr ((), ((y3.2.1.1, y3.2.1.2.1, y3.2.1.2.2.1, y3.2.1.2.2.2.1, y3.2.1.2.2.2.2.1, y3.2.1.2.2.2.2.2.1, (y3.2.1.2.2.2.2.2.2.1.1, y3.2.1.2.2.2.2.2.2.1.2.1, y3.2.1.2.2.2.2.2.2.1.2.2.1, ()), (y3.2.1.2.2.2.2.2.2.2.1.1, y3.2.1.2.2.2.2.2.2.2.1.2.1, y3.2.1.2.2.2.2.2.2.2.1.2.2.1, y3.2.1.2.2.2.2.2.2.2.1.2.2.2.1, y3.2.1.2.2.2.2.2.2.2.1.2.2.2.2.1, y3.2.1.2.2.2.2.2.2.2.1.2.2.2.2.2.1, y3.2.1.2.2.2.2.2.2.2.1.2.2.2.2.2.2.1, y3.2.1.2.2.2.2.2.2.2.1.2.2.2.2.2.2.2.1, ()), ()), ()))))) (((0 : Int), ()), ((rd (α := DT3) zDT3 x1 y2.1.2.1), ()))) fun r => match r with
              | .inl z => some z
              | .inr z4 =>
                some (.inr (((-1 : Int), ()), (y2.1.1, (z4.2.1.1, z4.2.1.2.1, z4.2.1.2.2.1, z4.2.1.2.2.2.1, z4.2.1.2.2.2.2.1, z4.2.1.2.2.2.2.2.1, (z4.2.1.2.2.2.2.2.2.1.1, z4.2.1.2.2.2.2.2.2.1.2.1, z4.2.1.2.2.2.2.2.2.1.2.2.1, ()), (z4.2.1.2.2.2.2.2.2.2.1.1, z4.2.1.2.2.2.2.2.2.2.1.2.1, z4.2.1.2.2.2.2.2.2.2.1.2.2.1, z4.2.1.2.2.2.2.2.2.2.1.2.2.2.1, z4.2.1.2.2.2.2.2.2.2.1.2.2.2.2.1, z4.2.1.2.2.2.2.2.2.2.1.2.2.2.2.2.1, z4.2.1.2.2.2.2.2.2.2.1.2.2.2.2.2.2.1, z4.2.1.2.2.2.2.2.2.2.1.2.2.2.2.2.2.2.1, ()), ()), ())))) fun r => match r with
          | .inl z => some z
          | .inr y5 =>
            bif (decide (y5.1.1 < (0 : Int))) then
              bif decide (List.length y5.2.1 + List.length ([(y5.2.2.1.1, y5.2.2.1.2.1, y5.2.2.1.2.2.1, y5.2.2.1.2.2.2.1, y5.2.2.1.2.2.2.2.1, y5.2.2.1.2.2.2.2.2.1, (y5.2.2.1.2.2.2.2.2.2.1.1, y5.2.2.1.2.2.2.2.2.2.1.2.1, y5.2.2.1.2.2.2.2.2.2.1.2.2.1, ()), (y5.2.2.1.2.2.2.2.2.2.2.1.1, y5.2.2.1.2.2.2.2.2.2.2.1.2.1, y5.2.2.1.2.2.2.2.2.2.2.1.2.2.1, y5.2.2.1.2.2.2.2.2.2.2.1.2.2.2.1, y5.2.2.1.2.2.2.2.2.2.2.1.2.2.2.2.1, y5.2.2.1.2.2.2.2.2.2.2.1.2.2.2.2.2.1, y5.2.2.1.2.2.2.2.2.2.2.1.2.2.2.2.2.2.1, y5.2.2.1.2.2.2.2.2.2.2.1.2.2.2.2.2.2.2.1, ()), ())]) ≤ 4294967296) then
                some (.inl (((y5.2.1 ++ [(y5.2.2.1.1, y5.2.2.1.2.1, y5.2.2.1.2.2.1, y5.2.2.1.2.2.2.1, y5.2.2.1.2.2.2.2.1, y5.2.2.1.2.2.2.2.2.1, (y5.2.2.1.2.2.2.2.2.2.1.1, y5.2.2.1.2.2.2.2.2.2.1.2.1, y5.2.2.1.2.2.2.2.2.2.1.2.2.1, ()), (y5.2.2.1.2.2.2.2.2.2.2.1.1, y5.2.2.1.2.2.2.2.2.2.2.1.2.1, y5.2.2.1.2.2.2.2.2.2.2.1.2.2.1, y5.2.2.1.2.2.2.2.2.2.2.1.2.2.2.1, y5.2.2.1.2.2.2.2.2.2.2.1.2.2.2.2.1, y5.2.2.1.2.2.2.2.2.2.2.1.2.2.2.2.2.1, y5.2.2.1.2.2.2.2.2.2.2.1.2.2.2.2.2.2.1, y5.2.2.1.2.2.2.2.2.2.2.1.2.2.2.2.2.2.2.1, ()), ())]), (IntKind.i64.wrap (y2.1.2.1 + (1 : Int))), ()), ()))
              else
                none
            else
              bif (inR y5.1.1 ((List.length y5.2.1 : Nat) : Int)) then
                bif (inR y5.1.1 ((List.length y5.2.1 : Nat) : Int)) then
                  bif (!((sEq ((rd (α := DT3) zDT3 y5.2.1 y5.1.1).1) y5.2.2.1.1) && (((rd (α := DT3) zDT3 y5.2.1 y5.1.1).2.1 == y5.2.2.1.2.1) && (((rd (α := DT3) zDT3 y5.2.1 y5.1.1).2.2.1 == y5.2.2.1.2.2.1) && (((rd (α := DT3) zDT3 y5.2.1 y5.1.1).2.2.2.1 == y5.2.2.1.2.2.2.1) && ((sEq ((rd (α := DT3) zDT3 y5.2.1 y5.1.1).2.2.2.2.1) y5.2.2.1.2.2.2.2.1) && ((sEq ((rd (α := DT3) zDT3 y5.2.1 y5.1.1).2.2.2.2.2.1) y5.2.2.1.2.2.2.2.2.1) && (((sEq ((rd (α := DT3) zDT3 y5.2.1 y5.1.1).2.2.2.2.2.2.1.1) y5.2.2.1.2.2.2.2.2.2.1.1) && (((rd (α := DT3) zDT3 y5.2.1 y5.1.1).2.2.2.2.2.2.1.2.1 == y5.2.2.1.2.2.2.2.2.2.1.2.1) && (((rd (α := DT3) zDT3 y5.2.1 y5.1.1).2.2.2.2.2.2.1.2.2.1 == y5.2.2.1.2.2.2.2.2.2.1.2.2.1) && true))) && (((sEq ((rd (α := DT3) zDT3 y5.2.1 y5.1.1).2.2.2.2.2.2.2.1.1) y5.2.2.1.2.2.2.2.2.2.2.1.1) && ((sEq ((rd (α := DT3) zDT3 y5.2.1 y5.1.1).2.2.2.2.2.2.2.1.2.1) y5.2.2.1.2.2.2.2.2.2.2.1.2.1) && ((sEq ((rd (α := DT3) zDT3 y5.2.1 y5.1.1).2.2.2.2.2.2.2.1.2.2.1) y5.2.2.1.2.2.2.2.2.2.2.1.2.2.1) && ((sEq ((rd (α := DT3) zDT3 y5.2.1 y5.1.1).2.2.2.2.2.2.2.1.2.2.2.1) y5.2.2.1.2.2.2.2.2.2.2.1.2.2.2.1) && (((rd (α := DT3) zDT3 y5.2.1 y5.1.1).2.2.2.2.2.2.2.1.2.2.2.2.1 == y5.2.2.1.2.2.2.2.2.2.2.1.2.2.2.2.1) && (((rd (α := DT3) zDT3 y5.2.1 y5.1.1).2.2.2.2.2.2.2.1.2.2.2.2.2.1 == y5.2.2.1.2.2.2.2.2.2.2.1.2.2.2.2.2.1) && (((rd (α := DT3) zDT3 y5.2.1 y5.1.1).2.2.2.2.2.2.2.1.2.2.2.2.2.2.1 == y5.2.2.1.2.2.2.2.2.2.2.1.2.2.2.2.2.2.1) && (((rd (α := DT3) zDT3 y5.2.1 y5.1.1).2.2.2.2.2.2.2.1.2.2.2.2.2.2.2.1 == y5.2.2.1.2.2.2.2.2.2.2.1.2.2.2.2.2.2.2.1) && true)))))))) && true))))))))) then
                    some (.inr (.inl ([], (13 : Int), ())))
                  else
                    some (.inl ((y5.2.1, (IntKind.i64.wrap (y2.1.2.1 + (1 : Int))), ()), ()))
                else
                  none
              else
                none
        else
          none
      else
        some (.inr (.inr ((y2.1.1, ()), ())))) ((v1, (0 : Int), ()), ())) fun r => match r with
  | .inl z => some z
  | .inr z6 =>
    Option.bind (g159_154 z6.1.1) fun v7 =>
    bif (decide (((List.length v7 : Nat) : Int) > (1000 : Int))) then
      some ([], (2 : Int), ())
    else
      some (v7, (0 : Int), ())
def H65 : Hints where
  loop := fun n => match n with
    | 0 => some ({ slots := [(6, (.row DY3)), (14, (.int .i64))], objs := [], gone := [0] }, 0, { slots := [(6, (.row DY3))], objs := [], gone := [0] })
    | _ => none
  region := fun n => match n with
    | 5 => some { slots := [(9, (.int .i64))], objs := [(1, (.row DY3)), (2, (.box (.data DY3) (.agg (.cons .str (.cons (.int .i64) (.cons (.int .i64) (.cons (.int .i64) (.cons .str (.cons .str (.cons (.agg (.cons .str (.cons (.int .i64) (.cons (.int .i64) .nil)))) (.cons (.agg (.cons .str (.cons .str (.cons .str (.cons .str (.cons (.int .i64) (.cons (.int .i64) (.cons (.int .i64) (.cons (.int .i64) .nil))))))))) .nil)))))))))))], gone := [] }
    | _ => none
  cond := fun n => match n with
    | _ => none
  block := fun n => match n with
    | _ => none
def Hi65_165 : Hints where
  loop := fun n => match n with
    | _ => none
  region := fun n => match n with
    | _ => none
  cond := fun n => match n with
    | _ => none
  block := fun n => match n with
    | _ => none
def tsi65_165 : List (Nat × TD) := [(100, (.data DY3))]
noncomputable def bodyi65_165 : Code := match Try.f165.body with | some c => c | none => .skip
noncomputable def fsi65_165 (m62 : (List DT3) → Option (List DT3)) (g157 : DT3 → DT3 → (Bool)) (g159_154 : List DT3 → Option (List DT3)) (k : Nat) : List (Nat × FSem) := [(157, .fn (.cons DY3 (.cons DY3 .nil)) (.cons .bool .nil) fun x => ((g157 x.1 x.2.1), ()))]
theorem tyi65_165 : chkTypes Try.prog tsi65_165 = true := by kernel_rfl
def Hi65_164 : Hints where
  loop := fun n => match n with
    | 0 => some ({ slots := [(8, (.int .i64))], objs := [(1, (.box (.data DY3) (.agg (.cons .str (.cons (.int .i64) (.cons (.int .i64) (.cons (.int .i64) (.cons .str (.cons .str (.cons (.agg (.cons .str (.cons (.int .i64) (.cons (.int .i64) .nil)))) (.cons (.agg (.cons .str (.cons .str (.cons .str (.cons .str (.cons (.int .i64) (.cons (.int .i64) (.cons (.int .i64) (.cons (.int .i64) .nil))))))))) .nil)))))))))))], gone := [] }, 0, { slots := [], objs := [(1, (.box (.data DY3) (.agg (.cons .str (.cons (.int .i64) (.cons (.int .i64) (.cons (.int .i64) (.cons .str (.cons .str (.cons (.agg (.cons .str (.cons (.int .i64) (.cons (.int .i64) .nil)))) (.cons (.agg (.cons .str (.cons .str (.cons .str (.cons .str (.cons (.int .i64) (.cons (.int .i64) (.cons (.int .i64) (.cons (.int .i64) .nil))))))))) .nil)))))))))))], gone := [] })
    | _ => none
  region := fun n => match n with
    | _ => none
  cond := fun n => match n with
    | _ => none
  block := fun n => match n with
    | _ => none
def tsi65_164 : List (Nat × TD) := [(3, (.data (.int .i64))), (94, (.data (.slice DY3))), (100, (.data DY3))]
noncomputable def bodyi65_164 : Code := match Try.f164.body with | some c => c | none => .skip
noncomputable def fsi65_164 (m62 : (List DT3) → Option (List DT3)) (g157 : DT3 → DT3 → (Bool)) (g159_154 : List DT3 → Option (List DT3)) (k : Nat) : List (Nat × FSem) := [(165, .ev (mkEnv tsi65_165 (fsi65_165 m62 g157 g159_154 k)) Hi65_165 k bodyi65_165 7 [.tmp 3])]
theorem tyi65_164 : chkTypes Try.prog tsi65_164 = true := by kernel_rfl
abbrev A65 : Tys := (.cons (.slice DY3) (.cons (.slice DY3) .nil))
def ts65 : List (Nat × TD) := [(3, (.data (.int .i64))), (28, (.data (.int .i64))), (94, (.data (.slice DY3))), (100, (.data DY3))]
noncomputable def fs65 (m62 : (List DT3) → Option (List DT3)) (g157 : DT3 → DT3 → (Bool)) (g159_154 : List DT3 → Option (List DT3)) (k : Nat) : List (Nat × FSem) := [(62, .mfn DY3 (.cons (.slice DY3) .nil) fun x => m62 x.1), (159, .rfn DY3 .nil 154 fun xs a => g159_154 xs ), (164, .ev (mkEnv tsi65_164 (fsi65_164 m62 g157 g159_154 k)) Hi65_164 k bodyi65_164 19 [.tmp 4])]
noncomputable def body65 : Code := match Try.f65.body with | some c => c | none => .skip
theorem ty65 : chkTypes Try.prog ts65 = true := by kernel_rfl
theorem ev65 (m62 : (List DT3) → Option (List DT3)) (g157 : DT3 → DT3 → (Bool)) (g159_154 : List DT3 → Option (List DT3)) (k : Nat) (x : ((.cons (.slice DY3) (.cons (.slice DY3) .nil)) : Tys).den) : evFun (mkEnv ts65 (fs65 m62 g157 g159_154 k)) H65 k body65 40 [.tmp 4, .tmp 5] (explodes (.cons (.slice DY3) (.cons (.slice DY3) .nil)) x) [] (dec (.cons (.slice DY3) (.cons (.int .i64) .nil))) = f65 m62 g157 g159_154 k x.1 x.2.1 := by kernel_rfl
/-! ### jitney/jitref2.about -/
def f233  (k : Nat) (x0 : DT3) : Option (ByteArray × Unit) :=
  bif (x0.2.2.2.1 == (1 : Int)) then
    bif decide (ByteArray.size (ByteArray.mk #[99, 97, 114, 32]) + ByteArray.size x0.2.2.2.2.2.2.1.1 < 4611686018427387904) then
      some (((ByteArray.mk #[99, 97, 114, 32]) ++ x0.2.2.2.2.2.2.1.1), ())
    else
      none
  else
    bif (x0.2.2.2.1 == (2 : Int)) then
      bif decide (ByteArray.size (ByteArray.mk #[99, 97, 114, 32]) + ByteArray.size x0.2.2.2.2.1 < 4611686018427387904) then
        some (((ByteArray.mk #[99, 97, 114, 32]) ++ x0.2.2.2.2.1), ())
      else
        none
    else
      bif (x0.2.2.2.1 == (3 : Int)) then
        bif decide (ByteArray.size (ByteArray.mk #[114, 105, 100, 101, 32]) + ByteArray.size x0.2.2.2.2.2.2.2.1.1 < 4611686018427387904) then
          some (((ByteArray.mk #[114, 105, 100, 101, 32]) ++ x0.2.2.2.2.2.2.2.1.1), ())
        else
          none
      else
        bif decide (ByteArray.size (ByteArray.mk #[114, 105, 100, 101, 32]) + ByteArray.size x0.2.2.2.2.1 < 4611686018427387904) then
          some (((ByteArray.mk #[114, 105, 100, 101, 32]) ++ x0.2.2.2.2.1), ())
        else
          none
def H233 : Hints where
  loop := fun n => match n with
    | _ => none
  region := fun n => match n with
    | _ => none
  cond := fun n => match n with
    | _ => none
  block := fun n => match n with
    | _ => none
abbrev A233 : Tys := (.cons DY3 .nil)
def ts233 : List (Nat × TD) := [(3, (.data (.int .i64))), (9, (.data .str)), (96, (.data DY1)), (98, (.data DY2)), (100, (.data DY3))]
noncomputable def fs233  : List (Nat × FSem) := []
noncomputable def body233 : Code := match Try.f233.body with | some c => c | none => .skip
theorem ty233 : chkTypes Try.prog ts233 = true := by kernel_rfl
theorem ev233  (k : Nat) (x : ((.cons DY3 .nil) : Tys).den) : evFun (mkEnv ts233 (fs233 )) H233 k body233 25 [.tmp 2] (explodes (.cons DY3 .nil) x) [] (dec (.cons .str .nil)) = f233  k x.1 := by kernel_rfl
/-! ### jitney/jitref2.counting$1 -/
def f234 (g129 : ByteArray → ByteArray → (Int)) (g233 : DT3 → Option (ByteArray × Unit)) (k : Nat) (x0 : DT3) (x1 : DT3) : Option (Int × Unit) :=
  Option.bind (g233 x0) fun v1 =>
  Option.bind (g233 x1) fun v2 =>
  some ((g129 v1.1 v2.1), ())
def H234 : Hints where
  loop := fun n => match n with
    | _ => none
  region := fun n => match n with
    | _ => none
  cond := fun n => match n with
    | _ => none
  block := fun n => match n with
    | _ => none
abbrev A234 : Tys := (.cons DY3 (.cons DY3 .nil))
def ts234 : List (Nat × TD) := [(3, (.data (.int .i64))), (100, (.data DY3))]
noncomputable def fs234 (g129 : ByteArray → ByteArray → (Int)) (g233 : DT3 → Option (ByteArray × Unit)) : List (Nat × FSem) := [(129, .fn (.cons .str (.cons .str .nil)) (.cons (.int .i64) .nil) fun x => ((g129 x.1 x.2.1), ())), (233, .pfn (.cons DY3 .nil) (.cons .str .nil) fun x => (g233 x.1))]
noncomputable def body234 : Code := match Try.f234.body with | some c => c | none => .skip
theorem ty234 : chkTypes Try.prog ts234 = true := by kernel_rfl
theorem ev234 (g129 : ByteArray → ByteArray → (Int)) (g233 : DT3 → Option (ByteArray × Unit)) (k : Nat) (x : ((.cons DY3 (.cons DY3 .nil)) : Tys).den) : evFun (mkEnv ts234 (fs234 g129 g233)) H234 k body234 10 [.tmp 4] (explodes (.cons DY3 (.cons DY3 .nil)) x) [] (dec (.cons (.int .i64) .nil)) = f234 g129 g233 k x.1 x.2.1 := by kernel_rfl
/-! ### jitney/jitref2.counting -/
noncomputable def f166 (g159_234 : List DT3 → Option (List DT3)) (g233 : DT3 → Option (ByteArray × Unit)) (k : Nat) (x0 : List DT3) (x1 : Int) (x2 : Int) : Option ((List DT3) × Unit) :=
  Option.bind (α := ((List DT3) × Unit) ⊕ ((Unit) × ((MapC .str DY3) × Unit))) (iter (σ := (Int × Unit) × ((MapC .str DY3) × Unit)) (τ := ((List DT3) × Unit) ⊕ ((Unit) × ((MapC .str DY3) × Unit))) k (fun y1 =>
      bif (decide (y1.1.1 < ((List.length x0 : Nat) : Int))) then
        bif (inR y1.1.1 ((List.length x0 : Nat) : Int)) then
          bif (decide ((rd (α := DT3) zDT3 x0 y1.1.1).2.2.1 ≤ x2)) then
            Option.bind (g233 (rd (α := DT3) zDT3 x0 y1.1.1)) fun v2 =>
            some (.inl (((IntKind.i64.wrap (y1.1.1 + (1 : Int))), ()), ((mput (keq .str) v2.1 (rd (α := DT3) zDT3 x0 y1.1.1) y1.2.1), ())))
          else
            some (.inl (((IntKind.i64.wrap (y1.1.1 + (1 : Int))), ()), (y1.2.1, ())))
        else
          none
      else
        some (.inr (.inr ((), (y1.2.1, ()))))) (((0 : Int), ()), ((([], 0) : MapC .str DY3), ()))) fun r => match r with
  | .inl z => some z
  | .inr z3 =>
    anyOrder z3.2.1.1 fun l8 => Option.bind (α := ((List DT3) × Unit) × (Unit)) (rangeM (α := (ByteArray × DT3 × Nat)) (Y := ((List DT3) × Unit) × (Unit)) (T := ((List DT3) × Unit) × (Unit)) (fun D e5 y4 =>
        bif (e5.2.1.2.2.2.1 == x1) then
          bif decide (List.length y4.1.1 + List.length ([e5.2.1]) ≤ 4294967296) then
            some (.inl (((y4.1.1 ++ [e5.2.1]), ()), ()))
          else
            none
        else
          some (.inl ((y4.1.1, ()), ()))) (fun D y4 =>
        some (.inr ((y4.1.1, ()), ()))) l8 [] (([], ()), ())) fun z6 =>
      Option.bind (g159_234 z6.1.1) fun v7 =>
      some (v7, ())
def H166 : Hints where
  loop := fun n => match n with
    | 0 => some ({ slots := [(16, (.int .i64))], objs := [(0, (.map .str DY3))], gone := [] }, 0, { slots := [], objs := [(0, (.map .str DY3))], gone := [] })
    | 2 => some ({ slots := [(10, (.row DY3))], objs := [], gone := [] }, 2, { slots := [(10, (.row DY3))], objs := [], gone := [] })
    | _ => none
  region := fun n => match n with
    | _ => none
  cond := fun n => match n with
    | _ => none
  block := fun n => match n with
    | _ => none
abbrev A166 : Tys := (.cons (.slice DY3) (.cons (.int .i64) (.cons (.int .i64) .nil)))
def ts166 : List (Nat × TD) := [(3, (.data (.int .i64))), (94, (.data (.slice DY3))), (100, (.data DY3)), (282, (.map .str DY3))]
noncomputable def fs166 (g159_234 : List DT3 → Option (List DT3)) (g233 : DT3 → Option (ByteArray × Unit)) : List (Nat × FSem) := [(159, .rfn DY3 .nil 234 fun xs a => g159_234 xs ), (233, .pfn (.cons DY3 .nil) (.cons .str .nil) fun x => (g233 x.1))]
noncomputable def body166 : Code := match Try.f166.body with | some c => c | none => .skip
theorem ty166 : chkTypes Try.prog ts166 = true := by kernel_rfl
theorem ev166 (g159_234 : List DT3 → Option (List DT3)) (g233 : DT3 → Option (ByteArray × Unit)) (k : Nat) (x : ((.cons (.slice DY3) (.cons (.int .i64) (.cons (.int .i64) .nil))) : Tys).den) : evFunR (mkEnv ts166 (fs166 g159_234 g233)) H166 k body166 46 [.tmp 6] (explodes (.cons (.slice DY3) (.cons (.int .i64) (.cons (.int .i64) .nil))) x) [] (dec (.cons (.slice DY3) .nil)) = f166 g159_234 g233 k x.1 x.2.1 x.2.2.1 := by kernel_rfl
/-! ### jitney/jitref2.CarDeeds -/
def f66 (g166 : (List DT3) → Int → Int → Option ((List DT3) × Unit)) (k : Nat) (x0 : List DT3) (x1 : Int) : Option ((List DT3) × Unit) :=
  Option.bind (g166 x0 (1 : Int) x1) fun v1 =>
  some (v1.1, ())
def H66 : Hints where
  loop := fun n => match n with
    | _ => none
  region := fun n => match n with
    | _ => none
  cond := fun n => match n with
    | _ => none
  block := fun n => match n with
    | _ => none
abbrev A66 : Tys := (.cons (.slice DY3) (.cons (.int .i64) .nil))
def ts66 : List (Nat × TD) := [(3, (.data (.int .i64))), (94, (.data (.slice DY3)))]
noncomputable def fs66 (g166 : (List DT3) → Int → Int → Option ((List DT3) × Unit)) : List (Nat × FSem) := [(166, .pfn (.cons (.slice DY3) (.cons (.int .i64) (.cons (.int .i64) .nil))) (.cons (.slice DY3) .nil) fun x => (g166 x.1 x.2.1 x.2.2.1))]
noncomputable def body66 : Code := match Try.f66.body with | some c => c | none => .skip
theorem ty66 : chkTypes Try.prog ts66 = true := by kernel_rfl
theorem ev66 (g166 : (List DT3) → Int → Int → Option ((List DT3) × Unit)) (k : Nat) (x : ((.cons (.slice DY3) (.cons (.int .i64) .nil)) : Tys).den) : evFun (mkEnv ts66 (fs66 g166)) H66 k body66 8 [.tmp 4] (explodes (.cons (.slice DY3) (.cons (.int .i64) .nil)) x) [] (dec (.cons (.slice DY3) .nil)) = f66 g166 k x.1 x.2.1 := by kernel_rfl
/-! ### jitney/jitref2.AskedOf -/
def f67 (g166 : (List DT3) → Int → Int → Option ((List DT3) × Unit)) (k : Nat) (x0 : List DT3) (x1 : Int) : Option ((List DT2) × Unit) :=
  Option.bind (g166 x0 (3 : Int) x1) fun v1 =>
  Option.bind (α := ((List DT2) × Unit) ⊕ (((List DT2) × Unit) × (Unit))) (iter (σ := ((List DT2) × Int × Unit) × (Unit)) (τ := ((List DT2) × Unit) ⊕ (((List DT2) × Unit) × (Unit))) k (fun y2 =>
      bif (decide (y2.1.2.1 < ((List.length v1.1 : Nat) : Int))) then
        bif (inR y2.1.2.1 ((List.length v1.1 : Nat) : Int)) then
          bif decide (List.length y2.1.1 + List.length ([(rd (α := DT3) zDT3 v1.1 y2.1.2.1).2.2.2.2.2.2.2.1]) ≤ 4294967296) then
            some (.inl (((y2.1.1 ++ [(rd (α := DT3) zDT3 v1.1 y2.1.2.1).2.2.2.2.2.2.2.1]), (IntKind.i64.wrap (y2.1.2.1 + (1 : Int))), ()), ()))
          else
            none
        else
          none
      else
        some (.inr (.inr ((y2.1.1, ()), ())))) (([], (0 : Int), ()), ())) fun r => match r with
  | .inl z => some z
  | .inr z3 =>
    some (z3.1.1, ())
def H67 : Hints where
  loop := fun n => match n with
    | 0 => some ({ slots := [(5, (.row DY2)), (12, (.int .i64))], objs := [], gone := [] }, 0, { slots := [(5, (.row DY2))], objs := [], gone := [] })
    | _ => none
  region := fun n => match n with
    | _ => none
  cond := fun n => match n with
    | _ => none
  block := fun n => match n with
    | _ => none
abbrev A67 : Tys := (.cons (.slice DY3) (.cons (.int .i64) .nil))
def ts67 : List (Nat × TD) := [(3, (.data (.int .i64))), (94, (.data (.slice DY3))), (98, (.data DY2)), (100, (.data DY3)), (106, (.data (.slice DY2)))]
noncomputable def fs67 (g166 : (List DT3) → Int → Int → Option ((List DT3) × Unit)) : List (Nat × FSem) := [(166, .pfn (.cons (.slice DY3) (.cons (.int .i64) (.cons (.int .i64) .nil))) (.cons (.slice DY3) .nil) fun x => (g166 x.1 x.2.1 x.2.2.1))]
noncomputable def body67 : Code := match Try.f67.body with | some c => c | none => .skip
theorem ty67 : chkTypes Try.prog ts67 = true := by kernel_rfl
theorem ev67 (g166 : (List DT3) → Int → Int → Option ((List DT3) × Unit)) (k : Nat) (x : ((.cons (.slice DY3) (.cons (.int .i64) .nil)) : Tys).den) : evFun (mkEnv ts67 (fs67 g166)) H67 k body67 23 [.tmp 4] (explodes (.cons (.slice DY3) (.cons (.int .i64) .nil)) x) [] (dec (.cons (.slice DY2) .nil)) = f67 g166 k x.1 x.2.1 := by kernel_rfl
/-! ### slices.Equal[[]jitney/api.Deed,jitney/api.Deed] -/
def f69  (k : Nat) (x0 : List DT3) (x1 : List DT3) : Option (Bool × Unit) :=
  bif (((List.length x0 : Nat) : Int) != ((List.length x1 : Nat) : Int)) then
    some (false, ())
  else
    Option.bind (α := (Bool × Unit) ⊕ ((Unit) × (Unit))) (iter (σ := (Int × Unit) × (Unit)) (τ := (Bool × Unit) ⊕ ((Unit) × (Unit))) k (fun y1 =>
        bif (decide (y1.1.1 < ((List.length x0 : Nat) : Int))) then
          bif (inR y1.1.1 ((List.length x0 : Nat) : Int)) then
            bif (inR y1.1.1 ((List.length x1 : Nat) : Int)) then
              bif (!((sEq ((rd (α := DT3) zDT3 x0 y1.1.1).1) ((rd (α := DT3) zDT3 x1 y1.1.1).1)) && (((rd (α := DT3) zDT3 x0 y1.1.1).2.1 == (rd (α := DT3) zDT3 x1 y1.1.1).2.1) && (((rd (α := DT3) zDT3 x0 y1.1.1).2.2.1 == (rd (α := DT3) zDT3 x1 y1.1.1).2.2.1) && (((rd (α := DT3) zDT3 x0 y1.1.1).2.2.2.1 == (rd (α := DT3) zDT3 x1 y1.1.1).2.2.2.1) && ((sEq ((rd (α := DT3) zDT3 x0 y1.1.1).2.2.2.2.1) ((rd (α := DT3) zDT3 x1 y1.1.1).2.2.2.2.1)) && ((sEq ((rd (α := DT3) zDT3 x0 y1.1.1).2.2.2.2.2.1) ((rd (α := DT3) zDT3 x1 y1.1.1).2.2.2.2.2.1)) && (((sEq ((rd (α := DT3) zDT3 x0 y1.1.1).2.2.2.2.2.2.1.1) ((rd (α := DT3) zDT3 x1 y1.1.1).2.2.2.2.2.2.1.1)) && (((rd (α := DT3) zDT3 x0 y1.1.1).2.2.2.2.2.2.1.2.1 == (rd (α := DT3) zDT3 x1 y1.1.1).2.2.2.2.2.2.1.2.1) && (((rd (α := DT3) zDT3 x0 y1.1.1).2.2.2.2.2.2.1.2.2.1 == (rd (α := DT3) zDT3 x1 y1.1.1).2.2.2.2.2.2.1.2.2.1) && true))) && (((sEq ((rd (α := DT3) zDT3 x0 y1.1.1).2.2.2.2.2.2.2.1.1) ((rd (α := DT3) zDT3 x1 y1.1.1).2.2.2.2.2.2.2.1.1)) && ((sEq ((rd (α := DT3) zDT3 x0 y1.1.1).2.2.2.2.2.2.2.1.2.1) ((rd (α := DT3) zDT3 x1 y1.1.1).2.2.2.2.2.2.2.1.2.1)) && ((sEq ((rd (α := DT3) zDT3 x0 y1.1.1).2.2.2.2.2.2.2.1.2.2.1) ((rd (α := DT3) zDT3 x1 y1.1.1).2.2.2.2.2.2.2.1.2.2.1)) && ((sEq ((rd (α := DT3) zDT3 x0 y1.1.1).2.2.2.2.2.2.2.1.2.2.2.1) ((rd (α := DT3) zDT3 x1 y1.1.1).2.2.2.2.2.2.2.1.2.2.2.1)) && (((rd (α := DT3) zDT3 x0 y1.1.1).2.2.2.2.2.2.2.1.2.2.2.2.1 == (rd (α := DT3) zDT3 x1 y1.1.1).2.2.2.2.2.2.2.1.2.2.2.2.1) && (((rd (α := DT3) zDT3 x0 y1.1.1).2.2.2.2.2.2.2.1.2.2.2.2.2.1 == (rd (α := DT3) zDT3 x1 y1.1.1).2.2.2.2.2.2.2.1.2.2.2.2.2.1) && (((rd (α := DT3) zDT3 x0 y1.1.1).2.2.2.2.2.2.2.1.2.2.2.2.2.2.1 == (rd (α := DT3) zDT3 x1 y1.1.1).2.2.2.2.2.2.2.1.2.2.2.2.2.2.1) && (((rd (α := DT3) zDT3 x0 y1.1.1).2.2.2.2.2.2.2.1.2.2.2.2.2.2.2.1 == (rd (α := DT3) zDT3 x1 y1.1.1).2.2.2.2.2.2.2.1.2.2.2.2.2.2.2.1) && true)))))))) && true))))))))) then
                some (.inr (.inl (false, ())))
              else
                some (.inl (((IntKind.i64.wrap (y1.1.1 + (1 : Int))), ()), ()))
            else
              none
          else
            none
        else
          some (.inr (.inr ((), ())))) (((0 : Int), ()), ())) fun r => match r with
    | .inl z => some z
    | .inr z2 =>
      some (true, ())
def H69 : Hints where
  loop := fun n => match n with
    | 0 => some ({ slots := [(13, (.int .i64))], objs := [], gone := [] }, 0, { slots := [], objs := [], gone := [] })
    | _ => none
  region := fun n => match n with
    | _ => none
  cond := fun n => match n with
    | _ => none
  block := fun n => match n with
    | _ => none
abbrev A69 : Tys := (.cons (.slice DY3) (.cons (.slice DY3) .nil))
def ts69 : List (Nat × TD) := [(3, (.data (.int .i64))), (4, (.data .bool)), (94, (.data (.slice DY3))), (100, (.data DY3))]
noncomputable def fs69  : List (Nat × FSem) := []
noncomputable def body69 : Code := match Try.f69.body with | some c => c | none => .skip
theorem ty69 : chkTypes Try.prog ts69 = true := by kernel_rfl
theorem ev69  (k : Nat) (x : ((.cons (.slice DY3) (.cons (.slice DY3) .nil)) : Tys).den) : evFun (mkEnv ts69 (fs69 )) H69 k body69 26 [.tmp 4] (explodes (.cons (.slice DY3) (.cons (.slice DY3) .nil)) x) [] (dec (.cons .bool .nil)) = f69  k x.1 x.2.1 := by kernel_rfl
/-! ### slices.Equal[[]jitney/api.Ride,jitney/api.Ride] -/
def f70  (k : Nat) (x0 : List DT2) (x1 : List DT2) : Option (Bool × Unit) :=
  bif (((List.length x0 : Nat) : Int) != ((List.length x1 : Nat) : Int)) then
    some (false, ())
  else
    Option.bind (α := (Bool × Unit) ⊕ ((Unit) × (Unit))) (iter (σ := (Int × Unit) × (Unit)) (τ := (Bool × Unit) ⊕ ((Unit) × (Unit))) k (fun y1 =>
        bif (decide (y1.1.1 < ((List.length x0 : Nat) : Int))) then
          bif (inR y1.1.1 ((List.length x0 : Nat) : Int)) then
            bif (inR y1.1.1 ((List.length x1 : Nat) : Int)) then
              bif (!((sEq ((rd (α := DT2) zDT2 x0 y1.1.1).1) ((rd (α := DT2) zDT2 x1 y1.1.1).1)) && ((sEq ((rd (α := DT2) zDT2 x0 y1.1.1).2.1) ((rd (α := DT2) zDT2 x1 y1.1.1).2.1)) && ((sEq ((rd (α := DT2) zDT2 x0 y1.1.1).2.2.1) ((rd (α := DT2) zDT2 x1 y1.1.1).2.2.1)) && ((sEq ((rd (α := DT2) zDT2 x0 y1.1.1).2.2.2.1) ((rd (α := DT2) zDT2 x1 y1.1.1).2.2.2.1)) && (((rd (α := DT2) zDT2 x0 y1.1.1).2.2.2.2.1 == (rd (α := DT2) zDT2 x1 y1.1.1).2.2.2.2.1) && (((rd (α := DT2) zDT2 x0 y1.1.1).2.2.2.2.2.1 == (rd (α := DT2) zDT2 x1 y1.1.1).2.2.2.2.2.1) && (((rd (α := DT2) zDT2 x0 y1.1.1).2.2.2.2.2.2.1 == (rd (α := DT2) zDT2 x1 y1.1.1).2.2.2.2.2.2.1) && (((rd (α := DT2) zDT2 x0 y1.1.1).2.2.2.2.2.2.2.1 == (rd (α := DT2) zDT2 x1 y1.1.1).2.2.2.2.2.2.2.1) && true))))))))) then
                some (.inr (.inl (false, ())))
              else
                some (.inl (((IntKind.i64.wrap (y1.1.1 + (1 : Int))), ()), ()))
            else
              none
          else
            none
        else
          some (.inr (.inr ((), ())))) (((0 : Int), ()), ())) fun r => match r with
    | .inl z => some z
    | .inr z2 =>
      some (true, ())
def H70 : Hints where
  loop := fun n => match n with
    | 0 => some ({ slots := [(13, (.int .i64))], objs := [], gone := [] }, 0, { slots := [], objs := [], gone := [] })
    | _ => none
  region := fun n => match n with
    | _ => none
  cond := fun n => match n with
    | _ => none
  block := fun n => match n with
    | _ => none
abbrev A70 : Tys := (.cons (.slice DY2) (.cons (.slice DY2) .nil))
def ts70 : List (Nat × TD) := [(3, (.data (.int .i64))), (4, (.data .bool)), (98, (.data DY2)), (106, (.data (.slice DY2)))]
noncomputable def fs70  : List (Nat × FSem) := []
noncomputable def body70 : Code := match Try.f70.body with | some c => c | none => .skip
theorem ty70 : chkTypes Try.prog ts70 = true := by kernel_rfl
theorem ev70  (k : Nat) (x : ((.cons (.slice DY2) (.cons (.slice DY2) .nil)) : Tys).den) : evFun (mkEnv ts70 (fs70 )) H70 k body70 26 [.tmp 4] (explodes (.cons (.slice DY2) (.cons (.slice DY2) .nil)) x) [] (dec (.cons .bool .nil)) = f70  k x.1 x.2.1 := by kernel_rfl
/-! ### jitney/net.Write -/
def f71 (m62 : (List DT3) → Option (List DT3)) (g68 : (List DT3) → (Int)) (g160 : DT3 → DT3 → (Int)) (g167 : DT3 → (Int)) (k : Nat) (x0 : List DT3) (x1 : DT3) : Option ((List DT3) × Int × Unit) :=
  bif ((g68 x0) != (0 : Int)) then
    some ([], (g68 x0), ())
  else
    bif (x1.2.1 != (0 : Int)) then
      some ([], (3 : Int), ())
    else
      Option.bind (α := ((List DT3) × Int × Unit) ⊕ ((Unit) × DT4)) (iter (σ := (Int × Unit) × DT4) (τ := ((List DT3) × Int × Unit) ⊕ ((Unit) × DT4)) k (fun y1 =>
          bif (decide (y1.1.1 < ((List.length x0 : Nat) : Int))) then
            bif (inR y1.1.1 ((List.length x0 : Nat) : Int)) then
              bif (sEq ((rd (α := DT3) zDT3 x0 y1.1.1).1) y1.2.1.1) then
                some (.inl (((IntKind.i64.wrap (y1.1.1 + (1 : Int))), ()), ((y1.2.1.1, (if (decide ((rd (α := DT3) zDT3 x0 y1.1.1).2.1 > y1.2.1.2.1)) then (rd (α := DT3) zDT3 x0 y1.1.1).2.1 else y1.2.1.2.1), y1.2.1.2.2.1, y1.2.1.2.2.2.1, y1.2.1.2.2.2.2.1, y1.2.1.2.2.2.2.2.1, (y1.2.1.2.2.2.2.2.2.1.1, y1.2.1.2.2.2.2.2.2.1.2.1, y1.2.1.2.2.2.2.2.2.1.2.2.1, ()), (y1.2.1.2.2.2.2.2.2.2.1.1, y1.2.1.2.2.2.2.2.2.2.1.2.1, y1.2.1.2.2.2.2.2.2.2.1.2.2.1, y1.2.1.2.2.2.2.2.2.2.1.2.2.2.1, y1.2.1.2.2.2.2.2.2.2.1.2.2.2.2.1, y1.2.1.2.2.2.2.2.2.2.1.2.2.2.2.2.1, y1.2.1.2.2.2.2.2.2.2.1.2.2.2.2.2.2.1, y1.2.1.2.2.2.2.2.2.2.1.2.2.2.2.2.2.2.1, ()), ()), ())))
              else
                some (.inl (((IntKind.i64.wrap (y1.1.1 + (1 : Int))), ()), ((y1.2.1.1, y1.2.1.2.1, y1.2.1.2.2.1, y1.2.1.2.2.2.1, y1.2.1.2.2.2.2.1, y1.2.1.2.2.2.2.2.1, (y1.2.1.2.2.2.2.2.2.1.1, y1.2.1.2.2.2.2.2.2.1.2.1, y1.2.1.2.2.2.2.2.2.1.2.2.1, ()), (y1.2.1.2.2.2.2.2.2.2.1.1, y1.2.1.2.2.2.2.2.2.2.1.2.1, y1.2.1.2.2.2.2.2.2.2.1.2.2.1, y1.2.1.2.2.2.2.2.2.2.1.2.2.2.1, y1.2.1.2.2.2.2.2.2.2.1.2.2.2.2.1, y1.2.1.2.2.2.2.2.2.2.1.2.2.2.2.2.1, y1.2.1.2.2.2.2.2.2.2.1.2.2.2.2.2.2.1, y1.2.1.2.2.2.2.2.2.2.1.2.2.2.2.2.2.2.1, ()), ()), ())))
            else
              none
          else
            some (.inr (.inr ((), ((y1.2.1.1, y1.2.1.2.1, y1.2.1.2.2.1, y1.2.1.2.2.2.1, y1.2.1.2.2.2.2.1, y1.2.1.2.2.2.2.2.1, (y1.2.1.2.2.2.2.2.2.1.1, y1.2.1.2.2.2.2.2.2.1.2.1, y1.2.1.2.2.2.2.2.2.1.2.2.1, ()), (y1.2.1.2.2.2.2.2.2.2.1.1, y1.2.1.2.2.2.2.2.2.2.1.2.1, y1.2.1.2.2.2.2.2.2.2.1.2.2.1, y1.2.1.2.2.2.2.2.2.2.1.2.2.2.1, y1.2.1.2.2.2.2.2.2.2.1.2.2.2.2.1, y1.2.1.2.2.2.2.2.2.2.1.2.2.2.2.2.1, y1.2.1.2.2.2.2.2.2.2.1.2.2.2.2.2.2.1, y1.2.1.2.2.2.2.2.2.2.1.2.2.2.2.2.2.2.1, ()), ()), ()))))) (((0 : Int), ()), (x1, ()))) fun r => match r with
      | .inl z => some z
      | .inr z2 =>
        bif ((g167 (z2.2.1.1, (IntKind.i64.wrap (z2.2.1.2.1 + (1 : Int))), z2.2.1.2.2.1, z2.2.1.2.2.2.1, z2.2.1.2.2.2.2.1, z2.2.1.2.2.2.2.2.1, (z2.2.1.2.2.2.2.2.2.1.1, z2.2.1.2.2.2.2.2.2.1.2.1, z2.2.1.2.2.2.2.2.2.1.2.2.1, ()), (z2.2.1.2.2.2.2.2.2.2.1.1, z2.2.1.2.2.2.2.2.2.2.1.2.1, z2.2.1.2.2.2.2.2.2.2.1.2.2.1, z2.2.1.2.2.2.2.2.2.2.1.2.2.2.1, z2.2.1.2.2.2.2.2.2.2.1.2.2.2.2.1, z2.2.1.2.2.2.2.2.2.2.1.2.2.2.2.2.1, z2.2.1.2.2.2.2.2.2.2.1.2.2.2.2.2.2.1, z2.2.1.2.2.2.2.2.2.2.1.2.2.2.2.2.2.2.1, ()), ())) != (0 : Int)) then
          some ([], (g167 (z2.2.1.1, (IntKind.i64.wrap (z2.2.1.2.1 + (1 : Int))), z2.2.1.2.2.1, z2.2.1.2.2.2.1, z2.2.1.2.2.2.2.1, z2.2.1.2.2.2.2.2.1, (z2.2.1.2.2.2.2.2.2.1.1, z2.2.1.2.2.2.2.2.2.1.2.1, z2.2.1.2.2.2.2.2.2.1.2.2.1, ()), (z2.2.1.2.2.2.2.2.2.2.1.1, z2.2.1.2.2.2.2.2.2.2.1.2.1, z2.2.1.2.2.2.2.2.2.2.1.2.2.1, z2.2.1.2.2.2.2.2.2.2.1.2.2.2.1, z2.2.1.2.2.2.2.2.2.2.1.2.2.2.2.1, z2.2.1.2.2.2.2.2.2.2.1.2.2.2.2.2.1, z2.2.1.2.2.2.2.2.2.2.1.2.2.2.2.2.2.1, z2.2.1.2.2.2.2.2.2.2.1.2.2.2.2.2.2.2.1, ()), ())), ())
        else
          Option.bind (α := ((List DT3) × Int × Unit) ⊕ ((Bool × Unit) × (Unit))) (
              bif (decide (((List.length x0 : Nat) : Int) > (0 : Int))) then
                bif (inR (IntKind.i64.wrap (((List.length x0 : Nat) : Int) - (1 : Int))) ((List.length x0 : Nat) : Int)) then
                  some (.inr (((decide ((g160 (z2.2.1.1, (IntKind.i64.wrap (z2.2.1.2.1 + (1 : Int))), z2.2.1.2.2.1, z2.2.1.2.2.2.1, z2.2.1.2.2.2.2.1, z2.2.1.2.2.2.2.2.1, (z2.2.1.2.2.2.2.2.2.1.1, z2.2.1.2.2.2.2.2.2.1.2.1, z2.2.1.2.2.2.2.2.2.1.2.2.1, ()), (z2.2.1.2.2.2.2.2.2.2.1.1, z2.2.1.2.2.2.2.2.2.2.1.2.1, z2.2.1.2.2.2.2.2.2.2.1.2.2.1, z2.2.1.2.2.2.2.2.2.2.1.2.2.2.1, z2.2.1.2.2.2.2.2.2.2.1.2.2.2.2.1, z2.2.1.2.2.2.2.2.2.2.1.2.2.2.2.2.1, z2.2.1.2.2.2.2.2.2.2.1.2.2.2.2.2.2.1, z2.2.1.2.2.2.2.2.2.2.1.2.2.2.2.2.2.2.1, ()), ()) (rd (α := DT3) zDT3 x0 (IntKind.i64.wrap (((List.length x0 : Nat) : Int) - (1 : Int))))) ≤ (0 : Int))), ()), ()))
                else
                  none
              else
                some (.inr ((false, ()), ()))) fun r => match r with
          | .inl z => some z
          | .inr y3 =>
            bif y3.1.1 then
              some ([], (7 : Int), ())
            else
              bif (decide (((List.length x0 : Nat) : Int) ≥ (1000 : Int))) then
                some ([], (2 : Int), ())
              else
                Option.bind (m62 x0) fun v4 =>
                bif decide (List.length v4 + List.length ([(z2.2.1.1, (IntKind.i64.wrap (z2.2.1.2.1 + (1 : Int))), z2.2.1.2.2.1, z2.2.1.2.2.2.1, z2.2.1.2.2.2.2.1, z2.2.1.2.2.2.2.2.1, (z2.2.1.2.2.2.2.2.2.1.1, z2.2.1.2.2.2.2.2.2.1.2.1, z2.2.1.2.2.2.2.2.2.1.2.2.1, ()), (z2.2.1.2.2.2.2.2.2.2.1.1, z2.2.1.2.2.2.2.2.2.2.1.2.1, z2.2.1.2.2.2.2.2.2.2.1.2.2.1, z2.2.1.2.2.2.2.2.2.2.1.2.2.2.1, z2.2.1.2.2.2.2.2.2.2.1.2.2.2.2.1, z2.2.1.2.2.2.2.2.2.2.1.2.2.2.2.2.1, z2.2.1.2.2.2.2.2.2.2.1.2.2.2.2.2.2.1, z2.2.1.2.2.2.2.2.2.2.1.2.2.2.2.2.2.2.1, ()), ())]) ≤ 4294967296) then
                  some ((v4 ++ [(z2.2.1.1, (IntKind.i64.wrap (z2.2.1.2.1 + (1 : Int))), z2.2.1.2.2.1, z2.2.1.2.2.2.1, z2.2.1.2.2.2.2.1, z2.2.1.2.2.2.2.2.1, (z2.2.1.2.2.2.2.2.2.1.1, z2.2.1.2.2.2.2.2.2.1.2.1, z2.2.1.2.2.2.2.2.2.1.2.2.1, ()), (z2.2.1.2.2.2.2.2.2.2.1.1, z2.2.1.2.2.2.2.2.2.2.1.2.1, z2.2.1.2.2.2.2.2.2.2.1.2.2.1, z2.2.1.2.2.2.2.2.2.2.1.2.2.2.1, z2.2.1.2.2.2.2.2.2.2.1.2.2.2.2.1, z2.2.1.2.2.2.2.2.2.2.1.2.2.2.2.2.1, z2.2.1.2.2.2.2.2.2.2.1.2.2.2.2.2.2.1, z2.2.1.2.2.2.2.2.2.2.1.2.2.2.2.2.2.2.1, ()), ())]), (0 : Int), ())
                else
                  none
def H71 : Hints where
  loop := fun n => match n with
    | 0 => some ({ slots := [(21, (.int .i64))], objs := [(0, (.box (.data DY3) (.agg (.cons .str (.cons (.int .i64) (.cons (.int .i64) (.cons (.int .i64) (.cons .str (.cons .str (.cons (.agg (.cons .str (.cons (.int .i64) (.cons (.int .i64) .nil)))) (.cons (.agg (.cons .str (.cons .str (.cons .str (.cons .str (.cons (.int .i64) (.cons (.int .i64) (.cons (.int .i64) (.cons (.int .i64) .nil))))))))) .nil)))))))))))], gone := [] }, 0, { slots := [], objs := [(0, (.box (.data DY3) (.agg (.cons .str (.cons (.int .i64) (.cons (.int .i64) (.cons (.int .i64) (.cons .str (.cons .str (.cons (.agg (.cons .str (.cons (.int .i64) (.cons (.int .i64) .nil)))) (.cons (.agg (.cons .str (.cons .str (.cons .str (.cons .str (.cons (.int .i64) (.cons (.int .i64) (.cons (.int .i64) (.cons (.int .i64) .nil))))))))) .nil)))))))))))], gone := [] })
    | _ => none
  region := fun n => match n with
    | 17 => some { slots := [(48, .bool)], objs := [], gone := [] }
    | _ => none
  cond := fun n => match n with
    | _ => none
  block := fun n => match n with
    | _ => none
abbrev A71 : Tys := (.cons (.slice DY3) (.cons DY3 .nil))
def ts71 : List (Nat × TD) := [(3, (.data (.int .i64))), (9, (.data .str)), (28, (.data (.int .i64))), (94, (.data (.slice DY3))), (100, (.data DY3))]
noncomputable def fs71 (m62 : (List DT3) → Option (List DT3)) (g68 : (List DT3) → (Int)) (g160 : DT3 → DT3 → (Int)) (g167 : DT3 → (Int)) : List (Nat × FSem) := [(62, .mfn DY3 (.cons (.slice DY3) .nil) fun x => m62 x.1), (68, .fn (.cons (.slice DY3) .nil) (.cons (.int .i64) .nil) fun x => ((g68 x.1), ())), (160, .fn (.cons DY3 (.cons DY3 .nil)) (.cons (.int .i64) .nil) fun x => ((g160 x.1 x.2.1), ())), (167, .fn (.cons DY3 .nil) (.cons (.int .i64) .nil) fun x => ((g167 x.1), ()))]
noncomputable def body71 : Code := match Try.f71.body with | some c => c | none => .skip
theorem ty71 : chkTypes Try.prog ts71 = true := by kernel_rfl
theorem ev71 (m62 : (List DT3) → Option (List DT3)) (g68 : (List DT3) → (Int)) (g160 : DT3 → DT3 → (Int)) (g167 : DT3 → (Int)) (k : Nat) (x : ((.cons (.slice DY3) (.cons DY3 .nil)) : Tys).den) : evFun (mkEnv ts71 (fs71 m62 g68 g160 g167)) H71 k body71 69 [.tmp 4, .tmp 5] (explodes (.cons (.slice DY3) (.cons DY3 .nil)) x) [] (dec (.cons (.slice DY3) (.cons (.int .i64) .nil))) = f71 m62 g68 g160 g167 k x.1 x.2.1 := by kernel_rfl
/-! ### jitney/jitref2.WriteDeed -/
def f72 (m62 : (List DT3) → Option (List DT3)) (g153 : DT3 → (Int)) (g154 : DT3 → DT3 → (Int)) (k : Nat) (x0 : List DT3) (x1 : DT3) : Option ((List DT3) × Int × Unit) :=
  bif (x1.2.1 != (0 : Int)) then
    some ([], (3 : Int), ())
  else
    Option.bind (α := ((List DT3) × Int × Unit) ⊕ ((Unit) × DT4)) (iter (σ := (Int × Unit) × DT4) (τ := ((List DT3) × Int × Unit) ⊕ ((Unit) × DT4)) k (fun y1 =>
        bif (decide (y1.1.1 < ((List.length x0 : Nat) : Int))) then
          bif (inR y1.1.1 ((List.length x0 : Nat) : Int)) then
            bif (sEq ((rd (α := DT3) zDT3 x0 y1.1.1).1) y1.2.1.1) then
              some (.inl (((IntKind.i64.wrap (y1.1.1 + (1 : Int))), ()), ((y1.2.1.1, (if (decide ((rd (α := DT3) zDT3 x0 y1.1.1).2.1 > y1.2.1.2.1)) then (rd (α := DT3) zDT3 x0 y1.1.1).2.1 else y1.2.1.2.1), y1.2.1.2.2.1, y1.2.1.2.2.2.1, y1.2.1.2.2.2.2.1, y1.2.1.2.2.2.2.2.1, (y1.2.1.2.2.2.2.2.2.1.1, y1.2.1.2.2.2.2.2.2.1.2.1, y1.2.1.2.2.2.2.2.2.1.2.2.1, ()), (y1.2.1.2.2.2.2.2.2.2.1.1, y1.2.1.2.2.2.2.2.2.2.1.2.1, y1.2.1.2.2.2.2.2.2.2.1.2.2.1, y1.2.1.2.2.2.2.2.2.2.1.2.2.2.1, y1.2.1.2.2.2.2.2.2.2.1.2.2.2.2.1, y1.2.1.2.2.2.2.2.2.2.1.2.2.2.2.2.1, y1.2.1.2.2.2.2.2.2.2.1.2.2.2.2.2.2.1, y1.2.1.2.2.2.2.2.2.2.1.2.2.2.2.2.2.2.1, ()), ()), ())))
            else
              some (.inl (((IntKind.i64.wrap (y1.1.1 + (1 : Int))), ()), ((y1.2.1.1, y1.2.1.2.1, y1.2.1.2.2.1, y1.2.1.2.2.2.1, y1.2.1.2.2.2.2.1, y1.2.1.2.2.2.2.2.1, (y1.2.1.2.2.2.2.2.2.1.1, y1.2.1.2.2.2.2.2.2.1.2.1, y1.2.1.2.2.2.2.2.2.1.2.2.1, ()), (y1.2.1.2.2.2.2.2.2.2.1.1, y1.2.1.2.2.2.2.2.2.2.1.2.1, y1.2.1.2.2.2.2.2.2.2.1.2.2.1, y1.2.1.2.2.2.2.2.2.2.1.2.2.2.1, y1.2.1.2.2.2.2.2.2.2.1.2.2.2.2.1, y1.2.1.2.2.2.2.2.2.2.1.2.2.2.2.2.1, y1.2.1.2.2.2.2.2.2.2.1.2.2.2.2.2.2.1, y1.2.1.2.2.2.2.2.2.2.1.2.2.2.2.2.2.2.1, ()), ()), ())))
          else
            none
        else
          some (.inr (.inr ((), ((y1.2.1.1, y1.2.1.2.1, y1.2.1.2.2.1, y1.2.1.2.2.2.1, y1.2.1.2.2.2.2.1, y1.2.1.2.2.2.2.2.1, (y1.2.1.2.2.2.2.2.2.1.1, y1.2.1.2.2.2.2.2.2.1.2.1, y1.2.1.2.2.2.2.2.2.1.2.2.1, ()), (y1.2.1.2.2.2.2.2.2.2.1.1, y1.2.1.2.2.2.2.2.2.2.1.2.1, y1.2.1.2.2.2.2.2.2.2.1.2.2.1, y1.2.1.2.2.2.2.2.2.2.1.2.2.2.1, y1.2.1.2.2.2.2.2.2.2.1.2.2.2.2.1, y1.2.1.2.2.2.2.2.2.2.1.2.2.2.2.2.1, y1.2.1.2.2.2.2.2.2.2.1.2.2.2.2.2.2.1, y1.2.1.2.2.2.2.2.2.2.1.2.2.2.2.2.2.2.1, ()), ()), ()))))) (((0 : Int), ()), (x1, ()))) fun r => match r with
    | .inl z => some z
    | .inr z2 =>
      bif ((g153 (z2.2.1.1, (IntKind.i64.wrap (z2.2.1.2.1 + (1 : Int))), z2.2.1.2.2.1, z2.2.1.2.2.2.1, z2.2.1.2.2.2.2.1, z2.2.1.2.2.2.2.2.1, (z2.2.1.2.2.2.2.2.2.1.1, z2.2.1.2.2.2.2.2.2.1.2.1, z2.2.1.2.2.2.2.2.2.1.2.2.1, ()), (z2.2.1.2.2.2.2.2.2.2.1.1, z2.2.1.2.2.2.2.2.2.2.1.2.1, z2.2.1.2.2.2.2.2.2.2.1.2.2.1, z2.2.1.2.2.2.2.2.2.2.1.2.2.2.1, z2.2.1.2.2.2.2.2.2.2.1.2.2.2.2.1, z2.2.1.2.2.2.2.2.2.2.1.2.2.2.2.2.1, z2.2.1.2.2.2.2.2.2.2.1.2.2.2.2.2.2.1, z2.2.1.2.2.2.2.2.2.2.1.2.2.2.2.2.2.2.1, ()), ())) != (0 : Int)) then
        some ([], (g153 (z2.2.1.1, (IntKind.i64.wrap (z2.2.1.2.1 + (1 : Int))), z2.2.1.2.2.1, z2.2.1.2.2.2.1, z2.2.1.2.2.2.2.1, z2.2.1.2.2.2.2.2.1, (z2.2.1.2.2.2.2.2.2.1.1, z2.2.1.2.2.2.2.2.2.1.2.1, z2.2.1.2.2.2.2.2.2.1.2.2.1, ()), (z2.2.1.2.2.2.2.2.2.2.1.1, z2.2.1.2.2.2.2.2.2.2.1.2.1, z2.2.1.2.2.2.2.2.2.2.1.2.2.1, z2.2.1.2.2.2.2.2.2.2.1.2.2.2.1, z2.2.1.2.2.2.2.2.2.2.1.2.2.2.2.1, z2.2.1.2.2.2.2.2.2.2.1.2.2.2.2.2.1, z2.2.1.2.2.2.2.2.2.2.1.2.2.2.2.2.2.1, z2.2.1.2.2.2.2.2.2.2.1.2.2.2.2.2.2.2.1, ()), ())), ())
      else
        Option.bind (m62 x0) fun v3 =>
        bif decide (List.length v3 + List.length ([(z2.2.1.1, (IntKind.i64.wrap (z2.2.1.2.1 + (1 : Int))), z2.2.1.2.2.1, z2.2.1.2.2.2.1, z2.2.1.2.2.2.2.1, z2.2.1.2.2.2.2.2.1, (z2.2.1.2.2.2.2.2.2.1.1, z2.2.1.2.2.2.2.2.2.1.2.1, z2.2.1.2.2.2.2.2.2.1.2.2.1, ()), (z2.2.1.2.2.2.2.2.2.2.1.1, z2.2.1.2.2.2.2.2.2.2.1.2.1, z2.2.1.2.2.2.2.2.2.2.1.2.2.1, z2.2.1.2.2.2.2.2.2.2.1.2.2.2.1, z2.2.1.2.2.2.2.2.2.2.1.2.2.2.2.1, z2.2.1.2.2.2.2.2.2.2.1.2.2.2.2.2.1, z2.2.1.2.2.2.2.2.2.2.1.2.2.2.2.2.2.1, z2.2.1.2.2.2.2.2.2.2.1.2.2.2.2.2.2.2.1, ()), ())]) ≤ 4294967296) then
          Option.bind (α := ((List DT3) × Int × Unit) ⊕ ((Bool × Unit) × (Unit))) (
              bif (decide (((List.length x0 : Nat) : Int) > (0 : Int))) then
                bif (inR (IntKind.i64.wrap (((List.length x0 : Nat) : Int) - (1 : Int))) ((List.length x0 : Nat) : Int)) then
                  some (.inr (((decide ((g154 (rd (α := DT3) zDT3 x0 (IntKind.i64.wrap (((List.length x0 : Nat) : Int) - (1 : Int)))) (z2.2.1.1, (IntKind.i64.wrap (z2.2.1.2.1 + (1 : Int))), z2.2.1.2.2.1, z2.2.1.2.2.2.1, z2.2.1.2.2.2.2.1, z2.2.1.2.2.2.2.2.1, (z2.2.1.2.2.2.2.2.2.1.1, z2.2.1.2.2.2.2.2.2.1.2.1, z2.2.1.2.2.2.2.2.2.1.2.2.1, ()), (z2.2.1.2.2.2.2.2.2.2.1.1, z2.2.1.2.2.2.2.2.2.2.1.2.1, z2.2.1.2.2.2.2.2.2.2.1.2.2.1, z2.2.1.2.2.2.2.2.2.2.1.2.2.2.1, z2.2.1.2.2.2.2.2.2.2.1.2.2.2.2.1, z2.2.1.2.2.2.2.2.2.2.1.2.2.2.2.2.1, z2.2.1.2.2.2.2.2.2.2.1.2.2.2.2.2.2.1, z2.2.1.2.2.2.2.2.2.2.1.2.2.2.2.2.2.2.1, ()), ())) ≥ (0 : Int))), ()), ()))
                else
                  none
              else
                some (.inr ((false, ()), ()))) fun r => match r with
          | .inl z => some z
          | .inr y4 =>
            bif y4.1.1 then
              some ([], (7 : Int), ())
            else
              bif (decide (((List.length (v3 ++ [(z2.2.1.1, (IntKind.i64.wrap (z2.2.1.2.1 + (1 : Int))), z2.2.1.2.2.1, z2.2.1.2.2.2.1, z2.2.1.2.2.2.2.1, z2.2.1.2.2.2.2.2.1, (z2.2.1.2.2.2.2.2.2.1.1, z2.2.1.2.2.2.2.2.2.1.2.1, z2.2.1.2.2.2.2.2.2.1.2.2.1, ()), (z2.2.1.2.2.2.2.2.2.2.1.1, z2.2.1.2.2.2.2.2.2.2.1.2.1, z2.2.1.2.2.2.2.2.2.2.1.2.2.1, z2.2.1.2.2.2.2.2.2.2.1.2.2.2.1, z2.2.1.2.2.2.2.2.2.2.1.2.2.2.2.1, z2.2.1.2.2.2.2.2.2.2.1.2.2.2.2.2.1, z2.2.1.2.2.2.2.2.2.2.1.2.2.2.2.2.2.1, z2.2.1.2.2.2.2.2.2.2.1.2.2.2.2.2.2.2.1, ()), ())]) : Nat) : Int) > (1000 : Int))) then
                some ([], (2 : Int), ())
              else
                some ((v3 ++ [(z2.2.1.1, (IntKind.i64.wrap (z2.2.1.2.1 + (1 : Int))), z2.2.1.2.2.1, z2.2.1.2.2.2.1, z2.2.1.2.2.2.2.1, z2.2.1.2.2.2.2.2.1, (z2.2.1.2.2.2.2.2.2.1.1, z2.2.1.2.2.2.2.2.2.1.2.1, z2.2.1.2.2.2.2.2.2.1.2.2.1, ()), (z2.2.1.2.2.2.2.2.2.2.1.1, z2.2.1.2.2.2.2.2.2.2.1.2.1, z2.2.1.2.2.2.2.2.2.2.1.2.2.1, z2.2.1.2.2.2.2.2.2.2.1.2.2.2.1, z2.2.1.2.2.2.2.2.2.2.1.2.2.2.2.1, z2.2.1.2.2.2.2.2.2.2.1.2.2.2.2.2.1, z2.2.1.2.2.2.2.2.2.2.1.2.2.2.2.2.2.1, z2.2.1.2.2.2.2.2.2.2.1.2.2.2.2.2.2.2.1, ()), ())]), (0 : Int), ())
        else
          none
def H72 : Hints where
  loop := fun n => match n with
    | 0 => some ({ slots := [(16, (.int .i64))], objs := [(0, (.box (.data DY3) (.agg (.cons .str (.cons (.int .i64) (.cons (.int .i64) (.cons (.int .i64) (.cons .str (.cons .str (.cons (.agg (.cons .str (.cons (.int .i64) (.cons (.int .i64) .nil)))) (.cons (.agg (.cons .str (.cons .str (.cons .str (.cons .str (.cons (.int .i64) (.cons (.int .i64) (.cons (.int .i64) (.cons (.int .i64) .nil))))))))) .nil)))))))))))], gone := [] }, 0, { slots := [], objs := [(0, (.box (.data DY3) (.agg (.cons .str (.cons (.int .i64) (.cons (.int .i64) (.cons (.int .i64) (.cons .str (.cons .str (.cons (.agg (.cons .str (.cons (.int .i64) (.cons (.int .i64) .nil)))) (.cons (.agg (.cons .str (.cons .str (.cons .str (.cons .str (.cons (.int .i64) (.cons (.int .i64) (.cons (.int .i64) (.cons (.int .i64) .nil))))))))) .nil)))))))))))], gone := [] })
    | _ => none
  region := fun n => match n with
    | 15 => some { slots := [(59, .bool)], objs := [], gone := [] }
    | _ => none
  cond := fun n => match n with
    | _ => none
  block := fun n => match n with
    | _ => none
abbrev A72 : Tys := (.cons (.slice DY3) (.cons DY3 .nil))
def ts72 : List (Nat × TD) := [(3, (.data (.int .i64))), (9, (.data .str)), (28, (.data (.int .i64))), (94, (.data (.slice DY3))), (100, (.data DY3))]
noncomputable def fs72 (m62 : (List DT3) → Option (List DT3)) (g153 : DT3 → (Int)) (g154 : DT3 → DT3 → (Int)) : List (Nat × FSem) := [(62, .mfn DY3 (.cons (.slice DY3) .nil) fun x => m62 x.1), (153, .fn (.cons DY3 .nil) (.cons (.int .i64) .nil) fun x => ((g153 x.1), ())), (154, .fn (.cons DY3 (.cons DY3 .nil)) (.cons (.int .i64) .nil) fun x => ((g154 x.1 x.2.1), ()))]
noncomputable def body72 : Code := match Try.f72.body with | some c => c | none => .skip
theorem ty72 : chkTypes Try.prog ts72 = true := by kernel_rfl
theorem ev72 (m62 : (List DT3) → Option (List DT3)) (g153 : DT3 → (Int)) (g154 : DT3 → DT3 → (Int)) (k : Nat) (x : ((.cons (.slice DY3) (.cons DY3 .nil)) : Tys).den) : evFun (mkEnv ts72 (fs72 m62 g153 g154)) H72 k body72 64 [.tmp 4, .tmp 5] (explodes (.cons (.slice DY3) (.cons DY3 .nil)) x) [] (dec (.cons (.slice DY3) (.cons (.int .i64) .nil))) = f72 m62 g153 g154 k x.1 x.2.1 := by kernel_rfl
/-! ### jitney/jitlaw2.netted -/
def f73 (g64 : (List DT3) → Int → Option ((List DT2) × Int × Unit)) (k : Nat)  : Option (Bool × Unit) :=
  Option.bind (g64 ([((ByteArray.mk #[115]), (1 : Int), (0 : Int), (3 : Int), ByteArray.empty, ByteArray.empty, zDT1, ((ByteArray.mk #[114]), (ByteArray.mk #[97]), (ByteArray.mk #[98]), (ByteArray.mk #[99]), (0 : Int), (5 : Int), (1 : Int), (0 : Int), ()), ())]) (0 : Int)) fun v1 =>
  bif (v1.2.1 == (0 : Int)) then
    bif (((List.length v1.1 : Nat) : Int) == (1 : Int)) then
      bif (inR (0 : Int) ((List.length v1.1 : Nat) : Int)) then
        some (((sEq ((rd (α := DT2) zDT2 v1.1 (0 : Int)).1) (ByteArray.mk #[114])) && ((sEq ((rd (α := DT2) zDT2 v1.1 (0 : Int)).2.1) (ByteArray.mk #[97])) && ((sEq ((rd (α := DT2) zDT2 v1.1 (0 : Int)).2.2.1) (ByteArray.mk #[98])) && ((sEq ((rd (α := DT2) zDT2 v1.1 (0 : Int)).2.2.2.1) (ByteArray.mk #[99])) && (((rd (α := DT2) zDT2 v1.1 (0 : Int)).2.2.2.2.1 == (0 : Int)) && (((rd (α := DT2) zDT2 v1.1 (0 : Int)).2.2.2.2.2.1 == (5 : Int)) && (((rd (α := DT2) zDT2 v1.1 (0 : Int)).2.2.2.2.2.2.1 == (1 : Int)) && (((rd (α := DT2) zDT2 v1.1 (0 : Int)).2.2.2.2.2.2.2.1 == (0 : Int)) && true)))))))), ())
      else
        none
    else
      some (false, ())
  else
    some (false, ())
def H73 : Hints where
  loop := fun n => match n with
    | _ => none
  region := fun n => match n with
    | _ => none
  cond := fun n => match n with
    | _ => none
  block := fun n => match n with
    | _ => none
abbrev A73 : Tys := .nil
def ts73 : List (Nat × TD) := [(3, (.data (.int .i64))), (4, (.data .bool)), (28, (.data (.int .i64))), (94, (.data (.slice DY3))), (98, (.data DY2)), (100, (.data DY3)), (106, (.data (.slice DY2)))]
noncomputable def fs73 (g64 : (List DT3) → Int → Option ((List DT2) × Int × Unit)) : List (Nat × FSem) := [(64, .pfn (.cons (.slice DY3) (.cons (.int .i64) .nil)) (.cons (.slice DY2) (.cons (.int .i64) .nil)) fun x => (g64 x.1 x.2.1))]
noncomputable def body73 : Code := match Try.f73.body with | some c => c | none => .skip
theorem ty73 : chkTypes Try.prog ts73 = true := by kernel_rfl
theorem ev73 (g64 : (List DT3) → Int → Option ((List DT2) × Int × Unit)) (k : Nat) (x : (.nil : Tys).den) : evFun (mkEnv ts73 (fs73 g64)) H73 k body73 26 [.tmp 0] (explodes .nil x) [] (dec (.cons .bool .nil)) = f73 g64 k  := by kernel_rfl
/-! ### jitney/jitlaw2.DeedsMerge -/
def f7 (g20 : (List Int) → (Int)) (g32 : Int → (Int)) (g60 : (List DT3) → (Int)) (g61 : (List DT3) → (List DT3) → Option ((List DT3) × Int × Unit)) (g62 : (List DT3) → Option ((List DT3) × Unit)) (g63 : (List DT3) → Int → Option ((List DT3) × Int × Unit)) (g64 : (List DT3) → Int → Option ((List DT2) × Int × Unit)) (g65 : (List DT3) → (List DT3) → Option ((List DT3) × Int × Unit)) (g66 : (List DT3) → Int → Option ((List DT3) × Unit)) (g67 : (List DT3) → Int → Option ((List DT2) × Unit)) (g68 : (List DT3) → (Int)) (g69 : (List DT3) → (List DT3) → (Bool)) (g70 : (List DT2) → (List DT2) → (Bool)) (g71 : (List DT3) → DT3 → Option ((List DT3) × Int × Unit)) (g72 : (List DT3) → DT3 → Option ((List DT3) × Int × Unit)) (g73 : Option (Bool × Unit)) (k : Nat) (x0 : List DT3) (x1 : List DT3) (x2 : Int) (x3 : DT3) : Option (Bool × Unit) :=
  Option.bind (g62 x0) fun v1 =>
  Option.bind (g62 x1) fun v2 =>
  Option.bind (g61 v1.1 v2.1) fun v3 =>
  Option.bind (g62 x0) fun v4 =>
  Option.bind (g63 v4.1 x2) fun v5 =>
  Option.bind (g62 x0) fun v6 =>
  Option.bind (g64 v6.1 x2) fun v7 =>
  Option.bind (α := (Bool × Unit) ⊕ ((Int × (List DT3) × Unit) × (Unit))) (
      bif ((g20 ([(g60 x0), (g60 x1)])) == (0 : Int)) then
        Option.bind (g65 x0 x1) fun v8 =>
        some (.inr ((v8.2.1, v8.1, ()), ()))
      else
        some (.inr (((g20 ([(g60 x0), (g60 x1)])), [], ()), ()))) fun r => match r with
  | .inl z => some z
  | .inr y9 =>
    Option.bind (α := (Bool × Unit) ⊕ (((List DT3) × (List DT2) × Unit) × (Unit))) (
        bif ((g20 ([(g60 x0), (g32 x2)])) == (0 : Int)) then
          Option.bind (g66 x0 x2) fun v10 =>
          Option.bind (g67 x0 x2) fun v11 =>
          some (.inr ((v10.1, v11.1, ()), ()))
        else
          some (.inr (([], [], ()), ()))) fun r => match r with
    | .inl z => some z
    | .inr y12 =>
      Option.bind (g62 x0) fun v13 =>
      bif ((g68 v13.1) != (g60 x0)) then
        some (false, ())
      else
        bif (v3.2.1 != y9.1.1) then
          some (false, ())
        else
          bif (!(g69 v3.1 y9.1.2.1)) then
            some (false, ())
          else
            bif (v5.2.1 != (g20 ([(g60 x0), (g32 x2)]))) then
              some (false, ())
            else
              bif (!(g69 v5.1 y12.1.1)) then
                some (false, ())
              else
                bif (v7.2.1 != (g20 ([(g60 x0), (g32 x2)]))) then
                  some (false, ())
                else
                  bif (!(g70 v7.1 y12.1.2.1)) then
                    some (false, ())
                  else
                    Option.bind (g62 x0) fun v14 =>
                    Option.bind (g71 v14.1 x3) fun v15 =>
                    Option.bind (α := (Bool × Unit) ⊕ ((Int × (List DT3) × Unit) × (Unit))) (
                        bif ((g60 x0) == (0 : Int)) then
                          Option.bind (g72 x0 x3) fun v16 =>
                          some (.inr ((v16.2.1, v16.1, ()), ()))
                        else
                          some (.inr (((g60 x0), [], ()), ()))) fun r => match r with
                    | .inl z => some z
                    | .inr y17 =>
                      bif (v15.2.1 == y17.1.1) then
                        bif (g69 v15.1 y17.1.2.1) then
                          Option.bind g73 fun v18 =>
                          some (v18.1, ())
                        else
                          some (false, ())
                      else
                        some (false, ())
def H7 : Hints where
  loop := fun n => match n with
    | _ => none
  region := fun n => match n with
    | _ => none
  cond := fun n => match n with
    | 60 => some { slots := [(16, (.int .i64)), (18, (.sl DY3))], objs := [], gone := [] }
    | 68 => some { slots := [(19, (.sl DY3)), (20, (.sl DY2))], objs := [], gone := [] }
    | 122 => some { slots := [(23, (.int .i64)), (24, (.sl DY3))], objs := [], gone := [] }
    | _ => none
  block := fun n => match n with
    | _ => none
abbrev A7 : Tys := (.cons (.slice DY3) (.cons (.slice DY3) (.cons (.int .i64) (.cons DY3 .nil))))
def ts7 : List (Nat × TD) := [(3, (.data (.int .i64))), (4, (.data .bool)), (28, (.data (.int .i64))), (94, (.data (.slice DY3))), (100, (.data DY3)), (184, (.data (.slice (.int .i64))))]
noncomputable def fs7 (g20 : (List Int) → (Int)) (g32 : Int → (Int)) (g60 : (List DT3) → (Int)) (g61 : (List DT3) → (List DT3) → Option ((List DT3) × Int × Unit)) (g62 : (List DT3) → Option ((List DT3) × Unit)) (g63 : (List DT3) → Int → Option ((List DT3) × Int × Unit)) (g64 : (List DT3) → Int → Option ((List DT2) × Int × Unit)) (g65 : (List DT3) → (List DT3) → Option ((List DT3) × Int × Unit)) (g66 : (List DT3) → Int → Option ((List DT3) × Unit)) (g67 : (List DT3) → Int → Option ((List DT2) × Unit)) (g68 : (List DT3) → (Int)) (g69 : (List DT3) → (List DT3) → (Bool)) (g70 : (List DT2) → (List DT2) → (Bool)) (g71 : (List DT3) → DT3 → Option ((List DT3) × Int × Unit)) (g72 : (List DT3) → DT3 → Option ((List DT3) × Int × Unit)) (g73 : Option (Bool × Unit)) : List (Nat × FSem) := [(20, .fn (.cons (.slice (.int .i64)) .nil) (.cons (.int .i64) .nil) fun x => ((g20 x.1), ())), (32, .fn (.cons (.int .i64) .nil) (.cons (.int .i64) .nil) fun x => ((g32 x.1), ())), (60, .fn (.cons (.slice DY3) .nil) (.cons (.int .i64) .nil) fun x => ((g60 x.1), ())), (61, .pfn (.cons (.slice DY3) (.cons (.slice DY3) .nil)) (.cons (.slice DY3) (.cons (.int .i64) .nil)) fun x => (g61 x.1 x.2.1)), (62, .pfn (.cons (.slice DY3) .nil) (.cons (.slice DY3) .nil) fun x => (g62 x.1)), (63, .pfn (.cons (.slice DY3) (.cons (.int .i64) .nil)) (.cons (.slice DY3) (.cons (.int .i64) .nil)) fun x => (g63 x.1 x.2.1)), (64, .pfn (.cons (.slice DY3) (.cons (.int .i64) .nil)) (.cons (.slice DY2) (.cons (.int .i64) .nil)) fun x => (g64 x.1 x.2.1)), (65, .pfn (.cons (.slice DY3) (.cons (.slice DY3) .nil)) (.cons (.slice DY3) (.cons (.int .i64) .nil)) fun x => (g65 x.1 x.2.1)), (66, .pfn (.cons (.slice DY3) (.cons (.int .i64) .nil)) (.cons (.slice DY3) .nil) fun x => (g66 x.1 x.2.1)), (67, .pfn (.cons (.slice DY3) (.cons (.int .i64) .nil)) (.cons (.slice DY2) .nil) fun x => (g67 x.1 x.2.1)), (68, .fn (.cons (.slice DY3) .nil) (.cons (.int .i64) .nil) fun x => ((g68 x.1), ())), (69, .fn (.cons (.slice DY3) (.cons (.slice DY3) .nil)) (.cons .bool .nil) fun x => ((g69 x.1 x.2.1), ())), (70, .fn (.cons (.slice DY2) (.cons (.slice DY2) .nil)) (.cons .bool .nil) fun x => ((g70 x.1 x.2.1), ())), (71, .pfn (.cons (.slice DY3) (.cons DY3 .nil)) (.cons (.slice DY3) (.cons (.int .i64) .nil)) fun x => (g71 x.1 x.2.1)), (72, .pfn (.cons (.slice DY3) (.cons DY3 .nil)) (.cons (.slice DY3) (.cons (.int .i64) .nil)) fun x => (g72 x.1 x.2.1)), (73, .pfn .nil (.cons .bool .nil) fun x => g73)]
noncomputable def body7 : Code := match Try.f7.body with | some c => c | none => .skip
theorem ty7 : chkTypes Try.prog ts7 = true := by kernel_rfl
theorem ev7 (g20 : (List Int) → (Int)) (g32 : Int → (Int)) (g60 : (List DT3) → (Int)) (g61 : (List DT3) → (List DT3) → Option ((List DT3) × Int × Unit)) (g62 : (List DT3) → Option ((List DT3) × Unit)) (g63 : (List DT3) → Int → Option ((List DT3) × Int × Unit)) (g64 : (List DT3) → Int → Option ((List DT2) × Int × Unit)) (g65 : (List DT3) → (List DT3) → Option ((List DT3) × Int × Unit)) (g66 : (List DT3) → Int → Option ((List DT3) × Unit)) (g67 : (List DT3) → Int → Option ((List DT2) × Unit)) (g68 : (List DT3) → (Int)) (g69 : (List DT3) → (List DT3) → (Bool)) (g70 : (List DT2) → (List DT2) → (Bool)) (g71 : (List DT3) → DT3 → Option ((List DT3) × Int × Unit)) (g72 : (List DT3) → DT3 → Option ((List DT3) × Int × Unit)) (g73 : Option (Bool × Unit)) (k : Nat) (x : ((.cons (.slice DY3) (.cons (.slice DY3) (.cons (.int .i64) (.cons DY3 .nil)))) : Tys).den) : evFun (mkEnv ts7 (fs7 g20 g32 g60 g61 g62 g63 g64 g65 g66 g67 g68 g69 g70 g71 g72 g73)) H7 k body7 140 [.tmp 8] (explodes (.cons (.slice DY3) (.cons (.slice DY3) (.cons (.int .i64) (.cons DY3 .nil)))) x) [] (dec (.cons .bool .nil)) = f7 g20 g32 g60 g61 g62 g63 g64 g65 g66 g67 g68 g69 g70 g71 g72 g73 k x.1 x.2.1 x.2.2.1 x.2.2.2.1 := by kernel_rfl
end Go.Vm
