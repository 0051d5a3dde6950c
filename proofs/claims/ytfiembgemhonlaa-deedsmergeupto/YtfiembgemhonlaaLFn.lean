/- The program's functions, as an own tool reads them off its form. -/
import Derived.Test.YtfiembgemhonlaaBFn
import Derived.Test.YtfiembgemhonlaaVmD
import Derived.Test.YtfiembgemhonlaaProg
set_option maxRecDepth 100000
set_option linter.unusedVariables false
namespace Go.Vm
open Go.Proofs
/-! ### jitney/jitref2.Moment -/
def f125 (g115 : Int → Int → Int → (Bool)) (k : Nat) (x0 : Int) : Option (Bool × Unit) :=
  some ((g115 x0 (0 : Int) (345686399999 : Int)), ())
def H125 : Hints where
  loop := fun n => match n with
    | _ => none
  region := fun n => match n with
    | _ => none
  cond := fun n => match n with
    | _ => none
  block := fun n => match n with
    | _ => none
abbrev A125 : Tys := (.cons (.int .i64) .nil)
def ts125 : List (Nat × TD) := [(3, (.data (.int .i64))), (4, (.data .bool))]
noncomputable def fs125 (g115 : Int → Int → Int → (Bool)) : List (Nat × FSem) := [(115, .fn (.cons (.int .i64) (.cons (.int .i64) (.cons (.int .i64) .nil))) (.cons .bool .nil) fun x => ((g115 x.1 x.2.1 x.2.2.1), ()))]
noncomputable def body125 : Code := match Try.f125.body with | some c => c | none => .skip
theorem ty125 : chkTypes Try.prog ts125 = true := by kernel_rfl
theorem ev125 (g115 : Int → Int → Int → (Bool)) (k : Nat) (x : ((.cons (.int .i64) .nil) : Tys).den) : evFun (mkEnv ts125 (fs125 g115)) H125 k body125 5 [.tmp 2] (explodes (.cons (.int .i64) .nil) x) [] (dec (.cons .bool .nil)) = f125 g115 k x.1 := by kernel_rfl
/-! ### jitney/jitlaw2.momentFault -/
def f32 (g21 : Bool → Int → (Int)) (g125 : Int → (Bool)) (k : Nat) (x0 : Int) : Option (Int × Unit) :=
  some ((g21 (!(g125 x0)) (1 : Int)), ())
def H32 : Hints where
  loop := fun n => match n with
    | _ => none
  region := fun n => match n with
    | _ => none
  cond := fun n => match n with
    | _ => none
  block := fun n => match n with
    | _ => none
abbrev A32 : Tys := (.cons (.int .i64) .nil)
def ts32 : List (Nat × TD) := [(3, (.data (.int .i64))), (28, (.data (.int .i64)))]
noncomputable def fs32 (g21 : Bool → Int → (Int)) (g125 : Int → (Bool)) : List (Nat × FSem) := [(21, .fn (.cons .bool (.cons (.int .i64) .nil)) (.cons (.int .i64) .nil) fun x => ((g21 x.1 x.2.1), ())), (125, .fn (.cons (.int .i64) .nil) (.cons .bool .nil) fun x => ((g125 x.1), ()))]
noncomputable def body32 : Code := match Try.f32.body with | some c => c | none => .skip
theorem ty32 : chkTypes Try.prog ts32 = true := by kernel_rfl
theorem ev32 (g21 : Bool → Int → (Int)) (g125 : Int → (Bool)) (k : Nat) (x : ((.cons (.int .i64) .nil) : Tys).den) : evFun (mkEnv ts32 (fs32 g21 g125)) H32 k body32 7 [.tmp 2] (explodes (.cons (.int .i64) .nil) x) [] (dec (.cons (.int .i64) .nil)) = f32 g21 g125 k x.1 := by kernel_rfl
/-! ### jitney/base.Moment -/
def f121 (g114 : Int → Int → Int → (Bool)) (k : Nat) (x0 : Int) : Option (Bool × Unit) :=
  some ((!(g114 x0 (0 : Int) (345686399999 : Int))), ())
def H121 : Hints where
  loop := fun n => match n with
    | _ => none
  region := fun n => match n with
    | _ => none
  cond := fun n => match n with
    | _ => none
  block := fun n => match n with
    | _ => none
abbrev A121 : Tys := (.cons (.int .i64) .nil)
def ts121 : List (Nat × TD) := [(3, (.data (.int .i64))), (4, (.data .bool))]
noncomputable def fs121 (g114 : Int → Int → Int → (Bool)) : List (Nat × FSem) := [(114, .fn (.cons (.int .i64) (.cons (.int .i64) (.cons (.int .i64) .nil))) (.cons .bool .nil) fun x => ((g114 x.1 x.2.1 x.2.2.1), ()))]
noncomputable def body121 : Code := match Try.f121.body with | some c => c | none => .skip
theorem ty121 : chkTypes Try.prog ts121 = true := by kernel_rfl
theorem ev121 (g114 : Int → Int → Int → (Bool)) (k : Nat) (x : ((.cons (.int .i64) .nil) : Tys).den) : evFun (mkEnv ts121 (fs121 g114)) H121 k body121 6 [.tmp 2] (explodes (.cons (.int .i64) .nil) x) [] (dec (.cons .bool .nil)) = f121 g114 k x.1 := by kernel_rfl
/-! ### jitney/fleet.CheckTrips -/
/-! ### jitney/fleet.chargedFault -/
/-! ### jitney/fleet.levelFault -/
/-! ### jitney/fleet.own -/
/-! ### jitney/fleet.turns$1 -/
/-! ### jitney/fleet.turns -/
/-! ### jitney/fleet.levelAt -/
/-! ### jitney/fleet.Level -/
def f37 (g121 : Int → (Bool)) (g136 : (ByteArray × Int × Int × Int × Int × Unit) → (List (ByteArray × (Int × Int × Unit) × Int × Int × Unit)) → (List (ByteArray × ByteArray × Int × Int × Int × Unit)) → Int → (Int)) (g137 : ByteArray → (List (ByteArray × (Int × Int × Unit) × Int × Int × Unit)) → (List (ByteArray × ByteArray × Int × Int × Int × Unit)) → Int → Int → Option (Int × Unit)) (k : Nat) (x0 : (ByteArray × Int × Int × Int × Int × Unit)) (x1 : List (ByteArray × (Int × Int × Unit) × Int × Int × Unit)) (x2 : List (ByteArray × ByteArray × Int × Int × Int × Unit)) (x3 : Int) (x4 : Int) : Option (Int × Int × Unit) :=
  bif ((g136 x0 x1 x2 x3) != (0 : Int)) then
    some ((0 : Int), (g136 x0 x1 x2 x3), ())
  else
    bif (!(g121 x4)) then
      some ((0 : Int), (1 : Int), ())
    else
      Option.bind (g137 x0.1 x1 x2 x3 x4) fun v1 =>
      some (v1.1, (0 : Int), ())
/-! ### slices.Clone[[]jitney/api.Run,jitney/api.Run] -/
def s38 (l : List (ByteArray × (Int × Int × Unit) × Int × Int × Unit)) : Option ((List (ByteArray × (Int × Int × Unit) × Int × Int × Unit)) × Unit) := if l.length ≤ 4294967296 then some (l, ()) else none
/-! ### slices.Clone[[]jitney/api.Charged,jitney/api.Charged] -/
def s39 (l : List (ByteArray × ByteArray × Int × Int × Int × Unit)) : Option ((List (ByteArray × ByteArray × Int × Int × Int × Unit)) × Unit) := if l.length ≤ 4294967296 then some (l, ()) else none
/-! ### jitney/fleet.Low -/
/-! ### jitney/jitref2.RunsFault -/
/-! ### jitney/jitref2.ChargedFault -/
/-! ### slices.Compare[[]int,int] -/
/-! ### jitney/jitref2.levelsOf$1 -/
/-! ### jitney/jitref2.levelsOf -/
/-! ### jitney/jitref2.LevelAt -/
/-! ### slices.Min[[]int,int] -/
/-! ### jitney/jitref2.LowOf -/
/-! ### jitney/jitlaw2.LevelsReckoned -/
def f5 (g14 : (List (ByteArray × Int × Int × Int × Int × Unit)) → (Int)) (g20 : (List Int) → (Int)) (g21 : Bool → Int → (Int)) (g24 : Option (Bool × Unit)) (g32 : Int → (Int)) (g37 : (ByteArray × Int × Int × Int × Int × Unit) → (List (ByteArray × (Int × Int × Unit) × Int × Int × Unit)) → (List (ByteArray × ByteArray × Int × Int × Int × Unit)) → Int → Int → Option (Int × Int × Unit)) (g38 : (List (ByteArray × (Int × Int × Unit) × Int × Int × Unit)) → Option ((List (ByteArray × (Int × Int × Unit) × Int × Int × Unit)) × Unit)) (g39 : (List (ByteArray × ByteArray × Int × Int × Int × Unit)) → Option ((List (ByteArray × ByteArray × Int × Int × Int × Unit)) × Unit)) (g40 : (ByteArray × Int × Int × Int × Int × Unit) → (List (ByteArray × (Int × Int × Unit) × Int × Int × Unit)) → (List (ByteArray × ByteArray × Int × Int × Int × Unit)) → Int → Option (Int × Int × Unit)) (g41 : (List (ByteArray × (Int × Int × Unit) × Int × Int × Unit)) → (Int)) (g42 : (List (ByteArray × ByteArray × Int × Int × Int × Unit)) → (Int)) (g43 : ByteArray → (List (ByteArray × (Int × Int × Unit) × Int × Int × Unit)) → (List (ByteArray × ByteArray × Int × Int × Int × Unit)) → Int → Int → Option (Int × Unit)) (g44 : ByteArray → (List (ByteArray × (Int × Int × Unit) × Int × Int × Unit)) → (List (ByteArray × ByteArray × Int × Int × Int × Unit)) → Int → Option (Int × Unit)) (k : Nat) (x0 : (ByteArray × Int × Int × Int × Int × Unit)) (x1 : List (ByteArray × (Int × Int × Unit) × Int × Int × Unit)) (x2 : List (ByteArray × ByteArray × Int × Int × Int × Unit)) (x3 : Int) (x4 : Int) : Option (Bool × Unit) :=
  Option.bind (g38 x1) fun v1 =>
  Option.bind (g39 x2) fun v2 =>
  Option.bind (g37 x0 v1.1 v2.1 x3 x4) fun v3 =>
  Option.bind (g38 x1) fun v4 =>
  Option.bind (g39 x2) fun v5 =>
  Option.bind (g40 x0 v4.1 v5.1 x3) fun v6 =>
  Option.bind (α := (Bool × Unit) ⊕ ((Int × Unit) × (Unit))) (
      bif (decide (x3 < (0 : Int))) then
        some (.inr (((g20 ([(g14 ([x0])), (g41 x1), (g42 x2), (g21 true (1 : Int))])), ()), ()))
      else
        some (.inr (((g20 ([(g14 ([x0])), (g41 x1), (g42 x2), (g21 (decide (x3 > x0.2.1)) (1 : Int))])), ()), ()))) fun r => match r with
  | .inl z => some z
  | .inr y7 =>
    Option.bind (α := (Bool × Unit) ⊕ ((Int × Unit) × (Unit))) (
        bif ((g20 ([y7.1.1, (g32 x4)])) == (0 : Int)) then
          Option.bind (g43 x0.1 x1 x2 x3 x4) fun v8 =>
          some (.inr ((v8.1, ()), ()))
        else
          some (.inr (((0 : Int), ()), ()))) fun r => match r with
    | .inl z => some z
    | .inr y9 =>
      Option.bind (α := (Bool × Unit) ⊕ ((Int × Unit) × (Unit))) (
          bif (y7.1.1 == (0 : Int)) then
            Option.bind (g44 x0.1 x1 x2 x3) fun v10 =>
            some (.inr ((v10.1, ()), ()))
          else
            some (.inr (((0 : Int), ()), ()))) fun r => match r with
      | .inl z => some z
      | .inr y11 =>
        bif (v3.2.1 == (g20 ([y7.1.1, (g32 x4)]))) then
          bif (v3.1 == y9.1.1) then
            bif (v6.2.1 == y7.1.1) then
              bif (v6.1 == y11.1.1) then
                Option.bind g24 fun v12 =>
                some (v12.1, ())
              else
                some (false, ())
            else
              some (false, ())
          else
            some (false, ())
        else
          some (false, ())
abbrev A5 : Tys := (.cons (.struct (.cons .str (.cons (.int .i64) (.cons (.int .i64) (.cons (.int .i64) (.cons (.int .i64) .nil)))))) (.cons (.slice (.struct (.cons .str (.cons (.struct (.cons (.int .i64) (.cons (.int .i64) .nil))) (.cons (.int .i64) (.cons (.int .i64) .nil)))))) (.cons (.slice (.struct (.cons .str (.cons .str (.cons (.int .i64) (.cons (.int .i64) (.cons (.int .i64) .nil))))))) (.cons (.int .i64) (.cons (.int .i64) .nil)))))
end Go.Vm
