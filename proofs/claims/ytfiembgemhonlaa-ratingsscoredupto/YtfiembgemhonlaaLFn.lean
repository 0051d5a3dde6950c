/- The program's functions, as an own tool reads them off its form. -/
import Derived.Test.YtfiembgemhonlaaBFn
import Derived.Test.YtfiembgemhonlaaVmD
import Derived.Test.YtfiembgemhonlaaProg
set_option maxRecDepth 100000
set_option linter.unusedVariables false
namespace Go.Vm
open Go.Proofs
/-! ### jitney/jitref2.Moment -/
def f125 (g115 : Int → Int → Int → (Bool)) (k : Nat) (x0 : Int) : Option (Bool × Unit) :=
  some ((g115 x0 (0 : Int) (345686399999 : Int)), ())
def H125 : Hints where
  loop := fun n => match n with
    | _ => none
  region := fun n => match n with
    | _ => none
  cond := fun n => match n with
    | _ => none
  block := fun n => match n with
    | _ => none
abbrev A125 : Tys := (.cons (.int .i64) .nil)
def ts125 : List (Nat × TD) := [(3, (.data (.int .i64))), (4, (.data .bool))]
noncomputable def fs125 (g115 : Int → Int → Int → (Bool)) : List (Nat × FSem) := [(115, .fn (.cons (.int .i64) (.cons (.int .i64) (.cons (.int .i64) .nil))) (.cons .bool .nil) fun x => ((g115 x.1 x.2.1 x.2.2.1), ()))]
noncomputable def body125 : Code := match Try.f125.body with | some c => c | none => .skip
theorem ty125 : chkTypes Try.prog ts125 = true := by kernel_rfl
theorem ev125 (g115 : Int → Int → Int → (Bool)) (k : Nat) (x : ((.cons (.int .i64) .nil) : Tys).den) : evFun (mkEnv ts125 (fs125 g115)) H125 k body125 5 [.tmp 2] (explodes (.cons (.int .i64) .nil) x) [] (dec (.cons .bool .nil)) = f125 g115 k x.1 := by kernel_rfl
/-! ### jitney/jitlaw2.momentFault -/
def f32 (g21 : Bool → Int → (Int)) (g125 : Int → (Bool)) (k : Nat) (x0 : Int) : Option (Int × Unit) :=
  some ((g21 (!(g125 x0)) (1 : Int)), ())
def H32 : Hints where
  loop := fun n => match n with
    | _ => none
  region := fun n => match n with
    | _ => none
  cond := fun n => match n with
    | _ => none
  block := fun n => match n with
    | _ => none
abbrev A32 : Tys := (.cons (.int .i64) .nil)
def ts32 : List (Nat × TD) := [(3, (.data (.int .i64))), (28, (.data (.int .i64)))]
noncomputable def fs32 (g21 : Bool → Int → (Int)) (g125 : Int → (Bool)) : List (Nat × FSem) := [(21, .fn (.cons .bool (.cons (.int .i64) .nil)) (.cons (.int .i64) .nil) fun x => ((g21 x.1 x.2.1), ())), (125, .fn (.cons (.int .i64) .nil) (.cons .bool .nil) fun x => ((g125 x.1), ()))]
noncomputable def body32 : Code := match Try.f32.body with | some c => c | none => .skip
theorem ty32 : chkTypes Try.prog ts32 = true := by kernel_rfl
theorem ev32 (g21 : Bool → Int → (Int)) (g125 : Int → (Bool)) (k : Nat) (x : ((.cons (.int .i64) .nil) : Tys).den) : evFun (mkEnv ts32 (fs32 g21 g125)) H32 k body32 7 [.tmp 2] (explodes (.cons (.int .i64) .nil) x) [] (dec (.cons (.int .i64) .nil)) = f32 g21 g125 k x.1 := by kernel_rfl
/-! ### jitney/base.Moment -/
def f121 (g114 : Int → Int → Int → (Bool)) (k : Nat) (x0 : Int) : Option (Bool × Unit) :=
  some ((!(g114 x0 (0 : Int) (345686399999 : Int))), ())
def H121 : Hints where
  loop := fun n => match n with
    | _ => none
  region := fun n => match n with
    | _ => none
  cond := fun n => match n with
    | _ => none
  block := fun n => match n with
    | _ => none
abbrev A121 : Tys := (.cons (.int .i64) .nil)
def ts121 : List (Nat × TD) := [(3, (.data (.int .i64))), (4, (.data .bool))]
noncomputable def fs121 (g114 : Int → Int → Int → (Bool)) : List (Nat × FSem) := [(114, .fn (.cons (.int .i64) (.cons (.int .i64) (.cons (.int .i64) .nil))) (.cons .bool .nil) fun x => ((g114 x.1 x.2.1 x.2.2.1), ()))]
noncomputable def body121 : Code := match Try.f121.body with | some c => c | none => .skip
theorem ty121 : chkTypes Try.prog ts121 = true := by kernel_rfl
theorem ev121 (g114 : Int → Int → Int → (Bool)) (k : Nat) (x : ((.cons (.int .i64) .nil) : Tys).den) : evFun (mkEnv ts121 (fs121 g114)) H121 k body121 6 [.tmp 2] (explodes (.cons (.int .i64) .nil) x) [] (dec (.cons .bool .nil)) = f121 g114 k x.1 := by kernel_rfl
/-! ### jitney/fleet.CheckTrips -/
/-! ### jitney/fleet.chargedFault -/
/-! ### jitney/fleet.levelFault -/
/-! ### jitney/fleet.own -/
/-! ### jitney/fleet.turns$1 -/
/-! ### jitney/fleet.turns -/
/-! ### jitney/fleet.levelAt -/
/-! ### jitney/fleet.Level -/
/-! ### slices.Clone[[]jitney/api.Run,jitney/api.Run] -/
/-! ### slices.Clone[[]jitney/api.Charged,jitney/api.Charged] -/
/-! ### jitney/fleet.Low -/
/-! ### jitney/jitref2.RunsFault -/
/-! ### jitney/jitref2.ChargedFault -/
/-! ### slices.Compare[[]int,int] -/
/-! ### jitney/jitref2.levelsOf$1 -/
/-! ### jitney/jitref2.levelsOf -/
/-! ### jitney/jitref2.LevelAt -/
/-! ### slices.Min[[]int,int] -/
/-! ### jitney/jitref2.LowOf -/
/-! ### jitney/jitlaw2.LevelsReckoned -/
end Go.Vm
