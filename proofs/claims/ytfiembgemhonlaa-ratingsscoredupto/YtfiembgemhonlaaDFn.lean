/- The program's functions, as an own tool reads them off its form. -/
import Derived.Test.YtfiembgemhonlaaSFn
import Derived.Test.YtfiembgemhonlaaVmQ
import Derived.Test.YtfiembgemhonlaaVmD
import Derived.Test.YtfiembgemhonlaaProg
set_option maxRecDepth 100000
set_option linter.unusedVariables false
namespace Go.Vm
open Go.Proofs
/-! ### jitney/jitref2.RideFault -/
def H226 : Hints where
  loop := fun n => match n with
    | _ => none
  region := fun n => match n with
    | _ => none
  cond := fun n => match n with
    | _ => none
  block := fun n => match n with
    | _ => none
noncomputable def body226 : Code := match Try.f226.body with | some c => c | none => .skip
/-! ### jitney/jitref2.DeedFault -/
/-! ### strings.Compare -/
def f129 (g211 : ByteArray → ByteArray → (Int)) (k : Nat) (x0 : ByteArray) (x1 : ByteArray) : Option (Int × Unit) :=
  some ((g211 x0 x1), ())
def H129 : Hints where
  loop := fun n => match n with
    | _ => none
  region := fun n => match n with
    | _ => none
  cond := fun n => match n with
    | _ => none
  block := fun n => match n with
    | _ => none
abbrev A129 : Tys := (.cons .str (.cons .str .nil))
def ts129 : List (Nat × TD) := [(3, (.data (.int .i64))), (9, (.data .str))]
noncomputable def fs129 (g211 : ByteArray → ByteArray → (Int)) : List (Nat × FSem) := [(211, .fn (.cons .str (.cons .str .nil)) (.cons (.int .i64) .nil) fun x => ((g211 x.1 x.2.1), ()))]
noncomputable def body129 : Code := match Try.f129.body with | some c => c | none => .skip
theorem ty129 : chkTypes Try.prog ts129 = true := by kernel_rfl
theorem ev129 (g211 : ByteArray → ByteArray → (Int)) (k : Nat) (x : ((.cons .str (.cons .str .nil)) : Tys).den) : evFun (mkEnv ts129 (fs129 g211)) H129 k body129 8 [.tmp 4] (explodes (.cons .str (.cons .str .nil)) x) [] (dec (.cons (.int .i64) .nil)) = f129 g211 k x.1 x.2.1 := by kernel_rfl
/-! ### jitney/jitref2.sign -/
def f227  (k : Nat) (x0 : Int) : Option (Int × Unit) :=
  bif (decide (x0 < (0 : Int))) then
    some ((-1 : Int), ())
  else
    bif (decide (x0 > (0 : Int))) then
      some ((1 : Int), ())
    else
      some ((0 : Int), ())
def H227 : Hints where
  loop := fun n => match n with
    | _ => none
  region := fun n => match n with
    | _ => none
  cond := fun n => match n with
    | _ => none
  block := fun n => match n with
    | _ => none
abbrev A227 : Tys := (.cons (.int .i64) .nil)
def ts227 : List (Nat × TD) := [(3, (.data (.int .i64)))]
noncomputable def fs227  : List (Nat × FSem) := []
noncomputable def body227 : Code := match Try.f227.body with | some c => c | none => .skip
theorem ty227 : chkTypes Try.prog ts227 = true := by kernel_rfl
theorem ev227  (k : Nat) (x : ((.cons (.int .i64) .nil) : Tys).den) : evFun (mkEnv ts227 (fs227 )) H227 k body227 9 [.tmp 2] (explodes (.cons (.int .i64) .nil) x) [] (dec (.cons (.int .i64) .nil)) = f227  k x.1 := by kernel_rfl
/-! ### jitney/jitref2.DeedOrder -/
/-! ### jitney/jitref2.sameNo -/
/-! ### jitney/jitref2.DeedsFault -/
/-! ### jitney/net.byMoment -/
/-! ### jitney/request.allKeys$1 -/
/-! ### jitney/request.allKeys -/
/-! ### jitney/request.CheckRide -/
/-! ### jitney/net.deedFault -/
/-! ### jitney/net.CheckDeeds -/
/-! ### slices.Concat[[]jitney/api.Deed,jitney/api.Deed] -/
/-! ### jitney/net.Merge -/
/-! ### slices.Clone[[]jitney/api.Deed,jitney/api.Deed] -/
/-! ### jitney/net.momentFault -/
/-! ### jitney/net.cars$1 -/
/-! ### jitney/net.cars -/
/-! ### jitney/net.Cars -/
/-! ### jitney/net.asked$1 -/
/-! ### jitney/net.asked -/
/-! ### jitney/net.Asked -/
/-! ### jitney/jitref2.DeedsOf -/
/-! ### jitney/jitref2.about -/
/-! ### jitney/jitref2.counting$1 -/
/-! ### jitney/jitref2.counting -/
/-! ### jitney/jitref2.CarDeeds -/
/-! ### jitney/jitref2.AskedOf -/
/-! ### slices.Equal[[]jitney/api.Deed,jitney/api.Deed] -/
/-! ### slices.Equal[[]jitney/api.Ride,jitney/api.Ride] -/
/-! ### jitney/net.Write -/
/-! ### jitney/jitref2.WriteDeed -/
/-! ### jitney/jitlaw2.netted -/
/-! ### jitney/jitlaw2.DeedsMerge -/
end Go.Vm
