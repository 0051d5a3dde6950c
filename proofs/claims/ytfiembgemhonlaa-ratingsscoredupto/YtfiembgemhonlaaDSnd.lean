/- The program's functions are what the specs say. -/
import Derived.Test.YtfiembgemhonlaaDSp
import Derived.Test.YtfiembgemhonlaaSSnd
set_option maxRecDepth 100000
set_option linter.unusedVariables false
namespace Go.Vm
open Go.Proofs
/-! ### jitney/jitref2.RideFault -/
/-! ### jitney/jitref2.DeedFault -/
/-! ### strings.Compare -/
theorem S129 : SoundF Try.prog 129 (.fn (.cons .str (.cons .str .nil)) (.cons (.int .i64) .nil) fun x => (s129 x.1 x.2.1, ())) :=
  fn_sound (E := fun k => mkEnv ts129 (fs129 s211)) (H := H129) (fun k => mkEnv_ok ty129 (fun p hp => by
    unfold fs129 at hp
    rcases List.mem_cons.1 hp with rfl | hp
    · exact S211
    cases hp)) mixedOK (by kernel_rfl : Try.prog.funcs[129]? = some Try.f129) (by kernel_rfl) (by kernel_rfl : Try.f129.body = some body129) (by kernel_rfl) (by kernel_rfl)
    (fun x hw => by obtain ⟨k, hk⟩ := h129 x.1 x.2.1 hw; exact ⟨k, (ev129 s211 k x).trans hk⟩)
/-! ### jitney/jitref2.sign -/
theorem S227 : SoundF Try.prog 227 (.fn (.cons (.int .i64) .nil) (.cons (.int .i64) .nil) fun x => (s227 x.1, ())) :=
  fn_sound (E := fun k => mkEnv ts227 (fs227 )) (H := H227) (fun k => mkEnv_ok ty227 (fun p hp => by unfold fs227 at hp; cases hp)) mixedOK (by kernel_rfl : Try.prog.funcs[227]? = some Try.f227) (by kernel_rfl) (by kernel_rfl : Try.f227.body = some body227) (by kernel_rfl) (by kernel_rfl)
    (fun x hw => by obtain ⟨k, hk⟩ := h227 x.1 hw; exact ⟨k, (ev227  k x).trans hk⟩)
/-! ### jitney/jitref2.DeedOrder -/
/-! ### jitney/jitref2.sameNo -/
/-! ### jitney/jitref2.DeedsFault -/
/-! ### jitney/net.byMoment -/
/-! ### jitney/request.allKeys$1 -/
/-! ### jitney/request.allKeys -/
/-! ### jitney/request.CheckRide -/
/-! ### jitney/net.deedFault -/
/-! ### jitney/net.CheckDeeds -/
/-! ### slices.Concat[[]jitney/api.Deed,jitney/api.Deed] -/
/-! ### jitney/net.Merge -/
/-! ### jitney/net.momentFault -/
/-! ### jitney/net.cars$1 -/
/-! ### jitney/net.cars -/
/-! ### jitney/net.Cars -/
/-! ### jitney/net.asked$1 -/
/-! ### jitney/net.asked -/
/-! ### jitney/net.Asked -/
/-! ### jitney/jitref2.DeedsOf -/
/-! ### jitney/jitref2.about -/
/-! ### jitney/jitref2.counting$1 -/
/-! ### jitney/jitref2.counting -/
/-! ### jitney/jitref2.CarDeeds -/
/-! ### jitney/jitref2.AskedOf -/
/-! ### slices.Equal[[]jitney/api.Deed,jitney/api.Deed] -/
/-! ### slices.Equal[[]jitney/api.Ride,jitney/api.Ride] -/
/-! ### jitney/net.Write -/
/-! ### jitney/jitref2.WriteDeed -/
/-! ### jitney/jitlaw2.netted -/
/-! ### jitney/jitlaw2.DeedsMerge -/
end Go.Vm
