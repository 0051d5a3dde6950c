/- The program's functions are what the specs say. -/
import Derived.Test.YtfiembgemhonlaaLSp
import Derived.Test.YtfiembgemhonlaaLSort
import Derived.Test.YtfiembgemhonlaaBSnd
set_option maxRecDepth 100000
set_option linter.unusedVariables false
namespace Go.Vm
open Go.Proofs
/-! ### jitney/jitref2.Moment -/
theorem S125 : SoundF Try.prog 125 (.fn (.cons (.int .i64) .nil) (.cons .bool .nil) fun x => (s125 x.1, ())) :=
  fn_sound (E := fun k => mkEnv ts125 (fs125 s115)) (H := H125) (fun k => mkEnv_ok ty125 (fun p hp => by
    unfold fs125 at hp
    rcases List.mem_cons.1 hp with rfl | hp
    · exact S115
    cases hp)) mixedOK (by kernel_rfl : Try.prog.funcs[125]? = some Try.f125) (by kernel_rfl) (by kernel_rfl : Try.f125.body = some body125) (by kernel_rfl) (by kernel_rfl)
    (fun x hw => by obtain ⟨k, hk⟩ := h125 x.1 hw; exact ⟨k, (ev125 s115 k x).trans hk⟩)
/-! ### jitney/jitlaw2.momentFault -/
theorem S32 : SoundF Try.prog 32 (.fn (.cons (.int .i64) .nil) (.cons (.int .i64) .nil) fun x => (s32 x.1, ())) :=
  fn_sound (E := fun k => mkEnv ts32 (fs32 s21 s125)) (H := H32) (fun k => mkEnv_ok ty32 (fun p hp => by
    unfold fs32 at hp
    rcases List.mem_cons.1 hp with rfl | hp
    · exact S21
    rcases List.mem_cons.1 hp with rfl | hp
    · exact S125
    cases hp)) mixedOK (by kernel_rfl : Try.prog.funcs[32]? = some Try.f32) (by kernel_rfl) (by kernel_rfl : Try.f32.body = some body32) (by kernel_rfl) (by kernel_rfl)
    (fun x hw => by obtain ⟨k, hk⟩ := h32 x.1 hw; exact ⟨k, (ev32 s21 s125 k x).trans hk⟩)
/-! ### jitney/base.Moment -/
theorem S121 : SoundF Try.prog 121 (.fn (.cons (.int .i64) .nil) (.cons .bool .nil) fun x => (s121 x.1, ())) :=
  fn_sound (E := fun k => mkEnv ts121 (fs121 s114)) (H := H121) (fun k => mkEnv_ok ty121 (fun p hp => by
    unfold fs121 at hp
    rcases List.mem_cons.1 hp with rfl | hp
    · exact S114
    cases hp)) mixedOK (by kernel_rfl : Try.prog.funcs[121]? = some Try.f121) (by kernel_rfl) (by kernel_rfl : Try.f121.body = some body121) (by kernel_rfl) (by kernel_rfl)
    (fun x hw => by obtain ⟨k, hk⟩ := h121 x.1 hw; exact ⟨k, (ev121 s114 k x).trans hk⟩)
/-! ### jitney/fleet.CheckTrips -/
/-! ### jitney/fleet.chargedFault -/
/-! ### jitney/fleet.levelFault -/
/-! ### jitney/fleet.own -/
/-! ### jitney/fleet.turns$1 -/
/-! ### jitney/fleet.turns -/
/-! ### jitney/fleet.levelAt -/
/-! ### jitney/fleet.Level -/
/-! ### jitney/fleet.Low -/
/-! ### jitney/jitref2.RunsFault -/
/-! ### jitney/jitref2.ChargedFault -/
/-! ### slices.Compare[[]int,int] -/
/-! ### jitney/jitref2.levelsOf$1 -/
/-! ### jitney/jitref2.levelsOf -/
/-! ### jitney/jitref2.LevelAt -/
/-! ### slices.Min[[]int,int] -/
/-! ### jitney/jitref2.LowOf -/
/-! ### jitney/jitlaw2.LevelsReckoned -/
end Go.Vm
