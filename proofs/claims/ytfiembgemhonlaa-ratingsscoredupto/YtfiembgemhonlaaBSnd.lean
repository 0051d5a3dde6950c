/- The program's functions are what the specs say. -/
import Derived.Test.YtfiembgemhonlaaBHand
set_option maxRecDepth 100000
set_option linter.unusedVariables false
namespace Go.Vm
open Go.Proofs
/-! ### jitney/base.Key -/
theorem S113 : SoundF Try.prog 113 (.fn (.cons .str .nil) (.cons .bool .nil) fun x => (s113 x.1, ())) :=
  fn_sound (E := fun k => mkEnv ts113 (fs113 )) (H := H113) (fun k => mkEnv_ok ty113 (fun p hp => by unfold fs113 at hp; cases hp)) mixedOK (by kernel_rfl : Try.prog.funcs[113]? = some Try.f113) (by kernel_rfl) (by kernel_rfl : Try.f113.body = some body113) (by kernel_rfl) (by kernel_rfl)
    (fun x hw => by obtain ⟨k, hk⟩ := h113 x.1 hw; exact ⟨k, (ev113  k x).trans hk⟩)
/-! ### jitney/base.Out -/
theorem S114 : SoundF Try.prog 114 (.fn (.cons (.int .i64) (.cons (.int .i64) (.cons (.int .i64) .nil))) (.cons .bool .nil) fun x => (s114 x.1 x.2.1 x.2.2.1, ())) :=
  fn_sound (E := fun k => mkEnv ts114 (fs114 )) (H := H114) (fun k => mkEnv_ok ty114 (fun p hp => by unfold fs114 at hp; cases hp)) mixedOK (by kernel_rfl : Try.prog.funcs[114]? = some Try.f114) (by kernel_rfl) (by kernel_rfl : Try.f114.body = some body114) (by kernel_rfl) (by kernel_rfl)
    (fun x hw => by obtain ⟨k, hk⟩ := h114 x.1 x.2.1 x.2.2.1 hw; exact ⟨k, (ev114  k x).trans hk⟩)
/-! ### jitney/fleet.CheckVehicles -/
/-! ### jitney/jitref2.in -/
theorem S115 : SoundF Try.prog 115 (.fn (.cons (.int .i64) (.cons (.int .i64) (.cons (.int .i64) .nil))) (.cons .bool .nil) fun x => (s115 x.1 x.2.1 x.2.2.1, ())) :=
  fn_sound (E := fun k => mkEnv ts115 (fs115 )) (H := H115) (fun k => mkEnv_ok ty115 (fun p hp => by unfold fs115 at hp; cases hp)) mixedOK (by kernel_rfl : Try.prog.funcs[115]? = some Try.f115) (by kernel_rfl) (by kernel_rfl : Try.f115.body = some body115) (by kernel_rfl) (by kernel_rfl)
    (fun x hw => by obtain ⟨k, hk⟩ := h115 x.1 x.2.1 x.2.2.1 hw; exact ⟨k, (ev115  k x).trans hk⟩)
/-! ### strings.IndexByte -/
theorem S212 : SoundF Try.prog 212 (.fn (.cons .str (.cons (.int .u8) .nil)) (.cons (.int .i64) .nil) fun x => (s212 x.1 x.2.1, ())) :=
  fn_sound (E := fun k => mkEnv ts212 (fs212 s265)) (H := H212) (fun k => mkEnv_ok ty212 (fun p hp => by
    unfold fs212 at hp
    rcases List.mem_cons.1 hp with rfl | hp
    · exact S265
    cases hp)) mixedOK (by kernel_rfl : Try.prog.funcs[212]? = some Try.f212) (by kernel_rfl) (by kernel_rfl : Try.f212.body = some body212) (by kernel_rfl) (by kernel_rfl)
    (fun x hw => by obtain ⟨k, hk⟩ := h212 x.1 x.2.1 hw; exact ⟨k, (ev212 s265 k x).trans hk⟩)
/-! ### jitney/jitref2.only -/
theorem S130 : SoundF Try.prog 130 (.fn (.cons .str (.cons .str .nil)) (.cons .bool .nil) fun x => (s130 x.1 x.2.1, ())) :=
  fn_sound (E := fun k => mkEnv ts130 (fs130 s212)) (H := H130) (fun k => mkEnv_ok ty130 (fun p hp => by
    unfold fs130 at hp
    rcases List.mem_cons.1 hp with rfl | hp
    · exact S212
    cases hp)) mixedOK (by kernel_rfl : Try.prog.funcs[130]? = some Try.f130) (by kernel_rfl) (by kernel_rfl : Try.f130.body = some body130) (by kernel_rfl) (by kernel_rfl)
    (fun x hw => by obtain ⟨k, hk⟩ := h130 x.1 x.2.1 hw; exact ⟨k, (ev130 s212 k x).trans hk⟩)
/-! ### jitney/jitref2.Key -/
theorem S31 : SoundF Try.prog 31 (.fn (.cons .str .nil) (.cons .bool .nil) fun x => (s31 x.1, ())) :=
  fn_sound (E := fun k => mkEnv ts31 (fs31 s115 s130)) (H := H31) (fun k => mkEnv_ok ty31 (fun p hp => by
    unfold fs31 at hp
    rcases List.mem_cons.1 hp with rfl | hp
    · exact S115
    rcases List.mem_cons.1 hp with rfl | hp
    · exact S130
    cases hp)) mixedOK (by kernel_rfl : Try.prog.funcs[31]? = some Try.f31) (by kernel_rfl) (by kernel_rfl : Try.f31.body = some body31) (by kernel_rfl) (by kernel_rfl)
    (fun x hw => by obtain ⟨k, hk⟩ := h31 x.1 hw; exact ⟨k, (ev31 s115 s130 k x).trans hk⟩)
/-! ### jitney/jitref2.VehiclesFault -/
/-! ### jitney/fleet.CheckPlaces -/
/-! ### jitney/jitref2.PlacesFault -/
/-! ### jitney/base.First -/
theorem S123 : SoundF Try.prog 123 (.fn (.cons (.slice (.int .i64)) .nil) (.cons (.int .i64) .nil) fun x => (s123 x.1, ())) :=
  fn_sound (E := fun k => mkEnv ts123 (fs123 )) (H := H123) (fun k => mkEnv_ok ty123 (fun p hp => by unfold fs123 at hp; cases hp)) mixedOK (by kernel_rfl : Try.prog.funcs[123]? = some Try.f123) (by kernel_rfl) (by kernel_rfl : Try.f123.body = some body123) (by kernel_rfl) (by kernel_rfl)
    (fun x hw => by obtain ⟨k, hk⟩ := h123 x.1 hw; exact ⟨k, (ev123  k x).trans hk⟩)
/-! ### jitney/fleet.oneFault -/
/-! ### jitney/fleet.newBattery -/
/-! ### jitney/fleet.up -/
/-! ### (jitney/fleet.battery).after -/
/-! ### jitney/fleet.Gain -/
/-! ### (jitney/fleet.battery).needs -/
/-! ### jitney/fleet.Needs -/
/-! ### jitney/jitlaw2.errs -/
theorem S20 : SoundF Try.prog 20 (.fn (.cons (.slice (.int .i64)) .nil) (.cons (.int .i64) .nil) fun x => (s20 x.1, ())) :=
  fn_sound (E := fun k => mkEnv ts20 (fs20 )) (H := H20) (fun k => mkEnv_ok ty20 (fun p hp => by unfold fs20 at hp; cases hp)) mixedOK (by kernel_rfl : Try.prog.funcs[20]? = some Try.f20) (by kernel_rfl) (by kernel_rfl : Try.f20.body = some body20) (by kernel_rfl) (by kernel_rfl)
    (fun x hw => by obtain ⟨k, hk⟩ := h20 x.1 hw; exact ⟨k, (ev20  k x).trans hk⟩)
/-! ### jitney/jitlaw2.when -/
theorem S21 : SoundF Try.prog 21 (.fn (.cons .bool (.cons (.int .i64) .nil)) (.cons (.int .i64) .nil) fun x => (s21 x.1 x.2.1, ())) :=
  fn_sound (E := fun k => mkEnv ts21 (fs21 )) (H := H21) (fun k => mkEnv_ok ty21 (fun p hp => by unfold fs21 at hp; cases hp)) mixedOK (by kernel_rfl : Try.prog.funcs[21]? = some Try.f21) (by kernel_rfl) (by kernel_rfl : Try.f21.body = some body21) (by kernel_rfl) (by kernel_rfl)
    (fun x hw => by obtain ⟨k, hk⟩ := h21 x.1 x.2.1 hw; exact ⟨k, (ev21  k x).trans hk⟩)
/-! ### jitney/jitref2.over -/
/-! ### jitney/jitref2.GainOf -/
/-! ### jitney/jitref2.NeedsOf -/
/-! ### cmp.Or[int] -/
theorem S127 : SoundF Try.prog 127 (.fn (.cons (.slice (.int .i64)) .nil) (.cons (.int .i64) .nil) fun x => (s127 x.1, ())) :=
  fn_sound (E := fun k => mkEnv ts127 (fs127 )) (H := H127) (fun k => mkEnv_ok ty127 (fun p hp => by unfold fs127 at hp; cases hp)) mixedOK (by kernel_rfl : Try.prog.funcs[127]? = some Try.f127) (by kernel_rfl) (by kernel_rfl : Try.f127.body = some body127) (by kernel_rfl) (by kernel_rfl)
    (fun x hw => by obtain ⟨k, hk⟩ := h127 x.1 hw; exact ⟨k, (ev127  k x).trans hk⟩)
/-! ### cmp.isNaN[int] -/
theorem S210 : SoundF Try.prog 210 (.fn (.cons (.int .i64) .nil) (.cons .bool .nil) fun x => (s210 x.1, ())) :=
  fn_sound (E := fun k => mkEnv ts210 (fs210 )) (H := H210) (fun k => mkEnv_ok ty210 (fun p hp => by unfold fs210 at hp; cases hp)) mixedOK (by kernel_rfl : Try.prog.funcs[210]? = some Try.f210) (by kernel_rfl) (by kernel_rfl : Try.f210.body = some body210) (by kernel_rfl) (by kernel_rfl)
    (fun x hw => by obtain ⟨k, hk⟩ := h210 x.1 hw; exact ⟨k, (ev210  k x).trans hk⟩)
/-! ### cmp.Compare[int] -/
theorem S128 : SoundF Try.prog 128 (.fn (.cons (.int .i64) (.cons (.int .i64) .nil)) (.cons (.int .i64) .nil) fun x => (s128 x.1 x.2.1, ())) :=
  fn_sound (E := fun k => mkEnv ts128 (fs128 s210)) (H := H128) (fun k => mkEnv_ok ty128 (fun p hp => by
    unfold fs128 at hp
    rcases List.mem_cons.1 hp with rfl | hp
    · exact S210
    cases hp)) mixedOK (by kernel_rfl : Try.prog.funcs[128]? = some Try.f128) (by kernel_rfl) (by kernel_rfl : Try.f128.body = some body128) (by kernel_rfl) (by kernel_rfl)
    (fun x hw => by obtain ⟨k, hk⟩ := h128 x.1 x.2.1 hw; exact ⟨k, (ev128 s210 k x).trans hk⟩)
/-! ### jitney/fleet.byShift -/
/-! ### jitney/fleet.CheckShifts -/
/-! ### jitney/fleet.rosters -/
/-! ### jitney/fleet.Drivers -/
/-! ### jitney/jitlaw2.driven -/
/-! ### jitney/jitlaw2.BatteriesGain -/
end Go.Vm
