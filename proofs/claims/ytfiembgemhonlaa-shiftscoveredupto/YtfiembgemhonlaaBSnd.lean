/- The program's functions are what the specs say. -/
import Derived.Test.YtfiembgemhonlaaBHand
set_option maxRecDepth 100000
set_option linter.unusedVariables false
namespace Go.Vm
open Go.Proofs
/-! ### jitney/base.Key -/
theorem S113 : SoundF Try.prog 113 (.fn (.cons .str .nil) (.cons .bool .nil) fun x => (s113 x.1, ())) :=
  fn_sound (E := fun k => mkEnv ts113 (fs113 )) (H := H113) (fun k => mkEnv_ok ty113 (fun p hp => by unfold fs113 at hp; cases hp)) mixedOK (by kernel_rfl : Try.prog.funcs[113]? = some Try.f113) (by kernel_rfl) (by kernel_rfl : Try.f113.body = some body113) (by kernel_rfl) (by kernel_rfl)
    (fun x hw => by obtain ⟨k, hk⟩ := h113 x.1 hw; exact ⟨k, (ev113  k x).trans hk⟩)
/-! ### jitney/base.Out -/
theorem S114 : SoundF Try.prog 114 (.fn (.cons (.int .i64) (.cons (.int .i64) (.cons (.int .i64) .nil))) (.cons .bool .nil) fun x => (s114 x.1 x.2.1 x.2.2.1, ())) :=
  fn_sound (E := fun k => mkEnv ts114 (fs114 )) (H := H114) (fun k => mkEnv_ok ty114 (fun p hp => by unfold fs114 at hp; cases hp)) mixedOK (by kernel_rfl : Try.prog.funcs[114]? = some Try.f114) (by kernel_rfl) (by kernel_rfl : Try.f114.body = some body114) (by kernel_rfl) (by kernel_rfl)
    (fun x hw => by obtain ⟨k, hk⟩ := h114 x.1 x.2.1 x.2.2.1 hw; exact ⟨k, (ev114  k x).trans hk⟩)
/-! ### jitney/fleet.CheckVehicles -/
/-! ### jitney/jitref2.in -/
theorem S115 : SoundF Try.prog 115 (.fn (.cons (.int .i64) (.cons (.int .i64) (.cons (.int .i64) .nil))) (.cons .bool .nil) fun x => (s115 x.1 x.2.1 x.2.2.1, ())) :=
  fn_sound (E := fun k => mkEnv ts115 (fs115 )) (H := H115) (fun k => mkEnv_ok ty115 (fun p hp => by unfold fs115 at hp; cases hp)) mixedOK (by kernel_rfl : Try.prog.funcs[115]? = some Try.f115) (by kernel_rfl) (by kernel_rfl : Try.f115.body = some body115) (by kernel_rfl) (by kernel_rfl)
    (fun x hw => by obtain ⟨k, hk⟩ := h115 x.1 x.2.1 x.2.2.1 hw; exact ⟨k, (ev115  k x).trans hk⟩)
/-! ### strings.IndexByte -/
theorem S212 : SoundF Try.prog 212 (.fn (.cons .str (.cons (.int .u8) .nil)) (.cons (.int .i64) .nil) fun x => (s212 x.1 x.2.1, ())) :=
  fn_sound (E := fun k => mkEnv ts212 (fs212 s265)) (H := H212) (fun k => mkEnv_ok ty212 (fun p hp => by
    unfold fs212 at hp
    rcases List.mem_cons.1 hp with rfl | hp
    · exact S265
    cases hp)) mixedOK (by kernel_rfl : Try.prog.funcs[212]? = some Try.f212) (by kernel_rfl) (by kernel_rfl : Try.f212.body = some body212) (by kernel_rfl) (by kernel_rfl)
    (fun x hw => by obtain ⟨k, hk⟩ := h212 x.1 x.2.1 hw; exact ⟨k, (ev212 s265 k x).trans hk⟩)
/-! ### jitney/jitref2.only -/
theorem S130 : SoundF Try.prog 130 (.fn (.cons .str (.cons .str .nil)) (.cons .bool .nil) fun x => (s130 x.1 x.2.1, ())) :=
  fn_sound (E := fun k => mkEnv ts130 (fs130 s212)) (H := H130) (fun k => mkEnv_ok ty130 (fun p hp => by
    unfold fs130 at hp
    rcases List.mem_cons.1 hp with rfl | hp
    · exact S212
    cases hp)) mixedOK (by kernel_rfl : Try.prog.funcs[130]? = some Try.f130) (by kernel_rfl) (by kernel_rfl : Try.f130.body = some body130) (by kernel_rfl) (by kernel_rfl)
    (fun x hw => by obtain ⟨k, hk⟩ := h130 x.1 x.2.1 hw; exact ⟨k, (ev130 s212 k x).trans hk⟩)
/-! ### jitney/jitref2.Key -/
theorem S31 : SoundF Try.prog 31 (.fn (.cons .str .nil) (.cons .bool .nil) fun x => (s31 x.1, ())) :=
  fn_sound (E := fun k => mkEnv ts31 (fs31 s115 s130)) (H := H31) (fun k => mkEnv_ok ty31 (fun p hp => by
    unfold fs31 at hp
    rcases List.mem_cons.1 hp with rfl | hp
    · exact S115
    rcases List.mem_cons.1 hp with rfl | hp
    · exact S130
    cases hp)) mixedOK (by kernel_rfl : Try.prog.funcs[31]? = some Try.f31) (by kernel_rfl) (by kernel_rfl : Try.f31.body = some body31) (by kernel_rfl) (by kernel_rfl)
    (fun x hw => by obtain ⟨k, hk⟩ := h31 x.1 hw; exact ⟨k, (ev31 s115 s130 k x).trans hk⟩)
/-! ### jitney/jitref2.VehiclesFault -/
/-! ### jitney/fleet.CheckPlaces -/
/-! ### jitney/jitref2.PlacesFault -/
/-! ### jitney/base.First -/
/-! ### jitney/fleet.oneFault -/
/-! ### jitney/fleet.newBattery -/
/-! ### jitney/fleet.up -/
/-! ### (jitney/fleet.battery).after -/
/-! ### jitney/fleet.Gain -/
/-! ### (jitney/fleet.battery).needs -/
/-! ### jitney/fleet.Needs -/
/-! ### jitney/jitlaw2.errs -/
theorem S20 : SoundF Try.prog 20 (.fn (.cons (.slice (.int .i64)) .nil) (.cons (.int .i64) .nil) fun x => (s20 x.1, ())) :=
  fn_sound (E := fun k => mkEnv ts20 (fs20 )) (H := H20) (fun k => mkEnv_ok ty20 (fun p hp => by unfold fs20 at hp; cases hp)) mixedOK (by kernel_rfl : Try.prog.funcs[20]? = some Try.f20) (by kernel_rfl) (by kernel_rfl : Try.f20.body = some body20) (by kernel_rfl) (by kernel_rfl)
    (fun x hw => by obtain ⟨k, hk⟩ := h20 x.1 hw; exact ⟨k, (ev20  k x).trans hk⟩)
/-! ### jitney/jitlaw2.when -/
theorem S21 : SoundF Try.prog 21 (.fn (.cons .bool (.cons (.int .i64) .nil)) (.cons (.int .i64) .nil) fun x => (s21 x.1 x.2.1, ())) :=
  fn_sound (E := fun k => mkEnv ts21 (fs21 )) (H := H21) (fun k => mkEnv_ok ty21 (fun p hp => by unfold fs21 at hp; cases hp)) mixedOK (by kernel_rfl : Try.prog.funcs[21]? = some Try.f21) (by kernel_rfl) (by kernel_rfl : Try.f21.body = some body21) (by kernel_rfl) (by kernel_rfl)
    (fun x hw => by obtain ⟨k, hk⟩ := h21 x.1 x.2.1 hw; exact ⟨k, (ev21  k x).trans hk⟩)
/-! ### jitney/jitref2.over -/
/-! ### jitney/jitref2.GainOf -/
/-! ### jitney/jitref2.NeedsOf -/
/-! ### cmp.Or[int] -/
theorem S127 : SoundF Try.prog 127 (.fn (.cons (.slice (.int .i64)) .nil) (.cons (.int .i64) .nil) fun x => (s127 x.1, ())) :=
  fn_sound (E := fun k => mkEnv ts127 (fs127 )) (H := H127) (fun k => mkEnv_ok ty127 (fun p hp => by unfold fs127 at hp; cases hp)) mixedOK (by kernel_rfl : Try.prog.funcs[127]? = some Try.f127) (by kernel_rfl) (by kernel_rfl : Try.f127.body = some body127) (by kernel_rfl) (by kernel_rfl)
    (fun x hw => by obtain ⟨k, hk⟩ := h127 x.1 hw; exact ⟨k, (ev127  k x).trans hk⟩)
/-! ### cmp.isNaN[int] -/
theorem S210 : SoundF Try.prog 210 (.fn (.cons (.int .i64) .nil) (.cons .bool .nil) fun x => (s210 x.1, ())) :=
  fn_sound (E := fun k => mkEnv ts210 (fs210 )) (H := H210) (fun k => mkEnv_ok ty210 (fun p hp => by unfold fs210 at hp; cases hp)) mixedOK (by kernel_rfl : Try.prog.funcs[210]? = some Try.f210) (by kernel_rfl) (by kernel_rfl : Try.f210.body = some body210) (by kernel_rfl) (by kernel_rfl)
    (fun x hw => by obtain ⟨k, hk⟩ := h210 x.1 hw; exact ⟨k, (ev210  k x).trans hk⟩)
/-! ### cmp.Compare[int] -/
theorem S128 : SoundF Try.prog 128 (.fn (.cons (.int .i64) (.cons (.int .i64) .nil)) (.cons (.int .i64) .nil) fun x => (s128 x.1 x.2.1, ())) :=
  fn_sound (E := fun k => mkEnv ts128 (fs128 s210)) (H := H128) (fun k => mkEnv_ok ty128 (fun p hp => by
    unfold fs128 at hp
    rcases List.mem_cons.1 hp with rfl | hp
    · exact S210
    cases hp)) mixedOK (by kernel_rfl : Try.prog.funcs[128]? = some Try.f128) (by kernel_rfl) (by kernel_rfl : Try.f128.body = some body128) (by kernel_rfl) (by kernel_rfl)
    (fun x hw => by obtain ⟨k, hk⟩ := h128 x.1 x.2.1 hw; exact ⟨k, (ev128 s210 k x).trans hk⟩)
/-! ### jitney/fleet.byShift -/
theorem S148 : SoundF Try.prog 148 (.fn (.cons (.struct (.cons (.int .i64) (.cons (.int .i64) .nil))) (.cons (.struct (.cons (.int .i64) (.cons (.int .i64) .nil))) .nil)) (.cons (.int .i64) .nil) fun x => (s148 x.1 x.2.1, ())) :=
  fn_sound (E := fun k => mkEnv ts148 (fs148 s127 s128)) (H := H148) (fun k => mkEnv_ok ty148 (fun p hp => by
    unfold fs148 at hp
    rcases List.mem_cons.1 hp with rfl | hp
    · exact S127
    rcases List.mem_cons.1 hp with rfl | hp
    · exact S128
    cases hp)) mixedOK (by kernel_rfl : Try.prog.funcs[148]? = some Try.f148) (by kernel_rfl) (by kernel_rfl : Try.f148.body = some body148) (by kernel_rfl) (by kernel_rfl)
    (fun x hw => by obtain ⟨k, hk⟩ := h148 x.1 x.2.1 hw; exact ⟨k, (ev148 s127 s128 k x).trans hk⟩)
/-! ### jitney/fleet.CheckShifts -/
theorem S53 : SoundF Try.prog 53 (.pfn (.cons (.slice (.struct (.cons (.int .i64) (.cons (.int .i64) .nil)))) .nil) (.cons (.int .i64) .nil) fun x => s53 x.1) :=
  pfn_sound (E := fun k => mkEnv ts53 (fs53 s148)) (H := H53) (fun k => mkEnv_ok ty53 (fun p hp => by
    unfold fs53 at hp
    rcases List.mem_cons.1 hp with rfl | hp
    · exact S148
    cases hp)) mixedOK (by kernel_rfl : Try.prog.funcs[53]? = some Try.f53) (by kernel_rfl) (by kernel_rfl : Try.f53.body = some body53) (by kernel_rfl) (by kernel_rfl)
    (fun x y hw hy => by obtain ⟨k, hk⟩ := h53 x.1 y hw hy; exact ⟨k, (ev53 s148 k x).trans hk⟩)
/-! ### jitney/fleet.rosters -/
theorem SI142_222 (k : Nat) : SoundF Try.prog 222 (.ev (mkEnv tsi142_222 (fsi142_222  k)) Hi142_222 k bodyi142_222 8 [.tmp 3]) :=
  ev_inline (mkEnv_ok tyi142_222 (fun p hp => by unfold fsi142_222 at hp; cases hp)) mixedOK (by kernel_rfl : Try.prog.funcs[222]? = some Try.f222) (by kernel_rfl) (by kernel_rfl : Try.f222.body = some bodyi142_222) (by kernel_rfl) (by kernel_rfl)
theorem SI142_221 (k : Nat) : SoundF Try.prog 221 (.ev (mkEnv tsi142_221 (fsi142_221  k)) Hi142_221 k bodyi142_221 19 [.tmp 4]) :=
  ev_inline (mkEnv_ok tyi142_221 (fun p hp => by
    unfold fsi142_221 at hp
    rcases List.mem_cons.1 hp with rfl | hp
    · exact SI142_222 k
    cases hp)) mixedOK (by kernel_rfl : Try.prog.funcs[221]? = some Try.f221) (by kernel_rfl) (by kernel_rfl : Try.f221.body = some bodyi142_221) (by kernel_rfl) (by kernel_rfl)
theorem S142 : SoundF Try.prog 142 (.pfn (.cons (.slice (.struct (.cons (.int .i64) (.cons (.int .i64) .nil)))) .nil) (.cons (.slice (.int .i64)) (.cons (.int .i64) .nil)) fun x => s142 x.1) :=
  pfn_sound (E := fun k => mkEnv ts142 (fs142  k)) (H := H142) (fun k => mkEnv_ok ty142 (fun p hp => by
    unfold fs142 at hp
    rcases List.mem_cons.1 hp with rfl | hp
    · exact SI142_221 k
    cases hp)) mixedOK (by kernel_rfl : Try.prog.funcs[142]? = some Try.f142) (by kernel_rfl) (by kernel_rfl : Try.f142.body = some body142) (by kernel_rfl) (by kernel_rfl)
    (fun x y hw hy => by obtain ⟨k, hk⟩ := h142 x.1 y hw hy; exact ⟨k, (ev142  k x).trans hk⟩)
/-! ### jitney/fleet.Drivers -/
theorem S45 : SoundF Try.prog 45 (.pfn (.cons (.slice (.struct (.cons (.int .i64) (.cons (.int .i64) .nil)))) .nil) (.cons (.int .i64) (.cons (.int .i64) .nil)) fun x => s45 x.1) :=
  pfn_sound (E := fun k => mkEnv ts45 (fs45 s53 s142)) (H := H45) (fun k => mkEnv_ok ty45 (fun p hp => by
    unfold fs45 at hp
    rcases List.mem_cons.1 hp with rfl | hp
    · exact S53
    rcases List.mem_cons.1 hp with rfl | hp
    · exact S142
    cases hp)) mixedOK (by kernel_rfl : Try.prog.funcs[45]? = some Try.f45) (by kernel_rfl) (by kernel_rfl : Try.f45.body = some body45) (by kernel_rfl) (by kernel_rfl)
    (fun x y hw hy => by obtain ⟨k, hk⟩ := h45 x.1 y hw hy; exact ⟨k, (ev45 s53 s142 k x).trans hk⟩)
/-! ### jitney/jitlaw2.driven -/
theorem S24 : SoundF Try.prog 24 (.pfn .nil (.cons .bool .nil) fun x => s24) :=
  pfn_sound (E := fun k => mkEnv ts24 (fs24 s45)) (H := H24) (fun k => mkEnv_ok ty24 (fun p hp => by
    unfold fs24 at hp
    rcases List.mem_cons.1 hp with rfl | hp
    · exact S45
    cases hp)) mixedOK (by kernel_rfl : Try.prog.funcs[24]? = some Try.f24) (by kernel_rfl) (by kernel_rfl : Try.f24.body = some body24) (by kernel_rfl) (by kernel_rfl)
    (fun x y hw hy => by obtain ⟨k, hk⟩ := h24  y hw hy; exact ⟨k, (ev24 s45 k x).trans hk⟩)
/-! ### jitney/jitlaw2.BatteriesGain -/
end Go.Vm
