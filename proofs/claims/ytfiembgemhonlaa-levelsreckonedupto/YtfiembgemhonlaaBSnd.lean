/- The program's functions are what the specs say. -/
import Derived.Test.YtfiembgemhonlaaBHand
set_option maxRecDepth 100000
set_option linter.unusedVariables false
namespace Go.Vm
open Go.Proofs
/-! ### jitney/base.Key -/
theorem S113 : SoundF Try.prog 113 (.fn (.cons .str .nil) (.cons .bool .nil) fun x => (s113 x.1, ())) :=
  fn_sound (E := fun k => mkEnv ts113 (fs113 )) (H := H113) (fun k => mkEnv_ok ty113 (fun p hp => by unfold fs113 at hp; cases hp)) mixedOK (by kernel_rfl : Try.prog.funcs[113]? = some Try.f113) (by kernel_rfl) (by kernel_rfl : Try.f113.body = some body113) (by kernel_rfl) (by kernel_rfl)
    (fun x hw => by obtain ⟨k, hk⟩ := h113 x.1 hw; exact ⟨k, (ev113  k x).trans hk⟩)
/-! ### jitney/base.Out -/
theorem S114 : SoundF Try.prog 114 (.fn (.cons (.int .i64) (.cons (.int .i64) (.cons (.int .i64) .nil))) (.cons .bool .nil) fun x => (s114 x.1 x.2.1 x.2.2.1, ())) :=
  fn_sound (E := fun k => mkEnv ts114 (fs114 )) (H := H114) (fun k => mkEnv_ok ty114 (fun p hp => by unfold fs114 at hp; cases hp)) mixedOK (by kernel_rfl : Try.prog.funcs[114]? = some Try.f114) (by kernel_rfl) (by kernel_rfl : Try.f114.body = some body114) (by kernel_rfl) (by kernel_rfl)
    (fun x hw => by obtain ⟨k, hk⟩ := h114 x.1 x.2.1 x.2.2.1 hw; exact ⟨k, (ev114  k x).trans hk⟩)
/-! ### jitney/fleet.CheckVehicles -/
theorem S12 : SoundF Try.prog 12 (.fn (.cons (.slice (.struct (.cons .str (.cons (.int .i64) (.cons (.int .i64) (.cons (.int .i64) (.cons (.int .i64) .nil))))))) .nil) (.cons (.int .i64) .nil) fun x => (s12 x.1, ())) :=
  fn_sound (E := fun k => mkEnv ts12 (fs12 s113 s114)) (H := H12) (fun k => mkEnv_ok ty12 (fun p hp => by
    unfold fs12 at hp
    rcases List.mem_cons.1 hp with rfl | hp
    · exact S113
    rcases List.mem_cons.1 hp with rfl | hp
    · exact S114
    cases hp)) mixedOK (by kernel_rfl : Try.prog.funcs[12]? = some Try.f12) (by kernel_rfl) (by kernel_rfl : Try.f12.body = some body12) (by kernel_rfl) (by kernel_rfl)
    (fun x hw => by obtain ⟨k, hk⟩ := h12 x.1 hw; exact ⟨k, (ev12 s113 s114 k x).trans hk⟩)
set_option maxHeartbeats 2000000 in
theorem walk13 (a : Option Addr) (c : Nat) (w : World) : Calls Try.prog 13 #[.slice a 0 c] w fun e w' => ∃ a' c', e = .returned (.slice a' 0 c') ∧ c' ≤ 9223372036854775807 ∧ Keep None w w' := by
  have q : ∀ (w : World) (a : Option Addr) (n c n' c' : Nat), (binOp .eql 22 (.slice a n c) (.slice none n' c')).run Try.prog w = .ok (.bool a.isNone) w := fun w a n c n' c' => Lib.run_eql_slice_nil w _ _ a n c n' c' Try.underlying22
  cases a with
  | none =>
    go_enter Try.func13, Try.ntmps13
    go_wp2
    go_ret
    exact ⟨none, 0, rfl, by omega, Keep.refl _ _⟩
  | some a =>
    go_enter Try.func13, Try.ntmps13
    go_wp2
    go_ret
    exact ⟨_, _, rfl, by omega, Keep.alloc _ _ _ _⟩
theorem cl13 (xs : List (ByteArray × Int × Int × Int × Int × Unit)) (hne : xs ≠ []) (hl : xs.length ≤ 4294967296) : f13 0 xs = some (xs, ()) := by
  cases xs with
  | nil => exact absurd rfl hne
  | cons z l =>
    have h2 : decide (List.length ([] : List (ByteArray × Int × Int × Int × Int × Unit)) + List.length (z :: l) ≤ 4294967296) = true := by simpa using hl
    unfold f13
    rw [show Nat.ble (List.length (z :: l)) 0 = false from rfl, h2]
    rfl
theorem S13 : SoundF Try.prog 13 (.pfn (.cons (.slice (.struct (.cons .str (.cons (.int .i64) (.cons (.int .i64) (.cons (.int .i64) (.cons (.int .i64) .nil))))))) .nil) (.cons (.slice (.struct (.cons .str (.cons (.int .i64) (.cons (.int .i64) (.cons (.int .i64) (.cons (.int .i64) .nil))))))) .nil) fun x => s13 x.1) := by
  intro ρ args objs K r hr
  exact clone_sound (T := (.struct (.cons .str (.cons (.int .i64) (.cons (.int .i64) (.cons (.int .i64) (.cons (.int .i64) .nil))))))) (g1 := fun x => f13 0 x.1) (pfn_sound (E := fun _ => mkEnv ts13 fs13) (H := H13) (fun _ => mkEnv_ok ty13 (fun p hp => by unfold fs13 at hp; cases hp)) mixedOK (by kernel_rfl : Try.prog.funcs[13]? = some Try.f13) (by kernel_rfl) (by kernel_rfl : Try.f13.body = some body13) (by kernel_rfl) (by kernel_rfl) (fun x y hw hy => ⟨0, (ev13 0 x).trans hy⟩)) (enters_of (by kernel_rfl : Try.prog.funcs[13]? = some Try.f13) (by kernel_rfl) (by kernel_rfl : Try.f13.body = some body13))
    (fun xs hne hl => cl13 xs hne hl) walk13 args objs K r hr
/-! ### jitney/jitref2.in -/
theorem S115 : SoundF Try.prog 115 (.fn (.cons (.int .i64) (.cons (.int .i64) (.cons (.int .i64) .nil))) (.cons .bool .nil) fun x => (s115 x.1 x.2.1 x.2.2.1, ())) :=
  fn_sound (E := fun k => mkEnv ts115 (fs115 )) (H := H115) (fun k => mkEnv_ok ty115 (fun p hp => by unfold fs115 at hp; cases hp)) mixedOK (by kernel_rfl : Try.prog.funcs[115]? = some Try.f115) (by kernel_rfl) (by kernel_rfl : Try.f115.body = some body115) (by kernel_rfl) (by kernel_rfl)
    (fun x hw => by obtain ⟨k, hk⟩ := h115 x.1 x.2.1 x.2.2.1 hw; exact ⟨k, (ev115  k x).trans hk⟩)
/-! ### strings.IndexByte -/
theorem S212 : SoundF Try.prog 212 (.fn (.cons .str (.cons (.int .u8) .nil)) (.cons (.int .i64) .nil) fun x => (s212 x.1 x.2.1, ())) :=
  fn_sound (E := fun k => mkEnv ts212 (fs212 s265)) (H := H212) (fun k => mkEnv_ok ty212 (fun p hp => by
    unfold fs212 at hp
    rcases List.mem_cons.1 hp with rfl | hp
    · exact S265
    cases hp)) mixedOK (by kernel_rfl : Try.prog.funcs[212]? = some Try.f212) (by kernel_rfl) (by kernel_rfl : Try.f212.body = some body212) (by kernel_rfl) (by kernel_rfl)
    (fun x hw => by obtain ⟨k, hk⟩ := h212 x.1 x.2.1 hw; exact ⟨k, (ev212 s265 k x).trans hk⟩)
/-! ### jitney/jitref2.only -/
theorem S130 : SoundF Try.prog 130 (.fn (.cons .str (.cons .str .nil)) (.cons .bool .nil) fun x => (s130 x.1 x.2.1, ())) :=
  fn_sound (E := fun k => mkEnv ts130 (fs130 s212)) (H := H130) (fun k => mkEnv_ok ty130 (fun p hp => by
    unfold fs130 at hp
    rcases List.mem_cons.1 hp with rfl | hp
    · exact S212
    cases hp)) mixedOK (by kernel_rfl : Try.prog.funcs[130]? = some Try.f130) (by kernel_rfl) (by kernel_rfl : Try.f130.body = some body130) (by kernel_rfl) (by kernel_rfl)
    (fun x hw => by obtain ⟨k, hk⟩ := h130 x.1 x.2.1 hw; exact ⟨k, (ev130 s212 k x).trans hk⟩)
/-! ### jitney/jitref2.Key -/
theorem S31 : SoundF Try.prog 31 (.fn (.cons .str .nil) (.cons .bool .nil) fun x => (s31 x.1, ())) :=
  fn_sound (E := fun k => mkEnv ts31 (fs31 s115 s130)) (H := H31) (fun k => mkEnv_ok ty31 (fun p hp => by
    unfold fs31 at hp
    rcases List.mem_cons.1 hp with rfl | hp
    · exact S115
    rcases List.mem_cons.1 hp with rfl | hp
    · exact S130
    cases hp)) mixedOK (by kernel_rfl : Try.prog.funcs[31]? = some Try.f31) (by kernel_rfl) (by kernel_rfl : Try.f31.body = some body31) (by kernel_rfl) (by kernel_rfl)
    (fun x hw => by obtain ⟨k, hk⟩ := h31 x.1 hw; exact ⟨k, (ev31 s115 s130 k x).trans hk⟩)
/-! ### jitney/jitref2.VehiclesFault -/
theorem S14 : SoundF Try.prog 14 (.fn (.cons (.slice (.struct (.cons .str (.cons (.int .i64) (.cons (.int .i64) (.cons (.int .i64) (.cons (.int .i64) .nil))))))) .nil) (.cons (.int .i64) .nil) fun x => (s14 x.1, ())) :=
  fn_sound (E := fun k => mkEnv ts14 (fs14 s31 s115)) (H := H14) (fun k => mkEnv_ok ty14 (fun p hp => by
    unfold fs14 at hp
    rcases List.mem_cons.1 hp with rfl | hp
    · exact S31
    rcases List.mem_cons.1 hp with rfl | hp
    · exact S115
    cases hp)) mixedOK (by kernel_rfl : Try.prog.funcs[14]? = some Try.f14) (by kernel_rfl) (by kernel_rfl : Try.f14.body = some body14) (by kernel_rfl) (by kernel_rfl)
    (fun x hw => by obtain ⟨k, hk⟩ := h14 x.1 hw; exact ⟨k, (ev14 s31 s115 k x).trans hk⟩)
/-! ### jitney/fleet.CheckPlaces -/
theorem S15 : SoundF Try.prog 15 (.fn (.cons (.slice (.struct (.cons .str (.cons (.int .i64) (.cons (.int .i64) .nil))))) .nil) (.cons (.int .i64) .nil) fun x => (s15 x.1, ())) :=
  fn_sound (E := fun k => mkEnv ts15 (fs15 s113 s114)) (H := H15) (fun k => mkEnv_ok ty15 (fun p hp => by
    unfold fs15 at hp
    rcases List.mem_cons.1 hp with rfl | hp
    · exact S113
    rcases List.mem_cons.1 hp with rfl | hp
    · exact S114
    cases hp)) mixedOK (by kernel_rfl : Try.prog.funcs[15]? = some Try.f15) (by kernel_rfl) (by kernel_rfl : Try.f15.body = some body15) (by kernel_rfl) (by kernel_rfl)
    (fun x hw => by obtain ⟨k, hk⟩ := h15 x.1 hw; exact ⟨k, (ev15 s113 s114 k x).trans hk⟩)
set_option maxHeartbeats 2000000 in
theorem walk16 (a : Option Addr) (c : Nat) (w : World) : Calls Try.prog 16 #[.slice a 0 c] w fun e w' => ∃ a' c', e = .returned (.slice a' 0 c') ∧ c' ≤ 9223372036854775807 ∧ Keep None w w' := by
  have q : ∀ (w : World) (a : Option Addr) (n c n' c' : Nat), (binOp .eql 23 (.slice a n c) (.slice none n' c')).run Try.prog w = .ok (.bool a.isNone) w := fun w a n c n' c' => Lib.run_eql_slice_nil w _ _ a n c n' c' Try.underlying23
  cases a with
  | none =>
    go_enter Try.func16, Try.ntmps16
    go_wp2
    go_ret
    exact ⟨none, 0, rfl, by omega, Keep.refl _ _⟩
  | some a =>
    go_enter Try.func16, Try.ntmps16
    go_wp2
    go_ret
    exact ⟨_, _, rfl, by omega, Keep.alloc _ _ _ _⟩
theorem cl16 (xs : List (ByteArray × Int × Int × Unit)) (hne : xs ≠ []) (hl : xs.length ≤ 4294967296) : f16 0 xs = some (xs, ()) := by
  cases xs with
  | nil => exact absurd rfl hne
  | cons z l =>
    have h2 : decide (List.length ([] : List (ByteArray × Int × Int × Unit)) + List.length (z :: l) ≤ 4294967296) = true := by simpa using hl
    unfold f16
    rw [show Nat.ble (List.length (z :: l)) 0 = false from rfl, h2]
    rfl
theorem S16 : SoundF Try.prog 16 (.pfn (.cons (.slice (.struct (.cons .str (.cons (.int .i64) (.cons (.int .i64) .nil))))) .nil) (.cons (.slice (.struct (.cons .str (.cons (.int .i64) (.cons (.int .i64) .nil))))) .nil) fun x => s16 x.1) := by
  intro ρ args objs K r hr
  exact clone_sound (T := (.struct (.cons .str (.cons (.int .i64) (.cons (.int .i64) .nil))))) (g1 := fun x => f16 0 x.1) (pfn_sound (E := fun _ => mkEnv ts16 fs16) (H := H16) (fun _ => mkEnv_ok ty16 (fun p hp => by unfold fs16 at hp; cases hp)) mixedOK (by kernel_rfl : Try.prog.funcs[16]? = some Try.f16) (by kernel_rfl) (by kernel_rfl : Try.f16.body = some body16) (by kernel_rfl) (by kernel_rfl) (fun x y hw hy => ⟨0, (ev16 0 x).trans hy⟩)) (enters_of (by kernel_rfl : Try.prog.funcs[16]? = some Try.f16) (by kernel_rfl) (by kernel_rfl : Try.f16.body = some body16))
    (fun xs hne hl => cl16 xs hne hl) walk16 args objs K r hr
/-! ### jitney/jitref2.PlacesFault -/
theorem S17 : SoundF Try.prog 17 (.fn (.cons (.slice (.struct (.cons .str (.cons (.int .i64) (.cons (.int .i64) .nil))))) .nil) (.cons (.int .i64) .nil) fun x => (s17 x.1, ())) :=
  fn_sound (E := fun k => mkEnv ts17 (fs17 s31 s115)) (H := H17) (fun k => mkEnv_ok ty17 (fun p hp => by
    unfold fs17 at hp
    rcases List.mem_cons.1 hp with rfl | hp
    · exact S31
    rcases List.mem_cons.1 hp with rfl | hp
    · exact S115
    cases hp)) mixedOK (by kernel_rfl : Try.prog.funcs[17]? = some Try.f17) (by kernel_rfl) (by kernel_rfl : Try.f17.body = some body17) (by kernel_rfl) (by kernel_rfl)
    (fun x hw => by obtain ⟨k, hk⟩ := h17 x.1 hw; exact ⟨k, (ev17 s31 s115 k x).trans hk⟩)
/-! ### jitney/base.First -/
theorem S123 : SoundF Try.prog 123 (.fn (.cons (.slice (.int .i64)) .nil) (.cons (.int .i64) .nil) fun x => (s123 x.1, ())) :=
  fn_sound (E := fun k => mkEnv ts123 (fs123 )) (H := H123) (fun k => mkEnv_ok ty123 (fun p hp => by unfold fs123 at hp; cases hp)) mixedOK (by kernel_rfl : Try.prog.funcs[123]? = some Try.f123) (by kernel_rfl) (by kernel_rfl : Try.f123.body = some body123) (by kernel_rfl) (by kernel_rfl)
    (fun x hw => by obtain ⟨k, hk⟩ := h123 x.1 hw; exact ⟨k, (ev123  k x).trans hk⟩)
/-! ### jitney/fleet.oneFault -/
theorem S116 : SoundF Try.prog 116 (.fn (.cons (.struct (.cons .str (.cons (.int .i64) (.cons (.int .i64) (.cons (.int .i64) (.cons (.int .i64) .nil)))))) (.cons (.struct (.cons .str (.cons (.int .i64) (.cons (.int .i64) .nil)))) .nil)) (.cons (.int .i64) .nil) fun x => (s116 x.1 x.2.1, ())) :=
  fn_sound (E := fun k => mkEnv ts116 (fs116 s12 s15 s123)) (H := H116) (fun k => mkEnv_ok ty116 (fun p hp => by
    unfold fs116 at hp
    rcases List.mem_cons.1 hp with rfl | hp
    · exact S12
    rcases List.mem_cons.1 hp with rfl | hp
    · exact S15
    rcases List.mem_cons.1 hp with rfl | hp
    · exact S123
    cases hp)) mixedOK (by kernel_rfl : Try.prog.funcs[116]? = some Try.f116) (by kernel_rfl) (by kernel_rfl : Try.f116.body = some body116) (by kernel_rfl) (by kernel_rfl)
    (fun x hw => by obtain ⟨k, hk⟩ := h116 x.1 x.2.1 hw; exact ⟨k, (ev116 s12 s15 s123 k x).trans hk⟩)
/-! ### jitney/fleet.newBattery -/
theorem S117 : SoundF Try.prog 117 (.fn (.cons (.struct (.cons .str (.cons (.int .i64) (.cons (.int .i64) (.cons (.int .i64) (.cons (.int .i64) .nil)))))) (.cons (.struct (.cons .str (.cons (.int .i64) (.cons (.int .i64) .nil)))) (.cons (.int .i64) .nil))) (.cons (.struct (.cons (.int .i64) (.cons (.int .i64) (.cons (.int .i64) (.cons (.int .i64) .nil))))) .nil) fun x => (s117 x.1 x.2.1 x.2.2.1, ())) :=
  fn_sound (E := fun k => mkEnv ts117 (fs117 )) (H := H117) (fun k => mkEnv_ok ty117 (fun p hp => by unfold fs117 at hp; cases hp)) mixedOK (by kernel_rfl : Try.prog.funcs[117]? = some Try.f117) (by kernel_rfl) (by kernel_rfl : Try.f117.body = some body117) (by kernel_rfl) (by kernel_rfl)
    (fun x hw => by obtain ⟨k, hk⟩ := h117 x.1 x.2.1 x.2.2.1 hw; exact ⟨k, (ev117  k x).trans hk⟩)
/-! ### jitney/fleet.up -/
theorem S208 : SoundF Try.prog 208 (.pfn (.cons (.int .i64) (.cons (.int .i64) .nil)) (.cons (.int .i64) .nil) fun x => s208 x.1 x.2.1) :=
  pfn_sound (E := fun k => mkEnv ts208 (fs208 )) (H := H208) (fun k => mkEnv_ok ty208 (fun p hp => by unfold fs208 at hp; cases hp)) mixedOK (by kernel_rfl : Try.prog.funcs[208]? = some Try.f208) (by kernel_rfl) (by kernel_rfl : Try.f208.body = some body208) (by kernel_rfl) (by kernel_rfl)
    (fun x y hw hy => by obtain ⟨k, hk⟩ := h208 x.1 x.2.1 y hw hy; exact ⟨k, (ev208  k x).trans hk⟩)
/-! ### (jitney/fleet.battery).after -/
theorem S118 : SoundF Try.prog 118 (.pfn (.cons (.struct (.cons (.int .i64) (.cons (.int .i64) (.cons (.int .i64) (.cons (.int .i64) .nil))))) (.cons (.int .i64) .nil)) (.cons (.int .i64) .nil) fun x => s118 x.1 x.2.1) :=
  pfn_sound (E := fun k => mkEnv ts118 (fs118 s208)) (H := H118) (fun k => mkEnv_ok ty118 (fun p hp => by
    unfold fs118 at hp
    rcases List.mem_cons.1 hp with rfl | hp
    · exact S208
    cases hp)) mixedOK (by kernel_rfl : Try.prog.funcs[118]? = some Try.f118) (by kernel_rfl) (by kernel_rfl : Try.f118.body = some body118) (by kernel_rfl) (by kernel_rfl)
    (fun x y hw hy => by obtain ⟨k, hk⟩ := h118 x.1 x.2.1 y hw hy; exact ⟨k, (ev118 s208 k x).trans hk⟩)
/-! ### jitney/fleet.Gain -/
theorem S18 : SoundF Try.prog 18 (.fn (.cons (.struct (.cons .str (.cons (.int .i64) (.cons (.int .i64) (.cons (.int .i64) (.cons (.int .i64) .nil)))))) (.cons (.struct (.cons .str (.cons (.int .i64) (.cons (.int .i64) .nil)))) (.cons (.int .i64) (.cons (.int .i64) .nil)))) (.cons (.int .i64) (.cons (.int .i64) .nil)) fun x => s18 x.1 x.2.1 x.2.2.1 x.2.2.2.1) :=
  fn_sound (E := fun k => mkEnv ts18 (fs18 s114 s116 s117 s118)) (H := H18) (fun k => mkEnv_ok ty18 (fun p hp => by
    unfold fs18 at hp
    rcases List.mem_cons.1 hp with rfl | hp
    · exact S114
    rcases List.mem_cons.1 hp with rfl | hp
    · exact S116
    rcases List.mem_cons.1 hp with rfl | hp
    · exact S117
    rcases List.mem_cons.1 hp with rfl | hp
    · exact S118
    cases hp)) mixedOK (by kernel_rfl : Try.prog.funcs[18]? = some Try.f18) (by kernel_rfl) (by kernel_rfl : Try.f18.body = some body18) (by kernel_rfl) (by kernel_rfl)
    (fun x hw => by obtain ⟨k, hk⟩ := h18 x.1 x.2.1 x.2.2.1 x.2.2.2.1 hw; exact ⟨k, (ev18 s114 s116 s117 s118 k x).trans hk⟩)
/-! ### (jitney/fleet.battery).needs -/
theorem S119 : SoundF Try.prog 119 (.pfn (.cons (.struct (.cons (.int .i64) (.cons (.int .i64) (.cons (.int .i64) (.cons (.int .i64) .nil))))) (.cons (.int .i64) .nil)) (.cons (.int .i64) .nil) fun x => s119 x.1 x.2.1) :=
  pfn_sound (E := fun k => mkEnv ts119 (fs119 s208)) (H := H119) (fun k => mkEnv_ok ty119 (fun p hp => by
    unfold fs119 at hp
    rcases List.mem_cons.1 hp with rfl | hp
    · exact S208
    cases hp)) mixedOK (by kernel_rfl : Try.prog.funcs[119]? = some Try.f119) (by kernel_rfl) (by kernel_rfl : Try.f119.body = some body119) (by kernel_rfl) (by kernel_rfl)
    (fun x y hw hy => by obtain ⟨k, hk⟩ := h119 x.1 x.2.1 y hw hy; exact ⟨k, (ev119 s208 k x).trans hk⟩)
/-! ### jitney/fleet.Needs -/
theorem S19 : SoundF Try.prog 19 (.fn (.cons (.struct (.cons .str (.cons (.int .i64) (.cons (.int .i64) (.cons (.int .i64) (.cons (.int .i64) .nil)))))) (.cons (.struct (.cons .str (.cons (.int .i64) (.cons (.int .i64) .nil)))) (.cons (.int .i64) (.cons (.int .i64) .nil)))) (.cons (.int .i64) (.cons (.int .i64) .nil)) fun x => s19 x.1 x.2.1 x.2.2.1 x.2.2.2.1) :=
  fn_sound (E := fun k => mkEnv ts19 (fs19 s114 s116 s117 s119)) (H := H19) (fun k => mkEnv_ok ty19 (fun p hp => by
    unfold fs19 at hp
    rcases List.mem_cons.1 hp with rfl | hp
    · exact S114
    rcases List.mem_cons.1 hp with rfl | hp
    · exact S116
    rcases List.mem_cons.1 hp with rfl | hp
    · exact S117
    rcases List.mem_cons.1 hp with rfl | hp
    · exact S119
    cases hp)) mixedOK (by kernel_rfl : Try.prog.funcs[19]? = some Try.f19) (by kernel_rfl) (by kernel_rfl : Try.f19.body = some body19) (by kernel_rfl) (by kernel_rfl)
    (fun x hw => by obtain ⟨k, hk⟩ := h19 x.1 x.2.1 x.2.2.1 x.2.2.2.1 hw; exact ⟨k, (ev19 s114 s116 s117 s119 k x).trans hk⟩)
/-! ### jitney/jitlaw2.errs -/
theorem S20 : SoundF Try.prog 20 (.fn (.cons (.slice (.int .i64)) .nil) (.cons (.int .i64) .nil) fun x => (s20 x.1, ())) :=
  fn_sound (E := fun k => mkEnv ts20 (fs20 )) (H := H20) (fun k => mkEnv_ok ty20 (fun p hp => by unfold fs20 at hp; cases hp)) mixedOK (by kernel_rfl : Try.prog.funcs[20]? = some Try.f20) (by kernel_rfl) (by kernel_rfl : Try.f20.body = some body20) (by kernel_rfl) (by kernel_rfl)
    (fun x hw => by obtain ⟨k, hk⟩ := h20 x.1 hw; exact ⟨k, (ev20  k x).trans hk⟩)
/-! ### jitney/jitlaw2.when -/
theorem S21 : SoundF Try.prog 21 (.fn (.cons .bool (.cons (.int .i64) .nil)) (.cons (.int .i64) .nil) fun x => (s21 x.1 x.2.1, ())) :=
  fn_sound (E := fun k => mkEnv ts21 (fs21 )) (H := H21) (fun k => mkEnv_ok ty21 (fun p hp => by unfold fs21 at hp; cases hp)) mixedOK (by kernel_rfl : Try.prog.funcs[21]? = some Try.f21) (by kernel_rfl) (by kernel_rfl : Try.f21.body = some body21) (by kernel_rfl) (by kernel_rfl)
    (fun x hw => by obtain ⟨k, hk⟩ := h21 x.1 x.2.1 hw; exact ⟨k, (ev21  k x).trans hk⟩)
/-! ### jitney/jitref2.over -/
theorem S120 : SoundF Try.prog 120 (.pfn (.cons (.int .i64) (.cons (.int .i64) .nil)) (.cons (.int .i64) .nil) fun x => s120 x.1 x.2.1) :=
  pfn_sound (E := fun k => mkEnv ts120 (fs120 )) (H := H120) (fun k => mkEnv_ok ty120 (fun p hp => by unfold fs120 at hp; cases hp)) mixedOK (by kernel_rfl : Try.prog.funcs[120]? = some Try.f120) (by kernel_rfl) (by kernel_rfl : Try.f120.body = some body120) (by kernel_rfl) (by kernel_rfl)
    (fun x y hw hy => by obtain ⟨k, hk⟩ := h120 x.1 x.2.1 y hw hy; exact ⟨k, (ev120  k x).trans hk⟩)
/-! ### jitney/jitref2.GainOf -/
theorem S22 : SoundF Try.prog 22 (.pfn (.cons (.struct (.cons .str (.cons (.int .i64) (.cons (.int .i64) (.cons (.int .i64) (.cons (.int .i64) .nil)))))) (.cons (.struct (.cons .str (.cons (.int .i64) (.cons (.int .i64) .nil)))) (.cons (.int .i64) (.cons (.int .i64) .nil)))) (.cons (.int .i64) .nil) fun x => s22 x.1 x.2.1 x.2.2.1 x.2.2.2.1) :=
  pfn_sound (E := fun k => mkEnv ts22 (fs22 s120)) (H := H22) (fun k => mkEnv_ok ty22 (fun p hp => by
    unfold fs22 at hp
    rcases List.mem_cons.1 hp with rfl | hp
    · exact S120
    cases hp)) mixedOK (by kernel_rfl : Try.prog.funcs[22]? = some Try.f22) (by kernel_rfl) (by kernel_rfl : Try.f22.body = some body22) (by kernel_rfl) (by kernel_rfl)
    (fun x y hw hy => by obtain ⟨k, hk⟩ := h22 x.1 x.2.1 x.2.2.1 x.2.2.2.1 y hw hy; exact ⟨k, (ev22 s120 k x).trans hk⟩)
/-! ### jitney/jitref2.NeedsOf -/
theorem S23 : SoundF Try.prog 23 (.pfn (.cons (.struct (.cons .str (.cons (.int .i64) (.cons (.int .i64) (.cons (.int .i64) (.cons (.int .i64) .nil)))))) (.cons (.struct (.cons .str (.cons (.int .i64) (.cons (.int .i64) .nil)))) (.cons (.int .i64) (.cons (.int .i64) .nil)))) (.cons (.int .i64) .nil) fun x => s23 x.1 x.2.1 x.2.2.1 x.2.2.2.1) :=
  pfn_sound (E := fun k => mkEnv ts23 (fs23 s22)) (H := H23) (fun k => mkEnv_ok ty23 (fun p hp => by
    unfold fs23 at hp
    rcases List.mem_cons.1 hp with rfl | hp
    · exact S22
    cases hp)) mixedOK (by kernel_rfl : Try.prog.funcs[23]? = some Try.f23) (by kernel_rfl) (by kernel_rfl : Try.f23.body = some body23) (by kernel_rfl) (by kernel_rfl)
    (fun x y hw hy => by obtain ⟨k, hk⟩ := h23 x.1 x.2.1 x.2.2.1 x.2.2.2.1 y hw hy; exact ⟨k, (ev23 s22 k x).trans hk⟩)
/-! ### cmp.Or[int] -/
theorem S127 : SoundF Try.prog 127 (.fn (.cons (.slice (.int .i64)) .nil) (.cons (.int .i64) .nil) fun x => (s127 x.1, ())) :=
  fn_sound (E := fun k => mkEnv ts127 (fs127 )) (H := H127) (fun k => mkEnv_ok ty127 (fun p hp => by unfold fs127 at hp; cases hp)) mixedOK (by kernel_rfl : Try.prog.funcs[127]? = some Try.f127) (by kernel_rfl) (by kernel_rfl : Try.f127.body = some body127) (by kernel_rfl) (by kernel_rfl)
    (fun x hw => by obtain ⟨k, hk⟩ := h127 x.1 hw; exact ⟨k, (ev127  k x).trans hk⟩)
/-! ### cmp.isNaN[int] -/
theorem S210 : SoundF Try.prog 210 (.fn (.cons (.int .i64) .nil) (.cons .bool .nil) fun x => (s210 x.1, ())) :=
  fn_sound (E := fun k => mkEnv ts210 (fs210 )) (H := H210) (fun k => mkEnv_ok ty210 (fun p hp => by unfold fs210 at hp; cases hp)) mixedOK (by kernel_rfl : Try.prog.funcs[210]? = some Try.f210) (by kernel_rfl) (by kernel_rfl : Try.f210.body = some body210) (by kernel_rfl) (by kernel_rfl)
    (fun x hw => by obtain ⟨k, hk⟩ := h210 x.1 hw; exact ⟨k, (ev210  k x).trans hk⟩)
/-! ### cmp.Compare[int] -/
theorem S128 : SoundF Try.prog 128 (.fn (.cons (.int .i64) (.cons (.int .i64) .nil)) (.cons (.int .i64) .nil) fun x => (s128 x.1 x.2.1, ())) :=
  fn_sound (E := fun k => mkEnv ts128 (fs128 s210)) (H := H128) (fun k => mkEnv_ok ty128 (fun p hp => by
    unfold fs128 at hp
    rcases List.mem_cons.1 hp with rfl | hp
    · exact S210
    cases hp)) mixedOK (by kernel_rfl : Try.prog.funcs[128]? = some Try.f128) (by kernel_rfl) (by kernel_rfl : Try.f128.body = some body128) (by kernel_rfl) (by kernel_rfl)
    (fun x hw => by obtain ⟨k, hk⟩ := h128 x.1 x.2.1 hw; exact ⟨k, (ev128 s210 k x).trans hk⟩)
/-! ### jitney/fleet.byShift -/
theorem S148 : SoundF Try.prog 148 (.fn (.cons (.struct (.cons (.int .i64) (.cons (.int .i64) .nil))) (.cons (.struct (.cons (.int .i64) (.cons (.int .i64) .nil))) .nil)) (.cons (.int .i64) .nil) fun x => (s148 x.1 x.2.1, ())) :=
  fn_sound (E := fun k => mkEnv ts148 (fs148 s127 s128)) (H := H148) (fun k => mkEnv_ok ty148 (fun p hp => by
    unfold fs148 at hp
    rcases List.mem_cons.1 hp with rfl | hp
    · exact S127
    rcases List.mem_cons.1 hp with rfl | hp
    · exact S128
    cases hp)) mixedOK (by kernel_rfl : Try.prog.funcs[148]? = some Try.f148) (by kernel_rfl) (by kernel_rfl : Try.f148.body = some body148) (by kernel_rfl) (by kernel_rfl)
    (fun x hw => by obtain ⟨k, hk⟩ := h148 x.1 x.2.1 hw; exact ⟨k, (ev148 s127 s128 k x).trans hk⟩)
/-! ### jitney/fleet.CheckShifts -/
theorem S53 : SoundF Try.prog 53 (.pfn (.cons (.slice (.struct (.cons (.int .i64) (.cons (.int .i64) .nil)))) .nil) (.cons (.int .i64) .nil) fun x => s53 x.1) :=
  pfn_sound (E := fun k => mkEnv ts53 (fs53 s148)) (H := H53) (fun k => mkEnv_ok ty53 (fun p hp => by
    unfold fs53 at hp
    rcases List.mem_cons.1 hp with rfl | hp
    · exact S148
    cases hp)) mixedOK (by kernel_rfl : Try.prog.funcs[53]? = some Try.f53) (by kernel_rfl) (by kernel_rfl : Try.f53.body = some body53) (by kernel_rfl) (by kernel_rfl)
    (fun x y hw hy => by obtain ⟨k, hk⟩ := h53 x.1 y hw hy; exact ⟨k, (ev53 s148 k x).trans hk⟩)
/-! ### jitney/fleet.rosters -/
theorem SI142_222 (k : Nat) : SoundF Try.prog 222 (.ev (mkEnv tsi142_222 (fsi142_222  k)) Hi142_222 k bodyi142_222 8 [.tmp 3]) :=
  ev_inline (mkEnv_ok tyi142_222 (fun p hp => by unfold fsi142_222 at hp; cases hp)) mixedOK (by kernel_rfl : Try.prog.funcs[222]? = some Try.f222) (by kernel_rfl) (by kernel_rfl : Try.f222.body = some bodyi142_222) (by kernel_rfl) (by kernel_rfl)
theorem SI142_221 (k : Nat) : SoundF Try.prog 221 (.ev (mkEnv tsi142_221 (fsi142_221  k)) Hi142_221 k bodyi142_221 19 [.tmp 4]) :=
  ev_inline (mkEnv_ok tyi142_221 (fun p hp => by
    unfold fsi142_221 at hp
    rcases List.mem_cons.1 hp with rfl | hp
    · exact SI142_222 k
    cases hp)) mixedOK (by kernel_rfl : Try.prog.funcs[221]? = some Try.f221) (by kernel_rfl) (by kernel_rfl : Try.f221.body = some bodyi142_221) (by kernel_rfl) (by kernel_rfl)
theorem S142 : SoundF Try.prog 142 (.pfn (.cons (.slice (.struct (.cons (.int .i64) (.cons (.int .i64) .nil)))) .nil) (.cons (.slice (.int .i64)) (.cons (.int .i64) .nil)) fun x => s142 x.1) :=
  pfn_sound (E := fun k => mkEnv ts142 (fs142  k)) (H := H142) (fun k => mkEnv_ok ty142 (fun p hp => by
    unfold fs142 at hp
    rcases List.mem_cons.1 hp with rfl | hp
    · exact SI142_221 k
    cases hp)) mixedOK (by kernel_rfl : Try.prog.funcs[142]? = some Try.f142) (by kernel_rfl) (by kernel_rfl : Try.f142.body = some body142) (by kernel_rfl) (by kernel_rfl)
    (fun x y hw hy => by obtain ⟨k, hk⟩ := h142 x.1 y hw hy; exact ⟨k, (ev142  k x).trans hk⟩)
/-! ### jitney/fleet.Drivers -/
theorem S45 : SoundF Try.prog 45 (.pfn (.cons (.slice (.struct (.cons (.int .i64) (.cons (.int .i64) .nil)))) .nil) (.cons (.int .i64) (.cons (.int .i64) .nil)) fun x => s45 x.1) :=
  pfn_sound (E := fun k => mkEnv ts45 (fs45 s53 s142)) (H := H45) (fun k => mkEnv_ok ty45 (fun p hp => by
    unfold fs45 at hp
    rcases List.mem_cons.1 hp with rfl | hp
    · exact S53
    rcases List.mem_cons.1 hp with rfl | hp
    · exact S142
    cases hp)) mixedOK (by kernel_rfl : Try.prog.funcs[45]? = some Try.f45) (by kernel_rfl) (by kernel_rfl : Try.f45.body = some body45) (by kernel_rfl) (by kernel_rfl)
    (fun x y hw hy => by obtain ⟨k, hk⟩ := h45 x.1 y hw hy; exact ⟨k, (ev45 s53 s142 k x).trans hk⟩)
/-! ### jitney/jitlaw2.driven -/
theorem S24 : SoundF Try.prog 24 (.pfn .nil (.cons .bool .nil) fun x => s24) :=
  pfn_sound (E := fun k => mkEnv ts24 (fs24 s45)) (H := H24) (fun k => mkEnv_ok ty24 (fun p hp => by
    unfold fs24 at hp
    rcases List.mem_cons.1 hp with rfl | hp
    · exact S45
    cases hp)) mixedOK (by kernel_rfl : Try.prog.funcs[24]? = some Try.f24) (by kernel_rfl) (by kernel_rfl : Try.f24.body = some body24) (by kernel_rfl) (by kernel_rfl)
    (fun x y hw hy => by obtain ⟨k, hk⟩ := h24  y hw hy; exact ⟨k, (ev24 s45 k x).trans hk⟩)
/-! ### jitney/jitlaw2.BatteriesGain -/
theorem S3 : SoundF Try.prog 3 (.pfn (.cons (.slice (.struct (.cons .str (.cons (.int .i64) (.cons (.int .i64) (.cons (.int .i64) (.cons (.int .i64) .nil))))))) (.cons (.slice (.struct (.cons .str (.cons (.int .i64) (.cons (.int .i64) .nil))))) (.cons (.struct (.cons .str (.cons (.int .i64) (.cons (.int .i64) (.cons (.int .i64) (.cons (.int .i64) .nil)))))) (.cons (.struct (.cons .str (.cons (.int .i64) (.cons (.int .i64) .nil)))) (.cons (.int .i64) (.cons (.int .i64) (.cons (.int .i64) .nil))))))) (.cons .bool .nil) fun x => s3 x.1 x.2.1 x.2.2.1 x.2.2.2.1 x.2.2.2.2.1 x.2.2.2.2.2.1 x.2.2.2.2.2.2.1) :=
  pfn_sound (E := fun k => mkEnv ts3 (fs3 s12 s13 s14 s15 s16 s17 s18 s19 s20 s21 s22 s23 s24)) (H := H3) (fun k => mkEnv_ok ty3 (fun p hp => by
    unfold fs3 at hp
    rcases List.mem_cons.1 hp with rfl | hp
    · exact S12
    rcases List.mem_cons.1 hp with rfl | hp
    · exact S13
    rcases List.mem_cons.1 hp with rfl | hp
    · exact S14
    rcases List.mem_cons.1 hp with rfl | hp
    · exact S15
    rcases List.mem_cons.1 hp with rfl | hp
    · exact S16
    rcases List.mem_cons.1 hp with rfl | hp
    · exact S17
    rcases List.mem_cons.1 hp with rfl | hp
    · exact S18
    rcases List.mem_cons.1 hp with rfl | hp
    · exact S19
    rcases List.mem_cons.1 hp with rfl | hp
    · exact S20
    rcases List.mem_cons.1 hp with rfl | hp
    · exact S21
    rcases List.mem_cons.1 hp with rfl | hp
    · exact S22
    rcases List.mem_cons.1 hp with rfl | hp
    · exact S23
    rcases List.mem_cons.1 hp with rfl | hp
    · exact S24
    cases hp)) mixedOK (by kernel_rfl : Try.prog.funcs[3]? = some Try.f3) (by kernel_rfl) (by kernel_rfl : Try.f3.body = some body3) (by kernel_rfl) (by kernel_rfl)
    (fun x y hw hy => by obtain ⟨k, hk⟩ := h3 x.1 x.2.1 x.2.2.1 x.2.2.2.1 x.2.2.2.2.1 x.2.2.2.2.2.1 x.2.2.2.2.2.2.1 y hw hy; exact ⟨k, (ev3 s12 s13 s14 s15 s16 s17 s18 s19 s20 s21 s22 s23 s24 k x).trans hk⟩)
end Go.Vm
