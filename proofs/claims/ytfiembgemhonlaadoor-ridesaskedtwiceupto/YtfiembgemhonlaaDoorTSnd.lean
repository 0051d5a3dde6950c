/- The program's functions are what the specs say. -/
import Derived.Test.YtfiembgemhonlaaDoorTSpec
import Derived.Test.YtfiembgemhonlaaDoorUSnd
set_option maxRecDepth 100000
set_option linter.unusedVariables false
namespace Go.Vm
open Go.Proofs
/-! ### jitney/request.allKeys$1 -/
theorem S68 : SoundF Tryd.prog 68 (.fn (.cons .str .nil) (.cons .bool .nil) fun x => (s68 x.1, ())) :=
  fn_sound (E := fun k => mkEnv ts68 (fs68 s36)) (H := H68) (fun k => mkEnv_ok ty68 (fun p hp => by
    unfold fs68 at hp
    rcases List.mem_cons.1 hp with rfl | hp
    · exact S36
    cases hp)) mixedOK (by kernel_rfl : Tryd.prog.funcs[68]? = some Tryd.f68) (by kernel_rfl) (by kernel_rfl : Tryd.f68.body = some body68) (by kernel_rfl) (by kernel_rfl)
    (fun x hw => by obtain ⟨k, hk⟩ := h68 x.1 hw; exact ⟨k, (ev68 s36 k x).trans hk⟩)
/-! ### jitney/request.allKeys -/
theorem SI57_82 (k : Nat) : SoundF Tryd.prog 82 (.ev (mkEnv tsi57_82 (fsi57_82 s68 k)) Hi57_82 k bodyi57_82 19 [.tmp 4]) :=
  ev_inline (mkEnv_ok tyi57_82 (fun p hp => by
    unfold fsi57_82 at hp
    rcases List.mem_cons.1 hp with rfl | hp
    · exact S68
    cases hp)) mixedOK (by kernel_rfl : Tryd.prog.funcs[82]? = some Tryd.f82) (by kernel_rfl) (by kernel_rfl : Tryd.f82.body = some bodyi57_82) (by kernel_rfl) (by kernel_rfl)
theorem SI57_67 (k : Nat) : SoundF Tryd.prog 67 (.ev (mkEnv tsi57_67 (fsi57_67 s68 k)) Hi57_67 k bodyi57_67 9 [.tmp 4]) :=
  ev_inline (mkEnv_ok tyi57_67 (fun p hp => by
    unfold fsi57_67 at hp
    rcases List.mem_cons.1 hp with rfl | hp
    · exact SI57_82 k
    cases hp)) mixedOK (by kernel_rfl : Tryd.prog.funcs[67]? = some Tryd.f67) (by kernel_rfl) (by kernel_rfl : Tryd.f67.body = some bodyi57_67) (by kernel_rfl) (by kernel_rfl)
theorem S57 : SoundF Tryd.prog 57 (.fn (.cons (.slice .str) .nil) (.cons .bool .nil) fun x => (s57 x.1, ())) :=
  fn_sound (E := fun k => mkEnv ts57 (fs57 s68 k)) (H := H57) (fun k => mkEnv_ok ty57 (fun p hp => by
    unfold fs57 at hp
    rcases List.mem_cons.1 hp with rfl | hp
    · exact SI57_67 k
    cases hp)) mixedOK (by kernel_rfl : Tryd.prog.funcs[57]? = some Tryd.f57) (by kernel_rfl) (by kernel_rfl : Tryd.f57.body = some body57) (by kernel_rfl) (by kernel_rfl)
    (fun x hw => by obtain ⟨k, hk⟩ := h57 x.1 hw; exact ⟨k, (ev57 s68 k x).trans hk⟩)
/-! ### jitney/request.CheckRide -/
theorem S42 : SoundF Tryd.prog 42 (.fn (.cons (.struct (.cons .str (.cons .str (.cons .str (.cons .str (.cons (.int .i64) (.cons (.int .i64) (.cons (.int .i64) (.cons (.int .i64) .nil))))))))) .nil) (.cons (.int .i64) .nil) fun x => (s42 x.1, ())) :=
  fn_sound (E := fun k => mkEnv ts42 (fs42 s37 s40 s57)) (H := H42) (fun k => mkEnv_ok ty42 (fun p hp => by
    unfold fs42 at hp
    rcases List.mem_cons.1 hp with rfl | hp
    · exact S37
    rcases List.mem_cons.1 hp with rfl | hp
    · exact S40
    rcases List.mem_cons.1 hp with rfl | hp
    · exact S57
    cases hp)) mixedOK (by kernel_rfl : Tryd.prog.funcs[42]? = some Tryd.f42) (by kernel_rfl) (by kernel_rfl : Tryd.f42.body = some body42) (by kernel_rfl) (by kernel_rfl)
    (fun x hw => by obtain ⟨k, hk⟩ := h42 x.1 hw; exact ⟨k, (ev42 s37 s40 s57 k x).trans hk⟩)
/-! ### jitney/request.meet -/
theorem S43 : SoundF Tryd.prog 43 (.fn (.cons (.struct (.cons .str (.cons .str (.cons .str (.cons .str (.cons (.int .i64) (.cons (.int .i64) (.cons (.int .i64) (.cons (.int .i64) .nil))))))))) (.cons (.struct (.cons .str (.cons .str (.cons .str (.cons .str (.cons (.int .i64) (.cons (.int .i64) (.cons (.int .i64) (.cons (.int .i64) .nil))))))))) .nil)) (.cons .bool .nil) fun x => (s43 x.1 x.2.1, ())) :=
  fn_sound (E := fun k => mkEnv ts43 (fs43 )) (H := H43) (fun k => mkEnv_ok ty43 (fun p hp => by unfold fs43 at hp; cases hp)) mixedOK (by kernel_rfl : Tryd.prog.funcs[43]? = some Tryd.f43) (by kernel_rfl) (by kernel_rfl : Tryd.f43.body = some body43) (by kernel_rfl) (by kernel_rfl)
    (fun x hw => by obtain ⟨k, hk⟩ := h43 x.1 x.2.1 hw; exact ⟨k, (ev43  k x).trans hk⟩)
/-! ### jitney/request.Twice -/
theorem S19 : SoundF Tryd.prog 19 (.pfn (.cons (.slice (.struct (.cons .str (.cons .str (.cons .str (.cons .str (.cons (.int .i64) (.cons (.int .i64) (.cons (.int .i64) (.cons (.int .i64) .nil)))))))))) .nil) (.cons (.slice (.struct (.cons .str (.cons .str .nil)))) (.cons (.int .i64) .nil)) fun x => s19 x.1) :=
  pfn_sound (E := fun k => mkEnv ts19 (fs19 s42 s43)) (H := H19) (fun k => mkEnv_ok ty19 (fun p hp => by
    unfold fs19 at hp
    rcases List.mem_cons.1 hp with rfl | hp
    · exact S42
    rcases List.mem_cons.1 hp with rfl | hp
    · exact S43
    cases hp)) mixedOK (by kernel_rfl : Tryd.prog.funcs[19]? = some Tryd.f19) (by kernel_rfl) (by kernel_rfl : Tryd.f19.body = some body19) (by kernel_rfl) (by kernel_rfl)
    (fun x y hw hy => by obtain ⟨k, hk⟩ := h19 x.1 y hw hy; exact ⟨k, (ev19 s42 s43 k x).trans hk⟩)
set_option maxHeartbeats 2000000 in
theorem walk20 (a : Option Addr) (c : Nat) (w : World) : Calls Tryd.prog 20 #[.slice a 0 c] w fun e w' => ∃ a' c', e = .returned (.slice a' 0 c') ∧ c' ≤ 9223372036854775807 ∧ Keep None w w' := by
  have q : ∀ (w : World) (a : Option Addr) (n c n' c' : Nat), (binOp .eql 48 (.slice a n c) (.slice none n' c')).run Tryd.prog w = .ok (.bool a.isNone) w := fun w a n c n' c' => Lib.run_eql_slice_nil w _ _ a n c n' c' Tryd.underlying48
  cases a with
  | none =>
    go_enter Tryd.func20, Tryd.ntmps20
    go_wp2
    go_ret
    exact ⟨none, 0, rfl, by omega, Keep.refl _ _⟩
  | some a =>
    go_enter Tryd.func20, Tryd.ntmps20
    go_wp2
    go_ret
    exact ⟨_, _, rfl, by omega, Keep.alloc _ _ _ _⟩
theorem cl20 (xs : List (ByteArray × ByteArray × ByteArray × ByteArray × Int × Int × Int × Int × Unit)) (hne : xs ≠ []) (hl : xs.length ≤ 4294967296) : f20 0 xs = some (xs, ()) := by
  cases xs with
  | nil => exact absurd rfl hne
  | cons z l =>
    have h2 : decide (List.length ([] : List (ByteArray × ByteArray × ByteArray × ByteArray × Int × Int × Int × Int × Unit)) + List.length (z :: l) ≤ 4294967296) = true := by simpa using hl
    unfold f20
    rw [show Nat.ble (List.length (z :: l)) 0 = false from rfl, h2]
    rfl
theorem S20 : SoundF Tryd.prog 20 (.pfn (.cons (.slice (.struct (.cons .str (.cons .str (.cons .str (.cons .str (.cons (.int .i64) (.cons (.int .i64) (.cons (.int .i64) (.cons (.int .i64) .nil)))))))))) .nil) (.cons (.slice (.struct (.cons .str (.cons .str (.cons .str (.cons .str (.cons (.int .i64) (.cons (.int .i64) (.cons (.int .i64) (.cons (.int .i64) .nil)))))))))) .nil) fun x => s20 x.1) := by
  intro ρ args objs K r hr
  exact clone_sound (T := (.struct (.cons .str (.cons .str (.cons .str (.cons .str (.cons (.int .i64) (.cons (.int .i64) (.cons (.int .i64) (.cons (.int .i64) .nil)))))))))) (g1 := fun x => f20 0 x.1) (pfn_sound (E := fun _ => mkEnv ts20 fs20) (H := H20) (fun _ => mkEnv_ok ty20 (fun p hp => by unfold fs20 at hp; cases hp)) mixedOK (by kernel_rfl : Tryd.prog.funcs[20]? = some Tryd.f20) (by kernel_rfl) (by kernel_rfl : Tryd.f20.body = some body20) (by kernel_rfl) (by kernel_rfl) (fun x y hw hy => ⟨0, (ev20 0 x).trans hy⟩)) (enters_of (by kernel_rfl : Tryd.prog.funcs[20]? = some Tryd.f20) (by kernel_rfl) (by kernel_rfl : Tryd.f20.body = some body20))
    (fun xs hne hl => cl20 xs hne hl) walk20 args objs K r hr
/-! ### jitney/jitref2.RideFault -/
theorem S44 : SoundF Tryd.prog 44 (.fn (.cons (.struct (.cons .str (.cons .str (.cons .str (.cons .str (.cons (.int .i64) (.cons (.int .i64) (.cons (.int .i64) (.cons (.int .i64) .nil))))))))) .nil) (.cons (.int .i64) .nil) fun x => (s44 x.1, ())) :=
  fn_sound (E := fun k => mkEnv ts44 (fs44 s12 s31 s32)) (H := H44) (fun k => mkEnv_ok ty44 (fun p hp => by
    unfold fs44 at hp
    rcases List.mem_cons.1 hp with rfl | hp
    · exact S12
    rcases List.mem_cons.1 hp with rfl | hp
    · exact S31
    rcases List.mem_cons.1 hp with rfl | hp
    · exact S32
    cases hp)) mixedOK (by kernel_rfl : Tryd.prog.funcs[44]? = some Tryd.f44) (by kernel_rfl) (by kernel_rfl : Tryd.f44.body = some body44) (by kernel_rfl) (by kernel_rfl)
    (fun x hw => by obtain ⟨k, hk⟩ := h44 x.1 hw; exact ⟨k, (ev44 s12 s31 s32 k x).trans hk⟩)
/-! ### jitney/jitref2.RidesFault -/
theorem S21 : SoundF Tryd.prog 21 (.fn (.cons (.slice (.struct (.cons .str (.cons .str (.cons .str (.cons .str (.cons (.int .i64) (.cons (.int .i64) (.cons (.int .i64) (.cons (.int .i64) .nil)))))))))) .nil) (.cons (.int .i64) .nil) fun x => (s21 x.1, ())) :=
  fn_sound (E := fun k => mkEnv ts21 (fs21 s44)) (H := H21) (fun k => mkEnv_ok ty21 (fun p hp => by
    unfold fs21 at hp
    rcases List.mem_cons.1 hp with rfl | hp
    · exact S44
    cases hp)) mixedOK (by kernel_rfl : Tryd.prog.funcs[21]? = some Tryd.f21) (by kernel_rfl) (by kernel_rfl : Tryd.f21.body = some body21) (by kernel_rfl) (by kernel_rfl)
    (fun x hw => by obtain ⟨k, hk⟩ := h21 x.1 hw; exact ⟨k, (ev21 s44 k x).trans hk⟩)
/-! ### jitney/jitref2.meet -/
theorem S45 : SoundF Tryd.prog 45 (.fn (.cons (.struct (.cons .str (.cons .str (.cons .str (.cons .str (.cons (.int .i64) (.cons (.int .i64) (.cons (.int .i64) (.cons (.int .i64) .nil))))))))) (.cons (.struct (.cons .str (.cons .str (.cons .str (.cons .str (.cons (.int .i64) (.cons (.int .i64) (.cons (.int .i64) (.cons (.int .i64) .nil))))))))) .nil)) (.cons .bool .nil) fun x => (s45 x.1 x.2.1, ())) :=
  fn_sound (E := fun k => mkEnv ts45 (fs45 )) (H := H45) (fun k => mkEnv_ok ty45 (fun p hp => by unfold fs45 at hp; cases hp)) mixedOK (by kernel_rfl : Tryd.prog.funcs[45]? = some Tryd.f45) (by kernel_rfl) (by kernel_rfl : Tryd.f45.body = some body45) (by kernel_rfl) (by kernel_rfl)
    (fun x hw => by obtain ⟨k, hk⟩ := h45 x.1 x.2.1 hw; exact ⟨k, (ev45  k x).trans hk⟩)
/-! ### jitney/jitref2.TwiceOf -/
theorem S22 : SoundF Tryd.prog 22 (.pfn (.cons (.slice (.struct (.cons .str (.cons .str (.cons .str (.cons .str (.cons (.int .i64) (.cons (.int .i64) (.cons (.int .i64) (.cons (.int .i64) .nil)))))))))) .nil) (.cons (.slice (.struct (.cons .str (.cons .str .nil)))) .nil) fun x => s22 x.1) :=
  pfn_sound (E := fun k => mkEnv ts22 (fs22 s45)) (H := H22) (fun k => mkEnv_ok ty22 (fun p hp => by
    unfold fs22 at hp
    rcases List.mem_cons.1 hp with rfl | hp
    · exact S45
    cases hp)) mixedOK (by kernel_rfl : Tryd.prog.funcs[22]? = some Tryd.f22) (by kernel_rfl) (by kernel_rfl : Tryd.f22.body = some body22) (by kernel_rfl) (by kernel_rfl)
    (fun x y hw hy => by obtain ⟨k, hk⟩ := h22 x.1 y hw hy; exact ⟨k, (ev22 s45 k x).trans hk⟩)
/-! ### jitney/request.CheckRooms -/
theorem S23 : SoundF Tryd.prog 23 (.fn (.cons (.slice (.struct (.cons (.struct (.cons (.int .i64) (.cons (.int .i64) .nil))) (.cons (.int .i64) .nil)))) .nil) (.cons (.int .i64) .nil) fun x => (s23 x.1, ())) :=
  fn_sound (E := fun k => mkEnv ts23 (fs23 s40)) (H := H23) (fun k => mkEnv_ok ty23 (fun p hp => by
    unfold fs23 at hp
    rcases List.mem_cons.1 hp with rfl | hp
    · exact S40
    cases hp)) mixedOK (by kernel_rfl : Tryd.prog.funcs[23]? = some Tryd.f23) (by kernel_rfl) (by kernel_rfl : Tryd.f23.body = some body23) (by kernel_rfl) (by kernel_rfl)
    (fun x hw => by obtain ⟨k, hk⟩ := h23 x.1 hw; exact ⟨k, (ev23 s40 k x).trans hk⟩)
set_option maxHeartbeats 2000000 in
theorem walk24 (a : Option Addr) (c : Nat) (w : World) : Calls Tryd.prog 24 #[.slice a 0 c] w fun e w' => ∃ a' c', e = .returned (.slice a' 0 c') ∧ c' ≤ 9223372036854775807 ∧ Keep None w w' := by
  have q : ∀ (w : World) (a : Option Addr) (n c n' c' : Nat), (binOp .eql 49 (.slice a n c) (.slice none n' c')).run Tryd.prog w = .ok (.bool a.isNone) w := fun w a n c n' c' => Lib.run_eql_slice_nil w _ _ a n c n' c' Tryd.underlying49
  cases a with
  | none =>
    go_enter Tryd.func24, Tryd.ntmps24
    go_wp2
    go_ret
    exact ⟨none, 0, rfl, by omega, Keep.refl _ _⟩
  | some a =>
    go_enter Tryd.func24, Tryd.ntmps24
    go_wp2
    go_ret
    exact ⟨_, _, rfl, by omega, Keep.alloc _ _ _ _⟩
theorem cl24 (xs : List ((Int × Int × Unit) × Int × Unit)) (hne : xs ≠ []) (hl : xs.length ≤ 4294967296) : f24 0 xs = some (xs, ()) := by
  cases xs with
  | nil => exact absurd rfl hne
  | cons z l =>
    have h2 : decide (List.length ([] : List ((Int × Int × Unit) × Int × Unit)) + List.length (z :: l) ≤ 4294967296) = true := by simpa using hl
    unfold f24
    rw [show Nat.ble (List.length (z :: l)) 0 = false from rfl, h2]
    rfl
theorem S24 : SoundF Tryd.prog 24 (.pfn (.cons (.slice (.struct (.cons (.struct (.cons (.int .i64) (.cons (.int .i64) .nil))) (.cons (.int .i64) .nil)))) .nil) (.cons (.slice (.struct (.cons (.struct (.cons (.int .i64) (.cons (.int .i64) .nil))) (.cons (.int .i64) .nil)))) .nil) fun x => s24 x.1) := by
  intro ρ args objs K r hr
  exact clone_sound (T := (.struct (.cons (.struct (.cons (.int .i64) (.cons (.int .i64) .nil))) (.cons (.int .i64) .nil)))) (g1 := fun x => f24 0 x.1) (pfn_sound (E := fun _ => mkEnv ts24 fs24) (H := H24) (fun _ => mkEnv_ok ty24 (fun p hp => by unfold fs24 at hp; cases hp)) mixedOK (by kernel_rfl : Tryd.prog.funcs[24]? = some Tryd.f24) (by kernel_rfl) (by kernel_rfl : Tryd.f24.body = some body24) (by kernel_rfl) (by kernel_rfl) (fun x y hw hy => ⟨0, (ev24 0 x).trans hy⟩)) (enters_of (by kernel_rfl : Tryd.prog.funcs[24]? = some Tryd.f24) (by kernel_rfl) (by kernel_rfl : Tryd.f24.body = some body24))
    (fun xs hne hl => cl24 xs hne hl) walk24 args objs K r hr
/-! ### jitney/jitref2.RoomsFault -/
theorem S25 : SoundF Tryd.prog 25 (.fn (.cons (.slice (.struct (.cons (.struct (.cons (.int .i64) (.cons (.int .i64) .nil))) (.cons (.int .i64) .nil)))) .nil) (.cons (.int .i64) .nil) fun x => (s25 x.1, ())) :=
  fn_sound (E := fun k => mkEnv ts25 (fs25 s31)) (H := H25) (fun k => mkEnv_ok ty25 (fun p hp => by
    unfold fs25 at hp
    rcases List.mem_cons.1 hp with rfl | hp
    · exact S31
    cases hp)) mixedOK (by kernel_rfl : Tryd.prog.funcs[25]? = some Tryd.f25) (by kernel_rfl) (by kernel_rfl : Tryd.f25.body = some body25) (by kernel_rfl) (by kernel_rfl)
    (fun x hw => by obtain ⟨k, hk⟩ := h25 x.1 hw; exact ⟨k, (ev25 s31 k x).trans hk⟩)
/-! ### jitney/request.changesFault -/
theorem S83 : SoundF Tryd.prog 83 (.pfn (.cons (.slice (.struct (.cons (.int .i64) (.cons .bool (.cons (.int .i64) .nil))))) .nil) (.cons (.int .i64) .nil) fun x => s83 x.1) :=
  pfn_sound (E := fun k => mkEnv ts83 (fs83 s40)) (H := H83) (fun k => mkEnv_ok ty83 (fun p hp => by
    unfold fs83 at hp
    rcases List.mem_cons.1 hp with rfl | hp
    · exact S40
    cases hp)) mixedOK (by kernel_rfl : Tryd.prog.funcs[83]? = some Tryd.f83) (by kernel_rfl) (by kernel_rfl : Tryd.f83.body = some body83) (by kernel_rfl) (by kernel_rfl)
    (fun x y hw hy => by obtain ⟨k, hk⟩ := h83 x.1 y hw hy; exact ⟨k, (ev83 s40 k x).trans hk⟩)
/-! ### jitney/request.seriesFault -/
theorem S69 : SoundF Tryd.prog 69 (.pfn (.cons (.struct (.cons .str (.cons .str (.cons .str (.cons .str (.cons (.int .i64) (.cons (.int .i64) (.cons (.int .i64) (.cons (.int .i64) (.cons (.int .i64) (.cons (.int .i64) (.cons (.int .i64) (.cons (.int .i64) (.cons (.int .i64) (.cons (.slice (.struct (.cons (.int .i64) (.cons .bool (.cons (.int .i64) .nil))))) .nil))))))))))))))) .nil) (.cons (.int .i64) .nil) fun x => s69 x.1) :=
  pfn_sound (E := fun k => mkEnv ts69 (fs69 s40 s57 s83)) (H := H69) (fun k => mkEnv_ok ty69 (fun p hp => by
    unfold fs69 at hp
    rcases List.mem_cons.1 hp with rfl | hp
    · exact S40
    rcases List.mem_cons.1 hp with rfl | hp
    · exact S57
    rcases List.mem_cons.1 hp with rfl | hp
    · exact S83
    cases hp)) mixedOK (by kernel_rfl : Tryd.prog.funcs[69]? = some Tryd.f69) (by kernel_rfl) (by kernel_rfl : Tryd.f69.body = some body69) (by kernel_rfl) (by kernel_rfl)
    (fun x y hw hy => by obtain ⟨k, hk⟩ := h69 x.1 y hw hy; exact ⟨k, (ev69 s40 s57 s83 k x).trans hk⟩)
/-! ### jitney/request.CheckSeries -/
theorem S58 : SoundF Tryd.prog 58 (.pfn (.cons (.slice (.struct (.cons .str (.cons .str (.cons .str (.cons .str (.cons (.int .i64) (.cons (.int .i64) (.cons (.int .i64) (.cons (.int .i64) (.cons (.int .i64) (.cons (.int .i64) (.cons (.int .i64) (.cons (.int .i64) (.cons (.int .i64) (.cons (.slice (.struct (.cons (.int .i64) (.cons .bool (.cons (.int .i64) .nil))))) .nil)))))))))))))))) .nil) (.cons (.int .i64) .nil) fun x => s58 x.1) :=
  pfn_sound (E := fun k => mkEnv ts58 (fs58 s69)) (H := H58) (fun k => mkEnv_ok ty58 (fun p hp => by
    unfold fs58 at hp
    rcases List.mem_cons.1 hp with rfl | hp
    · exact S69
    cases hp)) mixedOK (by kernel_rfl : Tryd.prog.funcs[58]? = some Tryd.f58) (by kernel_rfl) (by kernel_rfl : Tryd.f58.body = some body58) (by kernel_rfl) (by kernel_rfl)
    (fun x y hw hy => by obtain ⟨k, hk⟩ := h58 x.1 y hw hy; exact ⟨k, (ev58 s69 k x).trans hk⟩)
/-! ### jitney/request.dayRide$1 -/
theorem S71 : SoundF Tryd.prog 71 (.fn (.cons (.struct (.cons (.int .i64) (.cons .bool (.cons (.int .i64) .nil)))) (.cons (.int .i64) .nil)) (.cons (.int .i64) .nil) fun x => (s71 x.1 x.2.1, ())) :=
  fn_sound (E := fun k => mkEnv ts71 (fs71 s39)) (H := H71) (fun k => mkEnv_ok ty71 (fun p hp => by
    unfold fs71 at hp
    rcases List.mem_cons.1 hp with rfl | hp
    · exact S39
    cases hp)) mixedOK (by kernel_rfl : Tryd.prog.funcs[71]? = some Tryd.f71) (by kernel_rfl) (by kernel_rfl : Tryd.f71.body = some body71) (by kernel_rfl) (by kernel_rfl)
    (fun x hw => by obtain ⟨k, hk⟩ := h71 x.1 x.2.1 hw; exact ⟨k, (ev71 s39 k x).trans hk⟩)
/-! ### jitney/request.Days -/
theorem SI46_70 (k : Nat) : SoundF Tryd.prog 70 (.ev (mkEnv tsi46_70 (fsi46_70 s30 s37 s58 s71 s73 k)) Hi46_70 k bodyi46_70 49 [.tmp 6, .tmp 7]) :=
  ev_inline (mkEnv_ok tyi46_70 (fun p hp => by
    unfold fsi46_70 at hp
    rcases List.mem_cons.1 hp with rfl | hp
    · exact S71
    cases hp)) mixedOK (by kernel_rfl : Tryd.prog.funcs[70]? = some Tryd.f70) (by kernel_rfl) (by kernel_rfl : Tryd.f70.body = some bodyi46_70) (by kernel_rfl) (by kernel_rfl)
theorem SI46_72 (k : Nat) : SoundF Tryd.prog 72 (.evr (mkEnv tsi46_72 (fsi46_72 s30 s37 s58 s71 s73 k)) Hi46_72 k bodyi46_72 18 [.tmp 5]) :=
  ev_inlineR (mkEnv_ok tyi46_72 (fun p hp => by unfold fsi46_72 at hp; cases hp)) mixedOK (by kernel_rfl : Tryd.prog.funcs[72]? = some Tryd.f72) (by kernel_rfl) (by kernel_rfl : Tryd.f72.body = some bodyi46_72) (by kernel_rfl) (by kernel_rfl)
theorem SI46_59 (k : Nat) : SoundF Tryd.prog 59 (.ev (mkEnvX46_59 tsi46_59 (fsi46_59 s30 s37 s58 s71 s73 k)) Hi46_59 k bodyi46_59 122 [.cell 4 53, .tmp 5]) :=
  ev_inline (mkEnvX46_59_ok tyi46_59 (fun p hp => by
    unfold fsi46_59 at hp
    rcases List.mem_cons.1 hp with rfl | hp
    · exact S30
    rcases List.mem_cons.1 hp with rfl | hp
    · exact S37
    rcases List.mem_cons.1 hp with rfl | hp
    · exact SI46_70 k
    rcases List.mem_cons.1 hp with rfl | hp
    · exact SI46_72 k
    rcases List.mem_cons.1 hp with rfl | hp
    · exact S73
    cases hp)) mixedOK (by kernel_rfl : Tryd.prog.funcs[59]? = some Tryd.f59) (by kernel_rfl) (by kernel_rfl : Tryd.f59.body = some bodyi46_59) (by kernel_rfl) (by kernel_rfl)
theorem S46 : SoundF Tryd.prog 46 (.pfn (.cons (.struct (.cons .str (.cons .str (.cons .str (.cons .str (.cons (.int .i64) (.cons (.int .i64) (.cons (.int .i64) (.cons (.int .i64) (.cons (.int .i64) (.cons (.int .i64) (.cons (.int .i64) (.cons (.int .i64) (.cons (.int .i64) (.cons (.slice (.struct (.cons (.int .i64) (.cons .bool (.cons (.int .i64) .nil))))) .nil))))))))))))))) .nil) (.cons (.slice (.int .i64)) (.cons (.int .i64) .nil)) fun x => s46 x.1) :=
  pfn_sound (E := fun k => mkEnv ts46 (fs46 s30 s37 s58 s71 s73 k)) (H := H46) (fun k => mkEnv_ok ty46 (fun p hp => by
    unfold fs46 at hp
    rcases List.mem_cons.1 hp with rfl | hp
    · exact S58
    rcases List.mem_cons.1 hp with rfl | hp
    · exact SI46_59 k
    cases hp)) mixedOK (by kernel_rfl : Tryd.prog.funcs[46]? = some Tryd.f46) (by kernel_rfl) (by kernel_rfl : Tryd.f46.body = some body46) (by kernel_rfl) (by kernel_rfl)
    (fun x y hw hy => by obtain ⟨k, hk⟩ := h46 x.1 y hw hy; exact ⟨k, (ev46 s30 s37 s58 s71 s73 k x).trans hk⟩)
/-! ### slices.Equal[[]int,int] -/
theorem S47 : SoundF Tryd.prog 47 (.fn (.cons (.slice (.int .i64)) (.cons (.slice (.int .i64)) .nil)) (.cons .bool .nil) fun x => (s47 x.1 x.2.1, ())) :=
  fn_sound (E := fun k => mkEnv ts47 (fs47 )) (H := H47) (fun k => mkEnv_ok ty47 (fun p hp => by unfold fs47 at hp; cases hp)) mixedOK (by kernel_rfl : Tryd.prog.funcs[47]? = some Tryd.f47) (by kernel_rfl) (by kernel_rfl : Tryd.f47.body = some body47) (by kernel_rfl) (by kernel_rfl)
    (fun x hw => by obtain ⟨k, hk⟩ := h47 x.1 x.2.1 hw; exact ⟨k, (ev47  k x).trans hk⟩)
/-! ### jitney/jitlaw2.asked -/
theorem S26 : SoundF Tryd.prog 26 (.pfn .nil (.cons .bool .nil) fun x => s26) :=
  pfn_sound (E := fun k => mkEnv ts26 (fs26 s46 s47)) (H := H26) (fun k => mkEnv_ok ty26 (fun p hp => by
    unfold fs26 at hp
    rcases List.mem_cons.1 hp with rfl | hp
    · exact S46
    rcases List.mem_cons.1 hp with rfl | hp
    · exact S47
    cases hp)) mixedOK (by kernel_rfl : Tryd.prog.funcs[26]? = some Tryd.f26) (by kernel_rfl) (by kernel_rfl : Tryd.f26.body = some body26) (by kernel_rfl) (by kernel_rfl)
    (fun x y hw hy => by obtain ⟨k, hk⟩ := h26  y hw hy; exact ⟨k, (ev26 s46 s47 k x).trans hk⟩)
/-! ### jitney/jitlaw2.RidesAskedTwice -/
theorem S4 : SoundF Tryd.prog 4 (.pfn (.cons (.slice (.struct (.cons .str (.cons .str (.cons .str (.cons .str (.cons (.int .i64) (.cons (.int .i64) (.cons (.int .i64) (.cons (.int .i64) .nil)))))))))) (.cons (.slice (.struct (.cons (.struct (.cons (.int .i64) (.cons (.int .i64) .nil))) (.cons (.int .i64) .nil)))) .nil)) (.cons .bool .nil) fun x => s4 x.1 x.2.1) :=
  pfn_sound (E := fun k => mkEnv ts4 (fs4 s17 s19 s20 s21 s22 s23 s24 s25 s26)) (H := H4) (fun k => mkEnv_ok ty4 (fun p hp => by
    unfold fs4 at hp
    rcases List.mem_cons.1 hp with rfl | hp
    · exact S17
    rcases List.mem_cons.1 hp with rfl | hp
    · exact S19
    rcases List.mem_cons.1 hp with rfl | hp
    · exact S20
    rcases List.mem_cons.1 hp with rfl | hp
    · exact S21
    rcases List.mem_cons.1 hp with rfl | hp
    · exact S22
    rcases List.mem_cons.1 hp with rfl | hp
    · exact S23
    rcases List.mem_cons.1 hp with rfl | hp
    · exact S24
    rcases List.mem_cons.1 hp with rfl | hp
    · exact S25
    rcases List.mem_cons.1 hp with rfl | hp
    · exact S26
    cases hp)) mixedOK (by kernel_rfl : Tryd.prog.funcs[4]? = some Tryd.f4) (by kernel_rfl) (by kernel_rfl : Tryd.f4.body = some body4) (by kernel_rfl) (by kernel_rfl)
    (fun x y hw hy => by obtain ⟨k, hk⟩ := h4 x.1 x.2.1 y hw hy; exact ⟨k, (ev4 s17 s19 s20 s21 s22 s23 s24 s25 s26 k x).trans hk⟩)
end Go.Vm
