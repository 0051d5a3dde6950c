/- The program's functions are what the specs say. -/
import Derived.Test.YtbjpkdbneopgkaaPSpecD
set_option maxRecDepth 100000
set_option linter.unusedVariables false
namespace Go.Vm
open Go.Proofs
/-! ### jitney/base.Key -/
theorem S34 : SoundF Try.prog 34 (.fn (.cons .str .nil) (.cons .bool .nil) fun x => (s34 x.1, ())) :=
  fn_sound (E := fun k => mkEnv ts34 (fs34 )) (H := H34) (fun k => mkEnv_ok ty34 (fun p hp => by unfold fs34 at hp; cases hp)) mixedOK (by kernel_rfl : Try.prog.funcs[34]? = some Try.f34) (by kernel_rfl) (by kernel_rfl : Try.f34.body = some body34) (by kernel_rfl) (by kernel_rfl)
    (fun x hw => by obtain ⟨k, hk⟩ := h34 x.1 hw; exact ⟨k, (ev34  k x).trans hk⟩)
/-! ### jitney/base.Out -/
theorem S35 : SoundF Try.prog 35 (.fn (.cons (.int .i64) (.cons (.int .i64) (.cons (.int .i64) .nil))) (.cons .bool .nil) fun x => (s35 x.1 x.2.1 x.2.2.1, ())) :=
  fn_sound (E := fun k => mkEnv ts35 (fs35 )) (H := H35) (fun k => mkEnv_ok ty35 (fun p hp => by unfold fs35 at hp; cases hp)) mixedOK (by kernel_rfl : Try.prog.funcs[35]? = some Try.f35) (by kernel_rfl) (by kernel_rfl : Try.f35.body = some body35) (by kernel_rfl) (by kernel_rfl)
    (fun x hw => by obtain ⟨k, hk⟩ := h35 x.1 x.2.1 x.2.2.1 hw; exact ⟨k, (ev35  k x).trans hk⟩)
/-! ### cmp.Or[int] -/
theorem S66 : SoundF Try.prog 66 (.fn (.cons (.slice (.int .i64)) .nil) (.cons (.int .i64) .nil) fun x => (s66 x.1, ())) :=
  fn_sound (E := fun k => mkEnv ts66 (fs66 )) (H := H66) (fun k => mkEnv_ok ty66 (fun p hp => by unfold fs66 at hp; cases hp)) mixedOK (by kernel_rfl : Try.prog.funcs[66]? = some Try.f66) (by kernel_rfl) (by kernel_rfl : Try.f66.body = some body66) (by kernel_rfl) (by kernel_rfl)
    (fun x hw => by obtain ⟨k, hk⟩ := h66 x.1 hw; exact ⟨k, (ev66  k x).trans hk⟩)
/-! ### strings.Compare -/
theorem S67 : SoundF Try.prog 67 (.fn (.cons .str (.cons .str .nil)) (.cons (.int .i64) .nil) fun x => (s67 x.1 x.2.1, ())) :=
  fn_sound (E := fun k => mkEnv ts67 (fs67 s83)) (H := H67) (fun k => mkEnv_ok ty67 (fun p hp => by
    unfold fs67 at hp
    rcases List.mem_cons.1 hp with rfl | hp
    · exact S83
    cases hp)) mixedOK (by kernel_rfl : Try.prog.funcs[67]? = some Try.f67) (by kernel_rfl) (by kernel_rfl : Try.f67.body = some body67) (by kernel_rfl) (by kernel_rfl)
    (fun x hw => by obtain ⟨k, hk⟩ := h67 x.1 x.2.1 hw; exact ⟨k, (ev67 s83 k x).trans hk⟩)
/-! ### jitney/match.byOffer -/
theorem S46 : SoundF Try.prog 46 (.fn (.cons PY1 (.cons PY1 .nil)) (.cons (.int .i64) .nil) fun x => (s46 x.1 x.2.1, ())) :=
  fn_sound (E := fun k => mkEnv ts46 (fs46 s66 s67)) (H := H46) (fun k => mkEnv_ok ty46 (fun p hp => by
    unfold fs46 at hp
    rcases List.mem_cons.1 hp with rfl | hp
    · exact S66
    rcases List.mem_cons.1 hp with rfl | hp
    · exact S67
    cases hp)) mixedOK (by kernel_rfl : Try.prog.funcs[46]? = some Try.f46) (by kernel_rfl) (by kernel_rfl : Try.f46.body = some body46) (by kernel_rfl) (by kernel_rfl)
    (fun x hw => by obtain ⟨k, hk⟩ := h46 x.1 x.2.1 hw; exact ⟨k, (ev46 s66 s67 k x).trans hk⟩)
/-! ### jitney/match.CheckOffers -/
theorem S21 : SoundF Try.prog 21 (.fn (.cons (.slice PY1) .nil) (.cons (.int .i64) .nil) fun x => (s21 x.1, ())) :=
  fn_sound (E := fun k => mkEnv ts21 (fs21 s34 s35 s46)) (H := H21) (fun k => mkEnv_ok ty21 (fun p hp => by
    unfold fs21 at hp
    rcases List.mem_cons.1 hp with rfl | hp
    · exact S34
    rcases List.mem_cons.1 hp with rfl | hp
    · exact S35
    rcases List.mem_cons.1 hp with rfl | hp
    · exact S46
    cases hp)) mixedOK (by kernel_rfl : Try.prog.funcs[21]? = some Try.f21) (by kernel_rfl) (by kernel_rfl : Try.f21.body = some body21) (by kernel_rfl) (by kernel_rfl)
    (fun x hw => by obtain ⟨k, hk⟩ := h21 x.1 hw; exact ⟨k, (ev21 s34 s35 s46 k x).trans hk⟩)
/-! ### slices.Compact[[]string,string] -/
theorem S28 : SoundF Try.prog 28 (.cfn .str .nil fun xs a => s28 xs) :=
  cfn_sound (E := fun k => mkEnvV ts28 (fs28 )) (H := H28) (fun k => mkEnvV_ok ty28 (fun p hp => by unfold fs28 at hp; cases hp)) mixedOK (by kernel_rfl : Try.prog.funcs[28]? = some Try.f28) (by kernel_rfl) (by kernel_rfl : Try.f28.body = some body28) (by kernel_rfl) (by kernel_rfl)
    (fun xs a ys hl hw hy => by obtain ⟨k, hk⟩ := h28 xs  ys hl hw hy; exact ⟨k, (ev28  k xs a).trans hk⟩)
/-! ### jitney/match.carsOf$1 -/
theorem S61 : SoundF Try.prog 61 (.fn (.cons PY1 .nil) (.cons .str .nil) fun x => (s61 x.1, ())) :=
  fn_sound (E := fun k => mkEnv ts61 (fs61 )) (H := H61) (fun k => mkEnv_ok ty61 (fun p hp => by unfold fs61 at hp; cases hp)) mixedOK (by kernel_rfl : Try.prog.funcs[61]? = some Try.f61) (by kernel_rfl) (by kernel_rfl : Try.f61.body = some body61) (by kernel_rfl) (by kernel_rfl)
    (fun x hw => by obtain ⟨k, hk⟩ := h61 x.1 hw; exact ⟨k, (ev61  k x).trans hk⟩)
/-! ### jitney/match.carsOf -/
theorem SI39_60 (k : Nat) : SoundF Try.prog 60 (.ev (mkEnv tsi39_60 (fsi39_60 s27 s28 s61 k)) Hi39_60 k bodyi39_60 25 [.tmp 4]) :=
  ev_inline (mkEnv_ok tyi39_60 (fun p hp => by
    unfold fsi39_60 at hp
    rcases List.mem_cons.1 hp with rfl | hp
    · exact S27
    rcases List.mem_cons.1 hp with rfl | hp
    · exact S28
    rcases List.mem_cons.1 hp with rfl | hp
    · exact S61
    cases hp)) mixedOK (by kernel_rfl : Try.prog.funcs[60]? = some Try.f60) (by kernel_rfl) (by kernel_rfl : Try.f60.body = some bodyi39_60) (by kernel_rfl) (by kernel_rfl)
theorem S39 : SoundF Try.prog 39 (.pfn (.cons (.slice PY1) .nil) (.cons (.slice .str) .nil) fun x => s39 x.1) :=
  pfn_sound (E := fun k => mkEnv ts39 (fs39 s27 s28 s61 k)) (H := H39) (fun k => mkEnv_ok ty39 (fun p hp => by
    unfold fs39 at hp
    rcases List.mem_cons.1 hp with rfl | hp
    · exact SI39_60 k
    cases hp)) mixedOK (by kernel_rfl : Try.prog.funcs[39]? = some Try.f39) (by kernel_rfl) (by kernel_rfl : Try.f39.body = some body39) (by kernel_rfl) (by kernel_rfl)
    (fun x y hw hy => by obtain ⟨k, hk⟩ := h39 x.1 y hw hy; exact ⟨k, (ev39 s27 s28 s61 k x).trans hk⟩)
/-! ### jitney/match.Cars -/
theorem S14 : SoundF Try.prog 14 (.pfn (.cons (.slice PY1) .nil) (.cons (.slice .str) (.cons (.int .i64) .nil)) fun x => s14 x.1) :=
  pfn_sound (E := fun k => mkEnv ts14 (fs14 s21 s39)) (H := H14) (fun k => mkEnv_ok ty14 (fun p hp => by
    unfold fs14 at hp
    rcases List.mem_cons.1 hp with rfl | hp
    · exact S21
    rcases List.mem_cons.1 hp with rfl | hp
    · exact S39
    cases hp)) mixedOK (by kernel_rfl : Try.prog.funcs[14]? = some Try.f14) (by kernel_rfl) (by kernel_rfl : Try.f14.body = some body14) (by kernel_rfl) (by kernel_rfl)
    (fun x y hw hy => by obtain ⟨k, hk⟩ := h14 x.1 y hw hy; exact ⟨k, (ev14 s21 s39 k x).trans hk⟩)
set_option maxHeartbeats 2000000 in
theorem walk15 (a : Option Addr) (c : Nat) (w : World) : Calls Try.prog 15 #[.slice a 0 c] w fun e w' => ∃ a' c', e = .returned (.slice a' 0 c') ∧ c' ≤ 9223372036854775807 ∧ Keep None w w' := by
  have q : ∀ (w : World) (a : Option Addr) (n c n' c' : Nat), (binOp .eql 36 (.slice a n c) (.slice none n' c')).run Try.prog w = .ok (.bool a.isNone) w := fun w a n c n' c' => Lib.run_eql_slice_nil w _ _ a n c n' c' Try.underlying36
  cases a with
  | none =>
    go_enter Try.func15, Try.ntmps15
    go_wp2
    go_ret
    exact ⟨none, 0, rfl, by omega, Keep.refl _ _⟩
  | some a =>
    go_enter Try.func15, Try.ntmps15
    go_wp2
    go_ret
    exact ⟨_, _, rfl, by omega, Keep.alloc _ _ _ _⟩
theorem cl15 (xs : List (ByteArray × ByteArray × Int × Unit)) (hne : xs ≠ []) (hl : xs.length ≤ 4294967296) : f15 0 xs = some (xs, ()) := by
  cases xs with
  | nil => exact absurd rfl hne
  | cons z l =>
    have h2 : decide (List.length ([] : List (ByteArray × ByteArray × Int × Unit)) + List.length (z :: l) ≤ 4294967296) = true := by simpa using hl
    unfold f15
    rw [show Nat.ble (List.length (z :: l)) 0 = false from rfl, h2]
    rfl
theorem S15 : SoundF Try.prog 15 (.pfn (.cons (.slice PY1) .nil) (.cons (.slice PY1) .nil) fun x => s15 x.1) := by
  intro ρ args objs K r hr
  exact clone_sound (T := PY1) (g1 := fun x => f15 0 x.1) (pfn_sound (E := fun _ => mkEnv ts15 fs15) (H := H15) (fun _ => mkEnv_ok ty15 (fun p hp => by unfold fs15 at hp; cases hp)) mixedOK (by kernel_rfl : Try.prog.funcs[15]? = some Try.f15) (by kernel_rfl) (by kernel_rfl : Try.f15.body = some body15) (by kernel_rfl) (by kernel_rfl) (fun x y hw hy => ⟨0, (ev15 0 x).trans hy⟩)) (enters_of (by kernel_rfl : Try.prog.funcs[15]? = some Try.f15) (by kernel_rfl) (by kernel_rfl : Try.f15.body = some body15))
    (fun xs hne hl => cl15 xs hne hl) walk15 args objs K r hr
/-! ### jitney/match.ridesOf$1 -/
theorem S62 : SoundF Try.prog 62 (.fn (.cons PY1 .nil) (.cons .str .nil) fun x => (s62 x.1, ())) :=
  fn_sound (E := fun k => mkEnv ts62 (fs62 )) (H := H62) (fun k => mkEnv_ok ty62 (fun p hp => by unfold fs62 at hp; cases hp)) mixedOK (by kernel_rfl : Try.prog.funcs[62]? = some Try.f62) (by kernel_rfl) (by kernel_rfl : Try.f62.body = some body62) (by kernel_rfl) (by kernel_rfl)
    (fun x hw => by obtain ⟨k, hk⟩ := h62 x.1 hw; exact ⟨k, (ev62  k x).trans hk⟩)
/-! ### jitney/match.ridesOf -/
theorem SI40_60 (k : Nat) : SoundF Try.prog 60 (.ev (mkEnv tsi40_60 (fsi40_60 s27 s28 s62 k)) Hi40_60 k bodyi40_60 25 [.tmp 4]) :=
  ev_inline (mkEnv_ok tyi40_60 (fun p hp => by
    unfold fsi40_60 at hp
    rcases List.mem_cons.1 hp with rfl | hp
    · exact S27
    rcases List.mem_cons.1 hp with rfl | hp
    · exact S28
    rcases List.mem_cons.1 hp with rfl | hp
    · exact S62
    cases hp)) mixedOK (by kernel_rfl : Try.prog.funcs[60]? = some Try.f60) (by kernel_rfl) (by kernel_rfl : Try.f60.body = some bodyi40_60) (by kernel_rfl) (by kernel_rfl)
theorem S40 : SoundF Try.prog 40 (.pfn (.cons (.slice PY1) .nil) (.cons (.slice .str) .nil) fun x => s40 x.1) :=
  pfn_sound (E := fun k => mkEnv ts40 (fs40 s27 s28 s62 k)) (H := H40) (fun k => mkEnv_ok ty40 (fun p hp => by
    unfold fs40 at hp
    rcases List.mem_cons.1 hp with rfl | hp
    · exact SI40_60 k
    cases hp)) mixedOK (by kernel_rfl : Try.prog.funcs[40]? = some Try.f40) (by kernel_rfl) (by kernel_rfl : Try.f40.body = some body40) (by kernel_rfl) (by kernel_rfl)
    (fun x y hw hy => by obtain ⟨k, hk⟩ := h40 x.1 y hw hy; exact ⟨k, (ev40 s27 s28 s62 k x).trans hk⟩)
/-! ### jitney/match.RidesOf -/
theorem S16 : SoundF Try.prog 16 (.pfn (.cons (.slice PY1) .nil) (.cons (.slice .str) (.cons (.int .i64) .nil)) fun x => s16 x.1) :=
  pfn_sound (E := fun k => mkEnv ts16 (fs16 s21 s40)) (H := H16) (fun k => mkEnv_ok ty16 (fun p hp => by
    unfold fs16 at hp
    rcases List.mem_cons.1 hp with rfl | hp
    · exact S21
    rcases List.mem_cons.1 hp with rfl | hp
    · exact S40
    cases hp)) mixedOK (by kernel_rfl : Try.prog.funcs[16]? = some Try.f16) (by kernel_rfl) (by kernel_rfl : Try.f16.body = some body16) (by kernel_rfl) (by kernel_rfl)
    (fun x y hw hy => by obtain ⟨k, hk⟩ := h16 x.1 y hw hy; exact ⟨k, (ev16 s21 s40 k x).trans hk⟩)
/-! ### jitney/match.find -/
theorem SI47_68 (k : Nat) : SoundF Try.prog 68 (.ev (mkEnvX47_68 tsi47_68 (fsi47_68 s46 k)) Hi47_68 k bodyi47_68 49 [.tmp 6, .tmp 7]) :=
  ev_inline (mkEnvX47_68_ok tyi47_68 (fun p hp => by
    unfold fsi47_68 at hp
    rcases List.mem_cons.1 hp with rfl | hp
    · exact S46
    cases hp)) mixedOK (by kernel_rfl : Try.prog.funcs[68]? = some Try.f68) (by kernel_rfl) (by kernel_rfl : Try.f68.body = some bodyi47_68) (by kernel_rfl) (by kernel_rfl)
theorem S47 : SoundF Try.prog 47 (.pfn (.cons (.slice PY1) (.cons PY0 .nil)) (.cons (.int .i64) .nil) fun x => s47 x.1 x.2.1) :=
  pfn_sound (E := fun k => mkEnv ts47 (fs47 s46 k)) (H := H47) (fun k => mkEnv_ok ty47 (fun p hp => by
    unfold fs47 at hp
    rcases List.mem_cons.1 hp with rfl | hp
    · exact SI47_68 k
    cases hp)) mixedOK (by kernel_rfl : Try.prog.funcs[47]? = some Try.f47) (by kernel_rfl) (by kernel_rfl : Try.f47.body = some body47) (by kernel_rfl) (by kernel_rfl)
    (fun x y hw hy => by obtain ⟨k, hk⟩ := h47 x.1 x.2.1 y hw hy; exact ⟨k, (ev47 s46 k x).trans hk⟩)
/-! ### jitney/match.CheckDeals -/
theorem S22 : SoundF Try.prog 22 (.pfn (.cons (.slice PY1) (.cons (.slice PY0) .nil)) (.cons (.int .i64) .nil) fun x => s22 x.1 x.2.1) :=
  pfn_sound (E := fun k => mkEnv ts22 (fs22 s21 s47)) (H := H22) (fun k => mkEnv_ok ty22 (fun p hp => by
    unfold fs22 at hp
    rcases List.mem_cons.1 hp with rfl | hp
    · exact S21
    rcases List.mem_cons.1 hp with rfl | hp
    · exact S47
    cases hp)) mixedOK (by kernel_rfl : Try.prog.funcs[22]? = some Try.f22) (by kernel_rfl) (by kernel_rfl : Try.f22.body = some body22) (by kernel_rfl) (by kernel_rfl)
    (fun x y hw hy => by obtain ⟨k, hk⟩ := h22 x.1 x.2.1 y hw hy; exact ⟨k, (ev22 s21 s47 k x).trans hk⟩)
/-! ### jitney/match.cost -/
theorem S41 : SoundF Try.prog 41 (.pfn (.cons (.slice PY1) (.cons (.slice PY0) .nil)) (.cons (.int .i64) .nil) fun x => s41 x.1 x.2.1) :=
  pfn_sound (E := fun k => mkEnv ts41 (fs41 s47)) (H := H41) (fun k => mkEnv_ok ty41 (fun p hp => by
    unfold fs41 at hp
    rcases List.mem_cons.1 hp with rfl | hp
    · exact S47
    cases hp)) mixedOK (by kernel_rfl : Try.prog.funcs[41]? = some Try.f41) (by kernel_rfl) (by kernel_rfl : Try.f41.body = some body41) (by kernel_rfl) (by kernel_rfl)
    (fun x y hw hy => by obtain ⟨k, hk⟩ := h41 x.1 x.2.1 y hw hy; exact ⟨k, (ev41 s47 k x).trans hk⟩)
/-! ### jitney/match.Cost -/
theorem S17 : SoundF Try.prog 17 (.pfn (.cons (.slice PY1) (.cons (.slice PY0) .nil)) (.cons (.int .i64) (.cons (.int .i64) .nil)) fun x => s17 x.1 x.2.1) :=
  pfn_sound (E := fun k => mkEnv ts17 (fs17 s22 s41)) (H := H17) (fun k => mkEnv_ok ty17 (fun p hp => by
    unfold fs17 at hp
    rcases List.mem_cons.1 hp with rfl | hp
    · exact S22
    rcases List.mem_cons.1 hp with rfl | hp
    · exact S41
    cases hp)) mixedOK (by kernel_rfl : Try.prog.funcs[17]? = some Try.f17) (by kernel_rfl) (by kernel_rfl : Try.f17.body = some body17) (by kernel_rfl) (by kernel_rfl)
    (fun x y hw hy => by obtain ⟨k, hk⟩ := h17 x.1 x.2.1 y hw hy; exact ⟨k, (ev17 s22 s41 k x).trans hk⟩)
set_option maxHeartbeats 2000000 in
theorem walk18 (a : Option Addr) (c : Nat) (w : World) : Calls Try.prog 18 #[.slice a 0 c] w fun e w' => ∃ a' c', e = .returned (.slice a' 0 c') ∧ c' ≤ 9223372036854775807 ∧ Keep None w w' := by
  have q : ∀ (w : World) (a : Option Addr) (n c n' c' : Nat), (binOp .eql 37 (.slice a n c) (.slice none n' c')).run Try.prog w = .ok (.bool a.isNone) w := fun w a n c n' c' => Lib.run_eql_slice_nil w _ _ a n c n' c' Try.underlying37
  cases a with
  | none =>
    go_enter Try.func18, Try.ntmps18
    go_wp2
    go_ret
    exact ⟨none, 0, rfl, by omega, Keep.refl _ _⟩
  | some a =>
    go_enter Try.func18, Try.ntmps18
    go_wp2
    go_ret
    exact ⟨_, _, rfl, by omega, Keep.alloc _ _ _ _⟩
theorem cl18 (xs : List (ByteArray × ByteArray × Unit)) (hne : xs ≠ []) (hl : xs.length ≤ 4294967296) : f18 0 xs = some (xs, ()) := by
  cases xs with
  | nil => exact absurd rfl hne
  | cons z l =>
    have h2 : decide (List.length ([] : List (ByteArray × ByteArray × Unit)) + List.length (z :: l) ≤ 4294967296) = true := by simpa using hl
    unfold f18
    rw [show Nat.ble (List.length (z :: l)) 0 = false from rfl, h2]
    rfl
theorem S18 : SoundF Try.prog 18 (.pfn (.cons (.slice PY0) .nil) (.cons (.slice PY0) .nil) fun x => s18 x.1) := by
  intro ρ args objs K r hr
  exact clone_sound (T := PY0) (g1 := fun x => f18 0 x.1) (pfn_sound (E := fun _ => mkEnv ts18 fs18) (H := H18) (fun _ => mkEnv_ok ty18 (fun p hp => by unfold fs18 at hp; cases hp)) mixedOK (by kernel_rfl : Try.prog.funcs[18]? = some Try.f18) (by kernel_rfl) (by kernel_rfl : Try.f18.body = some body18) (by kernel_rfl) (by kernel_rfl) (fun x y hw hy => ⟨0, (ev18 0 x).trans hy⟩)) (enters_of (by kernel_rfl : Try.prog.funcs[18]? = some Try.f18) (by kernel_rfl) (by kernel_rfl : Try.f18.body = some body18))
    (fun xs hne hl => cl18 xs hne hl) walk18 args objs K r hr
/-! ### jitney/jitref2.in -/
theorem S32 : SoundF Try.prog 32 (.fn (.cons (.int .i64) (.cons (.int .i64) (.cons (.int .i64) .nil))) (.cons .bool .nil) fun x => (s32 x.1 x.2.1 x.2.2.1, ())) :=
  fn_sound (E := fun k => mkEnv ts32 (fs32 )) (H := H32) (fun k => mkEnv_ok ty32 (fun p hp => by unfold fs32 at hp; cases hp)) mixedOK (by kernel_rfl : Try.prog.funcs[32]? = some Try.f32) (by kernel_rfl) (by kernel_rfl : Try.f32.body = some body32) (by kernel_rfl) (by kernel_rfl)
    (fun x hw => by obtain ⟨k, hk⟩ := h32 x.1 x.2.1 x.2.2.1 hw; exact ⟨k, (ev32  k x).trans hk⟩)
/-! ### strings.IndexByte -/
theorem S80 : SoundF Try.prog 80 (.fn (.cons .str (.cons (.int .u8) .nil)) (.cons (.int .i64) .nil) fun x => (s80 x.1 x.2.1, ())) :=
  fn_sound (E := fun k => mkEnv ts80 (fs80 s89)) (H := H80) (fun k => mkEnv_ok ty80 (fun p hp => by
    unfold fs80 at hp
    rcases List.mem_cons.1 hp with rfl | hp
    · exact S89
    cases hp)) mixedOK (by kernel_rfl : Try.prog.funcs[80]? = some Try.f80) (by kernel_rfl) (by kernel_rfl : Try.f80.body = some body80) (by kernel_rfl) (by kernel_rfl)
    (fun x hw => by obtain ⟨k, hk⟩ := h80 x.1 x.2.1 hw; exact ⟨k, (ev80 s89 k x).trans hk⟩)
/-! ### jitney/jitref2.only -/
theorem S55 : SoundF Try.prog 55 (.fn (.cons .str (.cons .str .nil)) (.cons .bool .nil) fun x => (s55 x.1 x.2.1, ())) :=
  fn_sound (E := fun k => mkEnv ts55 (fs55 s80)) (H := H55) (fun k => mkEnv_ok ty55 (fun p hp => by
    unfold fs55 at hp
    rcases List.mem_cons.1 hp with rfl | hp
    · exact S80
    cases hp)) mixedOK (by kernel_rfl : Try.prog.funcs[55]? = some Try.f55) (by kernel_rfl) (by kernel_rfl : Try.f55.body = some body55) (by kernel_rfl) (by kernel_rfl)
    (fun x hw => by obtain ⟨k, hk⟩ := h55 x.1 x.2.1 hw; exact ⟨k, (ev55 s80 k x).trans hk⟩)
/-! ### jitney/jitref2.Key -/
theorem S31 : SoundF Try.prog 31 (.fn (.cons .str .nil) (.cons .bool .nil) fun x => (s31 x.1, ())) :=
  fn_sound (E := fun k => mkEnv ts31 (fs31 s32 s55)) (H := H31) (fun k => mkEnv_ok ty31 (fun p hp => by
    unfold fs31 at hp
    rcases List.mem_cons.1 hp with rfl | hp
    · exact S32
    rcases List.mem_cons.1 hp with rfl | hp
    · exact S55
    cases hp)) mixedOK (by kernel_rfl : Try.prog.funcs[31]? = some Try.f31) (by kernel_rfl) (by kernel_rfl : Try.f31.body = some body31) (by kernel_rfl) (by kernel_rfl)
    (fun x hw => by obtain ⟨k, hk⟩ := h31 x.1 hw; exact ⟨k, (ev31 s32 s55 k x).trans hk⟩)
/-! ### cmp.isNaN[string] -/
theorem S79 : SoundF Try.prog 79 (.fn (.cons .str .nil) (.cons .bool .nil) fun x => (s79 x.1, ())) :=
  fn_sound (E := fun k => mkEnv ts79 (fs79 )) (H := H79) (fun k => mkEnv_ok ty79 (fun p hp => by unfold fs79 at hp; cases hp)) mixedOK (by kernel_rfl : Try.prog.funcs[79]? = some Try.f79) (by kernel_rfl) (by kernel_rfl : Try.f79.body = some body79) (by kernel_rfl) (by kernel_rfl)
    (fun x hw => by obtain ⟨k, hk⟩ := h79 x.1 hw; exact ⟨k, (ev79  k x).trans hk⟩)
/-! ### cmp.Compare[string] -/
theorem S56 : SoundF Try.prog 56 (.fn (.cons .str (.cons .str .nil)) (.cons (.int .i64) .nil) fun x => (s56 x.1 x.2.1, ())) :=
  fn_sound (E := fun k => mkEnv ts56 (fs56 s79)) (H := H56) (fun k => mkEnv_ok ty56 (fun p hp => by
    unfold fs56 at hp
    rcases List.mem_cons.1 hp with rfl | hp
    · exact S79
    cases hp)) mixedOK (by kernel_rfl : Try.prog.funcs[56]? = some Try.f56) (by kernel_rfl) (by kernel_rfl : Try.f56.body = some body56) (by kernel_rfl) (by kernel_rfl)
    (fun x hw => by obtain ⟨k, hk⟩ := h56 x.1 x.2.1 hw; exact ⟨k, (ev56 s79 k x).trans hk⟩)
/-! ### slices.Compare[[]string,string] -/
theorem S33 : SoundF Try.prog 33 (.fn (.cons (.slice .str) (.cons (.slice .str) .nil)) (.cons (.int .i64) .nil) fun x => (s33 x.1 x.2.1, ())) :=
  fn_sound (E := fun k => mkEnv ts33 (fs33 s56)) (H := H33) (fun k => mkEnv_ok ty33 (fun p hp => by
    unfold fs33 at hp
    rcases List.mem_cons.1 hp with rfl | hp
    · exact S56
    cases hp)) mixedOK (by kernel_rfl : Try.prog.funcs[33]? = some Try.f33) (by kernel_rfl) (by kernel_rfl : Try.f33.body = some body33) (by kernel_rfl) (by kernel_rfl)
    (fun x hw => by obtain ⟨k, hk⟩ := h33 x.1 x.2.1 hw; exact ⟨k, (ev33 s56 k x).trans hk⟩)
/-! ### jitney/jitref2.OfferOrder -/
theorem S42 : SoundF Try.prog 42 (.fn (.cons PY1 (.cons PY1 .nil)) (.cons (.int .i64) .nil) fun x => (s42 x.1 x.2.1, ())) :=
  fn_sound (E := fun k => mkEnv ts42 (fs42 s33)) (H := H42) (fun k => mkEnv_ok ty42 (fun p hp => by
    unfold fs42 at hp
    rcases List.mem_cons.1 hp with rfl | hp
    · exact S33
    cases hp)) mixedOK (by kernel_rfl : Try.prog.funcs[42]? = some Try.f42) (by kernel_rfl) (by kernel_rfl : Try.f42.body = some body42) (by kernel_rfl) (by kernel_rfl)
    (fun x hw => by obtain ⟨k, hk⟩ := h42 x.1 x.2.1 hw; exact ⟨k, (ev42 s33 k x).trans hk⟩)
/-! ### jitney/jitref2.OffersFault -/
theorem S19 : SoundF Try.prog 19 (.fn (.cons (.slice PY1) .nil) (.cons (.int .i64) .nil) fun x => (s19 x.1, ())) :=
  fn_sound (E := fun k => mkEnv ts19 (fs19 s31 s32 s42)) (H := H19) (fun k => mkEnv_ok ty19 (fun p hp => by
    unfold fs19 at hp
    rcases List.mem_cons.1 hp with rfl | hp
    · exact S31
    rcases List.mem_cons.1 hp with rfl | hp
    · exact S32
    rcases List.mem_cons.1 hp with rfl | hp
    · exact S42
    cases hp)) mixedOK (by kernel_rfl : Try.prog.funcs[19]? = some Try.f19) (by kernel_rfl) (by kernel_rfl : Try.f19.body = some body19) (by kernel_rfl) (by kernel_rfl)
    (fun x hw => by obtain ⟨k, hk⟩ := h19 x.1 hw; exact ⟨k, (ev19 s31 s32 s42 k x).trans hk⟩)
/-! ### jitney/jitref2.offerOf -/
theorem SI43_64 (k : Nat) : SoundF Try.prog 64 (.ev (mkEnv tsi43_64 (fsi43_64  k)) Hi43_64 k bodyi43_64 16 [.tmp 3]) :=
  ev_inline (mkEnv_ok tyi43_64 (fun p hp => by unfold fsi43_64 at hp; cases hp)) mixedOK (by kernel_rfl : Try.prog.funcs[64]? = some Try.f64) (by kernel_rfl) (by kernel_rfl : Try.f64.body = some bodyi43_64) (by kernel_rfl) (by kernel_rfl)
theorem SI43_63 (k : Nat) : SoundF Try.prog 63 (.ev (mkEnv tsi43_63 (fsi43_63  k)) Hi43_63 k bodyi43_63 19 [.tmp 4]) :=
  ev_inline (mkEnv_ok tyi43_63 (fun p hp => by
    unfold fsi43_63 at hp
    rcases List.mem_cons.1 hp with rfl | hp
    · exact SI43_64 k
    cases hp)) mixedOK (by kernel_rfl : Try.prog.funcs[63]? = some Try.f63) (by kernel_rfl) (by kernel_rfl : Try.f63.body = some bodyi43_63) (by kernel_rfl) (by kernel_rfl)
theorem S43 : SoundF Try.prog 43 (.fn (.cons (.slice PY1) (.cons PY0 .nil)) (.cons (.int .i64) .nil) fun x => (s43 x.1 x.2.1, ())) :=
  fn_sound (E := fun k => mkEnv ts43 (fs43  k)) (H := H43) (fun k => mkEnv_ok ty43 (fun p hp => by
    unfold fs43 at hp
    rcases List.mem_cons.1 hp with rfl | hp
    · exact SI43_63 k
    cases hp)) mixedOK (by kernel_rfl : Try.prog.funcs[43]? = some Try.f43) (by kernel_rfl) (by kernel_rfl : Try.f43.body = some body43) (by kernel_rfl) (by kernel_rfl)
    (fun x hw => by obtain ⟨k, hk⟩ := h43 x.1 x.2.1 hw; exact ⟨k, (ev43  k x).trans hk⟩)
/-! ### jitney/jitref2.DealsFault -/
theorem SI20_45 (k : Nat) : SoundF Try.prog 45 (.ev (mkEnv tsi20_45 (fsi20_45 s43 k)) Hi20_45 k bodyi20_45 9 [.tmp 3]) :=
  ev_inline (mkEnv_ok tyi20_45 (fun p hp => by unfold fsi20_45 at hp; cases hp)) mixedOK (by kernel_rfl : Try.prog.funcs[45]? = some Try.f45) (by kernel_rfl) (by kernel_rfl : Try.f45.body = some bodyi20_45) (by kernel_rfl) (by kernel_rfl)
theorem SI20_65 (k : Nat) : SoundF Try.prog 65 (.ev (mkEnv tsi20_65 (fsi20_65 s43 k)) Hi20_65 k bodyi20_65 19 [.tmp 4]) :=
  ev_inline (mkEnv_ok tyi20_65 (fun p hp => by
    unfold fsi20_65 at hp
    rcases List.mem_cons.1 hp with rfl | hp
    · exact SI20_45 k
    cases hp)) mixedOK (by kernel_rfl : Try.prog.funcs[65]? = some Try.f65) (by kernel_rfl) (by kernel_rfl : Try.f65.body = some bodyi20_65) (by kernel_rfl) (by kernel_rfl)
theorem SI20_44 (k : Nat) : SoundF Try.prog 44 (.ev (mkEnv tsi20_44 (fsi20_44 s43 k)) Hi20_44 k bodyi20_44 9 [.tmp 4]) :=
  ev_inline (mkEnv_ok tyi20_44 (fun p hp => by
    unfold fsi20_44 at hp
    rcases List.mem_cons.1 hp with rfl | hp
    · exact SI20_65 k
    cases hp)) mixedOK (by kernel_rfl : Try.prog.funcs[44]? = some Try.f44) (by kernel_rfl) (by kernel_rfl : Try.f44.body = some bodyi20_44) (by kernel_rfl) (by kernel_rfl)
theorem S20 : SoundF Try.prog 20 (.pfn (.cons (.slice PY1) (.cons (.slice PY0) .nil)) (.cons (.int .i64) .nil) fun x => s20 x.1 x.2.1) :=
  pfn_sound (E := fun k => mkEnv ts20 (fs20 s43 k)) (H := H20) (fun k => mkEnv_ok ty20 (fun p hp => by
    unfold fs20 at hp
    rcases List.mem_cons.1 hp with rfl | hp
    · exact S43
    rcases List.mem_cons.1 hp with rfl | hp
    · exact SI20_44 k
    cases hp)) mixedOK (by kernel_rfl : Try.prog.funcs[20]? = some Try.f20) (by kernel_rfl) (by kernel_rfl : Try.f20.body = some body20) (by kernel_rfl) (by kernel_rfl)
    (fun x y hw hy => by obtain ⟨k, hk⟩ := h20 x.1 x.2.1 y hw hy; exact ⟨k, (ev20 s43 k x).trans hk⟩)
/-! ### jitney/jitref2.CarsOf$1 -/
theorem S49 : SoundF Try.prog 49 (.fn (.cons PY1 .nil) (.cons .str .nil) fun x => (s49 x.1, ())) :=
  fn_sound (E := fun k => mkEnv ts49 (fs49 )) (H := H49) (fun k => mkEnv_ok ty49 (fun p hp => by unfold fs49 at hp; cases hp)) mixedOK (by kernel_rfl : Try.prog.funcs[49]? = some Try.f49) (by kernel_rfl) (by kernel_rfl : Try.f49.body = some body49) (by kernel_rfl) (by kernel_rfl)
    (fun x hw => by obtain ⟨k, hk⟩ := h49 x.1 hw; exact ⟨k, (ev49  k x).trans hk⟩)
/-! ### jitney/jitref2.CarsOf -/
theorem SI23_48 (k : Nat) : SoundF Try.prog 48 (.ev (mkEnv tsi23_48 (fsi23_48 s27 s28 s49 k)) Hi23_48 k bodyi23_48 25 [.tmp 4]) :=
  ev_inline (mkEnv_ok tyi23_48 (fun p hp => by
    unfold fsi23_48 at hp
    rcases List.mem_cons.1 hp with rfl | hp
    · exact S27
    rcases List.mem_cons.1 hp with rfl | hp
    · exact S28
    rcases List.mem_cons.1 hp with rfl | hp
    · exact S49
    cases hp)) mixedOK (by kernel_rfl : Try.prog.funcs[48]? = some Try.f48) (by kernel_rfl) (by kernel_rfl : Try.f48.body = some bodyi23_48) (by kernel_rfl) (by kernel_rfl)
theorem S23 : SoundF Try.prog 23 (.pfn (.cons (.slice PY1) .nil) (.cons (.slice .str) .nil) fun x => s23 x.1) :=
  pfn_sound (E := fun k => mkEnv ts23 (fs23 s27 s28 s49 k)) (H := H23) (fun k => mkEnv_ok ty23 (fun p hp => by
    unfold fs23 at hp
    rcases List.mem_cons.1 hp with rfl | hp
    · exact SI23_48 k
    cases hp)) mixedOK (by kernel_rfl : Try.prog.funcs[23]? = some Try.f23) (by kernel_rfl) (by kernel_rfl : Try.f23.body = some body23) (by kernel_rfl) (by kernel_rfl)
    (fun x y hw hy => by obtain ⟨k, hk⟩ := h23 x.1 y hw hy; exact ⟨k, (ev23 s27 s28 s49 k x).trans hk⟩)
/-! ### jitney/jitref2.RidesOfOffers$1 -/
theorem S50 : SoundF Try.prog 50 (.fn (.cons PY1 .nil) (.cons .str .nil) fun x => (s50 x.1, ())) :=
  fn_sound (E := fun k => mkEnv ts50 (fs50 )) (H := H50) (fun k => mkEnv_ok ty50 (fun p hp => by unfold fs50 at hp; cases hp)) mixedOK (by kernel_rfl : Try.prog.funcs[50]? = some Try.f50) (by kernel_rfl) (by kernel_rfl : Try.f50.body = some body50) (by kernel_rfl) (by kernel_rfl)
    (fun x hw => by obtain ⟨k, hk⟩ := h50 x.1 hw; exact ⟨k, (ev50  k x).trans hk⟩)
/-! ### jitney/jitref2.RidesOfOffers -/
theorem SI24_48 (k : Nat) : SoundF Try.prog 48 (.ev (mkEnv tsi24_48 (fsi24_48 s27 s28 s50 k)) Hi24_48 k bodyi24_48 25 [.tmp 4]) :=
  ev_inline (mkEnv_ok tyi24_48 (fun p hp => by
    unfold fsi24_48 at hp
    rcases List.mem_cons.1 hp with rfl | hp
    · exact S27
    rcases List.mem_cons.1 hp with rfl | hp
    · exact S28
    rcases List.mem_cons.1 hp with rfl | hp
    · exact S50
    cases hp)) mixedOK (by kernel_rfl : Try.prog.funcs[48]? = some Try.f48) (by kernel_rfl) (by kernel_rfl : Try.f48.body = some bodyi24_48) (by kernel_rfl) (by kernel_rfl)
theorem S24 : SoundF Try.prog 24 (.pfn (.cons (.slice PY1) .nil) (.cons (.slice .str) .nil) fun x => s24 x.1) :=
  pfn_sound (E := fun k => mkEnv ts24 (fs24 s27 s28 s50 k)) (H := H24) (fun k => mkEnv_ok ty24 (fun p hp => by
    unfold fs24 at hp
    rcases List.mem_cons.1 hp with rfl | hp
    · exact SI24_48 k
    cases hp)) mixedOK (by kernel_rfl : Try.prog.funcs[24]? = some Try.f24) (by kernel_rfl) (by kernel_rfl : Try.f24.body = some body24) (by kernel_rfl) (by kernel_rfl)
    (fun x y hw hy => by obtain ⟨k, hk⟩ := h24 x.1 y hw hy; exact ⟨k, (ev24 s27 s28 s50 k x).trans hk⟩)
/-! ### jitney/jitref2.CostOf -/
theorem S25 : SoundF Try.prog 25 (.pfn (.cons (.slice PY1) (.cons (.slice PY0) .nil)) (.cons (.int .i64) .nil) fun x => s25 x.1 x.2.1) :=
  pfn_sound (E := fun k => mkEnv ts25 (fs25 s43)) (H := H25) (fun k => mkEnv_ok ty25 (fun p hp => by
    unfold fs25 at hp
    rcases List.mem_cons.1 hp with rfl | hp
    · exact S43
    cases hp)) mixedOK (by kernel_rfl : Try.prog.funcs[25]? = some Try.f25) (by kernel_rfl) (by kernel_rfl : Try.f25.body = some body25) (by kernel_rfl) (by kernel_rfl)
    (fun x y hw hy => by obtain ⟨k, hk⟩ := h25 x.1 x.2.1 y hw hy; exact ⟨k, (ev25 s43 k x).trans hk⟩)
/-! ### slices.Equal[[]string,string] -/
theorem S26 : SoundF Try.prog 26 (.fn (.cons (.slice .str) (.cons (.slice .str) .nil)) (.cons .bool .nil) fun x => (s26 x.1 x.2.1, ())) :=
  fn_sound (E := fun k => mkEnv ts26 (fs26 )) (H := H26) (fun k => mkEnv_ok ty26 (fun p hp => by unfold fs26 at hp; cases hp)) mixedOK (by kernel_rfl : Try.prog.funcs[26]? = some Try.f26) (by kernel_rfl) (by kernel_rfl : Try.f26.body = some body26) (by kernel_rfl) (by kernel_rfl)
    (fun x hw => by obtain ⟨k, hk⟩ := h26 x.1 x.2.1 hw; exact ⟨k, (ev26  k x).trans hk⟩)
/-! ### jitney/jitlaw2.OffersCount -/
theorem S4 : SoundF Try.prog 4 (.pfn (.cons (.slice PY1) (.cons (.slice PY0) .nil)) (.cons .bool .nil) fun x => s4 x.1 x.2.1) :=
  pfn_sound (E := fun k => mkEnv ts4 (fs4 s13 s14 s15 s16 s17 s18 s19 s20 s21 s22 s23 s24 s25 s26)) (H := H4) (fun k => mkEnv_ok ty4 (fun p hp => by
    unfold fs4 at hp
    rcases List.mem_cons.1 hp with rfl | hp
    · exact S13
    rcases List.mem_cons.1 hp with rfl | hp
    · exact S14
    rcases List.mem_cons.1 hp with rfl | hp
    · exact S15
    rcases List.mem_cons.1 hp with rfl | hp
    · exact S16
    rcases List.mem_cons.1 hp with rfl | hp
    · exact S17
    rcases List.mem_cons.1 hp with rfl | hp
    · exact S18
    rcases List.mem_cons.1 hp with rfl | hp
    · exact S19
    rcases List.mem_cons.1 hp with rfl | hp
    · exact S20
    rcases List.mem_cons.1 hp with rfl | hp
    · exact S21
    rcases List.mem_cons.1 hp with rfl | hp
    · exact S22
    rcases List.mem_cons.1 hp with rfl | hp
    · exact S23
    rcases List.mem_cons.1 hp with rfl | hp
    · exact S24
    rcases List.mem_cons.1 hp with rfl | hp
    · exact S25
    rcases List.mem_cons.1 hp with rfl | hp
    · exact S26
    cases hp)) mixedOK (by kernel_rfl : Try.prog.funcs[4]? = some Try.f4) (by kernel_rfl) (by kernel_rfl : Try.f4.body = some body4) (by kernel_rfl) (by kernel_rfl)
    (fun x y hw hy => by obtain ⟨k, hk⟩ := h4 x.1 x.2.1 y hw hy; exact ⟨k, (ev4 s13 s14 s15 s16 s17 s18 s19 s20 s21 s22 s23 s24 s25 s26 k x).trans hk⟩)
end Go.Vm
