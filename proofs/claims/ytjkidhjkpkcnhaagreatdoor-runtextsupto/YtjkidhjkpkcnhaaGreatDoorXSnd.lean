/- The program's functions are what the specs say. -/
import Derived.Test.YtjkidhjkpkcnhaaGreatDoorXSpec
set_option maxRecDepth 100000
set_option linter.unusedVariables false
namespace Go.Vm
open Go.Proofs
set_option maxHeartbeats 2000000 in
theorem walk28 (a : Option Addr) (c : Nat) (w : World) : Calls Tryz.prog 28 #[.slice a 0 c] w fun e w' => ∃ a' c', e = .returned (.slice a' 0 c') ∧ c' ≤ 9223372036854775807 ∧ Keep None w w' := by
  have q : ∀ (w : World) (a : Option Addr) (n c n' c' : Nat), (binOp .eql 57 (.slice a n c) (.slice none n' c')).run Tryz.prog w = .ok (.bool a.isNone) w := fun w a n c n' c' => Lib.run_eql_slice_nil w _ _ a n c n' c' Tryz.underlying57
  cases a with
  | none =>
    go_enter Tryz.func28, Tryz.ntmps28
    go_wp2
    go_ret
    exact ⟨none, 0, rfl, by omega, Keep.refl _ _⟩
  | some a =>
    go_enter Tryz.func28, Tryz.ntmps28
    go_wp2
    go_ret
    exact ⟨_, _, rfl, by omega, Keep.alloc _ _ _ _⟩
theorem cl28 (xs : List (ByteArray × (Int × Int × Unit) × Int × Int × Unit)) (hne : xs ≠ []) (hl : xs.length ≤ 4294967296) : f28 0 xs = some (xs, ()) := by
  cases xs with
  | nil => exact absurd rfl hne
  | cons z l =>
    have h2 : decide (List.length ([] : List (ByteArray × (Int × Int × Unit) × Int × Int × Unit)) + List.length (z :: l) ≤ 4294967296) = true := by simpa using hl
    unfold f28
    rw [show Nat.ble (List.length (z :: l)) 0 = false from rfl, h2]
    rfl
theorem S28 : SoundF Tryz.prog 28 (.pfn (.cons (.slice (.struct (.cons .str (.cons (.struct (.cons (.int .i64) (.cons (.int .i64) .nil))) (.cons (.int .i64) (.cons (.int .i64) .nil)))))) .nil) (.cons (.slice (.struct (.cons .str (.cons (.struct (.cons (.int .i64) (.cons (.int .i64) .nil))) (.cons (.int .i64) (.cons (.int .i64) .nil)))))) .nil) fun x => s28 x.1) := by
  intro ρ args objs K r hr
  exact clone_sound (T := (.struct (.cons .str (.cons (.struct (.cons (.int .i64) (.cons (.int .i64) .nil))) (.cons (.int .i64) (.cons (.int .i64) .nil)))))) (g1 := fun x => f28 0 x.1) (pfn_sound (E := fun _ => mkEnv ts28 fs28) (H := H28) (fun _ => mkEnv_ok ty28 (fun p hp => by unfold fs28 at hp; cases hp)) mixedOK (by kernel_rfl : Tryz.prog.funcs[28]? = some Tryz.f28) (by kernel_rfl) (by kernel_rfl : Tryz.f28.body = some body28) (by kernel_rfl) (by kernel_rfl) (fun x y hw hy => ⟨0, (ev28 0 x).trans hy⟩)) (enters_of (by kernel_rfl : Tryz.prog.funcs[28]? = some Tryz.f28) (by kernel_rfl) (by kernel_rfl : Tryz.f28.body = some body28))
    (fun xs hne hl => cl28 xs hne hl) walk28 args objs K r hr
/-! ### jitney/jitref2.in -/
theorem S71 : SoundF Tryz.prog 71 (.fn (.cons (.int .i64) (.cons (.int .i64) (.cons (.int .i64) .nil))) (.cons .bool .nil) fun x => (s71 x.1 x.2.1 x.2.2.1, ())) :=
  fn_sound (E := fun k => mkEnv ts71 (fs71 )) (H := H71) (fun k => mkEnv_ok ty71 (fun p hp => by unfold fs71 at hp; cases hp)) mixedOK (by kernel_rfl : Tryz.prog.funcs[71]? = some Tryz.f71) (by kernel_rfl) (by kernel_rfl : Tryz.f71.body = some body71) (by kernel_rfl) (by kernel_rfl)
    (fun x hw => by obtain ⟨k, hk⟩ := h71 x.1 x.2.1 x.2.2.1 hw; exact ⟨k, (ev71  k x).trans hk⟩)
/-! ### strings.IndexByte -/
theorem S145 : SoundF Tryz.prog 145 (.fn (.cons .str (.cons (.int .u8) .nil)) (.cons (.int .i64) .nil) fun x => (s145 x.1 x.2.1, ())) :=
  fn_sound (E := fun k => mkEnv ts145 (fs145 s182)) (H := H145) (fun k => mkEnv_ok ty145 (fun p hp => by
    unfold fs145 at hp
    rcases List.mem_cons.1 hp with rfl | hp
    · exact S182
    cases hp)) mixedOK (by kernel_rfl : Tryz.prog.funcs[145]? = some Tryz.f145) (by kernel_rfl) (by kernel_rfl : Tryz.f145.body = some body145) (by kernel_rfl) (by kernel_rfl)
    (fun x hw => by obtain ⟨k, hk⟩ := h145 x.1 x.2.1 hw; exact ⟨k, (ev145 s182 k x).trans hk⟩)
/-! ### jitney/jitref2.only -/
theorem S94 : SoundF Tryz.prog 94 (.fn (.cons .str (.cons .str .nil)) (.cons .bool .nil) fun x => (s94 x.1 x.2.1, ())) :=
  fn_sound (E := fun k => mkEnv ts94 (fs94 s145)) (H := H94) (fun k => mkEnv_ok ty94 (fun p hp => by
    unfold fs94 at hp
    rcases List.mem_cons.1 hp with rfl | hp
    · exact S145
    cases hp)) mixedOK (by kernel_rfl : Tryz.prog.funcs[94]? = some Tryz.f94) (by kernel_rfl) (by kernel_rfl : Tryz.f94.body = some body94) (by kernel_rfl) (by kernel_rfl)
    (fun x hw => by obtain ⟨k, hk⟩ := h94 x.1 x.2.1 hw; exact ⟨k, (ev94 s145 k x).trans hk⟩)
/-! ### jitney/jitref2.Key -/
theorem S36 : SoundF Tryz.prog 36 (.fn (.cons .str .nil) (.cons .bool .nil) fun x => (s36 x.1, ())) :=
  fn_sound (E := fun k => mkEnv ts36 (fs36 s71 s94)) (H := H36) (fun k => mkEnv_ok ty36 (fun p hp => by
    unfold fs36 at hp
    rcases List.mem_cons.1 hp with rfl | hp
    · exact S71
    rcases List.mem_cons.1 hp with rfl | hp
    · exact S94
    cases hp)) mixedOK (by kernel_rfl : Tryz.prog.funcs[36]? = some Tryz.f36) (by kernel_rfl) (by kernel_rfl : Tryz.f36.body = some body36) (by kernel_rfl) (by kernel_rfl)
    (fun x hw => by obtain ⟨k, hk⟩ := h36 x.1 hw; exact ⟨k, (ev36 s71 s94 k x).trans hk⟩)
/-! ### jitney/jitref2.RunsFault -/
theorem S34 : SoundF Tryz.prog 34 (.fn (.cons (.slice (.struct (.cons .str (.cons (.struct (.cons (.int .i64) (.cons (.int .i64) .nil))) (.cons (.int .i64) (.cons (.int .i64) .nil)))))) .nil) (.cons (.int .i64) .nil) fun x => (s34 x.1, ())) :=
  fn_sound (E := fun k => mkEnv ts34 (fs34 s36 s71)) (H := H34) (fun k => mkEnv_ok ty34 (fun p hp => by
    unfold fs34 at hp
    rcases List.mem_cons.1 hp with rfl | hp
    · exact S36
    rcases List.mem_cons.1 hp with rfl | hp
    · exact S71
    cases hp)) mixedOK (by kernel_rfl : Tryz.prog.funcs[34]? = some Tryz.f34) (by kernel_rfl) (by kernel_rfl : Tryz.f34.body = some body34) (by kernel_rfl) (by kernel_rfl)
    (fun x hw => by obtain ⟨k, hk⟩ := h34 x.1 hw; exact ⟨k, (ev34 s36 s71 k x).trans hk⟩)
/-! ### cmp.Or[int] -/
theorem S66 : SoundF Tryz.prog 66 (.fn (.cons (.slice (.int .i64)) .nil) (.cons (.int .i64) .nil) fun x => (s66 x.1, ())) :=
  fn_sound (E := fun k => mkEnv ts66 (fs66 )) (H := H66) (fun k => mkEnv_ok ty66 (fun p hp => by unfold fs66 at hp; cases hp)) mixedOK (by kernel_rfl : Tryz.prog.funcs[66]? = some Tryz.f66) (by kernel_rfl) (by kernel_rfl : Tryz.f66.body = some body66) (by kernel_rfl) (by kernel_rfl)
    (fun x hw => by obtain ⟨k, hk⟩ := h66 x.1 hw; exact ⟨k, (ev66  k x).trans hk⟩)
/-! ### cmp.isNaN[int] -/
theorem S132 : SoundF Tryz.prog 132 (.fn (.cons (.int .i64) .nil) (.cons .bool .nil) fun x => (s132 x.1, ())) :=
  fn_sound (E := fun k => mkEnv ts132 (fs132 )) (H := H132) (fun k => mkEnv_ok ty132 (fun p hp => by unfold fs132 at hp; cases hp)) mixedOK (by kernel_rfl : Tryz.prog.funcs[132]? = some Tryz.f132) (by kernel_rfl) (by kernel_rfl : Tryz.f132.body = some body132) (by kernel_rfl) (by kernel_rfl)
    (fun x hw => by obtain ⟨k, hk⟩ := h132 x.1 hw; exact ⟨k, (ev132  k x).trans hk⟩)
/-! ### cmp.Compare[int] -/
theorem S67 : SoundF Tryz.prog 67 (.fn (.cons (.int .i64) (.cons (.int .i64) .nil)) (.cons (.int .i64) .nil) fun x => (s67 x.1 x.2.1, ())) :=
  fn_sound (E := fun k => mkEnv ts67 (fs67 s132)) (H := H67) (fun k => mkEnv_ok ty67 (fun p hp => by
    unfold fs67 at hp
    rcases List.mem_cons.1 hp with rfl | hp
    · exact S132
    cases hp)) mixedOK (by kernel_rfl : Tryz.prog.funcs[67]? = some Tryz.f67) (by kernel_rfl) (by kernel_rfl : Tryz.f67.body = some body67) (by kernel_rfl) (by kernel_rfl)
    (fun x hw => by obtain ⟨k, hk⟩ := h67 x.1 x.2.1 hw; exact ⟨k, (ev67 s132 k x).trans hk⟩)
/-! ### jitney/fleet.byShift -/
theorem S189 : SoundF Tryz.prog 189 (.fn (.cons (.struct (.cons (.int .i64) (.cons (.int .i64) .nil))) (.cons (.struct (.cons (.int .i64) (.cons (.int .i64) .nil))) .nil)) (.cons (.int .i64) .nil) fun x => (s189 x.1 x.2.1, ())) :=
  fn_sound (E := fun k => mkEnv ts189 (fs189 s66 s67)) (H := H189) (fun k => mkEnv_ok ty189 (fun p hp => by
    unfold fs189 at hp
    rcases List.mem_cons.1 hp with rfl | hp
    · exact S66
    rcases List.mem_cons.1 hp with rfl | hp
    · exact S67
    cases hp)) mixedOK (by kernel_rfl : Tryz.prog.funcs[189]? = some Tryz.f189) (by kernel_rfl) (by kernel_rfl : Tryz.f189.body = some body189) (by kernel_rfl) (by kernel_rfl)
    (fun x hw => by obtain ⟨k, hk⟩ := h189 x.1 x.2.1 hw; exact ⟨k, (ev189 s66 s67 k x).trans hk⟩)
/-! ### jitney/fleet.CheckShifts -/
theorem S152 : SoundF Tryz.prog 152 (.pfn (.cons (.slice (.struct (.cons (.int .i64) (.cons (.int .i64) .nil)))) .nil) (.cons (.int .i64) .nil) fun x => s152 x.1) :=
  pfn_sound (E := fun k => mkEnv ts152 (fs152 s189)) (H := H152) (fun k => mkEnv_ok ty152 (fun p hp => by
    unfold fs152 at hp
    rcases List.mem_cons.1 hp with rfl | hp
    · exact S189
    cases hp)) mixedOK (by kernel_rfl : Tryz.prog.funcs[152]? = some Tryz.f152) (by kernel_rfl) (by kernel_rfl : Tryz.f152.body = some body152) (by kernel_rfl) (by kernel_rfl)
    (fun x y hw hy => by obtain ⟨k, hk⟩ := h152 x.1 y hw hy; exact ⟨k, (ev152 s189 k x).trans hk⟩)
/-! ### jitney/fleet.rosters -/
theorem SI153_191 (k : Nat) : SoundF Tryz.prog 191 (.ev (mkEnv tsi153_191 (fsi153_191  k)) Hi153_191 k bodyi153_191 8 [.tmp 3]) :=
  ev_inline (mkEnv_ok tyi153_191 (fun p hp => by unfold fsi153_191 at hp; cases hp)) mixedOK (by kernel_rfl : Tryz.prog.funcs[191]? = some Tryz.f191) (by kernel_rfl) (by kernel_rfl : Tryz.f191.body = some bodyi153_191) (by kernel_rfl) (by kernel_rfl)
theorem SI153_190 (k : Nat) : SoundF Tryz.prog 190 (.ev (mkEnv tsi153_190 (fsi153_190  k)) Hi153_190 k bodyi153_190 19 [.tmp 4]) :=
  ev_inline (mkEnv_ok tyi153_190 (fun p hp => by
    unfold fsi153_190 at hp
    rcases List.mem_cons.1 hp with rfl | hp
    · exact SI153_191 k
    cases hp)) mixedOK (by kernel_rfl : Tryz.prog.funcs[190]? = some Tryz.f190) (by kernel_rfl) (by kernel_rfl : Tryz.f190.body = some bodyi153_190) (by kernel_rfl) (by kernel_rfl)
theorem S153 : SoundF Tryz.prog 153 (.pfn (.cons (.slice (.struct (.cons (.int .i64) (.cons (.int .i64) .nil)))) .nil) (.cons (.slice (.int .i64)) (.cons (.int .i64) .nil)) fun x => s153 x.1) :=
  pfn_sound (E := fun k => mkEnv ts153 (fs153  k)) (H := H153) (fun k => mkEnv_ok ty153 (fun p hp => by
    unfold fs153 at hp
    rcases List.mem_cons.1 hp with rfl | hp
    · exact SI153_190 k
    cases hp)) mixedOK (by kernel_rfl : Tryz.prog.funcs[153]? = some Tryz.f153) (by kernel_rfl) (by kernel_rfl : Tryz.f153.body = some body153) (by kernel_rfl) (by kernel_rfl)
    (fun x y hw hy => by obtain ⟨k, hk⟩ := h153 x.1 y hw hy; exact ⟨k, (ev153  k x).trans hk⟩)
/-! ### jitney/fleet.Drivers -/
theorem S104 : SoundF Tryz.prog 104 (.pfn (.cons (.slice (.struct (.cons (.int .i64) (.cons (.int .i64) .nil)))) .nil) (.cons (.int .i64) (.cons (.int .i64) .nil)) fun x => s104 x.1) :=
  pfn_sound (E := fun k => mkEnv ts104 (fs104 s152 s153)) (H := H104) (fun k => mkEnv_ok ty104 (fun p hp => by
    unfold fs104 at hp
    rcases List.mem_cons.1 hp with rfl | hp
    · exact S152
    rcases List.mem_cons.1 hp with rfl | hp
    · exact S153
    cases hp)) mixedOK (by kernel_rfl : Tryz.prog.funcs[104]? = some Tryz.f104) (by kernel_rfl) (by kernel_rfl : Tryz.f104.body = some body104) (by kernel_rfl) (by kernel_rfl)
    (fun x y hw hy => by obtain ⟨k, hk⟩ := h104 x.1 y hw hy; exact ⟨k, (ev104 s152 s153 k x).trans hk⟩)
/-! ### jitney/jitlaw2.driven -/
theorem S46 : SoundF Tryz.prog 46 (.pfn .nil (.cons .bool .nil) fun x => s46) :=
  pfn_sound (E := fun k => mkEnv ts46 (fs46 s104)) (H := H46) (fun k => mkEnv_ok ty46 (fun p hp => by
    unfold fs46 at hp
    rcases List.mem_cons.1 hp with rfl | hp
    · exact S104
    cases hp)) mixedOK (by kernel_rfl : Tryz.prog.funcs[46]? = some Tryz.f46) (by kernel_rfl) (by kernel_rfl : Tryz.f46.body = some body46) (by kernel_rfl) (by kernel_rfl)
    (fun x y hw hy => by obtain ⟨k, hk⟩ := h46  y hw hy; exact ⟨k, (ev46 s104 k x).trans hk⟩)
/-! ### strconv.Itoa -/
theorem S107 : SoundF Tryz.prog 107 (.pfn (.cons (.int .i64) .nil) (.cons .str .nil) fun x => s107 x.1) :=
  pfn_sound (E := fun k => mkEnv ts107 (fs107 s155)) (H := H107) (fun k => mkEnv_ok ty107 (fun p hp => by
    unfold fs107 at hp
    rcases List.mem_cons.1 hp with rfl | hp
    · exact S155
    cases hp)) mixedOK (by kernel_rfl : Tryz.prog.funcs[107]? = some Tryz.f107) (by kernel_rfl) (by kernel_rfl : Tryz.f107.body = some body107) (by kernel_rfl) (by kernel_rfl)
    (fun x y hw hy => by obtain ⟨k, hk⟩ := h107 x.1 y hw hy; exact ⟨k, (ev107 s155 k x).trans hk⟩)
/-! ### jitney/jitref2.numbers -/
theorem S105 : SoundF Tryz.prog 105 (.pfn (.cons (.slice (.int .i64)) .nil) (.cons .str .nil) fun x => s105 x.1) :=
  pfn_sound (E := fun k => mkEnv ts105 (fs105 s107 s120)) (H := H105) (fun k => mkEnv_ok ty105 (fun p hp => by
    unfold fs105 at hp
    rcases List.mem_cons.1 hp with rfl | hp
    · exact S107
    rcases List.mem_cons.1 hp with rfl | hp
    · exact S120
    cases hp)) mixedOK (by kernel_rfl : Tryz.prog.funcs[105]? = some Tryz.f105) (by kernel_rfl) (by kernel_rfl : Tryz.f105.body = some body105) (by kernel_rfl) (by kernel_rfl)
    (fun x y hw hy => by obtain ⟨k, hk⟩ := h105 x.1 y hw hy; exact ⟨k, (ev105 s107 s120 k x).trans hk⟩)
/-! ### jitney/jitref2.RunLines -/
theorem S47 : SoundF Tryz.prog 47 (.pfn (.cons (.slice (.struct (.cons .str (.cons (.struct (.cons (.int .i64) (.cons (.int .i64) .nil))) (.cons (.int .i64) (.cons (.int .i64) .nil)))))) .nil) (.cons .str .nil) fun x => s47 x.1) :=
  pfn_sound (E := fun k => mkEnv ts47 (fs47 s105)) (H := H47) (fun k => mkEnv_ok ty47 (fun p hp => by
    unfold fs47 at hp
    rcases List.mem_cons.1 hp with rfl | hp
    · exact S105
    cases hp)) mixedOK (by kernel_rfl : Tryz.prog.funcs[47]? = some Tryz.f47) (by kernel_rfl) (by kernel_rfl : Tryz.f47.body = some body47) (by kernel_rfl) (by kernel_rfl)
    (fun x y hw hy => by obtain ⟨k, hk⟩ := h47 x.1 y hw hy; exact ⟨k, (ev47 s105 k x).trans hk⟩)
/-! ### jitney/jitlaw2.written -/
theorem S48 : SoundF Tryz.prog 48 (.fn (.cons .str (.cons (.int .i64) .nil)) (.cons .str (.cons (.int .i64) .nil)) fun x => s48 x.1 x.2.1) :=
  fn_sound (E := fun k => mkEnv ts48 (fs48 )) (H := H48) (fun k => mkEnv_ok ty48 (fun p hp => by unfold fs48 at hp; cases hp)) mixedOK (by kernel_rfl : Tryz.prog.funcs[48]? = some Tryz.f48) (by kernel_rfl) (by kernel_rfl : Tryz.f48.body = some body48) (by kernel_rfl) (by kernel_rfl)
    (fun x hw => by obtain ⟨k, hk⟩ := h48 x.1 x.2.1 hw; exact ⟨k, (ev48  k x).trans hk⟩)
/-! ### jitney/base.Out -/
theorem S74 : SoundF Tryz.prog 74 (.fn (.cons (.int .i64) (.cons (.int .i64) (.cons (.int .i64) .nil))) (.cons .bool .nil) fun x => (s74 x.1 x.2.1 x.2.2.1, ())) :=
  fn_sound (E := fun k => mkEnv ts74 (fs74 )) (H := H74) (fun k => mkEnv_ok ty74 (fun p hp => by unfold fs74 at hp; cases hp)) mixedOK (by kernel_rfl : Tryz.prog.funcs[74]? = some Tryz.f74) (by kernel_rfl) (by kernel_rfl : Tryz.f74.body = some body74) (by kernel_rfl) (by kernel_rfl)
    (fun x hw => by obtain ⟨k, hk⟩ := h74 x.1 x.2.1 x.2.2.1 hw; exact ⟨k, (ev74  k x).trans hk⟩)
/-! ### jitney/base.Key -/
theorem S75 : SoundF Tryz.prog 75 (.fn (.cons .str .nil) (.cons .bool .nil) fun x => (s75 x.1, ())) :=
  fn_sound (E := fun k => mkEnv ts75 (fs75 )) (H := H75) (fun k => mkEnv_ok ty75 (fun p hp => by unfold fs75 at hp; cases hp)) mixedOK (by kernel_rfl : Tryz.prog.funcs[75]? = some Tryz.f75) (by kernel_rfl) (by kernel_rfl : Tryz.f75.body = some body75) (by kernel_rfl) (by kernel_rfl)
    (fun x hw => by obtain ⟨k, hk⟩ := h75 x.1 hw; exact ⟨k, (ev75  k x).trans hk⟩)
/-! ### jitney/fleet.CheckTrips -/
theorem S85 : SoundF Tryz.prog 85 (.fn (.cons (.slice (.struct (.cons .str (.cons (.struct (.cons (.int .i64) (.cons (.int .i64) .nil))) (.cons (.int .i64) (.cons (.int .i64) .nil)))))) .nil) (.cons (.int .i64) .nil) fun x => (s85 x.1, ())) :=
  fn_sound (E := fun k => mkEnv ts85 (fs85 s74 s75)) (H := H85) (fun k => mkEnv_ok ty85 (fun p hp => by
    unfold fs85 at hp
    rcases List.mem_cons.1 hp with rfl | hp
    · exact S74
    rcases List.mem_cons.1 hp with rfl | hp
    · exact S75
    cases hp)) mixedOK (by kernel_rfl : Tryz.prog.funcs[85]? = some Tryz.f85) (by kernel_rfl) (by kernel_rfl : Tryz.f85.body = some body85) (by kernel_rfl) (by kernel_rfl)
    (fun x hw => by obtain ⟨k, hk⟩ := h85 x.1 hw; exact ⟨k, (ev85 s74 s75 k x).trans hk⟩)
/-! ### jitney/fleet.Text -/
theorem SI49_106 (k : Nat) : SoundF Tryz.prog 106 (.ev (mkEnv tsi49_106 (fsi49_106 s85 s107 k)) Hi49_106 k bodyi49_106 19 [.tmp 4, .tmp 5]) :=
  ev_inline (mkEnv_ok tyi49_106 (fun p hp => by
    unfold fsi49_106 at hp
    rcases List.mem_cons.1 hp with rfl | hp
    · exact S154
    cases hp)) mixedOK (by kernel_rfl : Tryz.prog.funcs[106]? = some Tryz.f106) (by kernel_rfl) (by kernel_rfl : Tryz.f106.body = some bodyi49_106) (by kernel_rfl) (by kernel_rfl)
theorem SI49_108 (k : Nat) : SoundF Tryz.prog 108 (.ev (mkEnv tsi49_108 (fsi49_108 s85 s107 k)) Hi49_108 k bodyi49_108 8 [.tmp 2]) :=
  ev_inline (mkEnv_ok tyi49_108 (fun p hp => by unfold fsi49_108 at hp; cases hp)) mixedOK (by kernel_rfl : Tryz.prog.funcs[108]? = some Tryz.f108) (by kernel_rfl) (by kernel_rfl : Tryz.f108.body = some bodyi49_108) (by kernel_rfl) (by kernel_rfl)
theorem S49 : SoundF Tryz.prog 49 (.pfn (.cons (.slice (.struct (.cons .str (.cons (.struct (.cons (.int .i64) (.cons (.int .i64) .nil))) (.cons (.int .i64) (.cons (.int .i64) .nil)))))) .nil) (.cons .str (.cons (.int .i64) .nil)) fun x => s49 x.1) :=
  pfn_sound (E := fun k => mkEnv ts49 (fs49 s85 s107 k)) (H := H49) (fun k => mkEnv_ok ty49 (fun p hp => by
    unfold fs49 at hp
    rcases List.mem_cons.1 hp with rfl | hp
    · exact S85
    rcases List.mem_cons.1 hp with rfl | hp
    · exact SI49_106 k
    rcases List.mem_cons.1 hp with rfl | hp
    · exact S107
    rcases List.mem_cons.1 hp with rfl | hp
    · exact SI49_108 k
    rcases List.mem_cons.1 hp with rfl | hp
    · exact S109
    cases hp)) mixedOK (by kernel_rfl : Tryz.prog.funcs[49]? = some Tryz.f49) (by kernel_rfl) (by kernel_rfl : Tryz.f49.body = some body49) (by kernel_rfl) (by kernel_rfl)
    (fun x y hw hy => by obtain ⟨k, hk⟩ := h49 x.1 y hw hy; exact ⟨k, (ev49 s85 s107 k x).trans hk⟩)
/-! ### jitney/base.Words -/
theorem S112 : SoundF Tryz.prog 112 (.pfn (.cons .str (.cons (.int .i64) .nil)) (.cons (.slice .str) (.cons .bool .nil)) fun x => s112 x.1 x.2.1) :=
  pfn_sound (E := fun k => mkEnv ts112 (fs112 s116)) (H := H112) (fun k => mkEnv_ok ty112 (fun p hp => by
    unfold fs112 at hp
    rcases List.mem_cons.1 hp with rfl | hp
    · exact S116
    cases hp)) mixedOK (by kernel_rfl : Tryz.prog.funcs[112]? = some Tryz.f112) (by kernel_rfl) (by kernel_rfl : Tryz.f112.body = some body112) (by kernel_rfl) (by kernel_rfl)
    (fun x y hw hy => by obtain ⟨k, hk⟩ := h112 x.1 x.2.1 y hw hy; exact ⟨k, (ev112 s116 k x).trans hk⟩)
/-! ### internal/stringslite.HasPrefix -/
theorem S206 : SoundF Tryz.prog 206 (.fn (.cons .str (.cons .str .nil)) (.cons .bool .nil) fun x => (s206 x.1 x.2.1, ())) :=
  fn_sound (E := fun k => mkEnv ts206 (fs206 )) (H := H206) (fun k => mkEnv_ok ty206 (fun p hp => by unfold fs206 at hp; cases hp)) mixedOK (by kernel_rfl : Tryz.prog.funcs[206]? = some Tryz.f206) (by kernel_rfl) (by kernel_rfl : Tryz.f206.body = some body206) (by kernel_rfl) (by kernel_rfl)
    (fun x hw => by obtain ⟨k, hk⟩ := h206 x.1 x.2.1 hw; exact ⟨k, (ev206  k x).trans hk⟩)
/-! ### internal/stringslite.TrimPrefix -/
theorem S183 : SoundF Tryz.prog 183 (.fn (.cons .str (.cons .str .nil)) (.cons .str .nil) fun x => (s183 x.1 x.2.1, ())) :=
  fn_sound (E := fun k => mkEnv ts183 (fs183 s206)) (H := H183) (fun k => mkEnv_ok ty183 (fun p hp => by
    unfold fs183 at hp
    rcases List.mem_cons.1 hp with rfl | hp
    · exact S206
    cases hp)) mixedOK (by kernel_rfl : Tryz.prog.funcs[183]? = some Tryz.f183) (by kernel_rfl) (by kernel_rfl : Tryz.f183.body = some body183) (by kernel_rfl) (by kernel_rfl)
    (fun x hw => by obtain ⟨k, hk⟩ := h183 x.1 x.2.1 hw; exact ⟨k, (ev183 s206 k x).trans hk⟩)
/-! ### strings.TrimPrefix -/
theorem S146 : SoundF Tryz.prog 146 (.fn (.cons .str (.cons .str .nil)) (.cons .str .nil) fun x => (s146 x.1 x.2.1, ())) :=
  fn_sound (E := fun k => mkEnv ts146 (fs146 s183)) (H := H146) (fun k => mkEnv_ok ty146 (fun p hp => by
    unfold fs146 at hp
    rcases List.mem_cons.1 hp with rfl | hp
    · exact S183
    cases hp)) mixedOK (by kernel_rfl : Tryz.prog.funcs[146]? = some Tryz.f146) (by kernel_rfl) (by kernel_rfl : Tryz.f146.body = some body146) (by kernel_rfl) (by kernel_rfl)
    (fun x hw => by obtain ⟨k, hk⟩ := h146 x.1 x.2.1 hw; exact ⟨k, (ev146 s183 k x).trans hk⟩)
/-! ### jitney/base.Number -/
theorem S139 : SoundF Tryz.prog 139 (.pfn (.cons .str (.cons (.int .i64) .nil)) (.cons (.int .i64) (.cons .bool .nil)) fun x => s139 x.1 x.2.1) :=
  pfn_sound (E := fun k => mkEnv ts139 (fs139 s146)) (H := H139) (fun k => mkEnv_ok ty139 (fun p hp => by
    unfold fs139 at hp
    rcases List.mem_cons.1 hp with rfl | hp
    · exact S146
    rcases List.mem_cons.1 hp with rfl | hp
    · exact S147
    cases hp)) mixedOK (by kernel_rfl : Tryz.prog.funcs[139]? = some Tryz.f139) (by kernel_rfl) (by kernel_rfl : Tryz.f139.body = some body139) (by kernel_rfl) (by kernel_rfl)
    (fun x y hw hy => by obtain ⟨k, hk⟩ := h139 x.1 x.2.1 y hw hy; exact ⟨k, (ev139 s146 k x).trans hk⟩)
/-! ### jitney/base.Numbers -/
theorem S113 : SoundF Tryz.prog 113 (.pfn (.cons (.slice .str) (.cons (.int .i64) .nil)) (.cons (.slice (.int .i64)) (.cons .bool .nil)) fun x => s113 x.1 x.2.1) :=
  pfn_sound (E := fun k => mkEnv ts113 (fs113 s139)) (H := H113) (fun k => mkEnv_ok ty113 (fun p hp => by
    unfold fs113 at hp
    rcases List.mem_cons.1 hp with rfl | hp
    · exact S139
    cases hp)) mixedOK (by kernel_rfl : Tryz.prog.funcs[113]? = some Tryz.f113) (by kernel_rfl) (by kernel_rfl : Tryz.f113.body = some body113) (by kernel_rfl) (by kernel_rfl)
    (fun x y hw hy => by obtain ⟨k, hk⟩ := h113 x.1 x.2.1 y hw hy; exact ⟨k, (ev113 s139 k x).trans hk⟩)
/-! ### internal/stringslite.HasSuffix -/
theorem S244 : SoundF Tryz.prog 244 (.fn (.cons .str (.cons .str .nil)) (.cons .bool .nil) fun x => (s244 x.1 x.2.1, ())) :=
  fn_sound (E := fun k => mkEnv ts244 (fs244 )) (H := H244) (fun k => mkEnv_ok ty244 (fun p hp => by unfold fs244 at hp; cases hp)) mixedOK (by kernel_rfl : Tryz.prog.funcs[244]? = some Tryz.f244) (by kernel_rfl) (by kernel_rfl : Tryz.f244.body = some body244) (by kernel_rfl) (by kernel_rfl)
    (fun x hw => by obtain ⟨k, hk⟩ := h244 x.1 x.2.1 hw; exact ⟨k, (ev244  k x).trans hk⟩)
/-! ### internal/stringslite.CutSuffix -/
theorem S225 : SoundF Tryz.prog 225 (.fn (.cons .str (.cons .str .nil)) (.cons .str (.cons .bool .nil)) fun x => s225 x.1 x.2.1) :=
  fn_sound (E := fun k => mkEnv ts225 (fs225 s244)) (H := H225) (fun k => mkEnv_ok ty225 (fun p hp => by
    unfold fs225 at hp
    rcases List.mem_cons.1 hp with rfl | hp
    · exact S244
    cases hp)) mixedOK (by kernel_rfl : Tryz.prog.funcs[225]? = some Tryz.f225) (by kernel_rfl) (by kernel_rfl : Tryz.f225.body = some body225) (by kernel_rfl) (by kernel_rfl)
    (fun x hw => by obtain ⟨k, hk⟩ := h225 x.1 x.2.1 hw; exact ⟨k, (ev225 s244 k x).trans hk⟩)
/-! ### strings.CutSuffix -/
theorem S194 : SoundF Tryz.prog 194 (.fn (.cons .str (.cons .str .nil)) (.cons .str (.cons .bool .nil)) fun x => s194 x.1 x.2.1) :=
  fn_sound (E := fun k => mkEnv ts194 (fs194 s225)) (H := H194) (fun k => mkEnv_ok ty194 (fun p hp => by
    unfold fs194 at hp
    rcases List.mem_cons.1 hp with rfl | hp
    · exact S225
    cases hp)) mixedOK (by kernel_rfl : Tryz.prog.funcs[194]? = some Tryz.f194) (by kernel_rfl) (by kernel_rfl : Tryz.f194.body = some body194) (by kernel_rfl) (by kernel_rfl)
    (fun x hw => by obtain ⟨k, hk⟩ := h194 x.1 x.2.1 hw; exact ⟨k, (ev194 s225 k x).trans hk⟩)
/-! ### jitney/base.Lines -/
theorem S156 : SoundF Tryz.prog 156 (.pfn (.cons .str .nil) (.cons (.slice .str) (.cons .bool .nil)) fun x => s156 x.1) :=
  pfn_sound (E := fun k => mkEnv ts156 (fs156 s116 s194)) (H := H156) (fun k => mkEnv_ok ty156 (fun p hp => by
    unfold fs156 at hp
    rcases List.mem_cons.1 hp with rfl | hp
    · exact S116
    rcases List.mem_cons.1 hp with rfl | hp
    · exact S194
    cases hp)) mixedOK (by kernel_rfl : Tryz.prog.funcs[156]? = some Tryz.f156) (by kernel_rfl) (by kernel_rfl : Tryz.f156.body = some body156) (by kernel_rfl) (by kernel_rfl)
    (fun x y hw hy => by obtain ⟨k, hk⟩ := h156 x.1 y hw hy; exact ⟨k, (ev156 s116 s194 k x).trans hk⟩)
/-! ### jitney/fleet.Read -/
theorem SI50_111 (k : Nat) : SoundF Tryz.prog 111 (.ev (mkEnv tsi50_111 (fsi50_111 s85 s112 s113 s156 k)) Hi50_111 k bodyi50_111 42 [.tmp 3]) :=
  ev_inline (mkEnv_ok tyi50_111 (fun p hp => by
    unfold fsi50_111 at hp
    rcases List.mem_cons.1 hp with rfl | hp
    · exact S112
    rcases List.mem_cons.1 hp with rfl | hp
    · exact S113
    cases hp)) mixedOK (by kernel_rfl : Tryz.prog.funcs[111]? = some Tryz.f111) (by kernel_rfl) (by kernel_rfl : Tryz.f111.body = some bodyi50_111) (by kernel_rfl) (by kernel_rfl)
theorem SI50_110 (k : Nat) : SoundF Tryz.prog 110 (.ev (mkEnv tsi50_110 (fsi50_110 s85 s112 s113 s156 k)) Hi50_110 k bodyi50_110 39 [.tmp 4, .tmp 5]) :=
  ev_inline (mkEnv_ok tyi50_110 (fun p hp => by
    unfold fsi50_110 at hp
    rcases List.mem_cons.1 hp with rfl | hp
    · exact SI50_111 k
    rcases List.mem_cons.1 hp with rfl | hp
    · exact S156
    cases hp)) mixedOK (by kernel_rfl : Tryz.prog.funcs[110]? = some Tryz.f110) (by kernel_rfl) (by kernel_rfl : Tryz.f110.body = some bodyi50_110) (by kernel_rfl) (by kernel_rfl)
theorem S50 : SoundF Tryz.prog 50 (.pfn (.cons .str .nil) (.cons (.slice (.struct (.cons .str (.cons (.struct (.cons (.int .i64) (.cons (.int .i64) .nil))) (.cons (.int .i64) (.cons (.int .i64) .nil)))))) (.cons (.int .i64) (.cons (.int .i64) .nil))) fun x => s50 x.1) :=
  pfn_sound (E := fun k => mkEnv ts50 (fs50 s85 s112 s113 s156 k)) (H := H50) (fun k => mkEnv_ok ty50 (fun p hp => by
    unfold fs50 at hp
    rcases List.mem_cons.1 hp with rfl | hp
    · exact S85
    rcases List.mem_cons.1 hp with rfl | hp
    · exact SI50_110 k
    cases hp)) mixedOK (by kernel_rfl : Tryz.prog.funcs[50]? = some Tryz.f50) (by kernel_rfl) (by kernel_rfl : Tryz.f50.body = some body50) (by kernel_rfl) (by kernel_rfl)
    (fun x y hw hy => by obtain ⟨k, hk⟩ := h50 x.1 y hw hy; exact ⟨k, (ev50 s85 s112 s113 s156 k x).trans hk⟩)
/-! ### slices.Index[[]string,string] -/
theorem S159 : SoundF Tryz.prog 159 (.fn (.cons (.slice .str) (.cons .str .nil)) (.cons (.int .i64) .nil) fun x => (s159 x.1 x.2.1, ())) :=
  fn_sound (E := fun k => mkEnv ts159 (fs159 )) (H := H159) (fun k => mkEnv_ok ty159 (fun p hp => by unfold fs159 at hp; cases hp)) mixedOK (by kernel_rfl : Tryz.prog.funcs[159]? = some Tryz.f159) (by kernel_rfl) (by kernel_rfl : Tryz.f159.body = some body159) (by kernel_rfl) (by kernel_rfl)
    (fun x hw => by obtain ⟨k, hk⟩ := h159 x.1 x.2.1 hw; exact ⟨k, (ev159  k x).trans hk⟩)
/-! ### slices.Contains[[]string,string] -/
theorem S117 : SoundF Tryz.prog 117 (.fn (.cons (.slice .str) (.cons .str .nil)) (.cons .bool .nil) fun x => (s117 x.1 x.2.1, ())) :=
  fn_sound (E := fun k => mkEnv ts117 (fs117 s159)) (H := H117) (fun k => mkEnv_ok ty117 (fun p hp => by
    unfold fs117 at hp
    rcases List.mem_cons.1 hp with rfl | hp
    · exact S159
    cases hp)) mixedOK (by kernel_rfl : Tryz.prog.funcs[117]? = some Tryz.f117) (by kernel_rfl) (by kernel_rfl : Tryz.f117.body = some body117) (by kernel_rfl) (by kernel_rfl)
    (fun x hw => by obtain ⟨k, hk⟩ := h117 x.1 x.2.1 hw; exact ⟨k, (ev117 s159 k x).trans hk⟩)
/-! ### jitney/jitref2.Number -/
theorem S95 : SoundF Tryz.prog 95 (.pfn (.cons .str (.cons (.int .i64) .nil)) (.cons (.int .i64) (.cons .bool .nil)) fun x => s95 x.1 x.2.1) :=
  pfn_sound (E := fun k => mkEnv ts95 (fs95 s94 s107 s146)) (H := H95) (fun k => mkEnv_ok ty95 (fun p hp => by
    unfold fs95 at hp
    rcases List.mem_cons.1 hp with rfl | hp
    · exact S94
    rcases List.mem_cons.1 hp with rfl | hp
    · exact S107
    rcases List.mem_cons.1 hp with rfl | hp
    · exact S146
    rcases List.mem_cons.1 hp with rfl | hp
    · exact S147
    cases hp)) mixedOK (by kernel_rfl : Tryz.prog.funcs[95]? = some Tryz.f95) (by kernel_rfl) (by kernel_rfl : Tryz.f95.body = some body95) (by kernel_rfl) (by kernel_rfl)
    (fun x y hw hy => by obtain ⟨k, hk⟩ := h95 x.1 x.2.1 y hw hy; exact ⟨k, (ev95 s94 s107 s146 k x).trans hk⟩)
/-! ### jitney/jitref2.numbersIn -/
theorem S118 : SoundF Tryz.prog 118 (.pfn (.cons (.slice .str) (.cons (.int .i64) .nil)) (.cons (.slice (.int .i64)) (.cons .bool .nil)) fun x => s118 x.1 x.2.1) :=
  pfn_sound (E := fun k => mkEnv ts118 (fs118 s95)) (H := H118) (fun k => mkEnv_ok ty118 (fun p hp => by
    unfold fs118 at hp
    rcases List.mem_cons.1 hp with rfl | hp
    · exact S95
    cases hp)) mixedOK (by kernel_rfl : Tryz.prog.funcs[118]? = some Tryz.f118) (by kernel_rfl) (by kernel_rfl : Tryz.f118.body = some body118) (by kernel_rfl) (by kernel_rfl)
    (fun x y hw hy => by obtain ⟨k, hk⟩ := h118 x.1 x.2.1 y hw hy; exact ⟨k, (ev118 s95 k x).trans hk⟩)
/-! ### jitney/jitref2.RunsRead -/
theorem SI51_115 (k : Nat) : SoundF Tryz.prog 115 (.ev (mkEnv tsi51_115 (fsi51_115 s34 s116 s117 s118 s157 k)) Hi51_115 k bodyi51_115 43 [.tmp 3]) :=
  ev_inline (mkEnv_ok tyi51_115 (fun p hp => by
    unfold fsi51_115 at hp
    rcases List.mem_cons.1 hp with rfl | hp
    · exact S116
    rcases List.mem_cons.1 hp with rfl | hp
    · exact S117
    rcases List.mem_cons.1 hp with rfl | hp
    · exact S118
    cases hp)) mixedOK (by kernel_rfl : Tryz.prog.funcs[115]? = some Tryz.f115) (by kernel_rfl) (by kernel_rfl : Tryz.f115.body = some bodyi51_115) (by kernel_rfl) (by kernel_rfl)
theorem SI51_114 (k : Nat) : SoundF Tryz.prog 114 (.ev (mkEnv tsi51_114 (fsi51_114 s34 s116 s117 s118 s157 k)) Hi51_114 k bodyi51_114 30 [.tmp 4, .tmp 5]) :=
  ev_inline (mkEnv_ok tyi51_114 (fun p hp => by
    unfold fsi51_114 at hp
    rcases List.mem_cons.1 hp with rfl | hp
    · exact SI51_115 k
    rcases List.mem_cons.1 hp with rfl | hp
    · exact S157
    cases hp)) mixedOK (by kernel_rfl : Tryz.prog.funcs[114]? = some Tryz.f114) (by kernel_rfl) (by kernel_rfl : Tryz.f114.body = some bodyi51_114) (by kernel_rfl) (by kernel_rfl)
theorem S51 : SoundF Tryz.prog 51 (.pfn (.cons .str .nil) (.cons (.slice (.struct (.cons .str (.cons (.struct (.cons (.int .i64) (.cons (.int .i64) .nil))) (.cons (.int .i64) (.cons (.int .i64) .nil)))))) (.cons (.int .i64) (.cons (.int .i64) .nil))) fun x => s51 x.1) :=
  pfn_sound (E := fun k => mkEnv ts51 (fs51 s34 s116 s117 s118 s157 k)) (H := H51) (fun k => mkEnv_ok ty51 (fun p hp => by
    unfold fs51 at hp
    rcases List.mem_cons.1 hp with rfl | hp
    · exact S34
    rcases List.mem_cons.1 hp with rfl | hp
    · exact SI51_114 k
    cases hp)) mixedOK (by kernel_rfl : Tryz.prog.funcs[51]? = some Tryz.f51) (by kernel_rfl) (by kernel_rfl : Tryz.f51.body = some body51) (by kernel_rfl) (by kernel_rfl)
    (fun x y hw hy => by obtain ⟨k, hk⟩ := h51 x.1 y hw hy; exact ⟨k, (ev51 s34 s116 s117 s118 s157 k x).trans hk⟩)
/-! ### slices.Equal[[]jitney/api.Run,jitney/api.Run] -/
theorem S52 : SoundF Tryz.prog 52 (.fn (.cons (.slice (.struct (.cons .str (.cons (.struct (.cons (.int .i64) (.cons (.int .i64) .nil))) (.cons (.int .i64) (.cons (.int .i64) .nil)))))) (.cons (.slice (.struct (.cons .str (.cons (.struct (.cons (.int .i64) (.cons (.int .i64) .nil))) (.cons (.int .i64) (.cons (.int .i64) .nil)))))) .nil)) (.cons .bool .nil) fun x => (s52 x.1 x.2.1, ())) :=
  fn_sound (E := fun k => mkEnv ts52 (fs52 )) (H := H52) (fun k => mkEnv_ok ty52 (fun p hp => by unfold fs52 at hp; cases hp)) mixedOK (by kernel_rfl : Tryz.prog.funcs[52]? = some Tryz.f52) (by kernel_rfl) (by kernel_rfl : Tryz.f52.body = some body52) (by kernel_rfl) (by kernel_rfl)
    (fun x hw => by obtain ⟨k, hk⟩ := h52 x.1 x.2.1 hw; exact ⟨k, (ev52  k x).trans hk⟩)
/-! ### jitney/jitlaw2.RunTexts -/
theorem S5 : SoundF Tryz.prog 5 (.pfn (.cons (.slice (.struct (.cons .str (.cons (.struct (.cons (.int .i64) (.cons (.int .i64) .nil))) (.cons (.int .i64) (.cons (.int .i64) .nil)))))) (.cons .str .nil)) (.cons .bool .nil) fun x => s5 x.1 x.2.1) :=
  pfn_sound (E := fun k => mkEnv ts5 (fs5 s28 s34 s46 s47 s48 s49 s50 s51 s52)) (H := H5) (fun k => mkEnv_ok ty5 (fun p hp => by
    unfold fs5 at hp
    rcases List.mem_cons.1 hp with rfl | hp
    · exact S28
    rcases List.mem_cons.1 hp with rfl | hp
    · exact S34
    rcases List.mem_cons.1 hp with rfl | hp
    · exact S46
    rcases List.mem_cons.1 hp with rfl | hp
    · exact S47
    rcases List.mem_cons.1 hp with rfl | hp
    · exact S48
    rcases List.mem_cons.1 hp with rfl | hp
    · exact S49
    rcases List.mem_cons.1 hp with rfl | hp
    · exact S50
    rcases List.mem_cons.1 hp with rfl | hp
    · exact S51
    rcases List.mem_cons.1 hp with rfl | hp
    · exact S52
    cases hp)) mixedOK (by kernel_rfl : Tryz.prog.funcs[5]? = some Tryz.f5) (by kernel_rfl) (by kernel_rfl : Tryz.f5.body = some body5) (by kernel_rfl) (by kernel_rfl)
    (fun x y hw hy => by obtain ⟨k, hk⟩ := h5 x.1 x.2.1 y hw hy; exact ⟨k, (ev5 s28 s34 s46 s47 s48 s49 s50 s51 s52 k x).trans hk⟩)
end Go.Vm
