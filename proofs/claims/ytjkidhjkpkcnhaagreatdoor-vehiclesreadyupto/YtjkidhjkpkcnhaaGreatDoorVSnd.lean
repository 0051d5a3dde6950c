/- The program's functions are what the specs say. -/
import Derived.Test.YtjkidhjkpkcnhaaGreatDoorVSpec
set_option maxRecDepth 100000
set_option linter.unusedVariables false
namespace Go.Vm
open Go.Proofs
/-! ### jitney/jitlaw2.errs -/
theorem S18 : SoundF Tryz.prog 18 (.fn (.cons (.slice (.int .i64)) .nil) (.cons (.int .i64) .nil) fun x => (s18 x.1, ())) :=
  fn_sound (E := fun k => mkEnv ts18 (fs18 )) (H := H18) (fun k => mkEnv_ok ty18 (fun p hp => by unfold fs18 at hp; cases hp)) mixedOK (by kernel_rfl : Tryz.prog.funcs[18]? = some Tryz.f18) (by kernel_rfl) (by kernel_rfl : Tryz.f18.body = some body18) (by kernel_rfl) (by kernel_rfl)
    (fun x hw => by obtain ⟨k, hk⟩ := h18 x.1 hw; exact ⟨k, (ev18  k x).trans hk⟩)
/-! ### jitney/base.First -/
theorem S69 : SoundF Tryz.prog 69 (.fn (.cons (.slice (.int .i64)) .nil) (.cons (.int .i64) .nil) fun x => (s69 x.1, ())) :=
  fn_sound (E := fun k => mkEnv ts69 (fs69 )) (H := H69) (fun k => mkEnv_ok ty69 (fun p hp => by unfold fs69 at hp; cases hp)) mixedOK (by kernel_rfl : Tryz.prog.funcs[69]? = some Tryz.f69) (by kernel_rfl) (by kernel_rfl : Tryz.f69.body = some body69) (by kernel_rfl) (by kernel_rfl)
    (fun x hw => by obtain ⟨k, hk⟩ := h69 x.1 hw; exact ⟨k, (ev69  k x).trans hk⟩)
/-! ### jitney/base.Out -/
theorem S74 : SoundF Tryz.prog 74 (.fn (.cons (.int .i64) (.cons (.int .i64) (.cons (.int .i64) .nil))) (.cons .bool .nil) fun x => (s74 x.1 x.2.1 x.2.2.1, ())) :=
  fn_sound (E := fun k => mkEnv ts74 (fs74 )) (H := H74) (fun k => mkEnv_ok ty74 (fun p hp => by unfold fs74 at hp; cases hp)) mixedOK (by kernel_rfl : Tryz.prog.funcs[74]? = some Tryz.f74) (by kernel_rfl) (by kernel_rfl : Tryz.f74.body = some body74) (by kernel_rfl) (by kernel_rfl)
    (fun x hw => by obtain ⟨k, hk⟩ := h74 x.1 x.2.1 x.2.2.1 hw; exact ⟨k, (ev74  k x).trans hk⟩)
/-! ### jitney/base.Moment -/
theorem S73 : SoundF Tryz.prog 73 (.fn (.cons (.int .i64) .nil) (.cons .bool .nil) fun x => (s73 x.1, ())) :=
  fn_sound (E := fun k => mkEnv ts73 (fs73 s74)) (H := H73) (fun k => mkEnv_ok ty73 (fun p hp => by
    unfold fs73 at hp
    rcases List.mem_cons.1 hp with rfl | hp
    · exact S74
    cases hp)) mixedOK (by kernel_rfl : Tryz.prog.funcs[73]? = some Tryz.f73) (by kernel_rfl) (by kernel_rfl : Tryz.f73.body = some body73) (by kernel_rfl) (by kernel_rfl)
    (fun x hw => by obtain ⟨k, hk⟩ := h73 x.1 hw; exact ⟨k, (ev73 s74 k x).trans hk⟩)
/-! ### jitney/base.Key -/
theorem S75 : SoundF Tryz.prog 75 (.fn (.cons .str .nil) (.cons .bool .nil) fun x => (s75 x.1, ())) :=
  fn_sound (E := fun k => mkEnv ts75 (fs75 )) (H := H75) (fun k => mkEnv_ok ty75 (fun p hp => by unfold fs75 at hp; cases hp)) mixedOK (by kernel_rfl : Tryz.prog.funcs[75]? = some Tryz.f75) (by kernel_rfl) (by kernel_rfl : Tryz.f75.body = some body75) (by kernel_rfl) (by kernel_rfl)
    (fun x hw => by obtain ⟨k, hk⟩ := h75 x.1 hw; exact ⟨k, (ev75  k x).trans hk⟩)
/-! ### jitney/fleet.servicesFault -/
theorem S84 : SoundF Tryz.prog 84 (.fn (.cons (.slice (.struct (.cons .str (.cons (.int .i64) (.cons (.int .i64) .nil))))) .nil) (.cons (.int .i64) .nil) fun x => (s84 x.1, ())) :=
  fn_sound (E := fun k => mkEnv ts84 (fs84 s74 s75)) (H := H84) (fun k => mkEnv_ok ty84 (fun p hp => by
    unfold fs84 at hp
    rcases List.mem_cons.1 hp with rfl | hp
    · exact S74
    rcases List.mem_cons.1 hp with rfl | hp
    · exact S75
    cases hp)) mixedOK (by kernel_rfl : Tryz.prog.funcs[84]? = some Tryz.f84) (by kernel_rfl) (by kernel_rfl : Tryz.f84.body = some body84) (by kernel_rfl) (by kernel_rfl)
    (fun x hw => by obtain ⟨k, hk⟩ := h84 x.1 hw; exact ⟨k, (ev84 s74 s75 k x).trans hk⟩)
/-! ### jitney/fleet.CheckTrips -/
theorem S85 : SoundF Tryz.prog 85 (.fn (.cons (.slice (.struct (.cons .str (.cons (.struct (.cons (.int .i64) (.cons (.int .i64) .nil))) (.cons (.int .i64) (.cons (.int .i64) .nil)))))) .nil) (.cons (.int .i64) .nil) fun x => (s85 x.1, ())) :=
  fn_sound (E := fun k => mkEnv ts85 (fs85 s74 s75)) (H := H85) (fun k => mkEnv_ok ty85 (fun p hp => by
    unfold fs85 at hp
    rcases List.mem_cons.1 hp with rfl | hp
    · exact S74
    rcases List.mem_cons.1 hp with rfl | hp
    · exact S75
    cases hp)) mixedOK (by kernel_rfl : Tryz.prog.funcs[85]? = some Tryz.f85) (by kernel_rfl) (by kernel_rfl : Tryz.f85.body = some body85) (by kernel_rfl) (by kernel_rfl)
    (fun x hw => by obtain ⟨k, hk⟩ := h85 x.1 hw; exact ⟨k, (ev85 s74 s75 k x).trans hk⟩)
/-! ### jitney/fleet.own -/
theorem S86 : SoundF Tryz.prog 86 (.pfn (.cons (.slice (.struct (.cons .str (.cons (.struct (.cons (.int .i64) (.cons (.int .i64) .nil))) (.cons (.int .i64) (.cons (.int .i64) .nil)))))) (.cons .str .nil)) (.cons (.slice (.struct (.cons .str (.cons (.struct (.cons (.int .i64) (.cons (.int .i64) .nil))) (.cons (.int .i64) (.cons (.int .i64) .nil)))))) .nil) fun x => s86 x.1 x.2.1) :=
  pfn_sound (E := fun k => mkEnv ts86 (fs86 )) (H := H86) (fun k => mkEnv_ok ty86 (fun p hp => by unfold fs86 at hp; cases hp)) mixedOK (by kernel_rfl : Tryz.prog.funcs[86]? = some Tryz.f86) (by kernel_rfl) (by kernel_rfl : Tryz.f86.body = some body86) (by kernel_rfl) (by kernel_rfl)
    (fun x y hw hy => by obtain ⟨k, hk⟩ := h86 x.1 x.2.1 y hw hy; exact ⟨k, (ev86  k x).trans hk⟩)
/-! ### jitney/fleet.Due -/
theorem S26 : SoundF Tryz.prog 26 (.pfn (.cons (.slice (.struct (.cons .str (.cons (.int .i64) (.cons (.int .i64) .nil))))) (.cons (.slice (.struct (.cons .str (.cons (.struct (.cons (.int .i64) (.cons (.int .i64) .nil))) (.cons (.int .i64) (.cons (.int .i64) .nil)))))) (.cons .str (.cons (.int .i64) (.cons (.int .i64) .nil))))) (.cons (.slice .str) (.cons (.int .i64) .nil)) fun x => s26 x.1 x.2.1 x.2.2.1 x.2.2.2.1 x.2.2.2.2.1) :=
  pfn_sound (E := fun k => mkEnv ts26 (fs26 s69 s73 s74 s75 s84 s85 s86)) (H := H26) (fun k => mkEnv_ok ty26 (fun p hp => by
    unfold fs26 at hp
    rcases List.mem_cons.1 hp with rfl | hp
    · exact S69
    rcases List.mem_cons.1 hp with rfl | hp
    · exact S73
    rcases List.mem_cons.1 hp with rfl | hp
    · exact S74
    rcases List.mem_cons.1 hp with rfl | hp
    · exact S75
    rcases List.mem_cons.1 hp with rfl | hp
    · exact S84
    rcases List.mem_cons.1 hp with rfl | hp
    · exact S85
    rcases List.mem_cons.1 hp with rfl | hp
    · exact S86
    cases hp)) mixedOK (by kernel_rfl : Tryz.prog.funcs[26]? = some Tryz.f26) (by kernel_rfl) (by kernel_rfl : Tryz.f26.body = some body26) (by kernel_rfl) (by kernel_rfl)
    (fun x y hw hy => by obtain ⟨k, hk⟩ := h26 x.1 x.2.1 x.2.2.1 x.2.2.2.1 x.2.2.2.2.1 y hw hy; exact ⟨k, (ev26 s69 s73 s74 s75 s84 s85 s86 k x).trans hk⟩)
set_option maxHeartbeats 2000000 in
theorem walk27 (a : Option Addr) (c : Nat) (w : World) : Calls Tryz.prog 27 #[.slice a 0 c] w fun e w' => ∃ a' c', e = .returned (.slice a' 0 c') ∧ c' ≤ 9223372036854775807 ∧ Keep None w w' := by
  have q : ∀ (w : World) (a : Option Addr) (n c n' c' : Nat), (binOp .eql 56 (.slice a n c) (.slice none n' c')).run Tryz.prog w = .ok (.bool a.isNone) w := fun w a n c n' c' => Lib.run_eql_slice_nil w _ _ a n c n' c' Tryz.underlying56
  cases a with
  | none =>
    go_enter Tryz.func27, Tryz.ntmps27
    go_wp2
    go_ret
    exact ⟨none, 0, rfl, by omega, Keep.refl _ _⟩
  | some a =>
    go_enter Tryz.func27, Tryz.ntmps27
    go_wp2
    go_ret
    exact ⟨_, _, rfl, by omega, Keep.alloc _ _ _ _⟩
theorem cl27 (xs : List (ByteArray × Int × Int × Unit)) (hne : xs ≠ []) (hl : xs.length ≤ 4294967296) : f27 0 xs = some (xs, ()) := by
  cases xs with
  | nil => exact absurd rfl hne
  | cons z l =>
    have h2 : decide (List.length ([] : List (ByteArray × Int × Int × Unit)) + List.length (z :: l) ≤ 4294967296) = true := by simpa using hl
    unfold f27
    rw [show Nat.ble (List.length (z :: l)) 0 = false from rfl, h2]
    rfl
theorem S27 : SoundF Tryz.prog 27 (.pfn (.cons (.slice (.struct (.cons .str (.cons (.int .i64) (.cons (.int .i64) .nil))))) .nil) (.cons (.slice (.struct (.cons .str (.cons (.int .i64) (.cons (.int .i64) .nil))))) .nil) fun x => s27 x.1) := by
  intro ρ args objs K r hr
  exact clone_sound (T := (.struct (.cons .str (.cons (.int .i64) (.cons (.int .i64) .nil))))) (g1 := fun x => f27 0 x.1) (pfn_sound (E := fun _ => mkEnv ts27 fs27) (H := H27) (fun _ => mkEnv_ok ty27 (fun p hp => by unfold fs27 at hp; cases hp)) mixedOK (by kernel_rfl : Tryz.prog.funcs[27]? = some Tryz.f27) (by kernel_rfl) (by kernel_rfl : Tryz.f27.body = some body27) (by kernel_rfl) (by kernel_rfl) (fun x y hw hy => ⟨0, (ev27 0 x).trans hy⟩)) (enters_of (by kernel_rfl : Tryz.prog.funcs[27]? = some Tryz.f27) (by kernel_rfl) (by kernel_rfl : Tryz.f27.body = some body27))
    (fun xs hne hl => cl27 xs hne hl) walk27 args objs K r hr
set_option maxHeartbeats 2000000 in
theorem walk28 (a : Option Addr) (c : Nat) (w : World) : Calls Tryz.prog 28 #[.slice a 0 c] w fun e w' => ∃ a' c', e = .returned (.slice a' 0 c') ∧ c' ≤ 9223372036854775807 ∧ Keep None w w' := by
  have q : ∀ (w : World) (a : Option Addr) (n c n' c' : Nat), (binOp .eql 57 (.slice a n c) (.slice none n' c')).run Tryz.prog w = .ok (.bool a.isNone) w := fun w a n c n' c' => Lib.run_eql_slice_nil w _ _ a n c n' c' Tryz.underlying57
  cases a with
  | none =>
    go_enter Tryz.func28, Tryz.ntmps28
    go_wp2
    go_ret
    exact ⟨none, 0, rfl, by omega, Keep.refl _ _⟩
  | some a =>
    go_enter Tryz.func28, Tryz.ntmps28
    go_wp2
    go_ret
    exact ⟨_, _, rfl, by omega, Keep.alloc _ _ _ _⟩
theorem cl28 (xs : List (ByteArray × (Int × Int × Unit) × Int × Int × Unit)) (hne : xs ≠ []) (hl : xs.length ≤ 4294967296) : f28 0 xs = some (xs, ()) := by
  cases xs with
  | nil => exact absurd rfl hne
  | cons z l =>
    have h2 : decide (List.length ([] : List (ByteArray × (Int × Int × Unit) × Int × Int × Unit)) + List.length (z :: l) ≤ 4294967296) = true := by simpa using hl
    unfold f28
    rw [show Nat.ble (List.length (z :: l)) 0 = false from rfl, h2]
    rfl
theorem S28 : SoundF Tryz.prog 28 (.pfn (.cons (.slice (.struct (.cons .str (.cons (.struct (.cons (.int .i64) (.cons (.int .i64) .nil))) (.cons (.int .i64) (.cons (.int .i64) .nil)))))) .nil) (.cons (.slice (.struct (.cons .str (.cons (.struct (.cons (.int .i64) (.cons (.int .i64) .nil))) (.cons (.int .i64) (.cons (.int .i64) .nil)))))) .nil) fun x => s28 x.1) := by
  intro ρ args objs K r hr
  exact clone_sound (T := (.struct (.cons .str (.cons (.struct (.cons (.int .i64) (.cons (.int .i64) .nil))) (.cons (.int .i64) (.cons (.int .i64) .nil)))))) (g1 := fun x => f28 0 x.1) (pfn_sound (E := fun _ => mkEnv ts28 fs28) (H := H28) (fun _ => mkEnv_ok ty28 (fun p hp => by unfold fs28 at hp; cases hp)) mixedOK (by kernel_rfl : Tryz.prog.funcs[28]? = some Tryz.f28) (by kernel_rfl) (by kernel_rfl : Tryz.f28.body = some body28) (by kernel_rfl) (by kernel_rfl) (fun x y hw hy => ⟨0, (ev28 0 x).trans hy⟩)) (enters_of (by kernel_rfl : Tryz.prog.funcs[28]? = some Tryz.f28) (by kernel_rfl) (by kernel_rfl : Tryz.f28.body = some body28))
    (fun xs hne hl => cl28 xs hne hl) walk28 args objs K r hr
/-! ### jitney/fleet.CheckVehicles -/
theorem S87 : SoundF Tryz.prog 87 (.fn (.cons (.slice (.struct (.cons .str (.cons (.int .i64) (.cons (.int .i64) (.cons (.int .i64) (.cons (.int .i64) .nil))))))) .nil) (.cons (.int .i64) .nil) fun x => (s87 x.1, ())) :=
  fn_sound (E := fun k => mkEnv ts87 (fs87 s74 s75)) (H := H87) (fun k => mkEnv_ok ty87 (fun p hp => by
    unfold fs87 at hp
    rcases List.mem_cons.1 hp with rfl | hp
    · exact S74
    rcases List.mem_cons.1 hp with rfl | hp
    · exact S75
    cases hp)) mixedOK (by kernel_rfl : Tryz.prog.funcs[87]? = some Tryz.f87) (by kernel_rfl) (by kernel_rfl : Tryz.f87.body = some body87) (by kernel_rfl) (by kernel_rfl)
    (fun x hw => by obtain ⟨k, hk⟩ := h87 x.1 hw; exact ⟨k, (ev87 s74 s75 k x).trans hk⟩)
/-! ### jitney/fleet.chargedFault -/
theorem S88 : SoundF Tryz.prog 88 (.fn (.cons (.slice (.struct (.cons .str (.cons .str (.cons (.int .i64) (.cons (.int .i64) (.cons (.int .i64) .nil))))))) .nil) (.cons (.int .i64) .nil) fun x => (s88 x.1, ())) :=
  fn_sound (E := fun k => mkEnv ts88 (fs88 s74 s75)) (H := H88) (fun k => mkEnv_ok ty88 (fun p hp => by
    unfold fs88 at hp
    rcases List.mem_cons.1 hp with rfl | hp
    · exact S74
    rcases List.mem_cons.1 hp with rfl | hp
    · exact S75
    cases hp)) mixedOK (by kernel_rfl : Tryz.prog.funcs[88]? = some Tryz.f88) (by kernel_rfl) (by kernel_rfl : Tryz.f88.body = some body88) (by kernel_rfl) (by kernel_rfl)
    (fun x hw => by obtain ⟨k, hk⟩ := h88 x.1 hw; exact ⟨k, (ev88 s74 s75 k x).trans hk⟩)
/-! ### jitney/fleet.busy -/
theorem SI92_141 (k : Nat) : SoundF Tryz.prog 141 (.ev (mkEnv tsi92_141 (fsi92_141  k)) Hi92_141 k bodyi92_141 23 [.tmp 4]) :=
  ev_inline (mkEnv_ok tyi92_141 (fun p hp => by unfold fsi92_141 at hp; cases hp)) mixedOK (by kernel_rfl : Tryz.prog.funcs[141]? = some Tryz.f141) (by kernel_rfl) (by kernel_rfl : Tryz.f141.body = some bodyi92_141) (by kernel_rfl) (by kernel_rfl)
theorem SI92_149 (k : Nat) : SoundF Tryz.prog 149 (.ev (mkEnv tsi92_149 (fsi92_149  k)) Hi92_149 k bodyi92_149 19 [.tmp 4]) :=
  ev_inline (mkEnv_ok tyi92_149 (fun p hp => by
    unfold fsi92_149 at hp
    rcases List.mem_cons.1 hp with rfl | hp
    · exact SI92_141 k
    cases hp)) mixedOK (by kernel_rfl : Tryz.prog.funcs[149]? = some Tryz.f149) (by kernel_rfl) (by kernel_rfl : Tryz.f149.body = some bodyi92_149) (by kernel_rfl) (by kernel_rfl)
theorem SI92_99 (k : Nat) : SoundF Tryz.prog 99 (.ev (mkEnv tsi92_99 (fsi92_99  k)) Hi92_99 k bodyi92_99 9 [.tmp 4]) :=
  ev_inline (mkEnv_ok tyi92_99 (fun p hp => by
    unfold fsi92_99 at hp
    rcases List.mem_cons.1 hp with rfl | hp
    · exact SI92_149 k
    cases hp)) mixedOK (by kernel_rfl : Tryz.prog.funcs[99]? = some Tryz.f99) (by kernel_rfl) (by kernel_rfl : Tryz.f99.body = some bodyi92_99) (by kernel_rfl) (by kernel_rfl)
theorem SI92_142 (k : Nat) : SoundF Tryz.prog 142 (.ev (mkEnv tsi92_142 (fsi92_142  k)) Hi92_142 k bodyi92_142 21 [.tmp 4]) :=
  ev_inline (mkEnv_ok tyi92_142 (fun p hp => by unfold fsi92_142 at hp; cases hp)) mixedOK (by kernel_rfl : Tryz.prog.funcs[142]? = some Tryz.f142) (by kernel_rfl) (by kernel_rfl : Tryz.f142.body = some bodyi92_142) (by kernel_rfl) (by kernel_rfl)
theorem SI92_150 (k : Nat) : SoundF Tryz.prog 150 (.ev (mkEnv tsi92_150 (fsi92_150  k)) Hi92_150 k bodyi92_150 19 [.tmp 4]) :=
  ev_inline (mkEnv_ok tyi92_150 (fun p hp => by
    unfold fsi92_150 at hp
    rcases List.mem_cons.1 hp with rfl | hp
    · exact SI92_142 k
    cases hp)) mixedOK (by kernel_rfl : Tryz.prog.funcs[150]? = some Tryz.f150) (by kernel_rfl) (by kernel_rfl : Tryz.f150.body = some bodyi92_150) (by kernel_rfl) (by kernel_rfl)
theorem SI92_101 (k : Nat) : SoundF Tryz.prog 101 (.ev (mkEnv tsi92_101 (fsi92_101  k)) Hi92_101 k bodyi92_101 9 [.tmp 4]) :=
  ev_inline (mkEnv_ok tyi92_101 (fun p hp => by
    unfold fsi92_101 at hp
    rcases List.mem_cons.1 hp with rfl | hp
    · exact SI92_150 k
    cases hp)) mixedOK (by kernel_rfl : Tryz.prog.funcs[101]? = some Tryz.f101) (by kernel_rfl) (by kernel_rfl : Tryz.f101.body = some bodyi92_101) (by kernel_rfl) (by kernel_rfl)
theorem S92 : SoundF Tryz.prog 92 (.fn (.cons .str (.cons (.slice (.struct (.cons .str (.cons (.struct (.cons (.int .i64) (.cons (.int .i64) .nil))) (.cons (.int .i64) (.cons (.int .i64) .nil)))))) (.cons (.slice (.struct (.cons .str (.cons .str (.cons (.int .i64) (.cons (.int .i64) (.cons (.int .i64) .nil))))))) (.cons (.int .i64) .nil)))) (.cons .bool .nil) fun x => (s92 x.1 x.2.1 x.2.2.1 x.2.2.2.1, ())) :=
  fn_sound (E := fun k => mkEnv ts92 (fs92  k)) (H := H92) (fun k => mkEnv_ok ty92 (fun p hp => by
    unfold fs92 at hp
    rcases List.mem_cons.1 hp with rfl | hp
    · exact SI92_99 k
    rcases List.mem_cons.1 hp with rfl | hp
    · exact SI92_101 k
    cases hp)) mixedOK (by kernel_rfl : Tryz.prog.funcs[92]? = some Tryz.f92) (by kernel_rfl) (by kernel_rfl : Tryz.f92.body = some body92) (by kernel_rfl) (by kernel_rfl)
    (fun x hw => by obtain ⟨k, hk⟩ := h92 x.1 x.2.1 x.2.2.1 x.2.2.2.1 hw; exact ⟨k, (ev92  k x).trans hk⟩)
/-! ### cmp.Or[int] -/
theorem S66 : SoundF Tryz.prog 66 (.fn (.cons (.slice (.int .i64)) .nil) (.cons (.int .i64) .nil) fun x => (s66 x.1, ())) :=
  fn_sound (E := fun k => mkEnv ts66 (fs66 )) (H := H66) (fun k => mkEnv_ok ty66 (fun p hp => by unfold fs66 at hp; cases hp)) mixedOK (by kernel_rfl : Tryz.prog.funcs[66]? = some Tryz.f66) (by kernel_rfl) (by kernel_rfl : Tryz.f66.body = some body66) (by kernel_rfl) (by kernel_rfl)
    (fun x hw => by obtain ⟨k, hk⟩ := h66 x.1 hw; exact ⟨k, (ev66  k x).trans hk⟩)
/-! ### cmp.isNaN[int] -/
theorem S132 : SoundF Tryz.prog 132 (.fn (.cons (.int .i64) .nil) (.cons .bool .nil) fun x => (s132 x.1, ())) :=
  fn_sound (E := fun k => mkEnv ts132 (fs132 )) (H := H132) (fun k => mkEnv_ok ty132 (fun p hp => by unfold fs132 at hp; cases hp)) mixedOK (by kernel_rfl : Tryz.prog.funcs[132]? = some Tryz.f132) (by kernel_rfl) (by kernel_rfl : Tryz.f132.body = some body132) (by kernel_rfl) (by kernel_rfl)
    (fun x hw => by obtain ⟨k, hk⟩ := h132 x.1 hw; exact ⟨k, (ev132  k x).trans hk⟩)
/-! ### cmp.Compare[int] -/
theorem S67 : SoundF Tryz.prog 67 (.fn (.cons (.int .i64) (.cons (.int .i64) .nil)) (.cons (.int .i64) .nil) fun x => (s67 x.1 x.2.1, ())) :=
  fn_sound (E := fun k => mkEnv ts67 (fs67 s132)) (H := H67) (fun k => mkEnv_ok ty67 (fun p hp => by
    unfold fs67 at hp
    rcases List.mem_cons.1 hp with rfl | hp
    · exact S132
    cases hp)) mixedOK (by kernel_rfl : Tryz.prog.funcs[67]? = some Tryz.f67) (by kernel_rfl) (by kernel_rfl : Tryz.f67.body = some body67) (by kernel_rfl) (by kernel_rfl)
    (fun x hw => by obtain ⟨k, hk⟩ := h67 x.1 x.2.1 hw; exact ⟨k, (ev67 s132 k x).trans hk⟩)
/-! ### jitney/fleet.turns$1 -/
theorem S213 : SoundF Tryz.prog 213 (.fn (.cons (.struct (.cons (.int .i64) (.cons (.int .i64) (.cons (.int .i64) .nil)))) (.cons (.struct (.cons (.int .i64) (.cons (.int .i64) (.cons (.int .i64) .nil)))) .nil)) (.cons (.int .i64) .nil) fun x => (s213 x.1 x.2.1, ())) :=
  fn_sound (E := fun k => mkEnv ts213 (fs213 s66 s67)) (H := H213) (fun k => mkEnv_ok ty213 (fun p hp => by
    unfold fs213 at hp
    rcases List.mem_cons.1 hp with rfl | hp
    · exact S66
    rcases List.mem_cons.1 hp with rfl | hp
    · exact S67
    cases hp)) mixedOK (by kernel_rfl : Tryz.prog.funcs[213]? = some Tryz.f213) (by kernel_rfl) (by kernel_rfl : Tryz.f213.body = some body213) (by kernel_rfl) (by kernel_rfl)
    (fun x hw => by obtain ⟨k, hk⟩ := h213 x.1 x.2.1 hw; exact ⟨k, (ev213 s66 s67 k x).trans hk⟩)
/-! ### jitney/fleet.turns -/
theorem S212 : SoundF Tryz.prog 212 (.rfn (.struct (.cons (.int .i64) (.cons (.int .i64) (.cons (.int .i64) .nil)))) .nil 213 fun xs a => s212 xs) := SF212 S213 W213
theorem S181 : SoundF Tryz.prog 181 (.pfn (.cons .str (.cons (.slice (.struct (.cons .str (.cons (.struct (.cons (.int .i64) (.cons (.int .i64) .nil))) (.cons (.int .i64) (.cons (.int .i64) .nil)))))) (.cons (.slice (.struct (.cons .str (.cons .str (.cons (.int .i64) (.cons (.int .i64) (.cons (.int .i64) .nil))))))) .nil))) (.cons (.slice (.struct (.cons (.int .i64) (.cons (.int .i64) (.cons (.int .i64) .nil))))) .nil) fun x => s181 x.1 x.2.1 x.2.2.1) :=
  pfn_sound (E := fun k => mkEnv ts181 (fs181 s86 s212)) (H := H181) (fun k => mkEnv_ok ty181 (fun p hp => by
    unfold fs181 at hp
    rcases List.mem_cons.1 hp with rfl | hp
    · exact S86
    rcases List.mem_cons.1 hp with rfl | hp
    · exact S212
    cases hp)) mixedOK (by kernel_rfl : Tryz.prog.funcs[181]? = some Tryz.f181) (by kernel_rfl) (by kernel_rfl : Tryz.f181.body = some body181) (by kernel_rfl) (by kernel_rfl)
    (fun x y hw hy => by obtain ⟨k, hk⟩ := h181 x.1 x.2.1 x.2.2.1 y hw hy; exact ⟨k, (ev181 s86 s212 k x).trans hk⟩)
/-! ### jitney/fleet.levelAt -/
theorem SI93_144 (k : Nat) : SoundF Tryz.prog 144 (.ev (mkEnv tsi93_144 (fsi93_144 s181 k)) Hi93_144 k bodyi93_144 4 []) :=
  ev_inline (mkEnv_ok tyi93_144 (fun p hp => by unfold fsi93_144 at hp; cases hp)) mixedOK (by kernel_rfl : Tryz.prog.funcs[144]? = some Tryz.f144) (by kernel_rfl) (by kernel_rfl : Tryz.f144.body = some bodyi93_144) (by kernel_rfl) (by kernel_rfl)
theorem SI93_143 (k : Nat) : SoundF Tryz.prog 143 (.ev (mkEnv tsi93_143 (fsi93_143 s181 k)) Hi93_143 k bodyi93_143 45 []) :=
  ev_inline (mkEnv_ok tyi93_143 (fun p hp => by
    unfold fsi93_143 at hp
    rcases List.mem_cons.1 hp with rfl | hp
    · exact SI93_144 k
    rcases List.mem_cons.1 hp with rfl | hp
    · exact S181
    cases hp)) mixedOK (by kernel_rfl : Tryz.prog.funcs[143]? = some Tryz.f143) (by kernel_rfl) (by kernel_rfl : Tryz.f143.body = some bodyi93_143) (by kernel_rfl) (by kernel_rfl)
theorem S93 : SoundF Tryz.prog 93 (.pfn (.cons .str (.cons (.slice (.struct (.cons .str (.cons (.struct (.cons (.int .i64) (.cons (.int .i64) .nil))) (.cons (.int .i64) (.cons (.int .i64) .nil)))))) (.cons (.slice (.struct (.cons .str (.cons .str (.cons (.int .i64) (.cons (.int .i64) (.cons (.int .i64) .nil))))))) (.cons (.int .i64) (.cons (.int .i64) .nil))))) (.cons (.int .i64) .nil) fun x => s93 x.1 x.2.1 x.2.2.1 x.2.2.2.1 x.2.2.2.2.1) :=
  pfn_sound (E := fun k => mkEnv ts93 (fs93 s181 k)) (H := H93) (fun k => mkEnv_ok ty93 (fun p hp => by
    unfold fs93 at hp
    rcases List.mem_cons.1 hp with rfl | hp
    · exact SI93_143 k
    cases hp)) mixedOK (by kernel_rfl : Tryz.prog.funcs[93]? = some Tryz.f93) (by kernel_rfl) (by kernel_rfl : Tryz.f93.body = some body93) (by kernel_rfl) (by kernel_rfl)
    (fun x y hw hy => by obtain ⟨k, hk⟩ := h93 x.1 x.2.1 x.2.2.1 x.2.2.2.1 x.2.2.2.2.1 y hw hy; exact ⟨k, (ev93 s181 k x).trans hk⟩)
/-! ### internal/stringslite.HasPrefix -/
theorem S206 : SoundF Tryz.prog 206 (.fn (.cons .str (.cons .str .nil)) (.cons .bool .nil) fun x => (s206 x.1 x.2.1, ())) :=
  fn_sound (E := fun k => mkEnv ts206 (fs206 )) (H := H206) (fun k => mkEnv_ok ty206 (fun p hp => by unfold fs206 at hp; cases hp)) mixedOK (by kernel_rfl : Tryz.prog.funcs[206]? = some Tryz.f206) (by kernel_rfl) (by kernel_rfl : Tryz.f206.body = some body206) (by kernel_rfl) (by kernel_rfl)
    (fun x hw => by obtain ⟨k, hk⟩ := h206 x.1 x.2.1 hw; exact ⟨k, (ev206  k x).trans hk⟩)
/-! ### internal/stringslite.TrimPrefix -/
theorem S183 : SoundF Tryz.prog 183 (.fn (.cons .str (.cons .str .nil)) (.cons .str .nil) fun x => (s183 x.1 x.2.1, ())) :=
  fn_sound (E := fun k => mkEnv ts183 (fs183 s206)) (H := H183) (fun k => mkEnv_ok ty183 (fun p hp => by
    unfold fs183 at hp
    rcases List.mem_cons.1 hp with rfl | hp
    · exact S206
    cases hp)) mixedOK (by kernel_rfl : Tryz.prog.funcs[183]? = some Tryz.f183) (by kernel_rfl) (by kernel_rfl : Tryz.f183.body = some body183) (by kernel_rfl) (by kernel_rfl)
    (fun x hw => by obtain ⟨k, hk⟩ := h183 x.1 x.2.1 hw; exact ⟨k, (ev183 s206 k x).trans hk⟩)
/-! ### strings.TrimPrefix -/
theorem S146 : SoundF Tryz.prog 146 (.fn (.cons .str (.cons .str .nil)) (.cons .str .nil) fun x => (s146 x.1 x.2.1, ())) :=
  fn_sound (E := fun k => mkEnv ts146 (fs146 s183)) (H := H146) (fun k => mkEnv_ok ty146 (fun p hp => by
    unfold fs146 at hp
    rcases List.mem_cons.1 hp with rfl | hp
    · exact S183
    cases hp)) mixedOK (by kernel_rfl : Tryz.prog.funcs[146]? = some Tryz.f146) (by kernel_rfl) (by kernel_rfl : Tryz.f146.body = some body146) (by kernel_rfl) (by kernel_rfl)
    (fun x hw => by obtain ⟨k, hk⟩ := h146 x.1 x.2.1 hw; exact ⟨k, (ev146 s183 k x).trans hk⟩)
/-! ### jitney/base.Number -/
theorem S139 : SoundF Tryz.prog 139 (.pfn (.cons .str (.cons (.int .i64) .nil)) (.cons (.int .i64) (.cons .bool .nil)) fun x => s139 x.1 x.2.1) :=
  pfn_sound (E := fun k => mkEnv ts139 (fs139 s146)) (H := H139) (fun k => mkEnv_ok ty139 (fun p hp => by
    unfold fs139 at hp
    rcases List.mem_cons.1 hp with rfl | hp
    · exact S146
    rcases List.mem_cons.1 hp with rfl | hp
    · exact S147
    cases hp)) mixedOK (by kernel_rfl : Tryz.prog.funcs[139]? = some Tryz.f139) (by kernel_rfl) (by kernel_rfl : Tryz.f139.body = some body139) (by kernel_rfl) (by kernel_rfl)
    (fun x y hw hy => by obtain ⟨k, hk⟩ := h139 x.1 x.2.1 y hw hy; exact ⟨k, (ev139 s146 k x).trans hk⟩)
/-! ### jitney/fleet.Ready -/
theorem SI29_89 (k : Nat) : SoundF Tryz.prog 89 (.ev (mkEnv tsi29_89 (fsi29_89 s69 s73 s74 s75 s85 s87 s88 s92 s93 s139 k)) Hi29_89 k bodyi29_89 54 [.tmp 2, .tmp 3]) :=
  ev_inline (mkEnv_ok tyi29_89 (fun p hp => by
    unfold fsi29_89 at hp
    rcases List.mem_cons.1 hp with rfl | hp
    · exact S74
    rcases List.mem_cons.1 hp with rfl | hp
    · exact S75
    rcases List.mem_cons.1 hp with rfl | hp
    · exact S139
    cases hp)) mixedOK (by kernel_rfl : Tryz.prog.funcs[89]? = some Tryz.f89) (by kernel_rfl) (by kernel_rfl : Tryz.f89.body = some bodyi29_89) (by kernel_rfl) (by kernel_rfl)
theorem SI29_91 (k : Nat) : SoundF Tryz.prog 91 (.ev (mkEnv tsi29_91 (fsi29_91 s69 s73 s74 s75 s85 s87 s88 s92 s93 s139 k)) Hi29_91 k bodyi29_91 11 [.tmp 3]) :=
  ev_inline (mkEnv_ok tyi29_91 (fun p hp => by unfold fsi29_91 at hp; cases hp)) mixedOK (by kernel_rfl : Tryz.prog.funcs[91]? = some Tryz.f91) (by kernel_rfl) (by kernel_rfl : Tryz.f91.body = some bodyi29_91) (by kernel_rfl) (by kernel_rfl)
theorem SI29_140 (k : Nat) : SoundF Tryz.prog 140 (.ev (mkEnv tsi29_140 (fsi29_140 s69 s73 s74 s75 s85 s87 s88 s92 s93 s139 k)) Hi29_140 k bodyi29_140 19 [.tmp 4]) :=
  ev_inline (mkEnv_ok tyi29_140 (fun p hp => by
    unfold fsi29_140 at hp
    rcases List.mem_cons.1 hp with rfl | hp
    · exact SI29_91 k
    cases hp)) mixedOK (by kernel_rfl : Tryz.prog.funcs[140]? = some Tryz.f140) (by kernel_rfl) (by kernel_rfl : Tryz.f140.body = some bodyi29_140) (by kernel_rfl) (by kernel_rfl)
theorem SI29_90 (k : Nat) : SoundF Tryz.prog 90 (.ev (mkEnv tsi29_90 (fsi29_90 s69 s73 s74 s75 s85 s87 s88 s92 s93 s139 k)) Hi29_90 k bodyi29_90 9 [.tmp 4]) :=
  ev_inline (mkEnv_ok tyi29_90 (fun p hp => by
    unfold fsi29_90 at hp
    rcases List.mem_cons.1 hp with rfl | hp
    · exact SI29_140 k
    cases hp)) mixedOK (by kernel_rfl : Tryz.prog.funcs[90]? = some Tryz.f90) (by kernel_rfl) (by kernel_rfl : Tryz.f90.body = some bodyi29_90) (by kernel_rfl) (by kernel_rfl)
theorem S29 : SoundF Tryz.prog 29 (.pfn (.cons (.slice (.struct (.cons .str (.cons (.int .i64) (.cons (.int .i64) (.cons (.int .i64) (.cons (.int .i64) .nil))))))) (.cons (.slice (.struct (.cons .str (.cons (.struct (.cons (.int .i64) (.cons (.int .i64) .nil))) (.cons (.int .i64) (.cons (.int .i64) .nil)))))) (.cons (.slice (.struct (.cons .str (.cons .str (.cons (.int .i64) (.cons (.int .i64) (.cons (.int .i64) .nil))))))) (.cons (.slice (.struct (.cons .str (.cons .str .nil)))) (.cons (.int .i64) (.cons (.int .i64) .nil)))))) (.cons (.slice .str) (.cons (.int .i64) .nil)) fun x => s29 x.1 x.2.1 x.2.2.1 x.2.2.2.1 x.2.2.2.2.1 x.2.2.2.2.2.1) :=
  pfn_sound (E := fun k => mkEnv ts29 (fs29 s69 s73 s74 s75 s85 s87 s88 s92 s93 s139 k)) (H := H29) (fun k => mkEnv_ok ty29 (fun p hp => by
    unfold fs29 at hp
    rcases List.mem_cons.1 hp with rfl | hp
    · exact S69
    rcases List.mem_cons.1 hp with rfl | hp
    · exact S73
    rcases List.mem_cons.1 hp with rfl | hp
    · exact S74
    rcases List.mem_cons.1 hp with rfl | hp
    · exact S85
    rcases List.mem_cons.1 hp with rfl | hp
    · exact S87
    rcases List.mem_cons.1 hp with rfl | hp
    · exact S88
    rcases List.mem_cons.1 hp with rfl | hp
    · exact SI29_89 k
    rcases List.mem_cons.1 hp with rfl | hp
    · exact SI29_90 k
    rcases List.mem_cons.1 hp with rfl | hp
    · exact S92
    rcases List.mem_cons.1 hp with rfl | hp
    · exact S93
    cases hp)) mixedOK (by kernel_rfl : Tryz.prog.funcs[29]? = some Tryz.f29) (by kernel_rfl) (by kernel_rfl : Tryz.f29.body = some body29) (by kernel_rfl) (by kernel_rfl)
    (fun x y hw hy => by obtain ⟨k, hk⟩ := h29 x.1 x.2.1 x.2.2.1 x.2.2.2.1 x.2.2.2.2.1 x.2.2.2.2.2.1 y hw hy; exact ⟨k, (ev29 s69 s73 s74 s75 s85 s87 s88 s92 s93 s139 k x).trans hk⟩)
set_option maxHeartbeats 2000000 in
theorem walk30 (a : Option Addr) (c : Nat) (w : World) : Calls Tryz.prog 30 #[.slice a 0 c] w fun e w' => ∃ a' c', e = .returned (.slice a' 0 c') ∧ c' ≤ 9223372036854775807 ∧ Keep None w w' := by
  have q : ∀ (w : World) (a : Option Addr) (n c n' c' : Nat), (binOp .eql 55 (.slice a n c) (.slice none n' c')).run Tryz.prog w = .ok (.bool a.isNone) w := fun w a n c n' c' => Lib.run_eql_slice_nil w _ _ a n c n' c' Tryz.underlying55
  cases a with
  | none =>
    go_enter Tryz.func30, Tryz.ntmps30
    go_wp2
    go_ret
    exact ⟨none, 0, rfl, by omega, Keep.refl _ _⟩
  | some a =>
    go_enter Tryz.func30, Tryz.ntmps30
    go_wp2
    go_ret
    exact ⟨_, _, rfl, by omega, Keep.alloc _ _ _ _⟩
theorem cl30 (xs : List (ByteArray × Int × Int × Int × Int × Unit)) (hne : xs ≠ []) (hl : xs.length ≤ 4294967296) : f30 0 xs = some (xs, ()) := by
  cases xs with
  | nil => exact absurd rfl hne
  | cons z l =>
    have h2 : decide (List.length ([] : List (ByteArray × Int × Int × Int × Int × Unit)) + List.length (z :: l) ≤ 4294967296) = true := by simpa using hl
    unfold f30
    rw [show Nat.ble (List.length (z :: l)) 0 = false from rfl, h2]
    rfl
theorem S30 : SoundF Tryz.prog 30 (.pfn (.cons (.slice (.struct (.cons .str (.cons (.int .i64) (.cons (.int .i64) (.cons (.int .i64) (.cons (.int .i64) .nil))))))) .nil) (.cons (.slice (.struct (.cons .str (.cons (.int .i64) (.cons (.int .i64) (.cons (.int .i64) (.cons (.int .i64) .nil))))))) .nil) fun x => s30 x.1) := by
  intro ρ args objs K r hr
  exact clone_sound (T := (.struct (.cons .str (.cons (.int .i64) (.cons (.int .i64) (.cons (.int .i64) (.cons (.int .i64) .nil))))))) (g1 := fun x => f30 0 x.1) (pfn_sound (E := fun _ => mkEnv ts30 fs30) (H := H30) (fun _ => mkEnv_ok ty30 (fun p hp => by unfold fs30 at hp; cases hp)) mixedOK (by kernel_rfl : Tryz.prog.funcs[30]? = some Tryz.f30) (by kernel_rfl) (by kernel_rfl : Tryz.f30.body = some body30) (by kernel_rfl) (by kernel_rfl) (fun x y hw hy => ⟨0, (ev30 0 x).trans hy⟩)) (enters_of (by kernel_rfl : Tryz.prog.funcs[30]? = some Tryz.f30) (by kernel_rfl) (by kernel_rfl : Tryz.f30.body = some body30))
    (fun xs hne hl => cl30 xs hne hl) walk30 args objs K r hr
set_option maxHeartbeats 2000000 in
theorem walk31 (a : Option Addr) (c : Nat) (w : World) : Calls Tryz.prog 31 #[.slice a 0 c] w fun e w' => ∃ a' c', e = .returned (.slice a' 0 c') ∧ c' ≤ 9223372036854775807 ∧ Keep None w w' := by
  have q : ∀ (w : World) (a : Option Addr) (n c n' c' : Nat), (binOp .eql 58 (.slice a n c) (.slice none n' c')).run Tryz.prog w = .ok (.bool a.isNone) w := fun w a n c n' c' => Lib.run_eql_slice_nil w _ _ a n c n' c' Tryz.underlying58
  cases a with
  | none =>
    go_enter Tryz.func31, Tryz.ntmps31
    go_wp2
    go_ret
    exact ⟨none, 0, rfl, by omega, Keep.refl _ _⟩
  | some a =>
    go_enter Tryz.func31, Tryz.ntmps31
    go_wp2
    go_ret
    exact ⟨_, _, rfl, by omega, Keep.alloc _ _ _ _⟩
theorem cl31 (xs : List (ByteArray × ByteArray × Int × Int × Int × Unit)) (hne : xs ≠ []) (hl : xs.length ≤ 4294967296) : f31 0 xs = some (xs, ()) := by
  cases xs with
  | nil => exact absurd rfl hne
  | cons z l =>
    have h2 : decide (List.length ([] : List (ByteArray × ByteArray × Int × Int × Int × Unit)) + List.length (z :: l) ≤ 4294967296) = true := by simpa using hl
    unfold f31
    rw [show Nat.ble (List.length (z :: l)) 0 = false from rfl, h2]
    rfl
theorem S31 : SoundF Tryz.prog 31 (.pfn (.cons (.slice (.struct (.cons .str (.cons .str (.cons (.int .i64) (.cons (.int .i64) (.cons (.int .i64) .nil))))))) .nil) (.cons (.slice (.struct (.cons .str (.cons .str (.cons (.int .i64) (.cons (.int .i64) (.cons (.int .i64) .nil))))))) .nil) fun x => s31 x.1) := by
  intro ρ args objs K r hr
  exact clone_sound (T := (.struct (.cons .str (.cons .str (.cons (.int .i64) (.cons (.int .i64) (.cons (.int .i64) .nil))))))) (g1 := fun x => f31 0 x.1) (pfn_sound (E := fun _ => mkEnv ts31 fs31) (H := H31) (fun _ => mkEnv_ok ty31 (fun p hp => by unfold fs31 at hp; cases hp)) mixedOK (by kernel_rfl : Tryz.prog.funcs[31]? = some Tryz.f31) (by kernel_rfl) (by kernel_rfl : Tryz.f31.body = some body31) (by kernel_rfl) (by kernel_rfl) (fun x y hw hy => ⟨0, (ev31 0 x).trans hy⟩)) (enters_of (by kernel_rfl : Tryz.prog.funcs[31]? = some Tryz.f31) (by kernel_rfl) (by kernel_rfl : Tryz.f31.body = some body31))
    (fun xs hne hl => cl31 xs hne hl) walk31 args objs K r hr
set_option maxHeartbeats 2000000 in
theorem walk32 (a : Option Addr) (c : Nat) (w : World) : Calls Tryz.prog 32 #[.slice a 0 c] w fun e w' => ∃ a' c', e = .returned (.slice a' 0 c') ∧ c' ≤ 9223372036854775807 ∧ Keep None w w' := by
  have q : ∀ (w : World) (a : Option Addr) (n c n' c' : Nat), (binOp .eql 59 (.slice a n c) (.slice none n' c')).run Tryz.prog w = .ok (.bool a.isNone) w := fun w a n c n' c' => Lib.run_eql_slice_nil w _ _ a n c n' c' Tryz.underlying59
  cases a with
  | none =>
    go_enter Tryz.func32, Tryz.ntmps32
    go_wp2
    go_ret
    exact ⟨none, 0, rfl, by omega, Keep.refl _ _⟩
  | some a =>
    go_enter Tryz.func32, Tryz.ntmps32
    go_wp2
    go_ret
    exact ⟨_, _, rfl, by omega, Keep.alloc _ _ _ _⟩
theorem cl32 (xs : List (ByteArray × ByteArray × Unit)) (hne : xs ≠ []) (hl : xs.length ≤ 4294967296) : f32 0 xs = some (xs, ()) := by
  cases xs with
  | nil => exact absurd rfl hne
  | cons z l =>
    have h2 : decide (List.length ([] : List (ByteArray × ByteArray × Unit)) + List.length (z :: l) ≤ 4294967296) = true := by simpa using hl
    unfold f32
    rw [show Nat.ble (List.length (z :: l)) 0 = false from rfl, h2]
    rfl
theorem S32 : SoundF Tryz.prog 32 (.pfn (.cons (.slice (.struct (.cons .str (.cons .str .nil)))) .nil) (.cons (.slice (.struct (.cons .str (.cons .str .nil)))) .nil) fun x => s32 x.1) := by
  intro ρ args objs K r hr
  exact clone_sound (T := (.struct (.cons .str (.cons .str .nil)))) (g1 := fun x => f32 0 x.1) (pfn_sound (E := fun _ => mkEnv ts32 fs32) (H := H32) (fun _ => mkEnv_ok ty32 (fun p hp => by unfold fs32 at hp; cases hp)) mixedOK (by kernel_rfl : Tryz.prog.funcs[32]? = some Tryz.f32) (by kernel_rfl) (by kernel_rfl : Tryz.f32.body = some body32) (by kernel_rfl) (by kernel_rfl) (fun x y hw hy => ⟨0, (ev32 0 x).trans hy⟩)) (enters_of (by kernel_rfl : Tryz.prog.funcs[32]? = some Tryz.f32) (by kernel_rfl) (by kernel_rfl : Tryz.f32.body = some body32))
    (fun xs hne hl => cl32 xs hne hl) walk32 args objs K r hr
/-! ### jitney/jitref2.in -/
theorem S71 : SoundF Tryz.prog 71 (.fn (.cons (.int .i64) (.cons (.int .i64) (.cons (.int .i64) .nil))) (.cons .bool .nil) fun x => (s71 x.1 x.2.1 x.2.2.1, ())) :=
  fn_sound (E := fun k => mkEnv ts71 (fs71 )) (H := H71) (fun k => mkEnv_ok ty71 (fun p hp => by unfold fs71 at hp; cases hp)) mixedOK (by kernel_rfl : Tryz.prog.funcs[71]? = some Tryz.f71) (by kernel_rfl) (by kernel_rfl : Tryz.f71.body = some body71) (by kernel_rfl) (by kernel_rfl)
    (fun x hw => by obtain ⟨k, hk⟩ := h71 x.1 x.2.1 x.2.2.1 hw; exact ⟨k, (ev71  k x).trans hk⟩)
/-! ### strings.IndexByte -/
theorem S145 : SoundF Tryz.prog 145 (.fn (.cons .str (.cons (.int .u8) .nil)) (.cons (.int .i64) .nil) fun x => (s145 x.1 x.2.1, ())) :=
  fn_sound (E := fun k => mkEnv ts145 (fs145 s182)) (H := H145) (fun k => mkEnv_ok ty145 (fun p hp => by
    unfold fs145 at hp
    rcases List.mem_cons.1 hp with rfl | hp
    · exact S182
    cases hp)) mixedOK (by kernel_rfl : Tryz.prog.funcs[145]? = some Tryz.f145) (by kernel_rfl) (by kernel_rfl : Tryz.f145.body = some body145) (by kernel_rfl) (by kernel_rfl)
    (fun x hw => by obtain ⟨k, hk⟩ := h145 x.1 x.2.1 hw; exact ⟨k, (ev145 s182 k x).trans hk⟩)
/-! ### jitney/jitref2.only -/
theorem S94 : SoundF Tryz.prog 94 (.fn (.cons .str (.cons .str .nil)) (.cons .bool .nil) fun x => (s94 x.1 x.2.1, ())) :=
  fn_sound (E := fun k => mkEnv ts94 (fs94 s145)) (H := H94) (fun k => mkEnv_ok ty94 (fun p hp => by
    unfold fs94 at hp
    rcases List.mem_cons.1 hp with rfl | hp
    · exact S145
    cases hp)) mixedOK (by kernel_rfl : Tryz.prog.funcs[94]? = some Tryz.f94) (by kernel_rfl) (by kernel_rfl : Tryz.f94.body = some body94) (by kernel_rfl) (by kernel_rfl)
    (fun x hw => by obtain ⟨k, hk⟩ := h94 x.1 x.2.1 hw; exact ⟨k, (ev94 s145 k x).trans hk⟩)
/-! ### jitney/jitref2.Key -/
theorem S36 : SoundF Tryz.prog 36 (.fn (.cons .str .nil) (.cons .bool .nil) fun x => (s36 x.1, ())) :=
  fn_sound (E := fun k => mkEnv ts36 (fs36 s71 s94)) (H := H36) (fun k => mkEnv_ok ty36 (fun p hp => by
    unfold fs36 at hp
    rcases List.mem_cons.1 hp with rfl | hp
    · exact S71
    rcases List.mem_cons.1 hp with rfl | hp
    · exact S94
    cases hp)) mixedOK (by kernel_rfl : Tryz.prog.funcs[36]? = some Tryz.f36) (by kernel_rfl) (by kernel_rfl : Tryz.f36.body = some body36) (by kernel_rfl) (by kernel_rfl)
    (fun x hw => by obtain ⟨k, hk⟩ := h36 x.1 hw; exact ⟨k, (ev36 s71 s94 k x).trans hk⟩)
/-! ### jitney/jitref2.ServicesFault -/
theorem S33 : SoundF Tryz.prog 33 (.fn (.cons (.slice (.struct (.cons .str (.cons (.int .i64) (.cons (.int .i64) .nil))))) .nil) (.cons (.int .i64) .nil) fun x => (s33 x.1, ())) :=
  fn_sound (E := fun k => mkEnv ts33 (fs33 s36 s71)) (H := H33) (fun k => mkEnv_ok ty33 (fun p hp => by
    unfold fs33 at hp
    rcases List.mem_cons.1 hp with rfl | hp
    · exact S36
    rcases List.mem_cons.1 hp with rfl | hp
    · exact S71
    cases hp)) mixedOK (by kernel_rfl : Tryz.prog.funcs[33]? = some Tryz.f33) (by kernel_rfl) (by kernel_rfl : Tryz.f33.body = some body33) (by kernel_rfl) (by kernel_rfl)
    (fun x hw => by obtain ⟨k, hk⟩ := h33 x.1 hw; exact ⟨k, (ev33 s36 s71 k x).trans hk⟩)
/-! ### jitney/jitref2.RunsFault -/
theorem S34 : SoundF Tryz.prog 34 (.fn (.cons (.slice (.struct (.cons .str (.cons (.struct (.cons (.int .i64) (.cons (.int .i64) .nil))) (.cons (.int .i64) (.cons (.int .i64) .nil)))))) .nil) (.cons (.int .i64) .nil) fun x => (s34 x.1, ())) :=
  fn_sound (E := fun k => mkEnv ts34 (fs34 s36 s71)) (H := H34) (fun k => mkEnv_ok ty34 (fun p hp => by
    unfold fs34 at hp
    rcases List.mem_cons.1 hp with rfl | hp
    · exact S36
    rcases List.mem_cons.1 hp with rfl | hp
    · exact S71
    cases hp)) mixedOK (by kernel_rfl : Tryz.prog.funcs[34]? = some Tryz.f34) (by kernel_rfl) (by kernel_rfl : Tryz.f34.body = some body34) (by kernel_rfl) (by kernel_rfl)
    (fun x hw => by obtain ⟨k, hk⟩ := h34 x.1 hw; exact ⟨k, (ev34 s36 s71 k x).trans hk⟩)
/-! ### jitney/jitlaw2.when -/
theorem S35 : SoundF Tryz.prog 35 (.fn (.cons .bool (.cons (.int .i64) .nil)) (.cons (.int .i64) .nil) fun x => (s35 x.1 x.2.1, ())) :=
  fn_sound (E := fun k => mkEnv ts35 (fs35 )) (H := H35) (fun k => mkEnv_ok ty35 (fun p hp => by unfold fs35 at hp; cases hp)) mixedOK (by kernel_rfl : Tryz.prog.funcs[35]? = some Tryz.f35) (by kernel_rfl) (by kernel_rfl : Tryz.f35.body = some body35) (by kernel_rfl) (by kernel_rfl)
    (fun x hw => by obtain ⟨k, hk⟩ := h35 x.1 x.2.1 hw; exact ⟨k, (ev35  k x).trans hk⟩)
/-! ### jitney/jitref2.Moment -/
theorem S37 : SoundF Tryz.prog 37 (.fn (.cons (.int .i64) .nil) (.cons .bool .nil) fun x => (s37 x.1, ())) :=
  fn_sound (E := fun k => mkEnv ts37 (fs37 s71)) (H := H37) (fun k => mkEnv_ok ty37 (fun p hp => by
    unfold fs37 at hp
    rcases List.mem_cons.1 hp with rfl | hp
    · exact S71
    cases hp)) mixedOK (by kernel_rfl : Tryz.prog.funcs[37]? = some Tryz.f37) (by kernel_rfl) (by kernel_rfl : Tryz.f37.body = some body37) (by kernel_rfl) (by kernel_rfl)
    (fun x hw => by obtain ⟨k, hk⟩ := h37 x.1 hw; exact ⟨k, (ev37 s71 k x).trans hk⟩)
/-! ### jitney/jitref2.VehiclesFault -/
theorem S38 : SoundF Tryz.prog 38 (.fn (.cons (.slice (.struct (.cons .str (.cons (.int .i64) (.cons (.int .i64) (.cons (.int .i64) (.cons (.int .i64) .nil))))))) .nil) (.cons (.int .i64) .nil) fun x => (s38 x.1, ())) :=
  fn_sound (E := fun k => mkEnv ts38 (fs38 s36 s71)) (H := H38) (fun k => mkEnv_ok ty38 (fun p hp => by
    unfold fs38 at hp
    rcases List.mem_cons.1 hp with rfl | hp
    · exact S36
    rcases List.mem_cons.1 hp with rfl | hp
    · exact S71
    cases hp)) mixedOK (by kernel_rfl : Tryz.prog.funcs[38]? = some Tryz.f38) (by kernel_rfl) (by kernel_rfl : Tryz.f38.body = some body38) (by kernel_rfl) (by kernel_rfl)
    (fun x hw => by obtain ⟨k, hk⟩ := h38 x.1 hw; exact ⟨k, (ev38 s36 s71 k x).trans hk⟩)
/-! ### jitney/jitref2.ChargedFault -/
theorem S39 : SoundF Tryz.prog 39 (.fn (.cons (.slice (.struct (.cons .str (.cons .str (.cons (.int .i64) (.cons (.int .i64) (.cons (.int .i64) .nil))))))) .nil) (.cons (.int .i64) .nil) fun x => (s39 x.1, ())) :=
  fn_sound (E := fun k => mkEnv ts39 (fs39 s36 s71)) (H := H39) (fun k => mkEnv_ok ty39 (fun p hp => by
    unfold fs39 at hp
    rcases List.mem_cons.1 hp with rfl | hp
    · exact S36
    rcases List.mem_cons.1 hp with rfl | hp
    · exact S71
    cases hp)) mixedOK (by kernel_rfl : Tryz.prog.funcs[39]? = some Tryz.f39) (by kernel_rfl) (by kernel_rfl : Tryz.f39.body = some body39) (by kernel_rfl) (by kernel_rfl)
    (fun x hw => by obtain ⟨k, hk⟩ := h39 x.1 hw; exact ⟨k, (ev39 s36 s71 k x).trans hk⟩)
/-! ### strconv.Itoa -/
theorem S107 : SoundF Tryz.prog 107 (.pfn (.cons (.int .i64) .nil) (.cons .str .nil) fun x => s107 x.1) :=
  pfn_sound (E := fun k => mkEnv ts107 (fs107 s155)) (H := H107) (fun k => mkEnv_ok ty107 (fun p hp => by
    unfold fs107 at hp
    rcases List.mem_cons.1 hp with rfl | hp
    · exact S155
    cases hp)) mixedOK (by kernel_rfl : Tryz.prog.funcs[107]? = some Tryz.f107) (by kernel_rfl) (by kernel_rfl : Tryz.f107.body = some body107) (by kernel_rfl) (by kernel_rfl)
    (fun x y hw hy => by obtain ⟨k, hk⟩ := h107 x.1 y hw hy; exact ⟨k, (ev107 s155 k x).trans hk⟩)
/-! ### jitney/jitref2.Number -/
theorem S95 : SoundF Tryz.prog 95 (.pfn (.cons .str (.cons (.int .i64) .nil)) (.cons (.int .i64) (.cons .bool .nil)) fun x => s95 x.1 x.2.1) :=
  pfn_sound (E := fun k => mkEnv ts95 (fs95 s94 s107 s146)) (H := H95) (fun k => mkEnv_ok ty95 (fun p hp => by
    unfold fs95 at hp
    rcases List.mem_cons.1 hp with rfl | hp
    · exact S94
    rcases List.mem_cons.1 hp with rfl | hp
    · exact S107
    rcases List.mem_cons.1 hp with rfl | hp
    · exact S146
    rcases List.mem_cons.1 hp with rfl | hp
    · exact S147
    cases hp)) mixedOK (by kernel_rfl : Tryz.prog.funcs[95]? = some Tryz.f95) (by kernel_rfl) (by kernel_rfl : Tryz.f95.body = some body95) (by kernel_rfl) (by kernel_rfl)
    (fun x y hw hy => by obtain ⟨k, hk⟩ := h95 x.1 x.2.1 y hw hy; exact ⟨k, (ev95 s94 s107 s146 k x).trans hk⟩)
/-! ### jitney/jitref2.LevelsFault -/
theorem SI40_97 (k : Nat) : SoundF Tryz.prog 97 (.ev (mkEnv tsi40_97 (fsi40_97 s36 s71 s95 k)) Hi40_97 k bodyi40_97 9 [.tmp 3]) :=
  ev_inline (mkEnv_ok tyi40_97 (fun p hp => by unfold fsi40_97 at hp; cases hp)) mixedOK (by kernel_rfl : Tryz.prog.funcs[97]? = some Tryz.f97) (by kernel_rfl) (by kernel_rfl : Tryz.f97.body = some bodyi40_97) (by kernel_rfl) (by kernel_rfl)
theorem SI40_148 (k : Nat) : SoundF Tryz.prog 148 (.ev (mkEnv tsi40_148 (fsi40_148 s36 s71 s95 k)) Hi40_148 k bodyi40_148 19 [.tmp 4]) :=
  ev_inline (mkEnv_ok tyi40_148 (fun p hp => by
    unfold fsi40_148 at hp
    rcases List.mem_cons.1 hp with rfl | hp
    · exact SI40_97 k
    cases hp)) mixedOK (by kernel_rfl : Tryz.prog.funcs[148]? = some Tryz.f148) (by kernel_rfl) (by kernel_rfl : Tryz.f148.body = some bodyi40_148) (by kernel_rfl) (by kernel_rfl)
theorem SI40_96 (k : Nat) : SoundF Tryz.prog 96 (.ev (mkEnv tsi40_96 (fsi40_96 s36 s71 s95 k)) Hi40_96 k bodyi40_96 9 [.tmp 4]) :=
  ev_inline (mkEnv_ok tyi40_96 (fun p hp => by
    unfold fsi40_96 at hp
    rcases List.mem_cons.1 hp with rfl | hp
    · exact SI40_148 k
    cases hp)) mixedOK (by kernel_rfl : Tryz.prog.funcs[96]? = some Tryz.f96) (by kernel_rfl) (by kernel_rfl : Tryz.f96.body = some bodyi40_96) (by kernel_rfl) (by kernel_rfl)
theorem S40 : SoundF Tryz.prog 40 (.pfn (.cons (.slice (.struct (.cons .str (.cons .str .nil)))) .nil) (.cons (.int .i64) .nil) fun x => s40 x.1) :=
  pfn_sound (E := fun k => mkEnv ts40 (fs40 s36 s71 s95 k)) (H := H40) (fun k => mkEnv_ok ty40 (fun p hp => by
    unfold fs40 at hp
    rcases List.mem_cons.1 hp with rfl | hp
    · exact S36
    rcases List.mem_cons.1 hp with rfl | hp
    · exact S71
    rcases List.mem_cons.1 hp with rfl | hp
    · exact S95
    rcases List.mem_cons.1 hp with rfl | hp
    · exact SI40_96 k
    cases hp)) mixedOK (by kernel_rfl : Tryz.prog.funcs[40]? = some Tryz.f40) (by kernel_rfl) (by kernel_rfl : Tryz.f40.body = some body40) (by kernel_rfl) (by kernel_rfl)
    (fun x y hw hy => by obtain ⟨k, hk⟩ := h40 x.1 y hw hy; exact ⟨k, (ev40 s36 s71 s95 k x).trans hk⟩)
/-! ### jitney/jitlaw2.momentFault -/
theorem S41 : SoundF Tryz.prog 41 (.fn (.cons (.int .i64) .nil) (.cons (.int .i64) .nil) fun x => (s41 x.1, ())) :=
  fn_sound (E := fun k => mkEnv ts41 (fs41 s35 s37)) (H := H41) (fun k => mkEnv_ok ty41 (fun p hp => by
    unfold fs41 at hp
    rcases List.mem_cons.1 hp with rfl | hp
    · exact S35
    rcases List.mem_cons.1 hp with rfl | hp
    · exact S37
    cases hp)) mixedOK (by kernel_rfl : Tryz.prog.funcs[41]? = some Tryz.f41) (by kernel_rfl) (by kernel_rfl : Tryz.f41.body = some body41) (by kernel_rfl) (by kernel_rfl)
    (fun x hw => by obtain ⟨k, hk⟩ := h41 x.1 hw; exact ⟨k, (ev41 s35 s37 k x).trans hk⟩)
/-! ### jitney/jitref2.levelOf -/
theorem S98 : SoundF Tryz.prog 98 (.pfn (.cons (.slice (.struct (.cons .str (.cons .str .nil)))) (.cons .str .nil)) (.cons (.int .i64) .nil) fun x => s98 x.1 x.2.1) :=
  pfn_sound (E := fun k => mkEnv ts98 (fs98 )) (H := H98) (fun k => mkEnv_ok ty98 (fun p hp => by
    unfold fs98 at hp
    rcases List.mem_cons.1 hp with rfl | hp
    · exact S147
    cases hp)) mixedOK (by kernel_rfl : Tryz.prog.funcs[98]? = some Tryz.f98) (by kernel_rfl) (by kernel_rfl : Tryz.f98.body = some body98) (by kernel_rfl) (by kernel_rfl)
    (fun x y hw hy => by obtain ⟨k, hk⟩ := h98 x.1 x.2.1 y hw hy; exact ⟨k, (ev98  k x).trans hk⟩)
/-! ### jitney/jitref2.StartFault -/
theorem S42 : SoundF Tryz.prog 42 (.pfn (.cons (.slice (.struct (.cons .str (.cons (.int .i64) (.cons (.int .i64) (.cons (.int .i64) (.cons (.int .i64) .nil))))))) (.cons (.slice (.struct (.cons .str (.cons .str .nil)))) .nil)) (.cons (.int .i64) .nil) fun x => s42 x.1 x.2.1) :=
  pfn_sound (E := fun k => mkEnv ts42 (fs42 s98)) (H := H42) (fun k => mkEnv_ok ty42 (fun p hp => by
    unfold fs42 at hp
    rcases List.mem_cons.1 hp with rfl | hp
    · exact S98
    cases hp)) mixedOK (by kernel_rfl : Tryz.prog.funcs[42]? = some Tryz.f42) (by kernel_rfl) (by kernel_rfl : Tryz.f42.body = some body42) (by kernel_rfl) (by kernel_rfl)
    (fun x y hw hy => by obtain ⟨k, hk⟩ := h42 x.1 x.2.1 y hw hy; exact ⟨k, (ev42 s98 k x).trans hk⟩)
/-! ### jitney/jitref2.DueOf -/
theorem S43 : SoundF Tryz.prog 43 (.pfn (.cons (.slice (.struct (.cons .str (.cons (.int .i64) (.cons (.int .i64) .nil))))) (.cons (.slice (.struct (.cons .str (.cons (.struct (.cons (.int .i64) (.cons (.int .i64) .nil))) (.cons (.int .i64) (.cons (.int .i64) .nil)))))) (.cons .str (.cons (.int .i64) (.cons (.int .i64) .nil))))) (.cons (.slice .str) .nil) fun x => s43 x.1 x.2.1 x.2.2.1 x.2.2.2.1 x.2.2.2.2.1) :=
  pfn_sound (E := fun k => mkEnv ts43 (fs43 )) (H := H43) (fun k => mkEnv_ok ty43 (fun p hp => by unfold fs43 at hp; cases hp)) mixedOK (by kernel_rfl : Tryz.prog.funcs[43]? = some Tryz.f43) (by kernel_rfl) (by kernel_rfl : Tryz.f43.body = some body43) (by kernel_rfl) (by kernel_rfl)
    (fun x y hw hy => by obtain ⟨k, hk⟩ := h43 x.1 x.2.1 x.2.2.1 x.2.2.2.1 x.2.2.2.2.1 y hw hy; exact ⟨k, (ev43  k x).trans hk⟩)
/-! ### jitney/jitref2.inside -/
theorem S80 : SoundF Tryz.prog 80 (.fn (.cons (.int .i64) (.cons (.struct (.cons (.int .i64) (.cons (.int .i64) .nil))) .nil)) (.cons .bool .nil) fun x => (s80 x.1 x.2.1, ())) :=
  fn_sound (E := fun k => mkEnv ts80 (fs80 )) (H := H80) (fun k => mkEnv_ok ty80 (fun p hp => by unfold fs80 at hp; cases hp)) mixedOK (by kernel_rfl : Tryz.prog.funcs[80]? = some Tryz.f80) (by kernel_rfl) (by kernel_rfl : Tryz.f80.body = some body80) (by kernel_rfl) (by kernel_rfl)
    (fun x hw => by obtain ⟨k, hk⟩ := h80 x.1 x.2.1 hw; exact ⟨k, (ev80  k x).trans hk⟩)
/-! ### slices.Compare[[]int,int] -/
theorem S188 : SoundF Tryz.prog 188 (.fn (.cons (.slice (.int .i64)) (.cons (.slice (.int .i64)) .nil)) (.cons (.int .i64) .nil) fun x => (s188 x.1 x.2.1, ())) :=
  fn_sound (E := fun k => mkEnv ts188 (fs188 s67)) (H := H188) (fun k => mkEnv_ok ty188 (fun p hp => by
    unfold fs188 at hp
    rcases List.mem_cons.1 hp with rfl | hp
    · exact S67
    cases hp)) mixedOK (by kernel_rfl : Tryz.prog.funcs[188]? = some Tryz.f188) (by kernel_rfl) (by kernel_rfl : Tryz.f188.body = some body188) (by kernel_rfl) (by kernel_rfl)
    (fun x hw => by obtain ⟨k, hk⟩ := h188 x.1 x.2.1 hw; exact ⟨k, (ev188 s67 k x).trans hk⟩)
/-! ### jitney/jitref2.levelsOf$1 -/
theorem S187 : SoundF Tryz.prog 187 (.fn (.cons (.struct (.cons (.int .i64) (.cons (.int .i64) (.cons (.int .i64) .nil)))) (.cons (.struct (.cons (.int .i64) (.cons (.int .i64) (.cons (.int .i64) .nil)))) .nil)) (.cons (.int .i64) .nil) fun x => (s187 x.1 x.2.1, ())) :=
  fn_sound (E := fun k => mkEnv ts187 (fs187 s188)) (H := H187) (fun k => mkEnv_ok ty187 (fun p hp => by
    unfold fs187 at hp
    rcases List.mem_cons.1 hp with rfl | hp
    · exact S188
    cases hp)) mixedOK (by kernel_rfl : Tryz.prog.funcs[187]? = some Tryz.f187) (by kernel_rfl) (by kernel_rfl : Tryz.f187.body = some body187) (by kernel_rfl) (by kernel_rfl)
    (fun x hw => by obtain ⟨k, hk⟩ := h187 x.1 x.2.1 hw; exact ⟨k, (ev187 s188 k x).trans hk⟩)
/-! ### jitney/jitref2.levelsOf -/
theorem S186 : SoundF Tryz.prog 186 (.rfn (.struct (.cons (.int .i64) (.cons (.int .i64) (.cons (.int .i64) .nil)))) .nil 187 fun xs a => s186 xs) := SF186 S187 W187
theorem S151 : SoundF Tryz.prog 151 (.pfn (.cons .str (.cons (.slice (.struct (.cons .str (.cons (.struct (.cons (.int .i64) (.cons (.int .i64) .nil))) (.cons (.int .i64) (.cons (.int .i64) .nil)))))) (.cons (.slice (.struct (.cons .str (.cons .str (.cons (.int .i64) (.cons (.int .i64) (.cons (.int .i64) .nil))))))) (.cons (.int .i64) .nil)))) (.cons (.slice (.int .i64)) (.cons (.slice (.int .i64)) .nil)) fun x => s151 x.1 x.2.1 x.2.2.1 x.2.2.2.1) :=
  pfn_sound (E := fun k => mkEnv ts151 (fs151 s186)) (H := H151) (fun k => mkEnv_ok ty151 (fun p hp => by
    unfold fs151 at hp
    rcases List.mem_cons.1 hp with rfl | hp
    · exact S186
    cases hp)) mixedOK (by kernel_rfl : Tryz.prog.funcs[151]? = some Tryz.f151) (by kernel_rfl) (by kernel_rfl : Tryz.f151.body = some body151) (by kernel_rfl) (by kernel_rfl)
    (fun x y hw hy => by obtain ⟨k, hk⟩ := h151 x.1 x.2.1 x.2.2.1 x.2.2.2.1 y hw hy; exact ⟨k, (ev151 s186 k x).trans hk⟩)
/-! ### jitney/jitref2.LevelAt -/
theorem S103 : SoundF Tryz.prog 103 (.pfn (.cons .str (.cons (.slice (.struct (.cons .str (.cons (.struct (.cons (.int .i64) (.cons (.int .i64) .nil))) (.cons (.int .i64) (.cons (.int .i64) .nil)))))) (.cons (.slice (.struct (.cons .str (.cons .str (.cons (.int .i64) (.cons (.int .i64) (.cons (.int .i64) .nil))))))) (.cons (.int .i64) (.cons (.int .i64) .nil))))) (.cons (.int .i64) .nil) fun x => s103 x.1 x.2.1 x.2.2.1 x.2.2.2.1 x.2.2.2.2.1) :=
  pfn_sound (E := fun k => mkEnv ts103 (fs103 s151)) (H := H103) (fun k => mkEnv_ok ty103 (fun p hp => by
    unfold fs103 at hp
    rcases List.mem_cons.1 hp with rfl | hp
    · exact S151
    cases hp)) mixedOK (by kernel_rfl : Tryz.prog.funcs[103]? = some Tryz.f103) (by kernel_rfl) (by kernel_rfl : Tryz.f103.body = some body103) (by kernel_rfl) (by kernel_rfl)
    (fun x y hw hy => by obtain ⟨k, hk⟩ := h103 x.1 x.2.1 x.2.2.1 x.2.2.2.1 x.2.2.2.2.1 y hw hy; exact ⟨k, (ev103 s151 k x).trans hk⟩)
/-! ### jitney/jitref2.ReadyOf -/
theorem SI44_100 (k : Nat) : SoundF Tryz.prog 100 (.ev (mkEnv tsi44_100 (fsi44_100 s80 s98 s103 k)) Hi44_100 k bodyi44_100 16 [.tmp 4]) :=
  ev_inline (mkEnv_ok tyi44_100 (fun p hp => by
    unfold fsi44_100 at hp
    rcases List.mem_cons.1 hp with rfl | hp
    · exact S80
    cases hp)) mixedOK (by kernel_rfl : Tryz.prog.funcs[100]? = some Tryz.f100) (by kernel_rfl) (by kernel_rfl : Tryz.f100.body = some bodyi44_100) (by kernel_rfl) (by kernel_rfl)
theorem SI44_149 (k : Nat) : SoundF Tryz.prog 149 (.ev (mkEnv tsi44_149 (fsi44_149 s80 s98 s103 k)) Hi44_149 k bodyi44_149 19 [.tmp 4]) :=
  ev_inline (mkEnv_ok tyi44_149 (fun p hp => by
    unfold fsi44_149 at hp
    rcases List.mem_cons.1 hp with rfl | hp
    · exact SI44_100 k
    cases hp)) mixedOK (by kernel_rfl : Tryz.prog.funcs[149]? = some Tryz.f149) (by kernel_rfl) (by kernel_rfl : Tryz.f149.body = some bodyi44_149) (by kernel_rfl) (by kernel_rfl)
theorem SI44_99 (k : Nat) : SoundF Tryz.prog 99 (.ev (mkEnv tsi44_99 (fsi44_99 s80 s98 s103 k)) Hi44_99 k bodyi44_99 9 [.tmp 4]) :=
  ev_inline (mkEnv_ok tyi44_99 (fun p hp => by
    unfold fsi44_99 at hp
    rcases List.mem_cons.1 hp with rfl | hp
    · exact SI44_149 k
    cases hp)) mixedOK (by kernel_rfl : Tryz.prog.funcs[99]? = some Tryz.f99) (by kernel_rfl) (by kernel_rfl : Tryz.f99.body = some bodyi44_99) (by kernel_rfl) (by kernel_rfl)
theorem SI44_102 (k : Nat) : SoundF Tryz.prog 102 (.ev (mkEnv tsi44_102 (fsi44_102 s80 s98 s103 k)) Hi44_102 k bodyi44_102 22 [.tmp 4]) :=
  ev_inline (mkEnv_ok tyi44_102 (fun p hp => by unfold fsi44_102 at hp; cases hp)) mixedOK (by kernel_rfl : Tryz.prog.funcs[102]? = some Tryz.f102) (by kernel_rfl) (by kernel_rfl : Tryz.f102.body = some bodyi44_102) (by kernel_rfl) (by kernel_rfl)
theorem SI44_150 (k : Nat) : SoundF Tryz.prog 150 (.ev (mkEnv tsi44_150 (fsi44_150 s80 s98 s103 k)) Hi44_150 k bodyi44_150 19 [.tmp 4]) :=
  ev_inline (mkEnv_ok tyi44_150 (fun p hp => by
    unfold fsi44_150 at hp
    rcases List.mem_cons.1 hp with rfl | hp
    · exact SI44_102 k
    cases hp)) mixedOK (by kernel_rfl : Tryz.prog.funcs[150]? = some Tryz.f150) (by kernel_rfl) (by kernel_rfl : Tryz.f150.body = some bodyi44_150) (by kernel_rfl) (by kernel_rfl)
theorem SI44_101 (k : Nat) : SoundF Tryz.prog 101 (.ev (mkEnv tsi44_101 (fsi44_101 s80 s98 s103 k)) Hi44_101 k bodyi44_101 9 [.tmp 4]) :=
  ev_inline (mkEnv_ok tyi44_101 (fun p hp => by
    unfold fsi44_101 at hp
    rcases List.mem_cons.1 hp with rfl | hp
    · exact SI44_150 k
    cases hp)) mixedOK (by kernel_rfl : Tryz.prog.funcs[101]? = some Tryz.f101) (by kernel_rfl) (by kernel_rfl : Tryz.f101.body = some bodyi44_101) (by kernel_rfl) (by kernel_rfl)
theorem S44 : SoundF Tryz.prog 44 (.pfn (.cons (.slice (.struct (.cons .str (.cons (.int .i64) (.cons (.int .i64) (.cons (.int .i64) (.cons (.int .i64) .nil))))))) (.cons (.slice (.struct (.cons .str (.cons (.struct (.cons (.int .i64) (.cons (.int .i64) .nil))) (.cons (.int .i64) (.cons (.int .i64) .nil)))))) (.cons (.slice (.struct (.cons .str (.cons .str (.cons (.int .i64) (.cons (.int .i64) (.cons (.int .i64) .nil))))))) (.cons (.slice (.struct (.cons .str (.cons .str .nil)))) (.cons (.int .i64) (.cons (.int .i64) .nil)))))) (.cons (.slice .str) .nil) fun x => s44 x.1 x.2.1 x.2.2.1 x.2.2.2.1 x.2.2.2.2.1 x.2.2.2.2.2.1) :=
  pfn_sound (E := fun k => mkEnv ts44 (fs44 s80 s98 s103 k)) (H := H44) (fun k => mkEnv_ok ty44 (fun p hp => by
    unfold fs44 at hp
    rcases List.mem_cons.1 hp with rfl | hp
    · exact S98
    rcases List.mem_cons.1 hp with rfl | hp
    · exact SI44_99 k
    rcases List.mem_cons.1 hp with rfl | hp
    · exact SI44_101 k
    rcases List.mem_cons.1 hp with rfl | hp
    · exact S103
    cases hp)) mixedOK (by kernel_rfl : Tryz.prog.funcs[44]? = some Tryz.f44) (by kernel_rfl) (by kernel_rfl : Tryz.f44.body = some body44) (by kernel_rfl) (by kernel_rfl)
    (fun x y hw hy => by obtain ⟨k, hk⟩ := h44 x.1 x.2.1 x.2.2.1 x.2.2.2.1 x.2.2.2.2.1 x.2.2.2.2.2.1 y hw hy; exact ⟨k, (ev44 s80 s98 s103 k x).trans hk⟩)
/-! ### slices.Equal[[]string,string] -/
theorem S45 : SoundF Tryz.prog 45 (.fn (.cons (.slice .str) (.cons (.slice .str) .nil)) (.cons .bool .nil) fun x => (s45 x.1 x.2.1, ())) :=
  fn_sound (E := fun k => mkEnv ts45 (fs45 )) (H := H45) (fun k => mkEnv_ok ty45 (fun p hp => by unfold fs45 at hp; cases hp)) mixedOK (by kernel_rfl : Tryz.prog.funcs[45]? = some Tryz.f45) (by kernel_rfl) (by kernel_rfl : Tryz.f45.body = some body45) (by kernel_rfl) (by kernel_rfl)
    (fun x hw => by obtain ⟨k, hk⟩ := h45 x.1 x.2.1 hw; exact ⟨k, (ev45  k x).trans hk⟩)
/-! ### jitney/fleet.byShift -/
theorem S189 : SoundF Tryz.prog 189 (.fn (.cons (.struct (.cons (.int .i64) (.cons (.int .i64) .nil))) (.cons (.struct (.cons (.int .i64) (.cons (.int .i64) .nil))) .nil)) (.cons (.int .i64) .nil) fun x => (s189 x.1 x.2.1, ())) :=
  fn_sound (E := fun k => mkEnv ts189 (fs189 s66 s67)) (H := H189) (fun k => mkEnv_ok ty189 (fun p hp => by
    unfold fs189 at hp
    rcases List.mem_cons.1 hp with rfl | hp
    · exact S66
    rcases List.mem_cons.1 hp with rfl | hp
    · exact S67
    cases hp)) mixedOK (by kernel_rfl : Tryz.prog.funcs[189]? = some Tryz.f189) (by kernel_rfl) (by kernel_rfl : Tryz.f189.body = some body189) (by kernel_rfl) (by kernel_rfl)
    (fun x hw => by obtain ⟨k, hk⟩ := h189 x.1 x.2.1 hw; exact ⟨k, (ev189 s66 s67 k x).trans hk⟩)
/-! ### jitney/fleet.CheckShifts -/
theorem S152 : SoundF Tryz.prog 152 (.pfn (.cons (.slice (.struct (.cons (.int .i64) (.cons (.int .i64) .nil)))) .nil) (.cons (.int .i64) .nil) fun x => s152 x.1) :=
  pfn_sound (E := fun k => mkEnv ts152 (fs152 s189)) (H := H152) (fun k => mkEnv_ok ty152 (fun p hp => by
    unfold fs152 at hp
    rcases List.mem_cons.1 hp with rfl | hp
    · exact S189
    cases hp)) mixedOK (by kernel_rfl : Tryz.prog.funcs[152]? = some Tryz.f152) (by kernel_rfl) (by kernel_rfl : Tryz.f152.body = some body152) (by kernel_rfl) (by kernel_rfl)
    (fun x y hw hy => by obtain ⟨k, hk⟩ := h152 x.1 y hw hy; exact ⟨k, (ev152 s189 k x).trans hk⟩)
/-! ### jitney/fleet.rosters -/
theorem SI153_191 (k : Nat) : SoundF Tryz.prog 191 (.ev (mkEnv tsi153_191 (fsi153_191  k)) Hi153_191 k bodyi153_191 8 [.tmp 3]) :=
  ev_inline (mkEnv_ok tyi153_191 (fun p hp => by unfold fsi153_191 at hp; cases hp)) mixedOK (by kernel_rfl : Tryz.prog.funcs[191]? = some Tryz.f191) (by kernel_rfl) (by kernel_rfl : Tryz.f191.body = some bodyi153_191) (by kernel_rfl) (by kernel_rfl)
theorem SI153_190 (k : Nat) : SoundF Tryz.prog 190 (.ev (mkEnv tsi153_190 (fsi153_190  k)) Hi153_190 k bodyi153_190 19 [.tmp 4]) :=
  ev_inline (mkEnv_ok tyi153_190 (fun p hp => by
    unfold fsi153_190 at hp
    rcases List.mem_cons.1 hp with rfl | hp
    · exact SI153_191 k
    cases hp)) mixedOK (by kernel_rfl : Tryz.prog.funcs[190]? = some Tryz.f190) (by kernel_rfl) (by kernel_rfl : Tryz.f190.body = some bodyi153_190) (by kernel_rfl) (by kernel_rfl)
theorem S153 : SoundF Tryz.prog 153 (.pfn (.cons (.slice (.struct (.cons (.int .i64) (.cons (.int .i64) .nil)))) .nil) (.cons (.slice (.int .i64)) (.cons (.int .i64) .nil)) fun x => s153 x.1) :=
  pfn_sound (E := fun k => mkEnv ts153 (fs153  k)) (H := H153) (fun k => mkEnv_ok ty153 (fun p hp => by
    unfold fs153 at hp
    rcases List.mem_cons.1 hp with rfl | hp
    · exact SI153_190 k
    cases hp)) mixedOK (by kernel_rfl : Tryz.prog.funcs[153]? = some Tryz.f153) (by kernel_rfl) (by kernel_rfl : Tryz.f153.body = some body153) (by kernel_rfl) (by kernel_rfl)
    (fun x y hw hy => by obtain ⟨k, hk⟩ := h153 x.1 y hw hy; exact ⟨k, (ev153  k x).trans hk⟩)
/-! ### jitney/fleet.Drivers -/
theorem S104 : SoundF Tryz.prog 104 (.pfn (.cons (.slice (.struct (.cons (.int .i64) (.cons (.int .i64) .nil)))) .nil) (.cons (.int .i64) (.cons (.int .i64) .nil)) fun x => s104 x.1) :=
  pfn_sound (E := fun k => mkEnv ts104 (fs104 s152 s153)) (H := H104) (fun k => mkEnv_ok ty104 (fun p hp => by
    unfold fs104 at hp
    rcases List.mem_cons.1 hp with rfl | hp
    · exact S152
    rcases List.mem_cons.1 hp with rfl | hp
    · exact S153
    cases hp)) mixedOK (by kernel_rfl : Tryz.prog.funcs[104]? = some Tryz.f104) (by kernel_rfl) (by kernel_rfl : Tryz.f104.body = some body104) (by kernel_rfl) (by kernel_rfl)
    (fun x y hw hy => by obtain ⟨k, hk⟩ := h104 x.1 y hw hy; exact ⟨k, (ev104 s152 s153 k x).trans hk⟩)
/-! ### jitney/jitlaw2.driven -/
theorem S46 : SoundF Tryz.prog 46 (.pfn .nil (.cons .bool .nil) fun x => s46) :=
  pfn_sound (E := fun k => mkEnv ts46 (fs46 s104)) (H := H46) (fun k => mkEnv_ok ty46 (fun p hp => by
    unfold fs46 at hp
    rcases List.mem_cons.1 hp with rfl | hp
    · exact S104
    cases hp)) mixedOK (by kernel_rfl : Tryz.prog.funcs[46]? = some Tryz.f46) (by kernel_rfl) (by kernel_rfl : Tryz.f46.body = some body46) (by kernel_rfl) (by kernel_rfl)
    (fun x y hw hy => by obtain ⟨k, hk⟩ := h46  y hw hy; exact ⟨k, (ev46 s104 k x).trans hk⟩)
/-! ### jitney/jitlaw2.VehiclesReady -/
theorem S4 : SoundF Tryz.prog 4 (.pfn (.cons (.slice (.struct (.cons .str (.cons (.int .i64) (.cons (.int .i64) (.cons (.int .i64) (.cons (.int .i64) .nil))))))) (.cons (.slice (.struct (.cons .str (.cons (.int .i64) (.cons (.int .i64) .nil))))) (.cons (.slice (.struct (.cons .str (.cons (.struct (.cons (.int .i64) (.cons (.int .i64) .nil))) (.cons (.int .i64) (.cons (.int .i64) .nil)))))) (.cons (.slice (.struct (.cons .str (.cons .str (.cons (.int .i64) (.cons (.int .i64) (.cons (.int .i64) .nil))))))) (.cons .str (.cons (.int .i64) (.cons (.int .i64) (.cons (.int .i64) (.cons (.slice (.struct (.cons .str (.cons .str .nil)))) .nil))))))))) (.cons .bool .nil) fun x => s4 x.1 x.2.1 x.2.2.1 x.2.2.2.1 x.2.2.2.2.1 x.2.2.2.2.2.1 x.2.2.2.2.2.2.1 x.2.2.2.2.2.2.2.1 x.2.2.2.2.2.2.2.2.1) :=
  pfn_sound (E := fun k => mkEnv ts4 (fs4 s18 s26 s27 s28 s29 s30 s31 s32 s33 s34 s35 s36 s37 s38 s39 s40 s41 s42 s43 s44 s45 s46)) (H := H4) (fun k => mkEnv_ok ty4 (fun p hp => by
    unfold fs4 at hp
    rcases List.mem_cons.1 hp with rfl | hp
    · exact S18
    rcases List.mem_cons.1 hp with rfl | hp
    · exact S26
    rcases List.mem_cons.1 hp with rfl | hp
    · exact S27
    rcases List.mem_cons.1 hp with rfl | hp
    · exact S28
    rcases List.mem_cons.1 hp with rfl | hp
    · exact S29
    rcases List.mem_cons.1 hp with rfl | hp
    · exact S30
    rcases List.mem_cons.1 hp with rfl | hp
    · exact S31
    rcases List.mem_cons.1 hp with rfl | hp
    · exact S32
    rcases List.mem_cons.1 hp with rfl | hp
    · exact S33
    rcases List.mem_cons.1 hp with rfl | hp
    · exact S34
    rcases List.mem_cons.1 hp with rfl | hp
    · exact S35
    rcases List.mem_cons.1 hp with rfl | hp
    · exact S36
    rcases List.mem_cons.1 hp with rfl | hp
    · exact S37
    rcases List.mem_cons.1 hp with rfl | hp
    · exact S38
    rcases List.mem_cons.1 hp with rfl | hp
    · exact S39
    rcases List.mem_cons.1 hp with rfl | hp
    · exact S40
    rcases List.mem_cons.1 hp with rfl | hp
    · exact S41
    rcases List.mem_cons.1 hp with rfl | hp
    · exact S42
    rcases List.mem_cons.1 hp with rfl | hp
    · exact S43
    rcases List.mem_cons.1 hp with rfl | hp
    · exact S44
    rcases List.mem_cons.1 hp with rfl | hp
    · exact S45
    rcases List.mem_cons.1 hp with rfl | hp
    · exact S46
    cases hp)) mixedOK (by kernel_rfl : Tryz.prog.funcs[4]? = some Tryz.f4) (by kernel_rfl) (by kernel_rfl : Tryz.f4.body = some body4) (by kernel_rfl) (by kernel_rfl)
    (fun x y hw hy => by obtain ⟨k, hk⟩ := h4 x.1 x.2.1 x.2.2.1 x.2.2.2.1 x.2.2.2.2.1 x.2.2.2.2.2.1 x.2.2.2.2.2.2.1 x.2.2.2.2.2.2.2.1 x.2.2.2.2.2.2.2.2.1 y hw hy; exact ⟨k, (ev4 s18 s26 s27 s28 s29 s30 s31 s32 s33 s34 s35 s36 s37 s38 s39 s40 s41 s42 s43 s44 s45 s46 k x).trans hk⟩)
end Go.Vm
