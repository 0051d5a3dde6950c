/- The program's functions are what the specs say. -/
import Derived.Test.YtfiembgemhonlaaSSpec
import Derived.Test.YtfiembgemhonlaaSHand
import Derived.Test.YtfiembgemhonlaaLSnd
set_option maxRecDepth 100000
set_option linter.unusedVariables false
namespace Go.Vm
open Go.Proofs
set_option maxHeartbeats 2000000 in
theorem walk46 (a : Option Addr) (c : Nat) (w : World) : Calls Try.prog 46 #[.slice a 0 c] w fun e w' => ∃ a' c', e = .returned (.slice a' 0 c') ∧ c' ≤ 9223372036854775807 ∧ Keep None w w' := by
  have q : ∀ (w : World) (a : Option Addr) (n c n' c' : Nat), (binOp .eql 73 (.slice a n c) (.slice none n' c')).run Try.prog w = .ok (.bool a.isNone) w := fun w a n c n' c' => Lib.run_eql_slice_nil w _ _ a n c n' c' Try.underlying73
  cases a with
  | none =>
    go_enter Try.func46, Try.ntmps46
    go_wp2
    go_ret
    exact ⟨none, 0, rfl, by omega, Keep.refl _ _⟩
  | some a =>
    go_enter Try.func46, Try.ntmps46
    go_wp2
    go_ret
    exact ⟨_, _, rfl, by omega, Keep.alloc _ _ _ _⟩
theorem cl46 (xs : List (Int × Int × Unit)) (hne : xs ≠ []) (hl : xs.length ≤ 4294967296) : f46 0 xs = some (xs, ()) := by
  cases xs with
  | nil => exact absurd rfl hne
  | cons z l =>
    have h2 : decide (List.length ([] : List (Int × Int × Unit)) + List.length (z :: l) ≤ 4294967296) = true := by simpa using hl
    unfold f46
    rw [show Nat.ble (List.length (z :: l)) 0 = false from rfl, h2]
    rfl
theorem S46 : SoundF Try.prog 46 (.pfn (.cons (.slice (.struct (.cons (.int .i64) (.cons (.int .i64) .nil)))) .nil) (.cons (.slice (.struct (.cons (.int .i64) (.cons (.int .i64) .nil)))) .nil) fun x => s46 x.1) := by
  intro ρ args objs K r hr
  exact clone_sound (T := (.struct (.cons (.int .i64) (.cons (.int .i64) .nil)))) (g1 := fun x => f46 0 x.1) (pfn_sound (E := fun _ => mkEnv ts46 fs46) (H := H46) (fun _ => mkEnv_ok ty46 (fun p hp => by unfold fs46 at hp; cases hp)) mixedOK (by kernel_rfl : Try.prog.funcs[46]? = some Try.f46) (by kernel_rfl) (by kernel_rfl : Try.f46.body = some body46) (by kernel_rfl) (by kernel_rfl) (fun x y hw hy => ⟨0, (ev46 0 x).trans hy⟩)) (enters_of (by kernel_rfl : Try.prog.funcs[46]? = some Try.f46) (by kernel_rfl) (by kernel_rfl : Try.f46.body = some body46))
    (fun xs hne hl => cl46 xs hne hl) walk46 args objs K r hr
/-! ### jitney/fleet.Rosters -/
theorem S47 : SoundF Try.prog 47 (.pfn (.cons (.slice (.struct (.cons (.int .i64) (.cons (.int .i64) .nil)))) .nil) (.cons (.slice (.int .i64)) (.cons (.int .i64) .nil)) fun x => s47 x.1) :=
  pfn_sound (E := fun k => mkEnv ts47 (fs47 s53 s142)) (H := H47) (fun k => mkEnv_ok ty47 (fun p hp => by
    unfold fs47 at hp
    rcases List.mem_cons.1 hp with rfl | hp
    · exact S53
    rcases List.mem_cons.1 hp with rfl | hp
    · exact S142
    cases hp)) mixedOK (by kernel_rfl : Try.prog.funcs[47]? = some Try.f47) (by kernel_rfl) (by kernel_rfl : Try.f47.body = some body47) (by kernel_rfl) (by kernel_rfl)
    (fun x y hw hy => by obtain ⟨k, hk⟩ := h47 x.1 y hw hy; exact ⟨k, (ev47 s53 s142 k x).trans hk⟩)
/-! ### jitney/base.Window -/
theorem S143 : SoundF Try.prog 143 (.fn (.cons (.struct (.cons (.int .i64) (.cons (.int .i64) .nil))) .nil) (.cons .bool .nil) fun x => (s143 x.1, ())) :=
  fn_sound (E := fun k => mkEnv ts143 (fs143 s114)) (H := H143) (fun k => mkEnv_ok ty143 (fun p hp => by
    unfold fs143 at hp
    rcases List.mem_cons.1 hp with rfl | hp
    · exact S114
    cases hp)) mixedOK (by kernel_rfl : Try.prog.funcs[143]? = some Try.f143) (by kernel_rfl) (by kernel_rfl : Try.f143.body = some body143) (by kernel_rfl) (by kernel_rfl)
    (fun x hw => by obtain ⟨k, hk⟩ := h143 x.1 hw; exact ⟨k, (ev143 s114 k x).trans hk⟩)
/-! ### slices.Compact[[]int,int] -/
theorem S145 : SoundF Try.prog 145 (.cfn (.int .i64) .nil fun xs a => s145 xs) :=
  cfn_sound (E := fun k => mkEnvV ts145 (fs145 )) (H := H145) (fun k => mkEnvV_ok ty145 (fun p hp => by unfold fs145 at hp; cases hp)) mixedOK (by kernel_rfl : Try.prog.funcs[145]? = some Try.f145) (by kernel_rfl) (by kernel_rfl : Try.f145.body = some body145) (by kernel_rfl) (by kernel_rfl)
    (fun xs a ys hl hw hy => by obtain ⟨k, hk⟩ := h145 xs  ys hl hw hy; exact ⟨k, (ev145  k xs a).trans hk⟩)
/-! ### jitney/fleet.Thin -/
theorem S48 : SoundF Try.prog 48 (.pfn (.cons (.slice (.struct (.cons (.int .i64) (.cons (.int .i64) .nil)))) (.cons (.struct (.cons (.int .i64) (.cons (.int .i64) .nil))) (.cons (.int .i64) .nil))) (.cons (.slice (.struct (.cons (.int .i64) (.cons (.int .i64) .nil)))) (.cons (.int .i64) .nil)) fun x => s48 x.1 x.2.1 x.2.2.1) :=
  pfn_sound (E := fun k => mkEnv ts48 (fs48 s53 s114 s143 s144 s145)) (H := H48) (fun k => mkEnv_ok ty48 (fun p hp => by
    unfold fs48 at hp
    rcases List.mem_cons.1 hp with rfl | hp
    · exact S53
    rcases List.mem_cons.1 hp with rfl | hp
    · exact S114
    rcases List.mem_cons.1 hp with rfl | hp
    · exact S143
    rcases List.mem_cons.1 hp with rfl | hp
    · exact S144
    rcases List.mem_cons.1 hp with rfl | hp
    · exact S145
    cases hp)) mixedOK (by kernel_rfl : Try.prog.funcs[48]? = some Try.f48) (by kernel_rfl) (by kernel_rfl : Try.f48.body = some body48) (by kernel_rfl) (by kernel_rfl)
    (fun x y hw hy => by obtain ⟨k, hk⟩ := h48 x.1 x.2.1 x.2.2.1 y hw hy; exact ⟨k, (ev48 s53 s114 s143 s144 s145 k x).trans hk⟩)
/-! ### jitney/fleet.Tired -/
theorem S49 : SoundF Try.prog 49 (.pfn (.cons (.struct (.cons (.int .i64) (.cons (.int .i64) .nil))) (.cons (.slice (.struct (.cons .str (.cons (.struct (.cons (.int .i64) (.cons (.int .i64) .nil))) (.cons (.int .i64) (.cons (.int .i64) .nil)))))) (.cons .str .nil))) (.cons (.slice (.int .i64)) (.cons (.int .i64) .nil)) fun x => s49 x.1 x.2.1 x.2.2.1) :=
  pfn_sound (E := fun k => mkEnv ts49 (fs49 s113 s114 s146 s147)) (H := H49) (fun k => mkEnv_ok ty49 (fun p hp => by
    unfold fs49 at hp
    rcases List.mem_cons.1 hp with rfl | hp
    · exact S113
    rcases List.mem_cons.1 hp with rfl | hp
    · exact S114
    rcases List.mem_cons.1 hp with rfl | hp
    · exact S146
    rcases List.mem_cons.1 hp with rfl | hp
    · exact S147
    cases hp)) mixedOK (by kernel_rfl : Try.prog.funcs[49]? = some Try.f49) (by kernel_rfl) (by kernel_rfl : Try.f49.body = some body49) (by kernel_rfl) (by kernel_rfl)
    (fun x y hw hy => by obtain ⟨k, hk⟩ := h49 x.1 x.2.1 x.2.2.1 y hw hy; exact ⟨k, (ev49 s113 s114 s146 s147 k x).trans hk⟩)
/-! ### jitney/jitref2.ShiftsFault -/
theorem S50 : SoundF Try.prog 50 (.fn (.cons (.slice (.struct (.cons (.int .i64) (.cons (.int .i64) .nil)))) .nil) (.cons (.int .i64) .nil) fun x => (s50 x.1, ())) :=
  fn_sound (E := fun k => mkEnv ts50 (fs50 )) (H := H50) (fun k => mkEnv_ok ty50 (fun p hp => by unfold fs50 at hp; cases hp)) mixedOK (by kernel_rfl : Try.prog.funcs[50]? = some Try.f50) (by kernel_rfl) (by kernel_rfl : Try.f50.body = some body50) (by kernel_rfl) (by kernel_rfl)
    (fun x hw => by obtain ⟨k, hk⟩ := h50 x.1 hw; exact ⟨k, (ev50  k x).trans hk⟩)
/-! ### jitney/jitref2.WindowFault -/
theorem S51 : SoundF Try.prog 51 (.fn (.cons (.struct (.cons (.int .i64) (.cons (.int .i64) .nil))) .nil) (.cons (.int .i64) .nil) fun x => (s51 x.1, ())) :=
  fn_sound (E := fun k => mkEnv ts51 (fs51 s115)) (H := H51) (fun k => mkEnv_ok ty51 (fun p hp => by
    unfold fs51 at hp
    rcases List.mem_cons.1 hp with rfl | hp
    · exact S115
    cases hp)) mixedOK (by kernel_rfl : Try.prog.funcs[51]? = some Try.f51) (by kernel_rfl) (by kernel_rfl : Try.f51.body = some body51) (by kernel_rfl) (by kernel_rfl)
    (fun x hw => by obtain ⟨k, hk⟩ := h51 x.1 hw; exact ⟨k, (ev51 s115 k x).trans hk⟩)
/-! ### jitney/jitref2.RestFault -/
theorem S52 : SoundF Try.prog 52 (.fn (.cons (.struct (.cons (.int .i64) (.cons (.int .i64) .nil))) .nil) (.cons (.int .i64) .nil) fun x => (s52 x.1, ())) :=
  fn_sound (E := fun k => mkEnv ts52 (fs52 s115)) (H := H52) (fun k => mkEnv_ok ty52 (fun p hp => by
    unfold fs52 at hp
    rcases List.mem_cons.1 hp with rfl | hp
    · exact S115
    cases hp)) mixedOK (by kernel_rfl : Try.prog.funcs[52]? = some Try.f52) (by kernel_rfl) (by kernel_rfl : Try.f52.body = some body52) (by kernel_rfl) (by kernel_rfl)
    (fun x hw => by obtain ⟨k, hk⟩ := h52 x.1 hw; exact ⟨k, (ev52 s115 k x).trans hk⟩)
/-! ### jitney/jitref2.inside -/
theorem S150 : SoundF Try.prog 150 (.fn (.cons (.int .i64) (.cons (.struct (.cons (.int .i64) (.cons (.int .i64) .nil))) .nil)) (.cons .bool .nil) fun x => (s150 x.1 x.2.1, ())) :=
  fn_sound (E := fun k => mkEnv ts150 (fs150 )) (H := H150) (fun k => mkEnv_ok ty150 (fun p hp => by unfold fs150 at hp; cases hp)) mixedOK (by kernel_rfl : Try.prog.funcs[150]? = some Try.f150) (by kernel_rfl) (by kernel_rfl : Try.f150.body = some body150) (by kernel_rfl) (by kernel_rfl)
    (fun x hw => by obtain ⟨k, hk⟩ := h150 x.1 x.2.1 hw; exact ⟨k, (ev150  k x).trans hk⟩)
/-! ### jitney/jitref2.onAt -/
theorem S149 : SoundF Try.prog 149 (.fn (.cons (.slice (.struct (.cons (.int .i64) (.cons (.int .i64) .nil)))) (.cons (.int .i64) .nil)) (.cons (.int .i64) .nil) fun x => (s149 x.1 x.2.1, ())) :=
  fn_sound (E := fun k => mkEnv ts149 (fs149 s150)) (H := H149) (fun k => mkEnv_ok ty149 (fun p hp => by
    unfold fs149 at hp
    rcases List.mem_cons.1 hp with rfl | hp
    · exact S150
    cases hp)) mixedOK (by kernel_rfl : Try.prog.funcs[149]? = some Try.f149) (by kernel_rfl) (by kernel_rfl : Try.f149.body = some body149) (by kernel_rfl) (by kernel_rfl)
    (fun x hw => by obtain ⟨k, hk⟩ := h149 x.1 x.2.1 hw; exact ⟨k, (ev149 s150 k x).trans hk⟩)
/-! ### jitney/jitref2.DriversOf -/
theorem S54 : SoundF Try.prog 54 (.pfn (.cons (.slice (.struct (.cons (.int .i64) (.cons (.int .i64) .nil)))) .nil) (.cons (.int .i64) .nil) fun x => s54 x.1) :=
  pfn_sound (E := fun k => mkEnv ts54 (fs54 s149)) (H := H54) (fun k => mkEnv_ok ty54 (fun p hp => by
    unfold fs54 at hp
    rcases List.mem_cons.1 hp with rfl | hp
    · exact S149
    cases hp)) mixedOK (by kernel_rfl : Try.prog.funcs[54]? = some Try.f54) (by kernel_rfl) (by kernel_rfl : Try.f54.body = some body54) (by kernel_rfl) (by kernel_rfl)
    (fun x y hw hy => by obtain ⟨k, hk⟩ := h54 x.1 y hw hy; exact ⟨k, (ev54 s149 k x).trans hk⟩)
/-! ### jitney/jitref2.RostersOf -/
theorem S55 : SoundF Try.prog 55 (.pfn (.cons (.slice (.struct (.cons (.int .i64) (.cons (.int .i64) .nil)))) .nil) (.cons (.slice (.int .i64)) .nil) fun x => s55 x.1) :=
  pfn_sound (E := fun k => mkEnv ts55 (fs55 )) (H := H55) (fun k => mkEnv_ok ty55 (fun p hp => by unfold fs55 at hp; cases hp)) mixedOK (by kernel_rfl : Try.prog.funcs[55]? = some Try.f55) (by kernel_rfl) (by kernel_rfl : Try.f55.body = some body55) (by kernel_rfl) (by kernel_rfl)
    (fun x y hw hy => by obtain ⟨k, hk⟩ := h55 x.1 y hw hy; exact ⟨k, (ev55  k x).trans hk⟩)
/-! ### jitney/jitref2.ThinOf -/
theorem S56 : SoundF Try.prog 56 (.pfn (.cons (.slice (.struct (.cons (.int .i64) (.cons (.int .i64) .nil)))) (.cons (.struct (.cons (.int .i64) (.cons (.int .i64) .nil))) (.cons (.int .i64) .nil))) (.cons (.slice (.struct (.cons (.int .i64) (.cons (.int .i64) .nil)))) .nil) fun x => s56 x.1 x.2.1 x.2.2.1) :=
  pfn_sound (E := fun k => mkEnv ts56 (fs56 s144 s145 s149 s150)) (H := H56) (fun k => mkEnv_ok ty56 (fun p hp => by
    unfold fs56 at hp
    rcases List.mem_cons.1 hp with rfl | hp
    · exact S144
    rcases List.mem_cons.1 hp with rfl | hp
    · exact S145
    rcases List.mem_cons.1 hp with rfl | hp
    · exact S149
    rcases List.mem_cons.1 hp with rfl | hp
    · exact S150
    cases hp)) mixedOK (by kernel_rfl : Try.prog.funcs[56]? = some Try.f56) (by kernel_rfl) (by kernel_rfl : Try.f56.body = some body56) (by kernel_rfl) (by kernel_rfl)
    (fun x y hw hy => by obtain ⟨k, hk⟩ := h56 x.1 x.2.1 x.2.2.1 y hw hy; exact ⟨k, (ev56 s144 s145 s149 s150 k x).trans hk⟩)
set_option maxHeartbeats 2000000 in
theorem walkm38 (a : Option Addr) (c : Nat) (w : World) : Calls Try.prog 38 #[.slice a 0 c] w fun e w' => ∃ a', e = .returned (.slice a' 0 0) ∧ Keep None w w' := by
  have q : ∀ (w : World) (a : Option Addr) (n c n' c' : Nat), (binOp .eql 56 (.slice a n c) (.slice none n' c')).run Try.prog w = .ok (.bool a.isNone) w := fun w a n c n' c' => Lib.run_eql_slice_nil w _ _ a n c n' c' Try.underlying56
  cases a with
  | none =>
    go_enter Try.func38, Try.ntmps38
    go_wp2
    go_ret
    exact ⟨none, rfl, Keep.refl _ _⟩
  | some a =>
    go_enter Try.func38, Try.ntmps38
    go_wp2
    go_ret
    exact ⟨_, rfl, Keep.alloc _ _ _ _⟩
theorem clm38 (xs : List (ByteArray × (Int × Int × Unit) × Int × Int × Unit)) (hne : xs ≠ []) (hl : xs.length ≤ 4294967296) : fm38 0 xs = some xs := by
  cases xs with
  | nil => exact absurd rfl hne
  | cons z l =>
    have h2 : decide (List.length ([] : List (ByteArray × (Int × Int × Unit) × Int × Int × Unit)) + List.length (z :: l) ≤ 4294967296) = true := by simpa using hl
    unfold fm38
    rw [show Nat.ble (List.length (z :: l)) 0 = false from rfl, h2]
    rfl
theorem SM38 : SoundF Try.prog 38 (.mfn (.struct (.cons .str (.cons (.struct (.cons (.int .i64) (.cons (.int .i64) .nil))) (.cons (.int .i64) (.cons (.int .i64) .nil))))) (.cons (.slice (.struct (.cons .str (.cons (.struct (.cons (.int .i64) (.cons (.int .i64) .nil))) (.cons (.int .i64) (.cons (.int .i64) .nil)))))) .nil) fun x => m38 x.1) := by
  intro ρ args objs K r hr
  exact Vm.clone_row (T := (.struct (.cons .str (.cons (.struct (.cons (.int .i64) (.cons (.int .i64) .nil))) (.cons (.int .i64) (.cons (.int .i64) .nil)))))) (g1 := fun x => fm38 0 x.1) (mfn_sound (E := fun _ => mkEnv tsm38 []) (H := Hm38) (fun _ => mkEnv_ok tym38 (fun p hp => by cases hp)) mixedOK (by kernel_rfl : Try.prog.funcs[38]? = some Try.f38) (by kernel_rfl) (by kernel_rfl : Try.f38.body = some bodym38) (by kernel_rfl) (by kernel_rfl) (fun x y hw hy => ⟨0, (evm38 0 x).trans hy⟩)) (enters_of (by kernel_rfl : Try.prog.funcs[38]? = some Try.f38) (by kernel_rfl) (by kernel_rfl : Try.f38.body = some bodym38))
    (fun xs hne hl => clm38 xs hne hl) walkm38 args objs K r hr
/-! ### jitney/jitref2.TiredOf -/
theorem SI57_152 (k : Nat) : SoundF Try.prog 152 (.ev (mkEnv tsi57_152 (fsi57_152 m38 k)) Hi57_152 k bodyi57_152 8 [.tmp 3]) :=
  ev_inline (mkEnv_ok tyi57_152 (fun p hp => by unfold fsi57_152 at hp; cases hp)) mixedOK (by kernel_rfl : Try.prog.funcs[152]? = some Try.f152) (by kernel_rfl) (by kernel_rfl : Try.f152.body = some bodyi57_152) (by kernel_rfl) (by kernel_rfl)
theorem SI57_225 (k : Nat) : SoundF Try.prog 225 (.ev (mkEnv tsi57_225 (fsi57_225 m38 k)) Hi57_225 k bodyi57_225 19 [.tmp 4]) :=
  ev_inline (mkEnv_ok tyi57_225 (fun p hp => by
    unfold fsi57_225 at hp
    rcases List.mem_cons.1 hp with rfl | hp
    · exact SI57_152 k
    cases hp)) mixedOK (by kernel_rfl : Try.prog.funcs[225]? = some Try.f225) (by kernel_rfl) (by kernel_rfl : Try.f225.body = some bodyi57_225) (by kernel_rfl) (by kernel_rfl)
theorem SI57_151 (k : Nat) : SoundF Try.prog 151 (.ev (mkEnvV tsi57_151 (fsi57_151 m38 k)) Hi57_151 k bodyi57_151 42 [.tmp 4]) :=
  ev_inline (mkEnvV_ok tyi57_151 (fun p hp => by
    unfold fsi57_151 at hp
    rcases List.mem_cons.1 hp with rfl | hp
    · exact SI57_152 k
    rcases List.mem_cons.1 hp with rfl | hp
    · exact SI57_225 k
    cases hp)) mixedOK (by kernel_rfl : Try.prog.funcs[151]? = some Try.f151) (by kernel_rfl) (by kernel_rfl : Try.f151.body = some bodyi57_151) (by kernel_rfl) (by kernel_rfl)
theorem S57 : SoundF Try.prog 57 (.pfn (.cons (.struct (.cons (.int .i64) (.cons (.int .i64) .nil))) (.cons (.slice (.struct (.cons .str (.cons (.struct (.cons (.int .i64) (.cons (.int .i64) .nil))) (.cons (.int .i64) (.cons (.int .i64) .nil)))))) (.cons .str .nil))) (.cons (.slice (.int .i64)) .nil) fun x => s57 x.1 x.2.1 x.2.2.1) :=
  pfn_sound (E := fun k => mkEnv ts57 (fs57 m38 k)) (H := H57) (fun k => mkEnv_ok ty57 (fun p hp => by
    unfold fs57 at hp
    rcases List.mem_cons.1 hp with rfl | hp
    · exact SM38
    rcases List.mem_cons.1 hp with rfl | hp
    · exact SI57_151 k
    cases hp)) mixedOK (by kernel_rfl : Try.prog.funcs[57]? = some Try.f57) (by kernel_rfl) (by kernel_rfl : Try.f57.body = some body57) (by kernel_rfl) (by kernel_rfl)
    (fun x y hw hy => by obtain ⟨k, hk⟩ := h57 x.1 x.2.1 x.2.2.1 y hw hy; exact ⟨k, (ev57 m38 k x).trans hk⟩)
/-! ### slices.Equal[[]int,int] -/
theorem S58 : SoundF Try.prog 58 (.fn (.cons (.slice (.int .i64)) (.cons (.slice (.int .i64)) .nil)) (.cons .bool .nil) fun x => (s58 x.1 x.2.1, ())) :=
  fn_sound (E := fun k => mkEnv ts58 (fs58 )) (H := H58) (fun k => mkEnv_ok ty58 (fun p hp => by unfold fs58 at hp; cases hp)) mixedOK (by kernel_rfl : Try.prog.funcs[58]? = some Try.f58) (by kernel_rfl) (by kernel_rfl : Try.f58.body = some body58) (by kernel_rfl) (by kernel_rfl)
    (fun x hw => by obtain ⟨k, hk⟩ := h58 x.1 x.2.1 hw; exact ⟨k, (ev58  k x).trans hk⟩)
/-! ### slices.Equal[[]jitney/api.Window,jitney/api.Window] -/
theorem S59 : SoundF Try.prog 59 (.fn (.cons (.slice (.struct (.cons (.int .i64) (.cons (.int .i64) .nil)))) (.cons (.slice (.struct (.cons (.int .i64) (.cons (.int .i64) .nil)))) .nil)) (.cons .bool .nil) fun x => (s59 x.1 x.2.1, ())) :=
  fn_sound (E := fun k => mkEnv ts59 (fs59 )) (H := H59) (fun k => mkEnv_ok ty59 (fun p hp => by unfold fs59 at hp; cases hp)) mixedOK (by kernel_rfl : Try.prog.funcs[59]? = some Try.f59) (by kernel_rfl) (by kernel_rfl : Try.f59.body = some body59) (by kernel_rfl) (by kernel_rfl)
    (fun x hw => by obtain ⟨k, hk⟩ := h59 x.1 x.2.1 hw; exact ⟨k, (ev59  k x).trans hk⟩)
/-! ### jitney/jitlaw2.ShiftsCovered -/
theorem S6 : SoundF Try.prog 6 (.pfn (.cons (.slice (.struct (.cons (.int .i64) (.cons (.int .i64) .nil)))) (.cons (.struct (.cons (.int .i64) (.cons (.int .i64) .nil))) (.cons (.int .i64) (.cons (.slice (.struct (.cons .str (.cons (.struct (.cons (.int .i64) (.cons (.int .i64) .nil))) (.cons (.int .i64) (.cons (.int .i64) .nil)))))) (.cons (.struct (.cons (.int .i64) (.cons (.int .i64) .nil))) (.cons .str .nil)))))) (.cons .bool .nil) fun x => s6 x.1 x.2.1 x.2.2.1 x.2.2.2.1 x.2.2.2.2.1 x.2.2.2.2.2.1) :=
  pfn_sound (E := fun k => mkEnv ts6 (fs6 s20 s21 s24 s31 s38 s41 s45 s46 s47 s48 s49 s50 s51 s52 s53 s54 s55 s56 s57 s58 s59)) (H := H6) (fun k => mkEnv_ok ty6 (fun p hp => by
    unfold fs6 at hp
    rcases List.mem_cons.1 hp with rfl | hp
    · exact S20
    rcases List.mem_cons.1 hp with rfl | hp
    · exact S21
    rcases List.mem_cons.1 hp with rfl | hp
    · exact S24
    rcases List.mem_cons.1 hp with rfl | hp
    · exact S31
    rcases List.mem_cons.1 hp with rfl | hp
    · exact S38
    rcases List.mem_cons.1 hp with rfl | hp
    · exact S41
    rcases List.mem_cons.1 hp with rfl | hp
    · exact S45
    rcases List.mem_cons.1 hp with rfl | hp
    · exact S46
    rcases List.mem_cons.1 hp with rfl | hp
    · exact S47
    rcases List.mem_cons.1 hp with rfl | hp
    · exact S48
    rcases List.mem_cons.1 hp with rfl | hp
    · exact S49
    rcases List.mem_cons.1 hp with rfl | hp
    · exact S50
    rcases List.mem_cons.1 hp with rfl | hp
    · exact S51
    rcases List.mem_cons.1 hp with rfl | hp
    · exact S52
    rcases List.mem_cons.1 hp with rfl | hp
    · exact S53
    rcases List.mem_cons.1 hp with rfl | hp
    · exact S54
    rcases List.mem_cons.1 hp with rfl | hp
    · exact S55
    rcases List.mem_cons.1 hp with rfl | hp
    · exact S56
    rcases List.mem_cons.1 hp with rfl | hp
    · exact S57
    rcases List.mem_cons.1 hp with rfl | hp
    · exact S58
    rcases List.mem_cons.1 hp with rfl | hp
    · exact S59
    cases hp)) mixedOK (by kernel_rfl : Try.prog.funcs[6]? = some Try.f6) (by kernel_rfl) (by kernel_rfl : Try.f6.body = some body6) (by kernel_rfl) (by kernel_rfl)
    (fun x y hw hy => by obtain ⟨k, hk⟩ := h6 x.1 x.2.1 x.2.2.1 x.2.2.2.1 x.2.2.2.2.1 x.2.2.2.2.2.1 y hw hy; exact ⟨k, (ev6 s20 s21 s24 s31 s38 s41 s45 s46 s47 s48 s49 s50 s51 s52 s53 s54 s55 s56 s57 s58 s59 k x).trans hk⟩)
end Go.Vm
