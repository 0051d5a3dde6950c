/- The program's functions are what the specs say. -/
import Derived.Test.YtfiembgemhonlaaDoorUSpec
set_option maxRecDepth 100000
set_option linter.unusedVariables false
namespace Go.Vm
open Go.Proofs
/-! ### cmp.Or[int] -/
theorem S38 : SoundF Tryd.prog 38 (.fn (.cons (.slice (.int .i64)) .nil) (.cons (.int .i64) .nil) fun x => (s38 x.1, ())) :=
  fn_sound (E := fun k => mkEnv ts38 (fs38 )) (H := H38) (fun k => mkEnv_ok ty38 (fun p hp => by unfold fs38 at hp; cases hp)) mixedOK (by kernel_rfl : Tryd.prog.funcs[38]? = some Tryd.f38) (by kernel_rfl) (by kernel_rfl : Tryd.f38.body = some body38) (by kernel_rfl) (by kernel_rfl)
    (fun x hw => by obtain ⟨k, hk⟩ := h38 x.1 hw; exact ⟨k, (ev38  k x).trans hk⟩)
/-! ### strings.Compare -/
theorem S48 : SoundF Tryd.prog 48 (.fn (.cons .str (.cons .str .nil)) (.cons (.int .i64) .nil) fun x => (s48 x.1 x.2.1, ())) :=
  fn_sound (E := fun k => mkEnv ts48 (fs48 s60)) (H := H48) (fun k => mkEnv_ok ty48 (fun p hp => by
    unfold fs48 at hp
    rcases List.mem_cons.1 hp with rfl | hp
    · exact S60
    cases hp)) mixedOK (by kernel_rfl : Tryd.prog.funcs[48]? = some Tryd.f48) (by kernel_rfl) (by kernel_rfl : Tryd.f48.body = some body48) (by kernel_rfl) (by kernel_rfl)
    (fun x hw => by obtain ⟨k, hk⟩ := h48 x.1 x.2.1 hw; exact ⟨k, (ev48 s60 k x).trans hk⟩)
/-! ### jitney/trust.sameDrive -/
theorem S29 : SoundF Tryd.prog 29 (.fn (.cons (.struct (.cons .str (.cons .str (.cons (.int .i64) (.cons .bool .nil))))) (.cons (.struct (.cons .str (.cons .str (.cons (.int .i64) (.cons .bool .nil))))) .nil)) (.cons (.int .i64) .nil) fun x => (s29 x.1 x.2.1, ())) :=
  fn_sound (E := fun k => mkEnv ts29 (fs29 s38 s48)) (H := H29) (fun k => mkEnv_ok ty29 (fun p hp => by
    unfold fs29 at hp
    rcases List.mem_cons.1 hp with rfl | hp
    · exact S38
    rcases List.mem_cons.1 hp with rfl | hp
    · exact S48
    cases hp)) mixedOK (by kernel_rfl : Tryd.prog.funcs[29]? = some Tryd.f29) (by kernel_rfl) (by kernel_rfl : Tryd.f29.body = some body29) (by kernel_rfl) (by kernel_rfl)
    (fun x hw => by obtain ⟨k, hk⟩ := h29 x.1 x.2.1 hw; exact ⟨k, (ev29 s38 s48 k x).trans hk⟩)
/-! ### jitney/base.Key -/
theorem S36 : SoundF Tryd.prog 36 (.fn (.cons .str .nil) (.cons .bool .nil) fun x => (s36 x.1, ())) :=
  fn_sound (E := fun k => mkEnv ts36 (fs36 )) (H := H36) (fun k => mkEnv_ok ty36 (fun p hp => by unfold fs36 at hp; cases hp)) mixedOK (by kernel_rfl : Tryd.prog.funcs[36]? = some Tryd.f36) (by kernel_rfl) (by kernel_rfl : Tryd.f36.body = some body36) (by kernel_rfl) (by kernel_rfl)
    (fun x hw => by obtain ⟨k, hk⟩ := h36 x.1 hw; exact ⟨k, (ev36  k x).trans hk⟩)
/-! ### jitney/base.Out -/
theorem S40 : SoundF Tryd.prog 40 (.fn (.cons (.int .i64) (.cons (.int .i64) (.cons (.int .i64) .nil))) (.cons .bool .nil) fun x => (s40 x.1 x.2.1 x.2.2.1, ())) :=
  fn_sound (E := fun k => mkEnv ts40 (fs40 )) (H := H40) (fun k => mkEnv_ok ty40 (fun p hp => by unfold fs40 at hp; cases hp)) mixedOK (by kernel_rfl : Tryd.prog.funcs[40]? = some Tryd.f40) (by kernel_rfl) (by kernel_rfl : Tryd.f40.body = some body40) (by kernel_rfl) (by kernel_rfl)
    (fun x hw => by obtain ⟨k, hk⟩ := h40 x.1 x.2.1 x.2.2.1 hw; exact ⟨k, (ev40  k x).trans hk⟩)
/-! ### jitney/base.Moment -/
theorem S37 : SoundF Tryd.prog 37 (.fn (.cons (.int .i64) .nil) (.cons .bool .nil) fun x => (s37 x.1, ())) :=
  fn_sound (E := fun k => mkEnv ts37 (fs37 s40)) (H := H37) (fun k => mkEnv_ok ty37 (fun p hp => by
    unfold fs37 at hp
    rcases List.mem_cons.1 hp with rfl | hp
    · exact S40
    cases hp)) mixedOK (by kernel_rfl : Tryd.prog.funcs[37]? = some Tryd.f37) (by kernel_rfl) (by kernel_rfl : Tryd.f37.body = some body37) (by kernel_rfl) (by kernel_rfl)
    (fun x hw => by obtain ⟨k, hk⟩ := h37 x.1 hw; exact ⟨k, (ev37 s40 k x).trans hk⟩)
/-! ### cmp.isNaN[int] -/
theorem S52 : SoundF Tryd.prog 52 (.fn (.cons (.int .i64) .nil) (.cons .bool .nil) fun x => (s52 x.1, ())) :=
  fn_sound (E := fun k => mkEnv ts52 (fs52 )) (H := H52) (fun k => mkEnv_ok ty52 (fun p hp => by unfold fs52 at hp; cases hp)) mixedOK (by kernel_rfl : Tryd.prog.funcs[52]? = some Tryd.f52) (by kernel_rfl) (by kernel_rfl : Tryd.f52.body = some body52) (by kernel_rfl) (by kernel_rfl)
    (fun x hw => by obtain ⟨k, hk⟩ := h52 x.1 hw; exact ⟨k, (ev52  k x).trans hk⟩)
/-! ### cmp.Compare[int] -/
theorem S39 : SoundF Tryd.prog 39 (.fn (.cons (.int .i64) (.cons (.int .i64) .nil)) (.cons (.int .i64) .nil) fun x => (s39 x.1 x.2.1, ())) :=
  fn_sound (E := fun k => mkEnv ts39 (fs39 s52)) (H := H39) (fun k => mkEnv_ok ty39 (fun p hp => by
    unfold fs39 at hp
    rcases List.mem_cons.1 hp with rfl | hp
    · exact S52
    cases hp)) mixedOK (by kernel_rfl : Tryd.prog.funcs[39]? = some Tryd.f39) (by kernel_rfl) (by kernel_rfl : Tryd.f39.body = some body39) (by kernel_rfl) (by kernel_rfl)
    (fun x hw => by obtain ⟨k, hk⟩ := h39 x.1 x.2.1 hw; exact ⟨k, (ev39 s52 k x).trans hk⟩)
/-! ### jitney/trust.CheckDone -/
theorem S15 : SoundF Tryd.prog 15 (.fn (.cons (.slice (.struct (.cons .str (.cons .str (.cons (.int .i64) (.cons .bool .nil)))))) .nil) (.cons (.int .i64) .nil) fun x => (s15 x.1, ())) :=
  fn_sound (E := fun k => mkEnv ts15 (fs15 s29 s36 s37 s38 s39)) (H := H15) (fun k => mkEnv_ok ty15 (fun p hp => by
    unfold fs15 at hp
    rcases List.mem_cons.1 hp with rfl | hp
    · exact S29
    rcases List.mem_cons.1 hp with rfl | hp
    · exact S36
    rcases List.mem_cons.1 hp with rfl | hp
    · exact S37
    rcases List.mem_cons.1 hp with rfl | hp
    · exact S38
    rcases List.mem_cons.1 hp with rfl | hp
    · exact S39
    cases hp)) mixedOK (by kernel_rfl : Tryd.prog.funcs[15]? = some Tryd.f15) (by kernel_rfl) (by kernel_rfl : Tryd.f15.body = some body15) (by kernel_rfl) (by kernel_rfl)
    (fun x hw => by obtain ⟨k, hk⟩ := h15 x.1 hw; exact ⟨k, (ev15 s29 s36 s37 s38 s39 k x).trans hk⟩)
/-! ### jitney/trust.CheckQuests -/
theorem S16 : SoundF Tryd.prog 16 (.fn (.cons (.slice (.struct (.cons .str (.cons (.struct (.cons (.int .i64) (.cons (.int .i64) .nil))) (.cons (.int .i64) (.cons (.int .i64) (.cons (.int .i64) .nil))))))) .nil) (.cons (.int .i64) .nil) fun x => (s16 x.1, ())) :=
  fn_sound (E := fun k => mkEnv ts16 (fs16 s36 s40)) (H := H16) (fun k => mkEnv_ok ty16 (fun p hp => by
    unfold fs16 at hp
    rcases List.mem_cons.1 hp with rfl | hp
    · exact S36
    rcases List.mem_cons.1 hp with rfl | hp
    · exact S40
    cases hp)) mixedOK (by kernel_rfl : Tryd.prog.funcs[16]? = some Tryd.f16) (by kernel_rfl) (by kernel_rfl : Tryd.f16.body = some body16) (by kernel_rfl) (by kernel_rfl)
    (fun x hw => by obtain ⟨k, hk⟩ := h16 x.1 hw; exact ⟨k, (ev16 s36 s40 k x).trans hk⟩)
/-! ### jitney/base.First -/
theorem S27 : SoundF Tryd.prog 27 (.fn (.cons (.slice (.int .i64)) .nil) (.cons (.int .i64) .nil) fun x => (s27 x.1, ())) :=
  fn_sound (E := fun k => mkEnv ts27 (fs27 )) (H := H27) (fun k => mkEnv_ok ty27 (fun p hp => by unfold fs27 at hp; cases hp)) mixedOK (by kernel_rfl : Tryd.prog.funcs[27]? = some Tryd.f27) (by kernel_rfl) (by kernel_rfl : Tryd.f27.body = some body27) (by kernel_rfl) (by kernel_rfl)
    (fun x hw => by obtain ⟨k, hk⟩ := h27 x.1 hw; exact ⟨k, (ev27  k x).trans hk⟩)
/-! ### jitney/trust.whoFault -/
theorem S28 : SoundF Tryd.prog 28 (.fn (.cons .str (.cons (.int .i64) .nil)) (.cons (.int .i64) .nil) fun x => (s28 x.1 x.2.1, ())) :=
  fn_sound (E := fun k => mkEnv ts28 (fs28 s36 s37)) (H := H28) (fun k => mkEnv_ok ty28 (fun p hp => by
    unfold fs28 at hp
    rcases List.mem_cons.1 hp with rfl | hp
    · exact S36
    rcases List.mem_cons.1 hp with rfl | hp
    · exact S37
    cases hp)) mixedOK (by kernel_rfl : Tryd.prog.funcs[28]? = some Tryd.f28) (by kernel_rfl) (by kernel_rfl : Tryd.f28.body = some body28) (by kernel_rfl) (by kernel_rfl)
    (fun x hw => by obtain ⟨k, hk⟩ := h28 x.1 x.2.1 hw; exact ⟨k, (ev28 s36 s37 k x).trans hk⟩)
/-! ### strconv.Itoa -/
theorem S30 : SoundF Tryd.prog 30 (.pfn (.cons (.int .i64) .nil) (.cons .str .nil) fun x => s30 x.1) :=
  pfn_sound (E := fun k => mkEnv ts30 (fs30 s49)) (H := H30) (fun k => mkEnv_ok ty30 (fun p hp => by
    unfold fs30 at hp
    rcases List.mem_cons.1 hp with rfl | hp
    · exact S49
    cases hp)) mixedOK (by kernel_rfl : Tryd.prog.funcs[30]? = some Tryd.f30) (by kernel_rfl) (by kernel_rfl : Tryd.f30.body = some body30) (by kernel_rfl) (by kernel_rfl)
    (fun x y hw hy => by obtain ⟨k, hk⟩ := h30 x.1 y hw hy; exact ⟨k, (ev30 s49 k x).trans hk⟩)
/-! ### jitney/trust.Bonus -/
theorem S5 : SoundF Tryd.prog 5 (.pfn (.cons (.slice (.struct (.cons .str (.cons (.struct (.cons (.int .i64) (.cons (.int .i64) .nil))) (.cons (.int .i64) (.cons (.int .i64) (.cons (.int .i64) .nil))))))) (.cons (.slice (.struct (.cons .str (.cons .str (.cons (.int .i64) (.cons .bool .nil)))))) (.cons .str (.cons (.int .i64) .nil)))) (.cons (.slice (.struct (.cons .str (.cons .str .nil)))) (.cons (.int .i64) .nil)) fun x => s5 x.1 x.2.1 x.2.2.1 x.2.2.2.1) :=
  pfn_sound (E := fun k => mkEnv ts5 (fs5 s15 s16 s27 s28 s29 s30)) (H := H5) (fun k => mkEnv_ok ty5 (fun p hp => by
    unfold fs5 at hp
    rcases List.mem_cons.1 hp with rfl | hp
    · exact S15
    rcases List.mem_cons.1 hp with rfl | hp
    · exact S16
    rcases List.mem_cons.1 hp with rfl | hp
    · exact S27
    rcases List.mem_cons.1 hp with rfl | hp
    · exact S28
    rcases List.mem_cons.1 hp with rfl | hp
    · exact S29
    rcases List.mem_cons.1 hp with rfl | hp
    · exact S30
    cases hp)) mixedOK (by kernel_rfl : Tryd.prog.funcs[5]? = some Tryd.f5) (by kernel_rfl) (by kernel_rfl : Tryd.f5.body = some body5) (by kernel_rfl) (by kernel_rfl)
    (fun x y hw hy => by obtain ⟨k, hk⟩ := h5 x.1 x.2.1 x.2.2.1 x.2.2.2.1 y hw hy; exact ⟨k, (ev5 s15 s16 s27 s28 s29 s30 k x).trans hk⟩)
set_option maxHeartbeats 2000000 in
theorem walk6 (a : Option Addr) (c : Nat) (w : World) : Calls Tryd.prog 6 #[.slice a 0 c] w fun e w' => ∃ a' c', e = .returned (.slice a' 0 c') ∧ c' ≤ 9223372036854775807 ∧ Keep None w w' := by
  have q : ∀ (w : World) (a : Option Addr) (n c n' c' : Nat), (binOp .eql 22 (.slice a n c) (.slice none n' c')).run Tryd.prog w = .ok (.bool a.isNone) w := fun w a n c n' c' => Lib.run_eql_slice_nil w _ _ a n c n' c' Tryd.underlying22
  cases a with
  | none =>
    go_enter Tryd.func6, Tryd.ntmps6
    go_wp2
    go_ret
    exact ⟨none, 0, rfl, by omega, Keep.refl _ _⟩
  | some a =>
    go_enter Tryd.func6, Tryd.ntmps6
    go_wp2
    go_ret
    exact ⟨_, _, rfl, by omega, Keep.alloc _ _ _ _⟩
theorem cl6 (xs : List (ByteArray × (Int × Int × Unit) × Int × Int × Int × Unit)) (hne : xs ≠ []) (hl : xs.length ≤ 4294967296) : f6 0 xs = some (xs, ()) := by
  cases xs with
  | nil => exact absurd rfl hne
  | cons z l =>
    have h2 : decide (List.length ([] : List (ByteArray × (Int × Int × Unit) × Int × Int × Int × Unit)) + List.length (z :: l) ≤ 4294967296) = true := by simpa using hl
    unfold f6
    rw [show Nat.ble (List.length (z :: l)) 0 = false from rfl, h2]
    rfl
theorem S6 : SoundF Tryd.prog 6 (.pfn (.cons (.slice (.struct (.cons .str (.cons (.struct (.cons (.int .i64) (.cons (.int .i64) .nil))) (.cons (.int .i64) (.cons (.int .i64) (.cons (.int .i64) .nil))))))) .nil) (.cons (.slice (.struct (.cons .str (.cons (.struct (.cons (.int .i64) (.cons (.int .i64) .nil))) (.cons (.int .i64) (.cons (.int .i64) (.cons (.int .i64) .nil))))))) .nil) fun x => s6 x.1) := by
  intro ρ args objs K r hr
  exact clone_sound (T := (.struct (.cons .str (.cons (.struct (.cons (.int .i64) (.cons (.int .i64) .nil))) (.cons (.int .i64) (.cons (.int .i64) (.cons (.int .i64) .nil))))))) (g1 := fun x => f6 0 x.1) (pfn_sound (E := fun _ => mkEnv ts6 fs6) (H := H6) (fun _ => mkEnv_ok ty6 (fun p hp => by unfold fs6 at hp; cases hp)) mixedOK (by kernel_rfl : Tryd.prog.funcs[6]? = some Tryd.f6) (by kernel_rfl) (by kernel_rfl : Tryd.f6.body = some body6) (by kernel_rfl) (by kernel_rfl) (fun x y hw hy => ⟨0, (ev6 0 x).trans hy⟩)) (enters_of (by kernel_rfl : Tryd.prog.funcs[6]? = some Tryd.f6) (by kernel_rfl) (by kernel_rfl : Tryd.f6.body = some body6))
    (fun xs hne hl => cl6 xs hne hl) walk6 args objs K r hr
set_option maxHeartbeats 2000000 in
theorem walk7 (a : Option Addr) (c : Nat) (w : World) : Calls Tryd.prog 7 #[.slice a 0 c] w fun e w' => ∃ a' c', e = .returned (.slice a' 0 c') ∧ c' ≤ 9223372036854775807 ∧ Keep None w w' := by
  have q : ∀ (w : World) (a : Option Addr) (n c n' c' : Nat), (binOp .eql 23 (.slice a n c) (.slice none n' c')).run Tryd.prog w = .ok (.bool a.isNone) w := fun w a n c n' c' => Lib.run_eql_slice_nil w _ _ a n c n' c' Tryd.underlying23
  cases a with
  | none =>
    go_enter Tryd.func7, Tryd.ntmps7
    go_wp2
    go_ret
    exact ⟨none, 0, rfl, by omega, Keep.refl _ _⟩
  | some a =>
    go_enter Tryd.func7, Tryd.ntmps7
    go_wp2
    go_ret
    exact ⟨_, _, rfl, by omega, Keep.alloc _ _ _ _⟩
theorem cl7 (xs : List (ByteArray × ByteArray × Int × Bool × Unit)) (hne : xs ≠ []) (hl : xs.length ≤ 4294967296) : f7 0 xs = some (xs, ()) := by
  cases xs with
  | nil => exact absurd rfl hne
  | cons z l =>
    have h2 : decide (List.length ([] : List (ByteArray × ByteArray × Int × Bool × Unit)) + List.length (z :: l) ≤ 4294967296) = true := by simpa using hl
    unfold f7
    rw [show Nat.ble (List.length (z :: l)) 0 = false from rfl, h2]
    rfl
theorem S7 : SoundF Tryd.prog 7 (.pfn (.cons (.slice (.struct (.cons .str (.cons .str (.cons (.int .i64) (.cons .bool .nil)))))) .nil) (.cons (.slice (.struct (.cons .str (.cons .str (.cons (.int .i64) (.cons .bool .nil)))))) .nil) fun x => s7 x.1) := by
  intro ρ args objs K r hr
  exact clone_sound (T := (.struct (.cons .str (.cons .str (.cons (.int .i64) (.cons .bool .nil)))))) (g1 := fun x => f7 0 x.1) (pfn_sound (E := fun _ => mkEnv ts7 fs7) (H := H7) (fun _ => mkEnv_ok ty7 (fun p hp => by unfold fs7 at hp; cases hp)) mixedOK (by kernel_rfl : Tryd.prog.funcs[7]? = some Tryd.f7) (by kernel_rfl) (by kernel_rfl : Tryd.f7.body = some body7) (by kernel_rfl) (by kernel_rfl) (fun x y hw hy => ⟨0, (ev7 0 x).trans hy⟩)) (enters_of (by kernel_rfl : Tryd.prog.funcs[7]? = some Tryd.f7) (by kernel_rfl) (by kernel_rfl : Tryd.f7.body = some body7))
    (fun xs hne hl => cl7 xs hne hl) walk7 args objs K r hr
/-! ### jitney/jitlaw2.errs -/
theorem S8 : SoundF Tryd.prog 8 (.fn (.cons (.slice (.int .i64)) .nil) (.cons (.int .i64) .nil) fun x => (s8 x.1, ())) :=
  fn_sound (E := fun k => mkEnv ts8 (fs8 )) (H := H8) (fun k => mkEnv_ok ty8 (fun p hp => by unfold fs8 at hp; cases hp)) mixedOK (by kernel_rfl : Tryd.prog.funcs[8]? = some Tryd.f8) (by kernel_rfl) (by kernel_rfl : Tryd.f8.body = some body8) (by kernel_rfl) (by kernel_rfl)
    (fun x hw => by obtain ⟨k, hk⟩ := h8 x.1 hw; exact ⟨k, (ev8  k x).trans hk⟩)
/-! ### jitney/jitref2.in -/
theorem S31 : SoundF Tryd.prog 31 (.fn (.cons (.int .i64) (.cons (.int .i64) (.cons (.int .i64) .nil))) (.cons .bool .nil) fun x => (s31 x.1 x.2.1 x.2.2.1, ())) :=
  fn_sound (E := fun k => mkEnv ts31 (fs31 )) (H := H31) (fun k => mkEnv_ok ty31 (fun p hp => by unfold fs31 at hp; cases hp)) mixedOK (by kernel_rfl : Tryd.prog.funcs[31]? = some Tryd.f31) (by kernel_rfl) (by kernel_rfl : Tryd.f31.body = some body31) (by kernel_rfl) (by kernel_rfl)
    (fun x hw => by obtain ⟨k, hk⟩ := h31 x.1 x.2.1 x.2.2.1 hw; exact ⟨k, (ev31  k x).trans hk⟩)
/-! ### strings.IndexByte -/
theorem S51 : SoundF Tryd.prog 51 (.fn (.cons .str (.cons (.int .u8) .nil)) (.cons (.int .i64) .nil) fun x => (s51 x.1 x.2.1, ())) :=
  fn_sound (E := fun k => mkEnv ts51 (fs51 s63)) (H := H51) (fun k => mkEnv_ok ty51 (fun p hp => by
    unfold fs51 at hp
    rcases List.mem_cons.1 hp with rfl | hp
    · exact S63
    cases hp)) mixedOK (by kernel_rfl : Tryd.prog.funcs[51]? = some Tryd.f51) (by kernel_rfl) (by kernel_rfl : Tryd.f51.body = some body51) (by kernel_rfl) (by kernel_rfl)
    (fun x hw => by obtain ⟨k, hk⟩ := h51 x.1 x.2.1 hw; exact ⟨k, (ev51 s63 k x).trans hk⟩)
/-! ### jitney/jitref2.only -/
theorem S34 : SoundF Tryd.prog 34 (.fn (.cons .str (.cons .str .nil)) (.cons .bool .nil) fun x => (s34 x.1 x.2.1, ())) :=
  fn_sound (E := fun k => mkEnv ts34 (fs34 s51)) (H := H34) (fun k => mkEnv_ok ty34 (fun p hp => by
    unfold fs34 at hp
    rcases List.mem_cons.1 hp with rfl | hp
    · exact S51
    cases hp)) mixedOK (by kernel_rfl : Tryd.prog.funcs[34]? = some Tryd.f34) (by kernel_rfl) (by kernel_rfl : Tryd.f34.body = some body34) (by kernel_rfl) (by kernel_rfl)
    (fun x hw => by obtain ⟨k, hk⟩ := h34 x.1 x.2.1 hw; exact ⟨k, (ev34 s51 k x).trans hk⟩)
/-! ### jitney/jitref2.Key -/
theorem S12 : SoundF Tryd.prog 12 (.fn (.cons .str .nil) (.cons .bool .nil) fun x => (s12 x.1, ())) :=
  fn_sound (E := fun k => mkEnv ts12 (fs12 s31 s34)) (H := H12) (fun k => mkEnv_ok ty12 (fun p hp => by
    unfold fs12 at hp
    rcases List.mem_cons.1 hp with rfl | hp
    · exact S31
    rcases List.mem_cons.1 hp with rfl | hp
    · exact S34
    cases hp)) mixedOK (by kernel_rfl : Tryd.prog.funcs[12]? = some Tryd.f12) (by kernel_rfl) (by kernel_rfl : Tryd.f12.body = some body12) (by kernel_rfl) (by kernel_rfl)
    (fun x hw => by obtain ⟨k, hk⟩ := h12 x.1 hw; exact ⟨k, (ev12 s31 s34 k x).trans hk⟩)
/-! ### jitney/jitref2.QuestsFault -/
theorem S9 : SoundF Tryd.prog 9 (.fn (.cons (.slice (.struct (.cons .str (.cons (.struct (.cons (.int .i64) (.cons (.int .i64) .nil))) (.cons (.int .i64) (.cons (.int .i64) (.cons (.int .i64) .nil))))))) .nil) (.cons (.int .i64) .nil) fun x => (s9 x.1, ())) :=
  fn_sound (E := fun k => mkEnv ts9 (fs9 s12 s31)) (H := H9) (fun k => mkEnv_ok ty9 (fun p hp => by
    unfold fs9 at hp
    rcases List.mem_cons.1 hp with rfl | hp
    · exact S12
    rcases List.mem_cons.1 hp with rfl | hp
    · exact S31
    cases hp)) mixedOK (by kernel_rfl : Tryd.prog.funcs[9]? = some Tryd.f9) (by kernel_rfl) (by kernel_rfl : Tryd.f9.body = some body9) (by kernel_rfl) (by kernel_rfl)
    (fun x hw => by obtain ⟨k, hk⟩ := h9 x.1 hw; exact ⟨k, (ev9 s12 s31 k x).trans hk⟩)
/-! ### jitney/jitref2.Moment -/
theorem S32 : SoundF Tryd.prog 32 (.fn (.cons (.int .i64) .nil) (.cons .bool .nil) fun x => (s32 x.1, ())) :=
  fn_sound (E := fun k => mkEnv ts32 (fs32 s31)) (H := H32) (fun k => mkEnv_ok ty32 (fun p hp => by
    unfold fs32 at hp
    rcases List.mem_cons.1 hp with rfl | hp
    · exact S31
    cases hp)) mixedOK (by kernel_rfl : Tryd.prog.funcs[32]? = some Tryd.f32) (by kernel_rfl) (by kernel_rfl : Tryd.f32.body = some body32) (by kernel_rfl) (by kernel_rfl)
    (fun x hw => by obtain ⟨k, hk⟩ := h32 x.1 hw; exact ⟨k, (ev32 s31 k x).trans hk⟩)
/-! ### cmp.isNaN[string] -/
theorem S62 : SoundF Tryd.prog 62 (.fn (.cons .str .nil) (.cons .bool .nil) fun x => (s62 x.1, ())) :=
  fn_sound (E := fun k => mkEnv ts62 (fs62 )) (H := H62) (fun k => mkEnv_ok ty62 (fun p hp => by unfold fs62 at hp; cases hp)) mixedOK (by kernel_rfl : Tryd.prog.funcs[62]? = some Tryd.f62) (by kernel_rfl) (by kernel_rfl : Tryd.f62.body = some body62) (by kernel_rfl) (by kernel_rfl)
    (fun x hw => by obtain ⟨k, hk⟩ := h62 x.1 hw; exact ⟨k, (ev62  k x).trans hk⟩)
/-! ### cmp.Compare[string] -/
theorem S50 : SoundF Tryd.prog 50 (.fn (.cons .str (.cons .str .nil)) (.cons (.int .i64) .nil) fun x => (s50 x.1 x.2.1, ())) :=
  fn_sound (E := fun k => mkEnv ts50 (fs50 s62)) (H := H50) (fun k => mkEnv_ok ty50 (fun p hp => by
    unfold fs50 at hp
    rcases List.mem_cons.1 hp with rfl | hp
    · exact S62
    cases hp)) mixedOK (by kernel_rfl : Tryd.prog.funcs[50]? = some Tryd.f50) (by kernel_rfl) (by kernel_rfl : Tryd.f50.body = some body50) (by kernel_rfl) (by kernel_rfl)
    (fun x hw => by obtain ⟨k, hk⟩ := h50 x.1 x.2.1 hw; exact ⟨k, (ev50 s62 k x).trans hk⟩)
/-! ### slices.Compare[[]string,string] -/
theorem S33 : SoundF Tryd.prog 33 (.fn (.cons (.slice .str) (.cons (.slice .str) .nil)) (.cons (.int .i64) .nil) fun x => (s33 x.1 x.2.1, ())) :=
  fn_sound (E := fun k => mkEnv ts33 (fs33 s50)) (H := H33) (fun k => mkEnv_ok ty33 (fun p hp => by
    unfold fs33 at hp
    rcases List.mem_cons.1 hp with rfl | hp
    · exact S50
    cases hp)) mixedOK (by kernel_rfl : Tryd.prog.funcs[33]? = some Tryd.f33) (by kernel_rfl) (by kernel_rfl : Tryd.f33.body = some body33) (by kernel_rfl) (by kernel_rfl)
    (fun x hw => by obtain ⟨k, hk⟩ := h33 x.1 x.2.1 hw; exact ⟨k, (ev33 s50 k x).trans hk⟩)
/-! ### jitney/jitref2.DoneFault -/
theorem S10 : SoundF Tryd.prog 10 (.fn (.cons (.slice (.struct (.cons .str (.cons .str (.cons (.int .i64) (.cons .bool .nil)))))) .nil) (.cons (.int .i64) .nil) fun x => (s10 x.1, ())) :=
  fn_sound (E := fun k => mkEnv ts10 (fs10 s12 s32 s33)) (H := H10) (fun k => mkEnv_ok ty10 (fun p hp => by
    unfold fs10 at hp
    rcases List.mem_cons.1 hp with rfl | hp
    · exact S12
    rcases List.mem_cons.1 hp with rfl | hp
    · exact S32
    rcases List.mem_cons.1 hp with rfl | hp
    · exact S33
    cases hp)) mixedOK (by kernel_rfl : Tryd.prog.funcs[10]? = some Tryd.f10) (by kernel_rfl) (by kernel_rfl : Tryd.f10.body = some body10) (by kernel_rfl) (by kernel_rfl)
    (fun x hw => by obtain ⟨k, hk⟩ := h10 x.1 hw; exact ⟨k, (ev10 s12 s32 s33 k x).trans hk⟩)
/-! ### jitney/jitlaw2.when -/
theorem S11 : SoundF Tryd.prog 11 (.fn (.cons .bool (.cons (.int .i64) .nil)) (.cons (.int .i64) .nil) fun x => (s11 x.1 x.2.1, ())) :=
  fn_sound (E := fun k => mkEnv ts11 (fs11 )) (H := H11) (fun k => mkEnv_ok ty11 (fun p hp => by unfold fs11 at hp; cases hp)) mixedOK (by kernel_rfl : Tryd.prog.funcs[11]? = some Tryd.f11) (by kernel_rfl) (by kernel_rfl : Tryd.f11.body = some body11) (by kernel_rfl) (by kernel_rfl)
    (fun x hw => by obtain ⟨k, hk⟩ := h11 x.1 x.2.1 hw; exact ⟨k, (ev11  k x).trans hk⟩)
/-! ### jitney/jitlaw2.momentFault -/
theorem S13 : SoundF Tryd.prog 13 (.fn (.cons (.int .i64) .nil) (.cons (.int .i64) .nil) fun x => (s13 x.1, ())) :=
  fn_sound (E := fun k => mkEnv ts13 (fs13 s11 s32)) (H := H13) (fun k => mkEnv_ok ty13 (fun p hp => by
    unfold fs13 at hp
    rcases List.mem_cons.1 hp with rfl | hp
    · exact S11
    rcases List.mem_cons.1 hp with rfl | hp
    · exact S32
    cases hp)) mixedOK (by kernel_rfl : Tryd.prog.funcs[13]? = some Tryd.f13) (by kernel_rfl) (by kernel_rfl : Tryd.f13.body = some body13) (by kernel_rfl) (by kernel_rfl)
    (fun x hw => by obtain ⟨k, hk⟩ := h13 x.1 hw; exact ⟨k, (ev13 s11 s32 k x).trans hk⟩)
/-! ### jitney/jitref2.inside -/
theorem S35 : SoundF Tryd.prog 35 (.fn (.cons (.int .i64) (.cons (.struct (.cons (.int .i64) (.cons (.int .i64) .nil))) .nil)) (.cons .bool .nil) fun x => (s35 x.1 x.2.1, ())) :=
  fn_sound (E := fun k => mkEnv ts35 (fs35 )) (H := H35) (fun k => mkEnv_ok ty35 (fun p hp => by unfold fs35 at hp; cases hp)) mixedOK (by kernel_rfl : Tryd.prog.funcs[35]? = some Tryd.f35) (by kernel_rfl) (by kernel_rfl : Tryd.f35.body = some body35) (by kernel_rfl) (by kernel_rfl)
    (fun x hw => by obtain ⟨k, hk⟩ := h35 x.1 x.2.1 hw; exact ⟨k, (ev35  k x).trans hk⟩)
/-! ### jitney/jitref2.BonusOf -/
theorem S14 : SoundF Tryd.prog 14 (.pfn (.cons (.slice (.struct (.cons .str (.cons (.struct (.cons (.int .i64) (.cons (.int .i64) .nil))) (.cons (.int .i64) (.cons (.int .i64) (.cons (.int .i64) .nil))))))) (.cons (.slice (.struct (.cons .str (.cons .str (.cons (.int .i64) (.cons .bool .nil)))))) (.cons .str (.cons (.int .i64) .nil)))) (.cons (.slice (.struct (.cons .str (.cons .str .nil)))) .nil) fun x => s14 x.1 x.2.1 x.2.2.1 x.2.2.2.1) :=
  pfn_sound (E := fun k => mkEnv ts14 (fs14 s30 s35)) (H := H14) (fun k => mkEnv_ok ty14 (fun p hp => by
    unfold fs14 at hp
    rcases List.mem_cons.1 hp with rfl | hp
    · exact S30
    rcases List.mem_cons.1 hp with rfl | hp
    · exact S35
    cases hp)) mixedOK (by kernel_rfl : Tryd.prog.funcs[14]? = some Tryd.f14) (by kernel_rfl) (by kernel_rfl : Tryd.f14.body = some body14) (by kernel_rfl) (by kernel_rfl)
    (fun x y hw hy => by obtain ⟨k, hk⟩ := h14 x.1 x.2.1 x.2.2.1 x.2.2.2.1 y hw hy; exact ⟨k, (ev14 s30 s35 k x).trans hk⟩)
/-! ### slices.Equal[[]jitney/api.Pair,jitney/api.Pair] -/
theorem S17 : SoundF Tryd.prog 17 (.fn (.cons (.slice (.struct (.cons .str (.cons .str .nil)))) (.cons (.slice (.struct (.cons .str (.cons .str .nil)))) .nil)) (.cons .bool .nil) fun x => (s17 x.1 x.2.1, ())) :=
  fn_sound (E := fun k => mkEnv ts17 (fs17 )) (H := H17) (fun k => mkEnv_ok ty17 (fun p hp => by unfold fs17 at hp; cases hp)) mixedOK (by kernel_rfl : Tryd.prog.funcs[17]? = some Tryd.f17) (by kernel_rfl) (by kernel_rfl : Tryd.f17.body = some body17) (by kernel_rfl) (by kernel_rfl)
    (fun x hw => by obtain ⟨k, hk⟩ := h17 x.1 x.2.1 hw; exact ⟨k, (ev17  k x).trans hk⟩)
/-! ### jitney/trust.sameWords -/
theorem S80 : SoundF Tryd.prog 80 (.fn (.cons (.struct (.cons .str (.cons .str (.cons .str (.cons (.int .i64) (.cons (.int .i64) .nil)))))) (.cons (.struct (.cons .str (.cons .str (.cons .str (.cons (.int .i64) (.cons (.int .i64) .nil)))))) .nil)) (.cons (.int .i64) .nil) fun x => (s80 x.1 x.2.1, ())) :=
  fn_sound (E := fun k => mkEnv ts80 (fs80 s38 s48)) (H := H80) (fun k => mkEnv_ok ty80 (fun p hp => by
    unfold fs80 at hp
    rcases List.mem_cons.1 hp with rfl | hp
    · exact S38
    rcases List.mem_cons.1 hp with rfl | hp
    · exact S48
    cases hp)) mixedOK (by kernel_rfl : Tryd.prog.funcs[80]? = some Tryd.f80) (by kernel_rfl) (by kernel_rfl : Tryd.f80.body = some body80) (by kernel_rfl) (by kernel_rfl)
    (fun x hw => by obtain ⟨k, hk⟩ := h80 x.1 x.2.1 hw; exact ⟨k, (ev80 s38 s48 k x).trans hk⟩)
/-! ### jitney/trust.byRating -/
theorem S64 : SoundF Tryd.prog 64 (.fn (.cons (.struct (.cons .str (.cons .str (.cons .str (.cons (.int .i64) (.cons (.int .i64) .nil)))))) (.cons (.struct (.cons .str (.cons .str (.cons .str (.cons (.int .i64) (.cons (.int .i64) .nil)))))) .nil)) (.cons (.int .i64) .nil) fun x => (s64 x.1 x.2.1, ())) :=
  fn_sound (E := fun k => mkEnv ts64 (fs64 s38 s39 s80)) (H := H64) (fun k => mkEnv_ok ty64 (fun p hp => by
    unfold fs64 at hp
    rcases List.mem_cons.1 hp with rfl | hp
    · exact S38
    rcases List.mem_cons.1 hp with rfl | hp
    · exact S39
    rcases List.mem_cons.1 hp with rfl | hp
    · exact S80
    cases hp)) mixedOK (by kernel_rfl : Tryd.prog.funcs[64]? = some Tryd.f64) (by kernel_rfl) (by kernel_rfl : Tryd.f64.body = some body64) (by kernel_rfl) (by kernel_rfl)
    (fun x hw => by obtain ⟨k, hk⟩ := h64 x.1 x.2.1 hw; exact ⟨k, (ev64 s38 s39 s80 k x).trans hk⟩)
/-! ### jitney/trust.CheckRatings -/
theorem S53 : SoundF Tryd.prog 53 (.fn (.cons (.slice (.struct (.cons .str (.cons .str (.cons .str (.cons (.int .i64) (.cons (.int .i64) .nil))))))) .nil) (.cons (.int .i64) .nil) fun x => (s53 x.1, ())) :=
  fn_sound (E := fun k => mkEnv ts53 (fs53 s36 s37 s40 s64)) (H := H53) (fun k => mkEnv_ok ty53 (fun p hp => by
    unfold fs53 at hp
    rcases List.mem_cons.1 hp with rfl | hp
    · exact S36
    rcases List.mem_cons.1 hp with rfl | hp
    · exact S37
    rcases List.mem_cons.1 hp with rfl | hp
    · exact S40
    rcases List.mem_cons.1 hp with rfl | hp
    · exact S64
    cases hp)) mixedOK (by kernel_rfl : Tryd.prog.funcs[53]? = some Tryd.f53) (by kernel_rfl) (by kernel_rfl : Tryd.f53.body = some body53) (by kernel_rfl) (by kernel_rfl)
    (fun x hw => by obtain ⟨k, hk⟩ := h53 x.1 hw; exact ⟨k, (ev53 s36 s37 s40 s64 k x).trans hk⟩)
/-! ### jitney/trust.faithFault -/
theorem S54 : SoundF Tryd.prog 54 (.fn (.cons (.struct (.cons (.int .i64) (.cons (.int .i64) (.cons (.int .i64) .nil)))) .nil) (.cons (.int .i64) .nil) fun x => (s54 x.1, ())) :=
  fn_sound (E := fun k => mkEnv ts54 (fs54 s40)) (H := H54) (fun k => mkEnv_ok ty54 (fun p hp => by
    unfold fs54 at hp
    rcases List.mem_cons.1 hp with rfl | hp
    · exact S40
    cases hp)) mixedOK (by kernel_rfl : Tryd.prog.funcs[54]? = some Tryd.f54) (by kernel_rfl) (by kernel_rfl : Tryd.f54.body = some body54) (by kernel_rfl) (by kernel_rfl)
    (fun x hw => by obtain ⟨k, hk⟩ := h54 x.1 hw; exact ⟨k, (ev54 s40 k x).trans hk⟩)
/-! ### jitney/trust.counting -/
theorem S65 : SoundF Tryd.prog 65 (.pfn (.cons (.slice (.struct (.cons .str (.cons .str (.cons .str (.cons (.int .i64) (.cons (.int .i64) .nil))))))) (.cons (.int .i64) .nil)) (.cons (.slice (.struct (.cons .str (.cons .str (.cons .str (.cons (.int .i64) (.cons (.int .i64) .nil))))))) .nil) fun x => s65 x.1 x.2.1) :=
  pfn_sound (E := fun k => mkEnv ts65 (fs65 s80)) (H := H65) (fun k => mkEnv_ok ty65 (fun p hp => by
    unfold fs65 at hp
    rcases List.mem_cons.1 hp with rfl | hp
    · exact S80
    cases hp)) mixedOK (by kernel_rfl : Tryd.prog.funcs[65]? = some Tryd.f65) (by kernel_rfl) (by kernel_rfl : Tryd.f65.body = some body65) (by kernel_rfl) (by kernel_rfl)
    (fun x y hw hy => by obtain ⟨k, hk⟩ := h65 x.1 x.2.1 y hw hy; exact ⟨k, (ev65 s80 k x).trans hk⟩)
/-! ### jitney/base.Gcd -/
theorem S81 : SoundF Tryd.prog 81 (.pfn (.cons (.int .i64) (.cons (.int .i64) .nil)) (.cons (.int .i64) .nil) fun x => s81 x.1 x.2.1) :=
  pfn_sound (E := fun k => mkEnv ts81 (fs81 )) (H := H81) (fun k => mkEnv_ok ty81 (fun p hp => by unfold fs81 at hp; cases hp)) mixedOK (by kernel_rfl : Tryd.prog.funcs[81]? = some Tryd.f81) (by kernel_rfl) (by kernel_rfl : Tryd.f81.body = some body81) (by kernel_rfl) (by kernel_rfl)
    (fun x y hw hy => by obtain ⟨k, hk⟩ := h81 x.1 x.2.1 y hw hy; exact ⟨k, (ev81  k x).trans hk⟩)
/-! ### jitney/base.Fraction -/
theorem S66 : SoundF Tryd.prog 66 (.pfn (.cons (.int .i64) (.cons (.int .i64) .nil)) (.cons (.struct (.cons (.int .i64) (.cons (.int .i64) .nil))) .nil) fun x => s66 x.1 x.2.1) :=
  pfn_sound (E := fun k => mkEnv ts66 (fs66 s81)) (H := H66) (fun k => mkEnv_ok ty66 (fun p hp => by
    unfold fs66 at hp
    rcases List.mem_cons.1 hp with rfl | hp
    · exact S81
    cases hp)) mixedOK (by kernel_rfl : Tryd.prog.funcs[66]? = some Tryd.f66) (by kernel_rfl) (by kernel_rfl : Tryd.f66.body = some body66) (by kernel_rfl) (by kernel_rfl)
    (fun x y hw hy => by obtain ⟨k, hk⟩ := h66 x.1 x.2.1 y hw hy; exact ⟨k, (ev66 s81 k x).trans hk⟩)
/-! ### jitney/trust.Score -/
theorem SI41_55 (k : Nat) : SoundF Tryd.prog 55 (.ev (mkEnv tsi41_55 (fsi41_55 s27 s36 s37 s53 s54 s65 s66 k)) Hi41_55 k bodyi41_55 61 [.tmp 6]) :=
  ev_inline (mkEnv_ok tyi41_55 (fun p hp => by
    unfold fsi41_55 at hp
    rcases List.mem_cons.1 hp with rfl | hp
    · exact S65
    cases hp)) mixedOK (by kernel_rfl : Tryd.prog.funcs[55]? = some Tryd.f55) (by kernel_rfl) (by kernel_rfl : Tryd.f55.body = some bodyi41_55) (by kernel_rfl) (by kernel_rfl)
theorem SI41_56 (k : Nat) : SoundF Tryd.prog 56 (.evr (mkEnv tsi41_56 (fsi41_56 s27 s36 s37 s53 s54 s65 s66 k)) Hi41_56 k bodyi41_56 37 [.cell 6 75, .tmp 7]) :=
  ev_inlineR (mkEnv_ok tyi41_56 (fun p hp => by
    unfold fsi41_56 at hp
    rcases List.mem_cons.1 hp with rfl | hp
    · exact S66
    cases hp)) mixedOK (by kernel_rfl : Tryd.prog.funcs[56]? = some Tryd.f56) (by kernel_rfl) (by kernel_rfl : Tryd.f56.body = some bodyi41_56) (by kernel_rfl) (by kernel_rfl)
theorem S41 : SoundF Tryd.prog 41 (.pfn (.cons (.struct (.cons (.int .i64) (.cons (.int .i64) (.cons (.int .i64) .nil)))) (.cons (.slice (.struct (.cons .str (.cons .str (.cons .str (.cons (.int .i64) (.cons (.int .i64) .nil))))))) (.cons .str (.cons (.int .i64) .nil)))) (.cons (.struct (.cons (.int .i64) (.cons (.int .i64) .nil))) (.cons (.int .i64) .nil)) fun x => s41 x.1 x.2.1 x.2.2.1 x.2.2.2.1) :=
  pfn_sound (E := fun k => mkEnv ts41 (fs41 s27 s36 s37 s53 s54 s65 s66 k)) (H := H41) (fun k => mkEnv_ok ty41 (fun p hp => by
    unfold fs41 at hp
    rcases List.mem_cons.1 hp with rfl | hp
    · exact S27
    rcases List.mem_cons.1 hp with rfl | hp
    · exact S36
    rcases List.mem_cons.1 hp with rfl | hp
    · exact S37
    rcases List.mem_cons.1 hp with rfl | hp
    · exact S53
    rcases List.mem_cons.1 hp with rfl | hp
    · exact S54
    rcases List.mem_cons.1 hp with rfl | hp
    · exact SI41_55 k
    rcases List.mem_cons.1 hp with rfl | hp
    · exact SI41_56 k
    cases hp)) mixedOK (by kernel_rfl : Tryd.prog.funcs[41]? = some Tryd.f41) (by kernel_rfl) (by kernel_rfl : Tryd.f41.body = some body41) (by kernel_rfl) (by kernel_rfl)
    (fun x y hw hy => by obtain ⟨k, hk⟩ := h41 x.1 x.2.1 x.2.2.1 x.2.2.2.1 y hw hy; exact ⟨k, (ev41 s27 s36 s37 s53 s54 s65 s66 k x).trans hk⟩)
/-! ### jitney/jitlaw2.trusted -/
theorem S18 : SoundF Tryd.prog 18 (.pfn .nil (.cons .bool .nil) fun x => s18) :=
  pfn_sound (E := fun k => mkEnv ts18 (fs18 s41)) (H := H18) (fun k => mkEnv_ok ty18 (fun p hp => by
    unfold fs18 at hp
    rcases List.mem_cons.1 hp with rfl | hp
    · exact S41
    cases hp)) mixedOK (by kernel_rfl : Tryd.prog.funcs[18]? = some Tryd.f18) (by kernel_rfl) (by kernel_rfl : Tryd.f18.body = some body18) (by kernel_rfl) (by kernel_rfl)
    (fun x y hw hy => by obtain ⟨k, hk⟩ := h18  y hw hy; exact ⟨k, (ev18 s41 k x).trans hk⟩)
/-! ### jitney/jitlaw2.BonusesPaid -/
theorem S3 : SoundF Tryd.prog 3 (.pfn (.cons (.slice (.struct (.cons .str (.cons (.struct (.cons (.int .i64) (.cons (.int .i64) .nil))) (.cons (.int .i64) (.cons (.int .i64) (.cons (.int .i64) .nil))))))) (.cons (.slice (.struct (.cons .str (.cons .str (.cons (.int .i64) (.cons .bool .nil)))))) (.cons .str (.cons (.int .i64) .nil)))) (.cons .bool .nil) fun x => s3 x.1 x.2.1 x.2.2.1 x.2.2.2.1) :=
  pfn_sound (E := fun k => mkEnv ts3 (fs3 s5 s6 s7 s8 s9 s10 s11 s12 s13 s14 s15 s16 s17 s18)) (H := H3) (fun k => mkEnv_ok ty3 (fun p hp => by
    unfold fs3 at hp
    rcases List.mem_cons.1 hp with rfl | hp
    · exact S5
    rcases List.mem_cons.1 hp with rfl | hp
    · exact S6
    rcases List.mem_cons.1 hp with rfl | hp
    · exact S7
    rcases List.mem_cons.1 hp with rfl | hp
    · exact S8
    rcases List.mem_cons.1 hp with rfl | hp
    · exact S9
    rcases List.mem_cons.1 hp with rfl | hp
    · exact S10
    rcases List.mem_cons.1 hp with rfl | hp
    · exact S11
    rcases List.mem_cons.1 hp with rfl | hp
    · exact S12
    rcases List.mem_cons.1 hp with rfl | hp
    · exact S13
    rcases List.mem_cons.1 hp with rfl | hp
    · exact S14
    rcases List.mem_cons.1 hp with rfl | hp
    · exact S15
    rcases List.mem_cons.1 hp with rfl | hp
    · exact S16
    rcases List.mem_cons.1 hp with rfl | hp
    · exact S17
    rcases List.mem_cons.1 hp with rfl | hp
    · exact S18
    cases hp)) mixedOK (by kernel_rfl : Tryd.prog.funcs[3]? = some Tryd.f3) (by kernel_rfl) (by kernel_rfl : Tryd.f3.body = some body3) (by kernel_rfl) (by kernel_rfl)
    (fun x y hw hy => by obtain ⟨k, hk⟩ := h3 x.1 x.2.1 x.2.2.1 x.2.2.2.1 y hw hy; exact ⟨k, (ev3 s5 s6 s7 s8 s9 s10 s11 s12 s13 s14 s15 s16 s17 s18 k x).trans hk⟩)
end Go.Vm
