/- The program's functions are what the specs say. -/
import Derived.Test.YtfiembgemhonlaaLSpec
import Derived.Test.YtfiembgemhonlaaLSort
import Derived.Test.YtfiembgemhonlaaBSnd
set_option maxRecDepth 100000
set_option linter.unusedVariables false
namespace Go.Vm
open Go.Proofs
/-! ### jitney/jitref2.Moment -/
theorem S125 : SoundF Try.prog 125 (.fn (.cons (.int .i64) .nil) (.cons .bool .nil) fun x => (s125 x.1, ())) :=
  fn_sound (E := fun k => mkEnv ts125 (fs125 s115)) (H := H125) (fun k => mkEnv_ok ty125 (fun p hp => by
    unfold fs125 at hp
    rcases List.mem_cons.1 hp with rfl | hp
    · exact S115
    cases hp)) mixedOK (by kernel_rfl : Try.prog.funcs[125]? = some Try.f125) (by kernel_rfl) (by kernel_rfl : Try.f125.body = some body125) (by kernel_rfl) (by kernel_rfl)
    (fun x hw => by obtain ⟨k, hk⟩ := h125 x.1 hw; exact ⟨k, (ev125 s115 k x).trans hk⟩)
/-! ### jitney/jitlaw2.momentFault -/
theorem S32 : SoundF Try.prog 32 (.fn (.cons (.int .i64) .nil) (.cons (.int .i64) .nil) fun x => (s32 x.1, ())) :=
  fn_sound (E := fun k => mkEnv ts32 (fs32 s21 s125)) (H := H32) (fun k => mkEnv_ok ty32 (fun p hp => by
    unfold fs32 at hp
    rcases List.mem_cons.1 hp with rfl | hp
    · exact S21
    rcases List.mem_cons.1 hp with rfl | hp
    · exact S125
    cases hp)) mixedOK (by kernel_rfl : Try.prog.funcs[32]? = some Try.f32) (by kernel_rfl) (by kernel_rfl : Try.f32.body = some body32) (by kernel_rfl) (by kernel_rfl)
    (fun x hw => by obtain ⟨k, hk⟩ := h32 x.1 hw; exact ⟨k, (ev32 s21 s125 k x).trans hk⟩)
/-! ### jitney/base.Moment -/
theorem S121 : SoundF Try.prog 121 (.fn (.cons (.int .i64) .nil) (.cons .bool .nil) fun x => (s121 x.1, ())) :=
  fn_sound (E := fun k => mkEnv ts121 (fs121 s114)) (H := H121) (fun k => mkEnv_ok ty121 (fun p hp => by
    unfold fs121 at hp
    rcases List.mem_cons.1 hp with rfl | hp
    · exact S114
    cases hp)) mixedOK (by kernel_rfl : Try.prog.funcs[121]? = some Try.f121) (by kernel_rfl) (by kernel_rfl : Try.f121.body = some body121) (by kernel_rfl) (by kernel_rfl)
    (fun x hw => by obtain ⟨k, hk⟩ := h121 x.1 hw; exact ⟨k, (ev121 s114 k x).trans hk⟩)
/-! ### jitney/fleet.CheckTrips -/
theorem S146 : SoundF Try.prog 146 (.fn (.cons (.slice (.struct (.cons .str (.cons (.struct (.cons (.int .i64) (.cons (.int .i64) .nil))) (.cons (.int .i64) (.cons (.int .i64) .nil)))))) .nil) (.cons (.int .i64) .nil) fun x => (s146 x.1, ())) :=
  fn_sound (E := fun k => mkEnv ts146 (fs146 s113 s114)) (H := H146) (fun k => mkEnv_ok ty146 (fun p hp => by
    unfold fs146 at hp
    rcases List.mem_cons.1 hp with rfl | hp
    · exact S113
    rcases List.mem_cons.1 hp with rfl | hp
    · exact S114
    cases hp)) mixedOK (by kernel_rfl : Try.prog.funcs[146]? = some Try.f146) (by kernel_rfl) (by kernel_rfl : Try.f146.body = some body146) (by kernel_rfl) (by kernel_rfl)
    (fun x hw => by obtain ⟨k, hk⟩ := h146 x.1 hw; exact ⟨k, (ev146 s113 s114 k x).trans hk⟩)
/-! ### jitney/fleet.chargedFault -/
theorem S215 : SoundF Try.prog 215 (.fn (.cons (.slice (.struct (.cons .str (.cons .str (.cons (.int .i64) (.cons (.int .i64) (.cons (.int .i64) .nil))))))) .nil) (.cons (.int .i64) .nil) fun x => (s215 x.1, ())) :=
  fn_sound (E := fun k => mkEnv ts215 (fs215 s113 s114)) (H := H215) (fun k => mkEnv_ok ty215 (fun p hp => by
    unfold fs215 at hp
    rcases List.mem_cons.1 hp with rfl | hp
    · exact S113
    rcases List.mem_cons.1 hp with rfl | hp
    · exact S114
    cases hp)) mixedOK (by kernel_rfl : Try.prog.funcs[215]? = some Try.f215) (by kernel_rfl) (by kernel_rfl : Try.f215.body = some body215) (by kernel_rfl) (by kernel_rfl)
    (fun x hw => by obtain ⟨k, hk⟩ := h215 x.1 hw; exact ⟨k, (ev215 s113 s114 k x).trans hk⟩)
/-! ### jitney/fleet.levelFault -/
theorem S136 : SoundF Try.prog 136 (.fn (.cons (.struct (.cons .str (.cons (.int .i64) (.cons (.int .i64) (.cons (.int .i64) (.cons (.int .i64) .nil)))))) (.cons (.slice (.struct (.cons .str (.cons (.struct (.cons (.int .i64) (.cons (.int .i64) .nil))) (.cons (.int .i64) (.cons (.int .i64) .nil)))))) (.cons (.slice (.struct (.cons .str (.cons .str (.cons (.int .i64) (.cons (.int .i64) (.cons (.int .i64) .nil))))))) (.cons (.int .i64) .nil)))) (.cons (.int .i64) .nil) fun x => (s136 x.1 x.2.1 x.2.2.1 x.2.2.2.1, ())) :=
  fn_sound (E := fun k => mkEnv ts136 (fs136 s12 s114 s123 s146 s215)) (H := H136) (fun k => mkEnv_ok ty136 (fun p hp => by
    unfold fs136 at hp
    rcases List.mem_cons.1 hp with rfl | hp
    · exact S12
    rcases List.mem_cons.1 hp with rfl | hp
    · exact S114
    rcases List.mem_cons.1 hp with rfl | hp
    · exact S123
    rcases List.mem_cons.1 hp with rfl | hp
    · exact S146
    rcases List.mem_cons.1 hp with rfl | hp
    · exact S215
    cases hp)) mixedOK (by kernel_rfl : Try.prog.funcs[136]? = some Try.f136) (by kernel_rfl) (by kernel_rfl : Try.f136.body = some body136) (by kernel_rfl) (by kernel_rfl)
    (fun x hw => by obtain ⟨k, hk⟩ := h136 x.1 x.2.1 x.2.2.1 x.2.2.2.1 hw; exact ⟨k, (ev136 s12 s114 s123 s146 s215 k x).trans hk⟩)
/-! ### jitney/fleet.own -/
theorem S147 : SoundF Try.prog 147 (.pfn (.cons (.slice (.struct (.cons .str (.cons (.struct (.cons (.int .i64) (.cons (.int .i64) .nil))) (.cons (.int .i64) (.cons (.int .i64) .nil)))))) (.cons .str .nil)) (.cons (.slice (.struct (.cons .str (.cons (.struct (.cons (.int .i64) (.cons (.int .i64) .nil))) (.cons (.int .i64) (.cons (.int .i64) .nil)))))) .nil) fun x => s147 x.1 x.2.1) :=
  pfn_sound (E := fun k => mkEnv ts147 (fs147 )) (H := H147) (fun k => mkEnv_ok ty147 (fun p hp => by unfold fs147 at hp; cases hp)) mixedOK (by kernel_rfl : Try.prog.funcs[147]? = some Try.f147) (by kernel_rfl) (by kernel_rfl : Try.f147.body = some body147) (by kernel_rfl) (by kernel_rfl)
    (fun x y hw hy => by obtain ⟨k, hk⟩ := h147 x.1 x.2.1 y hw hy; exact ⟨k, (ev147  k x).trans hk⟩)
/-! ### jitney/fleet.turns$1 -/
theorem S267 : SoundF Try.prog 267 (.fn (.cons (.struct (.cons (.int .i64) (.cons (.int .i64) (.cons (.int .i64) .nil)))) (.cons (.struct (.cons (.int .i64) (.cons (.int .i64) (.cons (.int .i64) .nil)))) .nil)) (.cons (.int .i64) .nil) fun x => (s267 x.1 x.2.1, ())) :=
  fn_sound (E := fun k => mkEnv ts267 (fs267 s127 s128)) (H := H267) (fun k => mkEnv_ok ty267 (fun p hp => by
    unfold fs267 at hp
    rcases List.mem_cons.1 hp with rfl | hp
    · exact S127
    rcases List.mem_cons.1 hp with rfl | hp
    · exact S128
    cases hp)) mixedOK (by kernel_rfl : Try.prog.funcs[267]? = some Try.f267) (by kernel_rfl) (by kernel_rfl : Try.f267.body = some body267) (by kernel_rfl) (by kernel_rfl)
    (fun x hw => by obtain ⟨k, hk⟩ := h267 x.1 x.2.1 hw; exact ⟨k, (ev267 s127 s128 k x).trans hk⟩)
/-! ### jitney/fleet.turns -/
theorem S266 : SoundF Try.prog 266 (.rfn (.struct (.cons (.int .i64) (.cons (.int .i64) (.cons (.int .i64) .nil)))) .nil 267 fun xs a => s266 xs) := SF266 S267 W267
theorem S217 : SoundF Try.prog 217 (.pfn (.cons .str (.cons (.slice (.struct (.cons .str (.cons (.struct (.cons (.int .i64) (.cons (.int .i64) .nil))) (.cons (.int .i64) (.cons (.int .i64) .nil)))))) (.cons (.slice (.struct (.cons .str (.cons .str (.cons (.int .i64) (.cons (.int .i64) (.cons (.int .i64) .nil))))))) .nil))) (.cons (.slice (.struct (.cons (.int .i64) (.cons (.int .i64) (.cons (.int .i64) .nil))))) .nil) fun x => s217 x.1 x.2.1 x.2.2.1) :=
  pfn_sound (E := fun k => mkEnv ts217 (fs217 s147 s266)) (H := H217) (fun k => mkEnv_ok ty217 (fun p hp => by
    unfold fs217 at hp
    rcases List.mem_cons.1 hp with rfl | hp
    · exact S147
    rcases List.mem_cons.1 hp with rfl | hp
    · exact S266
    cases hp)) mixedOK (by kernel_rfl : Try.prog.funcs[217]? = some Try.f217) (by kernel_rfl) (by kernel_rfl : Try.f217.body = some body217) (by kernel_rfl) (by kernel_rfl)
    (fun x y hw hy => by obtain ⟨k, hk⟩ := h217 x.1 x.2.1 x.2.2.1 y hw hy; exact ⟨k, (ev217 s147 s266 k x).trans hk⟩)
/-! ### jitney/fleet.levelAt -/
theorem SI137_216 (k : Nat) : SoundF Try.prog 216 (.ev (mkEnv tsi137_216 (fsi137_216 s217 k)) Hi137_216 k bodyi137_216 4 []) :=
  ev_inline (mkEnv_ok tyi137_216 (fun p hp => by unfold fsi137_216 at hp; cases hp)) mixedOK (by kernel_rfl : Try.prog.funcs[216]? = some Try.f216) (by kernel_rfl) (by kernel_rfl : Try.f216.body = some bodyi137_216) (by kernel_rfl) (by kernel_rfl)
theorem SI137_138 (k : Nat) : SoundF Try.prog 138 (.ev (mkEnv tsi137_138 (fsi137_138 s217 k)) Hi137_138 k bodyi137_138 45 []) :=
  ev_inline (mkEnv_ok tyi137_138 (fun p hp => by
    unfold fsi137_138 at hp
    rcases List.mem_cons.1 hp with rfl | hp
    · exact SI137_216 k
    rcases List.mem_cons.1 hp with rfl | hp
    · exact S217
    cases hp)) mixedOK (by kernel_rfl : Try.prog.funcs[138]? = some Try.f138) (by kernel_rfl) (by kernel_rfl : Try.f138.body = some bodyi137_138) (by kernel_rfl) (by kernel_rfl)
theorem S137 : SoundF Try.prog 137 (.pfn (.cons .str (.cons (.slice (.struct (.cons .str (.cons (.struct (.cons (.int .i64) (.cons (.int .i64) .nil))) (.cons (.int .i64) (.cons (.int .i64) .nil)))))) (.cons (.slice (.struct (.cons .str (.cons .str (.cons (.int .i64) (.cons (.int .i64) (.cons (.int .i64) .nil))))))) (.cons (.int .i64) (.cons (.int .i64) .nil))))) (.cons (.int .i64) .nil) fun x => s137 x.1 x.2.1 x.2.2.1 x.2.2.2.1 x.2.2.2.2.1) :=
  pfn_sound (E := fun k => mkEnv ts137 (fs137 s217 k)) (H := H137) (fun k => mkEnv_ok ty137 (fun p hp => by
    unfold fs137 at hp
    rcases List.mem_cons.1 hp with rfl | hp
    · exact SI137_138 k
    cases hp)) mixedOK (by kernel_rfl : Try.prog.funcs[137]? = some Try.f137) (by kernel_rfl) (by kernel_rfl : Try.f137.body = some body137) (by kernel_rfl) (by kernel_rfl)
    (fun x y hw hy => by obtain ⟨k, hk⟩ := h137 x.1 x.2.1 x.2.2.1 x.2.2.2.1 x.2.2.2.2.1 y hw hy; exact ⟨k, (ev137 s217 k x).trans hk⟩)
/-! ### jitney/fleet.Level -/
theorem S37 : SoundF Try.prog 37 (.pfn (.cons (.struct (.cons .str (.cons (.int .i64) (.cons (.int .i64) (.cons (.int .i64) (.cons (.int .i64) .nil)))))) (.cons (.slice (.struct (.cons .str (.cons (.struct (.cons (.int .i64) (.cons (.int .i64) .nil))) (.cons (.int .i64) (.cons (.int .i64) .nil)))))) (.cons (.slice (.struct (.cons .str (.cons .str (.cons (.int .i64) (.cons (.int .i64) (.cons (.int .i64) .nil))))))) (.cons (.int .i64) (.cons (.int .i64) .nil))))) (.cons (.int .i64) (.cons (.int .i64) .nil)) fun x => s37 x.1 x.2.1 x.2.2.1 x.2.2.2.1 x.2.2.2.2.1) :=
  pfn_sound (E := fun k => mkEnv ts37 (fs37 s121 s136 s137)) (H := H37) (fun k => mkEnv_ok ty37 (fun p hp => by
    unfold fs37 at hp
    rcases List.mem_cons.1 hp with rfl | hp
    · exact S121
    rcases List.mem_cons.1 hp with rfl | hp
    · exact S136
    rcases List.mem_cons.1 hp with rfl | hp
    · exact S137
    cases hp)) mixedOK (by kernel_rfl : Try.prog.funcs[37]? = some Try.f37) (by kernel_rfl) (by kernel_rfl : Try.f37.body = some body37) (by kernel_rfl) (by kernel_rfl)
    (fun x y hw hy => by obtain ⟨k, hk⟩ := h37 x.1 x.2.1 x.2.2.1 x.2.2.2.1 x.2.2.2.2.1 y hw hy; exact ⟨k, (ev37 s121 s136 s137 k x).trans hk⟩)
set_option maxHeartbeats 2000000 in
theorem walk38 (a : Option Addr) (c : Nat) (w : World) : Calls Try.prog 38 #[.slice a 0 c] w fun e w' => ∃ a' c', e = .returned (.slice a' 0 c') ∧ c' ≤ 9223372036854775807 ∧ Keep None w w' := by
  have q : ∀ (w : World) (a : Option Addr) (n c n' c' : Nat), (binOp .eql 56 (.slice a n c) (.slice none n' c')).run Try.prog w = .ok (.bool a.isNone) w := fun w a n c n' c' => Lib.run_eql_slice_nil w _ _ a n c n' c' Try.underlying56
  cases a with
  | none =>
    go_enter Try.func38, Try.ntmps38
    go_wp2
    go_ret
    exact ⟨none, 0, rfl, by omega, Keep.refl _ _⟩
  | some a =>
    go_enter Try.func38, Try.ntmps38
    go_wp2
    go_ret
    exact ⟨_, _, rfl, by omega, Keep.alloc _ _ _ _⟩
theorem cl38 (xs : List (ByteArray × (Int × Int × Unit) × Int × Int × Unit)) (hne : xs ≠ []) (hl : xs.length ≤ 4294967296) : f38 0 xs = some (xs, ()) := by
  cases xs with
  | nil => exact absurd rfl hne
  | cons z l =>
    have h2 : decide (List.length ([] : List (ByteArray × (Int × Int × Unit) × Int × Int × Unit)) + List.length (z :: l) ≤ 4294967296) = true := by simpa using hl
    unfold f38
    rw [show Nat.ble (List.length (z :: l)) 0 = false from rfl, h2]
    rfl
theorem S38 : SoundF Try.prog 38 (.pfn (.cons (.slice (.struct (.cons .str (.cons (.struct (.cons (.int .i64) (.cons (.int .i64) .nil))) (.cons (.int .i64) (.cons (.int .i64) .nil)))))) .nil) (.cons (.slice (.struct (.cons .str (.cons (.struct (.cons (.int .i64) (.cons (.int .i64) .nil))) (.cons (.int .i64) (.cons (.int .i64) .nil)))))) .nil) fun x => s38 x.1) := by
  intro ρ args objs K r hr
  exact clone_sound (T := (.struct (.cons .str (.cons (.struct (.cons (.int .i64) (.cons (.int .i64) .nil))) (.cons (.int .i64) (.cons (.int .i64) .nil)))))) (g1 := fun x => f38 0 x.1) (pfn_sound (E := fun _ => mkEnv ts38 fs38) (H := H38) (fun _ => mkEnv_ok ty38 (fun p hp => by unfold fs38 at hp; cases hp)) mixedOK (by kernel_rfl : Try.prog.funcs[38]? = some Try.f38) (by kernel_rfl) (by kernel_rfl : Try.f38.body = some body38) (by kernel_rfl) (by kernel_rfl) (fun x y hw hy => ⟨0, (ev38 0 x).trans hy⟩)) (enters_of (by kernel_rfl : Try.prog.funcs[38]? = some Try.f38) (by kernel_rfl) (by kernel_rfl : Try.f38.body = some body38))
    (fun xs hne hl => cl38 xs hne hl) walk38 args objs K r hr
set_option maxHeartbeats 2000000 in
theorem walk39 (a : Option Addr) (c : Nat) (w : World) : Calls Try.prog 39 #[.slice a 0 c] w fun e w' => ∃ a' c', e = .returned (.slice a' 0 c') ∧ c' ≤ 9223372036854775807 ∧ Keep None w w' := by
  have q : ∀ (w : World) (a : Option Addr) (n c n' c' : Nat), (binOp .eql 57 (.slice a n c) (.slice none n' c')).run Try.prog w = .ok (.bool a.isNone) w := fun w a n c n' c' => Lib.run_eql_slice_nil w _ _ a n c n' c' Try.underlying57
  cases a with
  | none =>
    go_enter Try.func39, Try.ntmps39
    go_wp2
    go_ret
    exact ⟨none, 0, rfl, by omega, Keep.refl _ _⟩
  | some a =>
    go_enter Try.func39, Try.ntmps39
    go_wp2
    go_ret
    exact ⟨_, _, rfl, by omega, Keep.alloc _ _ _ _⟩
theorem cl39 (xs : List (ByteArray × ByteArray × Int × Int × Int × Unit)) (hne : xs ≠ []) (hl : xs.length ≤ 4294967296) : f39 0 xs = some (xs, ()) := by
  cases xs with
  | nil => exact absurd rfl hne
  | cons z l =>
    have h2 : decide (List.length ([] : List (ByteArray × ByteArray × Int × Int × Int × Unit)) + List.length (z :: l) ≤ 4294967296) = true := by simpa using hl
    unfold f39
    rw [show Nat.ble (List.length (z :: l)) 0 = false from rfl, h2]
    rfl
theorem S39 : SoundF Try.prog 39 (.pfn (.cons (.slice (.struct (.cons .str (.cons .str (.cons (.int .i64) (.cons (.int .i64) (.cons (.int .i64) .nil))))))) .nil) (.cons (.slice (.struct (.cons .str (.cons .str (.cons (.int .i64) (.cons (.int .i64) (.cons (.int .i64) .nil))))))) .nil) fun x => s39 x.1) := by
  intro ρ args objs K r hr
  exact clone_sound (T := (.struct (.cons .str (.cons .str (.cons (.int .i64) (.cons (.int .i64) (.cons (.int .i64) .nil))))))) (g1 := fun x => f39 0 x.1) (pfn_sound (E := fun _ => mkEnv ts39 fs39) (H := H39) (fun _ => mkEnv_ok ty39 (fun p hp => by unfold fs39 at hp; cases hp)) mixedOK (by kernel_rfl : Try.prog.funcs[39]? = some Try.f39) (by kernel_rfl) (by kernel_rfl : Try.f39.body = some body39) (by kernel_rfl) (by kernel_rfl) (fun x y hw hy => ⟨0, (ev39 0 x).trans hy⟩)) (enters_of (by kernel_rfl : Try.prog.funcs[39]? = some Try.f39) (by kernel_rfl) (by kernel_rfl : Try.f39.body = some body39))
    (fun xs hne hl => cl39 xs hne hl) walk39 args objs K r hr
/-! ### jitney/fleet.Low -/
theorem SI40_139 (k : Nat) : SoundF Try.prog 139 (.ev (mkEnv tsi40_139 (fsi40_139 s136 s217 k)) Hi40_139 k bodyi40_139 6 []) :=
  ev_inline (mkEnv_ok tyi40_139 (fun p hp => by unfold fsi40_139 at hp; cases hp)) mixedOK (by kernel_rfl : Try.prog.funcs[139]? = some Try.f139) (by kernel_rfl) (by kernel_rfl : Try.f139.body = some bodyi40_139) (by kernel_rfl) (by kernel_rfl)
theorem SI40_138 (k : Nat) : SoundF Try.prog 138 (.ev (mkEnv tsi40_138 (fsi40_138 s136 s217 k)) Hi40_138 k bodyi40_138 45 []) :=
  ev_inline (mkEnv_ok tyi40_138 (fun p hp => by
    unfold fsi40_138 at hp
    rcases List.mem_cons.1 hp with rfl | hp
    · exact SI40_139 k
    rcases List.mem_cons.1 hp with rfl | hp
    · exact S217
    cases hp)) mixedOK (by kernel_rfl : Try.prog.funcs[138]? = some Try.f138) (by kernel_rfl) (by kernel_rfl : Try.f138.body = some bodyi40_138) (by kernel_rfl) (by kernel_rfl)
theorem S40 : SoundF Try.prog 40 (.pfn (.cons (.struct (.cons .str (.cons (.int .i64) (.cons (.int .i64) (.cons (.int .i64) (.cons (.int .i64) .nil)))))) (.cons (.slice (.struct (.cons .str (.cons (.struct (.cons (.int .i64) (.cons (.int .i64) .nil))) (.cons (.int .i64) (.cons (.int .i64) .nil)))))) (.cons (.slice (.struct (.cons .str (.cons .str (.cons (.int .i64) (.cons (.int .i64) (.cons (.int .i64) .nil))))))) (.cons (.int .i64) .nil)))) (.cons (.int .i64) (.cons (.int .i64) .nil)) fun x => s40 x.1 x.2.1 x.2.2.1 x.2.2.2.1) :=
  pfn_sound (E := fun k => mkEnv ts40 (fs40 s136 s217 k)) (H := H40) (fun k => mkEnv_ok ty40 (fun p hp => by
    unfold fs40 at hp
    rcases List.mem_cons.1 hp with rfl | hp
    · exact S136
    rcases List.mem_cons.1 hp with rfl | hp
    · exact SI40_138 k
    cases hp)) mixedOK (by kernel_rfl : Try.prog.funcs[40]? = some Try.f40) (by kernel_rfl) (by kernel_rfl : Try.f40.body = some body40) (by kernel_rfl) (by kernel_rfl)
    (fun x y hw hy => by obtain ⟨k, hk⟩ := h40 x.1 x.2.1 x.2.2.1 x.2.2.2.1 y hw hy; exact ⟨k, (ev40 s136 s217 k x).trans hk⟩)
/-! ### jitney/jitref2.RunsFault -/
theorem S41 : SoundF Try.prog 41 (.fn (.cons (.slice (.struct (.cons .str (.cons (.struct (.cons (.int .i64) (.cons (.int .i64) .nil))) (.cons (.int .i64) (.cons (.int .i64) .nil)))))) .nil) (.cons (.int .i64) .nil) fun x => (s41 x.1, ())) :=
  fn_sound (E := fun k => mkEnv ts41 (fs41 s31 s115)) (H := H41) (fun k => mkEnv_ok ty41 (fun p hp => by
    unfold fs41 at hp
    rcases List.mem_cons.1 hp with rfl | hp
    · exact S31
    rcases List.mem_cons.1 hp with rfl | hp
    · exact S115
    cases hp)) mixedOK (by kernel_rfl : Try.prog.funcs[41]? = some Try.f41) (by kernel_rfl) (by kernel_rfl : Try.f41.body = some body41) (by kernel_rfl) (by kernel_rfl)
    (fun x hw => by obtain ⟨k, hk⟩ := h41 x.1 hw; exact ⟨k, (ev41 s31 s115 k x).trans hk⟩)
/-! ### jitney/jitref2.ChargedFault -/
theorem S42 : SoundF Try.prog 42 (.fn (.cons (.slice (.struct (.cons .str (.cons .str (.cons (.int .i64) (.cons (.int .i64) (.cons (.int .i64) .nil))))))) .nil) (.cons (.int .i64) .nil) fun x => (s42 x.1, ())) :=
  fn_sound (E := fun k => mkEnv ts42 (fs42 s31 s115)) (H := H42) (fun k => mkEnv_ok ty42 (fun p hp => by
    unfold fs42 at hp
    rcases List.mem_cons.1 hp with rfl | hp
    · exact S31
    rcases List.mem_cons.1 hp with rfl | hp
    · exact S115
    cases hp)) mixedOK (by kernel_rfl : Try.prog.funcs[42]? = some Try.f42) (by kernel_rfl) (by kernel_rfl : Try.f42.body = some body42) (by kernel_rfl) (by kernel_rfl)
    (fun x hw => by obtain ⟨k, hk⟩ := h42 x.1 hw; exact ⟨k, (ev42 s31 s115 k x).trans hk⟩)
/-! ### slices.Compare[[]int,int] -/
theorem S220 : SoundF Try.prog 220 (.fn (.cons (.slice (.int .i64)) (.cons (.slice (.int .i64)) .nil)) (.cons (.int .i64) .nil) fun x => (s220 x.1 x.2.1, ())) :=
  fn_sound (E := fun k => mkEnv ts220 (fs220 s128)) (H := H220) (fun k => mkEnv_ok ty220 (fun p hp => by
    unfold fs220 at hp
    rcases List.mem_cons.1 hp with rfl | hp
    · exact S128
    cases hp)) mixedOK (by kernel_rfl : Try.prog.funcs[220]? = some Try.f220) (by kernel_rfl) (by kernel_rfl : Try.f220.body = some body220) (by kernel_rfl) (by kernel_rfl)
    (fun x hw => by obtain ⟨k, hk⟩ := h220 x.1 x.2.1 hw; exact ⟨k, (ev220 s128 k x).trans hk⟩)
/-! ### jitney/jitref2.levelsOf$1 -/
theorem S219 : SoundF Try.prog 219 (.fn (.cons (.struct (.cons (.int .i64) (.cons (.int .i64) (.cons (.int .i64) .nil)))) (.cons (.struct (.cons (.int .i64) (.cons (.int .i64) (.cons (.int .i64) .nil)))) .nil)) (.cons (.int .i64) .nil) fun x => (s219 x.1 x.2.1, ())) :=
  fn_sound (E := fun k => mkEnv ts219 (fs219 s220)) (H := H219) (fun k => mkEnv_ok ty219 (fun p hp => by
    unfold fs219 at hp
    rcases List.mem_cons.1 hp with rfl | hp
    · exact S220
    cases hp)) mixedOK (by kernel_rfl : Try.prog.funcs[219]? = some Try.f219) (by kernel_rfl) (by kernel_rfl : Try.f219.body = some body219) (by kernel_rfl) (by kernel_rfl)
    (fun x hw => by obtain ⟨k, hk⟩ := h219 x.1 x.2.1 hw; exact ⟨k, (ev219 s220 k x).trans hk⟩)
/-! ### jitney/jitref2.levelsOf -/
theorem S218 : SoundF Try.prog 218 (.rfn (.struct (.cons (.int .i64) (.cons (.int .i64) (.cons (.int .i64) .nil)))) .nil 219 fun xs a => s218 xs) := SF218 S219 W219
theorem S140 : SoundF Try.prog 140 (.pfn (.cons .str (.cons (.slice (.struct (.cons .str (.cons (.struct (.cons (.int .i64) (.cons (.int .i64) .nil))) (.cons (.int .i64) (.cons (.int .i64) .nil)))))) (.cons (.slice (.struct (.cons .str (.cons .str (.cons (.int .i64) (.cons (.int .i64) (.cons (.int .i64) .nil))))))) (.cons (.int .i64) .nil)))) (.cons (.slice (.int .i64)) (.cons (.slice (.int .i64)) .nil)) fun x => s140 x.1 x.2.1 x.2.2.1 x.2.2.2.1) :=
  pfn_sound (E := fun k => mkEnv ts140 (fs140 s218)) (H := H140) (fun k => mkEnv_ok ty140 (fun p hp => by
    unfold fs140 at hp
    rcases List.mem_cons.1 hp with rfl | hp
    · exact S218
    cases hp)) mixedOK (by kernel_rfl : Try.prog.funcs[140]? = some Try.f140) (by kernel_rfl) (by kernel_rfl : Try.f140.body = some body140) (by kernel_rfl) (by kernel_rfl)
    (fun x y hw hy => by obtain ⟨k, hk⟩ := h140 x.1 x.2.1 x.2.2.1 x.2.2.2.1 y hw hy; exact ⟨k, (ev140 s218 k x).trans hk⟩)
/-! ### jitney/jitref2.LevelAt -/
theorem S43 : SoundF Try.prog 43 (.pfn (.cons .str (.cons (.slice (.struct (.cons .str (.cons (.struct (.cons (.int .i64) (.cons (.int .i64) .nil))) (.cons (.int .i64) (.cons (.int .i64) .nil)))))) (.cons (.slice (.struct (.cons .str (.cons .str (.cons (.int .i64) (.cons (.int .i64) (.cons (.int .i64) .nil))))))) (.cons (.int .i64) (.cons (.int .i64) .nil))))) (.cons (.int .i64) .nil) fun x => s43 x.1 x.2.1 x.2.2.1 x.2.2.2.1 x.2.2.2.2.1) :=
  pfn_sound (E := fun k => mkEnv ts43 (fs43 s140)) (H := H43) (fun k => mkEnv_ok ty43 (fun p hp => by
    unfold fs43 at hp
    rcases List.mem_cons.1 hp with rfl | hp
    · exact S140
    cases hp)) mixedOK (by kernel_rfl : Try.prog.funcs[43]? = some Try.f43) (by kernel_rfl) (by kernel_rfl : Try.f43.body = some body43) (by kernel_rfl) (by kernel_rfl)
    (fun x y hw hy => by obtain ⟨k, hk⟩ := h43 x.1 x.2.1 x.2.2.1 x.2.2.2.1 x.2.2.2.2.1 y hw hy; exact ⟨k, (ev43 s140 k x).trans hk⟩)
/-! ### slices.Min[[]int,int] -/
theorem S141 : SoundF Try.prog 141 (.pfn (.cons (.slice (.int .i64)) .nil) (.cons (.int .i64) .nil) fun x => s141 x.1) :=
  pfn_sound (E := fun k => mkEnv ts141 (fs141 )) (H := H141) (fun k => mkEnv_ok ty141 (fun p hp => by unfold fs141 at hp; cases hp)) mixedOK (by kernel_rfl : Try.prog.funcs[141]? = some Try.f141) (by kernel_rfl) (by kernel_rfl : Try.f141.body = some body141) (by kernel_rfl) (by kernel_rfl)
    (fun x y hw hy => by obtain ⟨k, hk⟩ := h141 x.1 y hw hy; exact ⟨k, (ev141  k x).trans hk⟩)
/-! ### jitney/jitref2.LowOf -/
theorem S44 : SoundF Try.prog 44 (.pfn (.cons .str (.cons (.slice (.struct (.cons .str (.cons (.struct (.cons (.int .i64) (.cons (.int .i64) .nil))) (.cons (.int .i64) (.cons (.int .i64) .nil)))))) (.cons (.slice (.struct (.cons .str (.cons .str (.cons (.int .i64) (.cons (.int .i64) (.cons (.int .i64) .nil))))))) (.cons (.int .i64) .nil)))) (.cons (.int .i64) .nil) fun x => s44 x.1 x.2.1 x.2.2.1 x.2.2.2.1) :=
  pfn_sound (E := fun k => mkEnv ts44 (fs44 s140 s141)) (H := H44) (fun k => mkEnv_ok ty44 (fun p hp => by
    unfold fs44 at hp
    rcases List.mem_cons.1 hp with rfl | hp
    · exact S140
    rcases List.mem_cons.1 hp with rfl | hp
    · exact S141
    cases hp)) mixedOK (by kernel_rfl : Try.prog.funcs[44]? = some Try.f44) (by kernel_rfl) (by kernel_rfl : Try.f44.body = some body44) (by kernel_rfl) (by kernel_rfl)
    (fun x y hw hy => by obtain ⟨k, hk⟩ := h44 x.1 x.2.1 x.2.2.1 x.2.2.2.1 y hw hy; exact ⟨k, (ev44 s140 s141 k x).trans hk⟩)
/-! ### jitney/jitlaw2.LevelsReckoned -/
theorem S5 : SoundF Try.prog 5 (.pfn (.cons (.struct (.cons .str (.cons (.int .i64) (.cons (.int .i64) (.cons (.int .i64) (.cons (.int .i64) .nil)))))) (.cons (.slice (.struct (.cons .str (.cons (.struct (.cons (.int .i64) (.cons (.int .i64) .nil))) (.cons (.int .i64) (.cons (.int .i64) .nil)))))) (.cons (.slice (.struct (.cons .str (.cons .str (.cons (.int .i64) (.cons (.int .i64) (.cons (.int .i64) .nil))))))) (.cons (.int .i64) (.cons (.int .i64) .nil))))) (.cons .bool .nil) fun x => s5 x.1 x.2.1 x.2.2.1 x.2.2.2.1 x.2.2.2.2.1) :=
  pfn_sound (E := fun k => mkEnv ts5 (fs5 s14 s20 s21 s24 s32 s37 s38 s39 s40 s41 s42 s43 s44)) (H := H5) (fun k => mkEnv_ok ty5 (fun p hp => by
    unfold fs5 at hp
    rcases List.mem_cons.1 hp with rfl | hp
    · exact S14
    rcases List.mem_cons.1 hp with rfl | hp
    · exact S20
    rcases List.mem_cons.1 hp with rfl | hp
    · exact S21
    rcases List.mem_cons.1 hp with rfl | hp
    · exact S24
    rcases List.mem_cons.1 hp with rfl | hp
    · exact S32
    rcases List.mem_cons.1 hp with rfl | hp
    · exact S37
    rcases List.mem_cons.1 hp with rfl | hp
    · exact S38
    rcases List.mem_cons.1 hp with rfl | hp
    · exact S39
    rcases List.mem_cons.1 hp with rfl | hp
    · exact S40
    rcases List.mem_cons.1 hp with rfl | hp
    · exact S41
    rcases List.mem_cons.1 hp with rfl | hp
    · exact S42
    rcases List.mem_cons.1 hp with rfl | hp
    · exact S43
    rcases List.mem_cons.1 hp with rfl | hp
    · exact S44
    cases hp)) mixedOK (by kernel_rfl : Try.prog.funcs[5]? = some Try.f5) (by kernel_rfl) (by kernel_rfl : Try.f5.body = some body5) (by kernel_rfl) (by kernel_rfl)
    (fun x y hw hy => by obtain ⟨k, hk⟩ := h5 x.1 x.2.1 x.2.2.1 x.2.2.2.1 x.2.2.2.2.1 y hw hy; exact ⟨k, (ev5 s14 s20 s21 s24 s32 s37 s38 s39 s40 s41 s42 s43 s44 k x).trans hk⟩)
end Go.Vm
