/- The program's functions are what the specs say. -/
import Derived.Test.YtjkidhjkpkcnhaaGreatDoorWSpec
import Derived.Test.YtjkidhjkpkcnhaaGreatDoorWHandS
set_option maxRecDepth 100000
set_option linter.unusedVariables false
namespace Go.Vm
open Go.Proofs
/-! ### jitney/base.Key -/
theorem S75 : SoundF Tryz.prog 75 (.fn (.cons .str .nil) (.cons .bool .nil) fun x => (s75 x.1, ())) :=
  fn_sound (E := fun k => mkEnv ts75 (fs75 )) (H := H75) (fun k => mkEnv_ok ty75 (fun p hp => by unfold fs75 at hp; cases hp)) mixedOK (by kernel_rfl : Tryz.prog.funcs[75]? = some Tryz.f75) (by kernel_rfl) (by kernel_rfl : Tryz.f75.body = some body75) (by kernel_rfl) (by kernel_rfl)
    (fun x hw => by obtain ⟨k, hk⟩ := h75 x.1 hw; exact ⟨k, (ev75  k x).trans hk⟩)
/-! ### jitney/request.allKeys$1 -/
theorem S135 : SoundF Tryz.prog 135 (.fn (.cons .str .nil) (.cons .bool .nil) fun x => (s135 x.1, ())) :=
  fn_sound (E := fun k => mkEnv ts135 (fs135 s75)) (H := H135) (fun k => mkEnv_ok ty135 (fun p hp => by
    unfold fs135 at hp
    rcases List.mem_cons.1 hp with rfl | hp
    · exact S75
    cases hp)) mixedOK (by kernel_rfl : Tryz.prog.funcs[135]? = some Tryz.f135) (by kernel_rfl) (by kernel_rfl : Tryz.f135.body = some body135) (by kernel_rfl) (by kernel_rfl)
    (fun x hw => by obtain ⟨k, hk⟩ := h135 x.1 hw; exact ⟨k, (ev135 s75 k x).trans hk⟩)
/-! ### jitney/request.allKeys -/
theorem SI72_180 (k : Nat) : SoundF Tryz.prog 180 (.ev (mkEnv tsi72_180 (fsi72_180 s135 k)) Hi72_180 k bodyi72_180 19 [.tmp 4]) :=
  ev_inline (mkEnv_ok tyi72_180 (fun p hp => by
    unfold fsi72_180 at hp
    rcases List.mem_cons.1 hp with rfl | hp
    · exact S135
    cases hp)) mixedOK (by kernel_rfl : Tryz.prog.funcs[180]? = some Tryz.f180) (by kernel_rfl) (by kernel_rfl : Tryz.f180.body = some bodyi72_180) (by kernel_rfl) (by kernel_rfl)
theorem SI72_134 (k : Nat) : SoundF Tryz.prog 134 (.ev (mkEnv tsi72_134 (fsi72_134 s135 k)) Hi72_134 k bodyi72_134 9 [.tmp 4]) :=
  ev_inline (mkEnv_ok tyi72_134 (fun p hp => by
    unfold fsi72_134 at hp
    rcases List.mem_cons.1 hp with rfl | hp
    · exact SI72_180 k
    cases hp)) mixedOK (by kernel_rfl : Tryz.prog.funcs[134]? = some Tryz.f134) (by kernel_rfl) (by kernel_rfl : Tryz.f134.body = some bodyi72_134) (by kernel_rfl) (by kernel_rfl)
theorem S72 : SoundF Tryz.prog 72 (.fn (.cons (.slice .str) .nil) (.cons .bool .nil) fun x => (s72 x.1, ())) :=
  fn_sound (E := fun k => mkEnv ts72 (fs72 s135 k)) (H := H72) (fun k => mkEnv_ok ty72 (fun p hp => by
    unfold fs72 at hp
    rcases List.mem_cons.1 hp with rfl | hp
    · exact SI72_134 k
    cases hp)) mixedOK (by kernel_rfl : Tryz.prog.funcs[72]? = some Tryz.f72) (by kernel_rfl) (by kernel_rfl : Tryz.f72.body = some body72) (by kernel_rfl) (by kernel_rfl)
    (fun x hw => by obtain ⟨k, hk⟩ := h72 x.1 hw; exact ⟨k, (ev72 s135 k x).trans hk⟩)
/-! ### jitney/base.Out -/
theorem S74 : SoundF Tryz.prog 74 (.fn (.cons (.int .i64) (.cons (.int .i64) (.cons (.int .i64) .nil))) (.cons .bool .nil) fun x => (s74 x.1 x.2.1 x.2.2.1, ())) :=
  fn_sound (E := fun k => mkEnv ts74 (fs74 )) (H := H74) (fun k => mkEnv_ok ty74 (fun p hp => by unfold fs74 at hp; cases hp)) mixedOK (by kernel_rfl : Tryz.prog.funcs[74]? = some Tryz.f74) (by kernel_rfl) (by kernel_rfl : Tryz.f74.body = some body74) (by kernel_rfl) (by kernel_rfl)
    (fun x hw => by obtain ⟨k, hk⟩ := h74 x.1 x.2.1 x.2.2.1 hw; exact ⟨k, (ev74  k x).trans hk⟩)
/-! ### jitney/request.changesFault -/
theorem S136 : SoundF Tryz.prog 136 (.fn (.cons (.slice (.struct (.cons (.int .i64) (.cons .bool (.cons (.int .i64) .nil))))) .nil) (.cons (.int .i64) .nil) fun x => (s136 x.1, ())) :=
  fn_sound (E := fun k => mkEnv ts136 (fs136 s74)) (H := H136) (fun k => mkEnv_ok ty136 (fun p hp => by
    unfold fs136 at hp
    rcases List.mem_cons.1 hp with rfl | hp
    · exact S74
    cases hp)) mixedOK (by kernel_rfl : Tryz.prog.funcs[136]? = some Tryz.f136) (by kernel_rfl) (by kernel_rfl : Tryz.f136.body = some body136) (by kernel_rfl) (by kernel_rfl)
    (fun x hw => by obtain ⟨k, hk⟩ := h136 x.1 hw; exact ⟨k, (ev136 s74 k x).trans hk⟩)
/-! ### jitney/request.seriesFault -/
theorem S76 : SoundF Tryz.prog 76 (.fn (.cons (.struct (.cons .str (.cons .str (.cons .str (.cons .str (.cons (.int .i64) (.cons (.int .i64) (.cons (.int .i64) (.cons (.int .i64) (.cons (.int .i64) (.cons (.int .i64) (.cons (.int .i64) (.cons (.int .i64) (.cons (.int .i64) (.cons (.slice (.struct (.cons (.int .i64) (.cons .bool (.cons (.int .i64) .nil))))) .nil))))))))))))))) .nil) (.cons (.int .i64) .nil) fun x => (s76 x.1, ())) :=
  fn_sound (E := fun k => mkEnv ts76 (fs76 s72 s74 s136)) (H := H76) (fun k => mkEnv_ok ty76 (fun p hp => by
    unfold fs76 at hp
    rcases List.mem_cons.1 hp with rfl | hp
    · exact S72
    rcases List.mem_cons.1 hp with rfl | hp
    · exact S74
    rcases List.mem_cons.1 hp with rfl | hp
    · exact S136
    cases hp)) mixedOK (by kernel_rfl : Tryz.prog.funcs[76]? = some Tryz.f76) (by kernel_rfl) (by kernel_rfl : Tryz.f76.body = some body76) (by kernel_rfl) (by kernel_rfl)
    (fun x hw => by obtain ⟨k, hk⟩ := h76 x.1 hw; exact ⟨k, (ev76 s72 s74 s136 k x).trans hk⟩)
/-! ### jitney/request.CheckSeries -/
theorem S17 : SoundF Tryz.prog 17 (.fn (.cons (.slice (.struct (.cons .str (.cons .str (.cons .str (.cons .str (.cons (.int .i64) (.cons (.int .i64) (.cons (.int .i64) (.cons (.int .i64) (.cons (.int .i64) (.cons (.int .i64) (.cons (.int .i64) (.cons (.int .i64) (.cons (.int .i64) (.cons (.slice (.struct (.cons (.int .i64) (.cons .bool (.cons (.int .i64) .nil))))) .nil)))))))))))))))) .nil) (.cons (.int .i64) .nil) fun x => (s17 x.1, ())) :=
  fn_sound (E := fun k => mkEnv ts17 (fs17 s76)) (H := H17) (fun k => mkEnv_ok ty17 (fun p hp => by
    unfold fs17 at hp
    rcases List.mem_cons.1 hp with rfl | hp
    · exact S76
    cases hp)) mixedOK (by kernel_rfl : Tryz.prog.funcs[17]? = some Tryz.f17) (by kernel_rfl) (by kernel_rfl : Tryz.f17.body = some body17) (by kernel_rfl) (by kernel_rfl)
    (fun x hw => by obtain ⟨k, hk⟩ := h17 x.1 hw; exact ⟨k, (ev17 s76 k x).trans hk⟩)
/-! ### jitney/base.Moment -/
theorem S73 : SoundF Tryz.prog 73 (.fn (.cons (.int .i64) .nil) (.cons .bool .nil) fun x => (s73 x.1, ())) :=
  fn_sound (E := fun k => mkEnv ts73 (fs73 s74)) (H := H73) (fun k => mkEnv_ok ty73 (fun p hp => by
    unfold fs73 at hp
    rcases List.mem_cons.1 hp with rfl | hp
    · exact S74
    cases hp)) mixedOK (by kernel_rfl : Tryz.prog.funcs[73]? = some Tryz.f73) (by kernel_rfl) (by kernel_rfl : Tryz.f73.body = some body73) (by kernel_rfl) (by kernel_rfl)
    (fun x hw => by obtain ⟨k, hk⟩ := h73 x.1 hw; exact ⟨k, (ev73 s74 k x).trans hk⟩)
/-! ### strconv.Itoa -/
theorem S107 : SoundF Tryz.prog 107 (.pfn (.cons (.int .i64) .nil) (.cons .str .nil) fun x => s107 x.1) :=
  pfn_sound (E := fun k => mkEnv ts107 (fs107 s155)) (H := H107) (fun k => mkEnv_ok ty107 (fun p hp => by
    unfold fs107 at hp
    rcases List.mem_cons.1 hp with rfl | hp
    · exact S155
    cases hp)) mixedOK (by kernel_rfl : Tryz.prog.funcs[107]? = some Tryz.f107) (by kernel_rfl) (by kernel_rfl : Tryz.f107.body = some body107) (by kernel_rfl) (by kernel_rfl)
    (fun x y hw hy => by obtain ⟨k, hk⟩ := h107 x.1 y hw hy; exact ⟨k, (ev107 s155 k x).trans hk⟩)
/-! ### cmp.isNaN[int] -/
theorem S132 [MonotC] : SoundF Tryz.prog 132 (.fn (.cons (.int .i64) .nil) (.cons .bool .nil) fun x => (s132 x.1, ())) :=
  fn_sound (E := fun k => mkEnv ts132 (fs132 )) (H := H132) (fun k => mkEnv_ok ty132 (fun p hp => by unfold fs132 at hp; cases hp)) mixedOK (by kernel_rfl : Tryz.prog.funcs[132]? = some Tryz.f132) (by kernel_rfl) (by kernel_rfl : Tryz.f132.body = some body132) (by kernel_rfl) (by kernel_rfl)
    (fun x hw => by obtain ⟨k, hk⟩ := h132 x.1 hw; exact ⟨k, (ev132  k x).trans hk⟩)
/-! ### cmp.Compare[int] -/
theorem S67 [MonotC] : SoundF Tryz.prog 67 (.fn (.cons (.int .i64) (.cons (.int .i64) .nil)) (.cons (.int .i64) .nil) fun x => (s67 x.1 x.2.1, ())) :=
  fn_sound (E := fun k => mkEnv ts67 (fs67 s132)) (H := H67) (fun k => mkEnv_ok ty67 (fun p hp => by
    unfold fs67 at hp
    rcases List.mem_cons.1 hp with rfl | hp
    · exact S132
    cases hp)) mixedOK (by kernel_rfl : Tryz.prog.funcs[67]? = some Tryz.f67) (by kernel_rfl) (by kernel_rfl : Tryz.f67.body = some body67) (by kernel_rfl) (by kernel_rfl)
    (fun x hw => by obtain ⟨k, hk⟩ := h67 x.1 x.2.1 hw; exact ⟨k, (ev67 s132 k x).trans hk⟩)
/-! ### jitney/request.dayRide$1 -/
theorem S127 : SoundF Tryz.prog 127 (.fn (.cons (.struct (.cons (.int .i64) (.cons .bool (.cons (.int .i64) .nil)))) (.cons (.int .i64) .nil)) (.cons (.int .i64) .nil) fun x => (s127 x.1 x.2.1, ())) :=
  fn_sound (E := fun k => mkEnv ts127 (fs127 s67)) (H := H127) (fun k => mkEnv_ok ty127 (fun p hp => by
    unfold fs127 at hp
    rcases List.mem_cons.1 hp with rfl | hp
    · exact S67
    cases hp)) mixedOK (by kernel_rfl : Tryz.prog.funcs[127]? = some Tryz.f127) (by kernel_rfl) (by kernel_rfl : Tryz.f127.body = some body127) (by kernel_rfl) (by kernel_rfl)
    (fun x hw => by obtain ⟨k, hk⟩ := h127 x.1 x.2.1 hw; exact ⟨k, (ev127 s67 k x).trans hk⟩)
/-! ### jitney/request.Days -/
theorem SI7_126 (k : Nat) : SoundF Tryz.prog 126 (.ev (mkEnv tsi7_126 (fsi7_126 s17 s73 s107 s127 s129 k)) Hi7_126 k bodyi7_126 49 [.tmp 6, .tmp 7]) :=
  ev_inline (mkEnv_ok tyi7_126 (fun p hp => by
    unfold fsi7_126 at hp
    rcases List.mem_cons.1 hp with rfl | hp
    · exact S127
    cases hp)) mixedOK (by kernel_rfl : Tryz.prog.funcs[126]? = some Tryz.f126) (by kernel_rfl) (by kernel_rfl : Tryz.f126.body = some bodyi7_126) (by kernel_rfl) (by kernel_rfl)
theorem SI7_128 (k : Nat) : SoundF Tryz.prog 128 (.evr (mkEnv tsi7_128 (fsi7_128 s17 s73 s107 s127 s129 k)) Hi7_128 k bodyi7_128 18 [.tmp 5]) :=
  ev_inlineR (mkEnv_ok tyi7_128 (fun p hp => by unfold fsi7_128 at hp; cases hp)) mixedOK (by kernel_rfl : Tryz.prog.funcs[128]? = some Tryz.f128) (by kernel_rfl) (by kernel_rfl : Tryz.f128.body = some bodyi7_128) (by kernel_rfl) (by kernel_rfl)
theorem SI7_61 (k : Nat) : SoundF Tryz.prog 61 (.ev (mkEnvX7_61 tsi7_61 (fsi7_61 s17 s73 s107 s127 s129 k)) Hi7_61 k bodyi7_61 122 [.cell 4 23, .tmp 5]) :=
  ev_inline (mkEnvX7_61_ok tyi7_61 (fun p hp => by
    unfold fsi7_61 at hp
    rcases List.mem_cons.1 hp with rfl | hp
    · exact S73
    rcases List.mem_cons.1 hp with rfl | hp
    · exact S107
    rcases List.mem_cons.1 hp with rfl | hp
    · exact SI7_126 k
    rcases List.mem_cons.1 hp with rfl | hp
    · exact SI7_128 k
    rcases List.mem_cons.1 hp with rfl | hp
    · exact S129
    cases hp)) mixedOK (by kernel_rfl : Tryz.prog.funcs[61]? = some Tryz.f61) (by kernel_rfl) (by kernel_rfl : Tryz.f61.body = some bodyi7_61) (by kernel_rfl) (by kernel_rfl)
theorem S7 : SoundF Tryz.prog 7 (.pfn (.cons (.struct (.cons .str (.cons .str (.cons .str (.cons .str (.cons (.int .i64) (.cons (.int .i64) (.cons (.int .i64) (.cons (.int .i64) (.cons (.int .i64) (.cons (.int .i64) (.cons (.int .i64) (.cons (.int .i64) (.cons (.int .i64) (.cons (.slice (.struct (.cons (.int .i64) (.cons .bool (.cons (.int .i64) .nil))))) .nil))))))))))))))) .nil) (.cons (.slice (.int .i64)) (.cons (.int .i64) .nil)) fun x => s7 x.1) :=
  pfn_sound (E := fun k => mkEnv ts7 (fs7 s17 s73 s107 s127 s129 k)) (H := H7) (fun k => mkEnv_ok ty7 (fun p hp => by
    unfold fs7 at hp
    rcases List.mem_cons.1 hp with rfl | hp
    · exact S17
    rcases List.mem_cons.1 hp with rfl | hp
    · exact SI7_61 k
    cases hp)) mixedOK (by kernel_rfl : Tryz.prog.funcs[7]? = some Tryz.f7) (by kernel_rfl) (by kernel_rfl : Tryz.f7.body = some body7) (by kernel_rfl) (by kernel_rfl)
    (fun x y hw hy => by obtain ⟨k, hk⟩ := h7 x.1 y hw hy; exact ⟨k, (ev7 s17 s73 s107 s127 s129 k x).trans hk⟩)
set_option maxHeartbeats 2000000 in
theorem walk62 (a : Option Addr) (c : Nat) (w : World) : Calls Tryz.prog 62 #[.slice a 0 c] w fun e w' => ∃ a' c', e = .returned (.slice a' 0 c') ∧ c' ≤ 9223372036854775807 ∧ Keep None w w' := by
  have q : ∀ (w : World) (a : Option Addr) (n c n' c' : Nat), (binOp .eql 26 (.slice a n c) (.slice none n' c')).run Tryz.prog w = .ok (.bool a.isNone) w := fun w a n c n' c' => Lib.run_eql_slice_nil w _ _ a n c n' c' Tryz.underlying26
  cases a with
  | none =>
    go_enter Tryz.func62, Tryz.ntmps62
    go_wp2
    go_ret
    exact ⟨none, 0, rfl, by omega, Keep.refl _ _⟩
  | some a =>
    go_enter Tryz.func62, Tryz.ntmps62
    go_wp2
    go_ret
    exact ⟨_, _, rfl, by omega, Keep.alloc _ _ _ _⟩
theorem cl62 (xs : List (Int × Bool × Int × Unit)) (hne : xs ≠ []) (hl : xs.length ≤ 4294967296) : f62 0 xs = some (xs, ()) := by
  cases xs with
  | nil => exact absurd rfl hne
  | cons z l =>
    have h2 : decide (List.length ([] : List (Int × Bool × Int × Unit)) + List.length (z :: l) ≤ 4294967296) = true := by simpa using hl
    unfold f62
    rw [show Nat.ble (List.length (z :: l)) 0 = false from rfl, h2]
    rfl
theorem S62 : SoundF Tryz.prog 62 (.pfn (.cons (.slice (.struct (.cons (.int .i64) (.cons .bool (.cons (.int .i64) .nil))))) .nil) (.cons (.slice (.struct (.cons (.int .i64) (.cons .bool (.cons (.int .i64) .nil))))) .nil) fun x => s62 x.1) := by
  intro ρ args objs K r hr
  exact clone_sound (T := (.struct (.cons (.int .i64) (.cons .bool (.cons (.int .i64) .nil))))) (g1 := fun x => f62 0 x.1) (pfn_sound (E := fun _ => mkEnv ts62 fs62) (H := H62) (fun _ => mkEnv_ok ty62 (fun p hp => by unfold fs62 at hp; cases hp)) mixedOK (by kernel_rfl : Tryz.prog.funcs[62]? = some Tryz.f62) (by kernel_rfl) (by kernel_rfl : Tryz.f62.body = some body62) (by kernel_rfl) (by kernel_rfl) (fun x y hw hy => ⟨0, (ev62 0 x).trans hy⟩)) (enters_of (by kernel_rfl : Tryz.prog.funcs[62]? = some Tryz.f62) (by kernel_rfl) (by kernel_rfl : Tryz.f62.body = some body62))
    (fun xs hne hl => cl62 xs hne hl) walk62 args objs K r hr
/-! ### jitney/jitlaw2.ownSeries -/
theorem S8 : SoundF Tryz.prog 8 (.pfn (.cons (.slice (.struct (.cons .str (.cons .str (.cons .str (.cons .str (.cons (.int .i64) (.cons (.int .i64) (.cons (.int .i64) (.cons (.int .i64) (.cons (.int .i64) (.cons (.int .i64) (.cons (.int .i64) (.cons (.int .i64) (.cons (.int .i64) (.cons (.slice (.struct (.cons (.int .i64) (.cons .bool (.cons (.int .i64) .nil))))) .nil)))))))))))))))) .nil) (.cons (.slice (.struct (.cons .str (.cons .str (.cons .str (.cons .str (.cons (.int .i64) (.cons (.int .i64) (.cons (.int .i64) (.cons (.int .i64) (.cons (.int .i64) (.cons (.int .i64) (.cons (.int .i64) (.cons (.int .i64) (.cons (.int .i64) (.cons (.slice (.struct (.cons (.int .i64) (.cons .bool (.cons (.int .i64) .nil))))) .nil)))))))))))))))) .nil) fun x => s8 x.1) :=
  pfn_sound (E := fun k => mkEnv ts8 (fs8 s62)) (H := H8) (fun k => mkEnv_ok ty8 (fun p hp => by
    unfold fs8 at hp
    rcases List.mem_cons.1 hp with rfl | hp
    · exact S62
    cases hp)) mixedOK (by kernel_rfl : Tryz.prog.funcs[8]? = some Tryz.f8) (by kernel_rfl) (by kernel_rfl : Tryz.f8.body = some body8) (by kernel_rfl) (by kernel_rfl)
    (fun x y hw hy => by obtain ⟨k, hk⟩ := h8 x.1 y hw hy; exact ⟨k, (ev8 s62 k x).trans hk⟩)
/-! ### jitney/base.Window -/
theorem S63 : SoundF Tryz.prog 63 (.fn (.cons (.struct (.cons (.int .i64) (.cons (.int .i64) .nil))) .nil) (.cons .bool .nil) fun x => (s63 x.1, ())) :=
  fn_sound (E := fun k => mkEnv ts63 (fs63 s74)) (H := H63) (fun k => mkEnv_ok ty63 (fun p hp => by
    unfold fs63 at hp
    rcases List.mem_cons.1 hp with rfl | hp
    · exact S74
    cases hp)) mixedOK (by kernel_rfl : Tryz.prog.funcs[63]? = some Tryz.f63) (by kernel_rfl) (by kernel_rfl : Tryz.f63.body = some body63) (by kernel_rfl) (by kernel_rfl)
    (fun x hw => by obtain ⟨k, hk⟩ := h63 x.1 hw; exact ⟨k, (ev63 s74 k x).trans hk⟩)
/-! ### cmp.Or[int] -/
theorem S66 [MonotC] : SoundF Tryz.prog 66 (.fn (.cons (.slice (.int .i64)) .nil) (.cons (.int .i64) .nil) fun x => (s66 x.1, ())) :=
  fn_sound (E := fun k => mkEnv ts66 (fs66 )) (H := H66) (fun k => mkEnv_ok ty66 (fun p hp => by unfold fs66 at hp; cases hp)) mixedOK (by kernel_rfl : Tryz.prog.funcs[66]? = some Tryz.f66) (by kernel_rfl) (by kernel_rfl : Tryz.f66.body = some body66) (by kernel_rfl) (by kernel_rfl)
    (fun x hw => by obtain ⟨k, hk⟩ := h66 x.1 hw; exact ⟨k, (ev66  k x).trans hk⟩)
/-! ### strings.Compare -/
theorem S68 [MonotC] : SoundF Tryz.prog 68 (.fn (.cons .str (.cons .str .nil)) (.cons (.int .i64) .nil) fun x => (s68 x.1 x.2.1, ())) :=
  fn_sound (E := fun k => mkEnv ts68 (fs68 s133)) (H := H68) (fun k => mkEnv_ok ty68 (fun p hp => by
    unfold fs68 at hp
    rcases List.mem_cons.1 hp with rfl | hp
    · exact S133
    cases hp)) mixedOK (by kernel_rfl : Tryz.prog.funcs[68]? = some Tryz.f68) (by kernel_rfl) (by kernel_rfl : Tryz.f68.body = some body68) (by kernel_rfl) (by kernel_rfl)
    (fun x hw => by obtain ⟨k, hk⟩ := h68 x.1 x.2.1 hw; exact ⟨k, (ev68 s133 k x).trans hk⟩)
/-! ### jitney/request.Rides$1 -/
theorem S65 [MonotC] : SoundF Tryz.prog 65 (.fn (.cons (.struct (.cons .str (.cons .str (.cons .str (.cons .str (.cons (.int .i64) (.cons (.int .i64) (.cons (.int .i64) (.cons (.int .i64) .nil))))))))) (.cons (.struct (.cons .str (.cons .str (.cons .str (.cons .str (.cons (.int .i64) (.cons (.int .i64) (.cons (.int .i64) (.cons (.int .i64) .nil))))))))) .nil)) (.cons (.int .i64) .nil) fun x => (s65 x.1 x.2.1, ())) :=
  fn_sound (E := fun k => mkEnv ts65 (fs65 s66 s67 s68)) (H := H65) (fun k => mkEnv_ok ty65 (fun p hp => by
    unfold fs65 at hp
    rcases List.mem_cons.1 hp with rfl | hp
    · exact S66
    rcases List.mem_cons.1 hp with rfl | hp
    · exact S67
    rcases List.mem_cons.1 hp with rfl | hp
    · exact S68
    cases hp)) mixedOK (by kernel_rfl : Tryz.prog.funcs[65]? = some Tryz.f65) (by kernel_rfl) (by kernel_rfl : Tryz.f65.body = some body65) (by kernel_rfl) (by kernel_rfl)
    (fun x hw => by obtain ⟨k, hk⟩ := h65 x.1 x.2.1 hw; exact ⟨k, (ev65 s66 s67 s68 k x).trans hk⟩)
/-! ### jitney/request.Rides -/
theorem S64 : SoundF Tryz.prog 64 (.rfn (.struct (.cons .str (.cons .str (.cons .str (.cons .str (.cons (.int .i64) (.cons (.int .i64) (.cons (.int .i64) (.cons (.int .i64) .nil))))))))) .nil 65 fun xs a => s64 xs) := SF64 (@S65 monotYes)
theorem SI9_126 (k : Nat) : SoundF Tryz.prog 126 (.ev (mkEnv tsi9_126 (fsi9_126 s17 s63 s64 s73 s107 s127 s129 k)) Hi9_126 k bodyi9_126 49 [.tmp 6, .tmp 7]) :=
  ev_inline (mkEnv_ok tyi9_126 (fun p hp => by
    unfold fsi9_126 at hp
    rcases List.mem_cons.1 hp with rfl | hp
    · exact S127
    cases hp)) mixedOK (by kernel_rfl : Tryz.prog.funcs[126]? = some Tryz.f126) (by kernel_rfl) (by kernel_rfl : Tryz.f126.body = some bodyi9_126) (by kernel_rfl) (by kernel_rfl)
theorem SI9_128 (k : Nat) : SoundF Tryz.prog 128 (.evr (mkEnv tsi9_128 (fsi9_128 s17 s63 s64 s73 s107 s127 s129 k)) Hi9_128 k bodyi9_128 18 [.tmp 5]) :=
  ev_inlineR (mkEnv_ok tyi9_128 (fun p hp => by unfold fsi9_128 at hp; cases hp)) mixedOK (by kernel_rfl : Tryz.prog.funcs[128]? = some Tryz.f128) (by kernel_rfl) (by kernel_rfl : Tryz.f128.body = some bodyi9_128) (by kernel_rfl) (by kernel_rfl)
theorem SI9_61 (k : Nat) : SoundF Tryz.prog 61 (.ev (mkEnvX9_61 tsi9_61 (fsi9_61 s17 s63 s64 s73 s107 s127 s129 k)) Hi9_61 k bodyi9_61 122 [.cell 4 23, .tmp 5]) :=
  ev_inline (mkEnvX9_61_ok tyi9_61 (fun p hp => by
    unfold fsi9_61 at hp
    rcases List.mem_cons.1 hp with rfl | hp
    · exact S73
    rcases List.mem_cons.1 hp with rfl | hp
    · exact S107
    rcases List.mem_cons.1 hp with rfl | hp
    · exact SI9_126 k
    rcases List.mem_cons.1 hp with rfl | hp
    · exact SI9_128 k
    rcases List.mem_cons.1 hp with rfl | hp
    · exact S129
    cases hp)) mixedOK (by kernel_rfl : Tryz.prog.funcs[61]? = some Tryz.f61) (by kernel_rfl) (by kernel_rfl : Tryz.f61.body = some bodyi9_61) (by kernel_rfl) (by kernel_rfl)
theorem S9 : SoundF Tryz.prog 9 (.pfn (.cons (.struct (.cons .str (.cons .str (.cons .str (.cons .str (.cons (.int .i64) (.cons (.int .i64) (.cons (.int .i64) (.cons (.int .i64) (.cons (.int .i64) (.cons (.int .i64) (.cons (.int .i64) (.cons (.int .i64) (.cons (.int .i64) (.cons (.slice (.struct (.cons (.int .i64) (.cons .bool (.cons (.int .i64) .nil))))) .nil))))))))))))))) (.cons (.struct (.cons (.int .i64) (.cons (.int .i64) .nil))) .nil)) (.cons (.slice (.struct (.cons .str (.cons .str (.cons .str (.cons .str (.cons (.int .i64) (.cons (.int .i64) (.cons (.int .i64) (.cons (.int .i64) .nil)))))))))) (.cons (.int .i64) .nil)) fun x => s9 x.1 x.2.1) :=
  pfn_sound (E := fun k => mkEnv ts9 (fs9 s17 s63 s64 s73 s107 s127 s129 k)) (H := H9) (fun k => mkEnv_ok ty9 (fun p hp => by
    unfold fs9 at hp
    rcases List.mem_cons.1 hp with rfl | hp
    · exact S17
    rcases List.mem_cons.1 hp with rfl | hp
    · exact SI9_61 k
    rcases List.mem_cons.1 hp with rfl | hp
    · exact S63
    rcases List.mem_cons.1 hp with rfl | hp
    · exact S64
    cases hp)) mixedOK (by kernel_rfl : Tryz.prog.funcs[9]? = some Tryz.f9) (by kernel_rfl) (by kernel_rfl : Tryz.f9.body = some body9) (by kernel_rfl) (by kernel_rfl)
    (fun x y hw hy => by obtain ⟨k, hk⟩ := h9 x.1 x.2.1 y hw hy; exact ⟨k, (ev9 s17 s63 s64 s73 s107 s127 s129 k x).trans hk⟩)
/-! ### jitney/base.First -/
theorem S69 : SoundF Tryz.prog 69 (.fn (.cons (.slice (.int .i64)) .nil) (.cons (.int .i64) .nil) fun x => (s69 x.1, ())) :=
  fn_sound (E := fun k => mkEnv ts69 (fs69 )) (H := H69) (fun k => mkEnv_ok ty69 (fun p hp => by unfold fs69 at hp; cases hp)) mixedOK (by kernel_rfl : Tryz.prog.funcs[69]? = some Tryz.f69) (by kernel_rfl) (by kernel_rfl : Tryz.f69.body = some body69) (by kernel_rfl) (by kernel_rfl)
    (fun x hw => by obtain ⟨k, hk⟩ := h69 x.1 hw; exact ⟨k, (ev69  k x).trans hk⟩)
/-! ### jitney/request.meet -/
theorem S70 : SoundF Tryz.prog 70 (.fn (.cons (.struct (.cons .str (.cons .str (.cons .str (.cons .str (.cons (.int .i64) (.cons (.int .i64) (.cons (.int .i64) (.cons (.int .i64) .nil))))))))) (.cons (.struct (.cons .str (.cons .str (.cons .str (.cons .str (.cons (.int .i64) (.cons (.int .i64) (.cons (.int .i64) (.cons (.int .i64) .nil))))))))) .nil)) (.cons .bool .nil) fun x => (s70 x.1 x.2.1, ())) :=
  fn_sound (E := fun k => mkEnv ts70 (fs70 )) (H := H70) (fun k => mkEnv_ok ty70 (fun p hp => by unfold fs70 at hp; cases hp)) mixedOK (by kernel_rfl : Tryz.prog.funcs[70]? = some Tryz.f70) (by kernel_rfl) (by kernel_rfl : Tryz.f70.body = some body70) (by kernel_rfl) (by kernel_rfl)
    (fun x hw => by obtain ⟨k, hk⟩ := h70 x.1 x.2.1 hw; exact ⟨k, (ev70  k x).trans hk⟩)
/-! ### jitney/request.Same -/
theorem SI10_126 (k : Nat) : SoundF Tryz.prog 126 (.ev (mkEnv tsi10_126 (fsi10_126 s17 s69 s70 s73 s107 s127 s129 k)) Hi10_126 k bodyi10_126 49 [.tmp 6, .tmp 7]) :=
  ev_inline (mkEnv_ok tyi10_126 (fun p hp => by
    unfold fsi10_126 at hp
    rcases List.mem_cons.1 hp with rfl | hp
    · exact S127
    cases hp)) mixedOK (by kernel_rfl : Tryz.prog.funcs[126]? = some Tryz.f126) (by kernel_rfl) (by kernel_rfl : Tryz.f126.body = some bodyi10_126) (by kernel_rfl) (by kernel_rfl)
theorem SI10_128 (k : Nat) : SoundF Tryz.prog 128 (.evr (mkEnv tsi10_128 (fsi10_128 s17 s69 s70 s73 s107 s127 s129 k)) Hi10_128 k bodyi10_128 18 [.tmp 5]) :=
  ev_inlineR (mkEnv_ok tyi10_128 (fun p hp => by unfold fsi10_128 at hp; cases hp)) mixedOK (by kernel_rfl : Tryz.prog.funcs[128]? = some Tryz.f128) (by kernel_rfl) (by kernel_rfl : Tryz.f128.body = some bodyi10_128) (by kernel_rfl) (by kernel_rfl)
theorem SI10_61 (k : Nat) : SoundF Tryz.prog 61 (.ev (mkEnvX10_61 tsi10_61 (fsi10_61 s17 s69 s70 s73 s107 s127 s129 k)) Hi10_61 k bodyi10_61 122 [.cell 4 23, .tmp 5]) :=
  ev_inline (mkEnvX10_61_ok tyi10_61 (fun p hp => by
    unfold fsi10_61 at hp
    rcases List.mem_cons.1 hp with rfl | hp
    · exact S73
    rcases List.mem_cons.1 hp with rfl | hp
    · exact S107
    rcases List.mem_cons.1 hp with rfl | hp
    · exact SI10_126 k
    rcases List.mem_cons.1 hp with rfl | hp
    · exact SI10_128 k
    rcases List.mem_cons.1 hp with rfl | hp
    · exact S129
    cases hp)) mixedOK (by kernel_rfl : Tryz.prog.funcs[61]? = some Tryz.f61) (by kernel_rfl) (by kernel_rfl : Tryz.f61.body = some bodyi10_61) (by kernel_rfl) (by kernel_rfl)
theorem S10 : SoundF Tryz.prog 10 (.pfn (.cons (.struct (.cons .str (.cons .str (.cons .str (.cons .str (.cons (.int .i64) (.cons (.int .i64) (.cons (.int .i64) (.cons (.int .i64) (.cons (.int .i64) (.cons (.int .i64) (.cons (.int .i64) (.cons (.int .i64) (.cons (.int .i64) (.cons (.slice (.struct (.cons (.int .i64) (.cons .bool (.cons (.int .i64) .nil))))) .nil))))))))))))))) (.cons (.struct (.cons .str (.cons .str (.cons .str (.cons .str (.cons (.int .i64) (.cons (.int .i64) (.cons (.int .i64) (.cons (.int .i64) (.cons (.int .i64) (.cons (.int .i64) (.cons (.int .i64) (.cons (.int .i64) (.cons (.int .i64) (.cons (.slice (.struct (.cons (.int .i64) (.cons .bool (.cons (.int .i64) .nil))))) .nil))))))))))))))) .nil)) (.cons (.slice (.int .i64)) (.cons (.int .i64) .nil)) fun x => s10 x.1 x.2.1) :=
  pfn_sound (E := fun k => mkEnv ts10 (fs10 s17 s69 s70 s73 s107 s127 s129 k)) (H := H10) (fun k => mkEnv_ok ty10 (fun p hp => by
    unfold fs10 at hp
    rcases List.mem_cons.1 hp with rfl | hp
    · exact S17
    rcases List.mem_cons.1 hp with rfl | hp
    · exact SI10_61 k
    rcases List.mem_cons.1 hp with rfl | hp
    · exact S69
    rcases List.mem_cons.1 hp with rfl | hp
    · exact S70
    cases hp)) mixedOK (by kernel_rfl : Tryz.prog.funcs[10]? = some Tryz.f10) (by kernel_rfl) (by kernel_rfl : Tryz.f10.body = some body10) (by kernel_rfl) (by kernel_rfl)
    (fun x y hw hy => by obtain ⟨k, hk⟩ := h10 x.1 x.2.1 y hw hy; exact ⟨k, (ev10 s17 s69 s70 s73 s107 s127 s129 k x).trans hk⟩)
/-! ### jitney/jitref2.in -/
theorem S71 : SoundF Tryz.prog 71 (.fn (.cons (.int .i64) (.cons (.int .i64) (.cons (.int .i64) .nil))) (.cons .bool .nil) fun x => (s71 x.1 x.2.1 x.2.2.1, ())) :=
  fn_sound (E := fun k => mkEnv ts71 (fs71 )) (H := H71) (fun k => mkEnv_ok ty71 (fun p hp => by unfold fs71 at hp; cases hp)) mixedOK (by kernel_rfl : Tryz.prog.funcs[71]? = some Tryz.f71) (by kernel_rfl) (by kernel_rfl : Tryz.f71.body = some body71) (by kernel_rfl) (by kernel_rfl)
    (fun x hw => by obtain ⟨k, hk⟩ := h71 x.1 x.2.1 x.2.2.1 hw; exact ⟨k, (ev71  k x).trans hk⟩)
/-! ### strings.IndexByte -/
theorem S145 : SoundF Tryz.prog 145 (.fn (.cons .str (.cons (.int .u8) .nil)) (.cons (.int .i64) .nil) fun x => (s145 x.1 x.2.1, ())) :=
  fn_sound (E := fun k => mkEnv ts145 (fs145 s182)) (H := H145) (fun k => mkEnv_ok ty145 (fun p hp => by
    unfold fs145 at hp
    rcases List.mem_cons.1 hp with rfl | hp
    · exact S182
    cases hp)) mixedOK (by kernel_rfl : Tryz.prog.funcs[145]? = some Tryz.f145) (by kernel_rfl) (by kernel_rfl : Tryz.f145.body = some body145) (by kernel_rfl) (by kernel_rfl)
    (fun x hw => by obtain ⟨k, hk⟩ := h145 x.1 x.2.1 hw; exact ⟨k, (ev145 s182 k x).trans hk⟩)
/-! ### jitney/jitref2.only -/
theorem S94 : SoundF Tryz.prog 94 (.fn (.cons .str (.cons .str .nil)) (.cons .bool .nil) fun x => (s94 x.1 x.2.1, ())) :=
  fn_sound (E := fun k => mkEnv ts94 (fs94 s145)) (H := H94) (fun k => mkEnv_ok ty94 (fun p hp => by
    unfold fs94 at hp
    rcases List.mem_cons.1 hp with rfl | hp
    · exact S145
    cases hp)) mixedOK (by kernel_rfl : Tryz.prog.funcs[94]? = some Tryz.f94) (by kernel_rfl) (by kernel_rfl : Tryz.f94.body = some body94) (by kernel_rfl) (by kernel_rfl)
    (fun x hw => by obtain ⟨k, hk⟩ := h94 x.1 x.2.1 hw; exact ⟨k, (ev94 s145 k x).trans hk⟩)
/-! ### jitney/jitref2.Key -/
theorem S36 : SoundF Tryz.prog 36 (.fn (.cons .str .nil) (.cons .bool .nil) fun x => (s36 x.1, ())) :=
  fn_sound (E := fun k => mkEnv ts36 (fs36 s71 s94)) (H := H36) (fun k => mkEnv_ok ty36 (fun p hp => by
    unfold fs36 at hp
    rcases List.mem_cons.1 hp with rfl | hp
    · exact S71
    rcases List.mem_cons.1 hp with rfl | hp
    · exact S94
    cases hp)) mixedOK (by kernel_rfl : Tryz.prog.funcs[36]? = some Tryz.f36) (by kernel_rfl) (by kernel_rfl : Tryz.f36.body = some body36) (by kernel_rfl) (by kernel_rfl)
    (fun x hw => by obtain ⟨k, hk⟩ := h36 x.1 hw; exact ⟨k, (ev36 s71 s94 k x).trans hk⟩)
/-! ### jitney/jitref2.SeriesFault -/
theorem S11 : SoundF Tryz.prog 11 (.fn (.cons (.slice (.struct (.cons .str (.cons .str (.cons .str (.cons .str (.cons (.int .i64) (.cons (.int .i64) (.cons (.int .i64) (.cons (.int .i64) (.cons (.int .i64) (.cons (.int .i64) (.cons (.int .i64) (.cons (.int .i64) (.cons (.int .i64) (.cons (.slice (.struct (.cons (.int .i64) (.cons .bool (.cons (.int .i64) .nil))))) .nil)))))))))))))))) .nil) (.cons (.int .i64) .nil) fun x => (s11 x.1, ())) :=
  fn_sound (E := fun k => mkEnv ts11 (fs11 s36 s71)) (H := H11) (fun k => mkEnv_ok ty11 (fun p hp => by
    unfold fs11 at hp
    rcases List.mem_cons.1 hp with rfl | hp
    · exact S36
    rcases List.mem_cons.1 hp with rfl | hp
    · exact S71
    cases hp)) mixedOK (by kernel_rfl : Tryz.prog.funcs[11]? = some Tryz.f11) (by kernel_rfl) (by kernel_rfl : Tryz.f11.body = some body11) (by kernel_rfl) (by kernel_rfl)
    (fun x hw => by obtain ⟨k, hk⟩ := h11 x.1 hw; exact ⟨k, (ev11 s36 s71 k x).trans hk⟩)
/-! ### jitney/request.CheckRide -/
theorem S12 : SoundF Tryz.prog 12 (.fn (.cons (.struct (.cons .str (.cons .str (.cons .str (.cons .str (.cons (.int .i64) (.cons (.int .i64) (.cons (.int .i64) (.cons (.int .i64) .nil))))))))) .nil) (.cons (.int .i64) .nil) fun x => (s12 x.1, ())) :=
  fn_sound (E := fun k => mkEnv ts12 (fs12 s72 s73 s74)) (H := H12) (fun k => mkEnv_ok ty12 (fun p hp => by
    unfold fs12 at hp
    rcases List.mem_cons.1 hp with rfl | hp
    · exact S72
    rcases List.mem_cons.1 hp with rfl | hp
    · exact S73
    rcases List.mem_cons.1 hp with rfl | hp
    · exact S74
    cases hp)) mixedOK (by kernel_rfl : Tryz.prog.funcs[12]? = some Tryz.f12) (by kernel_rfl) (by kernel_rfl : Tryz.f12.body = some body12) (by kernel_rfl) (by kernel_rfl)
    (fun x hw => by obtain ⟨k, hk⟩ := h12 x.1 hw; exact ⟨k, (ev12 s72 s73 s74 k x).trans hk⟩)
/-! ### jitney/jitref2.Moment -/
theorem S37 : SoundF Tryz.prog 37 (.fn (.cons (.int .i64) .nil) (.cons .bool .nil) fun x => (s37 x.1, ())) :=
  fn_sound (E := fun k => mkEnv ts37 (fs37 s71)) (H := H37) (fun k => mkEnv_ok ty37 (fun p hp => by
    unfold fs37 at hp
    rcases List.mem_cons.1 hp with rfl | hp
    · exact S71
    cases hp)) mixedOK (by kernel_rfl : Tryz.prog.funcs[37]? = some Tryz.f37) (by kernel_rfl) (by kernel_rfl : Tryz.f37.body = some body37) (by kernel_rfl) (by kernel_rfl)
    (fun x hw => by obtain ⟨k, hk⟩ := h37 x.1 hw; exact ⟨k, (ev37 s71 k x).trans hk⟩)
/-! ### jitney/jitref2.RideFault -/
theorem S13 : SoundF Tryz.prog 13 (.fn (.cons (.struct (.cons .str (.cons .str (.cons .str (.cons .str (.cons (.int .i64) (.cons (.int .i64) (.cons (.int .i64) (.cons (.int .i64) .nil))))))))) .nil) (.cons (.int .i64) .nil) fun x => (s13 x.1, ())) :=
  fn_sound (E := fun k => mkEnv ts13 (fs13 s36 s37 s71)) (H := H13) (fun k => mkEnv_ok ty13 (fun p hp => by
    unfold fs13 at hp
    rcases List.mem_cons.1 hp with rfl | hp
    · exact S36
    rcases List.mem_cons.1 hp with rfl | hp
    · exact S37
    rcases List.mem_cons.1 hp with rfl | hp
    · exact S71
    cases hp)) mixedOK (by kernel_rfl : Tryz.prog.funcs[13]? = some Tryz.f13) (by kernel_rfl) (by kernel_rfl : Tryz.f13.body = some body13) (by kernel_rfl) (by kernel_rfl)
    (fun x hw => by obtain ⟨k, hk⟩ := h13 x.1 hw; exact ⟨k, (ev13 s36 s37 s71 k x).trans hk⟩)
/-! ### jitney/request.CheckRiders -/
theorem S14 : SoundF Tryz.prog 14 (.fn (.cons (.slice (.struct (.cons .str (.cons (.int .i64) (.cons (.int .i64) .nil))))) .nil) (.cons (.int .i64) .nil) fun x => (s14 x.1, ())) :=
  fn_sound (E := fun k => mkEnv ts14 (fs14 s74 s75)) (H := H14) (fun k => mkEnv_ok ty14 (fun p hp => by
    unfold fs14 at hp
    rcases List.mem_cons.1 hp with rfl | hp
    · exact S74
    rcases List.mem_cons.1 hp with rfl | hp
    · exact S75
    cases hp)) mixedOK (by kernel_rfl : Tryz.prog.funcs[14]? = some Tryz.f14) (by kernel_rfl) (by kernel_rfl : Tryz.f14.body = some body14) (by kernel_rfl) (by kernel_rfl)
    (fun x hw => by obtain ⟨k, hk⟩ := h14 x.1 hw; exact ⟨k, (ev14 s74 s75 k x).trans hk⟩)
set_option maxHeartbeats 2000000 in
theorem walk15 (a : Option Addr) (c : Nat) (w : World) : Calls Tryz.prog 15 #[.slice a 0 c] w fun e w' => ∃ a' c', e = .returned (.slice a' 0 c') ∧ c' ≤ 9223372036854775807 ∧ Keep None w w' := by
  have q : ∀ (w : World) (a : Option Addr) (n c n' c' : Nat), (binOp .eql 24 (.slice a n c) (.slice none n' c')).run Tryz.prog w = .ok (.bool a.isNone) w := fun w a n c n' c' => Lib.run_eql_slice_nil w _ _ a n c n' c' Tryz.underlying24
  cases a with
  | none =>
    go_enter Tryz.func15, Tryz.ntmps15
    go_wp2
    go_ret
    exact ⟨none, 0, rfl, by omega, Keep.refl _ _⟩
  | some a =>
    go_enter Tryz.func15, Tryz.ntmps15
    go_wp2
    go_ret
    exact ⟨_, _, rfl, by omega, Keep.alloc _ _ _ _⟩
theorem cl15 (xs : List (ByteArray × Int × Int × Unit)) (hne : xs ≠ []) (hl : xs.length ≤ 4294967296) : f15 0 xs = some (xs, ()) := by
  cases xs with
  | nil => exact absurd rfl hne
  | cons z l =>
    have h2 : decide (List.length ([] : List (ByteArray × Int × Int × Unit)) + List.length (z :: l) ≤ 4294967296) = true := by simpa using hl
    unfold f15
    rw [show Nat.ble (List.length (z :: l)) 0 = false from rfl, h2]
    rfl
theorem S15 : SoundF Tryz.prog 15 (.pfn (.cons (.slice (.struct (.cons .str (.cons (.int .i64) (.cons (.int .i64) .nil))))) .nil) (.cons (.slice (.struct (.cons .str (.cons (.int .i64) (.cons (.int .i64) .nil))))) .nil) fun x => s15 x.1) := by
  intro ρ args objs K r hr
  exact clone_sound (T := (.struct (.cons .str (.cons (.int .i64) (.cons (.int .i64) .nil))))) (g1 := fun x => f15 0 x.1) (pfn_sound (E := fun _ => mkEnv ts15 fs15) (H := H15) (fun _ => mkEnv_ok ty15 (fun p hp => by unfold fs15 at hp; cases hp)) mixedOK (by kernel_rfl : Tryz.prog.funcs[15]? = some Tryz.f15) (by kernel_rfl) (by kernel_rfl : Tryz.f15.body = some body15) (by kernel_rfl) (by kernel_rfl) (fun x y hw hy => ⟨0, (ev15 0 x).trans hy⟩)) (enters_of (by kernel_rfl : Tryz.prog.funcs[15]? = some Tryz.f15) (by kernel_rfl) (by kernel_rfl : Tryz.f15.body = some body15))
    (fun xs hne hl => cl15 xs hne hl) walk15 args objs K r hr
/-! ### jitney/jitref2.RidersFault -/
theorem S16 : SoundF Tryz.prog 16 (.fn (.cons (.slice (.struct (.cons .str (.cons (.int .i64) (.cons (.int .i64) .nil))))) .nil) (.cons (.int .i64) .nil) fun x => (s16 x.1, ())) :=
  fn_sound (E := fun k => mkEnv ts16 (fs16 s36 s71)) (H := H16) (fun k => mkEnv_ok ty16 (fun p hp => by
    unfold fs16 at hp
    rcases List.mem_cons.1 hp with rfl | hp
    · exact S36
    rcases List.mem_cons.1 hp with rfl | hp
    · exact S71
    cases hp)) mixedOK (by kernel_rfl : Tryz.prog.funcs[16]? = some Tryz.f16) (by kernel_rfl) (by kernel_rfl : Tryz.f16.body = some body16) (by kernel_rfl) (by kernel_rfl)
    (fun x hw => by obtain ⟨k, hk⟩ := h16 x.1 hw; exact ⟨k, (ev16 s36 s71 k x).trans hk⟩)
/-! ### jitney/jitlaw2.errs -/
theorem S18 : SoundF Tryz.prog 18 (.fn (.cons (.slice (.int .i64)) .nil) (.cons (.int .i64) .nil) fun x => (s18 x.1, ())) :=
  fn_sound (E := fun k => mkEnv ts18 (fs18 )) (H := H18) (fun k => mkEnv_ok ty18 (fun p hp => by unfold fs18 at hp; cases hp)) mixedOK (by kernel_rfl : Tryz.prog.funcs[18]? = some Tryz.f18) (by kernel_rfl) (by kernel_rfl : Tryz.f18.body = some body18) (by kernel_rfl) (by kernel_rfl)
    (fun x hw => by obtain ⟨k, hk⟩ := h18 x.1 hw; exact ⟨k, (ev18  k x).trans hk⟩)
/-! ### jitney/jitref2.WindowFault -/
theorem S19 : SoundF Tryz.prog 19 (.fn (.cons (.struct (.cons (.int .i64) (.cons (.int .i64) .nil))) .nil) (.cons (.int .i64) .nil) fun x => (s19 x.1, ())) :=
  fn_sound (E := fun k => mkEnv ts19 (fs19 s71)) (H := H19) (fun k => mkEnv_ok ty19 (fun p hp => by
    unfold fs19 at hp
    rcases List.mem_cons.1 hp with rfl | hp
    · exact S71
    cases hp)) mixedOK (by kernel_rfl : Tryz.prog.funcs[19]? = some Tryz.f19) (by kernel_rfl) (by kernel_rfl : Tryz.f19.body = some body19) (by kernel_rfl) (by kernel_rfl)
    (fun x hw => by obtain ⟨k, hk⟩ := h19 x.1 hw; exact ⟨k, (ev19 s71 k x).trans hk⟩)
/-! ### jitney/jitref2.ridesOf -/
theorem S77 : SoundF Tryz.prog 77 (.pfn (.cons (.struct (.cons .str (.cons .str (.cons .str (.cons .str (.cons (.int .i64) (.cons (.int .i64) (.cons (.int .i64) (.cons (.int .i64) (.cons (.int .i64) (.cons (.int .i64) (.cons (.int .i64) (.cons (.int .i64) (.cons (.int .i64) (.cons (.slice (.struct (.cons (.int .i64) (.cons .bool (.cons (.int .i64) .nil))))) .nil))))))))))))))) .nil) (.cons (.slice (.struct (.cons .str (.cons .str (.cons .str (.cons .str (.cons (.int .i64) (.cons (.int .i64) (.cons (.int .i64) (.cons (.int .i64) .nil)))))))))) (.cons (.slice (.int .i64)) .nil)) fun x => s77 x.1) :=
  pfn_sound (E := fun k => mkEnv ts77 (fs77 s37 s107)) (H := H77) (fun k => mkEnv_ok ty77 (fun p hp => by
    unfold fs77 at hp
    rcases List.mem_cons.1 hp with rfl | hp
    · exact S37
    rcases List.mem_cons.1 hp with rfl | hp
    · exact S107
    cases hp)) mixedOK (by kernel_rfl : Tryz.prog.funcs[77]? = some Tryz.f77) (by kernel_rfl) (by kernel_rfl : Tryz.f77.body = some body77) (by kernel_rfl) (by kernel_rfl)
    (fun x y hw hy => by obtain ⟨k, hk⟩ := h77 x.1 y hw hy; exact ⟨k, (ev77 s37 s107 k x).trans hk⟩)
/-! ### jitney/jitref2.DaysOf -/
theorem S20 : SoundF Tryz.prog 20 (.pfn (.cons (.struct (.cons .str (.cons .str (.cons .str (.cons .str (.cons (.int .i64) (.cons (.int .i64) (.cons (.int .i64) (.cons (.int .i64) (.cons (.int .i64) (.cons (.int .i64) (.cons (.int .i64) (.cons (.int .i64) (.cons (.int .i64) (.cons (.slice (.struct (.cons (.int .i64) (.cons .bool (.cons (.int .i64) .nil))))) .nil))))))))))))))) .nil) (.cons (.slice (.int .i64)) .nil) fun x => s20 x.1) :=
  pfn_sound (E := fun k => mkEnv ts20 (fs20 s77)) (H := H20) (fun k => mkEnv_ok ty20 (fun p hp => by
    unfold fs20 at hp
    rcases List.mem_cons.1 hp with rfl | hp
    · exact S77
    cases hp)) mixedOK (by kernel_rfl : Tryz.prog.funcs[20]? = some Tryz.f20) (by kernel_rfl) (by kernel_rfl : Tryz.f20.body = some body20) (by kernel_rfl) (by kernel_rfl)
    (fun x y hw hy => by obtain ⟨k, hk⟩ := h20 x.1 y hw hy; exact ⟨k, (ev20 s77 k x).trans hk⟩)
/-! ### jitney/jitref2.sign -/
theorem S138 [MonotC] : SoundF Tryz.prog 138 (.fn (.cons (.int .i64) .nil) (.cons (.int .i64) .nil) fun x => (s138 x.1, ())) :=
  fn_sound (E := fun k => mkEnv ts138 (fs138 )) (H := H138) (fun k => mkEnv_ok ty138 (fun p hp => by unfold fs138 at hp; cases hp)) mixedOK (by kernel_rfl : Tryz.prog.funcs[138]? = some Tryz.f138) (by kernel_rfl) (by kernel_rfl : Tryz.f138.body = some body138) (by kernel_rfl) (by kernel_rfl)
    (fun x hw => by obtain ⟨k, hk⟩ := h138 x.1 hw; exact ⟨k, (ev138  k x).trans hk⟩)
/-! ### jitney/jitref2.RideOrder -/
theorem S81 [MonotC] : SoundF Tryz.prog 81 (.fn (.cons (.struct (.cons .str (.cons .str (.cons .str (.cons .str (.cons (.int .i64) (.cons (.int .i64) (.cons (.int .i64) (.cons (.int .i64) .nil))))))))) (.cons (.struct (.cons .str (.cons .str (.cons .str (.cons .str (.cons (.int .i64) (.cons (.int .i64) (.cons (.int .i64) (.cons (.int .i64) .nil))))))))) .nil)) (.cons (.int .i64) .nil) fun x => (s81 x.1 x.2.1, ())) :=
  fn_sound (E := fun k => mkEnv ts81 (fs81 s68 s138)) (H := H81) (fun k => mkEnv_ok ty81 (fun p hp => by
    unfold fs81 at hp
    rcases List.mem_cons.1 hp with rfl | hp
    · exact S68
    rcases List.mem_cons.1 hp with rfl | hp
    · exact S138
    cases hp)) mixedOK (by kernel_rfl : Tryz.prog.funcs[81]? = some Tryz.f81) (by kernel_rfl) (by kernel_rfl : Tryz.f81.body = some body81) (by kernel_rfl) (by kernel_rfl)
    (fun x hw => by obtain ⟨k, hk⟩ := h81 x.1 x.2.1 hw; exact ⟨k, (ev81 s68 s138 k x).trans hk⟩)
/-! ### jitney/jitref2.inside -/
theorem S80 : SoundF Tryz.prog 80 (.fn (.cons (.int .i64) (.cons (.struct (.cons (.int .i64) (.cons (.int .i64) .nil))) .nil)) (.cons .bool .nil) fun x => (s80 x.1 x.2.1, ())) :=
  fn_sound (E := fun k => mkEnv ts80 (fs80 )) (H := H80) (fun k => mkEnv_ok ty80 (fun p hp => by unfold fs80 at hp; cases hp)) mixedOK (by kernel_rfl : Tryz.prog.funcs[80]? = some Tryz.f80) (by kernel_rfl) (by kernel_rfl : Tryz.f80.body = some body80) (by kernel_rfl) (by kernel_rfl)
    (fun x hw => by obtain ⟨k, hk⟩ := h80 x.1 x.2.1 hw; exact ⟨k, (ev80  k x).trans hk⟩)
/-! ### jitney/jitref2.RidesIn -/
theorem S64_81 : SoundF Tryz.prog 64 (.rfn (.struct (.cons .str (.cons .str (.cons .str (.cons .str (.cons (.int .i64) (.cons (.int .i64) (.cons (.int .i64) (.cons (.int .i64) .nil))))))))) .nil 81 fun xs a => s64_81 xs) := SF64 (@S81 monotYes)
theorem SI21_77 (k : Nat) : SoundF Tryz.prog 77 (.ev (mkEnv tsi21_77 (fsi21_77 s37 s64_81 s80 s107 k)) Hi21_77 k bodyi21_77 119 [.tmp 2, .tmp 3]) :=
  ev_inline (mkEnv_ok tyi21_77 (fun p hp => by
    unfold fsi21_77 at hp
    rcases List.mem_cons.1 hp with rfl | hp
    · exact S37
    rcases List.mem_cons.1 hp with rfl | hp
    · exact S107
    cases hp)) mixedOK (by kernel_rfl : Tryz.prog.funcs[77]? = some Tryz.f77) (by kernel_rfl) (by kernel_rfl : Tryz.f77.body = some bodyi21_77) (by kernel_rfl) (by kernel_rfl)
theorem SI21_79 (k : Nat) : SoundF Tryz.prog 79 (.ev (mkEnv tsi21_79 (fsi21_79 s37 s64_81 s80 s107 k)) Hi21_79 k bodyi21_79 9 [.tmp 3]) :=
  ev_inline (mkEnv_ok tyi21_79 (fun p hp => by
    unfold fsi21_79 at hp
    rcases List.mem_cons.1 hp with rfl | hp
    · exact S80
    cases hp)) mixedOK (by kernel_rfl : Tryz.prog.funcs[79]? = some Tryz.f79) (by kernel_rfl) (by kernel_rfl : Tryz.f79.body = some bodyi21_79) (by kernel_rfl) (by kernel_rfl)
theorem SI21_137 (k : Nat) : SoundF Tryz.prog 137 (.ev (mkEnv tsi21_137 (fsi21_137 s37 s64_81 s80 s107 k)) Hi21_137 k bodyi21_137 19 [.tmp 4]) :=
  ev_inline (mkEnv_ok tyi21_137 (fun p hp => by
    unfold fsi21_137 at hp
    rcases List.mem_cons.1 hp with rfl | hp
    · exact SI21_79 k
    cases hp)) mixedOK (by kernel_rfl : Tryz.prog.funcs[137]? = some Tryz.f137) (by kernel_rfl) (by kernel_rfl : Tryz.f137.body = some bodyi21_137) (by kernel_rfl) (by kernel_rfl)
theorem SI21_78 (k : Nat) : SoundF Tryz.prog 78 (.ev (mkEnvV tsi21_78 (fsi21_78 s37 s64_81 s80 s107 k)) Hi21_78 k bodyi21_78 42 [.tmp 4]) :=
  ev_inline (mkEnvV_ok tyi21_78 (fun p hp => by
    unfold fsi21_78 at hp
    rcases List.mem_cons.1 hp with rfl | hp
    · exact SI21_79 k
    rcases List.mem_cons.1 hp with rfl | hp
    · exact SI21_137 k
    cases hp)) mixedOK (by kernel_rfl : Tryz.prog.funcs[78]? = some Tryz.f78) (by kernel_rfl) (by kernel_rfl : Tryz.f78.body = some bodyi21_78) (by kernel_rfl) (by kernel_rfl)
theorem S21 : SoundF Tryz.prog 21 (.pfn (.cons (.struct (.cons .str (.cons .str (.cons .str (.cons .str (.cons (.int .i64) (.cons (.int .i64) (.cons (.int .i64) (.cons (.int .i64) (.cons (.int .i64) (.cons (.int .i64) (.cons (.int .i64) (.cons (.int .i64) (.cons (.int .i64) (.cons (.slice (.struct (.cons (.int .i64) (.cons .bool (.cons (.int .i64) .nil))))) .nil))))))))))))))) (.cons (.struct (.cons (.int .i64) (.cons (.int .i64) .nil))) .nil)) (.cons (.slice (.struct (.cons .str (.cons .str (.cons .str (.cons .str (.cons (.int .i64) (.cons (.int .i64) (.cons (.int .i64) (.cons (.int .i64) .nil)))))))))) .nil) fun x => s21 x.1 x.2.1) :=
  pfn_sound (E := fun k => mkEnv ts21 (fs21 s37 s64_81 s80 s107 k)) (H := H21) (fun k => mkEnv_ok ty21 (fun p hp => by
    unfold fs21 at hp
    rcases List.mem_cons.1 hp with rfl | hp
    · exact S64_81
    rcases List.mem_cons.1 hp with rfl | hp
    · exact SI21_77 k
    rcases List.mem_cons.1 hp with rfl | hp
    · exact SI21_78 k
    cases hp)) mixedOK (by kernel_rfl : Tryz.prog.funcs[21]? = some Tryz.f21) (by kernel_rfl) (by kernel_rfl : Tryz.f21.body = some body21) (by kernel_rfl) (by kernel_rfl)
    (fun x y hw hy => by obtain ⟨k, hk⟩ := h21 x.1 x.2.1 y hw hy; exact ⟨k, (ev21 s37 s64_81 s80 s107 k x).trans hk⟩)
/-! ### slices.Index[[]int,int] -/
theorem S82 : SoundF Tryz.prog 82 (.fn (.cons (.slice (.int .i64)) (.cons (.int .i64) .nil)) (.cons (.int .i64) .nil) fun x => (s82 x.1 x.2.1, ())) :=
  fn_sound (E := fun k => mkEnv ts82 (fs82 )) (H := H82) (fun k => mkEnv_ok ty82 (fun p hp => by unfold fs82 at hp; cases hp)) mixedOK (by kernel_rfl : Tryz.prog.funcs[82]? = some Tryz.f82) (by kernel_rfl) (by kernel_rfl : Tryz.f82.body = some body82) (by kernel_rfl) (by kernel_rfl)
    (fun x hw => by obtain ⟨k, hk⟩ := h82 x.1 x.2.1 hw; exact ⟨k, (ev82  k x).trans hk⟩)
/-! ### jitney/jitref2.meet -/
theorem S83 : SoundF Tryz.prog 83 (.fn (.cons (.struct (.cons .str (.cons .str (.cons .str (.cons .str (.cons (.int .i64) (.cons (.int .i64) (.cons (.int .i64) (.cons (.int .i64) .nil))))))))) (.cons (.struct (.cons .str (.cons .str (.cons .str (.cons .str (.cons (.int .i64) (.cons (.int .i64) (.cons (.int .i64) (.cons (.int .i64) .nil))))))))) .nil)) (.cons .bool .nil) fun x => (s83 x.1 x.2.1, ())) :=
  fn_sound (E := fun k => mkEnv ts83 (fs83 )) (H := H83) (fun k => mkEnv_ok ty83 (fun p hp => by unfold fs83 at hp; cases hp)) mixedOK (by kernel_rfl : Tryz.prog.funcs[83]? = some Tryz.f83) (by kernel_rfl) (by kernel_rfl : Tryz.f83.body = some body83) (by kernel_rfl) (by kernel_rfl)
    (fun x hw => by obtain ⟨k, hk⟩ := h83 x.1 x.2.1 hw; exact ⟨k, (ev83  k x).trans hk⟩)
/-! ### jitney/jitref2.SameOf -/
theorem S22 : SoundF Tryz.prog 22 (.pfn (.cons (.struct (.cons .str (.cons .str (.cons .str (.cons .str (.cons (.int .i64) (.cons (.int .i64) (.cons (.int .i64) (.cons (.int .i64) (.cons (.int .i64) (.cons (.int .i64) (.cons (.int .i64) (.cons (.int .i64) (.cons (.int .i64) (.cons (.slice (.struct (.cons (.int .i64) (.cons .bool (.cons (.int .i64) .nil))))) .nil))))))))))))))) (.cons (.struct (.cons .str (.cons .str (.cons .str (.cons .str (.cons (.int .i64) (.cons (.int .i64) (.cons (.int .i64) (.cons (.int .i64) (.cons (.int .i64) (.cons (.int .i64) (.cons (.int .i64) (.cons (.int .i64) (.cons (.int .i64) (.cons (.slice (.struct (.cons (.int .i64) (.cons .bool (.cons (.int .i64) .nil))))) .nil))))))))))))))) .nil)) (.cons (.slice (.int .i64)) .nil) fun x => s22 x.1 x.2.1) :=
  pfn_sound (E := fun k => mkEnv ts22 (fs22 s77 s82 s83)) (H := H22) (fun k => mkEnv_ok ty22 (fun p hp => by
    unfold fs22 at hp
    rcases List.mem_cons.1 hp with rfl | hp
    · exact S77
    rcases List.mem_cons.1 hp with rfl | hp
    · exact S82
    rcases List.mem_cons.1 hp with rfl | hp
    · exact S83
    cases hp)) mixedOK (by kernel_rfl : Tryz.prog.funcs[22]? = some Tryz.f22) (by kernel_rfl) (by kernel_rfl : Tryz.f22.body = some body22) (by kernel_rfl) (by kernel_rfl)
    (fun x y hw hy => by obtain ⟨k, hk⟩ := h22 x.1 x.2.1 y hw hy; exact ⟨k, (ev22 s77 s82 s83 k x).trans hk⟩)
/-! ### slices.Equal[[]int,int] -/
theorem S23 : SoundF Tryz.prog 23 (.fn (.cons (.slice (.int .i64)) (.cons (.slice (.int .i64)) .nil)) (.cons .bool .nil) fun x => (s23 x.1 x.2.1, ())) :=
  fn_sound (E := fun k => mkEnv ts23 (fs23 )) (H := H23) (fun k => mkEnv_ok ty23 (fun p hp => by unfold fs23 at hp; cases hp)) mixedOK (by kernel_rfl : Tryz.prog.funcs[23]? = some Tryz.f23) (by kernel_rfl) (by kernel_rfl : Tryz.f23.body = some body23) (by kernel_rfl) (by kernel_rfl)
    (fun x hw => by obtain ⟨k, hk⟩ := h23 x.1 x.2.1 hw; exact ⟨k, (ev23  k x).trans hk⟩)
/-! ### slices.Equal[[]jitney/api.Ride,jitney/api.Ride] -/
theorem S24 : SoundF Tryz.prog 24 (.fn (.cons (.slice (.struct (.cons .str (.cons .str (.cons .str (.cons .str (.cons (.int .i64) (.cons (.int .i64) (.cons (.int .i64) (.cons (.int .i64) .nil)))))))))) (.cons (.slice (.struct (.cons .str (.cons .str (.cons .str (.cons .str (.cons (.int .i64) (.cons (.int .i64) (.cons (.int .i64) (.cons (.int .i64) .nil)))))))))) .nil)) (.cons .bool .nil) fun x => (s24 x.1 x.2.1, ())) :=
  fn_sound (E := fun k => mkEnv ts24 (fs24 )) (H := H24) (fun k => mkEnv_ok ty24 (fun p hp => by unfold fs24 at hp; cases hp)) mixedOK (by kernel_rfl : Tryz.prog.funcs[24]? = some Tryz.f24) (by kernel_rfl) (by kernel_rfl : Tryz.f24.body = some body24) (by kernel_rfl) (by kernel_rfl)
    (fun x hw => by obtain ⟨k, hk⟩ := h24 x.1 x.2.1 hw; exact ⟨k, (ev24  k x).trans hk⟩)
/-! ### jitney/jitlaw2.asked -/
theorem S25 : SoundF Tryz.prog 25 (.pfn .nil (.cons .bool .nil) fun x => s25) :=
  pfn_sound (E := fun k => mkEnv ts25 (fs25 s7 s23)) (H := H25) (fun k => mkEnv_ok ty25 (fun p hp => by
    unfold fs25 at hp
    rcases List.mem_cons.1 hp with rfl | hp
    · exact S7
    rcases List.mem_cons.1 hp with rfl | hp
    · exact S23
    cases hp)) mixedOK (by kernel_rfl : Tryz.prog.funcs[25]? = some Tryz.f25) (by kernel_rfl) (by kernel_rfl : Tryz.f25.body = some body25) (by kernel_rfl) (by kernel_rfl)
    (fun x y hw hy => by obtain ⟨k, hk⟩ := h25  y hw hy; exact ⟨k, (ev25 s7 s23 k x).trans hk⟩)
/-! ### jitney/jitlaw2.SeriesRide -/
theorem S3 : SoundF Tryz.prog 3 (.pfn (.cons (.struct (.cons .str (.cons .str (.cons .str (.cons .str (.cons (.int .i64) (.cons (.int .i64) (.cons (.int .i64) (.cons (.int .i64) .nil))))))))) (.cons (.slice (.struct (.cons .str (.cons (.int .i64) (.cons (.int .i64) .nil))))) (.cons (.slice (.struct (.cons .str (.cons .str (.cons .str (.cons .str (.cons (.int .i64) (.cons (.int .i64) (.cons (.int .i64) (.cons (.int .i64) (.cons (.int .i64) (.cons (.int .i64) (.cons (.int .i64) (.cons (.int .i64) (.cons (.int .i64) (.cons (.slice (.struct (.cons (.int .i64) (.cons .bool (.cons (.int .i64) .nil))))) .nil)))))))))))))))) (.cons (.struct (.cons .str (.cons .str (.cons .str (.cons .str (.cons (.int .i64) (.cons (.int .i64) (.cons (.int .i64) (.cons (.int .i64) (.cons (.int .i64) (.cons (.int .i64) (.cons (.int .i64) (.cons (.int .i64) (.cons (.int .i64) (.cons (.slice (.struct (.cons (.int .i64) (.cons .bool (.cons (.int .i64) .nil))))) .nil))))))))))))))) (.cons (.struct (.cons .str (.cons .str (.cons .str (.cons .str (.cons (.int .i64) (.cons (.int .i64) (.cons (.int .i64) (.cons (.int .i64) (.cons (.int .i64) (.cons (.int .i64) (.cons (.int .i64) (.cons (.int .i64) (.cons (.int .i64) (.cons (.slice (.struct (.cons (.int .i64) (.cons .bool (.cons (.int .i64) .nil))))) .nil))))))))))))))) (.cons (.struct (.cons (.int .i64) (.cons (.int .i64) .nil))) .nil)))))) (.cons .bool .nil) fun x => s3 x.1 x.2.1 x.2.2.1 x.2.2.2.1 x.2.2.2.2.1 x.2.2.2.2.2.1) :=
  pfn_sound (E := fun k => mkEnvL ts3 (fs3 s7 s8 s9 s10 s11 s12 s13 s14 s15 s16 s17 s18 s19 s20 s21 s22 s23 s24 s25)) (H := H3) (fun k => mkEnvL_ok ty3 (fun p hp => by
    unfold fs3 at hp
    rcases List.mem_cons.1 hp with rfl | hp
    · exact S7
    rcases List.mem_cons.1 hp with rfl | hp
    · exact S8
    rcases List.mem_cons.1 hp with rfl | hp
    · exact S9
    rcases List.mem_cons.1 hp with rfl | hp
    · exact S10
    rcases List.mem_cons.1 hp with rfl | hp
    · exact S11
    rcases List.mem_cons.1 hp with rfl | hp
    · exact S12
    rcases List.mem_cons.1 hp with rfl | hp
    · exact S13
    rcases List.mem_cons.1 hp with rfl | hp
    · exact S14
    rcases List.mem_cons.1 hp with rfl | hp
    · exact S15
    rcases List.mem_cons.1 hp with rfl | hp
    · exact S16
    rcases List.mem_cons.1 hp with rfl | hp
    · exact S17
    rcases List.mem_cons.1 hp with rfl | hp
    · exact S18
    rcases List.mem_cons.1 hp with rfl | hp
    · exact S19
    rcases List.mem_cons.1 hp with rfl | hp
    · exact S20
    rcases List.mem_cons.1 hp with rfl | hp
    · exact S21
    rcases List.mem_cons.1 hp with rfl | hp
    · exact S22
    rcases List.mem_cons.1 hp with rfl | hp
    · exact S23
    rcases List.mem_cons.1 hp with rfl | hp
    · exact S24
    rcases List.mem_cons.1 hp with rfl | hp
    · exact S25
    cases hp)) mixedOK (by kernel_rfl : Tryz.prog.funcs[3]? = some Tryz.f3) (by kernel_rfl) (by kernel_rfl : Tryz.f3.body = some body3) (by kernel_rfl) (by kernel_rfl)
    (fun x y hw hy => by obtain ⟨k, hk⟩ := h3 x.1 x.2.1 x.2.2.1 x.2.2.2.1 x.2.2.2.2.1 x.2.2.2.2.2.1 y hw hy; exact ⟨k, (ev3 s7 s8 s9 s10 s11 s12 s13 s14 s15 s16 s17 s18 s19 s20 s21 s22 s23 s24 s25 k x).trans hk⟩)
end Go.Vm
