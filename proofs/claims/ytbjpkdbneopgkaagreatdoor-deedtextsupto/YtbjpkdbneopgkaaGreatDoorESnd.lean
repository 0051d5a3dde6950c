/- The program's functions are what the specs say. -/
import Derived.Test.YtbjpkdbneopgkaaGreatDoorESpec
import Derived.Test.YtbjpkdbneopgkaaGreatDoorEHandS
set_option maxRecDepth 100000
set_option linter.unusedVariables false
namespace Go.Vm
open Go.Proofs
/-! ### jitney/jitref2.DeedFault -/
theorem S56 : SoundF Tryz.prog 56 (.fn (.cons EY3 .nil) (.cons (.int .i64) .nil) fun x => (s56 x.1, ())) :=
  fn_sound (E := fun k => mkEnv ts56 (fs56 s31 s32 s33 s34)) (H := H56) (fun k => mkEnv_ok ty56 (fun p hp => by
    unfold fs56 at hp
    rcases List.mem_cons.1 hp with rfl | hp
    · exact S31
    rcases List.mem_cons.1 hp with rfl | hp
    · exact S32
    rcases List.mem_cons.1 hp with rfl | hp
    · exact S33
    rcases List.mem_cons.1 hp with rfl | hp
    · exact S34
    cases hp)) mixedOK (by kernel_rfl : Tryz.prog.funcs[56]? = some Tryz.f56) (by kernel_rfl) (by kernel_rfl : Tryz.f56.body = some body56) (by kernel_rfl) (by kernel_rfl)
    (fun x hw => by obtain ⟨k, hk⟩ := h56 x.1 hw; exact ⟨k, (ev56 s31 s32 s33 s34 k x).trans hk⟩)
/-! ### jitney/jitref2.DeedOrder -/
theorem S57 : SoundF Tryz.prog 57 (.fn (.cons EY3 (.cons EY3 .nil)) (.cons (.int .i64) .nil) fun x => (s57 x.1 x.2.1, ())) :=
  fn_sound (E := fun k => mkEnv ts57 (fs57 s75 s76)) (H := H57) (fun k => mkEnv_ok ty57 (fun p hp => by
    unfold fs57 at hp
    rcases List.mem_cons.1 hp with rfl | hp
    · exact S75
    rcases List.mem_cons.1 hp with rfl | hp
    · exact S76
    cases hp)) mixedOK (by kernel_rfl : Tryz.prog.funcs[57]? = some Tryz.f57) (by kernel_rfl) (by kernel_rfl : Tryz.f57.body = some body57) (by kernel_rfl) (by kernel_rfl)
    (fun x hw => by obtain ⟨k, hk⟩ := h57 x.1 x.2.1 hw; exact ⟨k, (ev57 s75 s76 k x).trans hk⟩)
/-! ### jitney/jitref2.sameNo -/
theorem S60 : SoundF Tryz.prog 60 (.fn (.cons EY3 (.cons EY3 .nil)) (.cons .bool .nil) fun x => (s60 x.1 x.2.1, ())) :=
  fn_sound (E := fun k => mkEnv ts60 (fs60 )) (H := H60) (fun k => mkEnv_ok ty60 (fun p hp => by unfold fs60 at hp; cases hp)) mixedOK (by kernel_rfl : Tryz.prog.funcs[60]? = some Tryz.f60) (by kernel_rfl) (by kernel_rfl : Tryz.f60.body = some body60) (by kernel_rfl) (by kernel_rfl)
    (fun x hw => by obtain ⟨k, hk⟩ := h60 x.1 x.2.1 hw; exact ⟨k, (ev60  k x).trans hk⟩)
/-! ### jitney/jitref2.DeedsFault -/
theorem SI15_59 (k : Nat) : SoundF Tryz.prog 59 (.ev (mkEnv tsi15_59 (fsi15_59 s56 s57 s60 k)) Hi15_59 k bodyi15_59 7 [.tmp 3]) :=
  ev_inline (mkEnv_ok tyi15_59 (fun p hp => by
    unfold fsi15_59 at hp
    rcases List.mem_cons.1 hp with rfl | hp
    · exact S60
    cases hp)) mixedOK (by kernel_rfl : Tryz.prog.funcs[59]? = some Tryz.f59) (by kernel_rfl) (by kernel_rfl : Tryz.f59.body = some bodyi15_59) (by kernel_rfl) (by kernel_rfl)
theorem SI15_92 (k : Nat) : SoundF Tryz.prog 92 (.ev (mkEnv tsi15_92 (fsi15_92 s56 s57 s60 k)) Hi15_92 k bodyi15_92 19 [.tmp 4]) :=
  ev_inline (mkEnv_ok tyi15_92 (fun p hp => by
    unfold fsi15_92 at hp
    rcases List.mem_cons.1 hp with rfl | hp
    · exact SI15_59 k
    cases hp)) mixedOK (by kernel_rfl : Tryz.prog.funcs[92]? = some Tryz.f92) (by kernel_rfl) (by kernel_rfl : Tryz.f92.body = some bodyi15_92) (by kernel_rfl) (by kernel_rfl)
theorem SI15_58 (k : Nat) : SoundF Tryz.prog 58 (.ev (mkEnv tsi15_58 (fsi15_58 s56 s57 s60 k)) Hi15_58 k bodyi15_58 9 [.tmp 4]) :=
  ev_inline (mkEnv_ok tyi15_58 (fun p hp => by
    unfold fsi15_58 at hp
    rcases List.mem_cons.1 hp with rfl | hp
    · exact SI15_92 k
    cases hp)) mixedOK (by kernel_rfl : Tryz.prog.funcs[58]? = some Tryz.f58) (by kernel_rfl) (by kernel_rfl : Tryz.f58.body = some bodyi15_58) (by kernel_rfl) (by kernel_rfl)
theorem S15 : SoundF Tryz.prog 15 (.fn (.cons (.slice EY3) .nil) (.cons (.int .i64) .nil) fun x => (s15 x.1, ())) :=
  fn_sound (E := fun k => mkEnv ts15 (fs15 s56 s57 s60 k)) (H := H15) (fun k => mkEnv_ok ty15 (fun p hp => by
    unfold fs15 at hp
    rcases List.mem_cons.1 hp with rfl | hp
    · exact S56
    rcases List.mem_cons.1 hp with rfl | hp
    · exact S57
    rcases List.mem_cons.1 hp with rfl | hp
    · exact SI15_58 k
    cases hp)) mixedOK (by kernel_rfl : Tryz.prog.funcs[15]? = some Tryz.f15) (by kernel_rfl) (by kernel_rfl : Tryz.f15.body = some body15) (by kernel_rfl) (by kernel_rfl)
    (fun x hw => by obtain ⟨k, hk⟩ := h15 x.1 hw; exact ⟨k, (ev15 s56 s57 s60 k x).trans hk⟩)
/-! ### jitney/jitref2.DeedLines -/
theorem S16 : SoundF Tryz.prog 16 (.pfn (.cons (.slice EY3) .nil) (.cons .str .nil) fun x => s16 x.1) :=
  pfn_sound (E := fun k => mkEnv ts16 (fs16 s36 s42)) (H := H16) (fun k => mkEnv_ok ty16 (fun p hp => by
    unfold fs16 at hp
    rcases List.mem_cons.1 hp with rfl | hp
    · exact S36
    rcases List.mem_cons.1 hp with rfl | hp
    · exact S42
    cases hp)) mixedOK (by kernel_rfl : Tryz.prog.funcs[16]? = some Tryz.f16) (by kernel_rfl) (by kernel_rfl : Tryz.f16.body = some body16) (by kernel_rfl) (by kernel_rfl)
    (fun x y hw hy => by obtain ⟨k, hk⟩ := h16 x.1 y hw hy; exact ⟨k, (ev16 s36 s42 k x).trans hk⟩)
/-! ### jitney/net.deedFault -/
theorem S93 : SoundF Tryz.prog 93 (.fn (.cons EY3 .nil) (.cons (.int .i64) .nil) fun x => (s93 x.1, ())) :=
  fn_sound (E := fun k => mkEnv ts93 (fs93 s98 s99 s105 s106)) (H := H93) (fun k => mkEnv_ok ty93 (fun p hp => by
    unfold fs93 at hp
    rcases List.mem_cons.1 hp with rfl | hp
    · exact S98
    rcases List.mem_cons.1 hp with rfl | hp
    · exact S99
    rcases List.mem_cons.1 hp with rfl | hp
    · exact S105
    rcases List.mem_cons.1 hp with rfl | hp
    · exact S106
    cases hp)) mixedOK (by kernel_rfl : Tryz.prog.funcs[93]? = some Tryz.f93) (by kernel_rfl) (by kernel_rfl : Tryz.f93.body = some body93) (by kernel_rfl) (by kernel_rfl)
    (fun x hw => by obtain ⟨k, hk⟩ := h93 x.1 hw; exact ⟨k, (ev93 s98 s99 s105 s106 k x).trans hk⟩)
/-! ### jitney/net.byMoment -/
theorem S94 : SoundF Tryz.prog 94 (.fn (.cons EY3 (.cons EY3 .nil)) (.cons (.int .i64) .nil) fun x => (s94 x.1 x.2.1, ())) :=
  fn_sound (E := fun k => mkEnv ts94 (fs94 s76 s108 s109)) (H := H94) (fun k => mkEnv_ok ty94 (fun p hp => by
    unfold fs94 at hp
    rcases List.mem_cons.1 hp with rfl | hp
    · exact S76
    rcases List.mem_cons.1 hp with rfl | hp
    · exact S108
    rcases List.mem_cons.1 hp with rfl | hp
    · exact S109
    cases hp)) mixedOK (by kernel_rfl : Tryz.prog.funcs[94]? = some Tryz.f94) (by kernel_rfl) (by kernel_rfl : Tryz.f94.body = some body94) (by kernel_rfl) (by kernel_rfl)
    (fun x hw => by obtain ⟨k, hk⟩ := h94 x.1 x.2.1 hw; exact ⟨k, (ev94 s76 s108 s109 k x).trans hk⟩)
/-! ### jitney/net.CheckDeeds -/
theorem S61 : SoundF Tryz.prog 61 (.fn (.cons (.slice EY3) .nil) (.cons (.int .i64) .nil) fun x => (s61 x.1, ())) :=
  fn_sound (E := fun k => mkEnv ts61 (fs61 s93 s94)) (H := H61) (fun k => mkEnv_ok ty61 (fun p hp => by
    unfold fs61 at hp
    rcases List.mem_cons.1 hp with rfl | hp
    · exact S93
    rcases List.mem_cons.1 hp with rfl | hp
    · exact S94
    cases hp)) mixedOK (by kernel_rfl : Tryz.prog.funcs[61]? = some Tryz.f61) (by kernel_rfl) (by kernel_rfl : Tryz.f61.body = some body61) (by kernel_rfl) (by kernel_rfl)
    (fun x hw => by obtain ⟨k, hk⟩ := h61 x.1 hw; exact ⟨k, (ev61 s93 s94 k x).trans hk⟩)
/-! ### jitney/net.kinds -/
theorem S62 : SoundF Tryz.prog 62 (.fn .nil (.cons (.slice .str) .nil) fun x => (s62, ())) :=
  fn_sound (E := fun k => mkEnv ts62 (fs62 )) (H := H62) (fun k => mkEnv_ok ty62 (fun p hp => by unfold fs62 at hp; cases hp)) mixedOK (by kernel_rfl : Tryz.prog.funcs[62]? = some Tryz.f62) (by kernel_rfl) (by kernel_rfl : Tryz.f62.body = some body62) (by kernel_rfl) (by kernel_rfl)
    (fun x hw => by obtain ⟨k, hk⟩ := h62  hw; exact ⟨k, (ev62  k x).trans hk⟩)
/-! ### jitney/net.Text -/
theorem SI17_41 (k : Nat) : SoundF Tryz.prog 41 (.ev (mkEnv tsi17_41 (fsi17_41 s39 s42 s61 s62 k)) Hi17_41 k bodyi17_41 19 [.tmp 4, .tmp 5]) :=
  ev_inline (mkEnv_ok tyi17_41 (fun p hp => by
    unfold fsi17_41 at hp
    rcases List.mem_cons.1 hp with rfl | hp
    · exact S80
    cases hp)) mixedOK (by kernel_rfl : Tryz.prog.funcs[41]? = some Tryz.f41) (by kernel_rfl) (by kernel_rfl : Tryz.f41.body = some bodyi17_41) (by kernel_rfl) (by kernel_rfl)
theorem SI17_43 (k : Nat) : SoundF Tryz.prog 43 (.ev (mkEnv tsi17_43 (fsi17_43 s39 s42 s61 s62 k)) Hi17_43 k bodyi17_43 8 [.tmp 2]) :=
  ev_inline (mkEnv_ok tyi17_43 (fun p hp => by unfold fsi17_43 at hp; cases hp)) mixedOK (by kernel_rfl : Tryz.prog.funcs[43]? = some Tryz.f43) (by kernel_rfl) (by kernel_rfl : Tryz.f43.body = some bodyi17_43) (by kernel_rfl) (by kernel_rfl)
theorem S17 : SoundF Tryz.prog 17 (.pfn (.cons (.slice EY3) .nil) (.cons .str (.cons (.int .i64) .nil)) fun x => s17 x.1) :=
  pfn_sound (E := fun k => mkEnv ts17 (fs17 s39 s42 s61 s62 k)) (H := H17) (fun k => mkEnv_ok ty17 (fun p hp => by
    unfold fs17 at hp
    rcases List.mem_cons.1 hp with rfl | hp
    · exact S39
    rcases List.mem_cons.1 hp with rfl | hp
    · exact SI17_41 k
    rcases List.mem_cons.1 hp with rfl | hp
    · exact S42
    rcases List.mem_cons.1 hp with rfl | hp
    · exact SI17_43 k
    rcases List.mem_cons.1 hp with rfl | hp
    · exact S44
    rcases List.mem_cons.1 hp with rfl | hp
    · exact S61
    rcases List.mem_cons.1 hp with rfl | hp
    · exact S62
    cases hp)) mixedOK (by kernel_rfl : Tryz.prog.funcs[17]? = some Tryz.f17) (by kernel_rfl) (by kernel_rfl : Tryz.f17.body = some body17) (by kernel_rfl) (by kernel_rfl)
    (fun x y hw hy => by obtain ⟨k, hk⟩ := h17 x.1 y hw hy; exact ⟨k, (ev17 s39 s42 s61 s62 k x).trans hk⟩)
set_option maxHeartbeats 2000000 in
theorem walk18 (a : Option Addr) (c : Nat) (w : World) : Calls Tryz.prog 18 #[.slice a 0 c] w fun e w' => ∃ a' c', e = .returned (.slice a' 0 c') ∧ c' ≤ 9223372036854775807 ∧ Keep None w w' := by
  have q : ∀ (w : World) (a : Option Addr) (n c n' c' : Nat), (binOp .eql 39 (.slice a n c) (.slice none n' c')).run Tryz.prog w = .ok (.bool a.isNone) w := fun w a n c n' c' => Lib.run_eql_slice_nil w _ _ a n c n' c' Tryz.underlying39
  cases a with
  | none =>
    go_enter Tryz.func18, Tryz.ntmps18
    go_wp2
    go_ret
    exact ⟨none, 0, rfl, by omega, Keep.refl _ _⟩
  | some a =>
    go_enter Tryz.func18, Tryz.ntmps18
    go_wp2
    go_ret
    exact ⟨_, _, rfl, by omega, Keep.alloc _ _ _ _⟩
theorem cl18 (xs : List (ByteArray × Int × Int × Int × ByteArray × ByteArray × (ByteArray × Int × Int × Unit) × (ByteArray × ByteArray × ByteArray × ByteArray × Int × Int × Int × Int × Unit) × Unit)) (hne : xs ≠ []) (hl : xs.length ≤ 4294967296) : f18 0 xs = some (xs, ()) := by
  cases xs with
  | nil => exact absurd rfl hne
  | cons z l =>
    have h2 : decide (List.length ([] : List (ByteArray × Int × Int × Int × ByteArray × ByteArray × (ByteArray × Int × Int × Unit) × (ByteArray × ByteArray × ByteArray × ByteArray × Int × Int × Int × Int × Unit) × Unit)) + List.length (z :: l) ≤ 4294967296) = true := by simpa using hl
    unfold f18
    rw [show Nat.ble (List.length (z :: l)) 0 = false from rfl, h2]
    rfl
theorem S18 : SoundF Tryz.prog 18 (.pfn (.cons (.slice EY3) .nil) (.cons (.slice EY3) .nil) fun x => s18 x.1) := by
  intro ρ args objs K r hr
  exact clone_sound (T := EY3) (g1 := fun x => f18 0 x.1) (pfn_sound (E := fun _ => mkEnv ts18 fs18) (H := H18) (fun _ => mkEnv_ok ty18 (fun p hp => by unfold fs18 at hp; cases hp)) mixedOK (by kernel_rfl : Tryz.prog.funcs[18]? = some Tryz.f18) (by kernel_rfl) (by kernel_rfl : Tryz.f18.body = some body18) (by kernel_rfl) (by kernel_rfl) (fun x y hw hy => ⟨0, (ev18 0 x).trans hy⟩)) (enters_of (by kernel_rfl : Tryz.prog.funcs[18]? = some Tryz.f18) (by kernel_rfl) (by kernel_rfl : Tryz.f18.body = some body18))
    (fun xs hne hl => cl18 xs hne hl) walk18 args objs K r hr
/-! ### jitney/net.readDeed -/
theorem S64 : SoundF Tryz.prog 64 (.pfn (.cons .str .nil) (.cons EY3 (.cons .bool .nil)) fun x => s64 x.1) :=
  pfn_sound (E := fun k => mkEnv ts64 (fs64 s52 s62 s70 s83 s84)) (H := H64) (fun k => mkEnv_ok ty64 (fun p hp => by
    unfold fs64 at hp
    rcases List.mem_cons.1 hp with rfl | hp
    · exact S52
    rcases List.mem_cons.1 hp with rfl | hp
    · exact S62
    rcases List.mem_cons.1 hp with rfl | hp
    · exact S70
    rcases List.mem_cons.1 hp with rfl | hp
    · exact S83
    rcases List.mem_cons.1 hp with rfl | hp
    · exact S84
    cases hp)) mixedOK (by kernel_rfl : Tryz.prog.funcs[64]? = some Tryz.f64) (by kernel_rfl) (by kernel_rfl : Tryz.f64.body = some body64) (by kernel_rfl) (by kernel_rfl)
    (fun x y hw hy => by obtain ⟨k, hk⟩ := h64 x.1 y hw hy; exact ⟨k, (ev64 s52 s62 s70 s83 s84 k x).trans hk⟩)
/-! ### jitney/net.Read -/
theorem SI19_63 (k : Nat) : SoundF Tryz.prog 63 (.ev (mkEnv tsi19_63 (fsi19_63 s61 s64 s82 k)) Hi19_63 k bodyi19_63 16 [.tmp 3]) :=
  ev_inline (mkEnv_ok tyi19_63 (fun p hp => by
    unfold fsi19_63 at hp
    rcases List.mem_cons.1 hp with rfl | hp
    · exact S64
    cases hp)) mixedOK (by kernel_rfl : Tryz.prog.funcs[63]? = some Tryz.f63) (by kernel_rfl) (by kernel_rfl : Tryz.f63.body = some bodyi19_63) (by kernel_rfl) (by kernel_rfl)
theorem SI19_45 (k : Nat) : SoundF Tryz.prog 45 (.ev (mkEnv tsi19_45 (fsi19_45 s61 s64 s82 k)) Hi19_45 k bodyi19_45 39 [.tmp 4, .tmp 5]) :=
  ev_inline (mkEnv_ok tyi19_45 (fun p hp => by
    unfold fsi19_45 at hp
    rcases List.mem_cons.1 hp with rfl | hp
    · exact SI19_63 k
    rcases List.mem_cons.1 hp with rfl | hp
    · exact S82
    cases hp)) mixedOK (by kernel_rfl : Tryz.prog.funcs[45]? = some Tryz.f45) (by kernel_rfl) (by kernel_rfl : Tryz.f45.body = some bodyi19_45) (by kernel_rfl) (by kernel_rfl)
theorem S19 : SoundF Tryz.prog 19 (.pfn (.cons .str .nil) (.cons (.slice EY3) (.cons (.int .i64) (.cons (.int .i64) .nil))) fun x => s19 x.1) :=
  pfn_sound (E := fun k => mkEnv ts19 (fs19 s61 s64 s82 k)) (H := H19) (fun k => mkEnv_ok ty19 (fun p hp => by
    unfold fs19 at hp
    rcases List.mem_cons.1 hp with rfl | hp
    · exact SI19_45 k
    rcases List.mem_cons.1 hp with rfl | hp
    · exact S61
    cases hp)) mixedOK (by kernel_rfl : Tryz.prog.funcs[19]? = some Tryz.f19) (by kernel_rfl) (by kernel_rfl : Tryz.f19.body = some body19) (by kernel_rfl) (by kernel_rfl)
    (fun x y hw hy => by obtain ⟨k, hk⟩ := h19 x.1 y hw hy; exact ⟨k, (ev19 s61 s64 s82 k x).trans hk⟩)
/-! ### jitney/jitref2.DeedsRead -/
theorem SI20_65 (k : Nat) : SoundF Tryz.prog 65 (.ev (mkEnv tsi20_65 (fsi20_65 s15 s50 s53 s85 k)) Hi20_65 k bodyi20_65 132 [.tmp 3]) :=
  ev_inline (mkEnv_ok tyi20_65 (fun p hp => by
    unfold fsi20_65 at hp
    rcases List.mem_cons.1 hp with rfl | hp
    · exact S50
    rcases List.mem_cons.1 hp with rfl | hp
    · exact S53
    cases hp)) mixedOK (by kernel_rfl : Tryz.prog.funcs[65]? = some Tryz.f65) (by kernel_rfl) (by kernel_rfl : Tryz.f65.body = some bodyi20_65) (by kernel_rfl) (by kernel_rfl)
theorem SI20_48 (k : Nat) : SoundF Tryz.prog 48 (.ev (mkEnv tsi20_48 (fsi20_48 s15 s50 s53 s85 k)) Hi20_48 k bodyi20_48 30 [.tmp 4, .tmp 5]) :=
  ev_inline (mkEnv_ok tyi20_48 (fun p hp => by
    unfold fsi20_48 at hp
    rcases List.mem_cons.1 hp with rfl | hp
    · exact SI20_65 k
    rcases List.mem_cons.1 hp with rfl | hp
    · exact S85
    cases hp)) mixedOK (by kernel_rfl : Tryz.prog.funcs[48]? = some Tryz.f48) (by kernel_rfl) (by kernel_rfl : Tryz.f48.body = some bodyi20_48) (by kernel_rfl) (by kernel_rfl)
theorem S20 : SoundF Tryz.prog 20 (.pfn (.cons .str .nil) (.cons (.slice EY3) (.cons (.int .i64) (.cons (.int .i64) .nil))) fun x => s20 x.1) :=
  pfn_sound (E := fun k => mkEnv ts20 (fs20 s15 s50 s53 s85 k)) (H := H20) (fun k => mkEnv_ok ty20 (fun p hp => by
    unfold fs20 at hp
    rcases List.mem_cons.1 hp with rfl | hp
    · exact S15
    rcases List.mem_cons.1 hp with rfl | hp
    · exact SI20_48 k
    cases hp)) mixedOK (by kernel_rfl : Tryz.prog.funcs[20]? = some Tryz.f20) (by kernel_rfl) (by kernel_rfl : Tryz.f20.body = some body20) (by kernel_rfl) (by kernel_rfl)
    (fun x y hw hy => by obtain ⟨k, hk⟩ := h20 x.1 y hw hy; exact ⟨k, (ev20 s15 s50 s53 s85 k x).trans hk⟩)
/-! ### slices.Equal[[]jitney/api.Deed,jitney/api.Deed] -/
theorem S21 : SoundF Tryz.prog 21 (.fn (.cons (.slice EY3) (.cons (.slice EY3) .nil)) (.cons .bool .nil) fun x => (s21 x.1 x.2.1, ())) :=
  fn_sound (E := fun k => mkEnv ts21 (fs21 )) (H := H21) (fun k => mkEnv_ok ty21 (fun p hp => by unfold fs21 at hp; cases hp)) mixedOK (by kernel_rfl : Tryz.prog.funcs[21]? = some Tryz.f21) (by kernel_rfl) (by kernel_rfl : Tryz.f21.body = some body21) (by kernel_rfl) (by kernel_rfl)
    (fun x hw => by obtain ⟨k, hk⟩ := h21 x.1 x.2.1 hw; exact ⟨k, (ev21  k x).trans hk⟩)
/-! ### jitney/net.momentFault -/
theorem S95 : SoundF Tryz.prog 95 (.fn (.cons (.slice EY3) (.cons (.int .i64) .nil)) (.cons (.int .i64) .nil) fun x => (s95 x.1 x.2.1, ())) :=
  fn_sound (E := fun k => mkEnv ts95 (fs95 s61 s105)) (H := H95) (fun k => mkEnv_ok ty95 (fun p hp => by
    unfold fs95 at hp
    rcases List.mem_cons.1 hp with rfl | hp
    · exact S61
    rcases List.mem_cons.1 hp with rfl | hp
    · exact S105
    cases hp)) mixedOK (by kernel_rfl : Tryz.prog.funcs[95]? = some Tryz.f95) (by kernel_rfl) (by kernel_rfl : Tryz.f95.body = some body95) (by kernel_rfl) (by kernel_rfl)
    (fun x hw => by obtain ⟨k, hk⟩ := h95 x.1 x.2.1 hw; exact ⟨k, (ev95 s61 s105 k x).trans hk⟩)
/-! ### jitney/net.asked$1 -/
theorem S128 [MonotC] : SoundF Tryz.prog 128 (.fn (.cons EY2 (.cons EY2 .nil)) (.cons (.int .i64) .nil) fun x => (s128 x.1 x.2.1, ())) :=
  fn_sound (E := fun k => mkEnv ts128 (fs128 s76)) (H := H128) (fun k => mkEnv_ok ty128 (fun p hp => by
    unfold fs128 at hp
    rcases List.mem_cons.1 hp with rfl | hp
    · exact S76
    cases hp)) mixedOK (by kernel_rfl : Tryz.prog.funcs[128]? = some Tryz.f128) (by kernel_rfl) (by kernel_rfl : Tryz.f128.body = some body128) (by kernel_rfl) (by kernel_rfl)
    (fun x hw => by obtain ⟨k, hk⟩ := h128 x.1 x.2.1 hw; exact ⟨k, (ev128 s76 k x).trans hk⟩)
/-! ### jitney/net.asked -/
theorem S127_128 : SoundF Tryz.prog 127 (.rfn EY2 .nil 128 fun xs a => s127_128 xs) := SF127 (@S128 monotYes)
theorem S96 : SoundF Tryz.prog 96 (.pfn (.cons (.slice EY3) (.cons (.int .i64) .nil)) (.cons (.slice EY2) .nil) fun x => s96 x.1 x.2.1) :=
  pfnR_sound (E := fun k => mkEnv ts96 (fs96 s127_128)) (H := H96) (fun k => mkEnv_ok ty96 (fun p hp => by
    unfold fs96 at hp
    rcases List.mem_cons.1 hp with rfl | hp
    · exact S127_128
    cases hp)) mixedOK (by kernel_rfl : Tryz.prog.funcs[96]? = some Tryz.f96) (by kernel_rfl) (by kernel_rfl : Tryz.f96.body = some body96) (by kernel_rfl) (by kernel_rfl)
    (fun x y hw hy => by obtain ⟨k, hk⟩ := h96 x.1 x.2.1 y hw hy; exact ⟨k, (ev96 s127_128 k x).trans hk⟩)
/-! ### jitney/net.Asked -/
theorem S66 : SoundF Tryz.prog 66 (.pfn (.cons (.slice EY3) (.cons (.int .i64) .nil)) (.cons (.slice EY2) (.cons (.int .i64) .nil)) fun x => s66 x.1 x.2.1) :=
  pfn_sound (E := fun k => mkEnv ts66 (fs66 s95 s96)) (H := H66) (fun k => mkEnv_ok ty66 (fun p hp => by
    unfold fs66 at hp
    rcases List.mem_cons.1 hp with rfl | hp
    · exact S95
    rcases List.mem_cons.1 hp with rfl | hp
    · exact S96
    cases hp)) mixedOK (by kernel_rfl : Tryz.prog.funcs[66]? = some Tryz.f66) (by kernel_rfl) (by kernel_rfl : Tryz.f66.body = some body66) (by kernel_rfl) (by kernel_rfl)
    (fun x y hw hy => by obtain ⟨k, hk⟩ := h66 x.1 x.2.1 y hw hy; exact ⟨k, (ev66 s95 s96 k x).trans hk⟩)
/-! ### jitney/jitlaw2.netted -/
theorem S22 : SoundF Tryz.prog 22 (.pfn .nil (.cons .bool .nil) fun x => s22) :=
  pfn_sound (E := fun k => mkEnv ts22 (fs22 s66)) (H := H22) (fun k => mkEnv_ok ty22 (fun p hp => by
    unfold fs22 at hp
    rcases List.mem_cons.1 hp with rfl | hp
    · exact S66
    cases hp)) mixedOK (by kernel_rfl : Tryz.prog.funcs[22]? = some Tryz.f22) (by kernel_rfl) (by kernel_rfl : Tryz.f22.body = some body22) (by kernel_rfl) (by kernel_rfl)
    (fun x y hw hy => by obtain ⟨k, hk⟩ := h22  y hw hy; exact ⟨k, (ev22 s66 k x).trans hk⟩)
/-! ### jitney/jitlaw2.DeedTexts -/
theorem S4 : SoundF Tryz.prog 4 (.pfn (.cons (.slice EY3) (.cons .str .nil)) (.cons .bool .nil) fun x => s4 x.1 x.2.1) :=
  pfn_sound (E := fun k => mkEnv ts4 (fs4 s8 s15 s16 s17 s18 s19 s20 s21 s22)) (H := H4) (fun k => mkEnv_ok ty4 (fun p hp => by
    unfold fs4 at hp
    rcases List.mem_cons.1 hp with rfl | hp
    · exact S8
    rcases List.mem_cons.1 hp with rfl | hp
    · exact S15
    rcases List.mem_cons.1 hp with rfl | hp
    · exact S16
    rcases List.mem_cons.1 hp with rfl | hp
    · exact S17
    rcases List.mem_cons.1 hp with rfl | hp
    · exact S18
    rcases List.mem_cons.1 hp with rfl | hp
    · exact S19
    rcases List.mem_cons.1 hp with rfl | hp
    · exact S20
    rcases List.mem_cons.1 hp with rfl | hp
    · exact S21
    rcases List.mem_cons.1 hp with rfl | hp
    · exact S22
    cases hp)) mixedOK (by kernel_rfl : Tryz.prog.funcs[4]? = some Tryz.f4) (by kernel_rfl) (by kernel_rfl : Tryz.f4.body = some body4) (by kernel_rfl) (by kernel_rfl)
    (fun x y hw hy => by obtain ⟨k, hk⟩ := h4 x.1 x.2.1 y hw hy; exact ⟨k, (ev4 s8 s15 s16 s17 s18 s19 s20 s21 s22 k x).trans hk⟩)
end Go.Vm
