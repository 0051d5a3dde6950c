/- The program's functions are what the specs say. -/
import Derived.Test.YtbjpkdbneopgkaaGreatDoorOSpec
set_option maxRecDepth 100000
set_option linter.unusedVariables false
namespace Go.Vm
open Go.Proofs
/-! ### cmp.isNaN[string] -/
theorem S159 : SoundF Tryz.prog 159 (.fn (.cons .str .nil) (.cons .bool .nil) fun x => (s159 x.1, ())) :=
  fn_sound (E := fun k => mkEnv ts159 (fs159 )) (H := H159) (fun k => mkEnv_ok ty159 (fun p hp => by unfold fs159 at hp; cases hp)) mixedOK (by kernel_rfl : Tryz.prog.funcs[159]? = some Tryz.f159) (by kernel_rfl) (by kernel_rfl : Tryz.f159.body = some body159) (by kernel_rfl) (by kernel_rfl)
    (fun x hw => by obtain ⟨k, hk⟩ := h159 x.1 hw; exact ⟨k, (ev159  k x).trans hk⟩)
/-! ### cmp.Compare[string] -/
theorem S129 : SoundF Tryz.prog 129 (.fn (.cons .str (.cons .str .nil)) (.cons (.int .i64) .nil) fun x => (s129 x.1 x.2.1, ())) :=
  fn_sound (E := fun k => mkEnv ts129 (fs129 s159)) (H := H129) (fun k => mkEnv_ok ty129 (fun p hp => by
    unfold fs129 at hp
    rcases List.mem_cons.1 hp with rfl | hp
    · exact S159
    cases hp)) mixedOK (by kernel_rfl : Tryz.prog.funcs[129]? = some Tryz.f129) (by kernel_rfl) (by kernel_rfl : Tryz.f129.body = some body129) (by kernel_rfl) (by kernel_rfl)
    (fun x hw => by obtain ⟨k, hk⟩ := h129 x.1 x.2.1 hw; exact ⟨k, (ev129 s159 k x).trans hk⟩)
/-! ### slices.Compare[[]string,string] -/
theorem S97 : SoundF Tryz.prog 97 (.fn (.cons (.slice .str) (.cons (.slice .str) .nil)) (.cons (.int .i64) .nil) fun x => (s97 x.1 x.2.1, ())) :=
  fn_sound (E := fun k => mkEnv ts97 (fs97 s129)) (H := H97) (fun k => mkEnv_ok ty97 (fun p hp => by
    unfold fs97 at hp
    rcases List.mem_cons.1 hp with rfl | hp
    · exact S129
    cases hp)) mixedOK (by kernel_rfl : Tryz.prog.funcs[97]? = some Tryz.f97) (by kernel_rfl) (by kernel_rfl : Tryz.f97.body = some body97) (by kernel_rfl) (by kernel_rfl)
    (fun x hw => by obtain ⟨k, hk⟩ := h97 x.1 x.2.1 hw; exact ⟨k, (ev97 s129 k x).trans hk⟩)
/-! ### jitney/jitref2.OfferOrder -/
theorem S67 : SoundF Tryz.prog 67 (.fn (.cons OY0 (.cons OY0 .nil)) (.cons (.int .i64) .nil) fun x => (s67 x.1 x.2.1, ())) :=
  fn_sound (E := fun k => mkEnv ts67 (fs67 s97)) (H := H67) (fun k => mkEnv_ok ty67 (fun p hp => by
    unfold fs67 at hp
    rcases List.mem_cons.1 hp with rfl | hp
    · exact S97
    cases hp)) mixedOK (by kernel_rfl : Tryz.prog.funcs[67]? = some Tryz.f67) (by kernel_rfl) (by kernel_rfl : Tryz.f67.body = some body67) (by kernel_rfl) (by kernel_rfl)
    (fun x hw => by obtain ⟨k, hk⟩ := h67 x.1 x.2.1 hw; exact ⟨k, (ev67 s97 k x).trans hk⟩)
/-! ### jitney/jitref2.OffersFault -/
theorem S23 : SoundF Tryz.prog 23 (.fn (.cons (.slice OY0) .nil) (.cons (.int .i64) .nil) fun x => (s23 x.1, ())) :=
  fn_sound (E := fun k => mkEnv ts23 (fs23 s32 s34 s67)) (H := H23) (fun k => mkEnv_ok ty23 (fun p hp => by
    unfold fs23 at hp
    rcases List.mem_cons.1 hp with rfl | hp
    · exact S32
    rcases List.mem_cons.1 hp with rfl | hp
    · exact S34
    rcases List.mem_cons.1 hp with rfl | hp
    · exact S67
    cases hp)) mixedOK (by kernel_rfl : Tryz.prog.funcs[23]? = some Tryz.f23) (by kernel_rfl) (by kernel_rfl : Tryz.f23.body = some body23) (by kernel_rfl) (by kernel_rfl)
    (fun x hw => by obtain ⟨k, hk⟩ := h23 x.1 hw; exact ⟨k, (ev23 s32 s34 s67 k x).trans hk⟩)
/-! ### jitney/jitref2.OfferLines -/
theorem S24 : SoundF Tryz.prog 24 (.pfn (.cons (.slice OY0) .nil) (.cons .str .nil) fun x => s24 x.1) :=
  pfn_sound (E := fun k => mkEnv ts24 (fs24 s36)) (H := H24) (fun k => mkEnv_ok ty24 (fun p hp => by
    unfold fs24 at hp
    rcases List.mem_cons.1 hp with rfl | hp
    · exact S36
    cases hp)) mixedOK (by kernel_rfl : Tryz.prog.funcs[24]? = some Tryz.f24) (by kernel_rfl) (by kernel_rfl : Tryz.f24.body = some body24) (by kernel_rfl) (by kernel_rfl)
    (fun x y hw hy => by obtain ⟨k, hk⟩ := h24 x.1 y hw hy; exact ⟨k, (ev24 s36 k x).trans hk⟩)
/-! ### jitney/match.byOffer -/
theorem S100 : SoundF Tryz.prog 100 (.fn (.cons OY0 (.cons OY0 .nil)) (.cons (.int .i64) .nil) fun x => (s100 x.1 x.2.1, ())) :=
  fn_sound (E := fun k => mkEnv ts100 (fs100 s76 s108)) (H := H100) (fun k => mkEnv_ok ty100 (fun p hp => by
    unfold fs100 at hp
    rcases List.mem_cons.1 hp with rfl | hp
    · exact S76
    rcases List.mem_cons.1 hp with rfl | hp
    · exact S108
    cases hp)) mixedOK (by kernel_rfl : Tryz.prog.funcs[100]? = some Tryz.f100) (by kernel_rfl) (by kernel_rfl : Tryz.f100.body = some body100) (by kernel_rfl) (by kernel_rfl)
    (fun x hw => by obtain ⟨k, hk⟩ := h100 x.1 x.2.1 hw; exact ⟨k, (ev100 s76 s108 k x).trans hk⟩)
/-! ### jitney/match.CheckOffers -/
theorem S68 : SoundF Tryz.prog 68 (.fn (.cons (.slice OY0) .nil) (.cons (.int .i64) .nil) fun x => (s68 x.1, ())) :=
  fn_sound (E := fun k => mkEnv ts68 (fs68 s98 s99 s100)) (H := H68) (fun k => mkEnv_ok ty68 (fun p hp => by
    unfold fs68 at hp
    rcases List.mem_cons.1 hp with rfl | hp
    · exact S98
    rcases List.mem_cons.1 hp with rfl | hp
    · exact S99
    rcases List.mem_cons.1 hp with rfl | hp
    · exact S100
    cases hp)) mixedOK (by kernel_rfl : Tryz.prog.funcs[68]? = some Tryz.f68) (by kernel_rfl) (by kernel_rfl : Tryz.f68.body = some body68) (by kernel_rfl) (by kernel_rfl)
    (fun x hw => by obtain ⟨k, hk⟩ := h68 x.1 hw; exact ⟨k, (ev68 s98 s99 s100 k x).trans hk⟩)
/-! ### jitney/match.Text -/
theorem SI25_41 (k : Nat) : SoundF Tryz.prog 41 (.ev (mkEnv tsi25_41 (fsi25_41 s39 s68 k)) Hi25_41 k bodyi25_41 19 [.tmp 4, .tmp 5]) :=
  ev_inline (mkEnv_ok tyi25_41 (fun p hp => by
    unfold fsi25_41 at hp
    rcases List.mem_cons.1 hp with rfl | hp
    · exact S80
    cases hp)) mixedOK (by kernel_rfl : Tryz.prog.funcs[41]? = some Tryz.f41) (by kernel_rfl) (by kernel_rfl : Tryz.f41.body = some bodyi25_41) (by kernel_rfl) (by kernel_rfl)
theorem SI25_43 (k : Nat) : SoundF Tryz.prog 43 (.ev (mkEnv tsi25_43 (fsi25_43 s39 s68 k)) Hi25_43 k bodyi25_43 8 [.tmp 2]) :=
  ev_inline (mkEnv_ok tyi25_43 (fun p hp => by unfold fsi25_43 at hp; cases hp)) mixedOK (by kernel_rfl : Tryz.prog.funcs[43]? = some Tryz.f43) (by kernel_rfl) (by kernel_rfl : Tryz.f43.body = some bodyi25_43) (by kernel_rfl) (by kernel_rfl)
theorem S25 : SoundF Tryz.prog 25 (.pfn (.cons (.slice OY0) .nil) (.cons .str (.cons (.int .i64) .nil)) fun x => s25 x.1) :=
  pfn_sound (E := fun k => mkEnv ts25 (fs25 s39 s68 k)) (H := H25) (fun k => mkEnv_ok ty25 (fun p hp => by
    unfold fs25 at hp
    rcases List.mem_cons.1 hp with rfl | hp
    · exact S39
    rcases List.mem_cons.1 hp with rfl | hp
    · exact SI25_41 k
    rcases List.mem_cons.1 hp with rfl | hp
    · exact SI25_43 k
    rcases List.mem_cons.1 hp with rfl | hp
    · exact S44
    rcases List.mem_cons.1 hp with rfl | hp
    · exact S68
    cases hp)) mixedOK (by kernel_rfl : Tryz.prog.funcs[25]? = some Tryz.f25) (by kernel_rfl) (by kernel_rfl : Tryz.f25.body = some body25) (by kernel_rfl) (by kernel_rfl)
    (fun x y hw hy => by obtain ⟨k, hk⟩ := h25 x.1 y hw hy; exact ⟨k, (ev25 s39 s68 k x).trans hk⟩)
set_option maxHeartbeats 2000000 in
theorem walk26 (a : Option Addr) (c : Nat) (w : World) : Calls Tryz.prog 26 #[.slice a 0 c] w fun e w' => ∃ a' c', e = .returned (.slice a' 0 c') ∧ c' ≤ 9223372036854775807 ∧ Keep None w w' := by
  have q : ∀ (w : World) (a : Option Addr) (n c n' c' : Nat), (binOp .eql 52 (.slice a n c) (.slice none n' c')).run Tryz.prog w = .ok (.bool a.isNone) w := fun w a n c n' c' => Lib.run_eql_slice_nil w _ _ a n c n' c' Tryz.underlying52
  cases a with
  | none =>
    go_enter Tryz.func26, Tryz.ntmps26
    go_wp2
    go_ret
    exact ⟨none, 0, rfl, by omega, Keep.refl _ _⟩
  | some a =>
    go_enter Tryz.func26, Tryz.ntmps26
    go_wp2
    go_ret
    exact ⟨_, _, rfl, by omega, Keep.alloc _ _ _ _⟩
theorem cl26 (xs : List (ByteArray × ByteArray × Int × Unit)) (hne : xs ≠ []) (hl : xs.length ≤ 4294967296) : f26 0 xs = some (xs, ()) := by
  cases xs with
  | nil => exact absurd rfl hne
  | cons z l =>
    have h2 : decide (List.length ([] : List (ByteArray × ByteArray × Int × Unit)) + List.length (z :: l) ≤ 4294967296) = true := by simpa using hl
    unfold f26
    rw [show Nat.ble (List.length (z :: l)) 0 = false from rfl, h2]
    rfl
theorem S26 : SoundF Tryz.prog 26 (.pfn (.cons (.slice OY0) .nil) (.cons (.slice OY0) .nil) fun x => s26 x.1) := by
  intro ρ args objs K r hr
  exact clone_sound (T := OY0) (g1 := fun x => f26 0 x.1) (pfn_sound (E := fun _ => mkEnv ts26 fs26) (H := H26) (fun _ => mkEnv_ok ty26 (fun p hp => by unfold fs26 at hp; cases hp)) mixedOK (by kernel_rfl : Tryz.prog.funcs[26]? = some Tryz.f26) (by kernel_rfl) (by kernel_rfl : Tryz.f26.body = some body26) (by kernel_rfl) (by kernel_rfl) (fun x y hw hy => ⟨0, (ev26 0 x).trans hy⟩)) (enters_of (by kernel_rfl : Tryz.prog.funcs[26]? = some Tryz.f26) (by kernel_rfl) (by kernel_rfl : Tryz.f26.body = some body26))
    (fun xs hne hl => cl26 xs hne hl) walk26 args objs K r hr
/-! ### jitney/match.Read -/
theorem SI27_69 (k : Nat) : SoundF Tryz.prog 69 (.ev (mkEnv tsi27_69 (fsi27_69 s68 s70 s71 s82 k)) Hi27_69 k bodyi27_69 33 [.tmp 3]) :=
  ev_inline (mkEnv_ok tyi27_69 (fun p hp => by
    unfold fsi27_69 at hp
    rcases List.mem_cons.1 hp with rfl | hp
    · exact S70
    rcases List.mem_cons.1 hp with rfl | hp
    · exact S71
    cases hp)) mixedOK (by kernel_rfl : Tryz.prog.funcs[69]? = some Tryz.f69) (by kernel_rfl) (by kernel_rfl : Tryz.f69.body = some bodyi27_69) (by kernel_rfl) (by kernel_rfl)
theorem SI27_45 (k : Nat) : SoundF Tryz.prog 45 (.ev (mkEnv tsi27_45 (fsi27_45 s68 s70 s71 s82 k)) Hi27_45 k bodyi27_45 39 [.tmp 4, .tmp 5]) :=
  ev_inline (mkEnv_ok tyi27_45 (fun p hp => by
    unfold fsi27_45 at hp
    rcases List.mem_cons.1 hp with rfl | hp
    · exact SI27_69 k
    rcases List.mem_cons.1 hp with rfl | hp
    · exact S82
    cases hp)) mixedOK (by kernel_rfl : Tryz.prog.funcs[45]? = some Tryz.f45) (by kernel_rfl) (by kernel_rfl : Tryz.f45.body = some bodyi27_45) (by kernel_rfl) (by kernel_rfl)
theorem S27 : SoundF Tryz.prog 27 (.pfn (.cons .str .nil) (.cons (.slice OY0) (.cons (.int .i64) (.cons (.int .i64) .nil))) fun x => s27 x.1) :=
  pfn_sound (E := fun k => mkEnv ts27 (fs27 s68 s70 s71 s82 k)) (H := H27) (fun k => mkEnv_ok ty27 (fun p hp => by
    unfold fs27 at hp
    rcases List.mem_cons.1 hp with rfl | hp
    · exact SI27_45 k
    rcases List.mem_cons.1 hp with rfl | hp
    · exact S68
    cases hp)) mixedOK (by kernel_rfl : Tryz.prog.funcs[27]? = some Tryz.f27) (by kernel_rfl) (by kernel_rfl : Tryz.f27.body = some body27) (by kernel_rfl) (by kernel_rfl)
    (fun x y hw hy => by obtain ⟨k, hk⟩ := h27 x.1 y hw hy; exact ⟨k, (ev27 s68 s70 s71 s82 k x).trans hk⟩)
/-! ### jitney/jitref2.OffersRead -/
theorem SI28_72 (k : Nat) : SoundF Tryz.prog 72 (.ev (mkEnv tsi28_72 (fsi28_72 s23 s50 s51 s85 k)) Hi28_72 k bodyi28_72 39 [.tmp 3]) :=
  ev_inline (mkEnv_ok tyi28_72 (fun p hp => by
    unfold fsi28_72 at hp
    rcases List.mem_cons.1 hp with rfl | hp
    · exact S50
    rcases List.mem_cons.1 hp with rfl | hp
    · exact S51
    cases hp)) mixedOK (by kernel_rfl : Tryz.prog.funcs[72]? = some Tryz.f72) (by kernel_rfl) (by kernel_rfl : Tryz.f72.body = some bodyi28_72) (by kernel_rfl) (by kernel_rfl)
theorem SI28_48 (k : Nat) : SoundF Tryz.prog 48 (.ev (mkEnv tsi28_48 (fsi28_48 s23 s50 s51 s85 k)) Hi28_48 k bodyi28_48 30 [.tmp 4, .tmp 5]) :=
  ev_inline (mkEnv_ok tyi28_48 (fun p hp => by
    unfold fsi28_48 at hp
    rcases List.mem_cons.1 hp with rfl | hp
    · exact SI28_72 k
    rcases List.mem_cons.1 hp with rfl | hp
    · exact S85
    cases hp)) mixedOK (by kernel_rfl : Tryz.prog.funcs[48]? = some Tryz.f48) (by kernel_rfl) (by kernel_rfl : Tryz.f48.body = some bodyi28_48) (by kernel_rfl) (by kernel_rfl)
theorem S28 : SoundF Tryz.prog 28 (.pfn (.cons .str .nil) (.cons (.slice OY0) (.cons (.int .i64) (.cons (.int .i64) .nil))) fun x => s28 x.1) :=
  pfn_sound (E := fun k => mkEnv ts28 (fs28 s23 s50 s51 s85 k)) (H := H28) (fun k => mkEnv_ok ty28 (fun p hp => by
    unfold fs28 at hp
    rcases List.mem_cons.1 hp with rfl | hp
    · exact S23
    rcases List.mem_cons.1 hp with rfl | hp
    · exact SI28_48 k
    cases hp)) mixedOK (by kernel_rfl : Tryz.prog.funcs[28]? = some Tryz.f28) (by kernel_rfl) (by kernel_rfl : Tryz.f28.body = some body28) (by kernel_rfl) (by kernel_rfl)
    (fun x y hw hy => by obtain ⟨k, hk⟩ := h28 x.1 y hw hy; exact ⟨k, (ev28 s23 s50 s51 s85 k x).trans hk⟩)
/-! ### slices.Equal[[]jitney/api.Offer,jitney/api.Offer] -/
theorem S29 : SoundF Tryz.prog 29 (.fn (.cons (.slice OY0) (.cons (.slice OY0) .nil)) (.cons .bool .nil) fun x => (s29 x.1 x.2.1, ())) :=
  fn_sound (E := fun k => mkEnv ts29 (fs29 )) (H := H29) (fun k => mkEnv_ok ty29 (fun p hp => by unfold fs29 at hp; cases hp)) mixedOK (by kernel_rfl : Tryz.prog.funcs[29]? = some Tryz.f29) (by kernel_rfl) (by kernel_rfl : Tryz.f29.body = some body29) (by kernel_rfl) (by kernel_rfl)
    (fun x hw => by obtain ⟨k, hk⟩ := h29 x.1 x.2.1 hw; exact ⟨k, (ev29  k x).trans hk⟩)
/-! ### jitney/jitlaw2.OfferTexts -/
theorem S5 : SoundF Tryz.prog 5 (.pfn (.cons (.slice OY0) (.cons .str .nil)) (.cons .bool .nil) fun x => s5 x.1 x.2.1) :=
  pfn_sound (E := fun k => mkEnv ts5 (fs5 s8 s23 s24 s25 s26 s27 s28 s29 s30)) (H := H5) (fun k => mkEnv_ok ty5 (fun p hp => by
    unfold fs5 at hp
    rcases List.mem_cons.1 hp with rfl | hp
    · exact S8
    rcases List.mem_cons.1 hp with rfl | hp
    · exact S23
    rcases List.mem_cons.1 hp with rfl | hp
    · exact S24
    rcases List.mem_cons.1 hp with rfl | hp
    · exact S25
    rcases List.mem_cons.1 hp with rfl | hp
    · exact S26
    rcases List.mem_cons.1 hp with rfl | hp
    · exact S27
    rcases List.mem_cons.1 hp with rfl | hp
    · exact S28
    rcases List.mem_cons.1 hp with rfl | hp
    · exact S29
    rcases List.mem_cons.1 hp with rfl | hp
    · exact S30
    cases hp)) mixedOK (by kernel_rfl : Tryz.prog.funcs[5]? = some Tryz.f5) (by kernel_rfl) (by kernel_rfl : Tryz.f5.body = some body5) (by kernel_rfl) (by kernel_rfl)
    (fun x y hw hy => by obtain ⟨k, hk⟩ := h5 x.1 x.2.1 y hw hy; exact ⟨k, (ev5 s8 s23 s24 s25 s26 s27 s28 s29 s30 k x).trans hk⟩)
end Go.Vm
