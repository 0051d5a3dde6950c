/- The program's functions are what the specs say. -/
import Derived.Test.YtfiembgemhonlaaRSp
import Derived.Test.YtfiembgemhonlaaDSnd
set_option maxRecDepth 100000
set_option linter.unusedVariables false
namespace Go.Vm
open Go.Proofs
set_option maxHeartbeats 2000000 in
theorem walk28 (a : Option Addr) (c : Nat) (w : World) : Calls Try.prog 28 #[.slice a 0 c] w fun e w' => ∃ a' c', e = .returned (.slice a' 0 c') ∧ c' ≤ 9223372036854775807 ∧ Keep None w w' := by
  have q : ∀ (w : World) (a : Option Addr) (n c n' c' : Nat), (binOp .eql 41 (.slice a n c) (.slice none n' c')).run Try.prog w = .ok (.bool a.isNone) w := fun w a n c n' c' => Lib.run_eql_slice_nil w _ _ a n c n' c' Try.underlying41
  cases a with
  | none =>
    go_enter Try.func28, Try.ntmps28
    go_wp2
    go_ret
    exact ⟨none, 0, rfl, by omega, Keep.refl _ _⟩
  | some a =>
    go_enter Try.func28, Try.ntmps28
    go_wp2
    go_ret
    exact ⟨_, _, rfl, by omega, Keep.alloc _ _ _ _⟩
theorem cl28 (xs : List ByteArray) (hne : xs ≠ []) (hl : xs.length ≤ 4294967296) : f28 0 xs = some (xs, ()) := by
  cases xs with
  | nil => exact absurd rfl hne
  | cons z l =>
    have h2 : decide (List.length ([] : List ByteArray) + List.length (z :: l) ≤ 4294967296) = true := by simpa using hl
    unfold f28
    rw [show Nat.ble (List.length (z :: l)) 0 = false from rfl, h2]
    rfl
theorem S28 : SoundF Try.prog 28 (.pfn (.cons (.slice .str) .nil) (.cons (.slice .str) .nil) fun x => s28 x.1) := by
  intro ρ args objs K r hr
  exact clone_sound (T := .str) (g1 := fun x => f28 0 x.1) (pfn_sound (E := fun _ => mkEnv ts28 fs28) (H := H28) (fun _ => mkEnv_ok ty28 (fun p hp => by unfold fs28 at hp; cases hp)) mixedOK (by kernel_rfl : Try.prog.funcs[28]? = some Try.f28) (by kernel_rfl) (by kernel_rfl : Try.f28.body = some body28) (by kernel_rfl) (by kernel_rfl) (fun x y hw hy => ⟨0, (ev28 0 x).trans hy⟩)) (enters_of (by kernel_rfl : Try.prog.funcs[28]? = some Try.f28) (by kernel_rfl) (by kernel_rfl : Try.f28.body = some body28))
    (fun xs hne hl => cl28 xs hne hl) walk28 args objs K r hr
/-! ### slices.Index[[]string,string] -/
theorem S213 : SoundF Try.prog 213 (.fn (.cons (.slice .str) (.cons .str .nil)) (.cons (.int .i64) .nil) fun x => (s213 x.1 x.2.1, ())) :=
  fn_sound (E := fun k => mkEnv ts213 (fs213 )) (H := H213) (fun k => mkEnv_ok ty213 (fun p hp => by unfold fs213 at hp; cases hp)) mixedOK (by kernel_rfl : Try.prog.funcs[213]? = some Try.f213) (by kernel_rfl) (by kernel_rfl : Try.f213.body = some body213) (by kernel_rfl) (by kernel_rfl)
    (fun x hw => by obtain ⟨k, hk⟩ := h213 x.1 x.2.1 hw; exact ⟨k, (ev213  k x).trans hk⟩)
/-! ### slices.Contains[[]string,string] -/
theorem S131 : SoundF Try.prog 131 (.fn (.cons (.slice .str) (.cons .str .nil)) (.cons .bool .nil) fun x => (s131 x.1 x.2.1, ())) :=
  fn_sound (E := fun k => mkEnv ts131 (fs131 s213)) (H := H131) (fun k => mkEnv_ok ty131 (fun p hp => by
    unfold fs131 at hp
    rcases List.mem_cons.1 hp with rfl | hp
    · exact S213
    cases hp)) mixedOK (by kernel_rfl : Try.prog.funcs[131]? = some Try.f131) (by kernel_rfl) (by kernel_rfl : Try.f131.body = some body131) (by kernel_rfl) (by kernel_rfl)
    (fun x hw => by obtain ⟨k, hk⟩ := h131 x.1 x.2.1 hw; exact ⟨k, (ev131 s213 k x).trans hk⟩)
/-! ### jitney/jitref2.WhosFault -/
theorem S33 : SoundF Try.prog 33 (.fn (.cons (.slice .str) (.cons (.int .i64) .nil)) (.cons (.int .i64) .nil) fun x => (s33 x.1 x.2.1, ())) :=
  fn_sound (E := fun k => mkEnv ts33 (fs33 s31 s131)) (H := H33) (fun k => mkEnv_ok ty33 (fun p hp => by
    unfold fs33 at hp
    rcases List.mem_cons.1 hp with rfl | hp
    · exact S31
    rcases List.mem_cons.1 hp with rfl | hp
    · exact S131
    cases hp)) mixedOK (by kernel_rfl : Try.prog.funcs[33]? = some Try.f33) (by kernel_rfl) (by kernel_rfl : Try.f33.body = some body33) (by kernel_rfl) (by kernel_rfl)
    (fun x hw => by obtain ⟨k, hk⟩ := h33 x.1 x.2.1 hw; exact ⟨k, (ev33 s31 s131 k x).trans hk⟩)
/-! ### jitney/trust.sameWords -/
theorem S256 : SoundF Try.prog 256 (.fn (.cons (.struct (.cons .str (.cons .str (.cons .str (.cons (.int .i64) (.cons (.int .i64) .nil)))))) (.cons (.struct (.cons .str (.cons .str (.cons .str (.cons (.int .i64) (.cons (.int .i64) .nil)))))) .nil)) (.cons (.int .i64) .nil) fun x => (s256 x.1 x.2.1, ())) :=
  fn_sound (E := fun k => mkEnv ts256 (fs256 s127 s129)) (H := H256) (fun k => mkEnv_ok ty256 (fun p hp => by
    unfold fs256 at hp
    rcases List.mem_cons.1 hp with rfl | hp
    · exact S127
    rcases List.mem_cons.1 hp with rfl | hp
    · exact S129
    cases hp)) mixedOK (by kernel_rfl : Try.prog.funcs[256]? = some Try.f256) (by kernel_rfl) (by kernel_rfl : Try.f256.body = some body256) (by kernel_rfl) (by kernel_rfl)
    (fun x hw => by obtain ⟨k, hk⟩ := h256 x.1 x.2.1 hw; exact ⟨k, (ev256 s127 s129 k x).trans hk⟩)
/-! ### jitney/trust.byRating -/
theorem S193 : SoundF Try.prog 193 (.fn (.cons (.struct (.cons .str (.cons .str (.cons .str (.cons (.int .i64) (.cons (.int .i64) .nil)))))) (.cons (.struct (.cons .str (.cons .str (.cons .str (.cons (.int .i64) (.cons (.int .i64) .nil)))))) .nil)) (.cons (.int .i64) .nil) fun x => (s193 x.1 x.2.1, ())) :=
  fn_sound (E := fun k => mkEnv ts193 (fs193 s127 s128 s256)) (H := H193) (fun k => mkEnv_ok ty193 (fun p hp => by
    unfold fs193 at hp
    rcases List.mem_cons.1 hp with rfl | hp
    · exact S127
    rcases List.mem_cons.1 hp with rfl | hp
    · exact S128
    rcases List.mem_cons.1 hp with rfl | hp
    · exact S256
    cases hp)) mixedOK (by kernel_rfl : Try.prog.funcs[193]? = some Try.f193) (by kernel_rfl) (by kernel_rfl : Try.f193.body = some body193) (by kernel_rfl) (by kernel_rfl)
    (fun x hw => by obtain ⟨k, hk⟩ := h193 x.1 x.2.1 hw; exact ⟨k, (ev193 s127 s128 s256 k x).trans hk⟩)
/-! ### jitney/trust.CheckRatings -/
theorem S107 : SoundF Try.prog 107 (.fn (.cons (.slice (.struct (.cons .str (.cons .str (.cons .str (.cons (.int .i64) (.cons (.int .i64) .nil))))))) .nil) (.cons (.int .i64) .nil) fun x => (s107 x.1, ())) :=
  fn_sound (E := fun k => mkEnv ts107 (fs107 s113 s114 s121 s193)) (H := H107) (fun k => mkEnv_ok ty107 (fun p hp => by
    unfold fs107 at hp
    rcases List.mem_cons.1 hp with rfl | hp
    · exact S113
    rcases List.mem_cons.1 hp with rfl | hp
    · exact S114
    rcases List.mem_cons.1 hp with rfl | hp
    · exact S121
    rcases List.mem_cons.1 hp with rfl | hp
    · exact S193
    cases hp)) mixedOK (by kernel_rfl : Try.prog.funcs[107]? = some Try.f107) (by kernel_rfl) (by kernel_rfl : Try.f107.body = some body107) (by kernel_rfl) (by kernel_rfl)
    (fun x hw => by obtain ⟨k, hk⟩ := h107 x.1 hw; exact ⟨k, (ev107 s113 s114 s121 s193 k x).trans hk⟩)
/-! ### jitney/trust.faithFault -/
theorem S195 : SoundF Try.prog 195 (.fn (.cons (.struct (.cons (.int .i64) (.cons (.int .i64) (.cons (.int .i64) .nil)))) .nil) (.cons (.int .i64) .nil) fun x => (s195 x.1, ())) :=
  fn_sound (E := fun k => mkEnv ts195 (fs195 s114)) (H := H195) (fun k => mkEnv_ok ty195 (fun p hp => by
    unfold fs195 at hp
    rcases List.mem_cons.1 hp with rfl | hp
    · exact S114
    cases hp)) mixedOK (by kernel_rfl : Try.prog.funcs[195]? = some Try.f195) (by kernel_rfl) (by kernel_rfl : Try.f195.body = some body195) (by kernel_rfl) (by kernel_rfl)
    (fun x hw => by obtain ⟨k, hk⟩ := h195 x.1 hw; exact ⟨k, (ev195 s114 k x).trans hk⟩)
/-! ### jitney/trust.counting -/
theorem S257 : SoundF Try.prog 257 (.pfn (.cons (.slice (.struct (.cons .str (.cons .str (.cons .str (.cons (.int .i64) (.cons (.int .i64) .nil))))))) (.cons (.int .i64) .nil)) (.cons (.slice (.struct (.cons .str (.cons .str (.cons .str (.cons (.int .i64) (.cons (.int .i64) .nil))))))) .nil) fun x => s257 x.1 x.2.1) :=
  pfn_sound (E := fun k => mkEnv ts257 (fs257 s256)) (H := H257) (fun k => mkEnv_ok ty257 (fun p hp => by
    unfold fs257 at hp
    rcases List.mem_cons.1 hp with rfl | hp
    · exact S256
    cases hp)) mixedOK (by kernel_rfl : Try.prog.funcs[257]? = some Try.f257) (by kernel_rfl) (by kernel_rfl : Try.f257.body = some body257) (by kernel_rfl) (by kernel_rfl)
    (fun x y hw hy => by obtain ⟨k, hk⟩ := h257 x.1 x.2.1 y hw hy; exact ⟨k, (ev257 s256 k x).trans hk⟩)
/-! ### jitney/base.Gcd -/
theorem S305 : SoundF Try.prog 305 (.pfn (.cons (.int .i64) (.cons (.int .i64) .nil)) (.cons (.int .i64) .nil) fun x => s305 x.1 x.2.1) :=
  pfn_sound (E := fun k => mkEnv ts305 (fs305 )) (H := H305) (fun k => mkEnv_ok ty305 (fun p hp => by unfold fs305 at hp; cases hp)) mixedOK (by kernel_rfl : Try.prog.funcs[305]? = some Try.f305) (by kernel_rfl) (by kernel_rfl : Try.f305.body = some body305) (by kernel_rfl) (by kernel_rfl)
    (fun x y hw hy => by obtain ⟨k, hk⟩ := h305 x.1 x.2.1 y hw hy; exact ⟨k, (ev305  k x).trans hk⟩)
/-! ### jitney/base.Fraction -/
theorem S258 : SoundF Try.prog 258 (.pfn (.cons (.int .i64) (.cons (.int .i64) .nil)) (.cons (.struct (.cons (.int .i64) (.cons (.int .i64) .nil))) .nil) fun x => s258 x.1 x.2.1) :=
  pfn_sound (E := fun k => mkEnv ts258 (fs258 s305)) (H := H258) (fun k => mkEnv_ok ty258 (fun p hp => by
    unfold fs258 at hp
    rcases List.mem_cons.1 hp with rfl | hp
    · exact S305
    cases hp)) mixedOK (by kernel_rfl : Try.prog.funcs[258]? = some Try.f258) (by kernel_rfl) (by kernel_rfl : Try.f258.body = some body258) (by kernel_rfl) (by kernel_rfl)
    (fun x y hw hy => by obtain ⟨k, hk⟩ := h258 x.1 x.2.1 y hw hy; exact ⟨k, (ev258 s305 k x).trans hk⟩)
/-! ### jitney/trust.Score -/
theorem SI104_196 (k : Nat) : SoundF Try.prog 196 (.ev (mkEnv tsi104_196 (fsi104_196 s107 s113 s121 s123 s195 s257 s258 k)) Hi104_196 k bodyi104_196 61 [.tmp 6]) :=
  ev_inline (mkEnv_ok tyi104_196 (fun p hp => by
    unfold fsi104_196 at hp
    rcases List.mem_cons.1 hp with rfl | hp
    · exact S257
    cases hp)) mixedOK (by kernel_rfl : Try.prog.funcs[196]? = some Try.f196) (by kernel_rfl) (by kernel_rfl : Try.f196.body = some bodyi104_196) (by kernel_rfl) (by kernel_rfl)
theorem SI104_197 (k : Nat) : SoundF Try.prog 197 (.evr (mkEnv tsi104_197 (fsi104_197 s107 s113 s121 s123 s195 s257 s258 k)) Hi104_197 k bodyi104_197 37 [.cell 6 167, .tmp 7]) :=
  ev_inlineR (mkEnv_ok tyi104_197 (fun p hp => by
    unfold fsi104_197 at hp
    rcases List.mem_cons.1 hp with rfl | hp
    · exact S258
    cases hp)) mixedOK (by kernel_rfl : Try.prog.funcs[197]? = some Try.f197) (by kernel_rfl) (by kernel_rfl : Try.f197.body = some bodyi104_197) (by kernel_rfl) (by kernel_rfl)
theorem S104 : SoundF Try.prog 104 (.pfn (.cons (.struct (.cons (.int .i64) (.cons (.int .i64) (.cons (.int .i64) .nil)))) (.cons (.slice (.struct (.cons .str (.cons .str (.cons .str (.cons (.int .i64) (.cons (.int .i64) .nil))))))) (.cons .str (.cons (.int .i64) .nil)))) (.cons (.struct (.cons (.int .i64) (.cons (.int .i64) .nil))) (.cons (.int .i64) .nil)) fun x => s104 x.1 x.2.1 x.2.2.1 x.2.2.2.1) :=
  pfn_sound (E := fun k => mkEnv ts104 (fs104 s107 s113 s121 s123 s195 s257 s258 k)) (H := H104) (fun k => mkEnv_ok ty104 (fun p hp => by
    unfold fs104 at hp
    rcases List.mem_cons.1 hp with rfl | hp
    · exact S107
    rcases List.mem_cons.1 hp with rfl | hp
    · exact S113
    rcases List.mem_cons.1 hp with rfl | hp
    · exact S121
    rcases List.mem_cons.1 hp with rfl | hp
    · exact S123
    rcases List.mem_cons.1 hp with rfl | hp
    · exact S195
    rcases List.mem_cons.1 hp with rfl | hp
    · exact SI104_196 k
    rcases List.mem_cons.1 hp with rfl | hp
    · exact SI104_197 k
    cases hp)) mixedOK (by kernel_rfl : Try.prog.funcs[104]? = some Try.f104) (by kernel_rfl) (by kernel_rfl : Try.f104.body = some body104) (by kernel_rfl) (by kernel_rfl)
    (fun x y hw hy => by obtain ⟨k, hk⟩ := h104 x.1 x.2.1 x.2.2.1 x.2.2.2.1 y hw hy; exact ⟨k, (ev104 s107 s113 s121 s123 s195 s257 s258 k x).trans hk⟩)
/-! ### jitney/jitlaw2.trusted -/
theorem S36 : SoundF Try.prog 36 (.pfn .nil (.cons .bool .nil) fun x => s36) :=
  pfn_sound (E := fun k => mkEnv ts36 (fs36 s104)) (H := H36) (fun k => mkEnv_ok ty36 (fun p hp => by
    unfold fs36 at hp
    rcases List.mem_cons.1 hp with rfl | hp
    · exact S104
    cases hp)) mixedOK (by kernel_rfl : Try.prog.funcs[36]? = some Try.f36) (by kernel_rfl) (by kernel_rfl : Try.f36.body = some body36) (by kernel_rfl) (by kernel_rfl)
    (fun x y hw hy => by obtain ⟨k, hk⟩ := h36  y hw hy; exact ⟨k, (ev36 s104 k x).trans hk⟩)
/-! ### slices.Equal[[]string,string] -/
theorem S101 : SoundF Try.prog 101 (.fn (.cons (.slice .str) (.cons (.slice .str) .nil)) (.cons .bool .nil) fun x => (s101 x.1 x.2.1, ())) :=
  fn_sound (E := fun k => mkEnv ts101 (fs101 )) (H := H101) (fun k => mkEnv_ok ty101 (fun p hp => by unfold fs101 at hp; cases hp)) mixedOK (by kernel_rfl : Try.prog.funcs[101]? = some Try.f101) (by kernel_rfl) (by kernel_rfl : Try.f101.body = some body101) (by kernel_rfl) (by kernel_rfl)
    (fun x hw => by obtain ⟨k, hk⟩ := h101 x.1 x.2.1 hw; exact ⟨k, (ev101  k x).trans hk⟩)
/-! ### slices.Concat[[]jitney/api.Rating,jitney/api.Rating] -/
theorem SI191_254 (k : Nat) : SoundF Try.prog 254 (.ev (mkEnv tsi191_254 (fsi191_254  k)) Hi191_254 k bodyi191_254 27 [.tmp 4]) :=
  ev_inline (mkEnv_ok tyi191_254 (fun p hp => by unfold fsi191_254 at hp; cases hp)) mixedOK (by kernel_rfl : Try.prog.funcs[254]? = some Try.f254) (by kernel_rfl) (by kernel_rfl : Try.f254.body = some bodyi191_254) (by kernel_rfl) (by kernel_rfl)
theorem S191 : SoundF Try.prog 191 (.mfn (.struct (.cons .str (.cons .str (.cons .str (.cons (.int .i64) (.cons (.int .i64) .nil)))))) (.cons (.slice (.slice (.struct (.cons .str (.cons .str (.cons .str (.cons (.int .i64) (.cons (.int .i64) .nil)))))))) .nil) fun x => s191 x.1) :=
  mfn_sound (E := fun k => mkEnv ts191 (fs191  k)) (H := H191) (fun k => mkEnv_ok ty191 (fun p hp => by
    unfold fs191 at hp
    rcases List.mem_cons.1 hp with rfl | hp
    · exact SI191_254 k
    cases hp)) mixedOK (by kernel_rfl : Try.prog.funcs[191]? = some Try.f191) (by kernel_rfl) (by kernel_rfl : Try.f191.body = some body191) (by kernel_rfl) (by kernel_rfl)
    (fun x ys hw hy => by obtain ⟨k, hk⟩ := h191 x.1 ys hw hy; exact ⟨k, (ev191  k x).trans hk⟩)
/-! ### slices.Compact[[]jitney/api.Rating,jitney/api.Rating] -/
theorem S194 : SoundF Try.prog 194 (.cfn (.struct (.cons .str (.cons .str (.cons .str (.cons (.int .i64) (.cons (.int .i64) .nil)))))) .nil fun xs a => s194 xs) :=
  cfn_sound (E := fun k => mkEnvV ts194 (fs194 )) (H := H194) (fun k => mkEnvV_ok ty194 (fun p hp => by unfold fs194 at hp; cases hp)) mixedOK (by kernel_rfl : Try.prog.funcs[194]? = some Try.f194) (by kernel_rfl) (by kernel_rfl : Try.f194.body = some body194) (by kernel_rfl) (by kernel_rfl)
    (fun xs a ys hl hw hy => by obtain ⟨k, hk⟩ := h194 xs  ys hl hw hy; exact ⟨k, (ev194  k xs a).trans hk⟩)
/-! ### jitney/trust.Merge -/
theorem S192_193 : SoundF Try.prog 192 (.rfn (.struct (.cons .str (.cons .str (.cons .str (.cons (.int .i64) (.cons (.int .i64) .nil)))))) .nil 193 fun xs a => s192_193 xs) := SF192_193 S193 W193
theorem S102 : SoundF Try.prog 102 (.pfn (.cons (.slice (.struct (.cons .str (.cons .str (.cons .str (.cons (.int .i64) (.cons (.int .i64) .nil))))))) (.cons (.slice (.struct (.cons .str (.cons .str (.cons .str (.cons (.int .i64) (.cons (.int .i64) .nil))))))) .nil)) (.cons (.slice (.struct (.cons .str (.cons .str (.cons .str (.cons (.int .i64) (.cons (.int .i64) .nil))))))) (.cons (.int .i64) .nil)) fun x => s102 x.1 x.2.1) :=
  pfn_sound (E := fun k => mkEnv ts102 (fs102 s107 s123 s191 s192_193 s193 s194)) (H := H102) (fun k => mkEnv_ok ty102 (fun p hp => by
    unfold fs102 at hp
    rcases List.mem_cons.1 hp with rfl | hp
    · exact S107
    rcases List.mem_cons.1 hp with rfl | hp
    · exact S123
    rcases List.mem_cons.1 hp with rfl | hp
    · exact S191
    rcases List.mem_cons.1 hp with rfl | hp
    · exact S192_193
    rcases List.mem_cons.1 hp with rfl | hp
    · exact S193
    rcases List.mem_cons.1 hp with rfl | hp
    · exact S194
    cases hp)) mixedOK (by kernel_rfl : Try.prog.funcs[102]? = some Try.f102) (by kernel_rfl) (by kernel_rfl : Try.f102.body = some body102) (by kernel_rfl) (by kernel_rfl)
    (fun x y hw hy => by obtain ⟨k, hk⟩ := h102 x.1 x.2.1 y hw hy; exact ⟨k, (ev102 s107 s123 s191 s192_193 s193 s194 k x).trans hk⟩)
set_option maxHeartbeats 2000000 in
theorem walk103 (a : Option Addr) (c : Nat) (w : World) : Calls Try.prog 103 #[.slice a 0 c] w fun e w' => ∃ a' c', e = .returned (.slice a' 0 c') ∧ c' ≤ 9223372036854775807 ∧ Keep None w w' := by
  have q : ∀ (w : World) (a : Option Addr) (n c n' c' : Nat), (binOp .eql 160 (.slice a n c) (.slice none n' c')).run Try.prog w = .ok (.bool a.isNone) w := fun w a n c n' c' => Lib.run_eql_slice_nil w _ _ a n c n' c' Try.underlying160
  cases a with
  | none =>
    go_enter Try.func103, Try.ntmps103
    go_wp2
    go_ret
    exact ⟨none, 0, rfl, by omega, Keep.refl _ _⟩
  | some a =>
    go_enter Try.func103, Try.ntmps103
    go_wp2
    go_ret
    exact ⟨_, _, rfl, by omega, Keep.alloc _ _ _ _⟩
theorem cl103 (xs : List (ByteArray × ByteArray × ByteArray × Int × Int × Unit)) (hne : xs ≠ []) (hl : xs.length ≤ 4294967296) : f103 0 xs = some (xs, ()) := by
  cases xs with
  | nil => exact absurd rfl hne
  | cons z l =>
    have h2 : decide (List.length ([] : List (ByteArray × ByteArray × ByteArray × Int × Int × Unit)) + List.length (z :: l) ≤ 4294967296) = true := by simpa using hl
    unfold f103
    rw [show Nat.ble (List.length (z :: l)) 0 = false from rfl, h2]
    rfl
theorem S103 : SoundF Try.prog 103 (.pfn (.cons (.slice (.struct (.cons .str (.cons .str (.cons .str (.cons (.int .i64) (.cons (.int .i64) .nil))))))) .nil) (.cons (.slice (.struct (.cons .str (.cons .str (.cons .str (.cons (.int .i64) (.cons (.int .i64) .nil))))))) .nil) fun x => s103 x.1) := by
  intro ρ args objs K r hr
  exact clone_sound (T := (.struct (.cons .str (.cons .str (.cons .str (.cons (.int .i64) (.cons (.int .i64) .nil))))))) (g1 := fun x => f103 0 x.1) (pfn_sound (E := fun _ => mkEnv ts103 fs103) (H := H103) (fun _ => mkEnv_ok ty103 (fun p hp => by unfold fs103 at hp; cases hp)) mixedOK (by kernel_rfl : Try.prog.funcs[103]? = some Try.f103) (by kernel_rfl) (by kernel_rfl : Try.f103.body = some body103) (by kernel_rfl) (by kernel_rfl) (fun x y hw hy => ⟨0, (ev103 0 x).trans hy⟩)) (enters_of (by kernel_rfl : Try.prog.funcs[103]? = some Try.f103) (by kernel_rfl) (by kernel_rfl : Try.f103.body = some body103))
    (fun xs hne hl => cl103 xs hne hl) walk103 args objs K r hr
/-! ### jitney/trust.peopleFault -/
theorem S124 : SoundF Try.prog 124 (.fn (.cons (.slice .str) (.cons (.int .i64) .nil)) (.cons (.int .i64) .nil) fun x => (s124 x.1 x.2.1, ())) :=
  fn_sound (E := fun k => mkEnv ts124 (fs124 s113)) (H := H124) (fun k => mkEnv_ok ty124 (fun p hp => by
    unfold fs124 at hp
    rcases List.mem_cons.1 hp with rfl | hp
    · exact S113
    cases hp)) mixedOK (by kernel_rfl : Try.prog.funcs[124]? = some Try.f124) (by kernel_rfl) (by kernel_rfl : Try.f124.body = some body124) (by kernel_rfl) (by kernel_rfl)
    (fun x hw => by obtain ⟨k, hk⟩ := h124 x.1 x.2.1 hw; exact ⟨k, (ev124 s113 k x).trans hk⟩)
/-! ### math/bits.Mul64 -/
theorem S260 : SoundF Try.prog 260 (.fn (.cons (.int .u64) (.cons (.int .u64) .nil)) (.cons (.int .u64) (.cons (.int .u64) .nil)) fun x => s260 x.1 x.2.1) :=
  fn_sound (E := fun k => mkEnv ts260 (fs260 )) (H := H260) (fun k => mkEnv_ok ty260 (fun p hp => by unfold fs260 at hp; cases hp)) mixedOK (by kernel_rfl : Try.prog.funcs[260]? = some Try.f260) (by kernel_rfl) (by kernel_rfl : Try.f260.body = some body260) (by kernel_rfl) (by kernel_rfl)
    (fun x hw => by obtain ⟨k, hk⟩ := h260 x.1 x.2.1 hw; exact ⟨k, (ev260  k x).trans hk⟩)
/-! ### jitney/base.CompareProducts -/
theorem S200 : SoundF Try.prog 200 (.fn (.cons (.int .i64) (.cons (.int .i64) (.cons (.int .i64) (.cons (.int .i64) .nil)))) (.cons (.int .i64) .nil) fun x => (s200 x.1 x.2.1 x.2.2.1 x.2.2.2.1, ())) :=
  fn_sound (E := fun k => mkEnv ts200 (fs200 s260)) (H := H200) (fun k => mkEnv_ok ty200 (fun p hp => by
    unfold fs200 at hp
    rcases List.mem_cons.1 hp with rfl | hp
    · exact S260
    cases hp)) mixedOK (by kernel_rfl : Try.prog.funcs[200]? = some Try.f200) (by kernel_rfl) (by kernel_rfl : Try.f200.body = some body200) (by kernel_rfl) (by kernel_rfl)
    (fun x hw => by obtain ⟨k, hk⟩ := h200 x.1 x.2.1 x.2.2.1 x.2.2.2.1 hw; exact ⟨k, (ev200 s260 k x).trans hk⟩)
set_option maxHeartbeats 2000000 in
theorem walkm28 (a : Option Addr) (c : Nat) (w : World) : Calls Try.prog 28 #[.slice a 0 c] w fun e w' => ∃ a', e = .returned (.slice a' 0 0) ∧ Keep None w w' := by
  have q : ∀ (w : World) (a : Option Addr) (n c n' c' : Nat), (binOp .eql 41 (.slice a n c) (.slice none n' c')).run Try.prog w = .ok (.bool a.isNone) w := fun w a n c n' c' => Lib.run_eql_slice_nil w _ _ a n c n' c' Try.underlying41
  cases a with
  | none =>
    go_enter Try.func28, Try.ntmps28
    go_wp2
    go_ret
    exact ⟨none, rfl, Keep.refl _ _⟩
  | some a =>
    go_enter Try.func28, Try.ntmps28
    go_wp2
    go_ret
    exact ⟨_, rfl, Keep.alloc _ _ _ _⟩
theorem clm28 (xs : List ByteArray) (hne : xs ≠ []) (hl : xs.length ≤ 4294967296) : fm28 0 xs = some xs := by
  cases xs with
  | nil => exact absurd rfl hne
  | cons z l =>
    have h2 : decide (List.length ([] : List ByteArray) + List.length (z :: l) ≤ 4294967296) = true := by simpa using hl
    unfold fm28
    rw [show Nat.ble (List.length (z :: l)) 0 = false from rfl, h2]
    rfl
theorem SM28 : SoundF Try.prog 28 (.mfn .str (.cons (.slice .str) .nil) fun x => m28 x.1) := by
  intro ρ args objs K r hr
  exact Vm.clone_row (T := .str) (g1 := fun x => fm28 0 x.1) (mfn_sound (E := fun _ => mkEnv tsm28 []) (H := Hm28) (fun _ => mkEnv_ok tym28 (fun p hp => by cases hp)) mixedOK (by kernel_rfl : Try.prog.funcs[28]? = some Try.f28) (by kernel_rfl) (by kernel_rfl : Try.f28.body = some bodym28) (by kernel_rfl) (by kernel_rfl) (fun x y hw hy => ⟨0, (evm28 0 x).trans hy⟩)) (enters_of (by kernel_rfl : Try.prog.funcs[28]? = some Try.f28) (by kernel_rfl) (by kernel_rfl : Try.f28.body = some bodym28))
    (fun xs hne hl => clm28 xs hne hl) walkm28 args objs K r hr
/-! ### jitney/trust.Ranked -/
theorem SI105_196 (k : Nat) : SoundF Try.prog 196 (.ev (mkEnv tsi105_196 (fsi105_196 m28 s107 s121 s123 s124 s127 s129 s195 s200 s257 s258 k)) Hi105_196 k bodyi105_196 61 [.tmp 6]) :=
  ev_inline (mkEnv_ok tyi105_196 (fun p hp => by
    unfold fsi105_196 at hp
    rcases List.mem_cons.1 hp with rfl | hp
    · exact S257
    cases hp)) mixedOK (by kernel_rfl : Try.prog.funcs[196]? = some Try.f196) (by kernel_rfl) (by kernel_rfl : Try.f196.body = some bodyi105_196) (by kernel_rfl) (by kernel_rfl)
theorem SI105_197 (k : Nat) : SoundF Try.prog 197 (.evr (mkEnv tsi105_197 (fsi105_197 m28 s107 s121 s123 s124 s127 s129 s195 s200 s257 s258 k)) Hi105_197 k bodyi105_197 37 [.cell 6 167, .tmp 7]) :=
  ev_inlineR (mkEnv_ok tyi105_197 (fun p hp => by
    unfold fsi105_197 at hp
    rcases List.mem_cons.1 hp with rfl | hp
    · exact S258
    cases hp)) mixedOK (by kernel_rfl : Try.prog.funcs[197]? = some Try.f197) (by kernel_rfl) (by kernel_rfl : Try.f197.body = some bodyi105_197) (by kernel_rfl) (by kernel_rfl)
theorem SC105_198 (k : Nat) : SoundF Try.prog 198 (.sortc .str 199 (mkEnv tsi105_199 (fsi105_199 m28 s107 s121 s123 s124 s127 s129 s195 s200 s257 s258 k)) Hi105_199 k bodyi105_199 57 [.tmp 6]) :=
  SCF198 (mkEnv_ok tyi105_199 (fun p hp => by
    unfold fsi105_199 at hp
    rcases List.mem_cons.1 hp with rfl | hp
    · exact S127
    rcases List.mem_cons.1 hp with rfl | hp
    · exact S129
    rcases List.mem_cons.1 hp with rfl | hp
    · exact SI105_197 k
    rcases List.mem_cons.1 hp with rfl | hp
    · exact S200
    cases hp)) (by kernel_rfl : Try.prog.funcs[199]? = some Try.f199) (by kernel_rfl : Try.f199.body = some bodyi105_199) (by kernel_rfl) (by kernel_rfl) (enters_of (by kernel_rfl : Try.prog.funcs[199]? = some Try.f199) (by kernel_rfl) (by kernel_rfl : Try.f199.body = some bodyi105_199))
theorem S105 : SoundF Try.prog 105 (.pfn (.cons (.struct (.cons (.int .i64) (.cons (.int .i64) (.cons (.int .i64) .nil)))) (.cons (.slice (.struct (.cons .str (.cons .str (.cons .str (.cons (.int .i64) (.cons (.int .i64) .nil))))))) (.cons (.slice .str) (.cons (.int .i64) .nil)))) (.cons (.slice .str) (.cons (.int .i64) .nil)) fun x => s105 x.1 x.2.1 x.2.2.1 x.2.2.2.1) :=
  pfn_sound (E := fun k => mkEnv ts105 (fs105 m28 s107 s121 s123 s124 s127 s129 s195 s200 s257 s258 k)) (H := H105) (fun k => mkEnv_ok ty105 (fun p hp => by
    unfold fs105 at hp
    rcases List.mem_cons.1 hp with rfl | hp
    · exact SM28
    rcases List.mem_cons.1 hp with rfl | hp
    · exact S107
    rcases List.mem_cons.1 hp with rfl | hp
    · exact S121
    rcases List.mem_cons.1 hp with rfl | hp
    · exact S123
    rcases List.mem_cons.1 hp with rfl | hp
    · exact S124
    rcases List.mem_cons.1 hp with rfl | hp
    · exact S195
    rcases List.mem_cons.1 hp with rfl | hp
    · exact SI105_196 k
    rcases List.mem_cons.1 hp with rfl | hp
    · exact SC105_198 k
    cases hp)) mixedOK (by kernel_rfl : Try.prog.funcs[105]? = some Try.f105) (by kernel_rfl) (by kernel_rfl : Try.f105.body = some body105) (by kernel_rfl) (by kernel_rfl)
    (fun x y hw hy => by obtain ⟨k, hk⟩ := h105 x.1 x.2.1 x.2.2.1 x.2.2.2.1 y hw hy; exact ⟨k, (ev105 m28 s107 s121 s123 s124 s127 s129 s195 s200 s257 s258 k x).trans hk⟩)
/-! ### cmp.isNaN[string] -/
theorem S263 : SoundF Try.prog 263 (.fn (.cons .str .nil) (.cons .bool .nil) fun x => (s263 x.1, ())) :=
  fn_sound (E := fun k => mkEnv ts263 (fs263 )) (H := H263) (fun k => mkEnv_ok ty263 (fun p hp => by unfold fs263 at hp; cases hp)) mixedOK (by kernel_rfl : Try.prog.funcs[263]? = some Try.f263) (by kernel_rfl) (by kernel_rfl : Try.f263.body = some body263) (by kernel_rfl) (by kernel_rfl)
    (fun x hw => by obtain ⟨k, hk⟩ := h263 x.1 hw; exact ⟨k, (ev263  k x).trans hk⟩)
/-! ### cmp.Compare[string] -/
theorem S209 : SoundF Try.prog 209 (.fn (.cons .str (.cons .str .nil)) (.cons (.int .i64) .nil) fun x => (s209 x.1 x.2.1, ())) :=
  fn_sound (E := fun k => mkEnv ts209 (fs209 s263)) (H := H209) (fun k => mkEnv_ok ty209 (fun p hp => by
    unfold fs209 at hp
    rcases List.mem_cons.1 hp with rfl | hp
    · exact S263
    cases hp)) mixedOK (by kernel_rfl : Try.prog.funcs[209]? = some Try.f209) (by kernel_rfl) (by kernel_rfl : Try.f209.body = some body209) (by kernel_rfl) (by kernel_rfl)
    (fun x hw => by obtain ⟨k, hk⟩ := h209 x.1 x.2.1 hw; exact ⟨k, (ev209 s263 k x).trans hk⟩)
/-! ### slices.Compare[[]string,string] -/
theorem S126 : SoundF Try.prog 126 (.fn (.cons (.slice .str) (.cons (.slice .str) .nil)) (.cons (.int .i64) .nil) fun x => (s126 x.1 x.2.1, ())) :=
  fn_sound (E := fun k => mkEnv ts126 (fs126 s209)) (H := H126) (fun k => mkEnv_ok ty126 (fun p hp => by
    unfold fs126 at hp
    rcases List.mem_cons.1 hp with rfl | hp
    · exact S209
    cases hp)) mixedOK (by kernel_rfl : Try.prog.funcs[126]? = some Try.f126) (by kernel_rfl) (by kernel_rfl : Try.f126.body = some body126) (by kernel_rfl) (by kernel_rfl)
    (fun x hw => by obtain ⟨k, hk⟩ := h126 x.1 x.2.1 hw; exact ⟨k, (ev126 s209 k x).trans hk⟩)
/-! ### jitney/jitref2.ratingKey -/
theorem S204 : SoundF Try.prog 204 (.fn (.cons (.struct (.cons .str (.cons .str (.cons .str (.cons (.int .i64) (.cons (.int .i64) .nil)))))) .nil) (.cons (.slice .str) .nil) fun x => (s204 x.1, ())) :=
  fn_sound (E := fun k => mkEnv ts204 (fs204 )) (H := H204) (fun k => mkEnv_ok ty204 (fun p hp => by unfold fs204 at hp; cases hp)) mixedOK (by kernel_rfl : Try.prog.funcs[204]? = some Try.f204) (by kernel_rfl) (by kernel_rfl : Try.f204.body = some body204) (by kernel_rfl) (by kernel_rfl)
    (fun x hw => by obtain ⟨k, hk⟩ := h204 x.1 hw; exact ⟨k, (ev204  k x).trans hk⟩)
/-! ### jitney/jitref2.RatingOrder -/
theorem S201 : SoundF Try.prog 201 (.fn (.cons (.struct (.cons .str (.cons .str (.cons .str (.cons (.int .i64) (.cons (.int .i64) .nil)))))) (.cons (.struct (.cons .str (.cons .str (.cons .str (.cons (.int .i64) (.cons (.int .i64) .nil)))))) .nil)) (.cons (.int .i64) .nil) fun x => (s201 x.1 x.2.1, ())) :=
  fn_sound (E := fun k => mkEnv ts201 (fs201 s126 s204 s227)) (H := H201) (fun k => mkEnv_ok ty201 (fun p hp => by
    unfold fs201 at hp
    rcases List.mem_cons.1 hp with rfl | hp
    · exact S126
    rcases List.mem_cons.1 hp with rfl | hp
    · exact S204
    rcases List.mem_cons.1 hp with rfl | hp
    · exact S227
    cases hp)) mixedOK (by kernel_rfl : Try.prog.funcs[201]? = some Try.f201) (by kernel_rfl) (by kernel_rfl : Try.f201.body = some body201) (by kernel_rfl) (by kernel_rfl)
    (fun x hw => by obtain ⟨k, hk⟩ := h201 x.1 x.2.1 hw; exact ⟨k, (ev201 s126 s204 s227 k x).trans hk⟩)
/-! ### jitney/jitref2.RatingsFault -/
theorem S106 : SoundF Try.prog 106 (.fn (.cons (.slice (.struct (.cons .str (.cons .str (.cons .str (.cons (.int .i64) (.cons (.int .i64) .nil))))))) .nil) (.cons (.int .i64) .nil) fun x => (s106 x.1, ())) :=
  fn_sound (E := fun k => mkEnv ts106 (fs106 s31 s115 s125 s201)) (H := H106) (fun k => mkEnv_ok ty106 (fun p hp => by
    unfold fs106 at hp
    rcases List.mem_cons.1 hp with rfl | hp
    · exact S31
    rcases List.mem_cons.1 hp with rfl | hp
    · exact S115
    rcases List.mem_cons.1 hp with rfl | hp
    · exact S125
    rcases List.mem_cons.1 hp with rfl | hp
    · exact S201
    cases hp)) mixedOK (by kernel_rfl : Try.prog.funcs[106]? = some Try.f106) (by kernel_rfl) (by kernel_rfl : Try.f106.body = some body106) (by kernel_rfl) (by kernel_rfl)
    (fun x hw => by obtain ⟨k, hk⟩ := h106 x.1 hw; exact ⟨k, (ev106 s31 s115 s125 s201 k x).trans hk⟩)
/-! ### jitney/jitref2.FaithFault -/
theorem S108 : SoundF Try.prog 108 (.fn (.cons (.struct (.cons (.int .i64) (.cons (.int .i64) (.cons (.int .i64) .nil)))) .nil) (.cons (.int .i64) .nil) fun x => (s108 x.1, ())) :=
  fn_sound (E := fun k => mkEnv ts108 (fs108 s115)) (H := H108) (fun k => mkEnv_ok ty108 (fun p hp => by
    unfold fs108 at hp
    rcases List.mem_cons.1 hp with rfl | hp
    · exact S115
    cases hp)) mixedOK (by kernel_rfl : Try.prog.funcs[108]? = some Try.f108) (by kernel_rfl) (by kernel_rfl : Try.f108.body = some body108) (by kernel_rfl) (by kernel_rfl)
    (fun x hw => by obtain ⟨k, hk⟩ := h108 x.1 hw; exact ⟨k, (ev108 s115 k x).trans hk⟩)
/-! ### jitney/jitref2.RatingsOf -/
theorem S192_201 : SoundF Try.prog 192 (.rfn (.struct (.cons .str (.cons .str (.cons .str (.cons (.int .i64) (.cons (.int .i64) .nil)))))) .nil 201 fun xs a => s192_201 xs) := SF192_201 S201 timed0 (fun a b ha hb => s201_cmp ha hb) WR
theorem S109 : SoundF Try.prog 109 (.pfn (.cons (.slice (.struct (.cons .str (.cons .str (.cons .str (.cons (.int .i64) (.cons (.int .i64) .nil))))))) (.cons (.slice (.struct (.cons .str (.cons .str (.cons .str (.cons (.int .i64) (.cons (.int .i64) .nil))))))) .nil)) (.cons (.slice (.struct (.cons .str (.cons .str (.cons .str (.cons (.int .i64) (.cons (.int .i64) .nil))))))) (.cons (.int .i64) .nil)) fun x => s109 x.1 x.2.1) :=
  pfn_sound (E := fun k => mkEnv ts109 (fs109 s191 s192_201 s194 s201)) (H := H109) (fun k => mkEnv_ok ty109 (fun p hp => by
    unfold fs109 at hp
    rcases List.mem_cons.1 hp with rfl | hp
    · exact S191
    rcases List.mem_cons.1 hp with rfl | hp
    · exact S192_201
    rcases List.mem_cons.1 hp with rfl | hp
    · exact S194
    rcases List.mem_cons.1 hp with rfl | hp
    · exact S201
    cases hp)) mixedOK (by kernel_rfl : Try.prog.funcs[109]? = some Try.f109) (by kernel_rfl) (by kernel_rfl : Try.f109.body = some body109) (by kernel_rfl) (by kernel_rfl)
    (fun x y hw hy => by obtain ⟨k, hk⟩ := h109 x.1 x.2.1 y hw hy; exact ⟨k, (ev109 s191 s192_201 s194 s201 k x).trans hk⟩)
/-! ### jitney/jitref2.Lowest -/
theorem S205 : SoundF Try.prog 205 (.pfn (.cons (.int .i64) (.cons (.int .i64) .nil)) (.cons (.struct (.cons (.int .i64) (.cons (.int .i64) .nil))) .nil) fun x => s205 x.1 x.2.1) :=
  pfn_sound (E := fun k => mkEnv ts205 (fs205 )) (H := H205) (fun k => mkEnv_ok ty205 (fun p hp => by unfold fs205 at hp; cases hp)) mixedOK (by kernel_rfl : Try.prog.funcs[205]? = some Try.f205) (by kernel_rfl) (by kernel_rfl : Try.f205.body = some body205) (by kernel_rfl) (by kernel_rfl)
    (fun x y hw hy => by obtain ⟨k, hk⟩ := h205 x.1 x.2.1 y hw hy; exact ⟨k, (ev205  k x).trans hk⟩)
/-! ### jitney/jitref2.ScoreOf -/
theorem SI110_203 (k : Nat) : SoundF Try.prog 203 (.ev (mkEnv tsi110_203 (fsi110_203 s101 s204 s205 k)) Hi110_203 k bodyi110_203 16 [.tmp 4]) :=
  ev_inline (mkEnv_ok tyi110_203 (fun p hp => by
    unfold fsi110_203 at hp
    rcases List.mem_cons.1 hp with rfl | hp
    · exact S101
    rcases List.mem_cons.1 hp with rfl | hp
    · exact S204
    cases hp)) mixedOK (by kernel_rfl : Try.prog.funcs[203]? = some Try.f203) (by kernel_rfl) (by kernel_rfl : Try.f203.body = some bodyi110_203) (by kernel_rfl) (by kernel_rfl)
theorem SI110_261 (k : Nat) : SoundF Try.prog 261 (.ev (mkEnv tsi110_261 (fsi110_261 s101 s204 s205 k)) Hi110_261 k bodyi110_261 19 [.tmp 4]) :=
  ev_inline (mkEnv_ok tyi110_261 (fun p hp => by
    unfold fsi110_261 at hp
    rcases List.mem_cons.1 hp with rfl | hp
    · exact SI110_203 k
    cases hp)) mixedOK (by kernel_rfl : Try.prog.funcs[261]? = some Try.f261) (by kernel_rfl) (by kernel_rfl : Try.f261.body = some bodyi110_261) (by kernel_rfl) (by kernel_rfl)
theorem SI110_202 (k : Nat) : SoundF Try.prog 202 (.ev (mkEnv tsi110_202 (fsi110_202 s101 s204 s205 k)) Hi110_202 k bodyi110_202 9 [.tmp 4]) :=
  ev_inline (mkEnv_ok tyi110_202 (fun p hp => by
    unfold fsi110_202 at hp
    rcases List.mem_cons.1 hp with rfl | hp
    · exact SI110_261 k
    cases hp)) mixedOK (by kernel_rfl : Try.prog.funcs[202]? = some Try.f202) (by kernel_rfl) (by kernel_rfl : Try.f202.body = some bodyi110_202) (by kernel_rfl) (by kernel_rfl)
theorem S110 : SoundF Try.prog 110 (.pfn (.cons (.struct (.cons (.int .i64) (.cons (.int .i64) (.cons (.int .i64) .nil)))) (.cons (.slice (.struct (.cons .str (.cons .str (.cons .str (.cons (.int .i64) (.cons (.int .i64) .nil))))))) (.cons .str (.cons (.int .i64) .nil)))) (.cons (.struct (.cons (.int .i64) (.cons (.int .i64) .nil))) (.cons .bool .nil)) fun x => s110 x.1 x.2.1 x.2.2.1 x.2.2.2.1) :=
  pfn_sound (E := fun k => mkEnv ts110 (fs110 s101 s204 s205 k)) (H := H110) (fun k => mkEnv_ok ty110 (fun p hp => by
    unfold fs110 at hp
    rcases List.mem_cons.1 hp with rfl | hp
    · exact SI110_202 k
    rcases List.mem_cons.1 hp with rfl | hp
    · exact S205
    cases hp)) mixedOK (by kernel_rfl : Try.prog.funcs[110]? = some Try.f110) (by kernel_rfl) (by kernel_rfl : Try.f110.body = some body110) (by kernel_rfl) (by kernel_rfl)
    (fun x y hw hy => by obtain ⟨k, hk⟩ := h110 x.1 x.2.1 x.2.2.1 x.2.2.2.1 y hw hy; exact ⟨k, (ev110 s101 s204 s205 k x).trans hk⟩)
/-! ### cmp.isNaN[uint64] -/
theorem S314 : SoundF Try.prog 314 (.fn (.cons (.int .u64) .nil) (.cons .bool .nil) fun x => (s314 x.1, ())) :=
  fn_sound (E := fun k => mkEnv ts314 (fs314 )) (H := H314) (fun k => mkEnv_ok ty314 (fun p hp => by unfold fs314 at hp; cases hp)) mixedOK (by kernel_rfl : Try.prog.funcs[314]? = some Try.f314) (by kernel_rfl) (by kernel_rfl : Try.f314.body = some body314) (by kernel_rfl) (by kernel_rfl)
    (fun x hw => by obtain ⟨k, hk⟩ := h314 x.1 hw; exact ⟨k, (ev314  k x).trans hk⟩)
/-! ### cmp.Compare[uint64] -/
theorem S262 : SoundF Try.prog 262 (.fn (.cons (.int .u64) (.cons (.int .u64) .nil)) (.cons (.int .i64) .nil) fun x => (s262 x.1 x.2.1, ())) :=
  fn_sound (E := fun k => mkEnv ts262 (fs262 s314)) (H := H262) (fun k => mkEnv_ok ty262 (fun p hp => by
    unfold fs262 at hp
    rcases List.mem_cons.1 hp with rfl | hp
    · exact S314
    cases hp)) mixedOK (by kernel_rfl : Try.prog.funcs[262]? = some Try.f262) (by kernel_rfl) (by kernel_rfl : Try.f262.body = some body262) (by kernel_rfl) (by kernel_rfl)
    (fun x hw => by obtain ⟨k, hk⟩ := h262 x.1 x.2.1 hw; exact ⟨k, (ev262 s314 k x).trans hk⟩)
/-! ### jitney/jitref2.fractionOrder -/
theorem S207 : SoundF Try.prog 207 (.fn (.cons (.struct (.cons (.int .i64) (.cons (.int .i64) .nil))) (.cons (.struct (.cons (.int .i64) (.cons (.int .i64) .nil))) .nil)) (.cons (.int .i64) .nil) fun x => (s207 x.1 x.2.1, ())) :=
  fn_sound (E := fun k => mkEnv ts207 (fs207 s260 s262)) (H := H207) (fun k => mkEnv_ok ty207 (fun p hp => by
    unfold fs207 at hp
    rcases List.mem_cons.1 hp with rfl | hp
    · exact S260
    rcases List.mem_cons.1 hp with rfl | hp
    · exact S262
    cases hp)) mixedOK (by kernel_rfl : Try.prog.funcs[207]? = some Try.f207) (by kernel_rfl) (by kernel_rfl : Try.f207.body = some body207) (by kernel_rfl) (by kernel_rfl)
    (fun x hw => by obtain ⟨k, hk⟩ := h207 x.1 x.2.1 hw; exact ⟨k, (ev207 s260 s262 k x).trans hk⟩)
/-! ### jitney/jitref2.RankedOf -/
theorem SC111_198 (k : Nat) : SoundF Try.prog 198 (.sortc .str 206 (mkEnv tsi111_206 (fsi111_206 m28 s110 s129 s207 k)) Hi111_206 k bodyi111_206 52 [.tmp 7]) :=
  SCF198 (mkEnv_ok tyi111_206 (fun p hp => by
    unfold fsi111_206 at hp
    rcases List.mem_cons.1 hp with rfl | hp
    · exact S110
    rcases List.mem_cons.1 hp with rfl | hp
    · exact S129
    rcases List.mem_cons.1 hp with rfl | hp
    · exact S207
    cases hp)) (by kernel_rfl : Try.prog.funcs[206]? = some Try.f206) (by kernel_rfl : Try.f206.body = some bodyi111_206) (by kernel_rfl) (by kernel_rfl) (enters_of (by kernel_rfl : Try.prog.funcs[206]? = some Try.f206) (by kernel_rfl) (by kernel_rfl : Try.f206.body = some bodyi111_206))
theorem S111 : SoundF Try.prog 111 (.pfn (.cons (.struct (.cons (.int .i64) (.cons (.int .i64) (.cons (.int .i64) .nil)))) (.cons (.slice (.struct (.cons .str (.cons .str (.cons .str (.cons (.int .i64) (.cons (.int .i64) .nil))))))) (.cons (.slice .str) (.cons (.int .i64) .nil)))) (.cons (.slice .str) .nil) fun x => s111 x.1 x.2.1 x.2.2.1 x.2.2.2.1) :=
  pfn_sound (E := fun k => mkEnv ts111 (fs111 m28 s110 s129 s207 k)) (H := H111) (fun k => mkEnv_ok ty111 (fun p hp => by
    unfold fs111 at hp
    rcases List.mem_cons.1 hp with rfl | hp
    · exact SM28
    rcases List.mem_cons.1 hp with rfl | hp
    · exact SC111_198 k
    cases hp)) mixedOK (by kernel_rfl : Try.prog.funcs[111]? = some Try.f111) (by kernel_rfl) (by kernel_rfl : Try.f111.body = some body111) (by kernel_rfl) (by kernel_rfl)
    (fun x y hw hy => by obtain ⟨k, hk⟩ := h111 x.1 x.2.1 x.2.2.1 x.2.2.2.1 y hw hy; exact ⟨k, (ev111 m28 s110 s129 s207 k x).trans hk⟩)
/-! ### slices.Equal[[]jitney/api.Rating,jitney/api.Rating] -/
theorem S112 : SoundF Try.prog 112 (.fn (.cons (.slice (.struct (.cons .str (.cons .str (.cons .str (.cons (.int .i64) (.cons (.int .i64) .nil))))))) (.cons (.slice (.struct (.cons .str (.cons .str (.cons .str (.cons (.int .i64) (.cons (.int .i64) .nil))))))) .nil)) (.cons .bool .nil) fun x => (s112 x.1 x.2.1, ())) :=
  fn_sound (E := fun k => mkEnv ts112 (fs112 )) (H := H112) (fun k => mkEnv_ok ty112 (fun p hp => by unfold fs112 at hp; cases hp)) mixedOK (by kernel_rfl : Try.prog.funcs[112]? = some Try.f112) (by kernel_rfl) (by kernel_rfl : Try.f112.body = some body112) (by kernel_rfl) (by kernel_rfl)
    (fun x hw => by obtain ⟨k, hk⟩ := h112 x.1 x.2.1 hw; exact ⟨k, (ev112  k x).trans hk⟩)
/-! ### jitney/jitlaw2.RatingsScored -/
theorem S11 : SoundF Try.prog 11 (.pfn (.cons (.struct (.cons (.int .i64) (.cons (.int .i64) (.cons (.int .i64) .nil)))) (.cons (.slice (.struct (.cons .str (.cons .str (.cons .str (.cons (.int .i64) (.cons (.int .i64) .nil))))))) (.cons (.slice (.struct (.cons .str (.cons .str (.cons .str (.cons (.int .i64) (.cons (.int .i64) .nil))))))) (.cons .str (.cons (.slice .str) (.cons (.int .i64) .nil)))))) (.cons .bool .nil) fun x => s11 x.1 x.2.1 x.2.2.1 x.2.2.2.1 x.2.2.2.2.1 x.2.2.2.2.2.1) :=
  pfn_sound (E := fun k => mkEnv ts11 (fs11 s20 s21 s28 s31 s32 s33 s36 s101 s102 s103 s104 s105 s106 s107 s108 s109 s110 s111 s112)) (H := H11) (fun k => mkEnv_ok ty11 (fun p hp => by
    unfold fs11 at hp
    rcases List.mem_cons.1 hp with rfl | hp
    · exact S20
    rcases List.mem_cons.1 hp with rfl | hp
    · exact S21
    rcases List.mem_cons.1 hp with rfl | hp
    · exact S28
    rcases List.mem_cons.1 hp with rfl | hp
    · exact S31
    rcases List.mem_cons.1 hp with rfl | hp
    · exact S32
    rcases List.mem_cons.1 hp with rfl | hp
    · exact S33
    rcases List.mem_cons.1 hp with rfl | hp
    · exact S36
    rcases List.mem_cons.1 hp with rfl | hp
    · exact S101
    rcases List.mem_cons.1 hp with rfl | hp
    · exact S102
    rcases List.mem_cons.1 hp with rfl | hp
    · exact S103
    rcases List.mem_cons.1 hp with rfl | hp
    · exact S104
    rcases List.mem_cons.1 hp with rfl | hp
    · exact S105
    rcases List.mem_cons.1 hp with rfl | hp
    · exact S106
    rcases List.mem_cons.1 hp with rfl | hp
    · exact S107
    rcases List.mem_cons.1 hp with rfl | hp
    · exact S108
    rcases List.mem_cons.1 hp with rfl | hp
    · exact S109
    rcases List.mem_cons.1 hp with rfl | hp
    · exact S110
    rcases List.mem_cons.1 hp with rfl | hp
    · exact S111
    rcases List.mem_cons.1 hp with rfl | hp
    · exact S112
    cases hp)) mixedOK (by kernel_rfl : Try.prog.funcs[11]? = some Try.f11) (by kernel_rfl) (by kernel_rfl : Try.f11.body = some body11) (by kernel_rfl) (by kernel_rfl)
    (fun x y hw hy => by obtain ⟨k, hk⟩ := h11 x.1 x.2.1 x.2.2.1 x.2.2.2.1 x.2.2.2.2.1 x.2.2.2.2.2.1 y hw hy; exact ⟨k, (ev11 s20 s21 s28 s31 s32 s33 s36 s101 s102 s103 s104 s105 s106 s107 s108 s109 s110 s111 s112 k x).trans hk⟩)
end Go.Vm
