/- The program's functions are what the specs say. -/
import Derived.Test.YtfiembgemhonlaaDoorUSpec
set_option maxRecDepth 100000
set_option linter.unusedVariables false
namespace Go.Vm
open Go.Proofs
/-! ### cmp.Or[int] -/
/-! ### strings.Compare -/
/-! ### jitney/trust.sameDrive -/
/-! ### jitney/base.Key -/
theorem S36 : SoundF Tryd.prog 36 (.fn (.cons .str .nil) (.cons .bool .nil) fun x => (s36 x.1, ())) :=
  fn_sound (E := fun k => mkEnv ts36 (fs36 )) (H := H36) (fun k => mkEnv_ok ty36 (fun p hp => by unfold fs36 at hp; cases hp)) mixedOK (by kernel_rfl : Tryd.prog.funcs[36]? = some Tryd.f36) (by kernel_rfl) (by kernel_rfl : Tryd.f36.body = some body36) (by kernel_rfl) (by kernel_rfl)
    (fun x hw => by obtain ⟨k, hk⟩ := h36 x.1 hw; exact ⟨k, (ev36  k x).trans hk⟩)
/-! ### jitney/base.Out -/
theorem S40 : SoundF Tryd.prog 40 (.fn (.cons (.int .i64) (.cons (.int .i64) (.cons (.int .i64) .nil))) (.cons .bool .nil) fun x => (s40 x.1 x.2.1 x.2.2.1, ())) :=
  fn_sound (E := fun k => mkEnv ts40 (fs40 )) (H := H40) (fun k => mkEnv_ok ty40 (fun p hp => by unfold fs40 at hp; cases hp)) mixedOK (by kernel_rfl : Tryd.prog.funcs[40]? = some Tryd.f40) (by kernel_rfl) (by kernel_rfl : Tryd.f40.body = some body40) (by kernel_rfl) (by kernel_rfl)
    (fun x hw => by obtain ⟨k, hk⟩ := h40 x.1 x.2.1 x.2.2.1 hw; exact ⟨k, (ev40  k x).trans hk⟩)
/-! ### jitney/base.Moment -/
theorem S37 : SoundF Tryd.prog 37 (.fn (.cons (.int .i64) .nil) (.cons .bool .nil) fun x => (s37 x.1, ())) :=
  fn_sound (E := fun k => mkEnv ts37 (fs37 s40)) (H := H37) (fun k => mkEnv_ok ty37 (fun p hp => by
    unfold fs37 at hp
    rcases List.mem_cons.1 hp with rfl | hp
    · exact S40
    cases hp)) mixedOK (by kernel_rfl : Tryd.prog.funcs[37]? = some Tryd.f37) (by kernel_rfl) (by kernel_rfl : Tryd.f37.body = some body37) (by kernel_rfl) (by kernel_rfl)
    (fun x hw => by obtain ⟨k, hk⟩ := h37 x.1 hw; exact ⟨k, (ev37 s40 k x).trans hk⟩)
/-! ### cmp.isNaN[int] -/
theorem S52 : SoundF Tryd.prog 52 (.fn (.cons (.int .i64) .nil) (.cons .bool .nil) fun x => (s52 x.1, ())) :=
  fn_sound (E := fun k => mkEnv ts52 (fs52 )) (H := H52) (fun k => mkEnv_ok ty52 (fun p hp => by unfold fs52 at hp; cases hp)) mixedOK (by kernel_rfl : Tryd.prog.funcs[52]? = some Tryd.f52) (by kernel_rfl) (by kernel_rfl : Tryd.f52.body = some body52) (by kernel_rfl) (by kernel_rfl)
    (fun x hw => by obtain ⟨k, hk⟩ := h52 x.1 hw; exact ⟨k, (ev52  k x).trans hk⟩)
/-! ### cmp.Compare[int] -/
theorem S39 : SoundF Tryd.prog 39 (.fn (.cons (.int .i64) (.cons (.int .i64) .nil)) (.cons (.int .i64) .nil) fun x => (s39 x.1 x.2.1, ())) :=
  fn_sound (E := fun k => mkEnv ts39 (fs39 s52)) (H := H39) (fun k => mkEnv_ok ty39 (fun p hp => by
    unfold fs39 at hp
    rcases List.mem_cons.1 hp with rfl | hp
    · exact S52
    cases hp)) mixedOK (by kernel_rfl : Tryd.prog.funcs[39]? = some Tryd.f39) (by kernel_rfl) (by kernel_rfl : Tryd.f39.body = some body39) (by kernel_rfl) (by kernel_rfl)
    (fun x hw => by obtain ⟨k, hk⟩ := h39 x.1 x.2.1 hw; exact ⟨k, (ev39 s52 k x).trans hk⟩)
/-! ### jitney/trust.CheckDone -/
/-! ### jitney/trust.CheckQuests -/
/-! ### jitney/base.First -/
/-! ### jitney/trust.whoFault -/
/-! ### strconv.Itoa -/
theorem S30 : SoundF Tryd.prog 30 (.pfn (.cons (.int .i64) .nil) (.cons .str .nil) fun x => s30 x.1) :=
  pfn_sound (E := fun k => mkEnv ts30 (fs30 s49)) (H := H30) (fun k => mkEnv_ok ty30 (fun p hp => by
    unfold fs30 at hp
    rcases List.mem_cons.1 hp with rfl | hp
    · exact S49
    cases hp)) mixedOK (by kernel_rfl : Tryd.prog.funcs[30]? = some Tryd.f30) (by kernel_rfl) (by kernel_rfl : Tryd.f30.body = some body30) (by kernel_rfl) (by kernel_rfl)
    (fun x y hw hy => by obtain ⟨k, hk⟩ := h30 x.1 y hw hy; exact ⟨k, (ev30 s49 k x).trans hk⟩)
/-! ### jitney/trust.Bonus -/
/-! ### jitney/jitlaw2.errs -/
/-! ### jitney/jitref2.in -/
theorem S31 : SoundF Tryd.prog 31 (.fn (.cons (.int .i64) (.cons (.int .i64) (.cons (.int .i64) .nil))) (.cons .bool .nil) fun x => (s31 x.1 x.2.1 x.2.2.1, ())) :=
  fn_sound (E := fun k => mkEnv ts31 (fs31 )) (H := H31) (fun k => mkEnv_ok ty31 (fun p hp => by unfold fs31 at hp; cases hp)) mixedOK (by kernel_rfl : Tryd.prog.funcs[31]? = some Tryd.f31) (by kernel_rfl) (by kernel_rfl : Tryd.f31.body = some body31) (by kernel_rfl) (by kernel_rfl)
    (fun x hw => by obtain ⟨k, hk⟩ := h31 x.1 x.2.1 x.2.2.1 hw; exact ⟨k, (ev31  k x).trans hk⟩)
/-! ### strings.IndexByte -/
theorem S51 : SoundF Tryd.prog 51 (.fn (.cons .str (.cons (.int .u8) .nil)) (.cons (.int .i64) .nil) fun x => (s51 x.1 x.2.1, ())) :=
  fn_sound (E := fun k => mkEnv ts51 (fs51 s63)) (H := H51) (fun k => mkEnv_ok ty51 (fun p hp => by
    unfold fs51 at hp
    rcases List.mem_cons.1 hp with rfl | hp
    · exact S63
    cases hp)) mixedOK (by kernel_rfl : Tryd.prog.funcs[51]? = some Tryd.f51) (by kernel_rfl) (by kernel_rfl : Tryd.f51.body = some body51) (by kernel_rfl) (by kernel_rfl)
    (fun x hw => by obtain ⟨k, hk⟩ := h51 x.1 x.2.1 hw; exact ⟨k, (ev51 s63 k x).trans hk⟩)
/-! ### jitney/jitref2.only -/
theorem S34 : SoundF Tryd.prog 34 (.fn (.cons .str (.cons .str .nil)) (.cons .bool .nil) fun x => (s34 x.1 x.2.1, ())) :=
  fn_sound (E := fun k => mkEnv ts34 (fs34 s51)) (H := H34) (fun k => mkEnv_ok ty34 (fun p hp => by
    unfold fs34 at hp
    rcases List.mem_cons.1 hp with rfl | hp
    · exact S51
    cases hp)) mixedOK (by kernel_rfl : Tryd.prog.funcs[34]? = some Tryd.f34) (by kernel_rfl) (by kernel_rfl : Tryd.f34.body = some body34) (by kernel_rfl) (by kernel_rfl)
    (fun x hw => by obtain ⟨k, hk⟩ := h34 x.1 x.2.1 hw; exact ⟨k, (ev34 s51 k x).trans hk⟩)
/-! ### jitney/jitref2.Key -/
theorem S12 : SoundF Tryd.prog 12 (.fn (.cons .str .nil) (.cons .bool .nil) fun x => (s12 x.1, ())) :=
  fn_sound (E := fun k => mkEnv ts12 (fs12 s31 s34)) (H := H12) (fun k => mkEnv_ok ty12 (fun p hp => by
    unfold fs12 at hp
    rcases List.mem_cons.1 hp with rfl | hp
    · exact S31
    rcases List.mem_cons.1 hp with rfl | hp
    · exact S34
    cases hp)) mixedOK (by kernel_rfl : Tryd.prog.funcs[12]? = some Tryd.f12) (by kernel_rfl) (by kernel_rfl : Tryd.f12.body = some body12) (by kernel_rfl) (by kernel_rfl)
    (fun x hw => by obtain ⟨k, hk⟩ := h12 x.1 hw; exact ⟨k, (ev12 s31 s34 k x).trans hk⟩)
/-! ### jitney/jitref2.QuestsFault -/
/-! ### jitney/jitref2.Moment -/
theorem S32 : SoundF Tryd.prog 32 (.fn (.cons (.int .i64) .nil) (.cons .bool .nil) fun x => (s32 x.1, ())) :=
  fn_sound (E := fun k => mkEnv ts32 (fs32 s31)) (H := H32) (fun k => mkEnv_ok ty32 (fun p hp => by
    unfold fs32 at hp
    rcases List.mem_cons.1 hp with rfl | hp
    · exact S31
    cases hp)) mixedOK (by kernel_rfl : Tryd.prog.funcs[32]? = some Tryd.f32) (by kernel_rfl) (by kernel_rfl : Tryd.f32.body = some body32) (by kernel_rfl) (by kernel_rfl)
    (fun x hw => by obtain ⟨k, hk⟩ := h32 x.1 hw; exact ⟨k, (ev32 s31 k x).trans hk⟩)
/-! ### cmp.isNaN[string] -/
/-! ### cmp.Compare[string] -/
/-! ### slices.Compare[[]string,string] -/
/-! ### jitney/jitref2.DoneFault -/
/-! ### jitney/jitlaw2.when -/
/-! ### jitney/jitlaw2.momentFault -/
/-! ### jitney/jitref2.inside -/
/-! ### jitney/jitref2.BonusOf -/
/-! ### slices.Equal[[]jitney/api.Pair,jitney/api.Pair] -/
theorem S17 : SoundF Tryd.prog 17 (.fn (.cons (.slice (.struct (.cons .str (.cons .str .nil)))) (.cons (.slice (.struct (.cons .str (.cons .str .nil)))) .nil)) (.cons .bool .nil) fun x => (s17 x.1 x.2.1, ())) :=
  fn_sound (E := fun k => mkEnv ts17 (fs17 )) (H := H17) (fun k => mkEnv_ok ty17 (fun p hp => by unfold fs17 at hp; cases hp)) mixedOK (by kernel_rfl : Tryd.prog.funcs[17]? = some Tryd.f17) (by kernel_rfl) (by kernel_rfl : Tryd.f17.body = some body17) (by kernel_rfl) (by kernel_rfl)
    (fun x hw => by obtain ⟨k, hk⟩ := h17 x.1 x.2.1 hw; exact ⟨k, (ev17  k x).trans hk⟩)
/-! ### jitney/trust.sameWords -/
/-! ### jitney/trust.byRating -/
/-! ### jitney/trust.CheckRatings -/
/-! ### jitney/trust.faithFault -/
/-! ### jitney/trust.counting -/
/-! ### jitney/base.Gcd -/
/-! ### jitney/base.Fraction -/
/-! ### jitney/trust.Score -/
/-! ### jitney/jitlaw2.trusted -/
/-! ### jitney/jitlaw2.BonusesPaid -/
end Go.Vm
