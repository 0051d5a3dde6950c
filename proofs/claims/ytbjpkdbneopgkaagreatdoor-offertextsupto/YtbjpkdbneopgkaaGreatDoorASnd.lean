/- The program's functions are what the specs say. -/
import Derived.Test.YtbjpkdbneopgkaaGreatDoorASpec
set_option maxRecDepth 100000
set_option linter.unusedVariables false
namespace Go.Vm
open Go.Proofs
/-! ### jitney/jitref2.in -/
theorem S32 : SoundF Tryz.prog 32 (.fn (.cons (.int .i64) (.cons (.int .i64) (.cons (.int .i64) .nil))) (.cons .bool .nil) fun x => (s32 x.1 x.2.1 x.2.2.1, ())) :=
  fn_sound (E := fun k => mkEnv ts32 (fs32 )) (H := H32) (fun k => mkEnv_ok ty32 (fun p hp => by unfold fs32 at hp; cases hp)) mixedOK (by kernel_rfl : Tryz.prog.funcs[32]? = some Tryz.f32) (by kernel_rfl) (by kernel_rfl : Tryz.f32.body = some body32) (by kernel_rfl) (by kernel_rfl)
    (fun x hw => by obtain ⟨k, hk⟩ := h32 x.1 x.2.1 x.2.2.1 hw; exact ⟨k, (ev32  k x).trans hk⟩)
/-! ### jitney/jitref2.Moment -/
/-! ### strings.IndexByte -/
theorem S103 : SoundF Tryz.prog 103 (.fn (.cons .str (.cons (.int .u8) .nil)) (.cons (.int .i64) .nil) fun x => (s103 x.1 x.2.1, ())) :=
  fn_sound (E := fun k => mkEnv ts103 (fs103 s135)) (H := H103) (fun k => mkEnv_ok ty103 (fun p hp => by
    unfold fs103 at hp
    rcases List.mem_cons.1 hp with rfl | hp
    · exact S135
    cases hp)) mixedOK (by kernel_rfl : Tryz.prog.funcs[103]? = some Tryz.f103) (by kernel_rfl) (by kernel_rfl : Tryz.f103.body = some body103) (by kernel_rfl) (by kernel_rfl)
    (fun x hw => by obtain ⟨k, hk⟩ := h103 x.1 x.2.1 hw; exact ⟨k, (ev103 s135 k x).trans hk⟩)
/-! ### jitney/jitref2.only -/
theorem S74 : SoundF Tryz.prog 74 (.fn (.cons .str (.cons .str .nil)) (.cons .bool .nil) fun x => (s74 x.1 x.2.1, ())) :=
  fn_sound (E := fun k => mkEnv ts74 (fs74 s103)) (H := H74) (fun k => mkEnv_ok ty74 (fun p hp => by
    unfold fs74 at hp
    rcases List.mem_cons.1 hp with rfl | hp
    · exact S103
    cases hp)) mixedOK (by kernel_rfl : Tryz.prog.funcs[74]? = some Tryz.f74) (by kernel_rfl) (by kernel_rfl : Tryz.f74.body = some body74) (by kernel_rfl) (by kernel_rfl)
    (fun x hw => by obtain ⟨k, hk⟩ := h74 x.1 x.2.1 hw; exact ⟨k, (ev74 s103 k x).trans hk⟩)
/-! ### jitney/jitref2.Key -/
theorem S34 : SoundF Tryz.prog 34 (.fn (.cons .str .nil) (.cons .bool .nil) fun x => (s34 x.1, ())) :=
  fn_sound (E := fun k => mkEnv ts34 (fs34 s32 s74)) (H := H34) (fun k => mkEnv_ok ty34 (fun p hp => by
    unfold fs34 at hp
    rcases List.mem_cons.1 hp with rfl | hp
    · exact S32
    rcases List.mem_cons.1 hp with rfl | hp
    · exact S74
    cases hp)) mixedOK (by kernel_rfl : Tryz.prog.funcs[34]? = some Tryz.f34) (by kernel_rfl) (by kernel_rfl : Tryz.f34.body = some body34) (by kernel_rfl) (by kernel_rfl)
    (fun x hw => by obtain ⟨k, hk⟩ := h34 x.1 hw; exact ⟨k, (ev34 s32 s74 k x).trans hk⟩)
/-! ### jitney/jitref2.RideFault -/
/-! ### jitney/jitref2.sign -/
/-! ### strings.Compare -/
theorem S76 [MonotC] : SoundF Tryz.prog 76 (.fn (.cons .str (.cons .str .nil)) (.cons (.int .i64) .nil) fun x => (s76 x.1 x.2.1, ())) :=
  fn_sound (E := fun k => mkEnv ts76 (fs76 s104)) (H := H76) (fun k => mkEnv_ok ty76 (fun p hp => by
    unfold fs76 at hp
    rcases List.mem_cons.1 hp with rfl | hp
    · exact S104
    cases hp)) mixedOK (by kernel_rfl : Tryz.prog.funcs[76]? = some Tryz.f76) (by kernel_rfl) (by kernel_rfl : Tryz.f76.body = some body76) (by kernel_rfl) (by kernel_rfl)
    (fun x hw => by obtain ⟨k, hk⟩ := h76 x.1 x.2.1 hw; exact ⟨k, (ev76 s104 k x).trans hk⟩)
/-! ### jitney/jitref2.AskOrder -/
/-! ### jitney/jitref2.AsksFault -/
/-! ### strconv.Itoa -/
theorem S39 : SoundF Tryz.prog 39 (.pfn (.cons (.int .i64) .nil) (.cons .str .nil) fun x => s39 x.1) :=
  pfn_sound (E := fun k => mkEnv ts39 (fs39 s79)) (H := H39) (fun k => mkEnv_ok ty39 (fun p hp => by
    unfold fs39 at hp
    rcases List.mem_cons.1 hp with rfl | hp
    · exact S79
    cases hp)) mixedOK (by kernel_rfl : Tryz.prog.funcs[39]? = some Tryz.f39) (by kernel_rfl) (by kernel_rfl : Tryz.f39.body = some body39) (by kernel_rfl) (by kernel_rfl)
    (fun x y hw hy => by obtain ⟨k, hk⟩ := h39 x.1 y hw hy; exact ⟨k, (ev39 s79 k x).trans hk⟩)
/-! ### jitney/jitref2.numbers -/
theorem S36 : SoundF Tryz.prog 36 (.pfn (.cons (.slice (.int .i64)) .nil) (.cons .str .nil) fun x => s36 x.1) :=
  pfn_sound (E := fun k => mkEnv ts36 (fs36 s39 s42)) (H := H36) (fun k => mkEnv_ok ty36 (fun p hp => by
    unfold fs36 at hp
    rcases List.mem_cons.1 hp with rfl | hp
    · exact S39
    rcases List.mem_cons.1 hp with rfl | hp
    · exact S42
    cases hp)) mixedOK (by kernel_rfl : Tryz.prog.funcs[36]? = some Tryz.f36) (by kernel_rfl) (by kernel_rfl : Tryz.f36.body = some body36) (by kernel_rfl) (by kernel_rfl)
    (fun x y hw hy => by obtain ⟨k, hk⟩ := h36 x.1 y hw hy; exact ⟨k, (ev36 s39 s42 k x).trans hk⟩)
/-! ### jitney/jitref2.askWords -/
/-! ### jitney/jitref2.AskLines -/
/-! ### jitney/jitlaw2.written -/
theorem S8 : SoundF Tryz.prog 8 (.fn (.cons .str (.cons (.int .i64) .nil)) (.cons .str (.cons (.int .i64) .nil)) fun x => s8 x.1 x.2.1) :=
  fn_sound (E := fun k => mkEnv ts8 (fs8 )) (H := H8) (fun k => mkEnv_ok ty8 (fun p hp => by unfold fs8 at hp; cases hp)) mixedOK (by kernel_rfl : Tryz.prog.funcs[8]? = some Tryz.f8) (by kernel_rfl) (by kernel_rfl : Tryz.f8.body = some body8) (by kernel_rfl) (by kernel_rfl)
    (fun x hw => by obtain ⟨k, hk⟩ := h8 x.1 x.2.1 hw; exact ⟨k, (ev8  k x).trans hk⟩)
/-! ### jitney/base.Out -/
theorem S99 : SoundF Tryz.prog 99 (.fn (.cons (.int .i64) (.cons (.int .i64) (.cons (.int .i64) .nil))) (.cons .bool .nil) fun x => (s99 x.1 x.2.1 x.2.2.1, ())) :=
  fn_sound (E := fun k => mkEnv ts99 (fs99 )) (H := H99) (fun k => mkEnv_ok ty99 (fun p hp => by unfold fs99 at hp; cases hp)) mixedOK (by kernel_rfl : Tryz.prog.funcs[99]? = some Tryz.f99) (by kernel_rfl) (by kernel_rfl : Tryz.f99.body = some body99) (by kernel_rfl) (by kernel_rfl)
    (fun x hw => by obtain ⟨k, hk⟩ := h99 x.1 x.2.1 x.2.2.1 hw; exact ⟨k, (ev99  k x).trans hk⟩)
/-! ### jitney/base.Moment -/
/-! ### jitney/base.Key -/
theorem S98 : SoundF Tryz.prog 98 (.fn (.cons .str .nil) (.cons .bool .nil) fun x => (s98 x.1, ())) :=
  fn_sound (E := fun k => mkEnv ts98 (fs98 )) (H := H98) (fun k => mkEnv_ok ty98 (fun p hp => by unfold fs98 at hp; cases hp)) mixedOK (by kernel_rfl : Tryz.prog.funcs[98]? = some Tryz.f98) (by kernel_rfl) (by kernel_rfl : Tryz.f98.body = some body98) (by kernel_rfl) (by kernel_rfl)
    (fun x hw => by obtain ⟨k, hk⟩ := h98 x.1 hw; exact ⟨k, (ev98  k x).trans hk⟩)
/-! ### jitney/request.allKeys$1 -/
/-! ### jitney/request.allKeys -/
/-! ### jitney/request.CheckRide -/
/-! ### jitney/request.askFault -/
/-! ### cmp.Or[int] -/
theorem S108 : SoundF Tryz.prog 108 (.fn (.cons (.slice (.int .i64)) .nil) (.cons (.int .i64) .nil) fun x => (s108 x.1, ())) :=
  fn_sound (E := fun k => mkEnv ts108 (fs108 )) (H := H108) (fun k => mkEnv_ok ty108 (fun p hp => by unfold fs108 at hp; cases hp)) mixedOK (by kernel_rfl : Tryz.prog.funcs[108]? = some Tryz.f108) (by kernel_rfl) (by kernel_rfl : Tryz.f108.body = some body108) (by kernel_rfl) (by kernel_rfl)
    (fun x hw => by obtain ⟨k, hk⟩ := h108 x.1 hw; exact ⟨k, (ev108  k x).trans hk⟩)
/-! ### cmp.isNaN[int] -/
/-! ### cmp.Compare[int] -/
/-! ### jitney/request.byAsk -/
/-! ### jitney/request.CheckAsks -/
/-! ### jitney/request.kinds -/
/-! ### jitney/request.Text -/
/-! ### slices.Index[[]string,string] -/
theorem S52 : SoundF Tryz.prog 52 (.fn (.cons (.slice .str) (.cons .str .nil)) (.cons (.int .i64) .nil) fun x => (s52 x.1 x.2.1, ())) :=
  fn_sound (E := fun k => mkEnv ts52 (fs52 )) (H := H52) (fun k => mkEnv_ok ty52 (fun p hp => by unfold fs52 at hp; cases hp)) mixedOK (by kernel_rfl : Tryz.prog.funcs[52]? = some Tryz.f52) (by kernel_rfl) (by kernel_rfl : Tryz.f52.body = some body52) (by kernel_rfl) (by kernel_rfl)
    (fun x hw => by obtain ⟨k, hk⟩ := h52 x.1 x.2.1 hw; exact ⟨k, (ev52  k x).trans hk⟩)
/-! ### jitney/base.Words -/
theorem S70 : SoundF Tryz.prog 70 (.pfn (.cons .str (.cons (.int .i64) .nil)) (.cons (.slice .str) (.cons .bool .nil)) fun x => s70 x.1 x.2.1) :=
  pfn_sound (E := fun k => mkEnv ts70 (fs70 s86)) (H := H70) (fun k => mkEnv_ok ty70 (fun p hp => by
    unfold fs70 at hp
    rcases List.mem_cons.1 hp with rfl | hp
    · exact S86
    cases hp)) mixedOK (by kernel_rfl : Tryz.prog.funcs[70]? = some Tryz.f70) (by kernel_rfl) (by kernel_rfl : Tryz.f70.body = some body70) (by kernel_rfl) (by kernel_rfl)
    (fun x y hw hy => by obtain ⟨k, hk⟩ := h70 x.1 x.2.1 y hw hy; exact ⟨k, (ev70 s86 k x).trans hk⟩)
/-! ### internal/stringslite.HasPrefix -/
theorem S148 : SoundF Tryz.prog 148 (.fn (.cons .str (.cons .str .nil)) (.cons .bool .nil) fun x => (s148 x.1 x.2.1, ())) :=
  fn_sound (E := fun k => mkEnv ts148 (fs148 )) (H := H148) (fun k => mkEnv_ok ty148 (fun p hp => by unfold fs148 at hp; cases hp)) mixedOK (by kernel_rfl : Tryz.prog.funcs[148]? = some Tryz.f148) (by kernel_rfl) (by kernel_rfl : Tryz.f148.body = some body148) (by kernel_rfl) (by kernel_rfl)
    (fun x hw => by obtain ⟨k, hk⟩ := h148 x.1 x.2.1 hw; exact ⟨k, (ev148  k x).trans hk⟩)
/-! ### internal/stringslite.TrimPrefix -/
theorem S119 : SoundF Tryz.prog 119 (.fn (.cons .str (.cons .str .nil)) (.cons .str .nil) fun x => (s119 x.1 x.2.1, ())) :=
  fn_sound (E := fun k => mkEnv ts119 (fs119 s148)) (H := H119) (fun k => mkEnv_ok ty119 (fun p hp => by
    unfold fs119 at hp
    rcases List.mem_cons.1 hp with rfl | hp
    · exact S148
    cases hp)) mixedOK (by kernel_rfl : Tryz.prog.funcs[119]? = some Tryz.f119) (by kernel_rfl) (by kernel_rfl : Tryz.f119.body = some body119) (by kernel_rfl) (by kernel_rfl)
    (fun x hw => by obtain ⟨k, hk⟩ := h119 x.1 x.2.1 hw; exact ⟨k, (ev119 s148 k x).trans hk⟩)
/-! ### strings.TrimPrefix -/
theorem S88 : SoundF Tryz.prog 88 (.fn (.cons .str (.cons .str .nil)) (.cons .str .nil) fun x => (s88 x.1 x.2.1, ())) :=
  fn_sound (E := fun k => mkEnv ts88 (fs88 s119)) (H := H88) (fun k => mkEnv_ok ty88 (fun p hp => by
    unfold fs88 at hp
    rcases List.mem_cons.1 hp with rfl | hp
    · exact S119
    cases hp)) mixedOK (by kernel_rfl : Tryz.prog.funcs[88]? = some Tryz.f88) (by kernel_rfl) (by kernel_rfl : Tryz.f88.body = some body88) (by kernel_rfl) (by kernel_rfl)
    (fun x hw => by obtain ⟨k, hk⟩ := h88 x.1 x.2.1 hw; exact ⟨k, (ev88 s119 k x).trans hk⟩)
/-! ### jitney/base.Number -/
theorem S71 : SoundF Tryz.prog 71 (.pfn (.cons .str (.cons (.int .i64) .nil)) (.cons (.int .i64) (.cons .bool .nil)) fun x => s71 x.1 x.2.1) :=
  pfn_sound (E := fun k => mkEnv ts71 (fs71 s88)) (H := H71) (fun k => mkEnv_ok ty71 (fun p hp => by
    unfold fs71 at hp
    rcases List.mem_cons.1 hp with rfl | hp
    · exact S88
    rcases List.mem_cons.1 hp with rfl | hp
    · exact S89
    cases hp)) mixedOK (by kernel_rfl : Tryz.prog.funcs[71]? = some Tryz.f71) (by kernel_rfl) (by kernel_rfl : Tryz.f71.body = some body71) (by kernel_rfl) (by kernel_rfl)
    (fun x y hw hy => by obtain ⟨k, hk⟩ := h71 x.1 x.2.1 y hw hy; exact ⟨k, (ev71 s88 k x).trans hk⟩)
/-! ### jitney/base.Numbers -/
/-! ### jitney/request.readAsk -/
/-! ### internal/stringslite.HasSuffix -/
theorem S172 : SoundF Tryz.prog 172 (.fn (.cons .str (.cons .str .nil)) (.cons .bool .nil) fun x => (s172 x.1 x.2.1, ())) :=
  fn_sound (E := fun k => mkEnv ts172 (fs172 )) (H := H172) (fun k => mkEnv_ok ty172 (fun p hp => by unfold fs172 at hp; cases hp)) mixedOK (by kernel_rfl : Tryz.prog.funcs[172]? = some Tryz.f172) (by kernel_rfl) (by kernel_rfl : Tryz.f172.body = some body172) (by kernel_rfl) (by kernel_rfl)
    (fun x hw => by obtain ⟨k, hk⟩ := h172 x.1 x.2.1 hw; exact ⟨k, (ev172  k x).trans hk⟩)
/-! ### internal/stringslite.CutSuffix -/
theorem S145 : SoundF Tryz.prog 145 (.fn (.cons .str (.cons .str .nil)) (.cons .str (.cons .bool .nil)) fun x => s145 x.1 x.2.1) :=
  fn_sound (E := fun k => mkEnv ts145 (fs145 s172)) (H := H145) (fun k => mkEnv_ok ty145 (fun p hp => by
    unfold fs145 at hp
    rcases List.mem_cons.1 hp with rfl | hp
    · exact S172
    cases hp)) mixedOK (by kernel_rfl : Tryz.prog.funcs[145]? = some Tryz.f145) (by kernel_rfl) (by kernel_rfl : Tryz.f145.body = some body145) (by kernel_rfl) (by kernel_rfl)
    (fun x hw => by obtain ⟨k, hk⟩ := h145 x.1 x.2.1 hw; exact ⟨k, (ev145 s172 k x).trans hk⟩)
/-! ### strings.CutSuffix -/
theorem S113 : SoundF Tryz.prog 113 (.fn (.cons .str (.cons .str .nil)) (.cons .str (.cons .bool .nil)) fun x => s113 x.1 x.2.1) :=
  fn_sound (E := fun k => mkEnv ts113 (fs113 s145)) (H := H113) (fun k => mkEnv_ok ty113 (fun p hp => by
    unfold fs113 at hp
    rcases List.mem_cons.1 hp with rfl | hp
    · exact S145
    cases hp)) mixedOK (by kernel_rfl : Tryz.prog.funcs[113]? = some Tryz.f113) (by kernel_rfl) (by kernel_rfl : Tryz.f113.body = some body113) (by kernel_rfl) (by kernel_rfl)
    (fun x hw => by obtain ⟨k, hk⟩ := h113 x.1 x.2.1 hw; exact ⟨k, (ev113 s145 k x).trans hk⟩)
/-! ### jitney/base.Lines -/
theorem S82 : SoundF Tryz.prog 82 (.pfn (.cons .str .nil) (.cons (.slice .str) (.cons .bool .nil)) fun x => s82 x.1) :=
  pfn_sound (E := fun k => mkEnv ts82 (fs82 s86 s113)) (H := H82) (fun k => mkEnv_ok ty82 (fun p hp => by
    unfold fs82 at hp
    rcases List.mem_cons.1 hp with rfl | hp
    · exact S86
    rcases List.mem_cons.1 hp with rfl | hp
    · exact S113
    cases hp)) mixedOK (by kernel_rfl : Tryz.prog.funcs[82]? = some Tryz.f82) (by kernel_rfl) (by kernel_rfl : Tryz.f82.body = some body82) (by kernel_rfl) (by kernel_rfl)
    (fun x y hw hy => by obtain ⟨k, hk⟩ := h82 x.1 y hw hy; exact ⟨k, (ev82 s86 s113 k x).trans hk⟩)
/-! ### jitney/request.Read -/
/-! ### slices.Contains[[]string,string] -/
theorem S87 : SoundF Tryz.prog 87 (.fn (.cons (.slice .str) (.cons .str .nil)) (.cons .bool .nil) fun x => (s87 x.1 x.2.1, ())) :=
  fn_sound (E := fun k => mkEnv ts87 (fs87 s52)) (H := H87) (fun k => mkEnv_ok ty87 (fun p hp => by
    unfold fs87 at hp
    rcases List.mem_cons.1 hp with rfl | hp
    · exact S52
    cases hp)) mixedOK (by kernel_rfl : Tryz.prog.funcs[87]? = some Tryz.f87) (by kernel_rfl) (by kernel_rfl : Tryz.f87.body = some body87) (by kernel_rfl) (by kernel_rfl)
    (fun x hw => by obtain ⟨k, hk⟩ := h87 x.1 x.2.1 hw; exact ⟨k, (ev87 s52 k x).trans hk⟩)
/-! ### jitney/jitref2.Words -/
theorem S50 : SoundF Tryz.prog 50 (.pfn (.cons .str .nil) (.cons (.slice .str) (.cons .bool .nil)) fun x => s50 x.1) :=
  pfn_sound (E := fun k => mkEnv ts50 (fs50 s86 s87)) (H := H50) (fun k => mkEnv_ok ty50 (fun p hp => by
    unfold fs50 at hp
    rcases List.mem_cons.1 hp with rfl | hp
    · exact S86
    rcases List.mem_cons.1 hp with rfl | hp
    · exact S87
    cases hp)) mixedOK (by kernel_rfl : Tryz.prog.funcs[50]? = some Tryz.f50) (by kernel_rfl) (by kernel_rfl : Tryz.f50.body = some body50) (by kernel_rfl) (by kernel_rfl)
    (fun x y hw hy => by obtain ⟨k, hk⟩ := h50 x.1 y hw hy; exact ⟨k, (ev50 s86 s87 k x).trans hk⟩)
/-! ### jitney/jitref2.Number -/
theorem S51 : SoundF Tryz.prog 51 (.pfn (.cons .str (.cons (.int .i64) .nil)) (.cons (.int .i64) (.cons .bool .nil)) fun x => s51 x.1 x.2.1) :=
  pfn_sound (E := fun k => mkEnv ts51 (fs51 s39 s74 s88)) (H := H51) (fun k => mkEnv_ok ty51 (fun p hp => by
    unfold fs51 at hp
    rcases List.mem_cons.1 hp with rfl | hp
    · exact S39
    rcases List.mem_cons.1 hp with rfl | hp
    · exact S74
    rcases List.mem_cons.1 hp with rfl | hp
    · exact S88
    rcases List.mem_cons.1 hp with rfl | hp
    · exact S89
    cases hp)) mixedOK (by kernel_rfl : Tryz.prog.funcs[51]? = some Tryz.f51) (by kernel_rfl) (by kernel_rfl : Tryz.f51.body = some body51) (by kernel_rfl) (by kernel_rfl)
    (fun x y hw hy => by obtain ⟨k, hk⟩ := h51 x.1 x.2.1 y hw hy; exact ⟨k, (ev51 s39 s74 s88 k x).trans hk⟩)
/-! ### jitney/jitref2.numbersIn -/
/-! ### jitney/jitref2.AsksRead -/
/-! ### slices.Equal[[]jitney/api.Ask,jitney/api.Ask] -/
/-! ### jitney/jitlaw2.AskTexts -/
end Go.Vm
