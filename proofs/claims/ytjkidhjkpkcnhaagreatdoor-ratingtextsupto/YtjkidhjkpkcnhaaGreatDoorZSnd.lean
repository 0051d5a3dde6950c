/- The program's functions are what the specs say. -/
import Derived.Test.YtjkidhjkpkcnhaaGreatDoorZSpec
set_option maxRecDepth 100000
set_option linter.unusedVariables false
namespace Go.Vm
open Go.Proofs
/-! ### jitney/jitlaw2.written -/
theorem S48 : SoundF Tryz.prog 48 (.fn (.cons .str (.cons (.int .i64) .nil)) (.cons .str (.cons (.int .i64) .nil)) fun x => s48 x.1 x.2.1) :=
  fn_sound (E := fun k => mkEnv ts48 (fs48 )) (H := H48) (fun k => mkEnv_ok ty48 (fun p hp => by unfold fs48 at hp; cases hp)) mixedOK (by kernel_rfl : Tryz.prog.funcs[48]? = some Tryz.f48) (by kernel_rfl) (by kernel_rfl : Tryz.f48.body = some body48) (by kernel_rfl) (by kernel_rfl)
    (fun x hw => by obtain ⟨k, hk⟩ := h48 x.1 x.2.1 hw; exact ⟨k, (ev48  k x).trans hk⟩)
/-! ### jitney/jitref2.in -/
theorem S71 : SoundF Tryz.prog 71 (.fn (.cons (.int .i64) (.cons (.int .i64) (.cons (.int .i64) .nil))) (.cons .bool .nil) fun x => (s71 x.1 x.2.1 x.2.2.1, ())) :=
  fn_sound (E := fun k => mkEnv ts71 (fs71 )) (H := H71) (fun k => mkEnv_ok ty71 (fun p hp => by unfold fs71 at hp; cases hp)) mixedOK (by kernel_rfl : Tryz.prog.funcs[71]? = some Tryz.f71) (by kernel_rfl) (by kernel_rfl : Tryz.f71.body = some body71) (by kernel_rfl) (by kernel_rfl)
    (fun x hw => by obtain ⟨k, hk⟩ := h71 x.1 x.2.1 x.2.2.1 hw; exact ⟨k, (ev71  k x).trans hk⟩)
/-! ### strings.IndexByte -/
theorem S145 : SoundF Tryz.prog 145 (.fn (.cons .str (.cons (.int .u8) .nil)) (.cons (.int .i64) .nil) fun x => (s145 x.1 x.2.1, ())) :=
  fn_sound (E := fun k => mkEnv ts145 (fs145 s182)) (H := H145) (fun k => mkEnv_ok ty145 (fun p hp => by
    unfold fs145 at hp
    rcases List.mem_cons.1 hp with rfl | hp
    · exact S182
    cases hp)) mixedOK (by kernel_rfl : Tryz.prog.funcs[145]? = some Tryz.f145) (by kernel_rfl) (by kernel_rfl : Tryz.f145.body = some body145) (by kernel_rfl) (by kernel_rfl)
    (fun x hw => by obtain ⟨k, hk⟩ := h145 x.1 x.2.1 hw; exact ⟨k, (ev145 s182 k x).trans hk⟩)
/-! ### jitney/jitref2.only -/
theorem S94 : SoundF Tryz.prog 94 (.fn (.cons .str (.cons .str .nil)) (.cons .bool .nil) fun x => (s94 x.1 x.2.1, ())) :=
  fn_sound (E := fun k => mkEnv ts94 (fs94 s145)) (H := H94) (fun k => mkEnv_ok ty94 (fun p hp => by
    unfold fs94 at hp
    rcases List.mem_cons.1 hp with rfl | hp
    · exact S145
    cases hp)) mixedOK (by kernel_rfl : Tryz.prog.funcs[94]? = some Tryz.f94) (by kernel_rfl) (by kernel_rfl : Tryz.f94.body = some body94) (by kernel_rfl) (by kernel_rfl)
    (fun x hw => by obtain ⟨k, hk⟩ := h94 x.1 x.2.1 hw; exact ⟨k, (ev94 s145 k x).trans hk⟩)
/-! ### jitney/jitref2.Key -/
theorem S36 : SoundF Tryz.prog 36 (.fn (.cons .str .nil) (.cons .bool .nil) fun x => (s36 x.1, ())) :=
  fn_sound (E := fun k => mkEnv ts36 (fs36 s71 s94)) (H := H36) (fun k => mkEnv_ok ty36 (fun p hp => by
    unfold fs36 at hp
    rcases List.mem_cons.1 hp with rfl | hp
    · exact S71
    rcases List.mem_cons.1 hp with rfl | hp
    · exact S94
    cases hp)) mixedOK (by kernel_rfl : Tryz.prog.funcs[36]? = some Tryz.f36) (by kernel_rfl) (by kernel_rfl : Tryz.f36.body = some body36) (by kernel_rfl) (by kernel_rfl)
    (fun x hw => by obtain ⟨k, hk⟩ := h36 x.1 hw; exact ⟨k, (ev36 s71 s94 k x).trans hk⟩)
/-! ### jitney/jitref2.Moment -/
theorem S37 : SoundF Tryz.prog 37 (.fn (.cons (.int .i64) .nil) (.cons .bool .nil) fun x => (s37 x.1, ())) :=
  fn_sound (E := fun k => mkEnv ts37 (fs37 s71)) (H := H37) (fun k => mkEnv_ok ty37 (fun p hp => by
    unfold fs37 at hp
    rcases List.mem_cons.1 hp with rfl | hp
    · exact S71
    cases hp)) mixedOK (by kernel_rfl : Tryz.prog.funcs[37]? = some Tryz.f37) (by kernel_rfl) (by kernel_rfl : Tryz.f37.body = some body37) (by kernel_rfl) (by kernel_rfl)
    (fun x hw => by obtain ⟨k, hk⟩ := h37 x.1 hw; exact ⟨k, (ev37 s71 k x).trans hk⟩)
/-! ### jitney/jitref2.sign -/
theorem S138 : SoundF Tryz.prog 138 (.fn (.cons (.int .i64) .nil) (.cons (.int .i64) .nil) fun x => (s138 x.1, ())) :=
  fn_sound (E := fun k => mkEnv ts138 (fs138 )) (H := H138) (fun k => mkEnv_ok ty138 (fun p hp => by unfold fs138 at hp; cases hp)) mixedOK (by kernel_rfl : Tryz.prog.funcs[138]? = some Tryz.f138) (by kernel_rfl) (by kernel_rfl : Tryz.f138.body = some body138) (by kernel_rfl) (by kernel_rfl)
    (fun x hw => by obtain ⟨k, hk⟩ := h138 x.1 hw; exact ⟨k, (ev138  k x).trans hk⟩)
/-! ### cmp.isNaN[string] -/
theorem S230 : SoundF Tryz.prog 230 (.fn (.cons .str .nil) (.cons .bool .nil) fun x => (s230 x.1, ())) :=
  fn_sound (E := fun k => mkEnv ts230 (fs230 )) (H := H230) (fun k => mkEnv_ok ty230 (fun p hp => by unfold fs230 at hp; cases hp)) mixedOK (by kernel_rfl : Tryz.prog.funcs[230]? = some Tryz.f230) (by kernel_rfl) (by kernel_rfl : Tryz.f230.body = some body230) (by kernel_rfl) (by kernel_rfl)
    (fun x hw => by obtain ⟨k, hk⟩ := h230 x.1 hw; exact ⟨k, (ev230  k x).trans hk⟩)
/-! ### cmp.Compare[string] -/
theorem S199 : SoundF Tryz.prog 199 (.fn (.cons .str (.cons .str .nil)) (.cons (.int .i64) .nil) fun x => (s199 x.1 x.2.1, ())) :=
  fn_sound (E := fun k => mkEnv ts199 (fs199 s230)) (H := H199) (fun k => mkEnv_ok ty199 (fun p hp => by
    unfold fs199 at hp
    rcases List.mem_cons.1 hp with rfl | hp
    · exact S230
    cases hp)) mixedOK (by kernel_rfl : Tryz.prog.funcs[199]? = some Tryz.f199) (by kernel_rfl) (by kernel_rfl : Tryz.f199.body = some body199) (by kernel_rfl) (by kernel_rfl)
    (fun x hw => by obtain ⟨k, hk⟩ := h199 x.1 x.2.1 hw; exact ⟨k, (ev199 s230 k x).trans hk⟩)
/-! ### slices.Compare[[]string,string] -/
theorem S160 : SoundF Tryz.prog 160 (.fn (.cons (.slice .str) (.cons (.slice .str) .nil)) (.cons (.int .i64) .nil) fun x => (s160 x.1 x.2.1, ())) :=
  fn_sound (E := fun k => mkEnv ts160 (fs160 s199)) (H := H160) (fun k => mkEnv_ok ty160 (fun p hp => by
    unfold fs160 at hp
    rcases List.mem_cons.1 hp with rfl | hp
    · exact S199
    cases hp)) mixedOK (by kernel_rfl : Tryz.prog.funcs[160]? = some Tryz.f160) (by kernel_rfl) (by kernel_rfl : Tryz.f160.body = some body160) (by kernel_rfl) (by kernel_rfl)
    (fun x hw => by obtain ⟨k, hk⟩ := h160 x.1 x.2.1 hw; exact ⟨k, (ev160 s199 k x).trans hk⟩)
/-! ### jitney/jitref2.ratingKey -/
theorem S161 : SoundF Tryz.prog 161 (.fn (.cons (.struct (.cons .str (.cons .str (.cons .str (.cons (.int .i64) (.cons (.int .i64) .nil)))))) .nil) (.cons (.slice .str) .nil) fun x => (s161 x.1, ())) :=
  fn_sound (E := fun k => mkEnv ts161 (fs161 )) (H := H161) (fun k => mkEnv_ok ty161 (fun p hp => by unfold fs161 at hp; cases hp)) mixedOK (by kernel_rfl : Tryz.prog.funcs[161]? = some Tryz.f161) (by kernel_rfl) (by kernel_rfl : Tryz.f161.body = some body161) (by kernel_rfl) (by kernel_rfl)
    (fun x hw => by obtain ⟨k, hk⟩ := h161 x.1 hw; exact ⟨k, (ev161  k x).trans hk⟩)
/-! ### jitney/jitref2.RatingOrder -/
theorem S119 : SoundF Tryz.prog 119 (.fn (.cons (.struct (.cons .str (.cons .str (.cons .str (.cons (.int .i64) (.cons (.int .i64) .nil)))))) (.cons (.struct (.cons .str (.cons .str (.cons .str (.cons (.int .i64) (.cons (.int .i64) .nil)))))) .nil)) (.cons (.int .i64) .nil) fun x => (s119 x.1 x.2.1, ())) :=
  fn_sound (E := fun k => mkEnv ts119 (fs119 s138 s160 s161)) (H := H119) (fun k => mkEnv_ok ty119 (fun p hp => by
    unfold fs119 at hp
    rcases List.mem_cons.1 hp with rfl | hp
    · exact S138
    rcases List.mem_cons.1 hp with rfl | hp
    · exact S160
    rcases List.mem_cons.1 hp with rfl | hp
    · exact S161
    cases hp)) mixedOK (by kernel_rfl : Tryz.prog.funcs[119]? = some Tryz.f119) (by kernel_rfl) (by kernel_rfl : Tryz.f119.body = some body119) (by kernel_rfl) (by kernel_rfl)
    (fun x hw => by obtain ⟨k, hk⟩ := h119 x.1 x.2.1 hw; exact ⟨k, (ev119 s138 s160 s161 k x).trans hk⟩)
/-! ### jitney/jitref2.RatingsFault -/
theorem S53 : SoundF Tryz.prog 53 (.fn (.cons (.slice (.struct (.cons .str (.cons .str (.cons .str (.cons (.int .i64) (.cons (.int .i64) .nil))))))) .nil) (.cons (.int .i64) .nil) fun x => (s53 x.1, ())) :=
  fn_sound (E := fun k => mkEnv ts53 (fs53 s36 s37 s71 s119)) (H := H53) (fun k => mkEnv_ok ty53 (fun p hp => by
    unfold fs53 at hp
    rcases List.mem_cons.1 hp with rfl | hp
    · exact S36
    rcases List.mem_cons.1 hp with rfl | hp
    · exact S37
    rcases List.mem_cons.1 hp with rfl | hp
    · exact S71
    rcases List.mem_cons.1 hp with rfl | hp
    · exact S119
    cases hp)) mixedOK (by kernel_rfl : Tryz.prog.funcs[53]? = some Tryz.f53) (by kernel_rfl) (by kernel_rfl : Tryz.f53.body = some body53) (by kernel_rfl) (by kernel_rfl)
    (fun x hw => by obtain ⟨k, hk⟩ := h53 x.1 hw; exact ⟨k, (ev53 s36 s37 s71 s119 k x).trans hk⟩)
/-! ### strconv.Itoa -/
theorem S107 : SoundF Tryz.prog 107 (.pfn (.cons (.int .i64) .nil) (.cons .str .nil) fun x => s107 x.1) :=
  pfn_sound (E := fun k => mkEnv ts107 (fs107 s155)) (H := H107) (fun k => mkEnv_ok ty107 (fun p hp => by
    unfold fs107 at hp
    rcases List.mem_cons.1 hp with rfl | hp
    · exact S155
    cases hp)) mixedOK (by kernel_rfl : Tryz.prog.funcs[107]? = some Tryz.f107) (by kernel_rfl) (by kernel_rfl : Tryz.f107.body = some body107) (by kernel_rfl) (by kernel_rfl)
    (fun x y hw hy => by obtain ⟨k, hk⟩ := h107 x.1 y hw hy; exact ⟨k, (ev107 s155 k x).trans hk⟩)
/-! ### jitney/jitref2.numbers -/
theorem S105 : SoundF Tryz.prog 105 (.pfn (.cons (.slice (.int .i64)) .nil) (.cons .str .nil) fun x => s105 x.1) :=
  pfn_sound (E := fun k => mkEnv ts105 (fs105 s107 s120)) (H := H105) (fun k => mkEnv_ok ty105 (fun p hp => by
    unfold fs105 at hp
    rcases List.mem_cons.1 hp with rfl | hp
    · exact S107
    rcases List.mem_cons.1 hp with rfl | hp
    · exact S120
    cases hp)) mixedOK (by kernel_rfl : Tryz.prog.funcs[105]? = some Tryz.f105) (by kernel_rfl) (by kernel_rfl : Tryz.f105.body = some body105) (by kernel_rfl) (by kernel_rfl)
    (fun x y hw hy => by obtain ⟨k, hk⟩ := h105 x.1 y hw hy; exact ⟨k, (ev105 s107 s120 k x).trans hk⟩)
/-! ### jitney/jitref2.RatingLines -/
theorem S54 : SoundF Tryz.prog 54 (.pfn (.cons (.slice (.struct (.cons .str (.cons .str (.cons .str (.cons (.int .i64) (.cons (.int .i64) .nil))))))) .nil) (.cons .str .nil) fun x => s54 x.1) :=
  pfn_sound (E := fun k => mkEnv ts54 (fs54 s105 s120)) (H := H54) (fun k => mkEnv_ok ty54 (fun p hp => by
    unfold fs54 at hp
    rcases List.mem_cons.1 hp with rfl | hp
    · exact S105
    rcases List.mem_cons.1 hp with rfl | hp
    · exact S120
    cases hp)) mixedOK (by kernel_rfl : Tryz.prog.funcs[54]? = some Tryz.f54) (by kernel_rfl) (by kernel_rfl : Tryz.f54.body = some body54) (by kernel_rfl) (by kernel_rfl)
    (fun x y hw hy => by obtain ⟨k, hk⟩ := h54 x.1 y hw hy; exact ⟨k, (ev54 s105 s120 k x).trans hk⟩)
/-! ### jitney/base.Out -/
theorem S74 : SoundF Tryz.prog 74 (.fn (.cons (.int .i64) (.cons (.int .i64) (.cons (.int .i64) .nil))) (.cons .bool .nil) fun x => (s74 x.1 x.2.1 x.2.2.1, ())) :=
  fn_sound (E := fun k => mkEnv ts74 (fs74 )) (H := H74) (fun k => mkEnv_ok ty74 (fun p hp => by unfold fs74 at hp; cases hp)) mixedOK (by kernel_rfl : Tryz.prog.funcs[74]? = some Tryz.f74) (by kernel_rfl) (by kernel_rfl : Tryz.f74.body = some body74) (by kernel_rfl) (by kernel_rfl)
    (fun x hw => by obtain ⟨k, hk⟩ := h74 x.1 x.2.1 x.2.2.1 hw; exact ⟨k, (ev74  k x).trans hk⟩)
/-! ### jitney/base.Moment -/
theorem S73 : SoundF Tryz.prog 73 (.fn (.cons (.int .i64) .nil) (.cons .bool .nil) fun x => (s73 x.1, ())) :=
  fn_sound (E := fun k => mkEnv ts73 (fs73 s74)) (H := H73) (fun k => mkEnv_ok ty73 (fun p hp => by
    unfold fs73 at hp
    rcases List.mem_cons.1 hp with rfl | hp
    · exact S74
    cases hp)) mixedOK (by kernel_rfl : Tryz.prog.funcs[73]? = some Tryz.f73) (by kernel_rfl) (by kernel_rfl : Tryz.f73.body = some body73) (by kernel_rfl) (by kernel_rfl)
    (fun x hw => by obtain ⟨k, hk⟩ := h73 x.1 hw; exact ⟨k, (ev73 s74 k x).trans hk⟩)
/-! ### jitney/base.Key -/
theorem S75 : SoundF Tryz.prog 75 (.fn (.cons .str .nil) (.cons .bool .nil) fun x => (s75 x.1, ())) :=
  fn_sound (E := fun k => mkEnv ts75 (fs75 )) (H := H75) (fun k => mkEnv_ok ty75 (fun p hp => by unfold fs75 at hp; cases hp)) mixedOK (by kernel_rfl : Tryz.prog.funcs[75]? = some Tryz.f75) (by kernel_rfl) (by kernel_rfl : Tryz.f75.body = some body75) (by kernel_rfl) (by kernel_rfl)
    (fun x hw => by obtain ⟨k, hk⟩ := h75 x.1 hw; exact ⟨k, (ev75  k x).trans hk⟩)
/-! ### cmp.Or[int] -/
theorem S66 : SoundF Tryz.prog 66 (.fn (.cons (.slice (.int .i64)) .nil) (.cons (.int .i64) .nil) fun x => (s66 x.1, ())) :=
  fn_sound (E := fun k => mkEnv ts66 (fs66 )) (H := H66) (fun k => mkEnv_ok ty66 (fun p hp => by unfold fs66 at hp; cases hp)) mixedOK (by kernel_rfl : Tryz.prog.funcs[66]? = some Tryz.f66) (by kernel_rfl) (by kernel_rfl : Tryz.f66.body = some body66) (by kernel_rfl) (by kernel_rfl)
    (fun x hw => by obtain ⟨k, hk⟩ := h66 x.1 hw; exact ⟨k, (ev66  k x).trans hk⟩)
/-! ### cmp.isNaN[int] -/
theorem S132 : SoundF Tryz.prog 132 (.fn (.cons (.int .i64) .nil) (.cons .bool .nil) fun x => (s132 x.1, ())) :=
  fn_sound (E := fun k => mkEnv ts132 (fs132 )) (H := H132) (fun k => mkEnv_ok ty132 (fun p hp => by unfold fs132 at hp; cases hp)) mixedOK (by kernel_rfl : Tryz.prog.funcs[132]? = some Tryz.f132) (by kernel_rfl) (by kernel_rfl : Tryz.f132.body = some body132) (by kernel_rfl) (by kernel_rfl)
    (fun x hw => by obtain ⟨k, hk⟩ := h132 x.1 hw; exact ⟨k, (ev132  k x).trans hk⟩)
/-! ### cmp.Compare[int] -/
theorem S67 : SoundF Tryz.prog 67 (.fn (.cons (.int .i64) (.cons (.int .i64) .nil)) (.cons (.int .i64) .nil) fun x => (s67 x.1 x.2.1, ())) :=
  fn_sound (E := fun k => mkEnv ts67 (fs67 s132)) (H := H67) (fun k => mkEnv_ok ty67 (fun p hp => by
    unfold fs67 at hp
    rcases List.mem_cons.1 hp with rfl | hp
    · exact S132
    cases hp)) mixedOK (by kernel_rfl : Tryz.prog.funcs[67]? = some Tryz.f67) (by kernel_rfl) (by kernel_rfl : Tryz.f67.body = some body67) (by kernel_rfl) (by kernel_rfl)
    (fun x hw => by obtain ⟨k, hk⟩ := h67 x.1 x.2.1 hw; exact ⟨k, (ev67 s132 k x).trans hk⟩)
/-! ### strings.Compare -/
theorem S68 : SoundF Tryz.prog 68 (.fn (.cons .str (.cons .str .nil)) (.cons (.int .i64) .nil) fun x => (s68 x.1 x.2.1, ())) :=
  fn_sound (E := fun k => mkEnv ts68 (fs68 s133)) (H := H68) (fun k => mkEnv_ok ty68 (fun p hp => by
    unfold fs68 at hp
    rcases List.mem_cons.1 hp with rfl | hp
    · exact S133
    cases hp)) mixedOK (by kernel_rfl : Tryz.prog.funcs[68]? = some Tryz.f68) (by kernel_rfl) (by kernel_rfl : Tryz.f68.body = some body68) (by kernel_rfl) (by kernel_rfl)
    (fun x hw => by obtain ⟨k, hk⟩ := h68 x.1 x.2.1 hw; exact ⟨k, (ev68 s133 k x).trans hk⟩)
/-! ### jitney/trust.sameWords -/
theorem S201 : SoundF Tryz.prog 201 (.fn (.cons (.struct (.cons .str (.cons .str (.cons .str (.cons (.int .i64) (.cons (.int .i64) .nil)))))) (.cons (.struct (.cons .str (.cons .str (.cons .str (.cons (.int .i64) (.cons (.int .i64) .nil)))))) .nil)) (.cons (.int .i64) .nil) fun x => (s201 x.1 x.2.1, ())) :=
  fn_sound (E := fun k => mkEnv ts201 (fs201 s66 s68)) (H := H201) (fun k => mkEnv_ok ty201 (fun p hp => by
    unfold fs201 at hp
    rcases List.mem_cons.1 hp with rfl | hp
    · exact S66
    rcases List.mem_cons.1 hp with rfl | hp
    · exact S68
    cases hp)) mixedOK (by kernel_rfl : Tryz.prog.funcs[201]? = some Tryz.f201) (by kernel_rfl) (by kernel_rfl : Tryz.f201.body = some body201) (by kernel_rfl) (by kernel_rfl)
    (fun x hw => by obtain ⟨k, hk⟩ := h201 x.1 x.2.1 hw; exact ⟨k, (ev201 s66 s68 k x).trans hk⟩)
/-! ### jitney/trust.byRating -/
theorem S163 : SoundF Tryz.prog 163 (.fn (.cons (.struct (.cons .str (.cons .str (.cons .str (.cons (.int .i64) (.cons (.int .i64) .nil)))))) (.cons (.struct (.cons .str (.cons .str (.cons .str (.cons (.int .i64) (.cons (.int .i64) .nil)))))) .nil)) (.cons (.int .i64) .nil) fun x => (s163 x.1 x.2.1, ())) :=
  fn_sound (E := fun k => mkEnv ts163 (fs163 s66 s67 s201)) (H := H163) (fun k => mkEnv_ok ty163 (fun p hp => by
    unfold fs163 at hp
    rcases List.mem_cons.1 hp with rfl | hp
    · exact S66
    rcases List.mem_cons.1 hp with rfl | hp
    · exact S67
    rcases List.mem_cons.1 hp with rfl | hp
    · exact S201
    cases hp)) mixedOK (by kernel_rfl : Tryz.prog.funcs[163]? = some Tryz.f163) (by kernel_rfl) (by kernel_rfl : Tryz.f163.body = some body163) (by kernel_rfl) (by kernel_rfl)
    (fun x hw => by obtain ⟨k, hk⟩ := h163 x.1 x.2.1 hw; exact ⟨k, (ev163 s66 s67 s201 k x).trans hk⟩)
/-! ### jitney/trust.CheckRatings -/
theorem S121 : SoundF Tryz.prog 121 (.fn (.cons (.slice (.struct (.cons .str (.cons .str (.cons .str (.cons (.int .i64) (.cons (.int .i64) .nil))))))) .nil) (.cons (.int .i64) .nil) fun x => (s121 x.1, ())) :=
  fn_sound (E := fun k => mkEnv ts121 (fs121 s73 s74 s75 s163)) (H := H121) (fun k => mkEnv_ok ty121 (fun p hp => by
    unfold fs121 at hp
    rcases List.mem_cons.1 hp with rfl | hp
    · exact S73
    rcases List.mem_cons.1 hp with rfl | hp
    · exact S74
    rcases List.mem_cons.1 hp with rfl | hp
    · exact S75
    rcases List.mem_cons.1 hp with rfl | hp
    · exact S163
    cases hp)) mixedOK (by kernel_rfl : Tryz.prog.funcs[121]? = some Tryz.f121) (by kernel_rfl) (by kernel_rfl : Tryz.f121.body = some body121) (by kernel_rfl) (by kernel_rfl)
    (fun x hw => by obtain ⟨k, hk⟩ := h121 x.1 hw; exact ⟨k, (ev121 s73 s74 s75 s163 k x).trans hk⟩)
/-! ### jitney/trust.Text -/
theorem SI55_106 (k : Nat) : SoundF Tryz.prog 106 (.ev (mkEnv tsi55_106 (fsi55_106 s107 s121 k)) Hi55_106 k bodyi55_106 19 [.tmp 4, .tmp 5]) :=
  ev_inline (mkEnv_ok tyi55_106 (fun p hp => by
    unfold fsi55_106 at hp
    rcases List.mem_cons.1 hp with rfl | hp
    · exact S154
    cases hp)) mixedOK (by kernel_rfl : Tryz.prog.funcs[106]? = some Tryz.f106) (by kernel_rfl) (by kernel_rfl : Tryz.f106.body = some bodyi55_106) (by kernel_rfl) (by kernel_rfl)
theorem SI55_108 (k : Nat) : SoundF Tryz.prog 108 (.ev (mkEnv tsi55_108 (fsi55_108 s107 s121 k)) Hi55_108 k bodyi55_108 8 [.tmp 2]) :=
  ev_inline (mkEnv_ok tyi55_108 (fun p hp => by unfold fsi55_108 at hp; cases hp)) mixedOK (by kernel_rfl : Tryz.prog.funcs[108]? = some Tryz.f108) (by kernel_rfl) (by kernel_rfl : Tryz.f108.body = some bodyi55_108) (by kernel_rfl) (by kernel_rfl)
theorem S55 : SoundF Tryz.prog 55 (.pfn (.cons (.slice (.struct (.cons .str (.cons .str (.cons .str (.cons (.int .i64) (.cons (.int .i64) .nil))))))) .nil) (.cons .str (.cons (.int .i64) .nil)) fun x => s55 x.1) :=
  pfn_sound (E := fun k => mkEnv ts55 (fs55 s107 s121 k)) (H := H55) (fun k => mkEnv_ok ty55 (fun p hp => by
    unfold fs55 at hp
    rcases List.mem_cons.1 hp with rfl | hp
    · exact SI55_106 k
    rcases List.mem_cons.1 hp with rfl | hp
    · exact S107
    rcases List.mem_cons.1 hp with rfl | hp
    · exact SI55_108 k
    rcases List.mem_cons.1 hp with rfl | hp
    · exact S109
    rcases List.mem_cons.1 hp with rfl | hp
    · exact S121
    cases hp)) mixedOK (by kernel_rfl : Tryz.prog.funcs[55]? = some Tryz.f55) (by kernel_rfl) (by kernel_rfl : Tryz.f55.body = some body55) (by kernel_rfl) (by kernel_rfl)
    (fun x y hw hy => by obtain ⟨k, hk⟩ := h55 x.1 y hw hy; exact ⟨k, (ev55 s107 s121 k x).trans hk⟩)
set_option maxHeartbeats 2000000 in
theorem walk56 (a : Option Addr) (c : Nat) (w : World) : Calls Tryz.prog 56 #[.slice a 0 c] w fun e w' => ∃ a' c', e = .returned (.slice a' 0 c') ∧ c' ≤ 9223372036854775807 ∧ Keep None w w' := by
  have q : ∀ (w : World) (a : Option Addr) (n c n' c' : Nat), (binOp .eql 101 (.slice a n c) (.slice none n' c')).run Tryz.prog w = .ok (.bool a.isNone) w := fun w a n c n' c' => Lib.run_eql_slice_nil w _ _ a n c n' c' Tryz.underlying101
  cases a with
  | none =>
    go_enter Tryz.func56, Tryz.ntmps56
    go_wp2
    go_ret
    exact ⟨none, 0, rfl, by omega, Keep.refl _ _⟩
  | some a =>
    go_enter Tryz.func56, Tryz.ntmps56
    go_wp2
    go_ret
    exact ⟨_, _, rfl, by omega, Keep.alloc _ _ _ _⟩
theorem cl56 (xs : List (ByteArray × ByteArray × ByteArray × Int × Int × Unit)) (hne : xs ≠ []) (hl : xs.length ≤ 4294967296) : f56 0 xs = some (xs, ()) := by
  cases xs with
  | nil => exact absurd rfl hne
  | cons z l =>
    have h2 : decide (List.length ([] : List (ByteArray × ByteArray × ByteArray × Int × Int × Unit)) + List.length (z :: l) ≤ 4294967296) = true := by simpa using hl
    unfold f56
    rw [show Nat.ble (List.length (z :: l)) 0 = false from rfl, h2]
    rfl
theorem S56 : SoundF Tryz.prog 56 (.pfn (.cons (.slice (.struct (.cons .str (.cons .str (.cons .str (.cons (.int .i64) (.cons (.int .i64) .nil))))))) .nil) (.cons (.slice (.struct (.cons .str (.cons .str (.cons .str (.cons (.int .i64) (.cons (.int .i64) .nil))))))) .nil) fun x => s56 x.1) := by
  intro ρ args objs K r hr
  exact clone_sound (T := (.struct (.cons .str (.cons .str (.cons .str (.cons (.int .i64) (.cons (.int .i64) .nil))))))) (g1 := fun x => f56 0 x.1) (pfn_sound (E := fun _ => mkEnv ts56 fs56) (H := H56) (fun _ => mkEnv_ok ty56 (fun p hp => by unfold fs56 at hp; cases hp)) mixedOK (by kernel_rfl : Tryz.prog.funcs[56]? = some Tryz.f56) (by kernel_rfl) (by kernel_rfl : Tryz.f56.body = some body56) (by kernel_rfl) (by kernel_rfl) (fun x y hw hy => ⟨0, (ev56 0 x).trans hy⟩)) (enters_of (by kernel_rfl : Tryz.prog.funcs[56]? = some Tryz.f56) (by kernel_rfl) (by kernel_rfl : Tryz.f56.body = some body56))
    (fun xs hne hl => cl56 xs hne hl) walk56 args objs K r hr
/-! ### jitney/base.Words -/
theorem S112 : SoundF Tryz.prog 112 (.pfn (.cons .str (.cons (.int .i64) .nil)) (.cons (.slice .str) (.cons .bool .nil)) fun x => s112 x.1 x.2.1) :=
  pfn_sound (E := fun k => mkEnv ts112 (fs112 s116)) (H := H112) (fun k => mkEnv_ok ty112 (fun p hp => by
    unfold fs112 at hp
    rcases List.mem_cons.1 hp with rfl | hp
    · exact S116
    cases hp)) mixedOK (by kernel_rfl : Tryz.prog.funcs[112]? = some Tryz.f112) (by kernel_rfl) (by kernel_rfl : Tryz.f112.body = some body112) (by kernel_rfl) (by kernel_rfl)
    (fun x y hw hy => by obtain ⟨k, hk⟩ := h112 x.1 x.2.1 y hw hy; exact ⟨k, (ev112 s116 k x).trans hk⟩)
/-! ### internal/stringslite.HasPrefix -/
theorem S206 : SoundF Tryz.prog 206 (.fn (.cons .str (.cons .str .nil)) (.cons .bool .nil) fun x => (s206 x.1 x.2.1, ())) :=
  fn_sound (E := fun k => mkEnv ts206 (fs206 )) (H := H206) (fun k => mkEnv_ok ty206 (fun p hp => by unfold fs206 at hp; cases hp)) mixedOK (by kernel_rfl : Tryz.prog.funcs[206]? = some Tryz.f206) (by kernel_rfl) (by kernel_rfl : Tryz.f206.body = some body206) (by kernel_rfl) (by kernel_rfl)
    (fun x hw => by obtain ⟨k, hk⟩ := h206 x.1 x.2.1 hw; exact ⟨k, (ev206  k x).trans hk⟩)
/-! ### internal/stringslite.TrimPrefix -/
theorem S183 : SoundF Tryz.prog 183 (.fn (.cons .str (.cons .str .nil)) (.cons .str .nil) fun x => (s183 x.1 x.2.1, ())) :=
  fn_sound (E := fun k => mkEnv ts183 (fs183 s206)) (H := H183) (fun k => mkEnv_ok ty183 (fun p hp => by
    unfold fs183 at hp
    rcases List.mem_cons.1 hp with rfl | hp
    · exact S206
    cases hp)) mixedOK (by kernel_rfl : Tryz.prog.funcs[183]? = some Tryz.f183) (by kernel_rfl) (by kernel_rfl : Tryz.f183.body = some body183) (by kernel_rfl) (by kernel_rfl)
    (fun x hw => by obtain ⟨k, hk⟩ := h183 x.1 x.2.1 hw; exact ⟨k, (ev183 s206 k x).trans hk⟩)
/-! ### strings.TrimPrefix -/
theorem S146 : SoundF Tryz.prog 146 (.fn (.cons .str (.cons .str .nil)) (.cons .str .nil) fun x => (s146 x.1 x.2.1, ())) :=
  fn_sound (E := fun k => mkEnv ts146 (fs146 s183)) (H := H146) (fun k => mkEnv_ok ty146 (fun p hp => by
    unfold fs146 at hp
    rcases List.mem_cons.1 hp with rfl | hp
    · exact S183
    cases hp)) mixedOK (by kernel_rfl : Tryz.prog.funcs[146]? = some Tryz.f146) (by kernel_rfl) (by kernel_rfl : Tryz.f146.body = some body146) (by kernel_rfl) (by kernel_rfl)
    (fun x hw => by obtain ⟨k, hk⟩ := h146 x.1 x.2.1 hw; exact ⟨k, (ev146 s183 k x).trans hk⟩)
/-! ### jitney/base.Number -/
theorem S139 : SoundF Tryz.prog 139 (.pfn (.cons .str (.cons (.int .i64) .nil)) (.cons (.int .i64) (.cons .bool .nil)) fun x => s139 x.1 x.2.1) :=
  pfn_sound (E := fun k => mkEnv ts139 (fs139 s146)) (H := H139) (fun k => mkEnv_ok ty139 (fun p hp => by
    unfold fs139 at hp
    rcases List.mem_cons.1 hp with rfl | hp
    · exact S146
    rcases List.mem_cons.1 hp with rfl | hp
    · exact S147
    cases hp)) mixedOK (by kernel_rfl : Tryz.prog.funcs[139]? = some Tryz.f139) (by kernel_rfl) (by kernel_rfl : Tryz.f139.body = some body139) (by kernel_rfl) (by kernel_rfl)
    (fun x y hw hy => by obtain ⟨k, hk⟩ := h139 x.1 x.2.1 y hw hy; exact ⟨k, (ev139 s146 k x).trans hk⟩)
/-! ### jitney/base.Numbers -/
theorem S113 : SoundF Tryz.prog 113 (.pfn (.cons (.slice .str) (.cons (.int .i64) .nil)) (.cons (.slice (.int .i64)) (.cons .bool .nil)) fun x => s113 x.1 x.2.1) :=
  pfn_sound (E := fun k => mkEnv ts113 (fs113 s139)) (H := H113) (fun k => mkEnv_ok ty113 (fun p hp => by
    unfold fs113 at hp
    rcases List.mem_cons.1 hp with rfl | hp
    · exact S139
    cases hp)) mixedOK (by kernel_rfl : Tryz.prog.funcs[113]? = some Tryz.f113) (by kernel_rfl) (by kernel_rfl : Tryz.f113.body = some body113) (by kernel_rfl) (by kernel_rfl)
    (fun x y hw hy => by obtain ⟨k, hk⟩ := h113 x.1 x.2.1 y hw hy; exact ⟨k, (ev113 s139 k x).trans hk⟩)
/-! ### internal/stringslite.HasSuffix -/
theorem S244 : SoundF Tryz.prog 244 (.fn (.cons .str (.cons .str .nil)) (.cons .bool .nil) fun x => (s244 x.1 x.2.1, ())) :=
  fn_sound (E := fun k => mkEnv ts244 (fs244 )) (H := H244) (fun k => mkEnv_ok ty244 (fun p hp => by unfold fs244 at hp; cases hp)) mixedOK (by kernel_rfl : Tryz.prog.funcs[244]? = some Tryz.f244) (by kernel_rfl) (by kernel_rfl : Tryz.f244.body = some body244) (by kernel_rfl) (by kernel_rfl)
    (fun x hw => by obtain ⟨k, hk⟩ := h244 x.1 x.2.1 hw; exact ⟨k, (ev244  k x).trans hk⟩)
/-! ### internal/stringslite.CutSuffix -/
theorem S225 : SoundF Tryz.prog 225 (.fn (.cons .str (.cons .str .nil)) (.cons .str (.cons .bool .nil)) fun x => s225 x.1 x.2.1) :=
  fn_sound (E := fun k => mkEnv ts225 (fs225 s244)) (H := H225) (fun k => mkEnv_ok ty225 (fun p hp => by
    unfold fs225 at hp
    rcases List.mem_cons.1 hp with rfl | hp
    · exact S244
    cases hp)) mixedOK (by kernel_rfl : Tryz.prog.funcs[225]? = some Tryz.f225) (by kernel_rfl) (by kernel_rfl : Tryz.f225.body = some body225) (by kernel_rfl) (by kernel_rfl)
    (fun x hw => by obtain ⟨k, hk⟩ := h225 x.1 x.2.1 hw; exact ⟨k, (ev225 s244 k x).trans hk⟩)
/-! ### strings.CutSuffix -/
theorem S194 : SoundF Tryz.prog 194 (.fn (.cons .str (.cons .str .nil)) (.cons .str (.cons .bool .nil)) fun x => s194 x.1 x.2.1) :=
  fn_sound (E := fun k => mkEnv ts194 (fs194 s225)) (H := H194) (fun k => mkEnv_ok ty194 (fun p hp => by
    unfold fs194 at hp
    rcases List.mem_cons.1 hp with rfl | hp
    · exact S225
    cases hp)) mixedOK (by kernel_rfl : Tryz.prog.funcs[194]? = some Tryz.f194) (by kernel_rfl) (by kernel_rfl : Tryz.f194.body = some body194) (by kernel_rfl) (by kernel_rfl)
    (fun x hw => by obtain ⟨k, hk⟩ := h194 x.1 x.2.1 hw; exact ⟨k, (ev194 s225 k x).trans hk⟩)
/-! ### jitney/base.Lines -/
theorem S156 : SoundF Tryz.prog 156 (.pfn (.cons .str .nil) (.cons (.slice .str) (.cons .bool .nil)) fun x => s156 x.1) :=
  pfn_sound (E := fun k => mkEnv ts156 (fs156 s116 s194)) (H := H156) (fun k => mkEnv_ok ty156 (fun p hp => by
    unfold fs156 at hp
    rcases List.mem_cons.1 hp with rfl | hp
    · exact S116
    rcases List.mem_cons.1 hp with rfl | hp
    · exact S194
    cases hp)) mixedOK (by kernel_rfl : Tryz.prog.funcs[156]? = some Tryz.f156) (by kernel_rfl) (by kernel_rfl : Tryz.f156.body = some body156) (by kernel_rfl) (by kernel_rfl)
    (fun x y hw hy => by obtain ⟨k, hk⟩ := h156 x.1 y hw hy; exact ⟨k, (ev156 s116 s194 k x).trans hk⟩)
/-! ### jitney/trust.Read -/
theorem SI57_122 (k : Nat) : SoundF Tryz.prog 122 (.ev (mkEnv tsi57_122 (fsi57_122 s112 s113 s121 s156 k)) Hi57_122 k bodyi57_122 41 [.tmp 3]) :=
  ev_inline (mkEnv_ok tyi57_122 (fun p hp => by
    unfold fsi57_122 at hp
    rcases List.mem_cons.1 hp with rfl | hp
    · exact S112
    rcases List.mem_cons.1 hp with rfl | hp
    · exact S113
    cases hp)) mixedOK (by kernel_rfl : Tryz.prog.funcs[122]? = some Tryz.f122) (by kernel_rfl) (by kernel_rfl : Tryz.f122.body = some bodyi57_122) (by kernel_rfl) (by kernel_rfl)
theorem SI57_110 (k : Nat) : SoundF Tryz.prog 110 (.ev (mkEnv tsi57_110 (fsi57_110 s112 s113 s121 s156 k)) Hi57_110 k bodyi57_110 39 [.tmp 4, .tmp 5]) :=
  ev_inline (mkEnv_ok tyi57_110 (fun p hp => by
    unfold fsi57_110 at hp
    rcases List.mem_cons.1 hp with rfl | hp
    · exact SI57_122 k
    rcases List.mem_cons.1 hp with rfl | hp
    · exact S156
    cases hp)) mixedOK (by kernel_rfl : Tryz.prog.funcs[110]? = some Tryz.f110) (by kernel_rfl) (by kernel_rfl : Tryz.f110.body = some bodyi57_110) (by kernel_rfl) (by kernel_rfl)
theorem S57 : SoundF Tryz.prog 57 (.pfn (.cons .str .nil) (.cons (.slice (.struct (.cons .str (.cons .str (.cons .str (.cons (.int .i64) (.cons (.int .i64) .nil))))))) (.cons (.int .i64) (.cons (.int .i64) .nil))) fun x => s57 x.1) :=
  pfn_sound (E := fun k => mkEnv ts57 (fs57 s112 s113 s121 s156 k)) (H := H57) (fun k => mkEnv_ok ty57 (fun p hp => by
    unfold fs57 at hp
    rcases List.mem_cons.1 hp with rfl | hp
    · exact SI57_110 k
    rcases List.mem_cons.1 hp with rfl | hp
    · exact S121
    cases hp)) mixedOK (by kernel_rfl : Tryz.prog.funcs[57]? = some Tryz.f57) (by kernel_rfl) (by kernel_rfl : Tryz.f57.body = some body57) (by kernel_rfl) (by kernel_rfl)
    (fun x y hw hy => by obtain ⟨k, hk⟩ := h57 x.1 y hw hy; exact ⟨k, (ev57 s112 s113 s121 s156 k x).trans hk⟩)
/-! ### jitney/jitref2.Number -/
theorem S95 : SoundF Tryz.prog 95 (.pfn (.cons .str (.cons (.int .i64) .nil)) (.cons (.int .i64) (.cons .bool .nil)) fun x => s95 x.1 x.2.1) :=
  pfn_sound (E := fun k => mkEnv ts95 (fs95 s94 s107 s146)) (H := H95) (fun k => mkEnv_ok ty95 (fun p hp => by
    unfold fs95 at hp
    rcases List.mem_cons.1 hp with rfl | hp
    · exact S94
    rcases List.mem_cons.1 hp with rfl | hp
    · exact S107
    rcases List.mem_cons.1 hp with rfl | hp
    · exact S146
    rcases List.mem_cons.1 hp with rfl | hp
    · exact S147
    cases hp)) mixedOK (by kernel_rfl : Tryz.prog.funcs[95]? = some Tryz.f95) (by kernel_rfl) (by kernel_rfl : Tryz.f95.body = some body95) (by kernel_rfl) (by kernel_rfl)
    (fun x y hw hy => by obtain ⟨k, hk⟩ := h95 x.1 x.2.1 y hw hy; exact ⟨k, (ev95 s94 s107 s146 k x).trans hk⟩)
/-! ### jitney/jitref2.numbersIn -/
theorem S118 : SoundF Tryz.prog 118 (.pfn (.cons (.slice .str) (.cons (.int .i64) .nil)) (.cons (.slice (.int .i64)) (.cons .bool .nil)) fun x => s118 x.1 x.2.1) :=
  pfn_sound (E := fun k => mkEnv ts118 (fs118 s95)) (H := H118) (fun k => mkEnv_ok ty118 (fun p hp => by
    unfold fs118 at hp
    rcases List.mem_cons.1 hp with rfl | hp
    · exact S95
    cases hp)) mixedOK (by kernel_rfl : Tryz.prog.funcs[118]? = some Tryz.f118) (by kernel_rfl) (by kernel_rfl : Tryz.f118.body = some body118) (by kernel_rfl) (by kernel_rfl)
    (fun x y hw hy => by obtain ⟨k, hk⟩ := h118 x.1 x.2.1 y hw hy; exact ⟨k, (ev118 s95 k x).trans hk⟩)
/-! ### slices.Index[[]string,string] -/
theorem S159 : SoundF Tryz.prog 159 (.fn (.cons (.slice .str) (.cons .str .nil)) (.cons (.int .i64) .nil) fun x => (s159 x.1 x.2.1, ())) :=
  fn_sound (E := fun k => mkEnv ts159 (fs159 )) (H := H159) (fun k => mkEnv_ok ty159 (fun p hp => by unfold fs159 at hp; cases hp)) mixedOK (by kernel_rfl : Tryz.prog.funcs[159]? = some Tryz.f159) (by kernel_rfl) (by kernel_rfl : Tryz.f159.body = some body159) (by kernel_rfl) (by kernel_rfl)
    (fun x hw => by obtain ⟨k, hk⟩ := h159 x.1 x.2.1 hw; exact ⟨k, (ev159  k x).trans hk⟩)
/-! ### slices.Contains[[]string,string] -/
theorem S117 : SoundF Tryz.prog 117 (.fn (.cons (.slice .str) (.cons .str .nil)) (.cons .bool .nil) fun x => (s117 x.1 x.2.1, ())) :=
  fn_sound (E := fun k => mkEnv ts117 (fs117 s159)) (H := H117) (fun k => mkEnv_ok ty117 (fun p hp => by
    unfold fs117 at hp
    rcases List.mem_cons.1 hp with rfl | hp
    · exact S159
    cases hp)) mixedOK (by kernel_rfl : Tryz.prog.funcs[117]? = some Tryz.f117) (by kernel_rfl) (by kernel_rfl : Tryz.f117.body = some body117) (by kernel_rfl) (by kernel_rfl)
    (fun x hw => by obtain ⟨k, hk⟩ := h117 x.1 x.2.1 hw; exact ⟨k, (ev117 s159 k x).trans hk⟩)
/-! ### jitney/jitref2.Words -/
theorem S124 : SoundF Tryz.prog 124 (.pfn (.cons .str .nil) (.cons (.slice .str) (.cons .bool .nil)) fun x => s124 x.1) :=
  pfn_sound (E := fun k => mkEnv ts124 (fs124 s116 s117)) (H := H124) (fun k => mkEnv_ok ty124 (fun p hp => by
    unfold fs124 at hp
    rcases List.mem_cons.1 hp with rfl | hp
    · exact S116
    rcases List.mem_cons.1 hp with rfl | hp
    · exact S117
    cases hp)) mixedOK (by kernel_rfl : Tryz.prog.funcs[124]? = some Tryz.f124) (by kernel_rfl) (by kernel_rfl : Tryz.f124.body = some body124) (by kernel_rfl) (by kernel_rfl)
    (fun x y hw hy => by obtain ⟨k, hk⟩ := h124 x.1 y hw hy; exact ⟨k, (ev124 s116 s117 k x).trans hk⟩)
/-! ### jitney/jitref2.RatingsRead -/
theorem SI58_123 (k : Nat) : SoundF Tryz.prog 123 (.ev (mkEnv tsi58_123 (fsi58_123 s53 s118 s124 s157 k)) Hi58_123 k bodyi58_123 46 [.tmp 3]) :=
  ev_inline (mkEnv_ok tyi58_123 (fun p hp => by
    unfold fsi58_123 at hp
    rcases List.mem_cons.1 hp with rfl | hp
    · exact S118
    rcases List.mem_cons.1 hp with rfl | hp
    · exact S124
    cases hp)) mixedOK (by kernel_rfl : Tryz.prog.funcs[123]? = some Tryz.f123) (by kernel_rfl) (by kernel_rfl : Tryz.f123.body = some bodyi58_123) (by kernel_rfl) (by kernel_rfl)
theorem SI58_114 (k : Nat) : SoundF Tryz.prog 114 (.ev (mkEnv tsi58_114 (fsi58_114 s53 s118 s124 s157 k)) Hi58_114 k bodyi58_114 30 [.tmp 4, .tmp 5]) :=
  ev_inline (mkEnv_ok tyi58_114 (fun p hp => by
    unfold fsi58_114 at hp
    rcases List.mem_cons.1 hp with rfl | hp
    · exact SI58_123 k
    rcases List.mem_cons.1 hp with rfl | hp
    · exact S157
    cases hp)) mixedOK (by kernel_rfl : Tryz.prog.funcs[114]? = some Tryz.f114) (by kernel_rfl) (by kernel_rfl : Tryz.f114.body = some bodyi58_114) (by kernel_rfl) (by kernel_rfl)
theorem S58 : SoundF Tryz.prog 58 (.pfn (.cons .str .nil) (.cons (.slice (.struct (.cons .str (.cons .str (.cons .str (.cons (.int .i64) (.cons (.int .i64) .nil))))))) (.cons (.int .i64) (.cons (.int .i64) .nil))) fun x => s58 x.1) :=
  pfn_sound (E := fun k => mkEnv ts58 (fs58 s53 s118 s124 s157 k)) (H := H58) (fun k => mkEnv_ok ty58 (fun p hp => by
    unfold fs58 at hp
    rcases List.mem_cons.1 hp with rfl | hp
    · exact S53
    rcases List.mem_cons.1 hp with rfl | hp
    · exact SI58_114 k
    cases hp)) mixedOK (by kernel_rfl : Tryz.prog.funcs[58]? = some Tryz.f58) (by kernel_rfl) (by kernel_rfl : Tryz.f58.body = some body58) (by kernel_rfl) (by kernel_rfl)
    (fun x y hw hy => by obtain ⟨k, hk⟩ := h58 x.1 y hw hy; exact ⟨k, (ev58 s53 s118 s124 s157 k x).trans hk⟩)
/-! ### slices.Equal[[]jitney/api.Rating,jitney/api.Rating] -/
theorem S59 : SoundF Tryz.prog 59 (.fn (.cons (.slice (.struct (.cons .str (.cons .str (.cons .str (.cons (.int .i64) (.cons (.int .i64) .nil))))))) (.cons (.slice (.struct (.cons .str (.cons .str (.cons .str (.cons (.int .i64) (.cons (.int .i64) .nil))))))) .nil)) (.cons .bool .nil) fun x => (s59 x.1 x.2.1, ())) :=
  fn_sound (E := fun k => mkEnv ts59 (fs59 )) (H := H59) (fun k => mkEnv_ok ty59 (fun p hp => by unfold fs59 at hp; cases hp)) mixedOK (by kernel_rfl : Tryz.prog.funcs[59]? = some Tryz.f59) (by kernel_rfl) (by kernel_rfl : Tryz.f59.body = some body59) (by kernel_rfl) (by kernel_rfl)
    (fun x hw => by obtain ⟨k, hk⟩ := h59 x.1 x.2.1 hw; exact ⟨k, (ev59  k x).trans hk⟩)
/-! ### jitney/base.First -/
theorem S69 : SoundF Tryz.prog 69 (.fn (.cons (.slice (.int .i64)) .nil) (.cons (.int .i64) .nil) fun x => (s69 x.1, ())) :=
  fn_sound (E := fun k => mkEnv ts69 (fs69 )) (H := H69) (fun k => mkEnv_ok ty69 (fun p hp => by unfold fs69 at hp; cases hp)) mixedOK (by kernel_rfl : Tryz.prog.funcs[69]? = some Tryz.f69) (by kernel_rfl) (by kernel_rfl : Tryz.f69.body = some body69) (by kernel_rfl) (by kernel_rfl)
    (fun x hw => by obtain ⟨k, hk⟩ := h69 x.1 hw; exact ⟨k, (ev69  k x).trans hk⟩)
/-! ### jitney/trust.faithFault -/
theorem S164 : SoundF Tryz.prog 164 (.fn (.cons (.struct (.cons (.int .i64) (.cons (.int .i64) (.cons (.int .i64) .nil)))) .nil) (.cons (.int .i64) .nil) fun x => (s164 x.1, ())) :=
  fn_sound (E := fun k => mkEnv ts164 (fs164 s74)) (H := H164) (fun k => mkEnv_ok ty164 (fun p hp => by
    unfold fs164 at hp
    rcases List.mem_cons.1 hp with rfl | hp
    · exact S74
    cases hp)) mixedOK (by kernel_rfl : Tryz.prog.funcs[164]? = some Tryz.f164) (by kernel_rfl) (by kernel_rfl : Tryz.f164.body = some body164) (by kernel_rfl) (by kernel_rfl)
    (fun x hw => by obtain ⟨k, hk⟩ := h164 x.1 hw; exact ⟨k, (ev164 s74 k x).trans hk⟩)
/-! ### jitney/trust.counting -/
theorem S202 : SoundF Tryz.prog 202 (.pfn (.cons (.slice (.struct (.cons .str (.cons .str (.cons .str (.cons (.int .i64) (.cons (.int .i64) .nil))))))) (.cons (.int .i64) .nil)) (.cons (.slice (.struct (.cons .str (.cons .str (.cons .str (.cons (.int .i64) (.cons (.int .i64) .nil))))))) .nil) fun x => s202 x.1 x.2.1) :=
  pfn_sound (E := fun k => mkEnv ts202 (fs202 s201)) (H := H202) (fun k => mkEnv_ok ty202 (fun p hp => by
    unfold fs202 at hp
    rcases List.mem_cons.1 hp with rfl | hp
    · exact S201
    cases hp)) mixedOK (by kernel_rfl : Tryz.prog.funcs[202]? = some Tryz.f202) (by kernel_rfl) (by kernel_rfl : Tryz.f202.body = some body202) (by kernel_rfl) (by kernel_rfl)
    (fun x y hw hy => by obtain ⟨k, hk⟩ := h202 x.1 x.2.1 y hw hy; exact ⟨k, (ev202 s201 k x).trans hk⟩)
/-! ### jitney/base.Gcd -/
theorem S232 : SoundF Tryz.prog 232 (.pfn (.cons (.int .i64) (.cons (.int .i64) .nil)) (.cons (.int .i64) .nil) fun x => s232 x.1 x.2.1) :=
  pfn_sound (E := fun k => mkEnv ts232 (fs232 )) (H := H232) (fun k => mkEnv_ok ty232 (fun p hp => by unfold fs232 at hp; cases hp)) mixedOK (by kernel_rfl : Tryz.prog.funcs[232]? = some Tryz.f232) (by kernel_rfl) (by kernel_rfl : Tryz.f232.body = some body232) (by kernel_rfl) (by kernel_rfl)
    (fun x y hw hy => by obtain ⟨k, hk⟩ := h232 x.1 x.2.1 y hw hy; exact ⟨k, (ev232  k x).trans hk⟩)
/-! ### jitney/base.Fraction -/
theorem S203 : SoundF Tryz.prog 203 (.pfn (.cons (.int .i64) (.cons (.int .i64) .nil)) (.cons (.struct (.cons (.int .i64) (.cons (.int .i64) .nil))) .nil) fun x => s203 x.1 x.2.1) :=
  pfn_sound (E := fun k => mkEnv ts203 (fs203 s232)) (H := H203) (fun k => mkEnv_ok ty203 (fun p hp => by
    unfold fs203 at hp
    rcases List.mem_cons.1 hp with rfl | hp
    · exact S232
    cases hp)) mixedOK (by kernel_rfl : Tryz.prog.funcs[203]? = some Tryz.f203) (by kernel_rfl) (by kernel_rfl : Tryz.f203.body = some body203) (by kernel_rfl) (by kernel_rfl)
    (fun x y hw hy => by obtain ⟨k, hk⟩ := h203 x.1 x.2.1 y hw hy; exact ⟨k, (ev203 s232 k x).trans hk⟩)
/-! ### jitney/trust.Score -/
theorem SI125_165 (k : Nat) : SoundF Tryz.prog 165 (.ev (mkEnv tsi125_165 (fsi125_165 s69 s73 s75 s121 s164 s202 s203 k)) Hi125_165 k bodyi125_165 61 [.tmp 6]) :=
  ev_inline (mkEnv_ok tyi125_165 (fun p hp => by
    unfold fsi125_165 at hp
    rcases List.mem_cons.1 hp with rfl | hp
    · exact S202
    cases hp)) mixedOK (by kernel_rfl : Tryz.prog.funcs[165]? = some Tryz.f165) (by kernel_rfl) (by kernel_rfl : Tryz.f165.body = some bodyi125_165) (by kernel_rfl) (by kernel_rfl)
theorem SI125_166 (k : Nat) : SoundF Tryz.prog 166 (.evr (mkEnv tsi125_166 (fsi125_166 s69 s73 s75 s121 s164 s202 s203 k)) Hi125_166 k bodyi125_166 37 [.cell 6 179, .tmp 7]) :=
  ev_inlineR (mkEnv_ok tyi125_166 (fun p hp => by
    unfold fsi125_166 at hp
    rcases List.mem_cons.1 hp with rfl | hp
    · exact S203
    cases hp)) mixedOK (by kernel_rfl : Tryz.prog.funcs[166]? = some Tryz.f166) (by kernel_rfl) (by kernel_rfl : Tryz.f166.body = some bodyi125_166) (by kernel_rfl) (by kernel_rfl)
theorem S125 : SoundF Tryz.prog 125 (.pfn (.cons (.struct (.cons (.int .i64) (.cons (.int .i64) (.cons (.int .i64) .nil)))) (.cons (.slice (.struct (.cons .str (.cons .str (.cons .str (.cons (.int .i64) (.cons (.int .i64) .nil))))))) (.cons .str (.cons (.int .i64) .nil)))) (.cons (.struct (.cons (.int .i64) (.cons (.int .i64) .nil))) (.cons (.int .i64) .nil)) fun x => s125 x.1 x.2.1 x.2.2.1 x.2.2.2.1) :=
  pfn_sound (E := fun k => mkEnv ts125 (fs125 s69 s73 s75 s121 s164 s202 s203 k)) (H := H125) (fun k => mkEnv_ok ty125 (fun p hp => by
    unfold fs125 at hp
    rcases List.mem_cons.1 hp with rfl | hp
    · exact S69
    rcases List.mem_cons.1 hp with rfl | hp
    · exact S73
    rcases List.mem_cons.1 hp with rfl | hp
    · exact S75
    rcases List.mem_cons.1 hp with rfl | hp
    · exact S121
    rcases List.mem_cons.1 hp with rfl | hp
    · exact S164
    rcases List.mem_cons.1 hp with rfl | hp
    · exact SI125_165 k
    rcases List.mem_cons.1 hp with rfl | hp
    · exact SI125_166 k
    cases hp)) mixedOK (by kernel_rfl : Tryz.prog.funcs[125]? = some Tryz.f125) (by kernel_rfl) (by kernel_rfl : Tryz.f125.body = some body125) (by kernel_rfl) (by kernel_rfl)
    (fun x y hw hy => by obtain ⟨k, hk⟩ := h125 x.1 x.2.1 x.2.2.1 x.2.2.2.1 y hw hy; exact ⟨k, (ev125 s69 s73 s75 s121 s164 s202 s203 k x).trans hk⟩)
/-! ### jitney/jitlaw2.trusted -/
theorem S60 : SoundF Tryz.prog 60 (.pfn .nil (.cons .bool .nil) fun x => s60) :=
  pfn_sound (E := fun k => mkEnv ts60 (fs60 s125)) (H := H60) (fun k => mkEnv_ok ty60 (fun p hp => by
    unfold fs60 at hp
    rcases List.mem_cons.1 hp with rfl | hp
    · exact S125
    cases hp)) mixedOK (by kernel_rfl : Tryz.prog.funcs[60]? = some Tryz.f60) (by kernel_rfl) (by kernel_rfl : Tryz.f60.body = some body60) (by kernel_rfl) (by kernel_rfl)
    (fun x y hw hy => by obtain ⟨k, hk⟩ := h60  y hw hy; exact ⟨k, (ev60 s125 k x).trans hk⟩)
/-! ### jitney/jitlaw2.RatingTexts -/
theorem S6 : SoundF Tryz.prog 6 (.pfn (.cons (.slice (.struct (.cons .str (.cons .str (.cons .str (.cons (.int .i64) (.cons (.int .i64) .nil))))))) (.cons .str .nil)) (.cons .bool .nil) fun x => s6 x.1 x.2.1) :=
  pfn_sound (E := fun k => mkEnv ts6 (fs6 s48 s53 s54 s55 s56 s57 s58 s59 s60)) (H := H6) (fun k => mkEnv_ok ty6 (fun p hp => by
    unfold fs6 at hp
    rcases List.mem_cons.1 hp with rfl | hp
    · exact S48
    rcases List.mem_cons.1 hp with rfl | hp
    · exact S53
    rcases List.mem_cons.1 hp with rfl | hp
    · exact S54
    rcases List.mem_cons.1 hp with rfl | hp
    · exact S55
    rcases List.mem_cons.1 hp with rfl | hp
    · exact S56
    rcases List.mem_cons.1 hp with rfl | hp
    · exact S57
    rcases List.mem_cons.1 hp with rfl | hp
    · exact S58
    rcases List.mem_cons.1 hp with rfl | hp
    · exact S59
    rcases List.mem_cons.1 hp with rfl | hp
    · exact S60
    cases hp)) mixedOK (by kernel_rfl : Tryz.prog.funcs[6]? = some Tryz.f6) (by kernel_rfl) (by kernel_rfl : Tryz.f6.body = some body6) (by kernel_rfl) (by kernel_rfl)
    (fun x y hw hy => by obtain ⟨k, hk⟩ := h6 x.1 x.2.1 y hw hy; exact ⟨k, (ev6 s48 s53 s54 s55 s56 s57 s58 s59 s60 k x).trans hk⟩)
end Go.Vm
