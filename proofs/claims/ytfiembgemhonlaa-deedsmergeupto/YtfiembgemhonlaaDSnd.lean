/- The program's functions are what the specs say. -/
import Derived.Test.YtfiembgemhonlaaDSpec
import Derived.Test.YtfiembgemhonlaaSSnd
set_option maxRecDepth 100000
set_option linter.unusedVariables false
namespace Go.Vm
open Go.Proofs
/-! ### jitney/jitref2.RideFault -/
theorem S226 : SoundF Try.prog 226 (.fn (.cons (.struct (.cons .str (.cons .str (.cons .str (.cons .str (.cons (.int .i64) (.cons (.int .i64) (.cons (.int .i64) (.cons (.int .i64) .nil))))))))) .nil) (.cons (.int .i64) .nil) fun x => (s226 x.1, ())) :=
  fn_sound (E := fun k => mkEnv ts226 (fs226 s31 s115 s125)) (H := H226) (fun k => mkEnv_ok ty226 (fun p hp => by
    unfold fs226 at hp
    rcases List.mem_cons.1 hp with rfl | hp
    · exact S31
    rcases List.mem_cons.1 hp with rfl | hp
    · exact S115
    rcases List.mem_cons.1 hp with rfl | hp
    · exact S125
    cases hp)) mixedOK (by kernel_rfl : Try.prog.funcs[226]? = some Try.f226) (by kernel_rfl) (by kernel_rfl : Try.f226.body = some body226) (by kernel_rfl) (by kernel_rfl)
    (fun x hw => by obtain ⟨k, hk⟩ := h226 x.1 hw; exact ⟨k, (ev226 s31 s115 s125 k x).trans hk⟩)
/-! ### jitney/jitref2.DeedFault -/
theorem S153 : SoundF Try.prog 153 (.fn (.cons (.struct (.cons .str (.cons (.int .i64) (.cons (.int .i64) (.cons (.int .i64) (.cons .str (.cons .str (.cons (.struct (.cons .str (.cons (.int .i64) (.cons (.int .i64) .nil)))) (.cons (.struct (.cons .str (.cons .str (.cons .str (.cons .str (.cons (.int .i64) (.cons (.int .i64) (.cons (.int .i64) (.cons (.int .i64) .nil))))))))) .nil))))))))) .nil) (.cons (.int .i64) .nil) fun x => (s153 x.1, ())) :=
  fn_sound (E := fun k => mkEnv ts153 (fs153 s31 s115 s125 s226)) (H := H153) (fun k => mkEnv_ok ty153 (fun p hp => by
    unfold fs153 at hp
    rcases List.mem_cons.1 hp with rfl | hp
    · exact S31
    rcases List.mem_cons.1 hp with rfl | hp
    · exact S115
    rcases List.mem_cons.1 hp with rfl | hp
    · exact S125
    rcases List.mem_cons.1 hp with rfl | hp
    · exact S226
    cases hp)) mixedOK (by kernel_rfl : Try.prog.funcs[153]? = some Try.f153) (by kernel_rfl) (by kernel_rfl : Try.f153.body = some body153) (by kernel_rfl) (by kernel_rfl)
    (fun x hw => by obtain ⟨k, hk⟩ := h153 x.1 hw; exact ⟨k, (ev153 s31 s115 s125 s226 k x).trans hk⟩)
/-! ### strings.Compare -/
theorem S129 : SoundF Try.prog 129 (.fn (.cons .str (.cons .str .nil)) (.cons (.int .i64) .nil) fun x => (s129 x.1 x.2.1, ())) :=
  fn_sound (E := fun k => mkEnv ts129 (fs129 s211)) (H := H129) (fun k => mkEnv_ok ty129 (fun p hp => by
    unfold fs129 at hp
    rcases List.mem_cons.1 hp with rfl | hp
    · exact S211
    cases hp)) mixedOK (by kernel_rfl : Try.prog.funcs[129]? = some Try.f129) (by kernel_rfl) (by kernel_rfl : Try.f129.body = some body129) (by kernel_rfl) (by kernel_rfl)
    (fun x hw => by obtain ⟨k, hk⟩ := h129 x.1 x.2.1 hw; exact ⟨k, (ev129 s211 k x).trans hk⟩)
/-! ### jitney/jitref2.sign -/
theorem S227 : SoundF Try.prog 227 (.fn (.cons (.int .i64) .nil) (.cons (.int .i64) .nil) fun x => (s227 x.1, ())) :=
  fn_sound (E := fun k => mkEnv ts227 (fs227 )) (H := H227) (fun k => mkEnv_ok ty227 (fun p hp => by unfold fs227 at hp; cases hp)) mixedOK (by kernel_rfl : Try.prog.funcs[227]? = some Try.f227) (by kernel_rfl) (by kernel_rfl : Try.f227.body = some body227) (by kernel_rfl) (by kernel_rfl)
    (fun x hw => by obtain ⟨k, hk⟩ := h227 x.1 hw; exact ⟨k, (ev227  k x).trans hk⟩)
/-! ### jitney/jitref2.DeedOrder -/
theorem S154 : SoundF Try.prog 154 (.fn (.cons (.struct (.cons .str (.cons (.int .i64) (.cons (.int .i64) (.cons (.int .i64) (.cons .str (.cons .str (.cons (.struct (.cons .str (.cons (.int .i64) (.cons (.int .i64) .nil)))) (.cons (.struct (.cons .str (.cons .str (.cons .str (.cons .str (.cons (.int .i64) (.cons (.int .i64) (.cons (.int .i64) (.cons (.int .i64) .nil))))))))) .nil))))))))) (.cons (.struct (.cons .str (.cons (.int .i64) (.cons (.int .i64) (.cons (.int .i64) (.cons .str (.cons .str (.cons (.struct (.cons .str (.cons (.int .i64) (.cons (.int .i64) .nil)))) (.cons (.struct (.cons .str (.cons .str (.cons .str (.cons .str (.cons (.int .i64) (.cons (.int .i64) (.cons (.int .i64) (.cons (.int .i64) .nil))))))))) .nil))))))))) .nil)) (.cons (.int .i64) .nil) fun x => (s154 x.1 x.2.1, ())) :=
  fn_sound (E := fun k => mkEnv ts154 (fs154 s129 s227)) (H := H154) (fun k => mkEnv_ok ty154 (fun p hp => by
    unfold fs154 at hp
    rcases List.mem_cons.1 hp with rfl | hp
    · exact S129
    rcases List.mem_cons.1 hp with rfl | hp
    · exact S227
    cases hp)) mixedOK (by kernel_rfl : Try.prog.funcs[154]? = some Try.f154) (by kernel_rfl) (by kernel_rfl : Try.f154.body = some body154) (by kernel_rfl) (by kernel_rfl)
    (fun x hw => by obtain ⟨k, hk⟩ := h154 x.1 x.2.1 hw; exact ⟨k, (ev154 s129 s227 k x).trans hk⟩)
/-! ### jitney/jitref2.sameNo -/
theorem S157 : SoundF Try.prog 157 (.fn (.cons (.struct (.cons .str (.cons (.int .i64) (.cons (.int .i64) (.cons (.int .i64) (.cons .str (.cons .str (.cons (.struct (.cons .str (.cons (.int .i64) (.cons (.int .i64) .nil)))) (.cons (.struct (.cons .str (.cons .str (.cons .str (.cons .str (.cons (.int .i64) (.cons (.int .i64) (.cons (.int .i64) (.cons (.int .i64) .nil))))))))) .nil))))))))) (.cons (.struct (.cons .str (.cons (.int .i64) (.cons (.int .i64) (.cons (.int .i64) (.cons .str (.cons .str (.cons (.struct (.cons .str (.cons (.int .i64) (.cons (.int .i64) .nil)))) (.cons (.struct (.cons .str (.cons .str (.cons .str (.cons .str (.cons (.int .i64) (.cons (.int .i64) (.cons (.int .i64) (.cons (.int .i64) .nil))))))))) .nil))))))))) .nil)) (.cons .bool .nil) fun x => (s157 x.1 x.2.1, ())) :=
  fn_sound (E := fun k => mkEnv ts157 (fs157 )) (H := H157) (fun k => mkEnv_ok ty157 (fun p hp => by unfold fs157 at hp; cases hp)) mixedOK (by kernel_rfl : Try.prog.funcs[157]? = some Try.f157) (by kernel_rfl) (by kernel_rfl : Try.f157.body = some body157) (by kernel_rfl) (by kernel_rfl)
    (fun x hw => by obtain ⟨k, hk⟩ := h157 x.1 x.2.1 hw; exact ⟨k, (ev157  k x).trans hk⟩)
/-! ### jitney/jitref2.DeedsFault -/
theorem SI60_156 (k : Nat) : SoundF Try.prog 156 (.ev (mkEnv tsi60_156 (fsi60_156 s153 s154 s157 k)) Hi60_156 k bodyi60_156 7 [.tmp 3]) :=
  ev_inline (mkEnv_ok tyi60_156 (fun p hp => by
    unfold fsi60_156 at hp
    rcases List.mem_cons.1 hp with rfl | hp
    · exact S157
    cases hp)) mixedOK (by kernel_rfl : Try.prog.funcs[156]? = some Try.f156) (by kernel_rfl) (by kernel_rfl : Try.f156.body = some bodyi60_156) (by kernel_rfl) (by kernel_rfl)
theorem SI60_164 (k : Nat) : SoundF Try.prog 164 (.ev (mkEnv tsi60_164 (fsi60_164 s153 s154 s157 k)) Hi60_164 k bodyi60_164 19 [.tmp 4]) :=
  ev_inline (mkEnv_ok tyi60_164 (fun p hp => by
    unfold fsi60_164 at hp
    rcases List.mem_cons.1 hp with rfl | hp
    · exact SI60_156 k
    cases hp)) mixedOK (by kernel_rfl : Try.prog.funcs[164]? = some Try.f164) (by kernel_rfl) (by kernel_rfl : Try.f164.body = some bodyi60_164) (by kernel_rfl) (by kernel_rfl)
theorem SI60_155 (k : Nat) : SoundF Try.prog 155 (.ev (mkEnv tsi60_155 (fsi60_155 s153 s154 s157 k)) Hi60_155 k bodyi60_155 9 [.tmp 4]) :=
  ev_inline (mkEnv_ok tyi60_155 (fun p hp => by
    unfold fsi60_155 at hp
    rcases List.mem_cons.1 hp with rfl | hp
    · exact SI60_164 k
    cases hp)) mixedOK (by kernel_rfl : Try.prog.funcs[155]? = some Try.f155) (by kernel_rfl) (by kernel_rfl : Try.f155.body = some bodyi60_155) (by kernel_rfl) (by kernel_rfl)
theorem S60 : SoundF Try.prog 60 (.fn (.cons (.slice (.struct (.cons .str (.cons (.int .i64) (.cons (.int .i64) (.cons (.int .i64) (.cons .str (.cons .str (.cons (.struct (.cons .str (.cons (.int .i64) (.cons (.int .i64) .nil)))) (.cons (.struct (.cons .str (.cons .str (.cons .str (.cons .str (.cons (.int .i64) (.cons (.int .i64) (.cons (.int .i64) (.cons (.int .i64) .nil))))))))) .nil)))))))))) .nil) (.cons (.int .i64) .nil) fun x => (s60 x.1, ())) :=
  fn_sound (E := fun k => mkEnv ts60 (fs60 s153 s154 s157 k)) (H := H60) (fun k => mkEnv_ok ty60 (fun p hp => by
    unfold fs60 at hp
    rcases List.mem_cons.1 hp with rfl | hp
    · exact S153
    rcases List.mem_cons.1 hp with rfl | hp
    · exact S154
    rcases List.mem_cons.1 hp with rfl | hp
    · exact SI60_155 k
    cases hp)) mixedOK (by kernel_rfl : Try.prog.funcs[60]? = some Try.f60) (by kernel_rfl) (by kernel_rfl : Try.f60.body = some body60) (by kernel_rfl) (by kernel_rfl)
    (fun x hw => by obtain ⟨k, hk⟩ := h60 x.1 hw; exact ⟨k, (ev60 s153 s154 s157 k x).trans hk⟩)
/-! ### jitney/net.byMoment -/
theorem S160 : SoundF Try.prog 160 (.fn (.cons (.struct (.cons .str (.cons (.int .i64) (.cons (.int .i64) (.cons (.int .i64) (.cons .str (.cons .str (.cons (.struct (.cons .str (.cons (.int .i64) (.cons (.int .i64) .nil)))) (.cons (.struct (.cons .str (.cons .str (.cons .str (.cons .str (.cons (.int .i64) (.cons (.int .i64) (.cons (.int .i64) (.cons (.int .i64) .nil))))))))) .nil))))))))) (.cons (.struct (.cons .str (.cons (.int .i64) (.cons (.int .i64) (.cons (.int .i64) (.cons .str (.cons .str (.cons (.struct (.cons .str (.cons (.int .i64) (.cons (.int .i64) .nil)))) (.cons (.struct (.cons .str (.cons .str (.cons .str (.cons .str (.cons (.int .i64) (.cons (.int .i64) (.cons (.int .i64) (.cons (.int .i64) .nil))))))))) .nil))))))))) .nil)) (.cons (.int .i64) .nil) fun x => (s160 x.1 x.2.1, ())) :=
  fn_sound (E := fun k => mkEnv ts160 (fs160 s127 s128 s129)) (H := H160) (fun k => mkEnv_ok ty160 (fun p hp => by
    unfold fs160 at hp
    rcases List.mem_cons.1 hp with rfl | hp
    · exact S127
    rcases List.mem_cons.1 hp with rfl | hp
    · exact S128
    rcases List.mem_cons.1 hp with rfl | hp
    · exact S129
    cases hp)) mixedOK (by kernel_rfl : Try.prog.funcs[160]? = some Try.f160) (by kernel_rfl) (by kernel_rfl : Try.f160.body = some body160) (by kernel_rfl) (by kernel_rfl)
    (fun x hw => by obtain ⟨k, hk⟩ := h160 x.1 x.2.1 hw; exact ⟨k, (ev160 s127 s128 s129 k x).trans hk⟩)
/-! ### jitney/request.allKeys$1 -/
theorem S335 : SoundF Try.prog 335 (.fn (.cons .str .nil) (.cons .bool .nil) fun x => (s335 x.1, ())) :=
  fn_sound (E := fun k => mkEnv ts335 (fs335 s113)) (H := H335) (fun k => mkEnv_ok ty335 (fun p hp => by
    unfold fs335 at hp
    rcases List.mem_cons.1 hp with rfl | hp
    · exact S113
    cases hp)) mixedOK (by kernel_rfl : Try.prog.funcs[335]? = some Try.f335) (by kernel_rfl) (by kernel_rfl : Try.f335.body = some body335) (by kernel_rfl) (by kernel_rfl)
    (fun x hw => by obtain ⟨k, hk⟩ := h335 x.1 hw; exact ⟨k, (ev335 s113 k x).trans hk⟩)
/-! ### jitney/request.allKeys -/
theorem SI289_214 (k : Nat) : SoundF Try.prog 214 (.ev (mkEnv tsi289_214 (fsi289_214 s335 k)) Hi289_214 k bodyi289_214 19 [.tmp 4]) :=
  ev_inline (mkEnv_ok tyi289_214 (fun p hp => by
    unfold fsi289_214 at hp
    rcases List.mem_cons.1 hp with rfl | hp
    · exact S335
    cases hp)) mixedOK (by kernel_rfl : Try.prog.funcs[214]? = some Try.f214) (by kernel_rfl) (by kernel_rfl : Try.f214.body = some bodyi289_214) (by kernel_rfl) (by kernel_rfl)
theorem SI289_133 (k : Nat) : SoundF Try.prog 133 (.ev (mkEnv tsi289_133 (fsi289_133 s335 k)) Hi289_133 k bodyi289_133 9 [.tmp 4]) :=
  ev_inline (mkEnv_ok tyi289_133 (fun p hp => by
    unfold fsi289_133 at hp
    rcases List.mem_cons.1 hp with rfl | hp
    · exact SI289_214 k
    cases hp)) mixedOK (by kernel_rfl : Try.prog.funcs[133]? = some Try.f133) (by kernel_rfl) (by kernel_rfl : Try.f133.body = some bodyi289_133) (by kernel_rfl) (by kernel_rfl)
theorem S289 : SoundF Try.prog 289 (.fn (.cons (.slice .str) .nil) (.cons .bool .nil) fun x => (s289 x.1, ())) :=
  fn_sound (E := fun k => mkEnv ts289 (fs289 s335 k)) (H := H289) (fun k => mkEnv_ok ty289 (fun p hp => by
    unfold fs289 at hp
    rcases List.mem_cons.1 hp with rfl | hp
    · exact SI289_133 k
    cases hp)) mixedOK (by kernel_rfl : Try.prog.funcs[289]? = some Try.f289) (by kernel_rfl) (by kernel_rfl : Try.f289.body = some body289) (by kernel_rfl) (by kernel_rfl)
    (fun x hw => by obtain ⟨k, hk⟩ := h289 x.1 hw; exact ⟨k, (ev289 s335 k x).trans hk⟩)
/-! ### jitney/request.CheckRide -/
theorem S235 : SoundF Try.prog 235 (.fn (.cons (.struct (.cons .str (.cons .str (.cons .str (.cons .str (.cons (.int .i64) (.cons (.int .i64) (.cons (.int .i64) (.cons (.int .i64) .nil))))))))) .nil) (.cons (.int .i64) .nil) fun x => (s235 x.1, ())) :=
  fn_sound (E := fun k => mkEnv ts235 (fs235 s114 s121 s289)) (H := H235) (fun k => mkEnv_ok ty235 (fun p hp => by
    unfold fs235 at hp
    rcases List.mem_cons.1 hp with rfl | hp
    · exact S114
    rcases List.mem_cons.1 hp with rfl | hp
    · exact S121
    rcases List.mem_cons.1 hp with rfl | hp
    · exact S289
    cases hp)) mixedOK (by kernel_rfl : Try.prog.funcs[235]? = some Try.f235) (by kernel_rfl) (by kernel_rfl : Try.f235.body = some body235) (by kernel_rfl) (by kernel_rfl)
    (fun x hw => by obtain ⟨k, hk⟩ := h235 x.1 hw; exact ⟨k, (ev235 s114 s121 s289 k x).trans hk⟩)
/-! ### jitney/net.deedFault -/
theorem S167 : SoundF Try.prog 167 (.fn (.cons (.struct (.cons .str (.cons (.int .i64) (.cons (.int .i64) (.cons (.int .i64) (.cons .str (.cons .str (.cons (.struct (.cons .str (.cons (.int .i64) (.cons (.int .i64) .nil)))) (.cons (.struct (.cons .str (.cons .str (.cons .str (.cons .str (.cons (.int .i64) (.cons (.int .i64) (.cons (.int .i64) (.cons (.int .i64) .nil))))))))) .nil))))))))) .nil) (.cons (.int .i64) .nil) fun x => (s167 x.1, ())) :=
  fn_sound (E := fun k => mkEnv ts167 (fs167 s113 s114 s121 s235)) (H := H167) (fun k => mkEnv_ok ty167 (fun p hp => by
    unfold fs167 at hp
    rcases List.mem_cons.1 hp with rfl | hp
    · exact S113
    rcases List.mem_cons.1 hp with rfl | hp
    · exact S114
    rcases List.mem_cons.1 hp with rfl | hp
    · exact S121
    rcases List.mem_cons.1 hp with rfl | hp
    · exact S235
    cases hp)) mixedOK (by kernel_rfl : Try.prog.funcs[167]? = some Try.f167) (by kernel_rfl) (by kernel_rfl : Try.f167.body = some body167) (by kernel_rfl) (by kernel_rfl)
    (fun x hw => by obtain ⟨k, hk⟩ := h167 x.1 hw; exact ⟨k, (ev167 s113 s114 s121 s235 k x).trans hk⟩)
/-! ### jitney/net.CheckDeeds -/
theorem S68 : SoundF Try.prog 68 (.fn (.cons (.slice (.struct (.cons .str (.cons (.int .i64) (.cons (.int .i64) (.cons (.int .i64) (.cons .str (.cons .str (.cons (.struct (.cons .str (.cons (.int .i64) (.cons (.int .i64) .nil)))) (.cons (.struct (.cons .str (.cons .str (.cons .str (.cons .str (.cons (.int .i64) (.cons (.int .i64) (.cons (.int .i64) (.cons (.int .i64) .nil))))))))) .nil)))))))))) .nil) (.cons (.int .i64) .nil) fun x => (s68 x.1, ())) :=
  fn_sound (E := fun k => mkEnv ts68 (fs68 s160 s167)) (H := H68) (fun k => mkEnv_ok ty68 (fun p hp => by
    unfold fs68 at hp
    rcases List.mem_cons.1 hp with rfl | hp
    · exact S160
    rcases List.mem_cons.1 hp with rfl | hp
    · exact S167
    cases hp)) mixedOK (by kernel_rfl : Try.prog.funcs[68]? = some Try.f68) (by kernel_rfl) (by kernel_rfl : Try.f68.body = some body68) (by kernel_rfl) (by kernel_rfl)
    (fun x hw => by obtain ⟨k, hk⟩ := h68 x.1 hw; exact ⟨k, (ev68 s160 s167 k x).trans hk⟩)
/-! ### slices.Concat[[]jitney/api.Deed,jitney/api.Deed] -/
theorem SI158_228 (k : Nat) : SoundF Try.prog 228 (.ev (mkEnv tsi158_228 (fsi158_228  k)) Hi158_228 k bodyi158_228 27 [.tmp 4]) :=
  ev_inline (mkEnv_ok tyi158_228 (fun p hp => by unfold fsi158_228 at hp; cases hp)) mixedOK (by kernel_rfl : Try.prog.funcs[228]? = some Try.f228) (by kernel_rfl) (by kernel_rfl : Try.f228.body = some bodyi158_228) (by kernel_rfl) (by kernel_rfl)
theorem S158 : SoundF Try.prog 158 (.mfn (.struct (.cons .str (.cons (.int .i64) (.cons (.int .i64) (.cons (.int .i64) (.cons .str (.cons .str (.cons (.struct (.cons .str (.cons (.int .i64) (.cons (.int .i64) .nil)))) (.cons (.struct (.cons .str (.cons .str (.cons .str (.cons .str (.cons (.int .i64) (.cons (.int .i64) (.cons (.int .i64) (.cons (.int .i64) .nil))))))))) .nil))))))))) (.cons (.slice (.slice (.struct (.cons .str (.cons (.int .i64) (.cons (.int .i64) (.cons (.int .i64) (.cons .str (.cons .str (.cons (.struct (.cons .str (.cons (.int .i64) (.cons (.int .i64) .nil)))) (.cons (.struct (.cons .str (.cons .str (.cons .str (.cons .str (.cons (.int .i64) (.cons (.int .i64) (.cons (.int .i64) (.cons (.int .i64) .nil))))))))) .nil))))))))))) .nil) fun x => s158 x.1) :=
  mfn_sound (E := fun k => mkEnv ts158 (fs158  k)) (H := H158) (fun k => mkEnv_ok ty158 (fun p hp => by
    unfold fs158 at hp
    rcases List.mem_cons.1 hp with rfl | hp
    · exact SI158_228 k
    cases hp)) mixedOK (by kernel_rfl : Try.prog.funcs[158]? = some Try.f158) (by kernel_rfl) (by kernel_rfl : Try.f158.body = some body158) (by kernel_rfl) (by kernel_rfl)
    (fun x ys hw hy => by obtain ⟨k, hk⟩ := h158 x.1 ys hw hy; exact ⟨k, (ev158  k x).trans hk⟩)
/-! ### jitney/net.Merge -/
theorem S159_160 : SoundF Try.prog 159 (.rfn (.struct (.cons .str (.cons (.int .i64) (.cons (.int .i64) (.cons (.int .i64) (.cons .str (.cons .str (.cons (.struct (.cons .str (.cons (.int .i64) (.cons (.int .i64) .nil)))) (.cons (.struct (.cons .str (.cons .str (.cons .str (.cons .str (.cons (.int .i64) (.cons (.int .i64) (.cons (.int .i64) (.cons (.int .i64) .nil))))))))) .nil))))))))) .nil 160 fun xs a => s159_160 xs) := SF159 S160
theorem S61 : SoundF Try.prog 61 (.pfn (.cons (.slice (.struct (.cons .str (.cons (.int .i64) (.cons (.int .i64) (.cons (.int .i64) (.cons .str (.cons .str (.cons (.struct (.cons .str (.cons (.int .i64) (.cons (.int .i64) .nil)))) (.cons (.struct (.cons .str (.cons .str (.cons .str (.cons .str (.cons (.int .i64) (.cons (.int .i64) (.cons (.int .i64) (.cons (.int .i64) .nil))))))))) .nil)))))))))) (.cons (.slice (.struct (.cons .str (.cons (.int .i64) (.cons (.int .i64) (.cons (.int .i64) (.cons .str (.cons .str (.cons (.struct (.cons .str (.cons (.int .i64) (.cons (.int .i64) .nil)))) (.cons (.struct (.cons .str (.cons .str (.cons .str (.cons .str (.cons (.int .i64) (.cons (.int .i64) (.cons (.int .i64) (.cons (.int .i64) .nil))))))))) .nil)))))))))) .nil)) (.cons (.slice (.struct (.cons .str (.cons (.int .i64) (.cons (.int .i64) (.cons (.int .i64) (.cons .str (.cons .str (.cons (.struct (.cons .str (.cons (.int .i64) (.cons (.int .i64) .nil)))) (.cons (.struct (.cons .str (.cons .str (.cons .str (.cons .str (.cons (.int .i64) (.cons (.int .i64) (.cons (.int .i64) (.cons (.int .i64) .nil))))))))) .nil)))))))))) (.cons (.int .i64) .nil)) fun x => s61 x.1 x.2.1) :=
  pfn_sound (E := fun k => mkEnv ts61 (fs61 s68 s123 s158 s159_160)) (H := H61) (fun k => mkEnv_ok ty61 (fun p hp => by
    unfold fs61 at hp
    rcases List.mem_cons.1 hp with rfl | hp
    · exact S68
    rcases List.mem_cons.1 hp with rfl | hp
    · exact S123
    rcases List.mem_cons.1 hp with rfl | hp
    · exact S158
    rcases List.mem_cons.1 hp with rfl | hp
    · exact S159_160
    cases hp)) mixedOK (by kernel_rfl : Try.prog.funcs[61]? = some Try.f61) (by kernel_rfl) (by kernel_rfl : Try.f61.body = some body61) (by kernel_rfl) (by kernel_rfl)
    (fun x y hw hy => by obtain ⟨k, hk⟩ := h61 x.1 x.2.1 y hw hy; exact ⟨k, (ev61 s68 s123 s158 s159_160 k x).trans hk⟩)
set_option maxHeartbeats 2000000 in
theorem walk62 (a : Option Addr) (c : Nat) (w : World) : Calls Try.prog 62 #[.slice a 0 c] w fun e w' => ∃ a' c', e = .returned (.slice a' 0 c') ∧ c' ≤ 9223372036854775807 ∧ Keep None w w' := by
  have q : ∀ (w : World) (a : Option Addr) (n c n' c' : Nat), (binOp .eql 94 (.slice a n c) (.slice none n' c')).run Try.prog w = .ok (.bool a.isNone) w := fun w a n c n' c' => Lib.run_eql_slice_nil w _ _ a n c n' c' Try.underlying94
  cases a with
  | none =>
    go_enter Try.func62, Try.ntmps62
    go_wp2
    go_ret
    exact ⟨none, 0, rfl, by omega, Keep.refl _ _⟩
  | some a =>
    go_enter Try.func62, Try.ntmps62
    go_wp2
    go_ret
    exact ⟨_, _, rfl, by omega, Keep.alloc _ _ _ _⟩
theorem cl62 (xs : List (ByteArray × Int × Int × Int × ByteArray × ByteArray × (ByteArray × Int × Int × Unit) × (ByteArray × ByteArray × ByteArray × ByteArray × Int × Int × Int × Int × Unit) × Unit)) (hne : xs ≠ []) (hl : xs.length ≤ 4294967296) : f62 0 xs = some (xs, ()) := by
  cases xs with
  | nil => exact absurd rfl hne
  | cons z l =>
    have h2 : decide (List.length ([] : List (ByteArray × Int × Int × Int × ByteArray × ByteArray × (ByteArray × Int × Int × Unit) × (ByteArray × ByteArray × ByteArray × ByteArray × Int × Int × Int × Int × Unit) × Unit)) + List.length (z :: l) ≤ 4294967296) = true := by simpa using hl
    unfold f62
    rw [show Nat.ble (List.length (z :: l)) 0 = false from rfl, h2]
    rfl
theorem S62 : SoundF Try.prog 62 (.pfn (.cons (.slice (.struct (.cons .str (.cons (.int .i64) (.cons (.int .i64) (.cons (.int .i64) (.cons .str (.cons .str (.cons (.struct (.cons .str (.cons (.int .i64) (.cons (.int .i64) .nil)))) (.cons (.struct (.cons .str (.cons .str (.cons .str (.cons .str (.cons (.int .i64) (.cons (.int .i64) (.cons (.int .i64) (.cons (.int .i64) .nil))))))))) .nil)))))))))) .nil) (.cons (.slice (.struct (.cons .str (.cons (.int .i64) (.cons (.int .i64) (.cons (.int .i64) (.cons .str (.cons .str (.cons (.struct (.cons .str (.cons (.int .i64) (.cons (.int .i64) .nil)))) (.cons (.struct (.cons .str (.cons .str (.cons .str (.cons .str (.cons (.int .i64) (.cons (.int .i64) (.cons (.int .i64) (.cons (.int .i64) .nil))))))))) .nil)))))))))) .nil) fun x => s62 x.1) := by
  intro ρ args objs K r hr
  exact clone_sound (T := (.struct (.cons .str (.cons (.int .i64) (.cons (.int .i64) (.cons (.int .i64) (.cons .str (.cons .str (.cons (.struct (.cons .str (.cons (.int .i64) (.cons (.int .i64) .nil)))) (.cons (.struct (.cons .str (.cons .str (.cons .str (.cons .str (.cons (.int .i64) (.cons (.int .i64) (.cons (.int .i64) (.cons (.int .i64) .nil))))))))) .nil)))))))))) (g1 := fun x => f62 0 x.1) (pfn_sound (E := fun _ => mkEnv ts62 fs62) (H := H62) (fun _ => mkEnv_ok ty62 (fun p hp => by unfold fs62 at hp; cases hp)) mixedOK (by kernel_rfl : Try.prog.funcs[62]? = some Try.f62) (by kernel_rfl) (by kernel_rfl : Try.f62.body = some body62) (by kernel_rfl) (by kernel_rfl) (fun x y hw hy => ⟨0, (ev62 0 x).trans hy⟩)) (enters_of (by kernel_rfl : Try.prog.funcs[62]? = some Try.f62) (by kernel_rfl) (by kernel_rfl : Try.f62.body = some body62))
    (fun xs hne hl => cl62 xs hne hl) walk62 args objs K r hr
/-! ### jitney/net.momentFault -/
theorem S161 : SoundF Try.prog 161 (.fn (.cons (.slice (.struct (.cons .str (.cons (.int .i64) (.cons (.int .i64) (.cons (.int .i64) (.cons .str (.cons .str (.cons (.struct (.cons .str (.cons (.int .i64) (.cons (.int .i64) .nil)))) (.cons (.struct (.cons .str (.cons .str (.cons .str (.cons .str (.cons (.int .i64) (.cons (.int .i64) (.cons (.int .i64) (.cons (.int .i64) .nil))))))))) .nil)))))))))) (.cons (.int .i64) .nil)) (.cons (.int .i64) .nil) fun x => (s161 x.1 x.2.1, ())) :=
  fn_sound (E := fun k => mkEnv ts161 (fs161 s68 s121)) (H := H161) (fun k => mkEnv_ok ty161 (fun p hp => by
    unfold fs161 at hp
    rcases List.mem_cons.1 hp with rfl | hp
    · exact S68
    rcases List.mem_cons.1 hp with rfl | hp
    · exact S121
    cases hp)) mixedOK (by kernel_rfl : Try.prog.funcs[161]? = some Try.f161) (by kernel_rfl) (by kernel_rfl : Try.f161.body = some body161) (by kernel_rfl) (by kernel_rfl)
    (fun x hw => by obtain ⟨k, hk⟩ := h161 x.1 x.2.1 hw; exact ⟨k, (ev161 s68 s121 k x).trans hk⟩)
/-! ### jitney/net.cars$1 -/
theorem S230 : SoundF Try.prog 230 (.fn (.cons (.struct (.cons .str (.cons (.int .i64) (.cons (.int .i64) (.cons (.int .i64) (.cons .str (.cons .str (.cons (.struct (.cons .str (.cons (.int .i64) (.cons (.int .i64) .nil)))) (.cons (.struct (.cons .str (.cons .str (.cons .str (.cons .str (.cons (.int .i64) (.cons (.int .i64) (.cons (.int .i64) (.cons (.int .i64) .nil))))))))) .nil))))))))) (.cons (.struct (.cons .str (.cons (.int .i64) (.cons (.int .i64) (.cons (.int .i64) (.cons .str (.cons .str (.cons (.struct (.cons .str (.cons (.int .i64) (.cons (.int .i64) .nil)))) (.cons (.struct (.cons .str (.cons .str (.cons .str (.cons .str (.cons (.int .i64) (.cons (.int .i64) (.cons (.int .i64) (.cons (.int .i64) .nil))))))))) .nil))))))))) .nil)) (.cons (.int .i64) .nil) fun x => (s230 x.1 x.2.1, ())) :=
  fn_sound (E := fun k => mkEnv ts230 (fs230 s129)) (H := H230) (fun k => mkEnv_ok ty230 (fun p hp => by
    unfold fs230 at hp
    rcases List.mem_cons.1 hp with rfl | hp
    · exact S129
    cases hp)) mixedOK (by kernel_rfl : Try.prog.funcs[230]? = some Try.f230) (by kernel_rfl) (by kernel_rfl : Try.f230.body = some body230) (by kernel_rfl) (by kernel_rfl)
    (fun x hw => by obtain ⟨k, hk⟩ := h230 x.1 x.2.1 hw; exact ⟨k, (ev230 s129 k x).trans hk⟩)
/-! ### jitney/net.cars -/
theorem S159_230 : SoundF Try.prog 159 (.rfn (.struct (.cons .str (.cons (.int .i64) (.cons (.int .i64) (.cons (.int .i64) (.cons .str (.cons .str (.cons (.struct (.cons .str (.cons (.int .i64) (.cons (.int .i64) .nil)))) (.cons (.struct (.cons .str (.cons .str (.cons .str (.cons .str (.cons (.int .i64) (.cons (.int .i64) (.cons (.int .i64) (.cons (.int .i64) .nil))))))))) .nil))))))))) .nil 230 fun xs a => s159_230 xs) := SF159 S230
theorem S162 : SoundF Try.prog 162 (.pfn (.cons (.slice (.struct (.cons .str (.cons (.int .i64) (.cons (.int .i64) (.cons (.int .i64) (.cons .str (.cons .str (.cons (.struct (.cons .str (.cons (.int .i64) (.cons (.int .i64) .nil)))) (.cons (.struct (.cons .str (.cons .str (.cons .str (.cons .str (.cons (.int .i64) (.cons (.int .i64) (.cons (.int .i64) (.cons (.int .i64) .nil))))))))) .nil)))))))))) (.cons (.int .i64) .nil)) (.cons (.slice (.struct (.cons .str (.cons (.int .i64) (.cons (.int .i64) (.cons (.int .i64) (.cons .str (.cons .str (.cons (.struct (.cons .str (.cons (.int .i64) (.cons (.int .i64) .nil)))) (.cons (.struct (.cons .str (.cons .str (.cons .str (.cons .str (.cons (.int .i64) (.cons (.int .i64) (.cons (.int .i64) (.cons (.int .i64) .nil))))))))) .nil)))))))))) .nil) fun x => s162 x.1 x.2.1) :=
  pfnR_sound (E := fun k => mkEnv ts162 (fs162 s159_230)) (H := H162) (fun k => mkEnv_ok ty162 (fun p hp => by
    unfold fs162 at hp
    rcases List.mem_cons.1 hp with rfl | hp
    · exact S159_230
    cases hp)) mixedOK (by kernel_rfl : Try.prog.funcs[162]? = some Try.f162) (by kernel_rfl) (by kernel_rfl : Try.f162.body = some body162) (by kernel_rfl) (by kernel_rfl)
    (fun x y hw hy => by obtain ⟨k, hk⟩ := h162 x.1 x.2.1 y hw hy; exact ⟨k, (ev162 s159_230 k x).trans hk⟩)
/-! ### jitney/net.Cars -/
theorem S63 : SoundF Try.prog 63 (.pfn (.cons (.slice (.struct (.cons .str (.cons (.int .i64) (.cons (.int .i64) (.cons (.int .i64) (.cons .str (.cons .str (.cons (.struct (.cons .str (.cons (.int .i64) (.cons (.int .i64) .nil)))) (.cons (.struct (.cons .str (.cons .str (.cons .str (.cons .str (.cons (.int .i64) (.cons (.int .i64) (.cons (.int .i64) (.cons (.int .i64) .nil))))))))) .nil)))))))))) (.cons (.int .i64) .nil)) (.cons (.slice (.struct (.cons .str (.cons (.int .i64) (.cons (.int .i64) (.cons (.int .i64) (.cons .str (.cons .str (.cons (.struct (.cons .str (.cons (.int .i64) (.cons (.int .i64) .nil)))) (.cons (.struct (.cons .str (.cons .str (.cons .str (.cons .str (.cons (.int .i64) (.cons (.int .i64) (.cons (.int .i64) (.cons (.int .i64) .nil))))))))) .nil)))))))))) (.cons (.int .i64) .nil)) fun x => s63 x.1 x.2.1) :=
  pfn_sound (E := fun k => mkEnv ts63 (fs63 s161 s162)) (H := H63) (fun k => mkEnv_ok ty63 (fun p hp => by
    unfold fs63 at hp
    rcases List.mem_cons.1 hp with rfl | hp
    · exact S161
    rcases List.mem_cons.1 hp with rfl | hp
    · exact S162
    cases hp)) mixedOK (by kernel_rfl : Try.prog.funcs[63]? = some Try.f63) (by kernel_rfl) (by kernel_rfl : Try.f63.body = some body63) (by kernel_rfl) (by kernel_rfl)
    (fun x y hw hy => by obtain ⟨k, hk⟩ := h63 x.1 x.2.1 y hw hy; exact ⟨k, (ev63 s161 s162 k x).trans hk⟩)
/-! ### jitney/net.asked$1 -/
theorem S232 : SoundF Try.prog 232 (.fn (.cons (.struct (.cons .str (.cons .str (.cons .str (.cons .str (.cons (.int .i64) (.cons (.int .i64) (.cons (.int .i64) (.cons (.int .i64) .nil))))))))) (.cons (.struct (.cons .str (.cons .str (.cons .str (.cons .str (.cons (.int .i64) (.cons (.int .i64) (.cons (.int .i64) (.cons (.int .i64) .nil))))))))) .nil)) (.cons (.int .i64) .nil) fun x => (s232 x.1 x.2.1, ())) :=
  fn_sound (E := fun k => mkEnv ts232 (fs232 s129)) (H := H232) (fun k => mkEnv_ok ty232 (fun p hp => by
    unfold fs232 at hp
    rcases List.mem_cons.1 hp with rfl | hp
    · exact S129
    cases hp)) mixedOK (by kernel_rfl : Try.prog.funcs[232]? = some Try.f232) (by kernel_rfl) (by kernel_rfl : Try.f232.body = some body232) (by kernel_rfl) (by kernel_rfl)
    (fun x hw => by obtain ⟨k, hk⟩ := h232 x.1 x.2.1 hw; exact ⟨k, (ev232 s129 k x).trans hk⟩)
/-! ### jitney/net.asked -/
theorem S231_232 : SoundF Try.prog 231 (.rfn (.struct (.cons .str (.cons .str (.cons .str (.cons .str (.cons (.int .i64) (.cons (.int .i64) (.cons (.int .i64) (.cons (.int .i64) .nil))))))))) .nil 232 fun xs a => s231_232 xs) := SF231 S232
theorem S163 : SoundF Try.prog 163 (.pfn (.cons (.slice (.struct (.cons .str (.cons (.int .i64) (.cons (.int .i64) (.cons (.int .i64) (.cons .str (.cons .str (.cons (.struct (.cons .str (.cons (.int .i64) (.cons (.int .i64) .nil)))) (.cons (.struct (.cons .str (.cons .str (.cons .str (.cons .str (.cons (.int .i64) (.cons (.int .i64) (.cons (.int .i64) (.cons (.int .i64) .nil))))))))) .nil)))))))))) (.cons (.int .i64) .nil)) (.cons (.slice (.struct (.cons .str (.cons .str (.cons .str (.cons .str (.cons (.int .i64) (.cons (.int .i64) (.cons (.int .i64) (.cons (.int .i64) .nil)))))))))) .nil) fun x => s163 x.1 x.2.1) :=
  pfnR_sound (E := fun k => mkEnv ts163 (fs163 s231_232)) (H := H163) (fun k => mkEnv_ok ty163 (fun p hp => by
    unfold fs163 at hp
    rcases List.mem_cons.1 hp with rfl | hp
    · exact S231_232
    cases hp)) mixedOK (by kernel_rfl : Try.prog.funcs[163]? = some Try.f163) (by kernel_rfl) (by kernel_rfl : Try.f163.body = some body163) (by kernel_rfl) (by kernel_rfl)
    (fun x y hw hy => by obtain ⟨k, hk⟩ := h163 x.1 x.2.1 y hw hy; exact ⟨k, (ev163 s231_232 k x).trans hk⟩)
/-! ### jitney/net.Asked -/
theorem S64 : SoundF Try.prog 64 (.pfn (.cons (.slice (.struct (.cons .str (.cons (.int .i64) (.cons (.int .i64) (.cons (.int .i64) (.cons .str (.cons .str (.cons (.struct (.cons .str (.cons (.int .i64) (.cons (.int .i64) .nil)))) (.cons (.struct (.cons .str (.cons .str (.cons .str (.cons .str (.cons (.int .i64) (.cons (.int .i64) (.cons (.int .i64) (.cons (.int .i64) .nil))))))))) .nil)))))))))) (.cons (.int .i64) .nil)) (.cons (.slice (.struct (.cons .str (.cons .str (.cons .str (.cons .str (.cons (.int .i64) (.cons (.int .i64) (.cons (.int .i64) (.cons (.int .i64) .nil)))))))))) (.cons (.int .i64) .nil)) fun x => s64 x.1 x.2.1) :=
  pfn_sound (E := fun k => mkEnv ts64 (fs64 s161 s163)) (H := H64) (fun k => mkEnv_ok ty64 (fun p hp => by
    unfold fs64 at hp
    rcases List.mem_cons.1 hp with rfl | hp
    · exact S161
    rcases List.mem_cons.1 hp with rfl | hp
    · exact S163
    cases hp)) mixedOK (by kernel_rfl : Try.prog.funcs[64]? = some Try.f64) (by kernel_rfl) (by kernel_rfl : Try.f64.body = some body64) (by kernel_rfl) (by kernel_rfl)
    (fun x y hw hy => by obtain ⟨k, hk⟩ := h64 x.1 x.2.1 y hw hy; exact ⟨k, (ev64 s161 s163 k x).trans hk⟩)
set_option maxHeartbeats 2000000 in
theorem walkm62 (a : Option Addr) (c : Nat) (w : World) : Calls Try.prog 62 #[.slice a 0 c] w fun e w' => ∃ a', e = .returned (.slice a' 0 0) ∧ Keep None w w' := by
  have q : ∀ (w : World) (a : Option Addr) (n c n' c' : Nat), (binOp .eql 94 (.slice a n c) (.slice none n' c')).run Try.prog w = .ok (.bool a.isNone) w := fun w a n c n' c' => Lib.run_eql_slice_nil w _ _ a n c n' c' Try.underlying94
  cases a with
  | none =>
    go_enter Try.func62, Try.ntmps62
    go_wp2
    go_ret
    exact ⟨none, rfl, Keep.refl _ _⟩
  | some a =>
    go_enter Try.func62, Try.ntmps62
    go_wp2
    go_ret
    exact ⟨_, rfl, Keep.alloc _ _ _ _⟩
theorem clm62 (xs : List (ByteArray × Int × Int × Int × ByteArray × ByteArray × (ByteArray × Int × Int × Unit) × (ByteArray × ByteArray × ByteArray × ByteArray × Int × Int × Int × Int × Unit) × Unit)) (hne : xs ≠ []) (hl : xs.length ≤ 4294967296) : fm62 0 xs = some xs := by
  cases xs with
  | nil => exact absurd rfl hne
  | cons z l =>
    have h2 : decide (List.length ([] : List (ByteArray × Int × Int × Int × ByteArray × ByteArray × (ByteArray × Int × Int × Unit) × (ByteArray × ByteArray × ByteArray × ByteArray × Int × Int × Int × Int × Unit) × Unit)) + List.length (z :: l) ≤ 4294967296) = true := by simpa using hl
    unfold fm62
    rw [show Nat.ble (List.length (z :: l)) 0 = false from rfl, h2]
    rfl
theorem SM62 : SoundF Try.prog 62 (.mfn (.struct (.cons .str (.cons (.int .i64) (.cons (.int .i64) (.cons (.int .i64) (.cons .str (.cons .str (.cons (.struct (.cons .str (.cons (.int .i64) (.cons (.int .i64) .nil)))) (.cons (.struct (.cons .str (.cons .str (.cons .str (.cons .str (.cons (.int .i64) (.cons (.int .i64) (.cons (.int .i64) (.cons (.int .i64) .nil))))))))) .nil))))))))) (.cons (.slice (.struct (.cons .str (.cons (.int .i64) (.cons (.int .i64) (.cons (.int .i64) (.cons .str (.cons .str (.cons (.struct (.cons .str (.cons (.int .i64) (.cons (.int .i64) .nil)))) (.cons (.struct (.cons .str (.cons .str (.cons .str (.cons .str (.cons (.int .i64) (.cons (.int .i64) (.cons (.int .i64) (.cons (.int .i64) .nil))))))))) .nil)))))))))) .nil) fun x => m62 x.1) := by
  intro ρ args objs K r hr
  exact Vm.clone_row (T := (.struct (.cons .str (.cons (.int .i64) (.cons (.int .i64) (.cons (.int .i64) (.cons .str (.cons .str (.cons (.struct (.cons .str (.cons (.int .i64) (.cons (.int .i64) .nil)))) (.cons (.struct (.cons .str (.cons .str (.cons .str (.cons .str (.cons (.int .i64) (.cons (.int .i64) (.cons (.int .i64) (.cons (.int .i64) .nil))))))))) .nil)))))))))) (g1 := fun x => fm62 0 x.1) (mfn_sound (E := fun _ => mkEnv tsm62 []) (H := Hm62) (fun _ => mkEnv_ok tym62 (fun p hp => by cases hp)) mixedOK (by kernel_rfl : Try.prog.funcs[62]? = some Try.f62) (by kernel_rfl) (by kernel_rfl : Try.f62.body = some bodym62) (by kernel_rfl) (by kernel_rfl) (fun x y hw hy => ⟨0, (evm62 0 x).trans hy⟩)) (enters_of (by kernel_rfl : Try.prog.funcs[62]? = some Try.f62) (by kernel_rfl) (by kernel_rfl : Try.f62.body = some bodym62))
    (fun xs hne hl => clm62 xs hne hl) walkm62 args objs K r hr
/-! ### jitney/jitref2.DeedsOf -/
theorem S159_154 : SoundF Try.prog 159 (.rfn (.struct (.cons .str (.cons (.int .i64) (.cons (.int .i64) (.cons (.int .i64) (.cons .str (.cons .str (.cons (.struct (.cons .str (.cons (.int .i64) (.cons (.int .i64) .nil)))) (.cons (.struct (.cons .str (.cons .str (.cons .str (.cons .str (.cons (.int .i64) (.cons (.int .i64) (.cons (.int .i64) (.cons (.int .i64) .nil))))))))) .nil))))))))) .nil 154 fun xs a => s159_154 xs) := SF159 S154
theorem SI65_165 (k : Nat) : SoundF Try.prog 165 (.ev (mkEnv tsi65_165 (fsi65_165 m62 s157 s159_154 k)) Hi65_165 k bodyi65_165 7 [.tmp 3]) :=
  ev_inline (mkEnv_ok tyi65_165 (fun p hp => by
    unfold fsi65_165 at hp
    rcases List.mem_cons.1 hp with rfl | hp
    · exact S157
    cases hp)) mixedOK (by kernel_rfl : Try.prog.funcs[165]? = some Try.f165) (by kernel_rfl) (by kernel_rfl : Try.f165.body = some bodyi65_165) (by kernel_rfl) (by kernel_rfl)
theorem SI65_164 (k : Nat) : SoundF Try.prog 164 (.ev (mkEnv tsi65_164 (fsi65_164 m62 s157 s159_154 k)) Hi65_164 k bodyi65_164 19 [.tmp 4]) :=
  ev_inline (mkEnv_ok tyi65_164 (fun p hp => by
    unfold fsi65_164 at hp
    rcases List.mem_cons.1 hp with rfl | hp
    · exact SI65_165 k
    cases hp)) mixedOK (by kernel_rfl : Try.prog.funcs[164]? = some Try.f164) (by kernel_rfl) (by kernel_rfl : Try.f164.body = some bodyi65_164) (by kernel_rfl) (by kernel_rfl)
theorem S65 : SoundF Try.prog 65 (.pfn (.cons (.slice (.struct (.cons .str (.cons (.int .i64) (.cons (.int .i64) (.cons (.int .i64) (.cons .str (.cons .str (.cons (.struct (.cons .str (.cons (.int .i64) (.cons (.int .i64) .nil)))) (.cons (.struct (.cons .str (.cons .str (.cons .str (.cons .str (.cons (.int .i64) (.cons (.int .i64) (.cons (.int .i64) (.cons (.int .i64) .nil))))))))) .nil)))))))))) (.cons (.slice (.struct (.cons .str (.cons (.int .i64) (.cons (.int .i64) (.cons (.int .i64) (.cons .str (.cons .str (.cons (.struct (.cons .str (.cons (.int .i64) (.cons (.int .i64) .nil)))) (.cons (.struct (.cons .str (.cons .str (.cons .str (.cons .str (.cons (.int .i64) (.cons (.int .i64) (.cons (.int .i64) (.cons (.int .i64) .nil))))))))) .nil)))))))))) .nil)) (.cons (.slice (.struct (.cons .str (.cons (.int .i64) (.cons (.int .i64) (.cons (.int .i64) (.cons .str (.cons .str (.cons (.struct (.cons .str (.cons (.int .i64) (.cons (.int .i64) .nil)))) (.cons (.struct (.cons .str (.cons .str (.cons .str (.cons .str (.cons (.int .i64) (.cons (.int .i64) (.cons (.int .i64) (.cons (.int .i64) .nil))))))))) .nil)))))))))) (.cons (.int .i64) .nil)) fun x => s65 x.1 x.2.1) :=
  pfn_sound (E := fun k => mkEnv ts65 (fs65 m62 s157 s159_154 k)) (H := H65) (fun k => mkEnv_ok ty65 (fun p hp => by
    unfold fs65 at hp
    rcases List.mem_cons.1 hp with rfl | hp
    · exact SM62
    rcases List.mem_cons.1 hp with rfl | hp
    · exact S159_154
    rcases List.mem_cons.1 hp with rfl | hp
    · exact SI65_164 k
    cases hp)) mixedOK (by kernel_rfl : Try.prog.funcs[65]? = some Try.f65) (by kernel_rfl) (by kernel_rfl : Try.f65.body = some body65) (by kernel_rfl) (by kernel_rfl)
    (fun x y hw hy => by obtain ⟨k, hk⟩ := h65 x.1 x.2.1 y hw hy; exact ⟨k, (ev65 m62 s157 s159_154 k x).trans hk⟩)
/-! ### jitney/jitref2.about -/
theorem S233 : SoundF Try.prog 233 (.pfn (.cons (.struct (.cons .str (.cons (.int .i64) (.cons (.int .i64) (.cons (.int .i64) (.cons .str (.cons .str (.cons (.struct (.cons .str (.cons (.int .i64) (.cons (.int .i64) .nil)))) (.cons (.struct (.cons .str (.cons .str (.cons .str (.cons .str (.cons (.int .i64) (.cons (.int .i64) (.cons (.int .i64) (.cons (.int .i64) .nil))))))))) .nil))))))))) .nil) (.cons .str .nil) fun x => s233 x.1) :=
  pfn_sound (E := fun k => mkEnv ts233 (fs233 )) (H := H233) (fun k => mkEnv_ok ty233 (fun p hp => by unfold fs233 at hp; cases hp)) mixedOK (by kernel_rfl : Try.prog.funcs[233]? = some Try.f233) (by kernel_rfl) (by kernel_rfl : Try.f233.body = some body233) (by kernel_rfl) (by kernel_rfl)
    (fun x y hw hy => by obtain ⟨k, hk⟩ := h233 x.1 y hw hy; exact ⟨k, (ev233  k x).trans hk⟩)
/-! ### jitney/jitref2.counting$1 -/
theorem S234 : SoundF Try.prog 234 (.pfn (.cons (.struct (.cons .str (.cons (.int .i64) (.cons (.int .i64) (.cons (.int .i64) (.cons .str (.cons .str (.cons (.struct (.cons .str (.cons (.int .i64) (.cons (.int .i64) .nil)))) (.cons (.struct (.cons .str (.cons .str (.cons .str (.cons .str (.cons (.int .i64) (.cons (.int .i64) (.cons (.int .i64) (.cons (.int .i64) .nil))))))))) .nil))))))))) (.cons (.struct (.cons .str (.cons (.int .i64) (.cons (.int .i64) (.cons (.int .i64) (.cons .str (.cons .str (.cons (.struct (.cons .str (.cons (.int .i64) (.cons (.int .i64) .nil)))) (.cons (.struct (.cons .str (.cons .str (.cons .str (.cons .str (.cons (.int .i64) (.cons (.int .i64) (.cons (.int .i64) (.cons (.int .i64) .nil))))))))) .nil))))))))) .nil)) (.cons (.int .i64) .nil) fun x => s234 x.1 x.2.1) :=
  pfn_sound (E := fun k => mkEnv ts234 (fs234 s129 s233)) (H := H234) (fun k => mkEnv_ok ty234 (fun p hp => by
    unfold fs234 at hp
    rcases List.mem_cons.1 hp with rfl | hp
    · exact S129
    rcases List.mem_cons.1 hp with rfl | hp
    · exact S233
    cases hp)) mixedOK (by kernel_rfl : Try.prog.funcs[234]? = some Try.f234) (by kernel_rfl) (by kernel_rfl : Try.f234.body = some body234) (by kernel_rfl) (by kernel_rfl)
    (fun x y hw hy => by obtain ⟨k, hk⟩ := h234 x.1 x.2.1 y hw hy; exact ⟨k, (ev234 s129 s233 k x).trans hk⟩)
/-! ### jitney/jitref2.counting -/
theorem S159_234 : SoundF Try.prog 159 (.rfn (.struct (.cons .str (.cons (.int .i64) (.cons (.int .i64) (.cons (.int .i64) (.cons .str (.cons .str (.cons (.struct (.cons .str (.cons (.int .i64) (.cons (.int .i64) .nil)))) (.cons (.struct (.cons .str (.cons .str (.cons .str (.cons .str (.cons (.int .i64) (.cons (.int .i64) (.cons (.int .i64) (.cons (.int .i64) .nil))))))))) .nil))))))))) .nil 234 fun xs a => s159_234 xs) := SFP159 (enters_of (by kernel_rfl : Try.prog.funcs[234]? = some Try.f234) (by kernel_rfl) (by kernel_rfl : Try.f234.body = some body234)) S234
theorem S166 : SoundF Try.prog 166 (.pfn (.cons (.slice (.struct (.cons .str (.cons (.int .i64) (.cons (.int .i64) (.cons (.int .i64) (.cons .str (.cons .str (.cons (.struct (.cons .str (.cons (.int .i64) (.cons (.int .i64) .nil)))) (.cons (.struct (.cons .str (.cons .str (.cons .str (.cons .str (.cons (.int .i64) (.cons (.int .i64) (.cons (.int .i64) (.cons (.int .i64) .nil))))))))) .nil)))))))))) (.cons (.int .i64) (.cons (.int .i64) .nil))) (.cons (.slice (.struct (.cons .str (.cons (.int .i64) (.cons (.int .i64) (.cons (.int .i64) (.cons .str (.cons .str (.cons (.struct (.cons .str (.cons (.int .i64) (.cons (.int .i64) .nil)))) (.cons (.struct (.cons .str (.cons .str (.cons .str (.cons .str (.cons (.int .i64) (.cons (.int .i64) (.cons (.int .i64) (.cons (.int .i64) .nil))))))))) .nil)))))))))) .nil) fun x => s166 x.1 x.2.1 x.2.2.1) :=
  pfnR_sound (E := fun k => mkEnv ts166 (fs166 s159_234 s233)) (H := H166) (fun k => mkEnv_ok ty166 (fun p hp => by
    unfold fs166 at hp
    rcases List.mem_cons.1 hp with rfl | hp
    · exact S159_234
    rcases List.mem_cons.1 hp with rfl | hp
    · exact S233
    cases hp)) mixedOK (by kernel_rfl : Try.prog.funcs[166]? = some Try.f166) (by kernel_rfl) (by kernel_rfl : Try.f166.body = some body166) (by kernel_rfl) (by kernel_rfl)
    (fun x y hw hy => by obtain ⟨k, hk⟩ := h166 x.1 x.2.1 x.2.2.1 y hw hy; exact ⟨k, (ev166 s159_234 s233 k x).trans hk⟩)
/-! ### jitney/jitref2.CarDeeds -/
theorem S66 : SoundF Try.prog 66 (.pfn (.cons (.slice (.struct (.cons .str (.cons (.int .i64) (.cons (.int .i64) (.cons (.int .i64) (.cons .str (.cons .str (.cons (.struct (.cons .str (.cons (.int .i64) (.cons (.int .i64) .nil)))) (.cons (.struct (.cons .str (.cons .str (.cons .str (.cons .str (.cons (.int .i64) (.cons (.int .i64) (.cons (.int .i64) (.cons (.int .i64) .nil))))))))) .nil)))))))))) (.cons (.int .i64) .nil)) (.cons (.slice (.struct (.cons .str (.cons (.int .i64) (.cons (.int .i64) (.cons (.int .i64) (.cons .str (.cons .str (.cons (.struct (.cons .str (.cons (.int .i64) (.cons (.int .i64) .nil)))) (.cons (.struct (.cons .str (.cons .str (.cons .str (.cons .str (.cons (.int .i64) (.cons (.int .i64) (.cons (.int .i64) (.cons (.int .i64) .nil))))))))) .nil)))))))))) .nil) fun x => s66 x.1 x.2.1) :=
  pfn_sound (E := fun k => mkEnv ts66 (fs66 s166)) (H := H66) (fun k => mkEnv_ok ty66 (fun p hp => by
    unfold fs66 at hp
    rcases List.mem_cons.1 hp with rfl | hp
    · exact S166
    cases hp)) mixedOK (by kernel_rfl : Try.prog.funcs[66]? = some Try.f66) (by kernel_rfl) (by kernel_rfl : Try.f66.body = some body66) (by kernel_rfl) (by kernel_rfl)
    (fun x y hw hy => by obtain ⟨k, hk⟩ := h66 x.1 x.2.1 y hw hy; exact ⟨k, (ev66 s166 k x).trans hk⟩)
/-! ### jitney/jitref2.AskedOf -/
theorem S67 : SoundF Try.prog 67 (.pfn (.cons (.slice (.struct (.cons .str (.cons (.int .i64) (.cons (.int .i64) (.cons (.int .i64) (.cons .str (.cons .str (.cons (.struct (.cons .str (.cons (.int .i64) (.cons (.int .i64) .nil)))) (.cons (.struct (.cons .str (.cons .str (.cons .str (.cons .str (.cons (.int .i64) (.cons (.int .i64) (.cons (.int .i64) (.cons (.int .i64) .nil))))))))) .nil)))))))))) (.cons (.int .i64) .nil)) (.cons (.slice (.struct (.cons .str (.cons .str (.cons .str (.cons .str (.cons (.int .i64) (.cons (.int .i64) (.cons (.int .i64) (.cons (.int .i64) .nil)))))))))) .nil) fun x => s67 x.1 x.2.1) :=
  pfn_sound (E := fun k => mkEnv ts67 (fs67 s166)) (H := H67) (fun k => mkEnv_ok ty67 (fun p hp => by
    unfold fs67 at hp
    rcases List.mem_cons.1 hp with rfl | hp
    · exact S166
    cases hp)) mixedOK (by kernel_rfl : Try.prog.funcs[67]? = some Try.f67) (by kernel_rfl) (by kernel_rfl : Try.f67.body = some body67) (by kernel_rfl) (by kernel_rfl)
    (fun x y hw hy => by obtain ⟨k, hk⟩ := h67 x.1 x.2.1 y hw hy; exact ⟨k, (ev67 s166 k x).trans hk⟩)
/-! ### slices.Equal[[]jitney/api.Deed,jitney/api.Deed] -/
theorem S69 : SoundF Try.prog 69 (.fn (.cons (.slice (.struct (.cons .str (.cons (.int .i64) (.cons (.int .i64) (.cons (.int .i64) (.cons .str (.cons .str (.cons (.struct (.cons .str (.cons (.int .i64) (.cons (.int .i64) .nil)))) (.cons (.struct (.cons .str (.cons .str (.cons .str (.cons .str (.cons (.int .i64) (.cons (.int .i64) (.cons (.int .i64) (.cons (.int .i64) .nil))))))))) .nil)))))))))) (.cons (.slice (.struct (.cons .str (.cons (.int .i64) (.cons (.int .i64) (.cons (.int .i64) (.cons .str (.cons .str (.cons (.struct (.cons .str (.cons (.int .i64) (.cons (.int .i64) .nil)))) (.cons (.struct (.cons .str (.cons .str (.cons .str (.cons .str (.cons (.int .i64) (.cons (.int .i64) (.cons (.int .i64) (.cons (.int .i64) .nil))))))))) .nil)))))))))) .nil)) (.cons .bool .nil) fun x => (s69 x.1 x.2.1, ())) :=
  fn_sound (E := fun k => mkEnv ts69 (fs69 )) (H := H69) (fun k => mkEnv_ok ty69 (fun p hp => by unfold fs69 at hp; cases hp)) mixedOK (by kernel_rfl : Try.prog.funcs[69]? = some Try.f69) (by kernel_rfl) (by kernel_rfl : Try.f69.body = some body69) (by kernel_rfl) (by kernel_rfl)
    (fun x hw => by obtain ⟨k, hk⟩ := h69 x.1 x.2.1 hw; exact ⟨k, (ev69  k x).trans hk⟩)
/-! ### slices.Equal[[]jitney/api.Ride,jitney/api.Ride] -/
theorem S70 : SoundF Try.prog 70 (.fn (.cons (.slice (.struct (.cons .str (.cons .str (.cons .str (.cons .str (.cons (.int .i64) (.cons (.int .i64) (.cons (.int .i64) (.cons (.int .i64) .nil)))))))))) (.cons (.slice (.struct (.cons .str (.cons .str (.cons .str (.cons .str (.cons (.int .i64) (.cons (.int .i64) (.cons (.int .i64) (.cons (.int .i64) .nil)))))))))) .nil)) (.cons .bool .nil) fun x => (s70 x.1 x.2.1, ())) :=
  fn_sound (E := fun k => mkEnv ts70 (fs70 )) (H := H70) (fun k => mkEnv_ok ty70 (fun p hp => by unfold fs70 at hp; cases hp)) mixedOK (by kernel_rfl : Try.prog.funcs[70]? = some Try.f70) (by kernel_rfl) (by kernel_rfl : Try.f70.body = some body70) (by kernel_rfl) (by kernel_rfl)
    (fun x hw => by obtain ⟨k, hk⟩ := h70 x.1 x.2.1 hw; exact ⟨k, (ev70  k x).trans hk⟩)
/-! ### jitney/net.Write -/
theorem S71 : SoundF Try.prog 71 (.pfn (.cons (.slice (.struct (.cons .str (.cons (.int .i64) (.cons (.int .i64) (.cons (.int .i64) (.cons .str (.cons .str (.cons (.struct (.cons .str (.cons (.int .i64) (.cons (.int .i64) .nil)))) (.cons (.struct (.cons .str (.cons .str (.cons .str (.cons .str (.cons (.int .i64) (.cons (.int .i64) (.cons (.int .i64) (.cons (.int .i64) .nil))))))))) .nil)))))))))) (.cons (.struct (.cons .str (.cons (.int .i64) (.cons (.int .i64) (.cons (.int .i64) (.cons .str (.cons .str (.cons (.struct (.cons .str (.cons (.int .i64) (.cons (.int .i64) .nil)))) (.cons (.struct (.cons .str (.cons .str (.cons .str (.cons .str (.cons (.int .i64) (.cons (.int .i64) (.cons (.int .i64) (.cons (.int .i64) .nil))))))))) .nil))))))))) .nil)) (.cons (.slice (.struct (.cons .str (.cons (.int .i64) (.cons (.int .i64) (.cons (.int .i64) (.cons .str (.cons .str (.cons (.struct (.cons .str (.cons (.int .i64) (.cons (.int .i64) .nil)))) (.cons (.struct (.cons .str (.cons .str (.cons .str (.cons .str (.cons (.int .i64) (.cons (.int .i64) (.cons (.int .i64) (.cons (.int .i64) .nil))))))))) .nil)))))))))) (.cons (.int .i64) .nil)) fun x => s71 x.1 x.2.1) :=
  pfn_sound (E := fun k => mkEnv ts71 (fs71 m62 s68 s160 s167)) (H := H71) (fun k => mkEnv_ok ty71 (fun p hp => by
    unfold fs71 at hp
    rcases List.mem_cons.1 hp with rfl | hp
    · exact SM62
    rcases List.mem_cons.1 hp with rfl | hp
    · exact S68
    rcases List.mem_cons.1 hp with rfl | hp
    · exact S160
    rcases List.mem_cons.1 hp with rfl | hp
    · exact S167
    cases hp)) mixedOK (by kernel_rfl : Try.prog.funcs[71]? = some Try.f71) (by kernel_rfl) (by kernel_rfl : Try.f71.body = some body71) (by kernel_rfl) (by kernel_rfl)
    (fun x y hw hy => by obtain ⟨k, hk⟩ := h71 x.1 x.2.1 y hw hy; exact ⟨k, (ev71 m62 s68 s160 s167 k x).trans hk⟩)
/-! ### jitney/jitref2.WriteDeed -/
theorem S72 : SoundF Try.prog 72 (.pfn (.cons (.slice (.struct (.cons .str (.cons (.int .i64) (.cons (.int .i64) (.cons (.int .i64) (.cons .str (.cons .str (.cons (.struct (.cons .str (.cons (.int .i64) (.cons (.int .i64) .nil)))) (.cons (.struct (.cons .str (.cons .str (.cons .str (.cons .str (.cons (.int .i64) (.cons (.int .i64) (.cons (.int .i64) (.cons (.int .i64) .nil))))))))) .nil)))))))))) (.cons (.struct (.cons .str (.cons (.int .i64) (.cons (.int .i64) (.cons (.int .i64) (.cons .str (.cons .str (.cons (.struct (.cons .str (.cons (.int .i64) (.cons (.int .i64) .nil)))) (.cons (.struct (.cons .str (.cons .str (.cons .str (.cons .str (.cons (.int .i64) (.cons (.int .i64) (.cons (.int .i64) (.cons (.int .i64) .nil))))))))) .nil))))))))) .nil)) (.cons (.slice (.struct (.cons .str (.cons (.int .i64) (.cons (.int .i64) (.cons (.int .i64) (.cons .str (.cons .str (.cons (.struct (.cons .str (.cons (.int .i64) (.cons (.int .i64) .nil)))) (.cons (.struct (.cons .str (.cons .str (.cons .str (.cons .str (.cons (.int .i64) (.cons (.int .i64) (.cons (.int .i64) (.cons (.int .i64) .nil))))))))) .nil)))))))))) (.cons (.int .i64) .nil)) fun x => s72 x.1 x.2.1) :=
  pfn_sound (E := fun k => mkEnv ts72 (fs72 m62 s153 s154)) (H := H72) (fun k => mkEnv_ok ty72 (fun p hp => by
    unfold fs72 at hp
    rcases List.mem_cons.1 hp with rfl | hp
    · exact SM62
    rcases List.mem_cons.1 hp with rfl | hp
    · exact S153
    rcases List.mem_cons.1 hp with rfl | hp
    · exact S154
    cases hp)) mixedOK (by kernel_rfl : Try.prog.funcs[72]? = some Try.f72) (by kernel_rfl) (by kernel_rfl : Try.f72.body = some body72) (by kernel_rfl) (by kernel_rfl)
    (fun x y hw hy => by obtain ⟨k, hk⟩ := h72 x.1 x.2.1 y hw hy; exact ⟨k, (ev72 m62 s153 s154 k x).trans hk⟩)
/-! ### jitney/jitlaw2.netted -/
theorem S73 : SoundF Try.prog 73 (.pfn .nil (.cons .bool .nil) fun x => s73) :=
  pfn_sound (E := fun k => mkEnv ts73 (fs73 s64)) (H := H73) (fun k => mkEnv_ok ty73 (fun p hp => by
    unfold fs73 at hp
    rcases List.mem_cons.1 hp with rfl | hp
    · exact S64
    cases hp)) mixedOK (by kernel_rfl : Try.prog.funcs[73]? = some Try.f73) (by kernel_rfl) (by kernel_rfl : Try.f73.body = some body73) (by kernel_rfl) (by kernel_rfl)
    (fun x y hw hy => by obtain ⟨k, hk⟩ := h73  y hw hy; exact ⟨k, (ev73 s64 k x).trans hk⟩)
/-! ### jitney/jitlaw2.DeedsMerge -/
theorem S7 : SoundF Try.prog 7 (.pfn (.cons (.slice (.struct (.cons .str (.cons (.int .i64) (.cons (.int .i64) (.cons (.int .i64) (.cons .str (.cons .str (.cons (.struct (.cons .str (.cons (.int .i64) (.cons (.int .i64) .nil)))) (.cons (.struct (.cons .str (.cons .str (.cons .str (.cons .str (.cons (.int .i64) (.cons (.int .i64) (.cons (.int .i64) (.cons (.int .i64) .nil))))))))) .nil)))))))))) (.cons (.slice (.struct (.cons .str (.cons (.int .i64) (.cons (.int .i64) (.cons (.int .i64) (.cons .str (.cons .str (.cons (.struct (.cons .str (.cons (.int .i64) (.cons (.int .i64) .nil)))) (.cons (.struct (.cons .str (.cons .str (.cons .str (.cons .str (.cons (.int .i64) (.cons (.int .i64) (.cons (.int .i64) (.cons (.int .i64) .nil))))))))) .nil)))))))))) (.cons (.int .i64) (.cons (.struct (.cons .str (.cons (.int .i64) (.cons (.int .i64) (.cons (.int .i64) (.cons .str (.cons .str (.cons (.struct (.cons .str (.cons (.int .i64) (.cons (.int .i64) .nil)))) (.cons (.struct (.cons .str (.cons .str (.cons .str (.cons .str (.cons (.int .i64) (.cons (.int .i64) (.cons (.int .i64) (.cons (.int .i64) .nil))))))))) .nil))))))))) .nil)))) (.cons .bool .nil) fun x => s7 x.1 x.2.1 x.2.2.1 x.2.2.2.1) :=
  pfn_sound (E := fun k => mkEnv ts7 (fs7 s20 s32 s60 s61 s62 s63 s64 s65 s66 s67 s68 s69 s70 s71 s72 s73)) (H := H7) (fun k => mkEnv_ok ty7 (fun p hp => by
    unfold fs7 at hp
    rcases List.mem_cons.1 hp with rfl | hp
    · exact S20
    rcases List.mem_cons.1 hp with rfl | hp
    · exact S32
    rcases List.mem_cons.1 hp with rfl | hp
    · exact S60
    rcases List.mem_cons.1 hp with rfl | hp
    · exact S61
    rcases List.mem_cons.1 hp with rfl | hp
    · exact S62
    rcases List.mem_cons.1 hp with rfl | hp
    · exact S63
    rcases List.mem_cons.1 hp with rfl | hp
    · exact S64
    rcases List.mem_cons.1 hp with rfl | hp
    · exact S65
    rcases List.mem_cons.1 hp with rfl | hp
    · exact S66
    rcases List.mem_cons.1 hp with rfl | hp
    · exact S67
    rcases List.mem_cons.1 hp with rfl | hp
    · exact S68
    rcases List.mem_cons.1 hp with rfl | hp
    · exact S69
    rcases List.mem_cons.1 hp with rfl | hp
    · exact S70
    rcases List.mem_cons.1 hp with rfl | hp
    · exact S71
    rcases List.mem_cons.1 hp with rfl | hp
    · exact S72
    rcases List.mem_cons.1 hp with rfl | hp
    · exact S73
    cases hp)) mixedOK (by kernel_rfl : Try.prog.funcs[7]? = some Try.f7) (by kernel_rfl) (by kernel_rfl : Try.f7.body = some body7) (by kernel_rfl) (by kernel_rfl)
    (fun x y hw hy => by obtain ⟨k, hk⟩ := h7 x.1 x.2.1 x.2.2.1 x.2.2.2.1 y hw hy; exact ⟨k, (ev7 s20 s32 s60 s61 s62 s63 s64 s65 s66 s67 s68 s69 s70 s71 s72 s73 k x).trans hk⟩)
end Go.Vm
