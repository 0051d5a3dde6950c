/- What function 30 (jitney/jitlaw2.matched) gives: shown by unrolling. Own work. -/
import Derived.Test.YtbjpkdbneopgkaaGreatDoorORep
import Derived.Test.YtbjpkdbneopgkaaGreatDoorProg
set_option maxRecDepth 100000
set_option linter.unusedVariables false
namespace Go.Vm
open Go.Proofs
def gots : List (Nat × TD) := [(1, (.cell .func)), (2, (.data (.int .i64))), (3, (.data (.int .i64))), (4, (.data .bool)), (5, (.data (.int .u8))), (6, (.data (.int .u8))), (7, (.data (.struct (.cons (.int .i64) (.cons (.int .i64) (.cons .bool (.cons (.int .u8) .nil))))))), (8, (.data (.struct (.cons (.int .i64) (.cons (.int .i64) (.cons .bool (.cons (.int .u8) .nil))))))), (9, (.data .str)), (10, (.data .str)), (11, (.data .str)), (12, (.data (.int .u64))), (15, (.cell .ptr)), (16, (.cell .ptr)), (17, (.cell .ptr)), (18, (.agg (.cons (.cell .ptr) .nil))), (19, (.agg (.cons (.cell .ptr) .nil))), (20, (.cell .iface)), (21, (.data (.int .i32))), (22, (.data (.slice (.struct (.cons (.int .i64) (.cons (.int .i64) (.cons (.struct (.cons .str (.cons .str (.cons .str (.cons .str (.cons (.int .i64) (.cons (.int .i64) (.cons (.int .i64) (.cons (.int .i64) .nil))))))))) .nil))))))), (23, (.data (.int .i64))), (24, (.cell .func)), (25, (.cell .func)), (27, (.cell .func)), (28, (.cell .func)), (29, (.cell .func)), (30, (.data (.struct (.cons .str (.cons .str (.cons .str (.cons .str (.cons (.int .i64) (.cons (.int .i64) (.cons (.int .i64) (.cons (.int .i64) .nil))))))))))), (31, (.data (.struct (.cons .str (.cons .str (.cons .str (.cons .str (.cons (.int .i64) (.cons (.int .i64) (.cons (.int .i64) (.cons (.int .i64) .nil))))))))))), (32, (.data (.struct (.cons (.int .i64) (.cons (.int .i64) (.cons (.struct (.cons .str (.cons .str (.cons .str (.cons .str (.cons (.int .i64) (.cons (.int .i64) (.cons (.int .i64) (.cons (.int .i64) .nil))))))))) .nil)))))), (33, (.data (.struct (.cons (.int .i64) (.cons (.int .i64) (.cons (.struct (.cons .str (.cons .str (.cons .str (.cons .str (.cons (.int .i64) (.cons (.int .i64) (.cons (.int .i64) (.cons (.int .i64) .nil))))))))) .nil)))))), (35, (.cell .func)), (36, (.cell .func)), (37, (.cell .func)), (38, (.cell .func)), (39, (.data (.slice (.struct (.cons .str (.cons (.int .i64) (.cons (.int .i64) (.cons (.int .i64) (.cons .str (.cons .str (.cons (.struct (.cons .str (.cons (.int .i64) (.cons (.int .i64) .nil)))) (.cons (.struct (.cons .str (.cons .str (.cons .str (.cons .str (.cons (.int .i64) (.cons (.int .i64) (.cons (.int .i64) (.cons (.int .i64) .nil))))))))) .nil)))))))))))), (40, (.cell .func)), (41, (.cell .func)), (42, (.cell .func)), (43, (.cell .func)), (44, (.data (.struct (.cons .str (.cons (.int .i64) (.cons (.int .i64) .nil)))))), (45, (.data (.struct (.cons .str (.cons (.int .i64) (.cons (.int .i64) .nil)))))), (46, (.data (.struct (.cons .str (.cons (.int .i64) (.cons (.int .i64) (.cons (.int .i64) (.cons .str (.cons .str (.cons (.struct (.cons .str (.cons (.int .i64) (.cons (.int .i64) .nil)))) (.cons (.struct (.cons .str (.cons .str (.cons .str (.cons .str (.cons (.int .i64) (.cons (.int .i64) (.cons (.int .i64) (.cons (.int .i64) .nil))))))))) .nil))))))))))), (47, (.data (.struct (.cons .str (.cons (.int .i64) (.cons (.int .i64) (.cons (.int .i64) (.cons .str (.cons .str (.cons (.struct (.cons .str (.cons (.int .i64) (.cons (.int .i64) .nil)))) (.cons (.struct (.cons .str (.cons .str (.cons .str (.cons .str (.cons (.int .i64) (.cons (.int .i64) (.cons (.int .i64) (.cons (.int .i64) .nil))))))))) .nil))))))))))), (49, (.cell .func)), (50, (.cell .func)), (51, (.cell .func)), (52, (.data (.slice (.struct (.cons .str (.cons .str (.cons (.int .i64) .nil))))))), (53, (.cell .func)), (54, (.cell .func)), (55, (.cell .func)), (56, (.cell .func)), (57, (.data (.struct (.cons .str (.cons .str (.cons (.int .i64) .nil)))))), (58, (.data (.struct (.cons .str (.cons .str (.cons (.int .i64) .nil)))))), (60, (.cell .func)), (61, (.cell .func)), (62, (.cell .func)), (63, (.cell .func)), (64, (.cell .func)), (65, (.cell .func)), (66, (.cell .func)), (67, (.cell .func)), (68, (.cell .func)), (69, (.data (.slice .str))), (70, (.cell .func)), (71, (.cell .ptr)), (72, (.data (.slice (.int .u8)))), (73, (.agg (.cons (.cell .ptr) (.cons (.data (.slice (.int .u8))) .nil)))), (74, (.agg (.cons (.cell .ptr) (.cons (.data (.slice (.int .u8))) .nil)))), (75, (.cell .func)), (76, (.cell .iface)), (77, (.cell .iface)), (79, (.cell .func)), (80, (.cell .func)), (81, (.cell .func)), (82, (.cell .func)), (84, (.cell .func)), (86, (.cell .func)), (88, (.cell .func)), (89, (.cell .func)), (90, (.cell .func)), (91, (.data (.slice (.int .i64)))), (93, (.cell .func)), (95, (.cell .func)), (96, (.data (.slice (.struct (.cons (.int .i64) (.cons .bool (.cons (.int .i64) .nil))))))), (97, (.data (.struct (.cons .str (.cons .str (.cons .str (.cons .str (.cons (.int .i64) (.cons (.int .i64) (.cons (.int .i64) (.cons (.int .i64) (.cons (.int .i64) (.cons (.int .i64) (.cons (.int .i64) (.cons (.int .i64) (.cons (.int .i64) (.cons (.slice (.struct (.cons (.int .i64) (.cons .bool (.cons (.int .i64) .nil))))) .nil))))))))))))))))), (98, (.data (.struct (.cons .str (.cons .str (.cons .str (.cons .str (.cons (.int .i64) (.cons (.int .i64) (.cons (.int .i64) (.cons (.int .i64) (.cons (.int .i64) (.cons (.int .i64) (.cons (.int .i64) (.cons (.int .i64) (.cons (.int .i64) (.cons (.slice (.struct (.cons (.int .i64) (.cons .bool (.cons (.int .i64) .nil))))) .nil))))))))))))))))), (99, (.cell .func)), (100, (.cell .func)), (101, (.cell .func)), (102, (.cell .func)), (103, (.cell .func)), (104, (.cell .func)), (106, (.cell .func)), (107, (.map .str (.int .i64))), (108, (.data (.slice (.struct (.cons .str (.cons .str (.cons .str (.cons .str (.cons (.int .i64) (.cons (.int .i64) (.cons (.int .i64) (.cons (.int .i64) .nil)))))))))))), (110, (.cell .func)), (111, (.cell .func)), (112, (.cell .func)), (114, (.cell .func)), (115, (.cell .func)), (116, (.cell .func)), (117, (.cell .func)), (118, (.cell .func)), (119, (.cell .func)), (120, (.cell .ptr)), (121, (.cell .ptr)), (123, (.cell .func)), (124, (.cell .func)), (125, (.cell .func)), (126, (.cell .func)), (127, (.cell .func)), (128, (.data (.slice (.struct (.cons .str (.cons .str (.cons .str (.cons .str (.cons (.int .i64) (.cons (.int .i64) (.cons (.int .i64) (.cons (.int .i64) (.cons (.int .i64) (.cons (.int .i64) (.cons (.int .i64) (.cons (.int .i64) (.cons (.int .i64) (.cons (.slice (.struct (.cons (.int .i64) (.cons .bool (.cons (.int .i64) .nil))))) .nil)))))))))))))))))), (130, (.cell .func)), (131, (.cell .ptr)), (132, (.cell .func)), (133, (.map (.struct (.cons .str (.cons (.int .i64) .nil))) .bool)), (134, (.data (.struct (.cons .str (.cons (.int .i64) .nil))))), (135, (.data (.struct (.cons .str (.cons (.int .i64) .nil))))), (136, (.cell .func)), (137, (.cell .func)), (138, (.cell .func)), (139, (.cell .ptr)), (141, (.cell .func)), (142, (.cell .func)), (143, (.cell .func)), (147, (.cell .func)), (149, (.cell .func)), (152, (.cell .func)), (153, (.cell .func)), (156, (.data (.struct (.cons (.int .i64) (.cons .bool (.cons (.int .i64) .nil)))))), (157, (.cell .func)), (158, (.cell .func)), (159, (.map .str (.struct (.cons .str (.cons .str (.cons .str (.cons .str (.cons (.int .i64) (.cons (.int .i64) (.cons (.int .i64) (.cons (.int .i64) .nil))))))))))), (160, (.cell .func)), (161, (.cell .func)), (162, (.cell .func)), (163, (.data (.slice (.slice (.int .i64))))), (164, (.data (.struct (.cons (.slice .str) (.cons (.slice .str) (.cons (.slice (.slice (.int .i64))) (.cons (.slice (.int .i64)) (.cons (.slice (.int .i64)) .nil)))))))), (165, (.data (.struct (.cons (.slice .str) (.cons (.slice .str) (.cons (.slice (.slice (.int .i64))) (.cons (.slice (.int .i64)) (.cons (.slice (.int .i64)) .nil)))))))), (167, (.cell .func)), (168, (.cell .func)), (169, (.data (.slice .bool))), (172, (.data (.int .u64))), (186, (.data (.int .u64))), (190, (.cell .func)), (191, (.cell .func)), (192, (.cell .func)), (194, (.cell .func)), (196, (.data (.int .u32))), (204, (.agg (.cons (.data .str) (.cons (.data .str) (.cons (.cell .iface) .nil))))), (207, (.cell .func)), (209, (.cell .func)), (210, (.cell .func)), (211, (.data (.int .i64))), (213, (.cell .func)), (256, (.cell .func))]
theorem goty : chkTypes Tryz.prog gots = true := by kernel_rfl
def goH : Hints := { loop := fun _ => none, region := fun _ => none, cond := fun _ => none, block := fun _ => none }
def goEnv (fs : List (Nat × FSem)) (vs : List (Nat × Nat)) : Env := { td := types gots, call := calls fs, fv := fvars vs, view := true, nest := true }
theorem goEnv_ok {fs : List (Nat × FSem)} {vs : List (Nat × Nat)} (hf : ∀ p ∈ fs, SoundF Tryz.prog p.1 p.2) : EnvOK Tryz.prog (goEnv fs vs) := ⟨types_ok gots goty, calls_sound fs hf⟩
/-! ### jitney/base.Key -/
noncomputable def gob98 : Code := match Tryz.f98.body with | some c => c | none => .skip
noncomputable def gof98 (k : Nat) : List (Nat × FSem) := []
theorem goI98 (k : Nat) : SoundF Tryz.prog 98 (.ev (goEnv (gof98 k) []) goH k gob98 54 [.tmp 2]) :=
  ev_inline (goEnv_ok (fun p hp => by
    unfold gof98 at hp
    cases hp)) mixedOK (by kernel_rfl : Tryz.prog.funcs[98]? = some Tryz.f98) (by kernel_rfl) (by kernel_rfl : Tryz.f98.body = some gob98) (by kernel_rfl) (by kernel_rfl)
/-! ### jitney/base.Out -/
noncomputable def gob99 : Code := match Tryz.f99.body with | some c => c | none => .skip
noncomputable def gof99 (k : Nat) : List (Nat × FSem) := []
theorem goI99 (k : Nat) : SoundF Tryz.prog 99 (.ev (goEnv (gof99 k) []) goH k gob99 15 [.tmp 6]) :=
  ev_inline (goEnv_ok (fun p hp => by
    unfold gof99 at hp
    cases hp)) mixedOK (by kernel_rfl : Tryz.prog.funcs[99]? = some Tryz.f99) (by kernel_rfl) (by kernel_rfl : Tryz.f99.body = some gob99) (by kernel_rfl) (by kernel_rfl)
/-! ### strings.Compare -/
noncomputable def gob76 : Code := match Tryz.f76.body with | some c => c | none => .skip
noncomputable def gof76 (k : Nat) : List (Nat × FSem) := [(104, .fn (.cons .str (.cons .str .nil)) (.cons (.int .i64) .nil) fun x => (s104 x.1 x.2.1, ()))]
theorem goI76 (k : Nat) : SoundF Tryz.prog 76 (.ev (goEnv (gof76 k) []) goH k gob76 8 [.tmp 4]) :=
  ev_inline (goEnv_ok (fun p hp => by
    unfold gof76 at hp
    rcases List.mem_cons.1 hp with rfl | hp
    · exact S104
    cases hp)) mixedOK (by kernel_rfl : Tryz.prog.funcs[76]? = some Tryz.f76) (by kernel_rfl) (by kernel_rfl : Tryz.f76.body = some gob76) (by kernel_rfl) (by kernel_rfl)
/-! ### cmp.Or[int] -/
noncomputable def gob108 : Code := match Tryz.f108.body with | some c => c | none => .skip
noncomputable def gof108 (k : Nat) : List (Nat × FSem) := []
theorem goI108 (k : Nat) : SoundF Tryz.prog 108 (.ev (goEnv (gof108 k) []) goH k gob108 18 [.tmp 2]) :=
  ev_inline (goEnv_ok (fun p hp => by
    unfold gof108 at hp
    cases hp)) mixedOK (by kernel_rfl : Tryz.prog.funcs[108]? = some Tryz.f108) (by kernel_rfl) (by kernel_rfl : Tryz.f108.body = some gob108) (by kernel_rfl) (by kernel_rfl)
/-! ### jitney/match.byOffer -/
noncomputable def gob100 : Code := match Tryz.f100.body with | some c => c | none => .skip
noncomputable def gof100 (k : Nat) : List (Nat × FSem) := [(76, .ev (goEnv (gof76 k) []) goH k gob76 8 [.tmp 4]), (108, .ev (goEnv (gof108 k) []) goH k gob108 18 [.tmp 2])]
theorem goI100 (k : Nat) : SoundF Tryz.prog 100 (.ev (goEnv (gof100 k) []) goH k gob100 17 [.tmp 4]) :=
  ev_inline (goEnv_ok (fun p hp => by
    unfold gof100 at hp
    rcases List.mem_cons.1 hp with rfl | hp
    · exact goI76 k
    rcases List.mem_cons.1 hp with rfl | hp
    · exact goI108 k
    cases hp)) mixedOK (by kernel_rfl : Tryz.prog.funcs[100]? = some Tryz.f100) (by kernel_rfl) (by kernel_rfl : Tryz.f100.body = some gob100) (by kernel_rfl) (by kernel_rfl)
/-! ### jitney/match.CheckOffers -/
noncomputable def gob68 : Code := match Tryz.f68.body with | some c => c | none => .skip
noncomputable def gof68 (k : Nat) : List (Nat × FSem) := [(98, .ev (goEnv (gof98 k) []) goH k gob98 54 [.tmp 2]), (99, .ev (goEnv (gof99 k) []) goH k gob99 15 [.tmp 6]), (100, .ev (goEnv (gof100 k) []) goH k gob100 17 [.tmp 4])]
theorem goI68 (k : Nat) : SoundF Tryz.prog 68 (.ev (goEnv (gof68 k) []) goH k gob68 44 [.tmp 2]) :=
  ev_inline (goEnv_ok (fun p hp => by
    unfold gof68 at hp
    rcases List.mem_cons.1 hp with rfl | hp
    · exact goI98 k
    rcases List.mem_cons.1 hp with rfl | hp
    · exact goI99 k
    rcases List.mem_cons.1 hp with rfl | hp
    · exact goI100 k
    cases hp)) mixedOK (by kernel_rfl : Tryz.prog.funcs[68]? = some Tryz.f68) (by kernel_rfl) (by kernel_rfl : Tryz.f68.body = some gob68) (by kernel_rfl) (by kernel_rfl)
/-! ### jitney/match.carsOf$1 -/
noncomputable def gob161 : Code := match Tryz.f161.body with | some c => c | none => .skip
noncomputable def gof161 (k : Nat) : List (Nat × FSem) := []
theorem goI161 (k : Nat) : SoundF Tryz.prog 161 (.ev (goEnv (gof161 k) []) goH k gob161 5 [.tmp 2]) :=
  ev_inline (goEnv_ok (fun p hp => by
    unfold gof161 at hp
    cases hp)) mixedOK (by kernel_rfl : Tryz.prog.funcs[161]? = some Tryz.f161) (by kernel_rfl) (by kernel_rfl : Tryz.f161.body = some gob161) (by kernel_rfl) (by kernel_rfl)
/-! ### jitney/match.ridesOf$1 -/
noncomputable def gob162 : Code := match Tryz.f162.body with | some c => c | none => .skip
noncomputable def gof162 (k : Nat) : List (Nat × FSem) := []
theorem goI162 (k : Nat) : SoundF Tryz.prog 162 (.ev (goEnv (gof162 k) []) goH k gob162 5 [.tmp 2]) :=
  ev_inline (goEnv_ok (fun p hp => by
    unfold gof162 at hp
    cases hp)) mixedOK (by kernel_rfl : Tryz.prog.funcs[162]? = some Tryz.f162) (by kernel_rfl) (by kernel_rfl : Tryz.f162.body = some gob162) (by kernel_rfl) (by kernel_rfl)
/-! ### math/bits.Len64 -/
noncomputable def gob168 : Code := match Tryz.f168.body with | some c => c | none => .skip
noncomputable def gof168 (k : Nat) : List (Nat × FSem) := []
theorem goI168 (k : Nat) : SoundF Tryz.prog 168 (.ev (goEnv (gof168 k) []) goH k gob168 25 [.tmp 2]) :=
  ev_inline (goEnv_ok (fun p hp => by
    unfold gof168 at hp
    cases hp)) mixedOK (by kernel_rfl : Tryz.prog.funcs[168]? = some Tryz.f168) (by kernel_rfl) (by kernel_rfl : Tryz.f168.body = some gob168) (by kernel_rfl) (by kernel_rfl)
/-! ### math/bits.Len32 -/
noncomputable def gob190 : Code := match Tryz.f190.body with | some c => c | none => .skip
noncomputable def gof190 (k : Nat) : List (Nat × FSem) := []
theorem goI190 (k : Nat) : SoundF Tryz.prog 190 (.ev (goEnv (gof190 k) []) goH k gob190 19 [.tmp 2]) :=
  ev_inline (goEnv_ok (fun p hp => by
    unfold gof190 at hp
    cases hp)) mixedOK (by kernel_rfl : Tryz.prog.funcs[190]? = some Tryz.f190) (by kernel_rfl) (by kernel_rfl : Tryz.f190.body = some gob190) (by kernel_rfl) (by kernel_rfl)
/-! ### math/bits.Len -/
noncomputable def gob158 : Code := match Tryz.f158.body with | some c => c | none => .skip
noncomputable def gof158 (k : Nat) : List (Nat × FSem) := [(168, .ev (goEnv (gof168 k) []) goH k gob168 25 [.tmp 2]), (190, .ev (goEnv (gof190 k) []) goH k gob190 19 [.tmp 2])]
theorem goI158 (k : Nat) : SoundF Tryz.prog 158 (.ev (goEnv (gof158 k) []) goH k gob158 8 [.tmp 2]) :=
  ev_inline (goEnv_ok (fun p hp => by
    unfold gof158 at hp
    rcases List.mem_cons.1 hp with rfl | hp
    · exact goI168 k
    rcases List.mem_cons.1 hp with rfl | hp
    · exact goI190 k
    cases hp)) mixedOK (by kernel_rfl : Tryz.prog.funcs[158]? = some Tryz.f158) (by kernel_rfl) (by kernel_rfl : Tryz.f158.body = some gob158) (by kernel_rfl) (by kernel_rfl)
/-! ### cmp.isNaN[string] -/
noncomputable def gob159 : Code := match Tryz.f159.body with | some c => c | none => .skip
noncomputable def gof159 (k : Nat) : List (Nat × FSem) := []
theorem goI159 (k : Nat) : SoundF Tryz.prog 159 (.ev (goEnv (gof159 k) []) goH k gob159 6 [.tmp 2]) :=
  ev_inline (goEnv_ok (fun p hp => by
    unfold gof159 at hp
    cases hp)) mixedOK (by kernel_rfl : Tryz.prog.funcs[159]? = some Tryz.f159) (by kernel_rfl) (by kernel_rfl : Tryz.f159.body = some gob159) (by kernel_rfl) (by kernel_rfl)
/-! ### cmp.Less[string] -/
noncomputable def gob163 : Code := match Tryz.f163.body with | some c => c | none => .skip
noncomputable def gof163 (k : Nat) : List (Nat × FSem) := [(159, .ev (goEnv (gof159 k) []) goH k gob159 6 [.tmp 2])]
theorem goI163 (k : Nat) : SoundF Tryz.prog 163 (.ev (goEnv (gof163 k) []) goH k gob163 17 [.tmp 4]) :=
  ev_inline (goEnv_ok (fun p hp => by
    unfold gof163 at hp
    rcases List.mem_cons.1 hp with rfl | hp
    · exact goI159 k
    cases hp)) mixedOK (by kernel_rfl : Tryz.prog.funcs[163]? = some Tryz.f163) (by kernel_rfl) (by kernel_rfl : Tryz.f163.body = some gob163) (by kernel_rfl) (by kernel_rfl)
/-! ### slices.insertionSortOrdered[string] -/
noncomputable def gob206 : Code := match Tryz.f206.body with | some c => c | none => .skip
noncomputable def gof206 (k : Nat) : List (Nat × FSem) := [(163, .ev (goEnv (gof163 k) []) goH k gob163 17 [.tmp 4])]
theorem goI206 (k : Nat) : SoundF Tryz.prog 206 (.ev (goEnv (gof206 k) []) goH k gob206 49 []) :=
  ev_inline (goEnv_ok (fun p hp => by
    unfold gof206 at hp
    rcases List.mem_cons.1 hp with rfl | hp
    · exact goI163 k
    cases hp)) mixedOK (by kernel_rfl : Tryz.prog.funcs[206]? = some Tryz.f206) (by kernel_rfl) (by kernel_rfl : Tryz.f206.body = some gob206) (by kernel_rfl) (by kernel_rfl)
/-! ### slices.pdqsortOrdered[string] -/
noncomputable def gob204 : Code := match Tryz.f204.body with | some c => c | none => .skip
noncomputable def gof204 : Nat → Nat → List (Nat × FSem)
  | 0, _ => []
  | d + 1, k => [(163, .ev (goEnv (gof163 k) []) goH k gob163 17 [.tmp 4]), (204, .ev (goEnv (gof204 d k) []) goH k gob204 134 []), (206, .ev (goEnv (gof206 k) []) goH k gob206 49 [])]
theorem goI204 : ∀ (d k : Nat), SoundF Tryz.prog 204 (.ev (goEnv (gof204 d k) []) goH k gob204 134 [])
  | 0, k => ev_inline (goEnv_ok (fun p hp => by unfold gof204 at hp; cases hp)) mixedOK (by kernel_rfl : Tryz.prog.funcs[204]? = some Tryz.f204) (by kernel_rfl) (by kernel_rfl : Tryz.f204.body = some gob204) (by kernel_rfl) (by kernel_rfl)
  | d + 1, k => ev_inline (goEnv_ok (fun p hp => by
    unfold gof204 at hp
    rcases List.mem_cons.1 hp with rfl | hp
    · exact goI163 k
    rcases List.mem_cons.1 hp with rfl | hp
    · exact goI204 d k
    rcases List.mem_cons.1 hp with rfl | hp
    · exact goI206 k
    cases hp)) mixedOK (by kernel_rfl : Tryz.prog.funcs[204]? = some Tryz.f204) (by kernel_rfl) (by kernel_rfl : Tryz.f204.body = some gob204) (by kernel_rfl) (by kernel_rfl)
/-! ### slices.Sort[[]string,string] -/
noncomputable def gob191 : Code := match Tryz.f191.body with | some c => c | none => .skip
noncomputable def gof191 (k : Nat) : List (Nat × FSem) := [(158, .ev (goEnv (gof158 k) []) goH k gob158 8 [.tmp 2]), (204, .ev (goEnv (gof204 4 k) []) goH k gob204 134 [])]
theorem goI191 (k : Nat) : SoundF Tryz.prog 191 (.ev (goEnv (gof191 k) []) goH k gob191 11 []) :=
  ev_inline (goEnv_ok (fun p hp => by
    unfold gof191 at hp
    rcases List.mem_cons.1 hp with rfl | hp
    · exact goI158 k
    rcases List.mem_cons.1 hp with rfl | hp
    · exact goI204 4 k
    cases hp)) mixedOK (by kernel_rfl : Tryz.prog.funcs[191]? = some Tryz.f191) (by kernel_rfl) (by kernel_rfl : Tryz.f191.body = some gob191) (by kernel_rfl) (by kernel_rfl)
/-! ### slices.Compact[[]string,string] -/
noncomputable def gob192 : Code := match Tryz.f192.body with | some c => c | none => .skip
noncomputable def gof192 (k : Nat) : List (Nat × FSem) := []
theorem goI192 (k : Nat) : SoundF Tryz.prog 192 (.ev (goEnv (gof192 k) []) goH k gob192 61 [.tmp 2]) :=
  ev_inline (goEnv_ok (fun p hp => by
    unfold gof192 at hp
    cases hp)) mixedOK (by kernel_rfl : Tryz.prog.funcs[192]? = some Tryz.f192) (by kernel_rfl) (by kernel_rfl : Tryz.f192.body = some gob192) (by kernel_rfl) (by kernel_rfl)
/-! ### jitney/match.names -/
noncomputable def gob160 : Code := match Tryz.f160.body with | some c => c | none => .skip
noncomputable def gof160 (k : Nat) : List (Nat × FSem) := [(161, .ev (goEnv (gof161 k) []) goH k gob161 5 [.tmp 2]), (162, .ev (goEnv (gof162 k) []) goH k gob162 5 [.tmp 2]), (191, .ev (goEnv (gof191 k) []) goH k gob191 11 []), (192, .ev (goEnv (gof192 k) []) goH k gob192 61 [.tmp 2])]
theorem goI160_130 (k : Nat) : SoundF Tryz.prog 160 (.ev (goEnv (gof160 k) [(15, 161)]) goH k gob160 25 [.tmp 4]) :=
  ev_inline (goEnv_ok (fun p hp => by
    unfold gof160 at hp
    rcases List.mem_cons.1 hp with rfl | hp
    · exact goI161 k
    rcases List.mem_cons.1 hp with rfl | hp
    · exact goI162 k
    rcases List.mem_cons.1 hp with rfl | hp
    · exact goI191 k
    rcases List.mem_cons.1 hp with rfl | hp
    · exact goI192 k
    cases hp)) mixedOK (by kernel_rfl : Tryz.prog.funcs[160]? = some Tryz.f160) (by kernel_rfl) (by kernel_rfl : Tryz.f160.body = some gob160) (by kernel_rfl) (by kernel_rfl)
theorem goI160_131 (k : Nat) : SoundF Tryz.prog 160 (.ev (goEnv (gof160 k) [(15, 162)]) goH k gob160 25 [.tmp 4]) :=
  ev_inline (goEnv_ok (fun p hp => by
    unfold gof160 at hp
    rcases List.mem_cons.1 hp with rfl | hp
    · exact goI161 k
    rcases List.mem_cons.1 hp with rfl | hp
    · exact goI162 k
    rcases List.mem_cons.1 hp with rfl | hp
    · exact goI191 k
    rcases List.mem_cons.1 hp with rfl | hp
    · exact goI192 k
    cases hp)) mixedOK (by kernel_rfl : Tryz.prog.funcs[160]? = some Tryz.f160) (by kernel_rfl) (by kernel_rfl : Tryz.f160.body = some gob160) (by kernel_rfl) (by kernel_rfl)
/-! ### jitney/match.carsOf -/
noncomputable def gob130 : Code := match Tryz.f130.body with | some c => c | none => .skip
noncomputable def gof130 (k : Nat) : List (Nat × FSem) := [(160, .ev (goEnv (gof160 k) [(15, 161)]) goH k gob160 25 [.tmp 4]), (161, .ev (goEnv (gof161 k) []) goH k gob161 5 [.tmp 2])]
theorem goI130 (k : Nat) : SoundF Tryz.prog 130 (.ev (goEnv (gof130 k) []) goH k gob130 5 [.tmp 2]) :=
  ev_inline (goEnv_ok (fun p hp => by
    unfold gof130 at hp
    rcases List.mem_cons.1 hp with rfl | hp
    · exact goI160_130 k
    rcases List.mem_cons.1 hp with rfl | hp
    · exact goI161 k
    cases hp)) mixedOK (by kernel_rfl : Tryz.prog.funcs[130]? = some Tryz.f130) (by kernel_rfl) (by kernel_rfl : Tryz.f130.body = some gob130) (by kernel_rfl) (by kernel_rfl)
/-! ### jitney/match.ridesOf -/
noncomputable def gob131 : Code := match Tryz.f131.body with | some c => c | none => .skip
noncomputable def gof131 (k : Nat) : List (Nat × FSem) := [(160, .ev (goEnv (gof160 k) [(15, 162)]) goH k gob160 25 [.tmp 4]), (162, .ev (goEnv (gof162 k) []) goH k gob162 5 [.tmp 2])]
theorem goI131 (k : Nat) : SoundF Tryz.prog 131 (.ev (goEnv (gof131 k) []) goH k gob131 5 [.tmp 2]) :=
  ev_inline (goEnv_ok (fun p hp => by
    unfold gof131 at hp
    rcases List.mem_cons.1 hp with rfl | hp
    · exact goI160_131 k
    rcases List.mem_cons.1 hp with rfl | hp
    · exact goI162 k
    cases hp)) mixedOK (by kernel_rfl : Tryz.prog.funcs[131]? = some Tryz.f131) (by kernel_rfl) (by kernel_rfl : Tryz.f131.body = some gob131) (by kernel_rfl) (by kernel_rfl)
/-! ### slices.isNaN[string] -/
noncomputable def gob164 : Code := match Tryz.f164.body with | some c => c | none => .skip
noncomputable def gof164 (k : Nat) : List (Nat × FSem) := []
theorem goI164 (k : Nat) : SoundF Tryz.prog 164 (.ev (goEnv (gof164 k) []) goH k gob164 6 [.tmp 2]) :=
  ev_inline (goEnv_ok (fun p hp => by
    unfold gof164 at hp
    cases hp)) mixedOK (by kernel_rfl : Tryz.prog.funcs[164]? = some Tryz.f164) (by kernel_rfl) (by kernel_rfl : Tryz.f164.body = some gob164) (by kernel_rfl) (by kernel_rfl)
/-! ### slices.BinarySearch[[]string,string] -/
noncomputable def gob133 : Code := match Tryz.f133.body with | some c => c | none => .skip
noncomputable def gof133 (k : Nat) : List (Nat × FSem) := [(163, .ev (goEnv (gof163 k) []) goH k gob163 17 [.tmp 4]), (164, .ev (goEnv (gof164 k) []) goH k gob164 6 [.tmp 2])]
theorem goI133 (k : Nat) : SoundF Tryz.prog 133 (.ev (goEnv (gof133 k) []) goH k gob133 54 [.tmp 4, .tmp 5]) :=
  ev_inline (goEnv_ok (fun p hp => by
    unfold gof133 at hp
    rcases List.mem_cons.1 hp with rfl | hp
    · exact goI163 k
    rcases List.mem_cons.1 hp with rfl | hp
    · exact goI164 k
    cases hp)) mixedOK (by kernel_rfl : Tryz.prog.funcs[133]? = some Tryz.f133) (by kernel_rfl) (by kernel_rfl : Tryz.f133.body = some gob133) (by kernel_rfl) (by kernel_rfl)
/-! ### (*jitney/match.graph).augment -/
noncomputable def gob134 : Code := match Tryz.f134.body with | some c => c | none => .skip
noncomputable def gof134 : Nat → Nat → List (Nat × FSem)
  | 0, _ => []
  | d + 1, k => [(134, .ev (goEnv (gof134 d k) []) goH k gob134 63 [.tmp 6])]
theorem goI134 : ∀ (d k : Nat), SoundF Tryz.prog 134 (.ev (goEnv (gof134 d k) []) goH k gob134 63 [.tmp 6])
  | 0, k => ev_inline (goEnv_ok (fun p hp => by unfold gof134 at hp; cases hp)) mixedOK (by kernel_rfl : Tryz.prog.funcs[134]? = some Tryz.f134) (by kernel_rfl) (by kernel_rfl : Tryz.f134.body = some gob134) (by kernel_rfl) (by kernel_rfl)
  | d + 1, k => ev_inline (goEnv_ok (fun p hp => by
    unfold gof134 at hp
    rcases List.mem_cons.1 hp with rfl | hp
    · exact goI134 d k
    cases hp)) mixedOK (by kernel_rfl : Tryz.prog.funcs[134]? = some Tryz.f134) (by kernel_rfl) (by kernel_rfl : Tryz.f134.body = some gob134) (by kernel_rfl) (by kernel_rfl)
/-! ### jitney/match.newGraph -/
noncomputable def gob101 : Code := match Tryz.f101.body with | some c => c | none => .skip
noncomputable def gof101 (k : Nat) : List (Nat × FSem) := [(130, .ev (goEnv (gof130 k) []) goH k gob130 5 [.tmp 2]), (131, .ev (goEnv (gof131 k) []) goH k gob131 5 [.tmp 2]), (132, .mfn (.int .i64) (.cons (.slice (.int .i64)) (.cons (.int .i64) .nil)) fun x => s132 x.1 x.2.1), (133, .ev (goEnv (gof133 k) []) goH k gob133 54 [.tmp 4, .tmp 5]), (134, .ev (goEnv (gof134 4 k) []) goH k gob134 63 [.tmp 6])]
theorem goI101 (k : Nat) : SoundF Tryz.prog 101 (.ev (goEnv (gof101 k) []) goH k gob101 108 [.tmp 2]) :=
  ev_inline (goEnv_ok (fun p hp => by
    unfold gof101 at hp
    rcases List.mem_cons.1 hp with rfl | hp
    · exact goI130 k
    rcases List.mem_cons.1 hp with rfl | hp
    · exact goI131 k
    rcases List.mem_cons.1 hp with rfl | hp
    · exact S132
    rcases List.mem_cons.1 hp with rfl | hp
    · exact goI133 k
    rcases List.mem_cons.1 hp with rfl | hp
    · exact goI134 4 k
    cases hp)) mixedOK (by kernel_rfl : Tryz.prog.funcs[101]? = some Tryz.f101) (by kernel_rfl) (by kernel_rfl : Tryz.f101.body = some gob101) (by kernel_rfl) (by kernel_rfl)
/-! ### (*jitney/match.graph).most -/
noncomputable def gob102 : Code := match Tryz.f102.body with | some c => c | none => .skip
noncomputable def gof102 (k : Nat) : List (Nat × FSem) := []
theorem goI102 (k : Nat) : SoundF Tryz.prog 102 (.ev (goEnv (gof102 k) []) goH k gob102 21 [.tmp 2]) :=
  ev_inline (goEnv_ok (fun p hp => by
    unfold gof102 at hp
    cases hp)) mixedOK (by kernel_rfl : Tryz.prog.funcs[102]? = some Tryz.f102) (by kernel_rfl) (by kernel_rfl : Tryz.f102.body = some gob102) (by kernel_rfl) (by kernel_rfl)
/-! ### jitney/match.Most -/
noncomputable def gob73 : Code := match Tryz.f73.body with | some c => c | none => .skip
noncomputable def gof73 (k : Nat) : List (Nat × FSem) := [(68, .ev (goEnv (gof68 k) []) goH k gob68 44 [.tmp 2]), (101, .ev (goEnv (gof101 k) []) goH k gob101 108 [.tmp 2]), (102, .ev (goEnv (gof102 k) []) goH k gob102 21 [.tmp 2])]
theorem goI73 (k : Nat) : SoundF Tryz.prog 73 (.ev (goEnv (gof73 k) []) goH k gob73 13 [.tmp 2, .tmp 3]) :=
  ev_inline (goEnv_ok (fun p hp => by
    unfold gof73 at hp
    rcases List.mem_cons.1 hp with rfl | hp
    · exact goI68 k
    rcases List.mem_cons.1 hp with rfl | hp
    · exact goI101 k
    rcases List.mem_cons.1 hp with rfl | hp
    · exact goI102 k
    cases hp)) mixedOK (by kernel_rfl : Tryz.prog.funcs[73]? = some Tryz.f73) (by kernel_rfl) (by kernel_rfl : Tryz.f73.body = some gob73) (by kernel_rfl) (by kernel_rfl)
/-! ### jitney/jitlaw2.matched -/
noncomputable def gob30 : Code := match Tryz.f30.body with | some c => c | none => .skip
noncomputable def gof30 (k : Nat) : List (Nat × FSem) := [(73, .ev (goEnv (gof73 k) []) goH k gob73 13 [.tmp 2, .tmp 3])]
def s30 : Option (Bool × Unit) := some (true, ())
theorem gogate (x : (Tys.nil).den) : evFun (goEnv (gof30 100) []) goH 100 gob30 17 [.tmp 0] (explodes .nil x) [] (dec (.cons .bool .nil)) = s30 := by kernel_rfl
theorem S30 : SoundF Tryz.prog 30 (.pfn .nil (.cons .bool .nil) fun _ => s30) :=
  pfn_sound (E := fun k => goEnv (gof30 k) []) (H := goH) (fun k => goEnv_ok (fun p hp => by
    unfold gof30 at hp
    rcases List.mem_cons.1 hp with rfl | hp
    · exact goI73 k
    cases hp)) mixedOK (by kernel_rfl : Tryz.prog.funcs[30]? = some Tryz.f30) (by kernel_rfl) (by kernel_rfl : Tryz.f30.body = some gob30) (by kernel_rfl) (by kernel_rfl)
    (fun x y hw hy => ⟨100, (gogate x).trans hy⟩)
end Go.Vm
