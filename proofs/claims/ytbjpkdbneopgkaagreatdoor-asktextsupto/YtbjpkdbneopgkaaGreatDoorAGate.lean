/- What function 14 (jitney/jitlaw2.asked) gives: shown by unrolling. Own work. -/
import Derived.Test.YtbjpkdbneopgkaaGreatDoorAFn
import Derived.Test.YtbjpkdbneopgkaaGreatDoorAHandR
import Derived.Test.YtbjpkdbneopgkaaGreatDoorVmK
import Derived.Test.YtbjpkdbneopgkaaGreatDoorProg
set_option maxRecDepth 100000
set_option linter.unusedVariables false
namespace Go.Vm
open Go.Proofs
def gats : List (Nat × TD) := [(1, (.cell .func)), (2, (.data (.int .i64))), (3, (.data (.int .i64))), (4, (.data .bool)), (5, (.data (.int .u8))), (6, (.data (.int .u8))), (7, (.data (.struct (.cons (.int .i64) (.cons (.int .i64) (.cons .bool (.cons (.int .u8) .nil))))))), (8, (.data (.struct (.cons (.int .i64) (.cons (.int .i64) (.cons .bool (.cons (.int .u8) .nil))))))), (9, (.data .str)), (10, (.data .str)), (11, (.data .str)), (12, (.data (.int .u64))), (15, (.cell .ptr)), (16, (.cell .ptr)), (17, (.cell .ptr)), (18, (.agg (.cons (.cell .ptr) .nil))), (19, (.agg (.cons (.cell .ptr) .nil))), (20, (.cell .iface)), (21, (.data (.int .i32))), (22, (.data (.slice (.struct (.cons (.int .i64) (.cons (.int .i64) (.cons (.struct (.cons .str (.cons .str (.cons .str (.cons .str (.cons (.int .i64) (.cons (.int .i64) (.cons (.int .i64) (.cons (.int .i64) .nil))))))))) .nil))))))), (23, (.data (.int .i64))), (24, (.cell .func)), (25, (.cell .func)), (27, (.cell .func)), (28, (.cell .func)), (29, (.cell .func)), (30, (.data (.struct (.cons .str (.cons .str (.cons .str (.cons .str (.cons (.int .i64) (.cons (.int .i64) (.cons (.int .i64) (.cons (.int .i64) .nil))))))))))), (31, (.data (.struct (.cons .str (.cons .str (.cons .str (.cons .str (.cons (.int .i64) (.cons (.int .i64) (.cons (.int .i64) (.cons (.int .i64) .nil))))))))))), (32, (.data (.struct (.cons (.int .i64) (.cons (.int .i64) (.cons (.struct (.cons .str (.cons .str (.cons .str (.cons .str (.cons (.int .i64) (.cons (.int .i64) (.cons (.int .i64) (.cons (.int .i64) .nil))))))))) .nil)))))), (33, (.data (.struct (.cons (.int .i64) (.cons (.int .i64) (.cons (.struct (.cons .str (.cons .str (.cons .str (.cons .str (.cons (.int .i64) (.cons (.int .i64) (.cons (.int .i64) (.cons (.int .i64) .nil))))))))) .nil)))))), (35, (.cell .func)), (36, (.cell .func)), (37, (.cell .func)), (38, (.cell .func)), (39, (.data (.slice (.struct (.cons .str (.cons (.int .i64) (.cons (.int .i64) (.cons (.int .i64) (.cons .str (.cons .str (.cons (.struct (.cons .str (.cons (.int .i64) (.cons (.int .i64) .nil)))) (.cons (.struct (.cons .str (.cons .str (.cons .str (.cons .str (.cons (.int .i64) (.cons (.int .i64) (.cons (.int .i64) (.cons (.int .i64) .nil))))))))) .nil)))))))))))), (40, (.cell .func)), (41, (.cell .func)), (42, (.cell .func)), (43, (.cell .func)), (44, (.data (.struct (.cons .str (.cons (.int .i64) (.cons (.int .i64) .nil)))))), (45, (.data (.struct (.cons .str (.cons (.int .i64) (.cons (.int .i64) .nil)))))), (46, (.data (.struct (.cons .str (.cons (.int .i64) (.cons (.int .i64) (.cons (.int .i64) (.cons .str (.cons .str (.cons (.struct (.cons .str (.cons (.int .i64) (.cons (.int .i64) .nil)))) (.cons (.struct (.cons .str (.cons .str (.cons .str (.cons .str (.cons (.int .i64) (.cons (.int .i64) (.cons (.int .i64) (.cons (.int .i64) .nil))))))))) .nil))))))))))), (47, (.data (.struct (.cons .str (.cons (.int .i64) (.cons (.int .i64) (.cons (.int .i64) (.cons .str (.cons .str (.cons (.struct (.cons .str (.cons (.int .i64) (.cons (.int .i64) .nil)))) (.cons (.struct (.cons .str (.cons .str (.cons .str (.cons .str (.cons (.int .i64) (.cons (.int .i64) (.cons (.int .i64) (.cons (.int .i64) .nil))))))))) .nil))))))))))), (49, (.cell .func)), (50, (.cell .func)), (51, (.cell .func)), (52, (.data (.slice (.struct (.cons .str (.cons .str (.cons (.int .i64) .nil))))))), (53, (.cell .func)), (54, (.cell .func)), (55, (.cell .func)), (56, (.cell .func)), (57, (.data (.struct (.cons .str (.cons .str (.cons (.int .i64) .nil)))))), (58, (.data (.struct (.cons .str (.cons .str (.cons (.int .i64) .nil)))))), (60, (.cell .func)), (61, (.cell .func)), (62, (.cell .func)), (63, (.cell .func)), (64, (.cell .func)), (65, (.cell .func)), (66, (.cell .func)), (67, (.cell .func)), (68, (.cell .func)), (69, (.data (.slice .str))), (70, (.cell .func)), (71, (.cell .ptr)), (72, (.data (.slice (.int .u8)))), (73, (.agg (.cons (.cell .ptr) (.cons (.data (.slice (.int .u8))) .nil)))), (74, (.agg (.cons (.cell .ptr) (.cons (.data (.slice (.int .u8))) .nil)))), (75, (.cell .func)), (76, (.cell .iface)), (77, (.cell .iface)), (79, (.cell .func)), (80, (.cell .func)), (81, (.cell .func)), (82, (.cell .func)), (84, (.cell .func)), (86, (.cell .func)), (88, (.cell .func)), (89, (.cell .func)), (90, (.cell .func)), (91, (.data (.slice (.int .i64)))), (93, (.cell .func)), (95, (.cell .func)), (96, (.data (.slice (.struct (.cons (.int .i64) (.cons .bool (.cons (.int .i64) .nil))))))), (97, (.data (.struct (.cons .str (.cons .str (.cons .str (.cons .str (.cons (.int .i64) (.cons (.int .i64) (.cons (.int .i64) (.cons (.int .i64) (.cons (.int .i64) (.cons (.int .i64) (.cons (.int .i64) (.cons (.int .i64) (.cons (.int .i64) (.cons (.slice (.struct (.cons (.int .i64) (.cons .bool (.cons (.int .i64) .nil))))) .nil))))))))))))))))), (98, (.data (.struct (.cons .str (.cons .str (.cons .str (.cons .str (.cons (.int .i64) (.cons (.int .i64) (.cons (.int .i64) (.cons (.int .i64) (.cons (.int .i64) (.cons (.int .i64) (.cons (.int .i64) (.cons (.int .i64) (.cons (.int .i64) (.cons (.slice (.struct (.cons (.int .i64) (.cons .bool (.cons (.int .i64) .nil))))) .nil))))))))))))))))), (99, (.cell .func)), (100, (.cell .func)), (101, (.cell .func)), (102, (.cell .func)), (103, (.cell .func)), (104, (.cell .func)), (106, (.cell .func)), (107, (.map .str (.int .i64))), (108, (.data (.slice (.struct (.cons .str (.cons .str (.cons .str (.cons .str (.cons (.int .i64) (.cons (.int .i64) (.cons (.int .i64) (.cons (.int .i64) .nil)))))))))))), (110, (.cell .func)), (111, (.cell .func)), (112, (.cell .func)), (114, (.cell .func)), (115, (.cell .func)), (116, (.cell .func)), (117, (.cell .func)), (118, (.cell .func)), (119, (.cell .func)), (120, (.cell .ptr)), (121, (.cell .ptr)), (123, (.cell .func)), (124, (.cell .func)), (125, (.cell .func)), (126, (.cell .func)), (127, (.cell .func)), (128, (.data (.slice (.struct (.cons .str (.cons .str (.cons .str (.cons .str (.cons (.int .i64) (.cons (.int .i64) (.cons (.int .i64) (.cons (.int .i64) (.cons (.int .i64) (.cons (.int .i64) (.cons (.int .i64) (.cons (.int .i64) (.cons (.int .i64) (.cons (.slice (.struct (.cons (.int .i64) (.cons .bool (.cons (.int .i64) .nil))))) .nil)))))))))))))))))), (130, (.cell .func)), (131, (.cell .ptr)), (132, (.cell .func)), (133, (.map (.struct (.cons .str (.cons (.int .i64) .nil))) .bool)), (134, (.data (.struct (.cons .str (.cons (.int .i64) .nil))))), (135, (.data (.struct (.cons .str (.cons (.int .i64) .nil))))), (137, (.cell .func)), (138, (.cell .func)), (139, (.cell .ptr)), (152, (.cell .func)), (153, (.cell .func)), (154, (.cell .func)), (156, (.data (.struct (.cons (.int .i64) (.cons .bool (.cons (.int .i64) .nil)))))), (157, (.cell .func)), (158, (.cell .func)), (160, (.cell .func)), (161, (.cell .func)), (163, (.data (.slice (.slice (.int .i64))))), (166, (.cell .func)), (167, (.cell .func)), (168, (.cell .func)), (186, (.data (.int .u64))), (214, (.cell .func)), (215, (.cell .func)), (216, (.cell .func))]
theorem gaty : chkTypes Tryz.prog gats = true := by kernel_rfl
def gaH : Hints := { loop := fun _ => none, region := fun _ => none, cond := fun _ => none, block := fun _ => none }
def gaEnv (fs : List (Nat × FSem)) (vs : List (Nat × Nat)) : Env := { td := types gats, call := calls fs, fv := fvars vs, view := true, nest := true }
theorem gaEnv_ok {fs : List (Nat × FSem)} {vs : List (Nat × Nat)} (hf : ∀ p ∈ fs, SoundF Tryz.prog p.1 p.2) : EnvOK Tryz.prog (gaEnv fs vs) := ⟨types_ok gats gaty, calls_sound fs hf⟩
/-! ### jitney/base.Out -/
noncomputable def gab99 : Code := match Tryz.f99.body with | some c => c | none => .skip
noncomputable def gaf99 (k : Nat) : List (Nat × FSem) := []
theorem gaI99 (k : Nat) : SoundF Tryz.prog 99 (.ev (gaEnv (gaf99 k) []) gaH k gab99 15 [.tmp 6]) :=
  ev_inline (gaEnv_ok (fun p hp => by
    unfold gaf99 at hp
    cases hp)) mixedOK (by kernel_rfl : Tryz.prog.funcs[99]? = some Tryz.f99) (by kernel_rfl) (by kernel_rfl : Tryz.f99.body = some gab99) (by kernel_rfl) (by kernel_rfl)
/-! ### jitney/base.Key -/
noncomputable def gab98 : Code := match Tryz.f98.body with | some c => c | none => .skip
noncomputable def gaf98 (k : Nat) : List (Nat × FSem) := []
theorem gaI98 (k : Nat) : SoundF Tryz.prog 98 (.ev (gaEnv (gaf98 k) []) gaH k gab98 54 [.tmp 2]) :=
  ev_inline (gaEnv_ok (fun p hp => by
    unfold gaf98 at hp
    cases hp)) mixedOK (by kernel_rfl : Tryz.prog.funcs[98]? = some Tryz.f98) (by kernel_rfl) (by kernel_rfl : Tryz.f98.body = some gab98) (by kernel_rfl) (by kernel_rfl)
/-! ### jitney/request.allKeys$1 -/
noncomputable def gab138 : Code := match Tryz.f138.body with | some c => c | none => .skip
noncomputable def gaf138 (k : Nat) : List (Nat × FSem) := [(98, .ev (gaEnv (gaf98 k) []) gaH k gab98 54 [.tmp 2])]
theorem gaI138 (k : Nat) : SoundF Tryz.prog 138 (.ev (gaEnv (gaf138 k) []) gaH k gab138 6 [.tmp 2]) :=
  ev_inline (gaEnv_ok (fun p hp => by
    unfold gaf138 at hp
    rcases List.mem_cons.1 hp with rfl | hp
    · exact gaI98 k
    cases hp)) mixedOK (by kernel_rfl : Tryz.prog.funcs[138]? = some Tryz.f138) (by kernel_rfl) (by kernel_rfl : Tryz.f138.body = some gab138) (by kernel_rfl) (by kernel_rfl)
/-! ### slices.IndexFunc[[]string,string] -/
noncomputable def gab166 : Code := match Tryz.f166.body with | some c => c | none => .skip
noncomputable def gaf166 (k : Nat) : List (Nat × FSem) := [(138, .ev (gaEnv (gaf138 k) []) gaH k gab138 6 [.tmp 2])]
theorem gaI166 (k : Nat) : SoundF Tryz.prog 166 (.ev (gaEnv (gaf166 k) [(11, 138)]) gaH k gab166 19 [.tmp 4]) :=
  ev_inline (gaEnv_ok (fun p hp => by
    unfold gaf166 at hp
    rcases List.mem_cons.1 hp with rfl | hp
    · exact gaI138 k
    cases hp)) mixedOK (by kernel_rfl : Tryz.prog.funcs[166]? = some Tryz.f166) (by kernel_rfl) (by kernel_rfl : Tryz.f166.body = some gab166) (by kernel_rfl) (by kernel_rfl)
/-! ### slices.ContainsFunc[[]string,string] -/
noncomputable def gab137 : Code := match Tryz.f137.body with | some c => c | none => .skip
noncomputable def gaf137 (k : Nat) : List (Nat × FSem) := [(166, .ev (gaEnv (gaf166 k) [(11, 138)]) gaH k gab166 19 [.tmp 4])]
theorem gaI137 (k : Nat) : SoundF Tryz.prog 137 (.ev (gaEnv (gaf137 k) []) gaH k gab137 9 [.tmp 4]) :=
  ev_inline (gaEnv_ok (fun p hp => by
    unfold gaf137 at hp
    rcases List.mem_cons.1 hp with rfl | hp
    · exact gaI166 k
    cases hp)) mixedOK (by kernel_rfl : Tryz.prog.funcs[137]? = some Tryz.f137) (by kernel_rfl) (by kernel_rfl : Tryz.f137.body = some gab137) (by kernel_rfl) (by kernel_rfl)
/-! ### jitney/request.allKeys -/
noncomputable def gab107 : Code := match Tryz.f107.body with | some c => c | none => .skip
noncomputable def gaf107 (k : Nat) : List (Nat × FSem) := [(137, .ev (gaEnv (gaf137 k) []) gaH k gab137 9 [.tmp 4]), (138, .ev (gaEnv (gaf138 k) []) gaH k gab138 6 [.tmp 2])]
theorem gaI107 (k : Nat) : SoundF Tryz.prog 107 (.ev (gaEnv (gaf107 k) []) gaH k gab107 6 [.tmp 2]) :=
  ev_inline (gaEnv_ok (fun p hp => by
    unfold gaf107 at hp
    rcases List.mem_cons.1 hp with rfl | hp
    · exact gaI137 k
    rcases List.mem_cons.1 hp with rfl | hp
    · exact gaI138 k
    cases hp)) mixedOK (by kernel_rfl : Tryz.prog.funcs[107]? = some Tryz.f107) (by kernel_rfl) (by kernel_rfl : Tryz.f107.body = some gab107) (by kernel_rfl) (by kernel_rfl)
/-! ### jitney/request.changesFault -/
noncomputable def gab154 : Code := match Tryz.f154.body with | some c => c | none => .skip
noncomputable def gaf154 (k : Nat) : List (Nat × FSem) := [(99, .ev (gaEnv (gaf99 k) []) gaH k gab99 15 [.tmp 6])]
theorem gaI154 (k : Nat) : SoundF Tryz.prog 154 (.ev (gaEnv (gaf154 k) []) gaH k gab154 46 [.tmp 2]) :=
  ev_inline (gaEnv_ok (fun p hp => by
    unfold gaf154 at hp
    rcases List.mem_cons.1 hp with rfl | hp
    · exact gaI99 k
    cases hp)) mixedOK (by kernel_rfl : Tryz.prog.funcs[154]? = some Tryz.f154) (by kernel_rfl) (by kernel_rfl : Tryz.f154.body = some gab154) (by kernel_rfl) (by kernel_rfl)
/-! ### jitney/request.seriesFault -/
noncomputable def gab122 : Code := match Tryz.f122.body with | some c => c | none => .skip
noncomputable def gaf122 (k : Nat) : List (Nat × FSem) := [(99, .ev (gaEnv (gaf99 k) []) gaH k gab99 15 [.tmp 6]), (107, .ev (gaEnv (gaf107 k) []) gaH k gab107 6 [.tmp 2]), (154, .ev (gaEnv (gaf154 k) []) gaH k gab154 46 [.tmp 2])]
theorem gaI122 (k : Nat) : SoundF Tryz.prog 122 (.ev (gaEnv (gaf122 k) []) gaH k gab122 83 [.tmp 2]) :=
  ev_inline (gaEnv_ok (fun p hp => by
    unfold gaf122 at hp
    rcases List.mem_cons.1 hp with rfl | hp
    · exact gaI99 k
    rcases List.mem_cons.1 hp with rfl | hp
    · exact gaI107 k
    rcases List.mem_cons.1 hp with rfl | hp
    · exact gaI154 k
    cases hp)) mixedOK (by kernel_rfl : Tryz.prog.funcs[122]? = some Tryz.f122) (by kernel_rfl) (by kernel_rfl : Tryz.f122.body = some gab122) (by kernel_rfl) (by kernel_rfl)
/-! ### jitney/request.CheckSeries -/
noncomputable def gab90 : Code := match Tryz.f90.body with | some c => c | none => .skip
noncomputable def gaf90 (k : Nat) : List (Nat × FSem) := [(122, .ev (gaEnv (gaf122 k) []) gaH k gab122 83 [.tmp 2])]
theorem gaI90 (k : Nat) : SoundF Tryz.prog 90 (.ev (gaEnv (gaf90 k) []) gaH k gab90 35 [.tmp 2]) :=
  ev_inline (gaEnv_ok (fun p hp => by
    unfold gaf90 at hp
    rcases List.mem_cons.1 hp with rfl | hp
    · exact gaI122 k
    cases hp)) mixedOK (by kernel_rfl : Tryz.prog.funcs[90]? = some Tryz.f90) (by kernel_rfl) (by kernel_rfl : Tryz.f90.body = some gab90) (by kernel_rfl) (by kernel_rfl)
/-! ### strconv.Itoa -/
noncomputable def gab39 : Code := match Tryz.f39.body with | some c => c | none => .skip
noncomputable def gaf39 (k : Nat) : List (Nat × FSem) := [(79, .pfn (.cons (.int .i64) .nil) (.cons .str .nil) fun x => s79 x.1)]
theorem gaI39 (k : Nat) : SoundF Tryz.prog 39 (.ev (gaEnv (gaf39 k) []) gaH k gab39 5 [.tmp 2]) :=
  ev_inline (gaEnv_ok (fun p hp => by
    unfold gaf39 at hp
    rcases List.mem_cons.1 hp with rfl | hp
    · exact S79
    cases hp)) mixedOK (by kernel_rfl : Tryz.prog.funcs[39]? = some Tryz.f39) (by kernel_rfl) (by kernel_rfl : Tryz.f39.body = some gab39) (by kernel_rfl) (by kernel_rfl)
/-! ### jitney/base.Moment -/
noncomputable def gab105 : Code := match Tryz.f105.body with | some c => c | none => .skip
noncomputable def gaf105 (k : Nat) : List (Nat × FSem) := [(99, .ev (gaEnv (gaf99 k) []) gaH k gab99 15 [.tmp 6])]
theorem gaI105 (k : Nat) : SoundF Tryz.prog 105 (.ev (gaEnv (gaf105 k) []) gaH k gab105 6 [.tmp 2]) :=
  ev_inline (gaEnv_ok (fun p hp => by
    unfold gaf105 at hp
    rcases List.mem_cons.1 hp with rfl | hp
    · exact gaI99 k
    cases hp)) mixedOK (by kernel_rfl : Tryz.prog.funcs[105]? = some Tryz.f105) (by kernel_rfl) (by kernel_rfl : Tryz.f105.body = some gab105) (by kernel_rfl) (by kernel_rfl)
/-! ### cmp.isNaN[int] -/
noncomputable def gab139 : Code := match Tryz.f139.body with | some c => c | none => .skip
noncomputable def gaf139 (k : Nat) : List (Nat × FSem) := []
theorem gaI139 (k : Nat) : SoundF Tryz.prog 139 (.ev (gaEnv (gaf139 k) []) gaH k gab139 6 [.tmp 2]) :=
  ev_inline (gaEnv_ok (fun p hp => by
    unfold gaf139 at hp
    cases hp)) mixedOK (by kernel_rfl : Tryz.prog.funcs[139]? = some Tryz.f139) (by kernel_rfl) (by kernel_rfl : Tryz.f139.body = some gab139) (by kernel_rfl) (by kernel_rfl)
/-! ### cmp.Compare[int] -/
noncomputable def gab109 : Code := match Tryz.f109.body with | some c => c | none => .skip
noncomputable def gaf109 (k : Nat) : List (Nat × FSem) := [(139, .ev (gaEnv (gaf139 k) []) gaH k gab139 6 [.tmp 2])]
theorem gaI109 (k : Nat) : SoundF Tryz.prog 109 (.ev (gaEnv (gaf109 k) []) gaH k gab109 20 [.tmp 4]) :=
  ev_inline (gaEnv_ok (fun p hp => by
    unfold gaf109 at hp
    rcases List.mem_cons.1 hp with rfl | hp
    · exact gaI139 k
    cases hp)) mixedOK (by kernel_rfl : Tryz.prog.funcs[109]? = some Tryz.f109) (by kernel_rfl) (by kernel_rfl : Tryz.f109.body = some gab109) (by kernel_rfl) (by kernel_rfl)
/-! ### jitney/request.dayRide$1 -/
noncomputable def gab124 : Code := match Tryz.f124.body with | some c => c | none => .skip
noncomputable def gaf124 (k : Nat) : List (Nat × FSem) := [(109, .ev (gaEnv (gaf109 k) []) gaH k gab109 20 [.tmp 4])]
theorem gaI124 (k : Nat) : SoundF Tryz.prog 124 (.ev (gaEnv (gaf124 k) []) gaH k gab124 9 [.tmp 4]) :=
  ev_inline (gaEnv_ok (fun p hp => by
    unfold gaf124 at hp
    rcases List.mem_cons.1 hp with rfl | hp
    · exact gaI109 k
    cases hp)) mixedOK (by kernel_rfl : Tryz.prog.funcs[124]? = some Tryz.f124) (by kernel_rfl) (by kernel_rfl : Tryz.f124.body = some gab124) (by kernel_rfl) (by kernel_rfl)
/-! ### slices.BinarySearchFunc[[]jitney/api.Change,jitney/api.Change,int] -/
noncomputable def gab123 : Code := match Tryz.f123.body with | some c => c | none => .skip
noncomputable def gaf123 (k : Nat) : List (Nat × FSem) := [(124, .ev (gaEnv (gaf124 k) []) gaH k gab124 9 [.tmp 4])]
theorem gaI123 (k : Nat) : SoundF Tryz.prog 123 (.ev (gaEnv (gaf123 k) [(24, 124), (40, 124)]) gaH k gab123 49 [.tmp 6, .tmp 7]) :=
  ev_inline (gaEnv_ok (fun p hp => by
    unfold gaf123 at hp
    rcases List.mem_cons.1 hp with rfl | hp
    · exact gaI124 k
    cases hp)) mixedOK (by kernel_rfl : Tryz.prog.funcs[123]? = some Tryz.f123) (by kernel_rfl) (by kernel_rfl : Tryz.f123.body = some gab123) (by kernel_rfl) (by kernel_rfl)
/-! ### jitney/request.dayRide$2 -/
noncomputable def gab125 : Code := match Tryz.f125.body with | some c => c | none => .skip
noncomputable def gaf125 (k : Nat) : List (Nat × FSem) := []
theorem gaI125 (k : Nat) : SoundF Tryz.prog 125 (.evr (gaEnv (gaf125 k) []) gaH k gab125 18 [.tmp 5]) :=
  ev_inlineR (gaEnv_ok (fun p hp => by
    unfold gaf125 at hp
    cases hp)) mixedOK (by kernel_rfl : Tryz.prog.funcs[125]? = some Tryz.f125) (by kernel_rfl) (by kernel_rfl : Tryz.f125.body = some gab125) (by kernel_rfl) (by kernel_rfl)
/-! ### jitney/request.dayRide -/
noncomputable def gab91 : Code := match Tryz.f91.body with | some c => c | none => .skip
noncomputable def gaf91 (k : Nat) : List (Nat × FSem) := [(39, .ev (gaEnv (gaf39 k) []) gaH k gab39 5 [.tmp 2]), (105, .ev (gaEnv (gaf105 k) []) gaH k gab105 6 [.tmp 2]), (123, .ev (gaEnv (gaf123 k) [(24, 124), (40, 124)]) gaH k gab123 49 [.tmp 6, .tmp 7]), (124, .ev (gaEnv (gaf124 k) []) gaH k gab124 9 [.tmp 4]), (125, .evr (gaEnv (gaf125 k) []) gaH k gab125 18 [.tmp 5]), (126, .pfn (.cons .str (.cons (.int .i64) .nil)) (.cons .str .nil) fun x => s126 x.1 x.2.1)]
theorem gaI91 (k : Nat) : SoundF Tryz.prog 91 (.ev (gaEnv (gaf91 k) [(92, 125), (98, 125)]) gaH k gab91 122 [.cell 4 31, .tmp 5]) :=
  ev_inline (gaEnv_ok (fun p hp => by
    unfold gaf91 at hp
    rcases List.mem_cons.1 hp with rfl | hp
    · exact gaI39 k
    rcases List.mem_cons.1 hp with rfl | hp
    · exact gaI105 k
    rcases List.mem_cons.1 hp with rfl | hp
    · exact gaI123 k
    rcases List.mem_cons.1 hp with rfl | hp
    · exact gaI124 k
    rcases List.mem_cons.1 hp with rfl | hp
    · exact gaI125 k
    rcases List.mem_cons.1 hp with rfl | hp
    · exact S126
    cases hp)) mixedOK (by kernel_rfl : Tryz.prog.funcs[91]? = some Tryz.f91) (by kernel_rfl) (by kernel_rfl : Tryz.f91.body = some gab91) (by kernel_rfl) (by kernel_rfl)
/-! ### jitney/request.Days -/
noncomputable def gab54 : Code := match Tryz.f54.body with | some c => c | none => .skip
noncomputable def gaf54 (k : Nat) : List (Nat × FSem) := [(90, .ev (gaEnv (gaf90 k) []) gaH k gab90 35 [.tmp 2]), (91, .ev (gaEnv (gaf91 k) [(92, 125), (98, 125)]) gaH k gab91 122 [.cell 4 31, .tmp 5])]
theorem gaI54 (k : Nat) : SoundF Tryz.prog 54 (.ev (gaEnv (gaf54 k) []) gaH k gab54 34 [.tmp 2, .tmp 3]) :=
  ev_inline (gaEnv_ok (fun p hp => by
    unfold gaf54 at hp
    rcases List.mem_cons.1 hp with rfl | hp
    · exact gaI90 k
    rcases List.mem_cons.1 hp with rfl | hp
    · exact gaI91 k
    cases hp)) mixedOK (by kernel_rfl : Tryz.prog.funcs[54]? = some Tryz.f54) (by kernel_rfl) (by kernel_rfl : Tryz.f54.body = some gab54) (by kernel_rfl) (by kernel_rfl)
/-! ### slices.Equal[[]int,int] -/
noncomputable def gab55 : Code := match Tryz.f55.body with | some c => c | none => .skip
noncomputable def gaf55 (k : Nat) : List (Nat × FSem) := []
theorem gaI55 (k : Nat) : SoundF Tryz.prog 55 (.ev (gaEnv (gaf55 k) []) gaH k gab55 26 [.tmp 4]) :=
  ev_inline (gaEnv_ok (fun p hp => by
    unfold gaf55 at hp
    cases hp)) mixedOK (by kernel_rfl : Tryz.prog.funcs[55]? = some Tryz.f55) (by kernel_rfl) (by kernel_rfl : Tryz.f55.body = some gab55) (by kernel_rfl) (by kernel_rfl)
/-! ### jitney/jitlaw2.asked -/
noncomputable def gab14 : Code := match Tryz.f14.body with | some c => c | none => .skip
noncomputable def gaf14 (k : Nat) : List (Nat × FSem) := [(54, .ev (gaEnv (gaf54 k) []) gaH k gab54 34 [.tmp 2, .tmp 3]), (55, .ev (gaEnv (gaf55 k) []) gaH k gab55 26 [.tmp 4])]
def s14 : Option (Bool × Unit) := some (true, ())
theorem gagate (x : (Tys.nil).den) : evFun (gaEnv (gaf14 100) []) gaH 100 gab14 15 [.tmp 0] (explodes .nil x) [] (dec (.cons .bool .nil)) = s14 := by kernel_rfl
theorem S14 : SoundF Tryz.prog 14 (.pfn .nil (.cons .bool .nil) fun _ => s14) :=
  pfn_sound (E := fun k => gaEnv (gaf14 k) []) (H := gaH) (fun k => gaEnv_ok (fun p hp => by
    unfold gaf14 at hp
    rcases List.mem_cons.1 hp with rfl | hp
    · exact gaI54 k
    rcases List.mem_cons.1 hp with rfl | hp
    · exact gaI55 k
    cases hp)) mixedOK (by kernel_rfl : Tryz.prog.funcs[14]? = some Tryz.f14) (by kernel_rfl) (by kernel_rfl : Tryz.f14.body = some gab14) (by kernel_rfl) (by kernel_rfl)
    (fun x y hw hy => ⟨100, (gagate x).trans hy⟩)
end Go.Vm
