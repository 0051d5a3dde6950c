/- What function 13 (jitney/jitlaw2.matched) gives: shown by unrolling. Own work. -/
import Derived.Test.YtbjpkdbneopgkaaPRep
import Derived.Test.YtbjpkdbneopgkaaProg
set_option maxRecDepth 100000
set_option linter.unusedVariables false
namespace Go.Vm
open Go.Proofs
def gots : List (Nat × TD) := [(1, (.cell .func)), (2, (.data (.int .i64))), (3, (.data (.int .i64))), (4, (.data .bool)), (5, (.data (.int .u8))), (6, (.data (.int .u8))), (7, (.data (.struct (.cons (.int .i64) (.cons (.int .i64) (.cons .bool (.cons (.int .u8) .nil))))))), (8, (.data (.struct (.cons (.int .i64) (.cons (.int .i64) (.cons .bool (.cons (.int .u8) .nil))))))), (9, (.data .str)), (10, (.data .str)), (11, (.data .str)), (12, (.data (.int .u64))), (15, (.cell .ptr)), (16, (.cell .ptr)), (17, (.cell .ptr)), (18, (.agg (.cons (.cell .ptr) .nil))), (19, (.agg (.cons (.cell .ptr) .nil))), (20, (.cell .iface)), (21, (.data (.int .i32))), (22, (.data (.slice (.struct (.cons .str (.cons .str (.cons (.int .i64) .nil))))))), (23, (.data (.int .i64))), (25, (.cell .func)), (26, (.cell .func)), (27, (.data (.struct (.cons .str (.cons .str (.cons (.int .i64) .nil)))))), (28, (.data (.struct (.cons .str (.cons .str (.cons (.int .i64) .nil)))))), (29, (.cell .func)), (30, (.cell .func)), (32, (.cell .func)), (33, (.cell .func)), (34, (.cell .func)), (35, (.cell .func)), (36, (.data (.slice (.struct (.cons .str (.cons .str (.cons (.int .i64) .nil))))))), (37, (.data (.slice (.struct (.cons .str (.cons .str .nil)))))), (38, (.data (.slice .str))), (40, (.cell .func)), (41, (.cell .func)), (42, (.data (.struct (.cons .str (.cons .str (.cons (.int .i64) .nil)))))), (43, (.data (.struct (.cons .str (.cons .str (.cons (.int .i64) .nil)))))), (45, (.cell .func)), (46, (.cell .func)), (47, (.data (.struct (.cons .str (.cons .str .nil))))), (48, (.data (.struct (.cons .str (.cons .str .nil))))), (49, (.cell .func)), (50, (.cell .func)), (51, (.cell .func)), (52, (.cell .func)), (53, (.cell .func)), (54, (.cell .func)), (55, (.cell .func)), (56, (.cell .func)), (58, (.cell .func)), (59, (.cell .func)), (60, (.data (.slice (.int .i64)))), (61, (.cell .func)), (62, (.cell .func)), (63, (.cell .func)), (64, (.data (.slice (.int .i64)))), (65, (.cell .func)), (66, (.cell .func)), (67, (.cell .func)), (68, (.cell .func)), (69, (.cell .func)), (70, (.cell .func)), (71, (.cell .func)), (72, (.map .str .bool)), (73, (.cell .func)), (74, (.cell .func)), (75, (.cell .func)), (76, (.cell .func)), (77, (.data (.int .u64))), (78, (.cell .func)), (79, (.cell .func)), (80, (.cell .func)), (81, (.cell .ptr)), (82, (.cell .func)), (83, (.cell .func)), (84, (.cell .func)), (85, (.cell .func)), (86, (.cell .func)), (87, (.cell .func)), (88, (.cell .func)), (89, (.cell .func)), (90, (.data (.int .i64))), (92, (.cell .func)), (93, (.cell .func)), (94, (.cell .func)), (95, (.cell .func)), (96, (.cell .func)), (97, (.data (.int .u32))), (98, (.cell .func)), (99, (.data (.int .u64))), (100, (.cell .func)), (101, (.data (.slice (.slice (.int .i64))))), (102, (.data (.struct (.cons (.slice .str) (.cons (.slice .str) (.cons (.slice (.slice (.int .i64))) (.cons (.slice (.int .i64)) (.cons (.slice (.int .i64)) .nil)))))))), (103, (.data (.struct (.cons (.slice .str) (.cons (.slice .str) (.cons (.slice (.slice (.int .i64))) (.cons (.slice (.int .i64)) (.cons (.slice (.int .i64)) .nil)))))))), (104, (.cell .func)), (105, (.cell .func)), (106, (.data (.slice .bool))), (107, (.data (.int .u64))), (108, (.cell .func)), (109, (.cell .func)), (110, (.cell .func)), (111, (.cell .ptr)), (112, (.cell .func)), (114, (.cell .func)), (115, (.cell .ptr)), (117, (.cell .func)), (119, (.cell .func)), (121, (.cell .func)), (122, (.cell .func)), (123, (.agg (.cons (.cell .ptr) (.cons (.cell .ptr) (.cons (.cell .ptr) (.cons (.data .str) .nil)))))), (124, (.agg (.cons (.cell .ptr) (.cons (.cell .ptr) (.cons (.cell .ptr) (.cons (.data .str) .nil)))))), (128, (.data (.int .u8))), (129, (.data (.int .u8))), (130, (.cell .func)), (131, (.cell .ptr)), (132, (.data (.int .i32))), (133, (.data (.int .i32))), (134, (.agg (.cons (.data (.int .u64)) (.cons (.data (.int .u64)) (.cons (.data (.int .u32)) (.cons (.data (.int .u8)) (.cons (.data (.int .u8)) (.cons (.data (.int .u8)) (.cons (.data (.int .u8)) (.cons (.cell .func) (.cons (.cell .ptr) (.cons (.data (.int .i32)) (.cons (.data (.int .i32)) .nil))))))))))))), (135, (.agg (.cons (.data (.int .u64)) (.cons (.data (.int .u64)) (.cons (.data (.int .u32)) (.cons (.data (.int .u8)) (.cons (.data (.int .u8)) (.cons (.data (.int .u8)) (.cons (.data (.int .u8)) (.cons (.cell .func) (.cons (.cell .ptr) (.cons (.data (.int .i32)) (.cons (.data (.int .i32)) .nil)))))))))))))]
theorem goty : chkTypes Try.prog gots = true := by kernel_rfl
def goH : Hints := { loop := fun _ => none, region := fun _ => none, cond := fun _ => none, block := fun _ => none }
def goEnv (fs : List (Nat × FSem)) (vs : List (Nat × Nat)) : Env := { td := types gots, call := calls fs, fv := fvars vs, view := true, nest := true }
theorem goEnv_ok {fs : List (Nat × FSem)} {vs : List (Nat × Nat)} (hf : ∀ p ∈ fs, SoundF Try.prog p.1 p.2) : EnvOK Try.prog (goEnv fs vs) := ⟨types_ok gots goty, calls_sound fs hf⟩
/-! ### jitney/base.Key -/
noncomputable def gob34 : Code := match Try.f34.body with | some c => c | none => .skip
noncomputable def gof34 (k : Nat) : List (Nat × FSem) := []
theorem goI34 (k : Nat) : SoundF Try.prog 34 (.ev (goEnv (gof34 k) []) goH k gob34 54 [.tmp 2]) :=
  ev_inline (goEnv_ok (fun p hp => by
    unfold gof34 at hp
    cases hp)) mixedOK (by kernel_rfl : Try.prog.funcs[34]? = some Try.f34) (by kernel_rfl) (by kernel_rfl : Try.f34.body = some gob34) (by kernel_rfl) (by kernel_rfl)
/-! ### jitney/base.Out -/
noncomputable def gob35 : Code := match Try.f35.body with | some c => c | none => .skip
noncomputable def gof35 (k : Nat) : List (Nat × FSem) := []
theorem goI35 (k : Nat) : SoundF Try.prog 35 (.ev (goEnv (gof35 k) []) goH k gob35 15 [.tmp 6]) :=
  ev_inline (goEnv_ok (fun p hp => by
    unfold gof35 at hp
    cases hp)) mixedOK (by kernel_rfl : Try.prog.funcs[35]? = some Try.f35) (by kernel_rfl) (by kernel_rfl : Try.f35.body = some gob35) (by kernel_rfl) (by kernel_rfl)
/-! ### cmp.Or[int] -/
noncomputable def gob66 : Code := match Try.f66.body with | some c => c | none => .skip
noncomputable def gof66 (k : Nat) : List (Nat × FSem) := []
theorem goI66 (k : Nat) : SoundF Try.prog 66 (.ev (goEnv (gof66 k) []) goH k gob66 18 [.tmp 2]) :=
  ev_inline (goEnv_ok (fun p hp => by
    unfold gof66 at hp
    cases hp)) mixedOK (by kernel_rfl : Try.prog.funcs[66]? = some Try.f66) (by kernel_rfl) (by kernel_rfl : Try.f66.body = some gob66) (by kernel_rfl) (by kernel_rfl)
/-! ### strings.Compare -/
noncomputable def gob67 : Code := match Try.f67.body with | some c => c | none => .skip
noncomputable def gof67 (k : Nat) : List (Nat × FSem) := [(83, .fn (.cons .str (.cons .str .nil)) (.cons (.int .i64) .nil) fun x => (s83 x.1 x.2.1, ()))]
theorem goI67 (k : Nat) : SoundF Try.prog 67 (.ev (goEnv (gof67 k) []) goH k gob67 8 [.tmp 4]) :=
  ev_inline (goEnv_ok (fun p hp => by
    unfold gof67 at hp
    rcases List.mem_cons.1 hp with rfl | hp
    · exact S83
    cases hp)) mixedOK (by kernel_rfl : Try.prog.funcs[67]? = some Try.f67) (by kernel_rfl) (by kernel_rfl : Try.f67.body = some gob67) (by kernel_rfl) (by kernel_rfl)
/-! ### jitney/match.byOffer -/
noncomputable def gob46 : Code := match Try.f46.body with | some c => c | none => .skip
noncomputable def gof46 (k : Nat) : List (Nat × FSem) := [(66, .ev (goEnv (gof66 k) []) goH k gob66 18 [.tmp 2]), (67, .ev (goEnv (gof67 k) []) goH k gob67 8 [.tmp 4])]
theorem goI46 (k : Nat) : SoundF Try.prog 46 (.ev (goEnv (gof46 k) []) goH k gob46 17 [.tmp 4]) :=
  ev_inline (goEnv_ok (fun p hp => by
    unfold gof46 at hp
    rcases List.mem_cons.1 hp with rfl | hp
    · exact goI66 k
    rcases List.mem_cons.1 hp with rfl | hp
    · exact goI67 k
    cases hp)) mixedOK (by kernel_rfl : Try.prog.funcs[46]? = some Try.f46) (by kernel_rfl) (by kernel_rfl : Try.f46.body = some gob46) (by kernel_rfl) (by kernel_rfl)
/-! ### jitney/match.CheckOffers -/
noncomputable def gob21 : Code := match Try.f21.body with | some c => c | none => .skip
noncomputable def gof21 (k : Nat) : List (Nat × FSem) := [(34, .ev (goEnv (gof34 k) []) goH k gob34 54 [.tmp 2]), (35, .ev (goEnv (gof35 k) []) goH k gob35 15 [.tmp 6]), (46, .ev (goEnv (gof46 k) []) goH k gob46 17 [.tmp 4])]
theorem goI21 (k : Nat) : SoundF Try.prog 21 (.ev (goEnv (gof21 k) []) goH k gob21 44 [.tmp 2]) :=
  ev_inline (goEnv_ok (fun p hp => by
    unfold gof21 at hp
    rcases List.mem_cons.1 hp with rfl | hp
    · exact goI34 k
    rcases List.mem_cons.1 hp with rfl | hp
    · exact goI35 k
    rcases List.mem_cons.1 hp with rfl | hp
    · exact goI46 k
    cases hp)) mixedOK (by kernel_rfl : Try.prog.funcs[21]? = some Try.f21) (by kernel_rfl) (by kernel_rfl : Try.f21.body = some gob21) (by kernel_rfl) (by kernel_rfl)
/-! ### cmp.isNaN[string] -/
noncomputable def gob79 : Code := match Try.f79.body with | some c => c | none => .skip
noncomputable def gof79 (k : Nat) : List (Nat × FSem) := []
theorem goI79 (k : Nat) : SoundF Try.prog 79 (.ev (goEnv (gof79 k) []) goH k gob79 6 [.tmp 2]) :=
  ev_inline (goEnv_ok (fun p hp => by
    unfold gof79 at hp
    cases hp)) mixedOK (by kernel_rfl : Try.prog.funcs[79]? = some Try.f79) (by kernel_rfl) (by kernel_rfl : Try.f79.body = some gob79) (by kernel_rfl) (by kernel_rfl)
/-! ### cmp.Less[string] -/
noncomputable def gob53 : Code := match Try.f53.body with | some c => c | none => .skip
noncomputable def gof53 (k : Nat) : List (Nat × FSem) := [(79, .ev (goEnv (gof79 k) []) goH k gob79 6 [.tmp 2])]
theorem goI53 (k : Nat) : SoundF Try.prog 53 (.ev (goEnv (gof53 k) []) goH k gob53 17 [.tmp 4]) :=
  ev_inline (goEnv_ok (fun p hp => by
    unfold gof53 at hp
    rcases List.mem_cons.1 hp with rfl | hp
    · exact goI79 k
    cases hp)) mixedOK (by kernel_rfl : Try.prog.funcs[53]? = some Try.f53) (by kernel_rfl) (by kernel_rfl : Try.f53.body = some gob53) (by kernel_rfl) (by kernel_rfl)
/-! ### slices.isNaN[string] -/
noncomputable def gob54 : Code := match Try.f54.body with | some c => c | none => .skip
noncomputable def gof54 (k : Nat) : List (Nat × FSem) := []
theorem goI54 (k : Nat) : SoundF Try.prog 54 (.ev (goEnv (gof54 k) []) goH k gob54 6 [.tmp 2]) :=
  ev_inline (goEnv_ok (fun p hp => by
    unfold gof54 at hp
    cases hp)) mixedOK (by kernel_rfl : Try.prog.funcs[54]? = some Try.f54) (by kernel_rfl) (by kernel_rfl : Try.f54.body = some gob54) (by kernel_rfl) (by kernel_rfl)
/-! ### slices.BinarySearch[[]string,string] -/
noncomputable def gob30 : Code := match Try.f30.body with | some c => c | none => .skip
noncomputable def gof30 (k : Nat) : List (Nat × FSem) := [(53, .ev (goEnv (gof53 k) []) goH k gob53 17 [.tmp 4]), (54, .ev (goEnv (gof54 k) []) goH k gob54 6 [.tmp 2])]
theorem goI30 (k : Nat) : SoundF Try.prog 30 (.ev (goEnv (gof30 k) []) goH k gob30 54 [.tmp 4, .tmp 5]) :=
  ev_inline (goEnv_ok (fun p hp => by
    unfold gof30 at hp
    rcases List.mem_cons.1 hp with rfl | hp
    · exact goI53 k
    rcases List.mem_cons.1 hp with rfl | hp
    · exact goI54 k
    cases hp)) mixedOK (by kernel_rfl : Try.prog.funcs[30]? = some Try.f30) (by kernel_rfl) (by kernel_rfl : Try.f30.body = some gob30) (by kernel_rfl) (by kernel_rfl)
/-! ### slices.insertionSortOrdered[string] -/
noncomputable def gob69 : Code := match Try.f69.body with | some c => c | none => .skip
noncomputable def gof69 (k : Nat) : List (Nat × FSem) := [(53, .ev (goEnv (gof53 k) []) goH k gob53 17 [.tmp 4])]
theorem goI69 (k : Nat) : SoundF Try.prog 69 (.ev (goEnv (gof69 k) []) goH k gob69 49 []) :=
  ev_inline (goEnv_ok (fun p hp => by
    unfold gof69 at hp
    rcases List.mem_cons.1 hp with rfl | hp
    · exact goI53 k
    cases hp)) mixedOK (by kernel_rfl : Try.prog.funcs[69]? = some Try.f69) (by kernel_rfl) (by kernel_rfl : Try.f69.body = some gob69) (by kernel_rfl) (by kernel_rfl)
/-! ### slices.pdqsortOrdered[string] -/
noncomputable def gob51 : Code := match Try.f51.body with | some c => c | none => .skip
noncomputable def gof51 : Nat → Nat → List (Nat × FSem)
  | 0, _ => []
  | d + 1, k => [(51, .ev (goEnv (gof51 d k) []) goH k gob51 134 []), (53, .ev (goEnv (gof53 k) []) goH k gob53 17 [.tmp 4]), (69, .ev (goEnv (gof69 k) []) goH k gob69 49 [])]
theorem goI51 : ∀ (d k : Nat), SoundF Try.prog 51 (.ev (goEnv (gof51 d k) []) goH k gob51 134 [])
  | 0, k => ev_inline (goEnv_ok (fun p hp => by unfold gof51 at hp; cases hp)) mixedOK (by kernel_rfl : Try.prog.funcs[51]? = some Try.f51) (by kernel_rfl) (by kernel_rfl : Try.f51.body = some gob51) (by kernel_rfl) (by kernel_rfl)
  | d + 1, k => ev_inline (goEnv_ok (fun p hp => by
    unfold gof51 at hp
    rcases List.mem_cons.1 hp with rfl | hp
    · exact goI51 d k
    rcases List.mem_cons.1 hp with rfl | hp
    · exact goI53 k
    rcases List.mem_cons.1 hp with rfl | hp
    · exact goI69 k
    cases hp)) mixedOK (by kernel_rfl : Try.prog.funcs[51]? = some Try.f51) (by kernel_rfl) (by kernel_rfl : Try.f51.body = some gob51) (by kernel_rfl) (by kernel_rfl)
/-! ### math/bits.Len32 -/
noncomputable def gob77 : Code := match Try.f77.body with | some c => c | none => .skip
noncomputable def gof77 (k : Nat) : List (Nat × FSem) := []
theorem goI77 (k : Nat) : SoundF Try.prog 77 (.ev (goEnv (gof77 k) []) goH k gob77 19 [.tmp 2]) :=
  ev_inline (goEnv_ok (fun p hp => by
    unfold gof77 at hp
    cases hp)) mixedOK (by kernel_rfl : Try.prog.funcs[77]? = some Try.f77) (by kernel_rfl) (by kernel_rfl : Try.f77.body = some gob77) (by kernel_rfl) (by kernel_rfl)
/-! ### math/bits.Len64 -/
noncomputable def gob78 : Code := match Try.f78.body with | some c => c | none => .skip
noncomputable def gof78 (k : Nat) : List (Nat × FSem) := []
theorem goI78 (k : Nat) : SoundF Try.prog 78 (.ev (goEnv (gof78 k) []) goH k gob78 25 [.tmp 2]) :=
  ev_inline (goEnv_ok (fun p hp => by
    unfold gof78 at hp
    cases hp)) mixedOK (by kernel_rfl : Try.prog.funcs[78]? = some Try.f78) (by kernel_rfl) (by kernel_rfl : Try.f78.body = some gob78) (by kernel_rfl) (by kernel_rfl)
/-! ### math/bits.Len -/
noncomputable def gob52 : Code := match Try.f52.body with | some c => c | none => .skip
noncomputable def gof52 (k : Nat) : List (Nat × FSem) := [(77, .ev (goEnv (gof77 k) []) goH k gob77 19 [.tmp 2]), (78, .ev (goEnv (gof78 k) []) goH k gob78 25 [.tmp 2])]
theorem goI52 (k : Nat) : SoundF Try.prog 52 (.ev (goEnv (gof52 k) []) goH k gob52 8 [.tmp 2]) :=
  ev_inline (goEnv_ok (fun p hp => by
    unfold gof52 at hp
    rcases List.mem_cons.1 hp with rfl | hp
    · exact goI77 k
    rcases List.mem_cons.1 hp with rfl | hp
    · exact goI78 k
    cases hp)) mixedOK (by kernel_rfl : Try.prog.funcs[52]? = some Try.f52) (by kernel_rfl) (by kernel_rfl : Try.f52.body = some gob52) (by kernel_rfl) (by kernel_rfl)
/-! ### slices.Sort[[]string,string] -/
noncomputable def gob27 : Code := match Try.f27.body with | some c => c | none => .skip
noncomputable def gof27 (k : Nat) : List (Nat × FSem) := [(51, .ev (goEnv (gof51 4 k) []) goH k gob51 134 []), (52, .ev (goEnv (gof52 k) []) goH k gob52 8 [.tmp 2])]
theorem goI27 (k : Nat) : SoundF Try.prog 27 (.ev (goEnv (gof27 k) []) goH k gob27 11 []) :=
  ev_inline (goEnv_ok (fun p hp => by
    unfold gof27 at hp
    rcases List.mem_cons.1 hp with rfl | hp
    · exact goI51 4 k
    rcases List.mem_cons.1 hp with rfl | hp
    · exact goI52 k
    cases hp)) mixedOK (by kernel_rfl : Try.prog.funcs[27]? = some Try.f27) (by kernel_rfl) (by kernel_rfl : Try.f27.body = some gob27) (by kernel_rfl) (by kernel_rfl)
/-! ### slices.Compact[[]string,string] -/
noncomputable def gob28 : Code := match Try.f28.body with | some c => c | none => .skip
noncomputable def gof28 (k : Nat) : List (Nat × FSem) := []
theorem goI28 (k : Nat) : SoundF Try.prog 28 (.ev (goEnv (gof28 k) []) goH k gob28 61 [.tmp 2]) :=
  ev_inline (goEnv_ok (fun p hp => by
    unfold gof28 at hp
    cases hp)) mixedOK (by kernel_rfl : Try.prog.funcs[28]? = some Try.f28) (by kernel_rfl) (by kernel_rfl : Try.f28.body = some gob28) (by kernel_rfl) (by kernel_rfl)
/-! ### jitney/match.carsOf$1 -/
noncomputable def gob61 : Code := match Try.f61.body with | some c => c | none => .skip
noncomputable def gof61 (k : Nat) : List (Nat × FSem) := []
theorem goI61 (k : Nat) : SoundF Try.prog 61 (.ev (goEnv (gof61 k) []) goH k gob61 5 [.tmp 2]) :=
  ev_inline (goEnv_ok (fun p hp => by
    unfold gof61 at hp
    cases hp)) mixedOK (by kernel_rfl : Try.prog.funcs[61]? = some Try.f61) (by kernel_rfl) (by kernel_rfl : Try.f61.body = some gob61) (by kernel_rfl) (by kernel_rfl)
/-! ### jitney/match.ridesOf$1 -/
noncomputable def gob62 : Code := match Try.f62.body with | some c => c | none => .skip
noncomputable def gof62 (k : Nat) : List (Nat × FSem) := []
theorem goI62 (k : Nat) : SoundF Try.prog 62 (.ev (goEnv (gof62 k) []) goH k gob62 5 [.tmp 2]) :=
  ev_inline (goEnv_ok (fun p hp => by
    unfold gof62 at hp
    cases hp)) mixedOK (by kernel_rfl : Try.prog.funcs[62]? = some Try.f62) (by kernel_rfl) (by kernel_rfl : Try.f62.body = some gob62) (by kernel_rfl) (by kernel_rfl)
/-! ### jitney/match.names -/
noncomputable def gob60 : Code := match Try.f60.body with | some c => c | none => .skip
noncomputable def gof60 (k : Nat) : List (Nat × FSem) := [(27, .ev (goEnv (gof27 k) []) goH k gob27 11 []), (28, .ev (goEnv (gof28 k) []) goH k gob28 61 [.tmp 2]), (61, .ev (goEnv (gof61 k) []) goH k gob61 5 [.tmp 2]), (62, .ev (goEnv (gof62 k) []) goH k gob62 5 [.tmp 2])]
theorem goI60_39 (k : Nat) : SoundF Try.prog 60 (.ev (goEnv (gof60 k) [(15, 61)]) goH k gob60 25 [.tmp 4]) :=
  ev_inline (goEnv_ok (fun p hp => by
    unfold gof60 at hp
    rcases List.mem_cons.1 hp with rfl | hp
    · exact goI27 k
    rcases List.mem_cons.1 hp with rfl | hp
    · exact goI28 k
    rcases List.mem_cons.1 hp with rfl | hp
    · exact goI61 k
    rcases List.mem_cons.1 hp with rfl | hp
    · exact goI62 k
    cases hp)) mixedOK (by kernel_rfl : Try.prog.funcs[60]? = some Try.f60) (by kernel_rfl) (by kernel_rfl : Try.f60.body = some gob60) (by kernel_rfl) (by kernel_rfl)
theorem goI60_40 (k : Nat) : SoundF Try.prog 60 (.ev (goEnv (gof60 k) [(15, 62)]) goH k gob60 25 [.tmp 4]) :=
  ev_inline (goEnv_ok (fun p hp => by
    unfold gof60 at hp
    rcases List.mem_cons.1 hp with rfl | hp
    · exact goI27 k
    rcases List.mem_cons.1 hp with rfl | hp
    · exact goI28 k
    rcases List.mem_cons.1 hp with rfl | hp
    · exact goI61 k
    rcases List.mem_cons.1 hp with rfl | hp
    · exact goI62 k
    cases hp)) mixedOK (by kernel_rfl : Try.prog.funcs[60]? = some Try.f60) (by kernel_rfl) (by kernel_rfl : Try.f60.body = some gob60) (by kernel_rfl) (by kernel_rfl)
/-! ### jitney/match.carsOf -/
noncomputable def gob39 : Code := match Try.f39.body with | some c => c | none => .skip
noncomputable def gof39 (k : Nat) : List (Nat × FSem) := [(60, .ev (goEnv (gof60 k) [(15, 61)]) goH k gob60 25 [.tmp 4]), (61, .ev (goEnv (gof61 k) []) goH k gob61 5 [.tmp 2])]
theorem goI39 (k : Nat) : SoundF Try.prog 39 (.ev (goEnv (gof39 k) []) goH k gob39 5 [.tmp 2]) :=
  ev_inline (goEnv_ok (fun p hp => by
    unfold gof39 at hp
    rcases List.mem_cons.1 hp with rfl | hp
    · exact goI60_39 k
    rcases List.mem_cons.1 hp with rfl | hp
    · exact goI61 k
    cases hp)) mixedOK (by kernel_rfl : Try.prog.funcs[39]? = some Try.f39) (by kernel_rfl) (by kernel_rfl : Try.f39.body = some gob39) (by kernel_rfl) (by kernel_rfl)
/-! ### jitney/match.ridesOf -/
noncomputable def gob40 : Code := match Try.f40.body with | some c => c | none => .skip
noncomputable def gof40 (k : Nat) : List (Nat × FSem) := [(60, .ev (goEnv (gof60 k) [(15, 62)]) goH k gob60 25 [.tmp 4]), (62, .ev (goEnv (gof62 k) []) goH k gob62 5 [.tmp 2])]
theorem goI40 (k : Nat) : SoundF Try.prog 40 (.ev (goEnv (gof40 k) []) goH k gob40 5 [.tmp 2]) :=
  ev_inline (goEnv_ok (fun p hp => by
    unfold gof40 at hp
    rcases List.mem_cons.1 hp with rfl | hp
    · exact goI60_40 k
    rcases List.mem_cons.1 hp with rfl | hp
    · exact goI62 k
    cases hp)) mixedOK (by kernel_rfl : Try.prog.funcs[40]? = some Try.f40) (by kernel_rfl) (by kernel_rfl : Try.f40.body = some gob40) (by kernel_rfl) (by kernel_rfl)
/-! ### (*jitney/match.graph).augment -/
noncomputable def gob82 : Code := match Try.f82.body with | some c => c | none => .skip
noncomputable def gof82 : Nat → Nat → List (Nat × FSem)
  | 0, _ => []
  | d + 1, k => [(82, .ev (goEnv (gof82 d k) []) goH k gob82 63 [.tmp 6])]
theorem goI82 : ∀ (d k : Nat), SoundF Try.prog 82 (.ev (goEnv (gof82 d k) []) goH k gob82 63 [.tmp 6])
  | 0, k => ev_inline (goEnv_ok (fun p hp => by unfold gof82 at hp; cases hp)) mixedOK (by kernel_rfl : Try.prog.funcs[82]? = some Try.f82) (by kernel_rfl) (by kernel_rfl : Try.f82.body = some gob82) (by kernel_rfl) (by kernel_rfl)
  | d + 1, k => ev_inline (goEnv_ok (fun p hp => by
    unfold gof82 at hp
    rcases List.mem_cons.1 hp with rfl | hp
    · exact goI82 d k
    cases hp)) mixedOK (by kernel_rfl : Try.prog.funcs[82]? = some Try.f82) (by kernel_rfl) (by kernel_rfl : Try.f82.body = some gob82) (by kernel_rfl) (by kernel_rfl)
/-! ### jitney/match.newGraph -/
noncomputable def gob58 : Code := match Try.f58.body with | some c => c | none => .skip
noncomputable def gof58 (k : Nat) : List (Nat × FSem) := [(30, .ev (goEnv (gof30 k) []) goH k gob30 54 [.tmp 4, .tmp 5]), (39, .ev (goEnv (gof39 k) []) goH k gob39 5 [.tmp 2]), (40, .ev (goEnv (gof40 k) []) goH k gob40 5 [.tmp 2]), (81, .mfn (.int .i64) (.cons (.slice (.int .i64)) (.cons (.int .i64) .nil)) fun x => s81 x.1 x.2.1), (82, .ev (goEnv (gof82 4 k) []) goH k gob82 63 [.tmp 6])]
theorem goI58 (k : Nat) : SoundF Try.prog 58 (.ev (goEnv (gof58 k) []) goH k gob58 108 [.tmp 2]) :=
  ev_inline (goEnv_ok (fun p hp => by
    unfold gof58 at hp
    rcases List.mem_cons.1 hp with rfl | hp
    · exact goI30 k
    rcases List.mem_cons.1 hp with rfl | hp
    · exact goI39 k
    rcases List.mem_cons.1 hp with rfl | hp
    · exact goI40 k
    rcases List.mem_cons.1 hp with rfl | hp
    · exact S81
    rcases List.mem_cons.1 hp with rfl | hp
    · exact goI82 4 k
    cases hp)) mixedOK (by kernel_rfl : Try.prog.funcs[58]? = some Try.f58) (by kernel_rfl) (by kernel_rfl : Try.f58.body = some gob58) (by kernel_rfl) (by kernel_rfl)
/-! ### (*jitney/match.graph).most -/
noncomputable def gob59 : Code := match Try.f59.body with | some c => c | none => .skip
noncomputable def gof59 (k : Nat) : List (Nat × FSem) := []
theorem goI59 (k : Nat) : SoundF Try.prog 59 (.ev (goEnv (gof59 k) []) goH k gob59 21 [.tmp 2]) :=
  ev_inline (goEnv_ok (fun p hp => by
    unfold gof59 at hp
    cases hp)) mixedOK (by kernel_rfl : Try.prog.funcs[59]? = some Try.f59) (by kernel_rfl) (by kernel_rfl : Try.f59.body = some gob59) (by kernel_rfl) (by kernel_rfl)
/-! ### jitney/match.Most -/
noncomputable def gob38 : Code := match Try.f38.body with | some c => c | none => .skip
noncomputable def gof38 (k : Nat) : List (Nat × FSem) := [(21, .ev (goEnv (gof21 k) []) goH k gob21 44 [.tmp 2]), (58, .ev (goEnv (gof58 k) []) goH k gob58 108 [.tmp 2]), (59, .ev (goEnv (gof59 k) []) goH k gob59 21 [.tmp 2])]
theorem goI38 (k : Nat) : SoundF Try.prog 38 (.ev (goEnv (gof38 k) []) goH k gob38 13 [.tmp 2, .tmp 3]) :=
  ev_inline (goEnv_ok (fun p hp => by
    unfold gof38 at hp
    rcases List.mem_cons.1 hp with rfl | hp
    · exact goI21 k
    rcases List.mem_cons.1 hp with rfl | hp
    · exact goI58 k
    rcases List.mem_cons.1 hp with rfl | hp
    · exact goI59 k
    cases hp)) mixedOK (by kernel_rfl : Try.prog.funcs[38]? = some Try.f38) (by kernel_rfl) (by kernel_rfl : Try.f38.body = some gob38) (by kernel_rfl) (by kernel_rfl)
/-! ### jitney/jitlaw2.matched -/
noncomputable def gob13 : Code := match Try.f13.body with | some c => c | none => .skip
noncomputable def gof13 (k : Nat) : List (Nat × FSem) := [(38, .ev (goEnv (gof38 k) []) goH k gob38 13 [.tmp 2, .tmp 3])]
def s13 : Option (Bool × Unit) := some (true, ())
theorem gogate (x : (Tys.nil).den) : evFun (goEnv (gof13 100) []) goH 100 gob13 17 [.tmp 0] (explodes .nil x) [] (dec (.cons .bool .nil)) = s13 := by kernel_rfl
theorem S13 : SoundF Try.prog 13 (.pfn .nil (.cons .bool .nil) fun _ => s13) :=
  pfn_sound (E := fun k => goEnv (gof13 k) []) (H := goH) (fun k => goEnv_ok (fun p hp => by
    unfold gof13 at hp
    rcases List.mem_cons.1 hp with rfl | hp
    · exact goI38 k
    cases hp)) mixedOK (by kernel_rfl : Try.prog.funcs[13]? = some Try.f13) (by kernel_rfl) (by kernel_rfl : Try.f13.body = some gob13) (by kernel_rfl) (by kernel_rfl)
    (fun x y hw hy => ⟨100, (gogate x).trans hy⟩)
end Go.Vm
