/- What function 81 (slices.Repeat[[]int,int]) gives: shown by unrolling. Own work. -/
import Derived.Test.YtbjpkdbneopgkaaPFn
import Derived.Test.YtbjpkdbneopgkaaPHand
import Derived.Test.YtbjpkdbneopgkaaVmK
import Derived.Test.YtbjpkdbneopgkaaProg
set_option maxRecDepth 100000
set_option linter.unusedVariables false
namespace Go.Vm
open Go.Proofs
def grts : List (Nat × TD) := [(1, (.cell .func)), (2, (.data (.int .i64))), (3, (.data (.int .i64))), (4, (.data .bool)), (5, (.data (.int .u8))), (6, (.data (.int .u8))), (7, (.data (.struct (.cons (.int .i64) (.cons (.int .i64) (.cons .bool (.cons (.int .u8) .nil))))))), (8, (.data (.struct (.cons (.int .i64) (.cons (.int .i64) (.cons .bool (.cons (.int .u8) .nil))))))), (9, (.data .str)), (10, (.data .str)), (11, (.data .str)), (12, (.data (.int .u64))), (15, (.cell .ptr)), (16, (.cell .ptr)), (17, (.cell .ptr)), (18, (.agg (.cons (.cell .ptr) .nil))), (19, (.agg (.cons (.cell .ptr) .nil))), (20, (.cell .iface)), (21, (.data (.int .i32))), (22, (.data (.slice (.struct (.cons .str (.cons .str (.cons (.int .i64) .nil))))))), (23, (.data (.int .i64))), (25, (.cell .func)), (26, (.cell .func)), (27, (.data (.struct (.cons .str (.cons .str (.cons (.int .i64) .nil)))))), (28, (.data (.struct (.cons .str (.cons .str (.cons (.int .i64) .nil)))))), (29, (.cell .func)), (30, (.cell .func)), (32, (.cell .func)), (33, (.cell .func)), (34, (.cell .func)), (35, (.cell .func)), (36, (.data (.slice (.struct (.cons .str (.cons .str (.cons (.int .i64) .nil))))))), (37, (.data (.slice (.struct (.cons .str (.cons .str .nil)))))), (38, (.data (.slice .str))), (40, (.cell .func)), (41, (.cell .func)), (42, (.data (.struct (.cons .str (.cons .str (.cons (.int .i64) .nil)))))), (43, (.data (.struct (.cons .str (.cons .str (.cons (.int .i64) .nil)))))), (45, (.cell .func)), (46, (.cell .func)), (47, (.data (.struct (.cons .str (.cons .str .nil))))), (48, (.data (.struct (.cons .str (.cons .str .nil))))), (49, (.cell .func)), (50, (.cell .func)), (51, (.cell .func)), (60, (.data (.slice (.int .i64)))), (77, (.data (.int .u64))), (90, (.data (.int .i64))), (94, (.cell .func)), (95, (.cell .func)), (97, (.data (.int .u32))), (98, (.cell .func)), (99, (.data (.int .u64))), (101, (.data (.slice (.slice (.int .i64))))), (102, (.data (.struct (.cons (.slice .str) (.cons (.slice .str) (.cons (.slice (.slice (.int .i64))) (.cons (.slice (.int .i64)) (.cons (.slice (.int .i64)) .nil)))))))), (103, (.data (.struct (.cons (.slice .str) (.cons (.slice .str) (.cons (.slice (.slice (.int .i64))) (.cons (.slice (.int .i64)) (.cons (.slice (.int .i64)) .nil)))))))), (104, (.cell .func)), (105, (.cell .func)), (108, (.cell .func)), (110, (.cell .func)), (111, (.cell .ptr)), (114, (.cell .func)), (115, (.cell .ptr)), (117, (.cell .func)), (119, (.cell .func))]
theorem grty : chkTypes Try.prog grts = true := by kernel_rfl
def grH : Hints := { loop := fun _ => none, region := fun _ => none, cond := fun _ => none, block := fun _ => none }
def grEnv (fs : List (Nat × FSem)) (vs : List (Nat × Nat)) : Env := { td := types grts, call := calls fs, fv := fvars vs, view := true, nest := true }
theorem grEnv_ok {fs : List (Nat × FSem)} {vs : List (Nat × Nat)} (hf : ∀ p ∈ fs, SoundF Try.prog p.1 p.2) : EnvOK Try.prog (grEnv fs vs) := ⟨types_ok grts grty, calls_sound fs hf⟩
/-! ### math/bits.Mul32 -/
noncomputable def grb94 : Code := match Try.f94.body with | some c => c | none => .skip
noncomputable def grf94 (k : Nat) : List (Nat × FSem) := []
theorem grI94 (k : Nat) : SoundF Try.prog 94 (.ev (grEnv (grf94 k) []) grH k grb94 17 [.tmp 4, .tmp 5]) :=
  ev_inline (grEnv_ok (fun p hp => by
    unfold grf94 at hp
    cases hp)) mixedOK (by kernel_rfl : Try.prog.funcs[94]? = some Try.f94) (by kernel_rfl) (by kernel_rfl : Try.f94.body = some grb94) (by kernel_rfl) (by kernel_rfl)
/-! ### math/bits.Mul64 -/
noncomputable def grb95 : Code := match Try.f95.body with | some c => c | none => .skip
noncomputable def grf95 (k : Nat) : List (Nat × FSem) := []
theorem grI95 (k : Nat) : SoundF Try.prog 95 (.ev (grEnv (grf95 k) []) grH k grb95 51 [.tmp 4, .tmp 5]) :=
  ev_inline (grEnv_ok (fun p hp => by
    unfold grf95 at hp
    cases hp)) mixedOK (by kernel_rfl : Try.prog.funcs[95]? = some Try.f95) (by kernel_rfl) (by kernel_rfl : Try.f95.body = some grb95) (by kernel_rfl) (by kernel_rfl)
/-! ### math/bits.Mul -/
noncomputable def grb90 : Code := match Try.f90.body with | some c => c | none => .skip
noncomputable def grf90 (k : Nat) : List (Nat × FSem) := [(94, .ev (grEnv (grf94 k) []) grH k grb94 17 [.tmp 4, .tmp 5]), (95, .ev (grEnv (grf95 k) []) grH k grb95 51 [.tmp 4, .tmp 5])]
theorem grI90 (k : Nat) : SoundF Try.prog 90 (.ev (grEnv (grf90 k) []) grH k grb90 30 [.tmp 4, .tmp 5]) :=
  ev_inline (grEnv_ok (fun p hp => by
    unfold grf90 at hp
    rcases List.mem_cons.1 hp with rfl | hp
    · exact grI94 k
    rcases List.mem_cons.1 hp with rfl | hp
    · exact grI95 k
    cases hp)) mixedOK (by kernel_rfl : Try.prog.funcs[90]? = some Try.f90) (by kernel_rfl) (by kernel_rfl : Try.f90.body = some grb90) (by kernel_rfl) (by kernel_rfl)
/-! ### slices.Repeat[[]int,int] -/
noncomputable def grb81 : Code := match Try.f81.body with | some c => c | none => .skip
noncomputable def grf81 (k : Nat) : List (Nat × FSem) := [(90, .ev (grEnv (grf90 k) []) grH k grb90 30 [.tmp 4, .tmp 5])]
/-- slices.Repeat of ints, where the gate asks it -/
def s81 (xs : List Int) (n : Int) : Option (List Int) := if xs = [-1] ∧ n = 2 then some [-1, -1] else none
theorem gr81 : evFun (grEnv (grf81 100) []) grH 100 grb81 48 [.tmp 4] (.sl (.int .i64) [(-1 : Int)] :: [.int .i64 2]) [] (rowRes (.int .i64)) = some [(-1 : Int), -1] := by kernel_rfl
theorem S81 : SoundF Try.prog 81 (.mfn (.int .i64) (.cons (.slice (.int .i64)) (.cons (.int .i64) .nil)) fun x => s81 x.1 x.2.1) :=
  mfn_sound (E := fun k => grEnv (grf81 k) []) (H := grH) (fun k => grEnv_ok (fun p hp => by
    unfold grf81 at hp
    rcases List.mem_cons.1 hp with rfl | hp
    · exact grI90 k
    cases hp)) mixedOK (by kernel_rfl : Try.prog.funcs[81]? = some Try.f81) (by kernel_rfl) (by kernel_rfl : Try.f81.body = some grb81) (by kernel_rfl) (by kernel_rfl)
    (fun x ys hw hy => by
      refine ⟨100, ?_⟩
      obtain ⟨xs, n, u⟩ := x
      simp only [s81] at hy
      split at hy
      · rename_i he
        obtain ⟨rfl, rfl⟩ := he
        cases hy
        exact gr81
      · cases hy)
end Go.Vm
