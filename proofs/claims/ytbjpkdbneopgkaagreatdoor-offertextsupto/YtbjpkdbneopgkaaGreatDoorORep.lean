/- What function 132 (slices.Repeat[[]int,int]) gives: shown by unrolling. Own work. -/
import Derived.Test.YtbjpkdbneopgkaaGreatDoorAFn
import Derived.Test.YtbjpkdbneopgkaaGreatDoorAHandR
import Derived.Test.YtbjpkdbneopgkaaGreatDoorVmK
import Derived.Test.YtbjpkdbneopgkaaGreatDoorProg
set_option maxRecDepth 100000
set_option linter.unusedVariables false
namespace Go.Vm
open Go.Proofs

def grts : List (Nat × TD) := [(1, (.cell .func)), (2, (.data (.int .i64))), (3, (.data (.int .i64))), (4, (.data .bool)), (5, (.data (.int .u8))), (6, (.data (.int .u8))), (7, (.data (.struct (.cons (.int .i64) (.cons (.int .i64) (.cons .bool (.cons (.int .u8) .nil))))))), (8, (.data (.struct (.cons (.int .i64) (.cons (.int .i64) (.cons .bool (.cons (.int .u8) .nil))))))), (9, (.data .str)), (10, (.data .str)), (11, (.data .str)), (12, (.data (.int .u64))), (15, (.cell .ptr)), (16, (.cell .ptr)), (17, (.cell .ptr)), (18, (.agg (.cons (.cell .ptr) .nil))), (19, (.agg (.cons (.cell .ptr) .nil))), (20, (.cell .iface)), (21, (.data (.int .i32))), (22, (.data (.slice (.struct (.cons (.int .i64) (.cons (.int .i64) (.cons (.struct (.cons .str (.cons .str (.cons .str (.cons .str (.cons (.int .i64) (.cons (.int .i64) (.cons (.int .i64) (.cons (.int .i64) .nil))))))))) .nil))))))), (23, (.data (.int .i64))), (24, (.cell .func)), (25, (.cell .func)), (27, (.cell .func)), (28, (.cell .func)), (29, (.cell .func)), (30, (.data (.struct (.cons .str (.cons .str (.cons .str (.cons .str (.cons (.int .i64) (.cons (.int .i64) (.cons (.int .i64) (.cons (.int .i64) .nil))))))))))), (31, (.data (.struct (.cons .str (.cons .str (.cons .str (.cons .str (.cons (.int .i64) (.cons (.int .i64) (.cons (.int .i64) (.cons (.int .i64) .nil))))))))))), (32, (.data (.struct (.cons (.int .i64) (.cons (.int .i64) (.cons (.struct (.cons .str (.cons .str (.cons .str (.cons .str (.cons (.int .i64) (.cons (.int .i64) (.cons (.int .i64) (.cons (.int .i64) .nil))))))))) .nil)))))), (33, (.data (.struct (.cons (.int .i64) (.cons (.int .i64) (.cons (.struct (.cons .str (.cons .str (.cons .str (.cons .str (.cons (.int .i64) (.cons (.int .i64) (.cons (.int .i64) (.cons (.int .i64) .nil))))))))) .nil)))))), (35, (.cell .func)), (36, (.cell .func)), (37, (.cell .func)), (38, (.cell .func)), (39, (.data (.slice (.struct (.cons .str (.cons (.int .i64) (.cons (.int .i64) (.cons (.int .i64) (.cons .str (.cons .str (.cons (.struct (.cons .str (.cons (.int .i64) (.cons (.int .i64) .nil)))) (.cons (.struct (.cons .str (.cons .str (.cons .str (.cons .str (.cons (.int .i64) (.cons (.int .i64) (.cons (.int .i64) (.cons (.int .i64) .nil))))))))) .nil)))))))))))), (40, (.cell .func)), (41, (.cell .func)), (42, (.cell .func)), (43, (.cell .func)), (44, (.data (.struct (.cons .str (.cons (.int .i64) (.cons (.int .i64) .nil)))))), (45, (.data (.struct (.cons .str (.cons (.int .i64) (.cons (.int .i64) .nil)))))), (46, (.data (.struct (.cons .str (.cons (.int .i64) (.cons (.int .i64) (.cons (.int .i64) (.cons .str (.cons .str (.cons (.struct (.cons .str (.cons (.int .i64) (.cons (.int .i64) .nil)))) (.cons (.struct (.cons .str (.cons .str (.cons .str (.cons .str (.cons (.int .i64) (.cons (.int .i64) (.cons (.int .i64) (.cons (.int .i64) .nil))))))))) .nil))))))))))), (47, (.data (.struct (.cons .str (.cons (.int .i64) (.cons (.int .i64) (.cons (.int .i64) (.cons .str (.cons .str (.cons (.struct (.cons .str (.cons (.int .i64) (.cons (.int .i64) .nil)))) (.cons (.struct (.cons .str (.cons .str (.cons .str (.cons .str (.cons (.int .i64) (.cons (.int .i64) (.cons (.int .i64) (.cons (.int .i64) .nil))))))))) .nil))))))))))), (49, (.cell .func)), (50, (.cell .func)), (51, (.cell .func)), (91, (.data (.slice (.int .i64)))), (97, (.data (.struct (.cons .str (.cons .str (.cons .str (.cons .str (.cons (.int .i64) (.cons (.int .i64) (.cons (.int .i64) (.cons (.int .i64) (.cons (.int .i64) (.cons (.int .i64) (.cons (.int .i64) (.cons (.int .i64) (.cons (.int .i64) (.cons (.slice (.struct (.cons (.int .i64) (.cons .bool (.cons (.int .i64) .nil))))) .nil))))))))))))))))), (98, (.data (.struct (.cons .str (.cons .str (.cons .str (.cons .str (.cons (.int .i64) (.cons (.int .i64) (.cons (.int .i64) (.cons (.int .i64) (.cons (.int .i64) (.cons (.int .i64) (.cons (.int .i64) (.cons (.int .i64) (.cons (.int .i64) (.cons (.slice (.struct (.cons (.int .i64) (.cons .bool (.cons (.int .i64) .nil))))) .nil))))))))))))))))), (99, (.cell .func)), (101, (.cell .func)), (102, (.cell .func)), (103, (.cell .func)), (104, (.cell .func)), (108, (.data (.slice (.struct (.cons .str (.cons .str (.cons .str (.cons .str (.cons (.int .i64) (.cons (.int .i64) (.cons (.int .i64) (.cons (.int .i64) .nil)))))))))))), (110, (.cell .func)), (111, (.cell .func)), (114, (.cell .func)), (115, (.cell .func)), (116, (.cell .func)), (117, (.cell .func)), (118, (.cell .func)), (119, (.cell .func)), (120, (.cell .ptr)), (155, (.data (.struct (.cons (.int .i64) (.cons .bool (.cons (.int .i64) .nil)))))), (172, (.data (.int .u64))), (181, (.cell .func)), (186, (.data (.int .u64))), (196, (.data (.int .u32)))]
theorem grty : chkTypes Tryz.prog grts = true := by kernel_rfl
def grH : Hints := { loop := fun _ => none, region := fun _ => none, cond := fun _ => none, block := fun _ => none }
def grEnv (fs : List (Nat × FSem)) (vs : List (Nat × Nat)) : Env := { td := types grts, call := calls fs, fv := fvars vs, view := true, nest := true }
theorem grEnv_ok {fs : List (Nat × FSem)} {vs : List (Nat × Nat)} (hf : ∀ p ∈ fs, SoundF Tryz.prog p.1 p.2) : EnvOK Tryz.prog (grEnv fs vs) := ⟨types_ok grts grty, calls_sound fs hf⟩
/-! ### math/bits.Mul32 -/
noncomputable def grb180 : Code := match Tryz.f180.body with | some c => c | none => .skip
noncomputable def grf180 (k : Nat) : List (Nat × FSem) := []
theorem grI180 (k : Nat) : SoundF Tryz.prog 180 (.ev (grEnv (grf180 k) []) grH k grb180 17 [.tmp 4, .tmp 5]) :=
  ev_inline (grEnv_ok (fun p hp => by
    unfold grf180 at hp
    cases hp)) mixedOK (by kernel_rfl : Tryz.prog.funcs[180]? = some Tryz.f180) (by kernel_rfl) (by kernel_rfl : Tryz.f180.body = some grb180) (by kernel_rfl) (by kernel_rfl)
/-! ### math/bits.Mul64 -/
noncomputable def grb181 : Code := match Tryz.f181.body with | some c => c | none => .skip
noncomputable def grf181 (k : Nat) : List (Nat × FSem) := []
theorem grI181 (k : Nat) : SoundF Tryz.prog 181 (.ev (grEnv (grf181 k) []) grH k grb181 51 [.tmp 4, .tmp 5]) :=
  ev_inline (grEnv_ok (fun p hp => by
    unfold grf181 at hp
    cases hp)) mixedOK (by kernel_rfl : Tryz.prog.funcs[181]? = some Tryz.f181) (by kernel_rfl) (by kernel_rfl : Tryz.f181.body = some grb181) (by kernel_rfl) (by kernel_rfl)
/-! ### math/bits.Mul -/
noncomputable def grb155 : Code := match Tryz.f155.body with | some c => c | none => .skip
noncomputable def grf155 (k : Nat) : List (Nat × FSem) := [(180, .ev (grEnv (grf180 k) []) grH k grb180 17 [.tmp 4, .tmp 5]), (181, .ev (grEnv (grf181 k) []) grH k grb181 51 [.tmp 4, .tmp 5])]
theorem grI155 (k : Nat) : SoundF Tryz.prog 155 (.ev (grEnv (grf155 k) []) grH k grb155 30 [.tmp 4, .tmp 5]) :=
  ev_inline (grEnv_ok (fun p hp => by
    unfold grf155 at hp
    rcases List.mem_cons.1 hp with rfl | hp
    · exact grI180 k
    rcases List.mem_cons.1 hp with rfl | hp
    · exact grI181 k
    cases hp)) mixedOK (by kernel_rfl : Tryz.prog.funcs[155]? = some Tryz.f155) (by kernel_rfl) (by kernel_rfl : Tryz.f155.body = some grb155) (by kernel_rfl) (by kernel_rfl)
/-! ### slices.Repeat[[]int,int] -/
noncomputable def grb132 : Code := match Tryz.f132.body with | some c => c | none => .skip
noncomputable def grf132 (k : Nat) : List (Nat × FSem) := [(155, .ev (grEnv (grf155 k) []) grH k grb155 30 [.tmp 4, .tmp 5])]
/-- slices.Repeat of ints, where the gate asks it -/
def s132 (xs : List Int) (n : Int) : Option (List Int) := if xs = [-1] ∧ n = 2 then some [-1, -1] else none
theorem gr132 : evFun (grEnv (grf132 100) []) grH 100 grb132 48 [.tmp 4] (.sl (.int .i64) [(-1 : Int)] :: [.int .i64 2]) [] (rowRes (.int .i64)) = some [(-1 : Int), -1] := by kernel_rfl
theorem S132 : SoundF Tryz.prog 132 (.mfn (.int .i64) (.cons (.slice (.int .i64)) (.cons (.int .i64) .nil)) fun x => s132 x.1 x.2.1) :=
  mfn_sound (E := fun k => grEnv (grf132 k) []) (H := grH) (fun k => grEnv_ok (fun p hp => by
    unfold grf132 at hp
    rcases List.mem_cons.1 hp with rfl | hp
    · exact grI155 k
    cases hp)) mixedOK (by kernel_rfl : Tryz.prog.funcs[132]? = some Tryz.f132) (by kernel_rfl) (by kernel_rfl : Tryz.f132.body = some grb132) (by kernel_rfl) (by kernel_rfl)
    (fun x ys hw hy => by
      refine ⟨100, ?_⟩
      obtain ⟨xs, n, u⟩ := x
      simp only [s132] at hy
      split at hy
      · rename_i he
        obtain ⟨rfl, rfl⟩ := he
        cases hy
        exact gr132
      · cases hy)
end Go.Vm
