/- strings.Compare and the sorts by a comparison: contracts. Own work. -/
import Derived.Test.YtfiembgemhonlaaVmQ
import Derived.Test.YtfiembgemhonlaaDSort
import Derived.Test.YtfiembgemhonlaaVmD
import Derived.WalkKit
import Derived.Lib.Walk
import Derived.Lib.Bytealg
import Derived.Lib.SliceRun
set_option linter.unusedVariables false
set_option linter.unusedSimpArgs false
namespace Go.Vm
open Go.RowKit Go.Proofs Go.Lib
set_option maxRecDepth 100000 in
set_option maxHeartbeats 1000000 in
theorem walk211 (a b : ByteArray) (w : World) :
    Calls Try.prog 211 #[.string a, .string b] w fun e w' => e = .returned (.int .i64 (Lib.compareBytes a.data.toList b.data.toList)) ∧ w' = w := by
  go_enter Try.func211, Try.ntmps211
  go_wp2
  rw [run_callFunc_extern Try.func264 (by kernel_rfl) (by kernel_rfl) (by kernel_rfl) (e := Extern.BytealgCompare.compare) (by kernel_rfl), Lib.run_compareString]
  simp only [Result.andThen]
  rw [Oper.upon_value]
  go_wp2
  go_ret
  exact ⟨rfl, rfl⟩
def s211 (a b : ByteArray) : Int := Lib.compareBytes a.data.toList b.data.toList
noncomputable def body211 : Code := match Try.f211.body with | some c => c | none => .skip
theorem S211 : SoundF Try.prog 211 (.fn (.cons .str (.cons .str .nil)) (.cons (.int .i64) .nil) fun x => (s211 x.1 x.2.1, ())) := by
  intro ρ args objs K r hr
  refine pfn_fn (leaf_sound (enters_of (by kernel_rfl : Try.prog.funcs[211]? = some Try.f211) (by kernel_rfl) (by kernel_rfl : Try.f211.body = some body211)) (fun x y hwf hy w A μ vals hv => ?_)) args objs K r hr
  cases hy
  simp only [explodes, explode, TRs] at hv
  obtain ⟨v, rest, rfl, hv, v2, rest2, rfl, hv2, rfl⟩ := hv
  have e1 := VR.str (ob := obs []) (μ := μ) hv
  have e2 := VR.str (ob := obs []) (μ := μ) hv2
  subst e1 e2
  refine (walk211 x.1 x.2.1 w).mono ?_
  rintro e w' ⟨rfl, rfl⟩
  exact ⟨_, rfl, Keep.refl _ _, VR.mk_int _ _⟩
end Go.Vm
