/- strings' IndexByte: a contract. Own work. -/
import Derived.Test.YtfiembgemhonlaaBSp
import Derived.Test.YtfiembgemhonlaaVmD
import Derived.WalkKit
import Derived.Lib.Walk
import Derived.Lib.Bytealg
import Derived.Lib.SliceRun
set_option linter.unusedVariables false
set_option linter.unusedSimpArgs false
namespace Go.Vm
open Go.RowKit Go.Proofs Go.Lib
set_option maxRecDepth 100000 in
set_option maxHeartbeats 1000000 in
theorem walk265 (s : ByteArray) (c : Int) (w : World) :
    Calls Try.prog 265 #[.string s, .int .u8 c] w fun e w' => e = .returned (.int .i64 (Lib.indexByte s.data.toList c.toNat.toUInt8)) ∧ w' = w := by
  go_enter Try.func265, Try.ntmps265
  go_wp2
  rw [run_callFunc_extern Try.func315 (by kernel_rfl) (by kernel_rfl) (by kernel_rfl) (e := Extern.BytealgIndexByte.indexByte) (by kernel_rfl), Lib.run_indexByteString]
  simp only [Result.andThen]
  rw [Oper.upon_value]
  go_wp2
  go_ret
  exact ⟨rfl, rfl⟩
noncomputable def body265 : Code := match Try.f265.body with | some c => c | none => .skip
theorem S265 : SoundF Try.prog 265 (.fn (.cons .str (.cons (.int .u8) .nil)) (.cons (.int .i64) .nil) fun x => (s265 x.1 x.2.1, ())) := by
  intro ρ args objs K r hr
  refine pfn_fn (leaf_sound (enters_of (by kernel_rfl : Try.prog.funcs[265]? = some Try.f265) (by kernel_rfl) (by kernel_rfl : Try.f265.body = some body265)) (fun x y hwf hy w A μ vals hv => ?_)) args objs K r hr
  cases hy
  simp only [explodes, explode, TRs] at hv
  obtain ⟨v, rest, rfl, hv, v2, rest2, rfl, hv2, rfl⟩ := hv
  have e1 := VR.str (ob := obs []) (μ := μ) hv
  have e2 := VR.int (ob := obs []) (μ := μ) hv2
  subst e1 e2
  refine (walk265 x.1 x.2.1 w).mono ?_
  rintro e w' ⟨rfl, rfl⟩
  exact ⟨_, rfl, Keep.refl _ _, VR.mk_int _ _⟩
end Go.Vm
