/- BatteriesGain: CheckVehicles, CheckPlaces, Gain and Needs answer as the reference does, for all arguments of bulk at most 1048576 (UptoSaid). Own work. -/
import Derived.Test.YtfiembgemhonlaaBRowA
set_option linter.unusedVariables false
set_option linter.unusedSimpArgs false
namespace Go.Proofs.Ytfiembgemhonlaa.batteriesGain
open Go.ChangeShapes Go.WideShapes Go.ChangeAt Go.RowKit Go.Vm
theorem over : Rows.batteriesGainUptoRow.holds Try.pinned (Rows.OpenSpec.upto Rows.batteriesGainSpec) :=
  OpenClaim.holds_of_cond 3 Try.f3 rfl rfl rfl rfl rfl rfl rfl ⟨rfl, rfl, rfl, rfl, rfl⟩ rfl rfl rfl rfl rfl (by kernel_rfl) Try.func3 (by kernel_rfl)
    (of_decide_eq_true (by kernel_rfl)) (by unfold Func.isWrapper; first | (rw [if_pos (by decide +kernel)]; kernel_rfl) | (rw [if_neg (by decide +kernel)]; exact ⟨rfl, rfl⟩))
    (fun os started H enc _ F => lifted os started H enc F)
end Go.Proofs.Ytfiembgemhonlaa.batteriesGain
namespace Go.Proofs.Ytfiembgemhonlaa
/-- BatteriesGain, where what it reads is of bulk at most 1048576 -/
theorem batteriesGain_holds : Rows.BatteriesGainUptoSaid := batteriesGain.over
#print axioms batteriesGain_holds
end Go.Proofs.Ytfiembgemhonlaa
