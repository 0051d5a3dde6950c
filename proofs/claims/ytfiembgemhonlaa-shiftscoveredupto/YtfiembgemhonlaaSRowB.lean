/- ShiftsCovered: CheckShifts, Drivers, Rosters, Thin and Tired answer as the reference does, for all arguments. Conditions: what the arguments read is of bulk at most 1048576 (UptoSaid). Own work. -/
import Derived.Test.YtfiembgemhonlaaSRowA
import Derived.Test.YtfiembgemhonlaaSFacts
set_option linter.unusedVariables false
set_option linter.unusedSimpArgs false
namespace Go.Proofs.Ytfiembgemhonlaa.shiftsCovered
open Go.ChangeShapes Go.WideShapes Go.ChangeAt Go.RowKit Go.Vm
theorem over : Rows.shiftsCoveredUptoRow.holds Try.pinned (Rows.OpenSpec.upto Rows.shiftsCoveredSpec) :=
  OpenClaim.holds_of_cond 6 Try.f6 rfl rfl rfl rfl rfl rfl rfl ⟨rfl, rfl, rfl, rfl, rfl⟩ rfl rfl rfl rfl rfl named Try.func6 facts
    (of_decide_eq_true (by kernel_rfl)) (by unfold Func.isWrapper; first | (rw [if_pos (by decide +kernel)]; kernel_rfl) | (rw [if_neg (by decide +kernel)]; exact ⟨rfl, rfl⟩))
    (fun os started H enc _ F => lifted os started H enc F)
end Go.Proofs.Ytfiembgemhonlaa.shiftsCovered
namespace Go.Proofs.Ytfiembgemhonlaa
/-- ShiftsCovered, where what it reads is of bulk at most 1048576 -/
theorem shiftsCovered_holds : Rows.ShiftsCoveredUptoSaid := shiftsCovered.over
#print axioms shiftsCovered_holds
end Go.Proofs.Ytfiembgemhonlaa
