/- LevelsReckoned: Level and Low answer as the reference does, for all arguments. Conditions: what the arguments read is of bulk at most 1048576 (UptoSaid). Own work. -/
import Derived.Test.YtfiembgemhonlaaLRowA
import Derived.Test.YtfiembgemhonlaaLFacts
set_option linter.unusedVariables false
set_option linter.unusedSimpArgs false
namespace Go.Proofs.Ytfiembgemhonlaa.levelsReckoned
open Go.ChangeShapes Go.WideShapes Go.ChangeAt Go.RowKit Go.Vm
theorem over : Rows.levelsReckonedUptoRow.holds Try.pinned (Rows.OpenSpec.upto Rows.levelsReckonedSpec) :=
  OpenClaim.holds_of_cond 5 Try.f5 rfl rfl rfl rfl rfl rfl rfl ⟨rfl, rfl, rfl, rfl, rfl⟩ rfl rfl rfl rfl rfl named Try.func5 facts
    (of_decide_eq_true (by kernel_rfl)) (by unfold Func.isWrapper; first | (rw [if_pos (by decide +kernel)]; kernel_rfl) | (rw [if_neg (by decide +kernel)]; exact ⟨rfl, rfl⟩))
    (fun os started H enc _ F => lifted os started H enc F)
end Go.Proofs.Ytfiembgemhonlaa.levelsReckoned
namespace Go.Proofs.Ytfiembgemhonlaa
/-- LevelsReckoned, where what it reads is of bulk at most 1048576 -/
theorem levelsReckoned_holds : Rows.LevelsReckonedUptoSaid := levelsReckoned.over
#print axioms levelsReckoned_holds
end Go.Proofs.Ytfiembgemhonlaa
