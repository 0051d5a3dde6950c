/- DeedsMerge: CheckDeeds, Merge, Write, Cars and Asked answer as the reference does, for all deeds and moments. Conditions: what the arguments read is of bulk at most 1048576 (UptoSaid). Own work. -/
import Derived.Test.YtfiembgemhonlaaDRowA
import Derived.Test.YtfiembgemhonlaaDFacts
set_option linter.unusedVariables false
set_option linter.unusedSimpArgs false
namespace Go.Proofs.Ytfiembgemhonlaa.deedsMerge
open Go.ChangeShapes Go.WideShapes Go.ChangeAt Go.RowKit Go.Vm
theorem over : Rows.deedsMergeUptoRow.holds Try.pinned (Rows.OpenSpec.upto Rows.deedsMergeSpec) :=
  OpenClaim.holds_of_cond 7 Try.f7 rfl rfl rfl rfl rfl rfl rfl ⟨rfl, rfl, rfl, rfl, rfl⟩ rfl rfl rfl rfl rfl named Try.func7 facts
    (of_decide_eq_true (by kernel_rfl)) (by unfold Func.isWrapper; first | (rw [if_pos (by decide +kernel)]; kernel_rfl) | (rw [if_neg (by decide +kernel)]; exact ⟨rfl, rfl⟩))
    (fun os started H enc _ F => lifted os started H enc F)
end Go.Proofs.Ytfiembgemhonlaa.deedsMerge
namespace Go.Proofs.Ytfiembgemhonlaa
/-- DeedsMerge, where what it reads is of bulk at most 1048576 -/
theorem deedsMerge_holds : Rows.DeedsMergeUptoSaid := deedsMerge.over
#print axioms deedsMerge_holds
end Go.Proofs.Ytfiembgemhonlaa
