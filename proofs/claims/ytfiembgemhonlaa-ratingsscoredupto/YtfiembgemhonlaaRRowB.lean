/- RatingsScored: CheckRatings, Merge, Score and Ranked are as specified Conditions: what the arguments read is of bulk at most 1048576 (UptoSaid). Own work. -/
import Derived.Test.YtfiembgemhonlaaRRowA
import Derived.Test.YtfiembgemhonlaaRFacts
set_option linter.unusedVariables false
set_option linter.unusedSimpArgs false
namespace Go.Proofs.Ytfiembgemhonlaa.ratingsScored
open Go.ChangeShapes Go.WideShapes Go.ChangeAt Go.RowKit Go.Vm
theorem over : Rows.ratingsScoredUptoRow.holds Try.pinned (Rows.OpenSpec.upto Rows.ratingsScoredSpec) :=
  OpenClaim.holds_of_cond 11 Try.f11 rfl rfl rfl rfl rfl rfl rfl ⟨rfl, rfl, rfl, rfl, rfl⟩ rfl rfl rfl rfl rfl named Try.func11 facts
    (of_decide_eq_true (by kernel_rfl)) (by unfold Func.isWrapper; first | (rw [if_pos (by decide +kernel)]; kernel_rfl) | (rw [if_neg (by decide +kernel)]; exact ⟨rfl, rfl⟩))
    (fun os started H enc _ F => lifted os started H enc F)
end Go.Proofs.Ytfiembgemhonlaa.ratingsScored
namespace Go.Proofs.Ytfiembgemhonlaa
/-- RatingsScored, where what it reads is of bulk at most 1048576 -/
theorem ratingsScored_holds : Rows.RatingsScoredUptoSaid := ratingsScored.over
#print axioms ratingsScored_holds
end Go.Proofs.Ytfiembgemhonlaa
