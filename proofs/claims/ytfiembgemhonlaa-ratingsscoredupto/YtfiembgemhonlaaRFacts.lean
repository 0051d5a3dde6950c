/- RatingsScored: CheckRatings, Merge, Score and Ranked are as specified What its row says of the program. Own work. -/
import Derived.JoinedCond
import Derived.Test.YtfiembgemhonlaaProg
import Derived.Test.YtfiembgemhonlaaRows
set_option linter.unusedVariables false
set_option maxRecDepth 100000
namespace Go.Proofs.Ytfiembgemhonlaa.ratingsScored
theorem q1 : (Rows.ratingsScoredUptoRow.inPlace == Try.pinned.checked.prog.inPlace 11) = true := by kernel_rfl
theorem q2 : (Rows.ratingsScoredUptoRow.unfollowed == Try.pinned.checked.prog.unfollowed 11) = true := by kernel_rfl
theorem q3 : (Rows.ratingsScoredUptoRow.recurses == Try.pinned.checked.prog.recurses 11) = true := by kernel_rfl
theorem q4 : (Rows.ratingsScoredUptoRow.named == Try.pinned.checked.prog.varsNamed 11) = true := by kernel_rfl
theorem facts : joinedFacts Try.pinned.checked.prog 11 Try.f11 (Rows.OpenSpec.upto Rows.ratingsScoredSpec).bare Rows.ratingsScoredUptoRow = true := by
  unfold joinedFacts
  rw [q1, q2, q3, q4]
  kernel_rfl
theorem named : Try.pinned.checked.prog.funcNamed Rows.ratingsScoredUptoRow.func = some 11 := by kernel_rfl
end Go.Proofs.Ytfiembgemhonlaa.ratingsScored
