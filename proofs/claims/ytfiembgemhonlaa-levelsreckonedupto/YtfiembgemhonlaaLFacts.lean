/- LevelsReckoned: Level and Low answer as the reference does, for all arguments. What its row says of the program. Own work. -/
import Derived.JoinedCond
import Derived.Test.YtfiembgemhonlaaProg
import Derived.Test.YtfiembgemhonlaaRows
set_option linter.unusedVariables false
set_option maxRecDepth 100000
namespace Go.Proofs.Ytfiembgemhonlaa.levelsReckoned
theorem q1 : (Rows.levelsReckonedUptoRow.inPlace == Try.pinned.checked.prog.inPlace 5) = true := by kernel_rfl
theorem q2 : (Rows.levelsReckonedUptoRow.unfollowed == Try.pinned.checked.prog.unfollowed 5) = true := by kernel_rfl
theorem q3 : (Rows.levelsReckonedUptoRow.recurses == Try.pinned.checked.prog.recurses 5) = true := by kernel_rfl
theorem q4 : (Rows.levelsReckonedUptoRow.named == Try.pinned.checked.prog.varsNamed 5) = true := by kernel_rfl
theorem facts : joinedFacts Try.pinned.checked.prog 5 Try.f5 (Rows.OpenSpec.upto Rows.levelsReckonedSpec).bare Rows.levelsReckonedUptoRow = true := by
  unfold joinedFacts
  rw [q1, q2, q3, q4]
  kernel_rfl
theorem named : Try.pinned.checked.prog.funcNamed Rows.levelsReckonedUptoRow.func = some 5 := by kernel_rfl
end Go.Proofs.Ytfiembgemhonlaa.levelsReckoned
