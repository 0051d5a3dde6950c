/- ShiftsCovered: CheckShifts, Drivers, Rosters, Thin and Tired answer as the reference does, for all arguments. What its row says of the program. Own work. -/
import Derived.JoinedCond
import Derived.Test.YtfiembgemhonlaaProg
import Derived.Test.YtfiembgemhonlaaRows
set_option linter.unusedVariables false
set_option maxRecDepth 100000
namespace Go.Proofs.Ytfiembgemhonlaa.shiftsCovered
theorem q1 : (Rows.shiftsCoveredUptoRow.inPlace == Try.pinned.checked.prog.inPlace 6) = true := by kernel_rfl
theorem q2 : (Rows.shiftsCoveredUptoRow.unfollowed == Try.pinned.checked.prog.unfollowed 6) = true := by kernel_rfl
theorem q3 : (Rows.shiftsCoveredUptoRow.recurses == Try.pinned.checked.prog.recurses 6) = true := by kernel_rfl
theorem q4 : (Rows.shiftsCoveredUptoRow.named == Try.pinned.checked.prog.varsNamed 6) = true := by kernel_rfl
theorem facts : joinedFacts Try.pinned.checked.prog 6 Try.f6 (Rows.OpenSpec.upto Rows.shiftsCoveredSpec).bare Rows.shiftsCoveredUptoRow = true := by
  unfold joinedFacts
  rw [q1, q2, q3, q4]
  kernel_rfl
theorem named : Try.pinned.checked.prog.funcNamed Rows.shiftsCoveredUptoRow.func = some 6 := by kernel_rfl
end Go.Proofs.Ytfiembgemhonlaa.shiftsCovered
