/- DeedsMerge: CheckDeeds, Merge, Write, Cars and Asked answer as the reference does, for all deeds and moments. What its row says of the program. Own work. -/
import Derived.JoinedCond
import Derived.Test.YtfiembgemhonlaaProg
import Derived.Test.YtfiembgemhonlaaRows
set_option linter.unusedVariables false
set_option maxRecDepth 100000
namespace Go.Proofs.Ytfiembgemhonlaa.deedsMerge
theorem q1 : (Rows.deedsMergeUptoRow.inPlace == Try.pinned.checked.prog.inPlace 7) = true := by kernel_rfl
theorem q2 : (Rows.deedsMergeUptoRow.unfollowed == Try.pinned.checked.prog.unfollowed 7) = true := by kernel_rfl
theorem q3 : (Rows.deedsMergeUptoRow.recurses == Try.pinned.checked.prog.recurses 7) = true := by kernel_rfl
theorem q4 : (Rows.deedsMergeUptoRow.named == Try.pinned.checked.prog.varsNamed 7) = true := by kernel_rfl
theorem facts : joinedFacts Try.pinned.checked.prog 7 Try.f7 (Rows.OpenSpec.upto Rows.deedsMergeSpec).bare Rows.deedsMergeUptoRow = true := by
  unfold joinedFacts
  rw [q1, q2, q3, q4]
  kernel_rfl
theorem named : Try.pinned.checked.prog.funcNamed Rows.deedsMergeUptoRow.func = some 7 := by kernel_rfl
end Go.Proofs.Ytfiembgemhonlaa.deedsMerge
