/- BonusesPaid: CheckDone, CheckQuests and Bonus are as specified for all that was done, and all quests, where these are of bulk at most 1048576. What its row says of the program. Own work. -/
import Derived.JoinedCond
import Derived.Test.YtfiembgemhonlaaDoorProg
import Derived.Test.YtfiembgemhonlaaDoorRows
set_option linter.unusedVariables false
set_option maxRecDepth 100000
namespace Go.Proofs.YtfiembgemhonlaaDoor.bonusesPaid
theorem q1 : (Rows.bonusesPaidUptoRow.inPlace == Tryd.pinned.checked.prog.inPlace 3) = true := by kernel_rfl
theorem q2 : (Rows.bonusesPaidUptoRow.unfollowed == Tryd.pinned.checked.prog.unfollowed 3) = true := by kernel_rfl
theorem q3 : (Rows.bonusesPaidUptoRow.recurses == Tryd.pinned.checked.prog.recurses 3) = true := by kernel_rfl
theorem q4 : (Rows.bonusesPaidUptoRow.named == Tryd.pinned.checked.prog.varsNamed 3) = true := by kernel_rfl
theorem facts : joinedFacts Tryd.pinned.checked.prog 3 Tryd.f3 (Rows.OpenSpec.upto Rows.bonusesPaidSpec).bare Rows.bonusesPaidUptoRow = true := by
  unfold joinedFacts
  rw [q1, q2, q3, q4]
  kernel_rfl
theorem named : Tryd.pinned.checked.prog.funcNamed Rows.bonusesPaidUptoRow.func = some 3 := by kernel_rfl
end Go.Proofs.YtfiembgemhonlaaDoor.bonusesPaid
