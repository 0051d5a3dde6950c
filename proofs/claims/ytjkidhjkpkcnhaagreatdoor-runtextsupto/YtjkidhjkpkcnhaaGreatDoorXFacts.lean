/- RunTexts: Text and Read are as specified for all trips and strings, where these are of bulk at most 1048576. What its row says of the program. Own work. -/
import Derived.JoinedCond
import Derived.Test.YtjkidhjkpkcnhaaGreatDoorProg
import Derived.Test.YtjkidhjkpkcnhaaGreatDoorRows
set_option linter.unusedVariables false
set_option maxRecDepth 100000
namespace Go.Proofs.YtjkidhjkpkcnhaaGreatDoor.runTexts
theorem q1 : (Rows.runTextsUptoRow.inPlace == Tryz.pinned.checked.prog.inPlace 5) = true := by kernel_rfl
theorem q2 : (Rows.runTextsUptoRow.unfollowed == Tryz.pinned.checked.prog.unfollowed 5) = true := by kernel_rfl
theorem q3 : (Rows.runTextsUptoRow.recurses == Tryz.pinned.checked.prog.recurses 5) = true := by kernel_rfl
theorem q4 : (Rows.runTextsUptoRow.named == Tryz.pinned.checked.prog.varsNamed 5) = true := by kernel_rfl
theorem facts : joinedFacts Tryz.pinned.checked.prog 5 Tryz.f5 (Rows.OpenSpec.upto Rows.runTextsSpec).bare Rows.runTextsUptoRow = true := by
  unfold joinedFacts
  rw [q1, q2, q3, q4]
  kernel_rfl
theorem named : Tryz.pinned.checked.prog.funcNamed Rows.runTextsUptoRow.func = some 5 := by kernel_rfl
end Go.Proofs.YtjkidhjkpkcnhaaGreatDoor.runTexts
