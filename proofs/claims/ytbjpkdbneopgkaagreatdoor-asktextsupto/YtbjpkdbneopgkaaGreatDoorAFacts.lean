/- AskTexts: Text and Read are as specified for all asks and strings, where these are of bulk at most 1048576. What its row says of the program. Own work. -/
import Derived.JoinedCond
import Derived.Test.YtbjpkdbneopgkaaGreatDoorProg
import Derived.Test.YtbjpkdbneopgkaaGreatDoorRows
set_option linter.unusedVariables false
set_option maxRecDepth 100000
namespace Go.Proofs.YtbjpkdbneopgkaaGreatDoor.askTexts
theorem q1 : (Rows.askTextsUptoRow.inPlace == Tryz.pinned.checked.prog.inPlace 3) = true := by kernel_rfl
theorem q2 : (Rows.askTextsUptoRow.unfollowed == Tryz.pinned.checked.prog.unfollowed 3) = true := by kernel_rfl
theorem q3 : (Rows.askTextsUptoRow.recurses == Tryz.pinned.checked.prog.recurses 3) = true := by kernel_rfl
theorem q4 : (Rows.askTextsUptoRow.named == Tryz.pinned.checked.prog.varsNamed 3) = true := by kernel_rfl
theorem facts : joinedFacts Tryz.pinned.checked.prog 3 Tryz.f3 (Rows.OpenSpec.upto Rows.askTextsSpec).bare Rows.askTextsUptoRow = true := by
  unfold joinedFacts
  rw [q1, q2, q3, q4]
  kernel_rfl
theorem named : Tryz.pinned.checked.prog.funcNamed Rows.askTextsUptoRow.func = some 3 := by kernel_rfl
end Go.Proofs.YtbjpkdbneopgkaaGreatDoor.askTexts
