/- DeedTexts: Text and Read are as specified for all deeds and strings, where these are of bulk at most 1048576. What its row says of the program. Own work. -/
import Derived.JoinedCond
import Derived.Test.YtbjpkdbneopgkaaGreatDoorProg
import Derived.Test.YtbjpkdbneopgkaaGreatDoorRows
set_option linter.unusedVariables false
set_option maxRecDepth 100000
namespace Go.Proofs.YtbjpkdbneopgkaaGreatDoor.deedTexts
theorem q1 : (Rows.deedTextsUptoRow.inPlace == Tryz.pinned.checked.prog.inPlace 4) = true := by kernel_rfl
theorem q2 : (Rows.deedTextsUptoRow.unfollowed == Tryz.pinned.checked.prog.unfollowed 4) = true := by kernel_rfl
theorem q3 : (Rows.deedTextsUptoRow.recurses == Tryz.pinned.checked.prog.recurses 4) = true := by kernel_rfl
theorem q4 : (Rows.deedTextsUptoRow.named == Tryz.pinned.checked.prog.varsNamed 4) = true := by kernel_rfl
theorem facts : joinedFacts Tryz.pinned.checked.prog 4 Tryz.f4 (Rows.OpenSpec.upto Rows.deedTextsSpec).bare Rows.deedTextsUptoRow = true := by
  unfold joinedFacts
  rw [q1, q2, q3, q4]
  kernel_rfl
theorem named : Tryz.pinned.checked.prog.funcNamed Rows.deedTextsUptoRow.func = some 4 := by kernel_rfl
end Go.Proofs.YtbjpkdbneopgkaaGreatDoor.deedTexts
