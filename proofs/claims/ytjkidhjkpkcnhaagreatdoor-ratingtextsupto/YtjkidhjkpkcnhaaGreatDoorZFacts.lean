/- RatingTexts: Text and Read are as specified for all ratings and strings, where these are of bulk at most 1048576. What its row says of the program. Own work. -/
import Derived.JoinedCond
import Derived.Test.YtjkidhjkpkcnhaaGreatDoorProg
import Derived.Test.YtjkidhjkpkcnhaaGreatDoorRows
set_option linter.unusedVariables false
set_option maxRecDepth 100000
namespace Go.Proofs.YtjkidhjkpkcnhaaGreatDoor.ratingTexts
theorem q1 : (Rows.ratingTextsUptoRow.inPlace == Tryz.pinned.checked.prog.inPlace 6) = true := by kernel_rfl
theorem q2 : (Rows.ratingTextsUptoRow.unfollowed == Tryz.pinned.checked.prog.unfollowed 6) = true := by kernel_rfl
theorem q3 : (Rows.ratingTextsUptoRow.recurses == Tryz.pinned.checked.prog.recurses 6) = true := by kernel_rfl
theorem q4 : (Rows.ratingTextsUptoRow.named == Tryz.pinned.checked.prog.varsNamed 6) = true := by kernel_rfl
theorem facts : joinedFacts Tryz.pinned.checked.prog 6 Tryz.f6 (Rows.OpenSpec.upto Rows.ratingTextsSpec).bare Rows.ratingTextsUptoRow = true := by
  unfold joinedFacts
  rw [q1, q2, q3, q4]
  kernel_rfl
theorem named : Tryz.pinned.checked.prog.funcNamed Rows.ratingTextsUptoRow.func = some 6 := by kernel_rfl
end Go.Proofs.YtjkidhjkpkcnhaaGreatDoor.ratingTexts
