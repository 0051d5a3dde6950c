/- OfferTexts: Text and Read are as specified for all offers and strings, where these are of bulk at most 1048576. What its row says of the program. Own work. -/
import Derived.JoinedCond
import Derived.Test.YtbjpkdbneopgkaaGreatDoorProg
import Derived.Test.YtbjpkdbneopgkaaGreatDoorRows
set_option linter.unusedVariables false
set_option maxRecDepth 100000
namespace Go.Proofs.YtbjpkdbneopgkaaGreatDoor.offerTexts
theorem q1 : (Rows.offerTextsUptoRow.inPlace == Tryz.pinned.checked.prog.inPlace 5) = true := by kernel_rfl
theorem q2 : (Rows.offerTextsUptoRow.unfollowed == Tryz.pinned.checked.prog.unfollowed 5) = true := by kernel_rfl
theorem q3 : (Rows.offerTextsUptoRow.recurses == Tryz.pinned.checked.prog.recurses 5) = true := by kernel_rfl
theorem q4 : (Rows.offerTextsUptoRow.named == Tryz.pinned.checked.prog.varsNamed 5) = true := by kernel_rfl
theorem facts : joinedFacts Tryz.pinned.checked.prog 5 Tryz.f5 (Rows.OpenSpec.upto Rows.offerTextsSpec).bare Rows.offerTextsUptoRow = true := by
  unfold joinedFacts
  rw [q1, q2, q3, q4]
  kernel_rfl
theorem named : Tryz.pinned.checked.prog.funcNamed Rows.offerTextsUptoRow.func = some 5 := by kernel_rfl
end Go.Proofs.YtbjpkdbneopgkaaGreatDoor.offerTexts
