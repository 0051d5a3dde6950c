/- RidesAskedTwice: Twice and CheckRooms are as specified for all rides and rooms, where these are of bulk at most 1048576. What its row says of the program. Own work. -/
import Derived.JoinedCond
import Derived.Test.YtfiembgemhonlaaDoorProg
import Derived.Test.YtfiembgemhonlaaDoorRows
set_option linter.unusedVariables false
set_option maxRecDepth 100000
namespace Go.Proofs.YtfiembgemhonlaaDoor.ridesAskedTwice
theorem q1 : (Rows.ridesAskedTwiceUptoRow.inPlace == Tryd.pinned.checked.prog.inPlace 4) = true := by kernel_rfl
theorem q2 : (Rows.ridesAskedTwiceUptoRow.unfollowed == Tryd.pinned.checked.prog.unfollowed 4) = true := by kernel_rfl
theorem q3 : (Rows.ridesAskedTwiceUptoRow.recurses == Tryd.pinned.checked.prog.recurses 4) = true := by kernel_rfl
theorem q4 : (Rows.ridesAskedTwiceUptoRow.named == Tryd.pinned.checked.prog.varsNamed 4) = true := by kernel_rfl
theorem facts : joinedFacts Tryd.pinned.checked.prog 4 Tryd.f4 (Rows.OpenSpec.upto Rows.ridesAskedTwiceSpec).bare Rows.ridesAskedTwiceUptoRow = true := by
  unfold joinedFacts
  rw [q1, q2, q3, q4]
  kernel_rfl
theorem named : Tryd.pinned.checked.prog.funcNamed Rows.ridesAskedTwiceUptoRow.func = some 4 := by kernel_rfl
end Go.Proofs.YtfiembgemhonlaaDoor.ridesAskedTwice
