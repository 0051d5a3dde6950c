/- VehiclesReady: Due and Ready are as specified for all services, vehicles, trips and charged, where these are of bulk at most 1048576. What its row says of the program. Own work. -/
import Derived.JoinedCond
import Derived.Test.YtjkidhjkpkcnhaaGreatDoorProg
import Derived.Test.YtjkidhjkpkcnhaaGreatDoorRows
set_option linter.unusedVariables false
set_option maxRecDepth 100000
namespace Go.Proofs.YtjkidhjkpkcnhaaGreatDoor.vehiclesReady
theorem q1 : (Rows.vehiclesReadyUptoRow.inPlace == Tryz.pinned.checked.prog.inPlace 4) = true := by kernel_rfl
theorem q2 : (Rows.vehiclesReadyUptoRow.unfollowed == Tryz.pinned.checked.prog.unfollowed 4) = true := by kernel_rfl
theorem q3 : (Rows.vehiclesReadyUptoRow.recurses == Tryz.pinned.checked.prog.recurses 4) = true := by kernel_rfl
theorem q4 : (Rows.vehiclesReadyUptoRow.named == Tryz.pinned.checked.prog.varsNamed 4) = true := by kernel_rfl
theorem facts : joinedFacts Tryz.pinned.checked.prog 4 Tryz.f4 (Rows.OpenSpec.upto Rows.vehiclesReadySpec).bare Rows.vehiclesReadyUptoRow = true := by
  unfold joinedFacts
  rw [q1, q2, q3, q4]
  kernel_rfl
theorem named : Tryz.pinned.checked.prog.funcNamed Rows.vehiclesReadyUptoRow.func = some 4 := by kernel_rfl
end Go.Proofs.YtjkidhjkpkcnhaaGreatDoor.vehiclesReady
