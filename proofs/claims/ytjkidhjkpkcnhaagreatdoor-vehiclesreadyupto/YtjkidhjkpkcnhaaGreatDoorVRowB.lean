/- VehiclesReady: Due and Ready are as specified for all services, vehicles, trips and charged, where these are of bulk at most 1048576. Conditions: what the arguments read is of bulk at most 1048576 (UptoSaid). Own work. -/
import Derived.Test.YtjkidhjkpkcnhaaGreatDoorVRowA
import Derived.Test.YtjkidhjkpkcnhaaGreatDoorVFacts
import Derived.Test.YtjkidhjkpkcnhaaGreatDoorCards
import Derived.Test.YtjkidhjkpkcnhaaGreatDoorTie
set_option linter.unusedVariables false
set_option linter.unusedSimpArgs false
namespace Go.Proofs.YtjkidhjkpkcnhaaGreatDoor.vehiclesReady
open Go.ChangeShapes Go.WideShapes Go.ChangeAt Go.RowKit Go.Vm
theorem over : Rows.vehiclesReadyUptoRow.holds Tryz.pinned (Rows.OpenSpec.upto Rows.vehiclesReadySpec) :=
  OpenClaim.holds_of_cond 4 Tryz.f4 rfl rfl rfl rfl rfl rfl rfl ⟨rfl, rfl, rfl, rfl, rfl⟩ rfl rfl rfl rfl rfl named Tryz.func4 facts
    (of_decide_eq_true (by kernel_rfl)) (by unfold Func.isWrapper; first | (rw [if_pos (by decide +kernel)]; kernel_rfl) | (rw [if_neg (by decide +kernel)]; exact ⟨rfl, rfl⟩))
    (fun os started H enc _ F => by rw [OpenClaim.pre_eq_preRow]; exact lifted os started H enc F)
end Go.Proofs.YtjkidhjkpkcnhaaGreatDoor.vehiclesReady
namespace Go.Proofs.YtjkidhjkpkcnhaaGreatDoor
/-- VehiclesReady, where what it reads is of bulk at most 1048576 -/
theorem vehiclesReady_holds : Rows.VehiclesReadyUptoCardSaid :=
  Claim7.holds_tied_plain_at .later [] _ _ _ _ vehiclesReady.over (fun _ h => by cases h) (by kernel_rfl) (fun _ h => by cases h) vehiclesReadyUpto_row_tie rfl ⟨rfl, rfl⟩ (by kernel_rfl) rfl vehiclesReady.plain (by kernel_rfl)
#print axioms vehiclesReady_holds
end Go.Proofs.YtjkidhjkpkcnhaaGreatDoor
