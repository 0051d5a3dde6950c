/- SeriesRide: CheckRide, CheckRiders, CheckSeries, Days, Rides and Same are as specified for all rides and series, where these are of bulk at most 1048576. Conditions: what the arguments read is of bulk at most 1048576 (UptoSaid). Own work. -/
import Derived.Test.YtjkidhjkpkcnhaaGreatDoorWRowA
import Derived.Test.YtjkidhjkpkcnhaaGreatDoorWZ
import Derived.Test.YtjkidhjkpkcnhaaGreatDoorCards
import Derived.Test.YtjkidhjkpkcnhaaGreatDoorTie
set_option linter.unusedVariables false
set_option linter.unusedSimpArgs false
namespace Go.Proofs.YtjkidhjkpkcnhaaGreatDoor.seriesRide
open Go.ChangeShapes Go.WideShapes Go.ChangeAt Go.RowKit Go.Vm
theorem over : Rows.seriesRideUptoRow.holds Tryz.pinned (Rows.OpenSpec.upto Rows.seriesRideSpec) :=
  OpenClaim.holds_of_cond 3 Tryz.f3 rfl rfl rfl rfl rfl rfl rfl ⟨rfl, rfl, rfl, rfl, rfl⟩ rfl rfl rfl rfl rfl named Tryz.func3 facts
    (of_decide_eq_true (by kernel_rfl)) (by unfold Func.isWrapper; first | (rw [if_pos (by decide +kernel)]; kernel_rfl) | (rw [if_neg (by decide +kernel)]; exact ⟨rfl, rfl⟩))
    (fun os started H enc _ F => by rw [OpenClaim.pre_eq_preRow]; exact lifted os started H enc F)
end Go.Proofs.YtjkidhjkpkcnhaaGreatDoor.seriesRide
namespace Go.Proofs.YtjkidhjkpkcnhaaGreatDoor
/-- SeriesRide, where what it reads is of bulk at most 1048576 -/
theorem seriesRide_holds : Rows.SeriesRideUptoCardSaid :=
  Claim7.holds_tied_plain_at .later [] _ _ _ _ seriesRide.over (fun _ h => by cases h) (by kernel_rfl) (fun _ h => by cases h) seriesRideUpto_row_tie rfl ⟨rfl, rfl⟩ (by kernel_rfl) rfl seriesRide.plain (by kernel_rfl)
#print axioms seriesRide_holds
end Go.Proofs.YtjkidhjkpkcnhaaGreatDoor
