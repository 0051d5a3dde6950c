/- RidesAskedTwice: Twice and CheckRooms are as specified for all rides and rooms, where these are of bulk at most 1048576. Conditions: what the arguments read is of bulk at most 1048576 (UptoSaid). Own work. -/
import Derived.Test.YtfiembgemhonlaaDoorTRowA
import Derived.Test.YtfiembgemhonlaaDoorTFacts
import Derived.Test.YtfiembgemhonlaaDoorCards
import Derived.Test.YtfiembgemhonlaaDoorTie
set_option linter.unusedVariables false
set_option linter.unusedSimpArgs false
namespace Go.Proofs.YtfiembgemhonlaaDoor.ridesAskedTwice
open Go.ChangeShapes Go.WideShapes Go.ChangeAt Go.RowKit Go.Vm
theorem over : Rows.ridesAskedTwiceUptoRow.holds Tryd.pinned (Rows.OpenSpec.upto Rows.ridesAskedTwiceSpec) :=
  OpenClaim.holds_of_cond 4 Tryd.f4 rfl rfl rfl rfl rfl rfl rfl ⟨rfl, rfl, rfl, rfl, rfl⟩ rfl rfl rfl rfl rfl named Tryd.func4 facts
    (of_decide_eq_true (by kernel_rfl)) (by unfold Func.isWrapper; first | (rw [if_pos (by decide +kernel)]; kernel_rfl) | (rw [if_neg (by decide +kernel)]; exact ⟨rfl, rfl⟩))
    (fun os started H enc _ F => by rw [OpenClaim.pre_eq_preRow]; exact lifted os started H enc F)
end Go.Proofs.YtfiembgemhonlaaDoor.ridesAskedTwice
namespace Go.Proofs.YtfiembgemhonlaaDoor
/-- RidesAskedTwice, where what it reads is of bulk at most 1048576 -/
theorem ridesAskedTwice_holds : Rows.RidesAskedTwiceUptoCardSaid :=
  Claim7.holds_tied_plain_at .later [] _ _ _ _ ridesAskedTwice.over (fun _ h => by cases h) (by kernel_rfl) (fun _ h => by cases h) ridesAskedTwiceUpto_row_tie rfl ⟨rfl, rfl⟩ (by kernel_rfl) rfl ridesAskedTwice.plain (by kernel_rfl)
#print axioms ridesAskedTwice_holds
end Go.Proofs.YtfiembgemhonlaaDoor
