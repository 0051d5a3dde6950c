/- BonusesPaid: CheckDone, CheckQuests and Bonus are as specified for all that was done, and all quests, where these are of bulk at most 1048576. Conditions: what the arguments read is of bulk at most 1048576 (UptoSaid). Own work. -/
import Derived.Test.YtfiembgemhonlaaDoorURowA
import Derived.Test.YtfiembgemhonlaaDoorUFacts
import Derived.Test.YtfiembgemhonlaaDoorCards
import Derived.Test.YtfiembgemhonlaaDoorTie
set_option linter.unusedVariables false
set_option linter.unusedSimpArgs false
namespace Go.Proofs.YtfiembgemhonlaaDoor.bonusesPaid
open Go.ChangeShapes Go.WideShapes Go.ChangeAt Go.RowKit Go.Vm
theorem over : Rows.bonusesPaidUptoRow.holds Tryd.pinned (Rows.OpenSpec.upto Rows.bonusesPaidSpec) :=
  OpenClaim.holds_of_cond 3 Tryd.f3 rfl rfl rfl rfl rfl rfl rfl ⟨rfl, rfl, rfl, rfl, rfl⟩ rfl rfl rfl rfl rfl named Tryd.func3 facts
    (of_decide_eq_true (by kernel_rfl)) (by unfold Func.isWrapper; first | (rw [if_pos (by decide +kernel)]; kernel_rfl) | (rw [if_neg (by decide +kernel)]; exact ⟨rfl, rfl⟩))
    (fun os started H enc _ F => by rw [OpenClaim.pre_eq_preRow]; exact lifted os started H enc F)
end Go.Proofs.YtfiembgemhonlaaDoor.bonusesPaid
namespace Go.Proofs.YtfiembgemhonlaaDoor
/-- BonusesPaid, where what it reads is of bulk at most 1048576 -/
theorem bonusesPaid_holds : Rows.BonusesPaidUptoCardSaid :=
  Claim7.holds_tied_plain_at .later [] _ _ _ _ bonusesPaid.over (fun _ h => by cases h) (by kernel_rfl) (fun _ h => by cases h) bonusesPaidUpto_row_tie rfl ⟨rfl, rfl⟩ (by kernel_rfl) rfl bonusesPaid.plain (by kernel_rfl)
#print axioms bonusesPaid_holds
end Go.Proofs.YtfiembgemhonlaaDoor
