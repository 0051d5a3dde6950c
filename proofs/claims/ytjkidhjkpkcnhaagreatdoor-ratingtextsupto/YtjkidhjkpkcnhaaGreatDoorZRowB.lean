/- RatingTexts: Text and Read are as specified for all ratings and strings, where these are of bulk at most 1048576. Conditions: what the arguments read is of bulk at most 1048576 (UptoSaid). Own work. -/
import Derived.Test.YtjkidhjkpkcnhaaGreatDoorZRowA
import Derived.Test.YtjkidhjkpkcnhaaGreatDoorZFacts
import Derived.Test.YtjkidhjkpkcnhaaGreatDoorCards
import Derived.Test.YtjkidhjkpkcnhaaGreatDoorTie
set_option linter.unusedVariables false
set_option linter.unusedSimpArgs false
namespace Go.Proofs.YtjkidhjkpkcnhaaGreatDoor.ratingTexts
open Go.ChangeShapes Go.WideShapes Go.ChangeAt Go.RowKit Go.Vm
theorem over : Rows.ratingTextsUptoRow.holds Tryz.pinned (Rows.OpenSpec.upto Rows.ratingTextsSpec) :=
  OpenClaim.holds_of_cond 6 Tryz.f6 rfl rfl rfl rfl rfl rfl rfl ⟨rfl, rfl, rfl, rfl, rfl⟩ rfl rfl rfl rfl rfl named Tryz.func6 facts
    (of_decide_eq_true (by kernel_rfl)) (by unfold Func.isWrapper; first | (rw [if_pos (by decide +kernel)]; kernel_rfl) | (rw [if_neg (by decide +kernel)]; exact ⟨rfl, rfl⟩))
    (fun os started H enc _ F => by rw [OpenClaim.pre_eq_preRow]; exact lifted os started H enc F)
end Go.Proofs.YtjkidhjkpkcnhaaGreatDoor.ratingTexts
namespace Go.Proofs.YtjkidhjkpkcnhaaGreatDoor
/-- RatingTexts, where what it reads is of bulk at most 1048576 -/
theorem ratingTexts_holds : Rows.RatingTextsUptoCardSaid :=
  Claim7.holds_tied_plain_at .later [] _ _ _ _ ratingTexts.over (fun _ h => by cases h) (by kernel_rfl) (fun _ h => by cases h) ratingTextsUpto_row_tie rfl ⟨rfl, rfl⟩ (by kernel_rfl) rfl ratingTexts.plain (by kernel_rfl)
#print axioms ratingTexts_holds
end Go.Proofs.YtjkidhjkpkcnhaaGreatDoor
