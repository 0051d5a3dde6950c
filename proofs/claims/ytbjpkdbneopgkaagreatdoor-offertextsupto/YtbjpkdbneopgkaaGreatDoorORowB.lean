/- OfferTexts: Text and Read are as specified for all offers and strings, where these are of bulk at most 1048576. Conditions: what the arguments read is of bulk at most 1048576 (UptoSaid). Own work. -/
import Derived.Test.YtbjpkdbneopgkaaGreatDoorORowA
import Derived.Test.YtbjpkdbneopgkaaGreatDoorOFacts
import Derived.Test.YtbjpkdbneopgkaaGreatDoorCards
import Derived.Test.YtbjpkdbneopgkaaGreatDoorTie
set_option linter.unusedVariables false
set_option linter.unusedSimpArgs false
namespace Go.Proofs.YtbjpkdbneopgkaaGreatDoor.offerTexts
open Go.ChangeShapes Go.WideShapes Go.ChangeAt Go.RowKit Go.Vm
theorem over : Rows.offerTextsUptoRow.holds Tryz.pinned (Rows.OpenSpec.upto Rows.offerTextsSpec) :=
  OpenClaim.holds_of_cond 5 Tryz.f5 rfl rfl rfl rfl rfl rfl rfl ⟨rfl, rfl, rfl, rfl, rfl⟩ rfl rfl rfl rfl rfl named Tryz.func5 facts
    (of_decide_eq_true (by kernel_rfl)) (by unfold Func.isWrapper; first | (rw [if_pos (by decide +kernel)]; kernel_rfl) | (rw [if_neg (by decide +kernel)]; exact ⟨rfl, rfl⟩))
    (fun os started H enc _ F => by rw [OpenClaim.pre_eq_preRow]; exact lifted os started H enc F)
end Go.Proofs.YtbjpkdbneopgkaaGreatDoor.offerTexts
namespace Go.Proofs.YtbjpkdbneopgkaaGreatDoor
/-- OfferTexts, where what it reads is of bulk at most 1048576 -/
theorem offerTexts_holds : Rows.OfferTextsUptoCardSaid :=
  Claim7.holds_tied_plain_at .later [] _ _ _ _ offerTexts.over (fun _ h => by cases h) (by kernel_rfl) (fun _ h => by cases h) offerTextsUpto_row_tie rfl ⟨rfl, rfl⟩ (by kernel_rfl) rfl offerTexts.plain (by kernel_rfl)
#print axioms offerTexts_holds
end Go.Proofs.YtbjpkdbneopgkaaGreatDoor
