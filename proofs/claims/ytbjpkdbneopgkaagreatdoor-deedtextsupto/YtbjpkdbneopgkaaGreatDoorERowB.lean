/- DeedTexts: Text and Read are as specified for all deeds and strings, where these are of bulk at most 1048576. Conditions: what the arguments read is of bulk at most 1048576 (UptoSaid). Own work. -/
import Derived.Test.YtbjpkdbneopgkaaGreatDoorERowA
import Derived.Test.YtbjpkdbneopgkaaGreatDoorEFacts
import Derived.Test.YtbjpkdbneopgkaaGreatDoorCards
import Derived.Test.YtbjpkdbneopgkaaGreatDoorTie
set_option linter.unusedVariables false
set_option linter.unusedSimpArgs false
namespace Go.Proofs.YtbjpkdbneopgkaaGreatDoor.deedTexts
open Go.ChangeShapes Go.WideShapes Go.ChangeAt Go.RowKit Go.Vm
theorem over : Rows.deedTextsUptoRow.holds Tryz.pinned (Rows.OpenSpec.upto Rows.deedTextsSpec) :=
  OpenClaim.holds_of_cond 4 Tryz.f4 rfl rfl rfl rfl rfl rfl rfl ⟨rfl, rfl, rfl, rfl, rfl⟩ rfl rfl rfl rfl rfl named Tryz.func4 facts
    (of_decide_eq_true (by kernel_rfl)) (by unfold Func.isWrapper; first | (rw [if_pos (by decide +kernel)]; kernel_rfl) | (rw [if_neg (by decide +kernel)]; exact ⟨rfl, rfl⟩))
    (fun os started H enc _ F => by rw [OpenClaim.pre_eq_preRow]; exact lifted os started H enc F)
end Go.Proofs.YtbjpkdbneopgkaaGreatDoor.deedTexts
namespace Go.Proofs.YtbjpkdbneopgkaaGreatDoor
/-- DeedTexts, where what it reads is of bulk at most 1048576 -/
theorem deedTexts_holds : Rows.DeedTextsUptoCardSaid :=
  Claim7.holds_tied_plain_at .later [] _ _ _ _ deedTexts.over (fun _ h => by cases h) (by kernel_rfl) (fun _ h => by cases h) deedTextsUpto_row_tie rfl ⟨rfl, rfl⟩ (by kernel_rfl) rfl deedTexts.plain (by kernel_rfl)
#print axioms deedTexts_holds
end Go.Proofs.YtbjpkdbneopgkaaGreatDoor
