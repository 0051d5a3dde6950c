/- OffersCount: CheckOffers, Cars, RidesOf, CheckDeals and Cost are as specified for all offers and deals, where these are of bulk at most 1048576. Conditions: what the arguments read is of bulk at most 1048576 (UptoSaid). Own work. -/
import Derived.Test.YtbjpkdbneopgkaaPRowA
import Derived.Test.YtbjpkdbneopgkaaPFacts
set_option linter.unusedVariables false
set_option linter.unusedSimpArgs false
namespace Go.Proofs.Ytbjpkdbneopgkaa.offersCount
open Go.ChangeShapes Go.WideShapes Go.ChangeAt Go.RowKit Go.Vm
theorem over : Rows.offersCountUptoRow.holds Try.pinned (Rows.OpenSpec.upto Rows.offersCountSpec) :=
  OpenClaim.holds_of_cond 4 Try.f4 rfl rfl rfl rfl rfl rfl rfl ⟨rfl, rfl, rfl, rfl, rfl⟩ rfl rfl rfl rfl rfl named Try.func4 facts
    (of_decide_eq_true (by kernel_rfl)) (by unfold Func.isWrapper; first | (rw [if_pos (by decide +kernel)]; kernel_rfl) | (rw [if_neg (by decide +kernel)]; exact ⟨rfl, rfl⟩))
    (fun os started H enc _ F => lifted os started H enc F)
end Go.Proofs.Ytbjpkdbneopgkaa.offersCount
namespace Go.Proofs.Ytbjpkdbneopgkaa
/-- OffersCount, where what it reads is of bulk at most 1048576 -/
theorem offersCount_holds : Rows.OffersCountUptoSaid := offersCount.over
#print axioms offersCount_holds
end Go.Proofs.Ytbjpkdbneopgkaa
