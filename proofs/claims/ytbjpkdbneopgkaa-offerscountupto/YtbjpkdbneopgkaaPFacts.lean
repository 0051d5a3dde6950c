/- OffersCount: CheckOffers, Cars, RidesOf, CheckDeals and Cost are as specified for all offers and deals, where these are of bulk at most 1048576. What its row says of the program. Own work. -/
import Derived.JoinedCond
import Derived.Test.YtbjpkdbneopgkaaProg
import Derived.Test.YtbjpkdbneopgkaaRows
set_option linter.unusedVariables false
set_option maxRecDepth 100000
namespace Go.Proofs.Ytbjpkdbneopgkaa.offersCount
theorem q1 : (Rows.offersCountUptoRow.inPlace == Try.pinned.checked.prog.inPlace 4) = true := by kernel_rfl
theorem q2 : (Rows.offersCountUptoRow.unfollowed == Try.pinned.checked.prog.unfollowed 4) = true := by kernel_rfl
theorem q3 : (Rows.offersCountUptoRow.recurses == Try.pinned.checked.prog.recurses 4) = true := by kernel_rfl
theorem q4 : (Rows.offersCountUptoRow.named == Try.pinned.checked.prog.varsNamed 4) = true := by kernel_rfl
theorem facts : joinedFacts Try.pinned.checked.prog 4 Try.f4 (Rows.OpenSpec.upto Rows.offersCountSpec).bare Rows.offersCountUptoRow = true := by
  unfold joinedFacts
  rw [q1, q2, q3, q4]
  kernel_rfl
theorem named : Try.pinned.checked.prog.funcNamed Rows.offersCountUptoRow.func = some 4 := by kernel_rfl
end Go.Proofs.Ytbjpkdbneopgkaa.offersCount
