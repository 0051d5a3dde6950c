/- BonusesPaid: small functions. Own work. -/
import Derived.Test.YtfiembgemhonlaaDoorUSpecA
set_option linter.unusedVariables false
set_option linter.unusedSimpArgs false
namespace Go.Vm
open Go.RowKit Go.Vm.Gain
abbrev Pr : Type := ByteArray × ByteArray × Unit
def s30 (n : Int) : Option (ByteArray × Unit) := s49 n
theorem h30 (n : Int) (y : ByteArray × Unit) (hw : WFs A30 (n, ())) (h : s30 n = some y) : ∃ k, f30 s49 k n = some y := ⟨0, by
  unfold f30
  rw [show s49 n = some y from h]
  rfl⟩
end Go.Vm
