/- AskTexts: what the reference writes; the law. Own work. -/
import Derived.Test.YtbjpkdbneopgkaaGreatDoorASpecT
set_option maxRecDepth 100000
set_option linter.unusedVariables false
set_option linter.unusedSimpArgs false
namespace Go.Vm
open Go.RowKit Go.Vm.Num
theorem e36 {ns : List Int} (h1 : ns.length ≤ 4) (h2 : ns.all inI = true) (h3 : (joinL (ns.map numeral) sp).size ≤ 300) : s36 ns = some (joinL (ns.map numeral) sp, ()) := by
  unfold s36
  rw [if_pos ⟨by omega, h2, by omega⟩]
end Go.Vm
