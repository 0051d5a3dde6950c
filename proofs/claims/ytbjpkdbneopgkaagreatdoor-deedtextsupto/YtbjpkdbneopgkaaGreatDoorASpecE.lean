/- AskTexts: what is wrong with asks, their order. Own work. -/
import Derived.Test.YtbjpkdbneopgkaaGreatDoorASpecD
set_option maxRecDepth 100000
set_option linter.unusedVariables false
set_option linter.unusedSimpArgs false
namespace Go.Vm
open Go.RowKit
/-- nothing but the two keys -/
def bare (r : Rr) : Bool := sEq r.2.2.1 ByteArray.empty && (sEq r.2.2.2.1 ByteArray.empty && (r.2.2.2.2.1 == 0 && (r.2.2.2.2.2.1 == 0 && (r.2.2.2.2.2.2.1 == 0 && (r.2.2.2.2.2.2.2.1 == 0 && true)))))
end Go.Vm
