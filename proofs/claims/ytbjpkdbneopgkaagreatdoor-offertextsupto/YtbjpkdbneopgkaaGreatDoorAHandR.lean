/- strings.Repeat (seat r4.ZD). Own work. -/
import Derived.Test.YtbjpkdbneopgkaaGreatDoorAHand
import Derived.Lib.Repeat
set_option linter.unusedVariables false
set_option linter.unusedSimpArgs false
namespace Go.Vm
open Go.RowKit Go.Proofs Go.Lib Go.Sort
end Go.Vm
