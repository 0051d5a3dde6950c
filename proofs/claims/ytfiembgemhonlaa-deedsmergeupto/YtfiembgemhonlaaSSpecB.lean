/- ShiftsCovered: rosters. Own work. -/
import Derived.Test.YtfiembgemhonlaaSSpecA
set_option linter.unusedVariables false
set_option linter.unusedSimpArgs false
namespace Go.Vm
open Go.RowKit Go.Vm.Gain
def s47 (l : List Wd) : Option (List Int × Int × Unit) := if shiftsFault l = 0 then some ((rost l).2, 0, ()) else some ([], shiftsFault l, ())
def s55 (l : List Wd) : Option (List Int × Unit) := if shiftsFault l = 0 then some ((rost l).2, ()) else none
end Go.Vm
