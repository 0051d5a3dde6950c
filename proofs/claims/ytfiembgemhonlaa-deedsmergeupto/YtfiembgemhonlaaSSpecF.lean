/- ShiftsCovered: who is tired, as the reference does it. Own work. -/
import Derived.Test.YtfiembgemhonlaaSSpecE
set_option linter.unusedVariables false
set_option linter.unusedSimpArgs false
namespace Go.Vm
open Go.RowKit Go.Vm.Gain
def s57 (r : Int × Int × Unit) (t : List Run) (v : ByteArray) : Option (List Int × Unit) := if runsFault t = 0 then some (tired r (mine t v), ()) else none
end Go.Vm
