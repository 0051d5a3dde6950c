/- ShiftsCovered: Thin, as the program and the reference do it. Own work. -/
import Derived.Test.YtfiembgemhonlaaSSpecC
set_option linter.unusedVariables false
set_option linter.unusedSimpArgs false
namespace Go.Vm
open Go.RowKit Go.Vm.Gain
def s48 (l : List Wd) (w : Wd) (many : Int) : Option (List Wd × Int × Unit) :=
  if shiftsFault l = 0 then (if winBad w = false ∧ s114 many 0 500 = false then some (thin l many (times l w), 0, ()) else some ([], 1, ())) else some ([], shiftsFault l, ())
def s56 (l : List Wd) (w : Wd) (many : Int) : Option (List Wd × Unit) := if shiftsFault l = 0 then some (thin l many (times l w), ()) else none
end Go.Vm
