/- SeriesRide: what is asked beside it, at one input. Own work. -/
import Derived.Test.YtjkidhjkpkcnhaaGreatDoorWSpecH
set_option maxRecDepth 100000
set_option linter.unusedVariables false
namespace Go.Vm
open Go.RowKit
def s25 : Option (Bool × Unit) := f25 s7 s23 0
theorem h25 (y : Bool × Unit) (hw : WFs A25 ()) (h : s25 = some y) : ∃ k, f25 s7 s23 k = some y := ⟨0, h⟩
theorem s25_true : s25 = some (true, ()) := by decide +kernel
end Go.Vm
