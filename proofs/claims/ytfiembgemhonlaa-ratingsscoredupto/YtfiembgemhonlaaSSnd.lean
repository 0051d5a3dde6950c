/- The program's functions are what the specs say. -/
import Derived.Test.YtfiembgemhonlaaSSp
import Derived.Test.YtfiembgemhonlaaSHand
import Derived.Test.YtfiembgemhonlaaLSnd
set_option maxRecDepth 100000
set_option linter.unusedVariables false
namespace Go.Vm
open Go.Proofs
/-! ### jitney/fleet.Rosters -/
/-! ### jitney/base.Window -/
/-! ### slices.Compact[[]int,int] -/
/-! ### jitney/fleet.Thin -/
/-! ### jitney/fleet.Tired -/
/-! ### jitney/jitref2.ShiftsFault -/
/-! ### jitney/jitref2.WindowFault -/
/-! ### jitney/jitref2.RestFault -/
/-! ### jitney/jitref2.inside -/
/-! ### jitney/jitref2.onAt -/
/-! ### jitney/jitref2.DriversOf -/
/-! ### jitney/jitref2.RostersOf -/
/-! ### jitney/jitref2.ThinOf -/
/-! ### jitney/jitref2.TiredOf -/
/-! ### slices.Equal[[]int,int] -/
/-! ### slices.Equal[[]jitney/api.Window,jitney/api.Window] -/
/-! ### jitney/jitlaw2.ShiftsCovered -/
end Go.Vm
