/- What function 14 (jitney/jitlaw2.asked) gives: shown by unrolling. Own work. -/
import Derived.Test.YtbjpkdbneopgkaaGreatDoorAFn
import Derived.Test.YtbjpkdbneopgkaaGreatDoorAHandR
import Derived.Test.YtbjpkdbneopgkaaGreatDoorVmK
import Derived.Test.YtbjpkdbneopgkaaGreatDoorProg
set_option maxRecDepth 100000
set_option linter.unusedVariables false
namespace Go.Vm
open Go.Proofs
/-! ### jitney/base.Out -/
/-! ### jitney/base.Key -/
/-! ### jitney/request.allKeys$1 -/
/-! ### slices.IndexFunc[[]string,string] -/
/-! ### slices.ContainsFunc[[]string,string] -/
/-! ### jitney/request.allKeys -/
/-! ### jitney/request.changesFault -/
/-! ### jitney/request.seriesFault -/
/-! ### jitney/request.CheckSeries -/
/-! ### strconv.Itoa -/
/-! ### jitney/base.Moment -/
/-! ### cmp.isNaN[int] -/
/-! ### cmp.Compare[int] -/
/-! ### jitney/request.dayRide$1 -/
/-! ### slices.BinarySearchFunc[[]jitney/api.Change,jitney/api.Change,int] -/
/-! ### jitney/request.dayRide$2 -/
/-! ### jitney/request.dayRide -/
/-! ### jitney/request.Days -/
/-! ### slices.Equal[[]int,int] -/
/-! ### jitney/jitlaw2.asked -/
end Go.Vm
