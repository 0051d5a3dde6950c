/- BonusesPaid: the last of what was done, for each ride; what a quest pays. Own work. -/
import Derived.Test.YtfiembgemhonlaaDoorUSpecE
set_option linter.unusedVariables false
set_option linter.unusedSimpArgs false
namespace Go.Vm
open Go.RowKit Go.Vm.Gain
end Go.Vm
