/- BonusesPaid: what is wrong with what was done. Own work. -/
import Derived.Test.YtfiembgemhonlaaDoorUSpecB
set_option linter.unusedVariables false
set_option linter.unusedSimpArgs false
namespace Go.Vm
open Go.RowKit Go.Vm.Gain
end Go.Vm
