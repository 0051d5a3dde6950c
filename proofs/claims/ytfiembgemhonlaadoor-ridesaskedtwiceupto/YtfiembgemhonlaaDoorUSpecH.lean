/- BonusesPaid: the last of what was done, as a map has it. Own work. -/
import Derived.Test.YtfiembgemhonlaaDoorUSpecG
set_option linter.unusedVariables false
set_option linter.unusedSimpArgs false
namespace Go.Vm
open Go.RowKit Go.Vm.Gain
end Go.Vm
