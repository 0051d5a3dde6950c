/- BonusesPaid: the bonuses, as the reference reckons them. Own work. -/
import Derived.Test.YtfiembgemhonlaaDoorUSpecF
set_option linter.unusedVariables false
set_option linter.unusedSimpArgs false
namespace Go.Vm
open Go.RowKit Go.Vm.Gain
end Go.Vm
