/- BonusesPaid: what is wrong with the quests. Own work. -/
import Derived.Test.YtfiembgemhonlaaDoorUSpecC
set_option linter.unusedVariables false
set_option linter.unusedSimpArgs false
namespace Go.Vm
open Go.RowKit Go.Vm.Gain
end Go.Vm
