/- BonusesPaid: the bonuses, as the reference has them; the law. Own work. -/
import Derived.Test.YtfiembgemhonlaaDoorUSpecH
set_option linter.unusedVariables false
set_option linter.unusedSimpArgs false
namespace Go.Vm
open Go.RowKit Go.Vm.Gain
/-! ### the law -/
end Go.Vm
