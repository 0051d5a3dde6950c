/- The library's sort, as these texts see it. Own work. -/
import Derived.Test.YtfiembgemhonlaaSSp
import Derived.Test.YtfiembgemhonlaaSSort
import Derived.Test.YtfiembgemhonlaaVmK
import Derived.Test.YtfiembgemhonlaaBSnd
set_option maxRecDepth 100000
set_option linter.unusedVariables false
namespace Go.Vm
open Go.Proofs
end Go.Vm
