/- Go's stable sort at the types of these functions, as an own tool prints it. -/
import Derived.Test.YtfiembgemhonlaaVmS
import Derived.Test.YtfiembgemhonlaaBFn
import Derived.Test.YtfiembgemhonlaaProg
set_option maxRecDepth 100000
set_option linter.unusedVariables false
namespace Go.Vm
open Go.Proofs
abbrev T266 : Ty := (.struct (.cons (.int .i64) (.cons (.int .i64) (.cons (.int .i64) .nil))))
section
variable {cmp : T266.den → T266.den → Int} (hc : SoundF Try.prog 267 (FSem.fn (.cons T266 (.cons T266 .nil)) (.cons (.int .i64) .nil) fun x => (cmp x.1 x.2.1, ())))
include hc
end
abbrev T218 : Ty := (.struct (.cons (.int .i64) (.cons (.int .i64) (.cons (.int .i64) .nil))))
section
variable {cmp : T218.den → T218.den → Int} (hc : SoundF Try.prog 219 (FSem.fn (.cons T218 (.cons T218 .nil)) (.cons (.int .i64) .nil) fun x => (cmp x.1 x.2.1, ())))
include hc
end
end Go.Vm
