/- The library's sort, as these texts see it. Own work. -/
import Derived.Test.YtfiembgemhonlaaSSpec
import Derived.Test.YtfiembgemhonlaaSSort
import Derived.Test.YtfiembgemhonlaaVmK
import Derived.Test.YtfiembgemhonlaaBSnd
set_option maxRecDepth 100000
set_option linter.unusedVariables false
namespace Go.Vm
open Go.Proofs
theorem S144 : SoundF Try.prog 144 (.wfn (.int .i64) .nil fun xs a => s144 xs) :=
  sort_int (by exact enters_of (by kernel_rfl : Try.prog.funcs[144]? = some Try.f144) (by kernel_rfl) (by kernel_rfl : Try.f144.body = some (match Try.f144.body with | some c => c | none => .skip))) (fun p cap w => Try.slices_Sort_int_none p cap w) (fun blk off cap zs w hH hb hl => Try.slices_Sort_int blk off cap zs w hH hb hl)
end Go.Vm
