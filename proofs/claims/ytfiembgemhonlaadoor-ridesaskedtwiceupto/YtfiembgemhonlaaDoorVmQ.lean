/- Vm, part 36: slices.SortFunc at structs, by the contract of the kit. Own work. -/
import Derived.Test.YtfiembgemhonlaaDoorVmK
import Derived.Shelf.SlSortCmp.InsertionK
import Derived.Sort.AssemblyPlain
import Derived.Test.YtfiembgemhonlaaDoorVmC
import Derived.Test.YtfiembgemhonlaaDoorVmA
import Derived.Lib.Bytealg
import Derived.Shelf.SlSortCmp.Kit1
set_option linter.unusedVariables false
set_option linter.unusedSimpArgs false
namespace Go.Vm
open Go.RowKit Go.Sort Go.Shelf Go.Lib
section
variable {P : Program} {w w' : World} {A A' : Nat → Prop}
/-- elements whose sizes are those of a machine, and of which more is known -/
abbrev Els (T : Ty) (Q : T.den → Prop) := { x : T.den // WF T x ∧ Q x }
/-- a comparison orders the elements of a row -/
def Orders (T : Ty) (cmp : T.den → T.den → Int) (xs : List T.den) : Prop := SWO (Go.Proofs.ltOf fun x y : Els T (· ∈ xs) => cmp x.1 y.1)
end
end Go.Vm

/- Vm, part 39: slices.SortFunc by a comparison that may have no answer. Own work. -/
set_option linter.unusedVariables false
set_option linter.unusedSimpArgs false
namespace Go.Vm
open Go.RowKit Go.Sort Go.Shelf Go.Lib
section
variable {P : Program} {w w' : World} {A A' : Nat → Prop}
end
end Go.Vm

/- Vm, part 37: laws of maps: what is found, what there is; sorted lists. Own work. -/
set_option linter.unusedVariables false
set_option linter.unusedSimpArgs false
namespace Go.Vm
section
variable {κ ν : Type} {eq : κ → κ → Bool}
variable (heq : ∀ a b, eq a b = true ↔ a = b)
include heq
omit heq in
omit heq in
omit heq in
omit heq in
end
/-! ### Sorted lists -/
end Go.Vm

/- Vm, part 38: comparisons. Own work. -/
set_option linter.unusedVariables false
set_option linter.unusedSimpArgs false
namespace Go.Vm
open Go.Lib Go.Sort
section
variable {α β : Type} {cmp : α → α → Int} {p : α → Prop}
end
/-! ### Comparisons that there are -/
end Go.Vm

/- Vm, part 40: slices.SortFunc by a comparison that has captured variables. Own work. -/
set_option linter.unusedVariables false
set_option linter.unusedSimpArgs false
namespace Go.Vm
open Go.RowKit Go.Sort Go.Shelf Go.Lib
/-! ### The sort -/
section
variable {P : Program} {w w' W : World} {A A' : Nat → Prop} {objs : List OB} {μ : Nat → Value}
end
section
variable {P : Program}
end
end Go.Vm
