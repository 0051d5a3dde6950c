/- ShiftsCovered: small functions; drivers and rosters. Own work. -/
import Derived.Test.YtfiembgemhonlaaLSp
import Derived.Test.YtfiembgemhonlaaSFn
import Derived.Test.YtfiembgemhonlaaVmK
set_option linter.unusedVariables false
set_option linter.unusedSimpArgs false
namespace Go.Vm
open Go.RowKit Go.Vm.Gain
/-! ### windows, rests, moments -/
/-! ### right shifts -/
/-! ### what the rosters are -/
end Go.Vm

/- ShiftsCovered: rosters. Own work. -/
set_option linter.unusedVariables false
set_option linter.unusedSimpArgs false
namespace Go.Vm
open Go.RowKit Go.Vm.Gain
end Go.Vm

/- ShiftsCovered: when few are on. Own work. -/
set_option linter.unusedVariables false
set_option linter.unusedSimpArgs false
namespace Go.Vm
open Go.RowKit Go.Vm.Gain
/-! ### lists that rise -/
/-! ### the moments at which something changes -/
end Go.Vm

/- ShiftsCovered: Thin, as the program and the reference do it. Own work. -/
set_option linter.unusedVariables false
set_option linter.unusedSimpArgs false
namespace Go.Vm
open Go.RowKit Go.Vm.Gain
end Go.Vm

/- ShiftsCovered: who is tired. Own work. -/
set_option linter.unusedVariables false
set_option linter.unusedSimpArgs false
namespace Go.Vm
open Go.RowKit Go.Vm.Gain
/-- the trips of a vehicle -/
def mine (t : List Run) (v : ByteArray) : List Run := t.filter fun x => sEq x.1 v
end Go.Vm

/- ShiftsCovered: who is tired, as the reference does it. Own work. -/
set_option linter.unusedVariables false
set_option linter.unusedSimpArgs false
namespace Go.Vm
open Go.RowKit Go.Vm.Gain
end Go.Vm

/- ShiftsCovered: the law. Own work. -/
set_option linter.unusedVariables false
set_option linter.unusedSimpArgs false
namespace Go.Vm
open Go.RowKit Go.Vm.Gain
theorem zip_none {α : Type} {ne : α → α → Bool} (hne : ∀ a b, ne a b = false ↔ a = b) : ∀ {a b : List α}, a.length = b.length → ((List.zip a b).findIdx? (fun q => ne q.1 q.2) = none ↔ a = b)
  | [], [], _ => by simp
  | [], _ :: _, h => by simp at h
  | _ :: _, [], h => by simp at h
  | x :: a, y :: b, h => by
    have ih := zip_none hne (a := a) (b := b) (by simpa using h)
    simp only [List.zip_cons_cons, List.findIdx?_cons, List.cons.injEq]
    cases hq : ne x y
    · have := (hne x y).1 hq
      simp only [Bool.false_eq_true, if_false, Option.map_eq_none_iff, ih, this, true_and]
    · have : x ≠ y := fun e => by rw [(hne x y).2 e] at hq; cases hq
      simp [this]
end Go.Vm
