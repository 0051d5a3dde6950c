/- AskTexts: what is wrong with asks, their order. Own work. -/
import Derived.Test.YtbjpkdbneopgkaaGreatDoorASpecD
set_option maxRecDepth 100000
set_option linter.unusedVariables false
set_option linter.unusedSimpArgs false
namespace Go.Vm
open Go.RowKit
/-- nothing but the two keys -/
def bare (r : Rr) : Bool := sEq r.2.2.1 ByteArray.empty && (sEq r.2.2.2.1 ByteArray.empty && (r.2.2.2.2.1 == 0 && (r.2.2.2.2.2.1 == 0 && (r.2.2.2.2.2.2.1 == 0 && (r.2.2.2.2.2.2.2.1 == 0 && true)))))
theorem chk_end (c : Int) : (match (bif c != 0 then (Sum.inl (c, ()) : (Int × Unit) ⊕ (Unit × Unit)) else .inr ((), ())) with | .inl z => some z | .inr _ => some ((0 : Int), ())) = some (c, ()) := by
  cases h : c != 0
  · have : c = 0 := by simpa using h
    rw [this]; rfl
  · rfl
end Go.Vm
