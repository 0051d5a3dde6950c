/- AskTexts: Read, in the program and in the reference: whole texts. Own work. -/
import Derived.Test.YtbjpkdbneopgkaaGreatDoorASpecF
set_option maxRecDepth 100000
set_option linter.unusedVariables false
set_option linter.unusedSimpArgs false
namespace Go.Vm
open Go.RowKit Go.Vm.Num
section
variable {α σ ρ ρ' : Type}
theorem ends2 {k : Nat} {f : σ → Option (σ ⊕ TauG α)} {s : σ} {r : Nat ⊕ List α} {g : TauG α → Option ρ} {g' : ρ → Option ρ'} {y : Option ρ'} (h : ∃ t, iter k f s = some t ∧ EndsG t r) (hq : ∀ t, EndsG t r → Option.bind (g t) g' = y) : Option.bind (Option.bind (iter k f s) g) g' = y := by
  obtain ⟨t, e, q⟩ := h
  rw [e]
  exact hq t q
theorem finG {faults : List α → Int} (out : List α) : (bif (faults out) != (0 : Int) then (some ([], (0 : Int), faults out, ()) : Option (List α × Int × Int × Unit)) else some (out, 0, 0, ())) = some (resG faults (.inr out)) := by
  unfold resG
  simp only
  cases (faults out != 0) <;> rfl
end
/-! ### the reference -/
theorem e50 {w : ByteArray} (h : w.size ≤ 200000) : s50 w = some (splitL w sp, !(splitL w sp).any isE, ()) := by
  unfold s50
  rw [if_pos (by omega)]
end Go.Vm
