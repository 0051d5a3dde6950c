/- LevelsReckoned: what happens to a level. Own work. -/
import Derived.Test.YtfiembgemhonlaaLSpecA
set_option linter.unusedVariables false
set_option linter.unusedSimpArgs false
namespace Go.Vm
open Go.RowKit Go.Vm.Gain
section
variable {α γ ρ : Type}
end
/-! ### the order -/
def s267 (a b : Trn) : Int := nz [s128 a.1 b.1, s128 a.2.1 b.2.1]
theorem lt267 (a b : Trn) : ltOf s267 a b = true ↔ a.1 < b.1 ∨ (a.1 = b.1 ∧ a.2.1 < b.2.1) := by
  unfold ltOf s267
  simp only [nz, s128, decide_eq_true_eq]
  by_cases h1 : a.1 < b.1
  · simp [h1]
  · by_cases h2 : a.1 > b.1
    · simp [h1, h2]; omega
    · have h3 : a.1 = b.1 := by omega
      by_cases h4 : a.2.1 < b.2.1
      · simp [h3, h4]
      · by_cases h5 : a.2.1 > b.2.1 <;> simp [h3, h4, h5]
theorem W267 : Weak (ltOf s267) := by
  have no : ∀ a b : Trn, ltOf s267 a b = false ↔ ¬ (a.1 < b.1 ∨ (a.1 = b.1 ∧ a.2.1 < b.2.1)) := fun a b => by rw [← lt267, Bool.not_eq_true]
  refine ⟨fun x => ?_, fun x y z h1 h2 => ?_, fun x y z h1 h2 => ?_⟩
  · rw [no]; omega
  · rw [lt267] at *; omega
  · rw [no] at *; omega
abbrev ltT := ltOf s267
/-! ### the things that happen -/
def thC (v : ByteArray) (c : Chg) : Option Trn := bif sEq c.1 v then bif decide (c.2.2.2.1 ≥ 0) then some (c.2.2.2.1, 0, c.2.2.2.2.1, ()) else none else none
def thR (v : ByteArray) (r : Run) : Option Trn := bif sEq r.1 v then some (r.2.1.2.1, 1, r.2.2.2.1, ()) else none
def things (v : ByteArray) (t : List Run) (c : List Chg) : List Trn := c.filterMap (thC v) ++ t.filterMap (thR v)
def trns (v : ByteArray) (t : List Run) (c : List Chg) : List Trn := stab ltT (things v t c)
/-! ### levels -/
def stp (n : Int) (t : Trn) : Int := bif t.2.1 == 0 then (if decide (t.2.2.1 > n) then t.2.2.1 else n) else IntKind.i64.wrap (n - t.2.2.1)
def lvs : Int → List Trn → List Int
  | _, [] => []
  | n, t :: l => stp n t :: lvs (stp n t) l
def brk (at_ : Int) : Int → List Trn → Int
  | n, [] => n
  | n, t :: l => bif decide (t.1 > at_) then n else brk at_ (stp n t) l
def s137 (v : ByteArray) (t : List Run) (c : List Chg) (st at_ : Int) : Option (Int × Unit) := if t.length + c.length ≤ 4294967295 then some (brk at_ st (trns v t c), ()) else none
end Go.Vm
