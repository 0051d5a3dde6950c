/- Shifts: what is wrong with them, and whose each one is. Own work. -/
import Derived.Test.YtfiembgemhonlaaBSpecD
set_option linter.unusedVariables false
set_option linter.unusedSimpArgs false
namespace Go.Vm
open Go.RowKit Go.Vm.Gain
abbrev Wd := Int × Int × Unit
def s148 (a b : Wd) : Int := nz [s128 a.1 b.1, s128 a.2.1 b.2.1]
def shBad (w : Wd) : Bool := decide (w.1 < 0) || (decide (w.1 ≥ w.2.1) || decide (w.2.1 > 345686400000))
def shB (w : Wd) (p : Option Wd) : Option Wd ⊕ ((Int × Unit) ⊕ (Unit × Unit)) :=
  bif shBad w then .inr (.inl (1, ())) else match p with
    | none => .inl (some w)
    | some o => bif decide (s148 w o < 0) then .inr (.inl (7, ())) else .inl (some w)
def shiftsFault (l : List Wd) : Int := if l.length > 500 then 2 else out1 (scan (fun _ => shB) (fun _ => .inr ((), ())) l 0 none)
theorem shB_next {x : Wd} {b b' : Option Wd} (h : shB x b = .inl b') : shBad x = false ∧ b' = some x ∧ ∀ o, b = some o → ¬ s148 x o < 0 := by
  unfold shB at h
  cases hb : shBad x <;> rw [hb] at h
  · refine ⟨rfl, ?_⟩
    cases b with
    | none => simp only [cond_false, Sum.inl.injEq] at h; exact ⟨h.symm, fun o h => by cases h⟩
    | some o =>
      simp only [cond_false] at h
      cases h2 : decide (s148 x o < 0) <;> rw [h2] at h
      · simp only [cond_false, Sum.inl.injEq] at h
        exact ⟨h.symm, fun o' ho => by cases ho; exact of_decide_eq_false h2⟩
      · cases h
  · cases h
def s53 (l : List Wd) : Option (Int × Unit) := some (shiftsFault l, ())
/-! ### whose each shift is -/
/-- when each driver is free; whose each shift is -/
def rostStep (w : Wd) (b : List Int × List Int) : List Int × List Int :=
  match b.1.findIdx? (fun f => decide (f ≤ w.1)) with
  | some k => (b.1.set k w.2.1, b.2 ++ [(k : Int)])
  | none => (b.1 ++ [w.2.1], b.2 ++ [(b.1.length : Int)])
def rost (l : List Wd) : List Int × List Int := l.foldl (fun b w => rostStep w b) ([], [])
def s45 (l : List Wd) : Option (Int × Int × Unit) := if shiftsFault l = 0 then some (((rost l).1.length : Int), 0, ()) else some (0, shiftsFault l, ())
theorem shift_len {l : List Wd} (h : shiftsFault l = 0) : l.length ≤ 500 := by
  unfold shiftsFault at h
  split at h
  · cases h
  · omega
end Go.Vm
