/- BonusesPaid: pairs of texts are compared. Own work. -/
import Derived.Test.YtfiembgemhonlaaDoorUSpecD
set_option linter.unusedVariables false
set_option linter.unusedSimpArgs false
namespace Go.Vm
open Go.RowKit Go.Vm.Gain
def prEq (a b : Pr) : Bool := sEq a.1 b.1 && (sEq a.2.1 b.2.1 && true)
theorem prEq_iff (a b : Pr) : prEq a b = true ↔ a = b := by
  obtain ⟨a1, a2, ⟨⟩⟩ := a
  obtain ⟨b1, b2, ⟨⟩⟩ := b
  simp [prEq, sEq_iff, Prod.ext_iff]
open Classical in
noncomputable def s17 (a b : List Pr) : Bool := decide (a = b)
theorem pr_chain (a b : Pr) : (sEq a.1 b.1 && (sEq a.2.1 b.2.1 && true)) = prEq a b := rfl
theorem h17 (a b : List Pr) (hw : WFs A17 (a, b, ())) : ∃ k, f17 k a b = some (s17 a b, ()) := by
  simp only [WFs, WF] at hw
  have hl : a.length ≤ 9223372036854775807 := hw.1.1
  clear hw
  refine ⟨a.length + 1, ?_⟩
  unfold f17 s17
  by_cases hlen : a.length = b.length
  · have e : ((a.length : Int) != (b.length : Int)) = false := by simp [hlen]
    simp only [e, cond_false]
    have hzl : (List.zip a b).length = a.length := by rw [List.length_zip]; omega
    rw [iter_find (s0 := (((0 : Int), ()), ())) (List.zip a b) (fun i => (((i : Int), ()), ())) (fun q => !prEq q.1 q.2) (fun i => .inl (false, ())) (.inr ((), ())) ?a1 ?a2 ?a3 ?a4]
    case a1 => rfl
    case a2 => omega
    case a3 =>
      intro j q hq
      obtain ⟨x, y⟩ := q
      obtain ⟨hx, hy⟩ := List.getElem?_zip_eq_some.1 hq
      simp only [lt_at hx, inR_at hx, inR_at hy, rd_at hx, rd_at hy, wrap_succ hx hl, cond_true, pr_chain]
      cases prEq x y <;> rfl
    case a4 => rw [hzl]; simp
    have := zip_none (ne := fun x y : Pr => !prEq x y) (fun x y => by rw [Bool.not_eq_false', prEq_iff]) hlen
    cases hf : (List.zip a b).findIdx? (fun q => !prEq q.1 q.2) with
    | none => simp [this.1 hf]
    | some i =>
      have : ¬ a = b := fun e => by rw [this.2 e] at hf; cases hf
      simp [this]
  · have e : ((a.length : Int) != (b.length : Int)) = true := by simp; omega
    have : ¬ a = b := fun e => hlen (by rw [e])
    simp [e, this]
end Go.Vm
