/- SeriesRide: the search for the change of a day, as the program makes it. Own work. -/
import Derived.Test.YtjkidhjkpkcnhaaGreatDoorWDay
import Derived.Test.YtjkidhjkpkcnhaaGreatDoorWSearch
set_option maxRecDepth 100000
set_option linter.unusedVariables false
set_option linter.unusedSimpArgs false
namespace Go.Vm
open Go.RowKit
theorem wrap_uu (n : Int) : IntKind.u64.wrap n = n % 18446744073709551616 := by
  unfold IntKind.wrap
  simp only [IntKind.signed, IntKind.bits, Bool.false_and]
  rfl
theorem mid_eq {i j : Nat} (h : i + j ≤ 1000) : IntKind.i64.wrap (Int.fdiv (IntKind.u64.wrap (IntKind.i64.wrap ((i : Int) + (j : Int)))) (2 : Int)) = (((i + j) / 2 : Nat) : Int) := by
  rw [wrap_ok (n := (i : Int) + (j : Int)) (by omega) (by omega), wrap_uu, Int.emod_eq_of_lt (by omega) (by omega), Int.fdiv_eq_ediv_of_nonneg _ (by omega), wrap_ok (by omega) (by omega)]
  omega
def s127 (c : Ch) (d : Int) : Int := s67 c.1 d
theorem h127 (c : Ch) (d : Int) (hw : WFs A127 (c, d, ())) : ∃ k, f127 s67 k c d = some (s127 c d, ()) := ⟨0, rfl⟩
theorem s67_lt (a b : Int) : decide (s67 a b < 0) = decide (a < b) := by
  unfold s67
  by_cases h1 : a < b
  · simp [h1]
  · by_cases h2 : a > b <;> simp [h1, h2]
theorem s67_eq (a b : Int) : (s67 a b == 0) = (a == b) := by
  unfold s67
  by_cases h1 : a < b
  · have : ¬ a = b := by omega
    simp [h1, this]
  · by_cases h2 : a > b
    · have : ¬ a = b := by omega
      simp [h1, h2, this]
    · have : a = b := by omega
      simp [this]
/-- the search, and what it finds -/
theorem bin_search {τ : Type} {chs : List Ch} (hlen : chs.length ≤ 200) (up : chs.Pairwise (fun a b => a.1 < b.1)) (d : Int)
    {f : HSt → Option (HSt ⊕ (τ ⊕ ((Int × Unit) × Unit)))}
    (hf : ∀ y, f y = bif decide (y.1.1 < y.1.2.1) then (bif inR (IntKind.i64.wrap (Int.fdiv (IntKind.u64.wrap (IntKind.i64.wrap (y.1.1 + y.1.2.1))) (2 : Int))) (chs.length : Int) then
        (bif decide (s127 (rd (α := Ch) zWT3 chs (IntKind.i64.wrap (Int.fdiv (IntKind.u64.wrap (IntKind.i64.wrap (y.1.1 + y.1.2.1))) (2 : Int)))) d < (0 : Int)) then
          some (.inl ((IntKind.i64.wrap ((IntKind.i64.wrap (Int.fdiv (IntKind.u64.wrap (IntKind.i64.wrap (y.1.1 + y.1.2.1))) (2 : Int))) + (1 : Int)), y.1.2.1, ()), ()))
        else some (.inl ((y.1.1, IntKind.i64.wrap (Int.fdiv (IntKind.u64.wrap (IntKind.i64.wrap (y.1.1 + y.1.2.1))) (2 : Int)), ()), ()))) else none)
      else some (.inr (.inr ((y.1.1, ()), ())))) :
    ∃ r : Nat, r ≤ chs.length ∧ (chAt chs d = match chs[r]? with | none => none | some c => if c.1 = d then some c else none) ∧ ∀ k, chs.length < k → iter k f (((0 : Int), (chs.length : Int), ()), ()) = some (.inr (((r : Int), ()), ())) := by
  have hat : ∀ p, p < chs.length → ∃ c, chs[p]? = some c := fun p h => ⟨chs[p], List.getElem?_eq_getElem h⟩
  obtain ⟨r, a1, a2, a3, a4⟩ := halves (τ := τ) (f := f) (fun p => match chs[p]? with | none => false | some c => decide (c.1 < d)) chs.length
    (fun a b hab hb hlt => by
      obtain ⟨ca, ha⟩ := hat a (by omega)
      obtain ⟨cb, hcb⟩ := hat b hb
      simp only [hcb] at hlt
      simp only [ha]
      have hlt := of_decide_eq_true hlt
      by_cases e : a = b
      · subst e
        rw [ha] at hcb; cases hcb
        exact decide_eq_true hlt
      · have hpair := List.pairwise_iff_getElem.1 up a b (by omega) hb (by omega)
        have e1 := (List.getElem?_eq_some_iff.1 ha).2
        have e2 := (List.getElem?_eq_some_iff.1 hcb).2
        rw [e1, e2] at hpair
        exact decide_eq_true (by omega))
    (fun i j hij hj => by
      rw [hf]
      have c1 : decide ((i : Int) < (j : Int)) = true := decide_eq_true (by omega)
      simp only [c1, cond_true, mid_eq (i := i) (j := j) (by omega)]
      obtain ⟨c, hc⟩ := hat ((i + j) / 2) (by omega)
      simp only [inR_at hc, rd_at hc, hc, cond_true, s127, s67_lt]
      have c2 : IntKind.i64.wrap ((((i + j) / 2 : Nat) : Int) + 1) = (((i + j) / 2 + 1 : Nat) : Int) := by rw [wrap_ok (by omega) (by omega)]; omega
      rw [c2]
      cases decide (c.1 < d) <;> rfl)
    (fun i hi => by
      rw [hf]
      have c1 : decide ((i : Int) < (i : Int)) = false := decide_eq_false (by omega)
      simp only [c1, cond_false])
  refine ⟨r, a1, chAt_search d chs r up (fun p c hp hc => ?_) (fun p c hp hc => ?_), a4⟩
  · have := a2 p hp
    simp only [hc] at this
    exact of_decide_eq_true this
  · have := a3 p hp (List.getElem?_eq_some_iff.1 hc).1
    simp only [hc] at this
    exact of_decide_eq_false this
end Go.Vm
