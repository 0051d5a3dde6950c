/- SeriesRide: a search by halves. Own work. -/
import Derived.Test.YtbjpkdbneopgkaaVmD
set_option linter.unusedVariables false
set_option linter.unusedSimpArgs false
namespace Go.Vm
open Go.RowKit
section
variable {τ : Type}
abbrev HSt := (Int × Int × Unit) × Unit
theorem halves_from {f : HSt → Option (HSt ⊕ (τ ⊕ ((Int × Unit) × Unit)))} (lt : Nat → Bool) (n : Nat) (mono : ∀ a b, a ≤ b → b < n → lt b = true → lt a = true)
    (hstep : ∀ i j : Nat, i < j → j ≤ n → f (((i : Int), (j : Int), ()), ()) = some (.inl ((bif lt ((i + j) / 2) then ((((i + j) / 2 + 1 : Nat) : Int), (j : Int), ()) else ((i : Int), (((i + j) / 2 : Nat) : Int), ())), ())))
    (hend : ∀ i : Nat, i ≤ n → f (((i : Int), (i : Int), ()), ()) = some (.inr (.inr (((i : Int), ()), ())))) :
    ∀ (m i j : Nat), j - i ≤ m → i ≤ j → j ≤ n → (∀ p, p < i → lt p = true) → (∀ p, j ≤ p → p < n → lt p = false) →
      ∃ r : Nat, r ≤ n ∧ (∀ p, p < r → lt p = true) ∧ (∀ p, r ≤ p → p < n → lt p = false) ∧ ∀ k, m < k → iter k f (((i : Int), (j : Int), ()), ()) = some (.inr (((r : Int), ()), ()))
  | m, i, j, hm, hij, hjn, h1, h2 => by
    by_cases e : i = j
    · subst e
      refine ⟨i, hjn, h1, h2, fun k hk => ?_⟩
      obtain ⟨k, rfl⟩ : ∃ q, k = q + 1 := ⟨k - 1, by omega⟩
      simp only [iter, hend i hjn, Option.bind_some]
    · have hlt : i < j := by omega
      have hs := hstep i j hlt hjn
      cases m with
      | zero => omega
      | succ m =>
        cases hl : lt ((i + j) / 2)
        · rw [hl, cond_false] at hs
          obtain ⟨r, a1, a2, a3, a4⟩ := halves_from lt n mono hstep hend m i ((i + j) / 2) (by omega) (by omega) (by omega) h1 (fun p hp hpn => by
            cases hq : lt p
            · rfl
            · rw [mono _ p hp hpn hq] at hl; cases hl)
          refine ⟨r, a1, a2, a3, fun k hk => ?_⟩
          obtain ⟨k, rfl⟩ : ∃ q, k = q + 1 := ⟨k - 1, by omega⟩
          simp only [iter, hs, Option.bind_some]
          exact a4 k (by omega)
        · rw [hl, cond_true] at hs
          obtain ⟨r, a1, a2, a3, a4⟩ := halves_from lt n mono hstep hend m ((i + j) / 2 + 1) j (by omega) (by omega) hjn (fun p hp => mono p _ (by omega) (by omega) hl) h2
          refine ⟨r, a1, a2, a3, fun k hk => ?_⟩
          obtain ⟨k, rfl⟩ : ∃ q, k = q + 1 := ⟨k - 1, by omega⟩
          simp only [iter, hs, Option.bind_some]
          exact a4 k (by omega)
theorem halves {f : HSt → Option (HSt ⊕ (τ ⊕ ((Int × Unit) × Unit)))} (lt : Nat → Bool) (n : Nat) (mono : ∀ a b, a ≤ b → b < n → lt b = true → lt a = true)
    (hstep : ∀ i j : Nat, i < j → j ≤ n → f (((i : Int), (j : Int), ()), ()) = some (.inl ((bif lt ((i + j) / 2) then ((((i + j) / 2 + 1 : Nat) : Int), (j : Int), ()) else ((i : Int), (((i + j) / 2 : Nat) : Int), ())), ())))
    (hend : ∀ i : Nat, i ≤ n → f (((i : Int), (i : Int), ()), ()) = some (.inr (.inr (((i : Int), ()), ())))) :
    ∃ r : Nat, r ≤ n ∧ (∀ p, p < r → lt p = true) ∧ (∀ p, r ≤ p → p < n → lt p = false) ∧ ∀ k, n < k → iter k f (((0 : Int), (n : Int), ()), ()) = some (.inr (((r : Int), ()), ())) :=
  halves_from lt n mono hstep hend n 0 n (by omega) (by omega) (Nat.le_refl _) (fun p h => by omega) (fun p h1 h2 => by omega)
end
end Go.Vm
