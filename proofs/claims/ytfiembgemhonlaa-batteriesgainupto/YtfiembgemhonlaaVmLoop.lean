/- Vm, part 29: what loops come to. Own work. -/
import Derived.Test.YtfiembgemhonlaaVmPure
set_option linter.unusedVariables false
namespace Go.Vm
section
variable {σ τ α β : Type}
/-- A LOOP: an invariant, what is left, what it comes to. -/
theorem iter_some {f : σ → Option (σ ⊕ τ)} (I : σ → Prop) (m : σ → Nat) (res : σ → τ)
    (h : ∀ s, I s → (∃ s', f s = some (.inl s') ∧ I s' ∧ m s' < m s ∧ res s' = res s) ∨ f s = some (.inr (res s))) : ∀ (k : Nat) (s : σ), I s → m s < k → iter k f s = some (res s)
  | 0, s, hi, hk => by omega
  | k + 1, s, hi, hk => by
    rcases h s hi with ⟨s', h1, h2, h3, h4⟩ | h1
    · simp only [iter, h1, Option.bind_some]
      rw [← h4]
      exact iter_some I m res h k s' h2 (by omega)
    · simp only [iter, h1, Option.bind_some]
/-- A LOOP: an invariant, what is left, what is right of what it comes to. -/
theorem iter_post {f : σ → Option (σ ⊕ τ)} (I : σ → Prop) (m : σ → Nat) (Q : τ → Prop)
    (h : ∀ s, I s → (∃ s', f s = some (.inl s') ∧ I s' ∧ m s' < m s) ∨ (∃ t, f s = some (.inr t) ∧ Q t)) : ∀ (k : Nat) (s : σ), I s → m s < k → ∃ t, iter k f s = some t ∧ Q t
  | 0, s, hi, hk => by omega
  | k + 1, s, hi, hk => by
    rcases h s hi with ⟨s', h1, h2, h3⟩ | ⟨t, h1, h2⟩
    · simp only [iter, h1, Option.bind_some]
      exact iter_post I m Q h k s' h2 (by omega)
    · simp only [iter, h1, Option.bind_some]
      exact ⟨t, rfl, h2⟩
/-- what a loop over a list comes to, from place j on -/
def scan (body : Nat → α → β → β ⊕ τ) (fin : β → τ) : List α → Nat → β → τ
  | [], _, b => fin b
  | x :: l, j, b => match body j x b with
    | .inl b' => scan body fin l (j + 1) b'
    | .inr t => t
/-- A LOOP OVER A LIST. -/
theorem iter_scan {f : σ → Option (σ ⊕ τ)} (xs : List α) (mk : Nat → β → σ) (body : Nat → α → β → β ⊕ τ) (fin : β → τ)
    (h1 : ∀ (j : Nat) (x : α) (b : β), xs[j]? = some x → f (mk j b) = some (match body j x b with | .inl b' => .inl (mk (j + 1) b') | .inr t => .inr t))
    (h2 : ∀ b, f (mk xs.length b) = some (.inr (fin b))) : ∀ (l : List α) (j k : Nat) (b : β), xs.drop j = l → j ≤ xs.length → l.length < k → iter k f (mk j b) = some (scan body fin l j b)
  | l, j, 0, b, hl, hj, hk => by omega
  | [], j, k + 1, b, hl, hj, hk => by
    have : j = xs.length := by
      have := List.drop_eq_nil_iff.1 hl
      omega
    subst this
    simp only [iter, h2, scan, Option.bind_some]
  | x :: l, j, k + 1, b, hl, hj, hk => by
    have hx : xs[j]? = some x := by rw [← List.head?_drop, hl]; rfl
    have hlt : j < xs.length := (List.getElem?_eq_some_iff.1 hx).1
    have hl' : xs.drop (j + 1) = l := by rw [← List.drop_drop, hl]; rfl
    simp only [iter, h1 j x b hx, scan, Option.bind_some]
    cases body j x b with
    | inl b' => exact iter_scan xs mk body fin h1 h2 l (j + 1) k b' hl' (by omega) (by simp at hk; omega)
    | inr t => rfl
theorem iter_scan0 {f : σ → Option (σ ⊕ τ)} {s0 : σ} {k : Nat} (xs : List α) (mk : Nat → β → σ) (body : Nat → α → β → β ⊕ τ) (fin : β → τ) (b : β) (hs : s0 = mk 0 b) (hk : xs.length < k)
    (h1 : ∀ (j : Nat) (x : α) (b : β), xs[j]? = some x → f (mk j b) = some (match body j x b with | .inl b' => .inl (mk (j + 1) b') | .inr t => .inr t))
    (h2 : ∀ b, f (mk xs.length b) = some (.inr (fin b))) : iter k f s0 = some (scan body fin xs 0 b) := by
  subst hs
  exact iter_scan xs mk body fin h1 h2 xs 0 k b rfl (by omega) hk
end
theorem rd_at {α : Type} {d : α} {xs : List α} {j : Nat} {x : α} (h : xs[j]? = some x) : rd d xs (j : Int) = x := by
  simp [rd, List.getD, h]
theorem inR_at {α : Type} {xs : List α} {j : Nat} {x : α} (h : xs[j]? = some x) : inR (j : Int) (xs.length : Int) = true := by
  have := (List.getElem?_eq_some_iff.1 h).1
  simp [inR]; omega
theorem lt_at {α : Type} {xs : List α} {j : Nat} {x : α} (h : xs[j]? = some x) : decide ((j : Int) < (xs.length : Int)) = true := by
  have := (List.getElem?_eq_some_iff.1 h).1
  simp; omega
theorem wrap_ok {n : Int} (h1 : -9223372036854775808 ≤ n) (h2 : n ≤ 9223372036854775807) : IntKind.i64.wrap n = n := by
  unfold IntKind.wrap
  have h3 : (2 : Int) ^ (64 - 1) = 9223372036854775808 := by decide
  have h4 : (2 : Int) ^ 64 = 18446744073709551616 := by decide
  simp only [IntKind.signed, IntKind.bits, Bool.true_and, h3, h4]
  split
  · rename_i h; have := of_decide_eq_true h; omega
  · rename_i h; have := of_decide_eq_false (Bool.eq_false_iff.2 h); omega
theorem wrap_succ {α : Type} {xs : List α} {j : Nat} {x : α} (h : xs[j]? = some x) (hl : xs.length ≤ 9223372036854775807) : IntKind.i64.wrap ((j : Int) + 1) = ((j + 1 : Nat) : Int) := by
  have := (List.getElem?_eq_some_iff.1 h).1
  rw [wrap_ok (by omega) (by omega)]; omega
end Go.Vm
