/- SeriesRide: a loop over the numbers of a span. Own work. -/
import Derived.Test.YtjkidhjkpkcnhaaGreatDoorVmD
set_option linter.unusedVariables false
set_option linter.unusedSimpArgs false
namespace Go.Vm
open Go.RowKit
section
variable {σ τ β : Type}
/-- A LOOP 'for d := lo; d <= last; d++'. -/
theorem iter_span {f : σ → Option (σ ⊕ τ)} (lo last : Int) (mk : Int → β → σ) (g : Int → β → β) (fin : β → τ) (J : Nat → β → Prop)
    (hJ : ∀ (j : Nat) (b : β), J j b → lo + j ≤ last → J (j + 1) (g (lo + j) b))
    (h1 : ∀ (j : Nat) (b : β), lo + j ≤ last → J j b → f (mk (lo + j) b) = some (.inl (mk (lo + j + 1) (g (lo + j) b))))
    (h2 : ∀ (d : Int) (b : β), last < d → f (mk d b) = some (.inr (fin b))) :
    ∀ (n j k : Nat) (b : β), (last + 1 - (lo + j)).toNat = n → J j b → n < k → iter k f (mk (lo + j) b) = some (fin ((List.range' j n).foldl (fun b i => g (lo + (i : Nat)) b) b))
  | 0, j, k, b, hn, hb, hk => by
    obtain ⟨k, rfl⟩ : ∃ q, k = q + 1 := ⟨k - 1, by omega⟩
    simp only [iter, h2 (lo + j) b (by omega), Option.bind_some, List.range'_zero, List.foldl_nil]
  | n + 1, j, k, b, hn, hb, hk => by
    obtain ⟨k, rfl⟩ : ∃ q, k = q + 1 := ⟨k - 1, by omega⟩
    have hle : lo + j ≤ last := by omega
    simp only [iter, h1 j b hle hb, Option.bind_some, List.range'_succ, List.foldl_cons]
    have := iter_span lo last mk g fin J hJ h1 h2 n (j + 1) k (g (lo + j) b) (by omega) (hJ j b hb hle) (by omega)
    rw [show lo + ((j + 1 : Nat) : Int) = lo + (j : Int) + 1 from by omega] at this
    exact this
/-- the numbers of a span -/
def span (lo last : Int) : List Int := (List.range' 0 (last + 1 - lo).toNat).map fun i => lo + (i : Nat)
theorem iter_span0 {f : σ → Option (σ ⊕ τ)} {s0 : σ} {k : Nat} (lo last : Int) (mk : Int → β → σ) (g : Int → β → β) (fin : β → τ) (J : Nat → β → Prop) (b : β) (hs : s0 = mk lo b) (hb : J 0 b) (hk : (last + 1 - lo).toNat < k)
    (hJ : ∀ (j : Nat) (b : β), J j b → lo + j ≤ last → J (j + 1) (g (lo + j) b))
    (h1 : ∀ (j : Nat) (b : β), lo + j ≤ last → J j b → f (mk (lo + j) b) = some (.inl (mk (lo + j + 1) (g (lo + j) b))))
    (h2 : ∀ (d : Int) (b : β), last < d → f (mk d b) = some (.inr (fin b))) :
    iter k f s0 = some (fin ((span lo last).foldl (fun b d => g d b) b)) := by
  have := iter_span lo last mk g fin J hJ h1 h2 _ 0 k b (by rw [show lo + ((0 : Nat) : Int) = lo from by omega]) hb hk
  rw [show lo + ((0 : Nat) : Int) = lo from by omega] at this
  subst hs
  rw [this]
  unfold span
  rw [List.foldl_map]
/-- such a loop, that collects -/
theorem span_collect {γ : Type} {f : σ → Option (σ ⊕ τ)} {s0 : σ} {k : Nat} (lo last : Int) (mk : Int → List γ → σ) (g : Int → Option γ) (fin : List γ → τ) (hs : s0 = mk lo []) (hk : (last + 1 - lo).toNat < k) (hlen : last + 1 - lo ≤ 4294967296)
    (h1 : ∀ (d : Int) (b : List γ), lo ≤ d → d ≤ last → b.length < 4294967296 → f (mk d b) = some (.inl (mk (d + 1) (match g d with | some y => b ++ [y] | none => b))))
    (h2 : ∀ (d : Int) (b : List γ), last < d → f (mk d b) = some (.inr (fin b))) :
    iter k f s0 = some (fin ((span lo last).filterMap g)) := by
  rw [iter_span0 (k := k) lo last mk (fun d b => match g d with | some y => b ++ [y] | none => b) fin (fun j b => b.length ≤ j) [] hs (Nat.le_refl _) hk
    (fun j b hb hle => by
      cases g (lo + j) with
      | none => simp only; omega
      | some y => simp only [List.length_append, List.length_singleton]; omega)
    (fun j b hle hb => h1 (lo + j) b (by omega) hle (by omega))
    h2]
  have key : ∀ (l : List Int) (b : List γ), l.foldl (fun b d => match g d with | some y => b ++ [y] | none => b) b = b ++ l.filterMap g := by
    intro l
    induction l with
    | nil => intro b; simp
    | cons x l ih =>
      intro b
      rw [List.foldl_cons, ih, List.filterMap_cons]
      cases g x <;> simp
  rw [key]
  rfl
end
end Go.Vm
