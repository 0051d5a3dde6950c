/- SeriesRide: series that are copied. Own work. -/
import Derived.Test.YtjkidhjkpkcnhaaGreatDoorWSpecD
set_option maxRecDepth 100000
set_option linter.unusedVariables false
set_option linter.unusedSimpArgs false
namespace Go.Vm
open Go.RowKit
section
variable {α γ σ τ : Type}
theorem collectG {f : σ → Option (σ ⊕ τ)} {s0 : σ} {k : Nat} (xs : List α) (g : α → Option γ) (mk : Nat → List γ → σ) (fin : List γ → τ) (hs : s0 = mk 0 []) (hk : xs.length < k) (hlen : xs.length ≤ 4294967296)
    (h1 : ∀ (j : Nat) (x : α) (b : List γ), xs[j]? = some x → b.length < 4294967296 → f (mk j b) = some (.inl (mk (j + 1) (match g x with | some y => b ++ [y] | none => b))))
    (h2 : ∀ b, f (mk xs.length b) = some (.inr (fin b))) : iter k f s0 = some (fin (xs.filterMap g)) := by
  have e := iter_fold (s0 := s0) (k := k) (f := f) xs mk (fun x b => match g x with | some y => b ++ [y] | none => b) fin (fun j b => b.length ≤ j) [] (Nat.le_refl _) hs hk
    (fun j x b hx hb => by
      cases g x with
      | none => simp only; omega
      | some y => simp only [List.length_append, List.length_singleton]; omega)
    (fun j x b hx hb => h1 j x b hx (by have := (List.getElem?_eq_some_iff.1 hx).1; omega))
    (fun b _ => h2 b)
  rw [e]
  congr 2
  have key : ∀ (l : List α) (b : List γ), l.foldl (fun b x => match g x with | some y => b ++ [y] | none => b) b = b ++ l.filterMap g := by
    intro l
    induction l with
    | nil => intro b; simp
    | cons x l ih =>
      intro b
      rw [List.foldl_cons, ih, List.filterMap_cons]
      cases g x <;> simp
  rw [key]
  rfl
end
abbrev chsOf (x : Sr2) : List Ch := x.2.2.2.2.2.2.2.2.2.2.2.2.2.1
def srOK (l : List Sr2) : Bool := l.all fun x => decide ((chsOf x).length ≤ 4294967296)
def s8 (l : List Sr2) : Option (List Sr2 × Unit) := if l.length ≤ 4294967296 ∧ srOK l = true then some (l, ()) else none
theorem h8 (l : List Sr2) (y : List Sr2 × Unit) (hw : WFs A8 (l, ())) (h : s8 l = some y) : ∃ k, f8 s62 k l = some y := by
  unfold s8 at h
  split at h
  rotate_left
  · cases h
  rename_i hn
  cases h
  clear hw
  refine ⟨l.length + 1, ?_⟩
  unfold f8
  rw [collectG (s0 := (([], (0 : Int), ()), ())) l (fun x => some x) (fun j b => ((b, (j : Int), ()), ())) (fun b => .inr ((b, ()), ())) rfl (Nat.lt_succ_self _) hn.1
    (fun j x b hx hb => by
      have hc : (chsOf x).length ≤ 4294967296 := of_decide_eq_true (List.all_eq_true.1 hn.2 x (List.mem_of_getElem? hx))
      have e62 : s62 x.2.2.2.2.2.2.2.2.2.2.2.2.2.1 = some (x.2.2.2.2.2.2.2.2.2.2.2.2.2.1, ()) := by unfold s62; rw [if_pos hc]
      simp only [lt_at hx, inR_at hx, rd_at hx, wrap_succ hx (by omega), cond_true, e62, Option.bind_some]
      rw [decide_eq_true (by simp only [List.length_singleton]; omega)]
      rfl)
    (fun b => by simp)]
  simp
end Go.Vm
