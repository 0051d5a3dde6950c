/- Vm, part 36: slices.SortFunc at structs, by the contract of the kit. Own work. -/
import Derived.Test.YtjkidhjkpkcnhaaGreatDoorVmK
import Derived.Shelf.SlSortCmp.InsertionK
import Derived.Sort.AssemblyPlain
import Derived.Test.YtjkidhjkpkcnhaaGreatDoorVmC
import Derived.Test.YtjkidhjkpkcnhaaGreatDoorVmA
import Derived.Lib.Bytealg
set_option linter.unusedVariables false
set_option linter.unusedSimpArgs false
namespace Go.Vm
open Go.RowKit Go.Sort Go.Shelf Go.Lib
section
variable {P : Program} {w w' : World} {A A' : Nat → Prop}
/-- elements whose sizes are those of a machine, and of which more is known -/
abbrev Els (T : Ty) (Q : T.den → Prop) := { x : T.den // WF T x ∧ Q x }
/-- a comparison orders the elements of a row -/
def Orders (T : Ty) (cmp : T.den → T.den → Int) (xs : List T.den) : Prop := SWO (Go.Proofs.ltOf fun x y : Els T (· ∈ xs) => cmp x.1 y.1)
end
end Go.Vm

/- Vm, part 39: slices.SortFunc by a comparison that may have no answer. Own work. -/
set_option linter.unusedVariables false
set_option linter.unusedSimpArgs false
namespace Go.Vm
open Go.RowKit Go.Sort Go.Shelf Go.Lib
section
variable {P : Program} {w w' : World} {A A' : Nat → Prop}
end
end Go.Vm

/- Vm, part 37: laws of maps: what is found, what there is; sorted lists. Own work. -/
set_option linter.unusedVariables false
set_option linter.unusedSimpArgs false
namespace Go.Vm
section
variable {κ ν : Type} {eq : κ → κ → Bool}
theorem mhas_find (k : κ) : ∀ (l : List (κ × ν × Nat)), mhas eq k l = (mfind eq k l).isSome
  | [] => rfl
  | e :: l => by
    simp only [mhas, mfind, mhas_find k l]
    cases eq k e.1 <;> rfl
variable (heq : ∀ a b, eq a b = true ↔ a = b)
include heq
theorem eq_ne {a b : κ} (h : a ≠ b) : eq a b = false := by
  rw [← Bool.not_eq_true]
  exact fun e => h ((heq a b).1 e)
theorem mfind_mrep (k : κ) (v : ν) (k' : κ) : ∀ (l : List (κ × ν × Nat)), mhas eq k l = true → mfind eq k' (mrep eq k v l) = cond (eq k' k) (some v) (mfind eq k' l)
  | [], h => by simp [mhas] at h
  | e :: l, h => by
    simp only [mhas] at h
    simp only [mrep]
    cases h1 : eq k e.1
    · simp only [h1, cond_false] at h
      simp only [cond_false, mfind, mfind_mrep k v k' l h]
      cases h2 : eq k' e.1
      · rfl
      · have h3 := (heq _ _).1 h2
        have : eq k' k = false := eq_ne heq (fun e' => by rw [← e', h2] at h1; cases h1)
        rw [this]
        rfl
    · have h1' := (heq _ _).1 h1
      simp only [cond_true, mfind, h1']
      cases eq k' e.1 <;> rfl
theorem mfind_snoc (k : κ) (v : ν) (n : Nat) (k' : κ) : ∀ (l : List (κ × ν × Nat)), mhas eq k l = false → mfind eq k' (l ++ [(k, v, n)]) = cond (eq k' k) (some v) (mfind eq k' l)
  | [], _ => by simp [mfind]
  | e :: l, h => by
    simp only [mhas] at h
    cases h1 : eq k e.1
    · simp only [h1, cond_false] at h
      simp only [List.cons_append, mfind, mfind_snoc k v n k' l h]
      cases h2 : eq k' e.1
      · rfl
      · have h3 := (heq _ _).1 h2
        have : eq k' k = false := eq_ne heq (fun e' => by rw [← e', h2] at h1; cases h1)
        rw [this]
        rfl
    · simp [h1] at h
theorem mfind_mput (k : κ) (v : ν) (c : List (κ × ν × Nat) × Nat) (k' : κ) : mfind eq k' (mput eq k v c).1 = cond (eq k' k) (some v) (mfind eq k' c.1) := by
  unfold mput
  cases h : mhas eq k c.1
  · exact mfind_snoc heq k v c.2 k' c.1 h
  · exact mfind_mrep heq k v k' c.1 h
theorem mget_mput (d : ν) (k : κ) (v : ν) (c : List (κ × ν × Nat) × Nat) (k' : κ) : mget eq d k' (mput eq k v c).1 = cond (eq k' k) v (mget eq d k' c.1) := by
  unfold mget
  rw [mfind_mput heq]
  cases eq k' k <;> rfl
theorem mhas_mput (k : κ) (v : ν) (c : List (κ × ν × Nat) × Nat) (k' : κ) : mhas eq k' (mput eq k v c).1 = (eq k' k || mhas eq k' c.1) := by
  rw [mhas_find, mfind_mput heq, mhas_find]
  cases eq k' k <;> rfl
omit heq in
omit heq in
omit heq in
omit heq in
end
/-! ### Sorted lists -/
end Go.Vm

/- Vm, part 38: comparisons. Own work. -/
set_option linter.unusedVariables false
set_option linter.unusedSimpArgs false
namespace Go.Vm
open Go.Lib Go.Sort
section
variable {α β : Type} {cmp : α → α → Int} {p : α → Prop}
end
/-! ### Comparisons that there are -/
end Go.Vm
