/- Vm, part 36: slices.SortFunc at structs, by the contract of the kit. Own work. -/
import Derived.Test.YtbjpkdbneopgkaaVmK
import Derived.Shelf.SlSortCmp.InsertionK
import Derived.Sort.AssemblyPlain
import Derived.Test.YtbjpkdbneopgkaaVmF
import Derived.Test.YtbjpkdbneopgkaaVmA
import Derived.Lib.Bytealg
set_option linter.unusedVariables false
set_option linter.unusedSimpArgs false
set_option linter.unusedSectionVars false
namespace Go.Vm
variable [MonotC]
open Go.RowKit Go.Sort Go.Shelf Go.Lib
section
variable {P : Program} {w w' : World} {A A' : Nat → Prop}
/-- elements whose sizes are those of a machine, and of which more is known -/
abbrev Els (T : Ty) (Q : T.den → Prop) := { x : T.den // WF T x ∧ Q x }
/-- a comparison orders the elements of a row -/
def Orders (T : Ty) (cmp : T.den → T.den → Int) (xs : List T.den) : Prop := SWO (Go.Proofs.ltOf fun x y : Els T (· ∈ xs) => cmp x.1 y.1)
end
end Go.Vm

/- Vm, part 39: slices.SortFunc by a comparison that may have no answer. Own work. -/
set_option linter.unusedVariables false
set_option linter.unusedSimpArgs false
set_option linter.unusedSectionVars false
namespace Go.Vm
variable [MonotC]
open Go.RowKit Go.Sort Go.Shelf Go.Lib
section
variable {P : Program} {w w' : World} {A A' : Nat → Prop}
end
end Go.Vm

/- Vm, part 37: laws of maps: what is found, what there is; sorted lists. Own work. -/
set_option linter.unusedVariables false
set_option linter.unusedSimpArgs false
namespace Go.Vm
section
variable {κ ν : Type} {eq : κ → κ → Bool}
variable (heq : ∀ a b, eq a b = true ↔ a = b)
include heq
theorem eq_ne {a b : κ} (h : a ≠ b) : eq a b = false := by
  rw [← Bool.not_eq_true]
  exact fun e => h ((heq a b).1 e)
theorem mfind_mrep (k : κ) (v : ν) (k' : κ) : ∀ (l : List (κ × ν × Nat)), mhas eq k l = true → mfind eq k' (mrep eq k v l) = cond (eq k' k) (some v) (mfind eq k' l)
  | [], h => by simp [mhas] at h
  | e :: l, h => by
    simp only [mhas] at h
    simp only [mrep]
    cases h1 : eq k e.1
    · simp only [h1, cond_false] at h
      simp only [cond_false, mfind, mfind_mrep k v k' l h]
      cases h2 : eq k' e.1
      · rfl
      · have h3 := (heq _ _).1 h2
        have : eq k' k = false := eq_ne heq (fun e' => by rw [← e', h2] at h1; cases h1)
        rw [this]
        rfl
    · have h1' := (heq _ _).1 h1
      simp only [cond_true, mfind, h1']
      cases eq k' e.1 <;> rfl
theorem mfind_snoc (k : κ) (v : ν) (n : Nat) (k' : κ) : ∀ (l : List (κ × ν × Nat)), mhas eq k l = false → mfind eq k' (l ++ [(k, v, n)]) = cond (eq k' k) (some v) (mfind eq k' l)
  | [], _ => by simp [mfind]
  | e :: l, h => by
    simp only [mhas] at h
    cases h1 : eq k e.1
    · simp only [h1, cond_false] at h
      simp only [List.cons_append, mfind, mfind_snoc k v n k' l h]
      cases h2 : eq k' e.1
      · rfl
      · have h3 := (heq _ _).1 h2
        have : eq k' k = false := eq_ne heq (fun e' => by rw [← e', h2] at h1; cases h1)
        rw [this]
        rfl
    · simp [h1] at h
theorem mfind_mput (k : κ) (v : ν) (c : List (κ × ν × Nat) × Nat) (k' : κ) : mfind eq k' (mput eq k v c).1 = cond (eq k' k) (some v) (mfind eq k' c.1) := by
  unfold mput
  cases h : mhas eq k c.1
  · exact mfind_snoc heq k v c.2 k' c.1 h
  · exact mfind_mrep heq k v k' c.1 h
theorem mget_mput (d : ν) (k : κ) (v : ν) (c : List (κ × ν × Nat) × Nat) (k' : κ) : mget eq d k' (mput eq k v c).1 = cond (eq k' k) v (mget eq d k' c.1) := by
  unfold mget
  rw [mfind_mput heq]
  cases eq k' k <;> rfl
omit heq in
omit heq in
omit heq in
omit heq in
end
/-! ### Sorted lists -/
end Go.Vm

/- Vm, part 38: comparisons. Own work. -/
set_option linter.unusedVariables false
set_option linter.unusedSimpArgs false
namespace Go.Vm
open Go.Lib Go.Sort
/-- a comparison that is right for those of whom p holds -/
structure CmpOK {α : Type} (cmp : α → α → Int) (p : α → Prop) : Prop where
  anti : ∀ a b, p a → p b → (cmp a b < 0 ↔ 0 < cmp b a)
  trans : ∀ a b c, p a → p b → p c → cmp a b ≤ 0 → cmp b c ≤ 0 → cmp a c ≤ 0
section
variable {α β : Type} {cmp : α → α → Int} {p : α → Prop}
theorem CmpOK.flip_le (h : CmpOK cmp p) {a b : α} (ha : p a) (hb : p b) : cmp a b ≤ 0 ↔ 0 ≤ cmp b a := by
  have := h.anti b a hb ha
  omega
theorem CmpOK.zero (h : CmpOK cmp p) {a b : α} (ha : p a) (hb : p b) : cmp a b = 0 ↔ cmp b a = 0 := by
  have h1 := h.anti b a hb ha
  have h2 := h.anti a b ha hb
  omega
theorem CmpOK.lt_le (h : CmpOK cmp p) {a b c : α} (ha : p a) (hb : p b) (hc : p c) (h1 : cmp a b < 0) (h2 : cmp b c ≤ 0) : cmp a c < 0 := by
  have h3 := h.trans a b c ha hb hc (by omega) h2
  by_cases h4 : cmp a c < 0
  · exact h4
  · have h5 : cmp c a ≤ 0 := (h.flip_le hc ha).2 (by omega)
    have h6 := h.trans b c a hb hc ha h2 h5
    have := h.anti a b ha hb
    omega
theorem CmpOK.le_lt (h : CmpOK cmp p) {a b c : α} (ha : p a) (hb : p b) (hc : p c) (h1 : cmp a b ≤ 0) (h2 : cmp b c < 0) : cmp a c < 0 := by
  have h3 := h.trans a b c ha hb hc h1 (by omega)
  by_cases h4 : cmp a c < 0
  · exact h4
  · have h5 : cmp c a ≤ 0 := (h.flip_le hc ha).2 (by omega)
    have h6 := h.trans c a b hc ha hb h5 h1
    have := h.anti b c hb hc
    omega
theorem CmpOK.on (f : β → α) (h : CmpOK cmp p) : CmpOK (fun a b => cmp (f a) (f b)) (fun b => p (f b)) :=
  ⟨fun a b ha hb => h.anti _ _ ha hb, fun a b c ha hb hc => h.trans _ _ _ ha hb hc⟩
/-- first by one, then by another one -/
def lexC (c1 c2 : α → α → Int) (a b : α) : Int := if c1 a b = 0 then c2 a b else c1 a b
theorem CmpOK.lex {c1 c2 : α → α → Int} (h1 : CmpOK c1 p) (h2 : CmpOK c2 p) : CmpOK (lexC c1 c2) p := by
  refine ⟨fun a b ha hb => ?_, fun a b c ha hb hc => ?_⟩
  · unfold lexC
    have z := h1.zero ha hb
    by_cases e : c1 a b = 0
    · rw [if_pos e, if_pos (z.1 e)]; exact h2.anti a b ha hb
    · rw [if_neg e, if_neg (fun e' => e (z.2 e'))]; exact h1.anti a b ha hb
  · unfold lexC
    intro g1 g2
    by_cases e1 : c1 a b = 0
    · rw [if_pos e1] at g1
      by_cases e2 : c1 b c = 0
      · rw [if_pos e2] at g2
        have e3 : c1 a c = 0 := by
          have h3 := h1.trans a b c ha hb hc (by omega) (by omega)
          have h4 := h1.trans c b a hc hb ha (by have := (h1.zero hb hc).1 e2; omega) (by have := (h1.zero ha hb).1 e1; omega)
          have h5 := h1.flip_le hc ha
          have := h5.1 h4
          omega
        rw [if_pos e3]
        exact h2.trans a b c ha hb hc g1 g2
      · rw [if_neg e2] at g2
        have := h1.le_lt ha hb hc (by omega : c1 a b ≤ 0) (by omega)
        rw [if_neg (by omega)]
        omega
    · rw [if_neg e1] at g1
      have h3 : c1 b c ≤ 0 := by
        by_cases e2 : c1 b c = 0
        · omega
        · rw [if_neg e2] at g2; exact g2
      have := h1.lt_le ha hb hc (by omega : c1 a b < 0) h3
      rw [if_neg (by omega)]
      omega
end
/-! ### Comparisons that there are -/
theorem bytes_zero : ∀ {a b : List UInt8}, compareBytes a b = 0 ↔ a = b
  | [], [] => by simp [compareBytes]
  | [], _ :: _ => by simp [compareBytes]
  | _ :: _, [] => by simp [compareBytes]
  | x :: a, y :: b => by
    simp only [compareBytes]
    by_cases h1 : x < y
    · rw [if_pos h1]
      have : x ≠ y := fun e => by rw [e] at h1; exact absurd h1 (UInt8.lt_irrefl _)
      simp [this]
    · rw [if_neg h1]
      by_cases h2 : y < x
      · rw [if_pos h2]
        have : x ≠ y := fun e => by rw [e] at h2; exact absurd h2 (UInt8.lt_irrefl _)
        simp [this]
      · rw [if_neg h2, bytes_zero]
        have : x = y := UInt8.le_antisymm (UInt8.not_lt.1 h2) (UInt8.not_lt.1 h1)
        simp [this]
theorem bytes_anti : ∀ (a b : List UInt8), compareBytes a b = - compareBytes b a
  | [], [] => rfl
  | [], _ :: _ => rfl
  | _ :: _, [] => rfl
  | x :: a, y :: b => by
    simp only [compareBytes]
    by_cases h1 : x < y
    · rw [if_pos h1, if_neg (UInt8.lt_asymm h1), if_pos h1]
    · rw [if_neg h1]
      by_cases h2 : y < x
      · rw [if_pos h2, if_pos h2]; rfl
      · rw [if_neg h2, if_neg h2, if_neg h1]
        exact bytes_anti a b
theorem bytes_trans : ∀ (a b c : List UInt8), compareBytes a b ≤ 0 → compareBytes b c ≤ 0 → compareBytes a c ≤ 0
  | [], b, c, _, _ => by cases c <;> simp [compareBytes]
  | _ :: _, [], c, h, _ => by simp [compareBytes] at h
  | _ :: _, _ :: _, [], _, h => by simp [compareBytes] at h
  | x :: a, y :: b, z :: c, h1, h2 => by
    simp only [compareBytes] at *
    by_cases e1 : x < y
    · by_cases e2 : y < z
      · rw [if_pos (UInt8.lt_trans e1 e2)]; decide
      · rw [if_neg e2] at h2
        by_cases e3 : z < y
        · rw [if_pos e3] at h2; omega
        · have : y = z := UInt8.le_antisymm (UInt8.not_lt.1 e3) (UInt8.not_lt.1 e2)
          subst this
          rw [if_pos e1]; decide
    · rw [if_neg e1] at h1
      by_cases e2 : y < x
      · rw [if_pos e2] at h1; omega
      · rw [if_neg e2] at h1
        have : x = y := UInt8.le_antisymm (UInt8.not_lt.1 e2) (UInt8.not_lt.1 e1)
        subst this
        by_cases e3 : x < z
        · rw [if_pos e3]; decide
        · rw [if_neg e3] at h2 ⊢
          by_cases e4 : z < x
          · rw [if_pos e4] at h2; omega
          · rw [if_neg e4] at h2 ⊢
            exact bytes_trans a b c h1 h2
/-- strings.Compare -/
def cmpS (a b : ByteArray) : Int := compareBytes a.data.toList b.data.toList
theorem cmpS_ok : CmpOK cmpS (fun _ => True) :=
  ⟨fun a b _ _ => by unfold cmpS; rw [bytes_anti a.data.toList]; omega, fun a b c _ _ _ => bytes_trans _ _ _⟩
theorem bytes_of {a b : ByteArray} (h : a.data.toList = b.data.toList) : a = b := by
  cases a; cases b
  simp only [ByteArray.mk.injEq]
  exact Array.toList_inj.1 h
theorem cmpS_zero {a b : ByteArray} : cmpS a b = 0 ↔ a = b := by
  unfold cmpS
  rw [bytes_zero]
  exact ⟨bytes_of, fun h => by rw [h]⟩
end Go.Vm
