/- Vm, part 32: Go's stable sort over any type of elements, printed by an own tool (wip/tools/mk_stable.py). -/
import Derived.Test.YtfiembgemhonlaaVmD
set_option linter.unusedVariables false
namespace Go.Vm
section
variable {α : Type} (d : α) (cmp : α → α → Int)
end
end Go.Vm

/- Vm, part 33: Go's stable sort: exchanges and rotations. Plain law. Own work. -/
set_option linter.unusedVariables false
set_option linter.unusedSimpArgs false
namespace Go.Vm
section
variable {α : Type} (d : α) (cmp : α → α → Int)
end
end Go.Vm

/- Vm: loops by name. Own work (lift_loops.py). -/
set_option linter.unusedVariables false
namespace Go.Vm
section
variable {α : Type}
end
end Go.Vm

/- Vm, part 34: Go's stable sort: what is stable; insertion. Plain law. Own work. -/
set_option linter.unusedVariables false
set_option linter.unusedSimpArgs false
namespace Go.Vm
section
variable {α : Type}
/-- a strict weak order -/
structure Weak (lt : α → α → Bool) : Prop where
  irrefl : ∀ x, lt x x = false
  trans : ∀ x y z, lt x y = true → lt y z = true → lt x z = true
  ntrans : ∀ x y z, lt x y = false → lt y z = false → lt x z = false
theorem Weak.asymm {lt : α → α → Bool} (W : Weak lt) {x y : α} (h : lt x y = true) : lt y x = false := by
  cases hy : lt y x
  · rfl
  · have := W.trans x y x h hy
    rw [W.irrefl] at this; cases this
def eqv (lt : α → α → Bool) (z x : α) : Bool := !lt z x && !lt x z
def InOrder (lt : α → α → Bool) (l : List α) : Prop := l.Pairwise (fun a b => lt b a = false)
/-- the same elements, and equal ones in the same order -/
def Same (lt : α → α → Bool) (l m : List α) : Prop := l.length = m.length ∧ ∀ z, l.filter (eqv lt z) = m.filter (eqv lt z)
variable {lt : α → α → Bool}
theorem Same.refl (l : List α) : Same lt l l := ⟨rfl, fun _ => rfl⟩
theorem Same.trans {l m n : List α} (h : Same lt l m) (k : Same lt m n) : Same lt l n := ⟨h.1.trans k.1, fun z => (h.2 z).trans (k.2 z)⟩
theorem Same.symm {l m : List α} (h : Same lt l m) : Same lt m l := ⟨h.1.symm, fun z => (h.2 z).symm⟩
theorem Same.append {l m l' m' : List α} (h : Same lt l l') (k : Same lt m m') : Same lt (l ++ m) (l' ++ m') :=
  ⟨by simp [h.1, k.1], fun z => by rw [List.filter_append, List.filter_append, h.2, k.2]⟩
theorem eqv_self (W : Weak lt) (x : α) : eqv lt x x = true := by simp [eqv, W.irrefl]
theorem Same.mem (W : Weak lt) {l m : List α} (h : Same lt l m) {x : α} (hx : x ∈ m) : x ∈ l := by
  have : x ∈ m.filter (eqv lt x) := List.mem_filter.2 ⟨hx, eqv_self W x⟩
  rw [← h.2] at this
  exact (List.mem_filter.1 this).1
theorem Same.blocks (W : Weak lt) {U V : List α} (h : ∀ u ∈ U, ∀ v ∈ V, lt v u = true) : Same lt (U ++ V) (V ++ U) := by
  refine ⟨by simp; omega, fun z => ?_⟩
  rw [List.filter_append, List.filter_append]
  by_cases hu : U.filter (eqv lt z) = []
  · rw [hu]; simp
  · by_cases hv : V.filter (eqv lt z) = []
    · rw [hv]; simp
    · exfalso
      obtain ⟨u, hu⟩ := List.exists_mem_of_ne_nil _ hu
      obtain ⟨v, hv⟩ := List.exists_mem_of_ne_nil _ hv
      obtain ⟨u1, u2⟩ := List.mem_filter.1 hu
      obtain ⟨v1, v2⟩ := List.mem_filter.1 hv
      simp only [eqv, Bool.and_eq_true, Bool.not_eq_true'] at u2 v2
      have := W.ntrans v z u v2.2 u2.1
      rw [h u u1 v v1] at this; cases this
theorem Same.swap (W : Weak lt) {A B : List α} {x y : α} (h : lt x y = true) : Same lt (A ++ y :: x :: B) (A ++ x :: y :: B) := by
  have := Same.append (Same.refl (lt := lt) A) (Same.append (Same.blocks W (U := [y]) (V := [x]) (by simp [h])) (Same.refl B))
  simpa using this
def insertS (lt : α → α → Bool) (x : α) : List α → List α
  | [] => [x]
  | y :: l => if lt y x = true then y :: insertS lt x l else x :: y :: l
/-- sorted, equal ones as they stood -/
def stab (lt : α → α → Bool) : List α → List α
  | [] => []
  | x :: l => insertS lt x (stab lt l)
theorem insertS_same (W : Weak lt) (x : α) : ∀ l : List α, Same lt (x :: l) (insertS lt x l)
  | [] => Same.refl _
  | y :: l => by
    unfold insertS
    split
    · rename_i h
      refine (Same.swap W (A := []) (B := l) h).trans ?_
      exact Same.append (Same.refl [y]) (insertS_same W x l)
    · exact Same.refl _
theorem insertS_order (W : Weak lt) (x : α) : ∀ l : List α, InOrder lt l → InOrder lt (insertS lt x l)
  | [], _ => by simp [insertS, InOrder]
  | y :: l, h => by
    have h' := List.pairwise_cons.1 h
    unfold insertS
    split
    · rename_i hy
      refine List.pairwise_cons.2 ⟨fun z hz => ?_, insertS_order W x l h'.2⟩
      have := (insertS_same W x l).mem W hz
      rcases List.mem_cons.1 this with rfl | hz
      · exact W.asymm hy
      · exact h'.1 z hz
    · rename_i hy
      have hy : lt y x = false := by simpa using hy
      refine List.pairwise_cons.2 ⟨fun z hz => ?_, h⟩
      rcases List.mem_cons.1 hz with rfl | hz
      · exact hy
      · exact W.ntrans z y x (h'.1 z hz) hy
theorem stab_order (W : Weak lt) : ∀ l : List α, InOrder lt (stab lt l)
  | [] => List.Pairwise.nil
  | x :: l => insertS_order W x _ (stab_order W l)
theorem stab_same (W : Weak lt) : ∀ l : List α, Same lt l (stab lt l)
  | [] => Same.refl _
  | x :: l => (Same.append (Same.refl [x]) (stab_same W l)).trans (insertS_same W x _)
/-- the order of a comparison -/
def ltOf (cmp : α → α → Int) (a b : α) : Bool := decide (cmp a b < 0)
variable (d : α) (cmp : α → α → Int)
end
end Go.Vm

/- Vm, part 35: Go's stable sort: searches, shifts. Plain law. Own work. -/
set_option linter.unusedVariables false
set_option linter.unusedSimpArgs false
namespace Go.Vm
section
variable {α : Type}
variable (d : α) (cmp : α → α → Int)
end
section
variable {α : Type} {lt : α → α → Bool}
theorem InOrder.head (W : Weak lt) {y : α} {Y : List α} (h : InOrder lt (y :: Y)) {z : α} (hz : z ∈ y :: Y) : lt z y = false := by
  rcases List.mem_cons.1 hz with rfl | hz
  · exact W.irrefl _
  · exact (List.pairwise_cons.1 h).1 z hz
end
end Go.Vm

/- Vm, part 36: Go's stable sort: merging in place. Plain law. Own work. -/
set_option linter.unusedVariables false
set_option linter.unusedSimpArgs false
namespace Go.Vm
section
variable {α : Type} (d : α) (cmp : α → α → Int)
theorem cut (X : List α) (n : Nat) (h : n ≤ X.length) : ∃ X1 X2, X = X1 ++ X2 ∧ X1.length = n := ⟨X.take n, X.drop n, by simp, by simp; omega⟩
end
end Go.Vm

/- Vm, part 37: Go's stable sort: merging in place, in all. Plain law. Own work. -/
set_option linter.unusedVariables false
set_option linter.unusedSimpArgs false
namespace Go.Vm
section
variable {α : Type} (d : α) (cmp : α → α → Int)
end
end Go.Vm

/- Vm, part 38: Go's stable sort is stable sorting. Plain law. Own work. -/
set_option linter.unusedVariables false
set_option linter.unusedSimpArgs false
namespace Go.Vm
section
variable {α : Type} (d : α) (cmp : α → α → Int)
/-- runs of a length -/
def AllRuns (lt : α → α → Bool) (n : Nat) (Ls : List (List α)) : Prop := ∀ l ∈ Ls, l.length = n ∧ InOrder lt l
theorem AllRuns.len {lt : α → α → Bool} {n : Nat} : ∀ {Ls : List (List α)}, AllRuns lt n Ls → Ls.flatten.length = n * Ls.length
  | [], _ => by simp
  | l :: Ls, h => by
    have h1 := AllRuns.len (Ls := Ls) (fun x hx => h x (List.mem_cons_of_mem _ hx))
    have h2 := (h l (List.mem_cons_self ..)).1
    rw [List.flatten_cons, List.length_append, h1, h2, List.length_cons, Nat.mul_succ]; omega
end
end Go.Vm
