/- SeriesRide: the change of a day. Plain law. Own work. -/
import Derived.Test.YtjkidhjkpkcnhaaGreatDoorWSpecE
set_option maxRecDepth 100000
set_option linter.unusedVariables false
set_option linter.unusedSimpArgs false
namespace Go.Vm
open Go.RowKit
theorem oneG_ok {α : Type} {bad : α → Int} {ord : α → α → Bool} {p : Option α} {x : α} (h : oneG bad ord p x = 0) : bad x = 0 ∧ ordG ord p x = false := by
  unfold oneG at h
  by_cases hb : bad x = 0
  · have e : (bad x != 0) = false := by simpa using hb
    rw [e, cond_false] at h
    cases ho : ordG ord p x
    · exact ⟨hb, rfl⟩
    · rw [ho] at h; cases h
  · have e : (bad x != 0) = true := by simpa using hb
    rw [e, cond_true] at h
    exact absurd h hb
theorem lstG_cons {α : Type} {bad : α → Int} {ord : α → α → Bool} {p : Option α} {x : α} {l : List α} (h : lstG bad ord p (x :: l) = 0) : oneG bad ord p x = 0 ∧ lstG bad ord (some x) l = 0 := by
  simp only [lstG] at h
  by_cases h1 : oneG bad ord p x = 0
  · rw [if_pos h1] at h; exact ⟨h1, h⟩
  · rw [if_neg h1] at h; exact absurd h h1
theorem chg_up : ∀ (l : List Ch) (p : Option Ch), lstG chBad chOrd p l = 0 → (∀ q, p = some q → ∀ c ∈ l, q.1 < c.1) ∧ l.Pairwise (fun a b => a.1 < b.1) ∧ ∀ c ∈ l, chBad c = 0
  | [], p, _ => ⟨fun _ _ _ h => (by cases h), .nil, fun _ h => (by cases h)⟩
  | c :: l, p, h => by
    obtain ⟨h1, h2⟩ := lstG_cons h
    obtain ⟨hb, ho⟩ := oneG_ok h1
    obtain ⟨a1, a2, a3⟩ := chg_up l (some c) h2
    refine ⟨fun q hq x hx => ?_, List.pairwise_cons.2 ⟨a1 c rfl, a2⟩, fun x hx => ?_⟩
    · subst hq
      have hqc : q.1 < c.1 := by
        have : decide (c.1 ≤ q.1) = false := ho
        have := of_decide_eq_false this
        omega
      rcases List.mem_cons.1 hx with rfl | hx
      · exact hqc
      · have := a1 c rfl x hx; omega
    · rcases List.mem_cons.1 hx with rfl | hx
      · exact hb
      · exact a3 x hx
/-- the change of a day -/
def chAt : List Ch → Int → Option Ch
  | [], _ => none
  | c :: l, d => if c.1 = d then some c else chAt l d
theorem chAt_none : ∀ (l : List Ch) (d : Int), (∀ c ∈ l, d < c.1) → chAt l d = none
  | [], d, _ => rfl
  | c :: l, d, h => by
    have := h c (List.mem_cons_self ..)
    rw [chAt, if_neg (by omega)]
    exact chAt_none l d (fun x hx => h x (List.mem_cons_of_mem _ hx))
/-- the reference looks at all of them -/
def chFold (d : Int) (s : Int × Bool) (c : Ch) : Int × Bool := bif c.1 == d then (c.2.2.1, s.2 || c.2.1) else s
theorem chFold_eq (d : Int) : ∀ (l : List Ch) (s : Int × Bool), l.Pairwise (fun a b => a.1 < b.1) → l.foldl (chFold d) s = match chAt l d with
    | none => s
    | some c => (c.2.2.1, s.2 || c.2.1)
  | [], s, _ => rfl
  | c :: l, s, h => by
    obtain ⟨h1, h2⟩ := List.pairwise_cons.1 h
    rw [List.foldl_cons, chFold_eq d l _ h2]
    unfold chFold
    by_cases hc : c.1 = d
    · have e : (c.1 == d) = true := by simpa using hc
      rw [e, cond_true, chAt, if_pos hc, chAt_none l d (fun x hx => by have := h1 x hx; omega)]
    · have e : (c.1 == d) = false := by simpa using hc
      rw [e, cond_false, chAt, if_neg hc]
/-- the program finds it by halves -/
theorem chAt_search (d : Int) : ∀ (l : List Ch) (r : Nat), l.Pairwise (fun a b => a.1 < b.1) → (∀ p c, p < r → l[p]? = some c → c.1 < d) → (∀ p c, r ≤ p → l[p]? = some c → ¬ c.1 < d) →
    chAt l d = match l[r]? with
      | none => none
      | some c => if c.1 = d then some c else none
  | [], r, _, _, _ => by simp [chAt]
  | c :: l, 0, h, h1, h2 => by
    obtain ⟨g1, g2⟩ := List.pairwise_cons.1 h
    have hc := h2 0 c (Nat.le_refl _) rfl
    simp only [List.getElem?_cons_zero]
    by_cases hd : c.1 = d
    · rw [chAt, if_pos hd, if_pos hd]
    · rw [chAt, if_neg hd, if_neg hd]
      exact chAt_none l d (fun x hx => by have := g1 x hx; omega)
  | c :: l, r + 1, h, h1, h2 => by
    obtain ⟨g1, g2⟩ := List.pairwise_cons.1 h
    have hc := h1 0 c (by omega) rfl
    rw [chAt, if_neg (by omega), List.getElem?_cons_succ]
    exact chAt_search d l r g2 (fun p x hp hx => h1 (p + 1) x (by omega) (by simpa using hx)) (fun p x hp hx => h2 (p + 1) x (by omega) (by simpa using hx))
end Go.Vm
