/- SeriesRide: SameOf. Own work. -/
import Derived.Test.YtjkidhjkpkcnhaaGreatDoorWSpecM
set_option maxRecDepth 100000
set_option linter.unusedVariables false
set_option linter.unusedSimpArgs false
namespace Go.Vm
open Go.RowKit
theorem par_at {α β : Type} (g : α → Option β) : ∀ (l : List α) (j : Nat) (d : α), (l.filterMap fun d => (g d).map fun _ => d)[j]? = some d → ∃ p, (l.filterMap g)[j]? = some p ∧ g d = some p
  | [], j, d, h => by simp at h
  | a :: l, j, d, h => by
    rw [List.filterMap_cons] at h
    rw [List.filterMap_cons]
    cases hg : g a with
    | none =>
      rw [hg] at h
      exact par_at g l j d h
    | some p =>
      rw [hg] at h
      simp only [Option.map_some] at h
      cases j with
      | zero =>
        simp only [List.getElem?_cons_zero, Option.some.injEq] at h
        subst h
        exact ⟨p, rfl, hg⟩
      | succ j =>
        simp only [List.getElem?_cons_succ] at h
        obtain ⟨q, h1, h2⟩ := par_at g l j d h
        exact ⟨q, by simpa using h1, h2⟩
theorem days_at {x : Sr2} {j : Nat} {d : Int} (h : (refDays x).2[j]? = some d) : ∃ p, (refDays x).1[j]? = some p ∧ refDay x d = some p := by
  rw [refDays_eq] at h ⊢
  exact par_at _ _ _ _ h
def sameR (p q : Rid) : Bool := sEq p.2.1 q.2.1 && (sEq p.2.2.1 q.2.2.1 && (sEq p.2.2.2.1 q.2.2.2.1 && s83 p q))
def sameAt (a b : Sr2) (d : Int) : Bool := decide (d ∈ (refDays b).2) && (match refDay a d, refDay b d with
  | some p, some q => sameR p q
  | _, _ => false)
def s22 (a b : Sr2) : Option (List Int × Unit) := if dayOK a = true ∧ dayOK b = true then some ((refDays a).2.filter (sameAt a b), ()) else none
theorem foldl_keep {α : Type} (p : α → Bool) : ∀ (l b : List α), l.foldl (fun b d => bif p d then b ++ [d] else b) b = b ++ l.filter p
  | [], b => by simp
  | d :: l, b => by
    rw [List.foldl_cons, foldl_keep p l, List.filter_cons]
    cases p d <;> simp
theorem h22 (a b : Sr2) (y : List Int × Unit) (hw : WFs A22 (a, b, ())) (h : s22 a b = some y) : ∃ k, f22 s77 s82 s83 k a b = some y := by
  unfold s22 at h
  split at h
  rotate_left
  · cases h
  rename_i hn
  cases h
  clear hw
  refine ⟨9000, ?_⟩
  have la := (refDays_len hn.1).2
  unfold f22 s77
  rw [if_pos hn.1, if_pos hn.2]
  simp only [Option.bind_some]
  rw [iter_fold (s0 := (([], (0 : Int), ()), ())) (refDays a).2 (fun i (c : List Int) => ((c, (i : Int), ()), ())) (fun d c => bif sameAt a b d then c ++ [d] else c) (fun c => .inr ((c, ()), ())) (fun j c => c.length ≤ j) [] (Nat.le_refl _) rfl (by omega) ?hJ ?h1 ?h2]
  · simp only [Option.bind_some]
    rw [foldl_keep]
    rfl
  case hJ =>
    intro j d c hd hc
    cases sameAt a b d
    · simp only [cond_false]; omega
    · simp only [cond_true, List.length_append, List.length_singleton]; omega
  case h2 =>
    intro c hc
    simp
  case h1 =>
    intro j d c hd hc
    have hj := (List.getElem?_eq_some_iff.1 hd).1
    obtain ⟨p, hp, hap⟩ := days_at hd
    simp only [lt_at hd, inR_at hd, rd_at hd, wrap_succ hd (by omega), cond_true, inR_at hp, rd_at hp]
    have e5 : decide (c.length + [d].length ≤ 4294967296) = true := decide_eq_true (by rw [List.length_singleton]; omega)
    have hs82 : s82 (refDays b).2 d = match (refDays b).2.findIdx? (fun y => d == y) with
      | some i => (i : Int)
      | none => -1 := rfl
    cases hf : (refDays b).2.findIdx? (fun y => d == y) with
    | none =>
      rw [hf] at hs82
      simp only at hs82
      have hnm : ¬ d ∈ (refDays b).2 := fun hm => by
        have := (List.findIdx?_eq_none_iff.1 hf) d hm
        simp at this
      have e1 : sameAt a b d = false := by unfold sameAt; rw [decide_eq_false hnm]; rfl
      have e2 : decide (s82 (refDays b).2 d ≥ (0 : Int)) = false := by rw [hs82]; decide
      simp only [e1, e2, cond_false]
    | some i =>
      rw [hf] at hs82
      simp only at hs82
      obtain ⟨g1, g2, g3⟩ := List.findIdx?_eq_some_iff_getElem.1 hf
      have hbi : (refDays b).2[i]? = some d := by
        rw [List.getElem?_eq_getElem g1]
        have : d = (refDays b).2[i] := by simpa using g2
        rw [← this]
      obtain ⟨q, hq, hbq⟩ := days_at hbi
      have e2 : decide ((i : Int) ≥ (0 : Int)) = true := decide_eq_true (by omega)
      have e1 : sameAt a b d = sameR p q := by
        unfold sameAt
        rw [decide_eq_true (List.mem_of_getElem? hbi), hap, hbq]
        rfl
      rw [hs82, e1]
      simp only [e2, cond_true, inR_at hq, rd_at hq]
      unfold sameR
      cases sEq p.2.1 q.2.1
      · rfl
      cases sEq p.2.2.1 q.2.2.1
      · rfl
      cases sEq p.2.2.2.1 q.2.2.2.1
      · rfl
      simp only [cond_true, Bool.true_and]
      cases s83 p q
      · rfl
      · simp only [e5, cond_true]
end Go.Vm
