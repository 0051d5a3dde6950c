/- SeriesRide: Rides. Own work. -/
import Derived.Test.YtjkidhjkpkcnhaaGreatDoorWDayF
set_option maxRecDepth 100000
set_option linter.unusedVariables false
set_option linter.unusedSimpArgs false
namespace Go.Vm
open Go.RowKit
theorem filterMap_filter {α β : Type} (g : α → Option β) (p : β → Bool) : ∀ l : List α, l.filterMap (fun d => (g d).bind fun q => bif p q then some q else none) = (l.filterMap g).filter p
  | [] => rfl
  | d :: l => by
    rw [List.filterMap_cons, List.filterMap_cons]
    cases h : g d with
    | none => simp only [Option.bind_none]; exact filterMap_filter g p l
    | some q =>
      simp only [Option.bind_some]
      cases hp : p q
      · simp only [cond_false, List.filter_cons, hp]; exact filterMap_filter g p l
      · simp only [cond_true, List.filter_cons, hp, if_true, filterMap_filter g p l]
noncomputable def s64 (xs : List Rid) : Option (List Rid) := sortF WY3 s65 xs
noncomputable def s64_81 (xs : List Rid) : Option (List Rid) := sortF WY3 s81 xs
def inW (w : Win) (q : Rid) : Bool := bif decide (q.2.2.2.2.1 ≥ w.1) then decide (q.2.2.2.2.1 < w.2.1) else false
noncomputable def s9 (x : Sr2) (w : Win) : Option (List Rid × Int × Unit) :=
  bif seriesFault [x] != 0 then some ([], seriesFault [x], ()) else bif wBad w then some ([], 1, ()) else (s64 ((refDays x).1.filter (inW w))).bind fun v => some (v, 0, ())
theorem h9 (x : Sr2) (w : Win) (y : List Rid × Int × Unit) (hw : WFs A9 (x, w, ())) (h : s9 x w = some y) : ∃ k, f9 s17 s63 s64 s73 s107 s127 s129 k x w = some y := by
  unfold s9 at h
  clear hw
  refine ⟨5000, ?_⟩
  rw [f9w_eq]
  unfold f9w s17 s63
  by_cases hF : seriesFault [x] = 0
  rotate_left
  · have e : (seriesFault [x] != 0) = true := by simpa using hF
    rw [e] at h ⊢
    exact h
  have e : (seriesFault [x] != 0) = false := by simpa using hF
  rw [e] at h ⊢
  simp only [cond_false] at h ⊢
  cases hb : wBad w
  rotate_left
  · rw [hb] at h
    exact h
  rw [hb] at h
  simp only [cond_false, Bool.not_false, Bool.not_true] at h ⊢
  have o := srOK_of (one_ok hF)
  have o1 := o.first; have o2 := o.last; have o3 := o.order
  rw [span_collect (s0 := (([], x.2.2.2.2.1, ()), (x, ()))) x.2.2.2.2.1 x.2.2.2.2.2.1 (fun d (b : List Rid) => ((b, d, ()), (x, ()))) (fun d => (refDay x d).bind fun q => bif inW w q then some q else none) (fun b => .inr ((b, ()), (x, ()))) rfl (by omega) (by omega) ?h1 ?h2]
  · rw [filterMap_filter]
    rw [refDays_eq] at h
    exact h
  case h2 =>
    intro d b hd
    have : decide (d ≤ x.2.2.2.2.2.1) = false := decide_eq_false (by omega)
    simp only [this, cond_false]
  case h1 =>
    intro d b hd1 hd2 hb
    have e1 : decide (d ≤ x.2.2.2.2.2.1) = true := decide_eq_true hd2
    have e4 : IntKind.i64.wrap (d + 1) = d + 1 := wrap_ok (by omega) (by omega)
    have e5 : ∀ q : Rid, decide (b.length + [q].length ≤ 4294967296) = true := fun q => decide_eq_true (by rw [List.length_singleton]; omega)
    simp only [e1, e4, cond_true]
    rw [dayW_eq o (by omega) (by omega), ← prgDay_eq o (by omega) (by omega)]
    cases hp : prgDay x d with
    | none => rfl
    | some q =>
      rw [dayR_eq hp]
      simp only [Option.bind_some, Option.isSome_some, cond_true]
      unfold inW
      cases c1 : decide (q.2.2.2.2.1 ≥ w.1)
      · simp only [cond_false, Option.bind_some]
      · cases c2 : decide (q.2.2.2.2.1 < w.2.1)
        · simp only [c2, cond_true, cond_false, Option.bind_some]
        · simp only [c2, cond_true, Option.bind_some, e5]
end Go.Vm
