/- SeriesRide: Same. Own work. -/
import Derived.Test.YtjkidhjkpkcnhaaGreatDoorWSpecJ
set_option maxRecDepth 100000
set_option linter.unusedVariables false
set_option linter.unusedSimpArgs false
namespace Go.Vm
open Go.RowKit
def sameDay (a b : Sr2) (d : Int) : Bool := match refDay a d, refDay b d with
  | some p, some q => s70 p q
  | _, _ => false
def loOf (a b : Sr2) : Int := if (decide (b.2.2.2.2.1 > a.2.2.2.2.1)) then b.2.2.2.2.1 else a.2.2.2.2.1
def hiOf (a b : Sr2) : Int := if (decide (b.2.2.2.2.2.1 < a.2.2.2.2.2.1)) then b.2.2.2.2.2.1 else a.2.2.2.2.2.1
def s10 (a b : Sr2) : Option (List Int × Int × Unit) :=
  bif nz [seriesFault [a], seriesFault [b]] != 0 then some ([], nz [seriesFault [a], seriesFault [b]], ()) else
    bif !sEq a.2.1 b.2.1 then some ([], 0, ()) else bif !sEq a.2.2.1 b.2.2.1 then some ([], 0, ()) else bif !sEq a.2.2.2.1 b.2.2.2.1 then some ([], 0, ()) else
      some ((span (loOf a b) (hiOf a b)).filter (sameDay a b), 0, ())
theorem nz_two {m n : Int} (h : nz [m, n] = 0) : m = 0 ∧ n = 0 := nz2 h
theorem filterMap_if {α : Type} (p : α → Bool) : ∀ l : List α, l.filterMap (fun d => bif p d then some d else none) = l.filter p
  | [] => rfl
  | d :: l => by
    rw [List.filterMap_cons, List.filter_cons]
    cases hp : p d
    · simp only [cond_false]; exact filterMap_if p l
    · simp only [cond_true, if_true, filterMap_if p l]
theorem h10 (a b : Sr2) (y : List Int × Int × Unit) (hw : WFs A10 (a, b, ())) (h : s10 a b = some y) : ∃ k, f10 s17 s69 s70 s73 s107 s127 s129 k a b = some y := by
  unfold s10 at h
  clear hw
  refine ⟨5000, ?_⟩
  rw [f10w_eq]
  unfold f10w s17 s69
  by_cases hF : nz [seriesFault [a], seriesFault [b]] = 0
  rotate_left
  · have e : (nz [seriesFault [a], seriesFault [b]] != 0) = true := by simpa using hF
    rw [e] at h ⊢
    exact h
  have e : (nz [seriesFault [a], seriesFault [b]] != 0) = false := by simpa using hF
  rw [e] at h ⊢
  simp only [cond_false] at h ⊢
  cases k1 : !sEq a.2.1 b.2.1
  rotate_left
  · rw [k1] at h
    exact h
  cases k2 : !sEq a.2.2.1 b.2.2.1
  rotate_left
  · rw [k1, k2] at h
    exact h
  cases k3 : !sEq a.2.2.2.1 b.2.2.2.1
  rotate_left
  · rw [k1, k2, k3] at h
    exact h
  rw [k1, k2, k3] at h
  simp only [cond_false] at h ⊢
  have oa := srOK_of (one_ok (nz_two hF).1)
  have ob := srOK_of (one_ok (nz_two hF).2)
  have a1 := oa.first; have a2 := oa.last; have a3 := oa.order
  have b1 := ob.first; have b2 := ob.last; have b3 := ob.order
  have l1 : 0 ≤ loOf a b := by unfold loOf; split <;> omega
  have l2 : hiOf a b ≤ 4000 := by unfold hiOf; split <;> omega
  rw [show (if (decide (b.2.2.2.2.1 > a.2.2.2.2.1)) then b.2.2.2.2.1 else a.2.2.2.2.1) = loOf a b from rfl]
  rw [span_collect (s0 := (([], loOf a b, ()), (a, b, ()))) (loOf a b) (hiOf a b) (fun d (c : List Int) => ((c, d, ()), (a, b, ()))) (fun d => bif sameDay a b d then some d else none) (fun c => .inr ((c, ()), (a, b, ()))) rfl (by omega) (by omega) ?h1 ?h2]
  · rw [filterMap_if]
    exact h
  case h2 =>
    intro d c hd
    have : decide (d ≤ hiOf a b) = false := decide_eq_false (by omega)
    show (bif decide (d ≤ hiOf a b) then _ else _) = _
    rw [this]
    rfl
  case h1 =>
    intro d c hd1 hd2 hc
    have e1 : decide (d ≤ hiOf a b) = true := decide_eq_true hd2
    have e4 : IntKind.i64.wrap (d + 1) = d + 1 := wrap_ok (by omega) (by omega)
    have e5 : decide (c.length + [d].length ≤ 4294967296) = true := decide_eq_true (by rw [List.length_singleton]; omega)
    show (bif decide (d ≤ hiOf a b) then Option.bind (dayW s73 s107 s127 s129 5000 a d) _ else _) = _
    rw [e1]
    simp only [e4, cond_true]
    rw [dayW_eq oa (by omega) (by omega)]
    unfold sameDay
    rw [← prgDay_eq oa (by omega) (by omega), ← prgDay_eq ob (by omega) (by omega)]
    simp only [Option.bind_some]
    rw [dayW_eq ob (by omega) (by omega)]
    simp only [Option.bind_some]
    cases hp : prgDay a d with
    | none => rfl
    | some p =>
      cases hq : prgDay b d with
      | none => rfl
      | some q =>
        rw [dayR_eq hp, dayR_eq hq]
        simp only [Option.isSome_some, cond_true, Option.bind_some]
        show (bif s70 p q then _ else _) = _
        cases s70 p q
        · rfl
        · simp only [e5, cond_true]
end Go.Vm
