/- SeriesRide: the days of a series. Own work. -/
import Derived.Test.YtjkidhjkpkcnhaaGreatDoorWSpecF
set_option maxRecDepth 100000
set_option linter.unusedVariables false
set_option linter.unusedSimpArgs false
namespace Go.Vm
open Go.RowKit
theorem refStep_fold (x : Sr2) : ∀ (l : List Int) (b : List Rid × List Int), l.foldl (fun b d => refStep x d b) b = (b.1 ++ l.filterMap (refDay x), b.2 ++ l.filterMap fun d => (refDay x d).map fun _ => d)
  | [], b => by simp
  | d :: l, b => by
    rw [List.foldl_cons, refStep_fold x l]
    unfold refStep
    cases h : refDay x d <;> simp [List.filterMap_cons, h]
theorem refDays_eq (x : Sr2) : refDays x = ((span x.2.2.2.2.1 x.2.2.2.2.2.1).filterMap (refDay x), (span x.2.2.2.2.1 x.2.2.2.2.2.1).filterMap fun d => (refDay x d).map fun _ => d) := by
  unfold refDays
  rw [refStep_fold]
  simp
def s20 (x : Sr2) : Option (List Int × Unit) := if dayOK x = true then some ((refDays x).2, ()) else none
theorem h20 (x : Sr2) (y : List Int × Unit) (hw : WFs A20 (x, ())) (h : s20 x = some y) : ∃ k, f20 s77 k x = some y := ⟨0, by
  unfold s20 at h
  split at h
  · rename_i hn
    cases h
    unfold f20 s77
    rw [if_pos hn]
    rfl
  · cases h⟩
/-- what the reference says of a day, with the change of the day -/
theorem refDay_eq (x : Sr2) (d : Int) (hc : (chsOf x).Pairwise (fun a b => a.1 < b.1)) : refDay x d =
    let p : Int × Bool := match chAt (chsOf x) d with
      | none => (0, wkOff x d)
      | some c => (c.2.2.1, wkOff x d || c.2.1)
    bif p.2 || (!s37 (tmAt x d p.1 x.2.2.2.2.2.2.2.2.1) || decide (tmAt x d p.1 x.2.2.2.2.2.2.2.2.2.1 > 345686400000)) then none
    else some (idOf x d, x.2.1, x.2.2.1, x.2.2.2.1, tmAt x d p.1 x.2.2.2.2.2.2.2.2.1, tmAt x d p.1 x.2.2.2.2.2.2.2.2.2.1, x.2.2.2.2.2.2.2.2.2.2.2.1, x.2.2.2.2.2.2.2.2.2.2.2.2.1, ()) := by
  unfold refDay
  rw [chFold_eq d (chsOf x) _ hc]
  cases chAt (chsOf x) d <;> rfl
/-- a moment of a day, as the program reckons it -/
def prgAt (x : Sr2) (d by_ m : Int) : Int := IntKind.i64.wrap ((IntKind.i64.wrap (d * (86400000 : Int))) + (IntKind.i64.wrap ((IntKind.i64.wrap ((IntKind.i64.wrap (m - x.2.2.2.2.2.2.2.2.2.2.1)) + by_)) * (60000 : Int))))
theorem prgAt_eq (x : Sr2) (d by_ m : Int) (h1 : 0 ≤ d) (h2 : d ≤ 4000) (h3 : -1440 ≤ by_) (h4 : by_ ≤ 1440) (h5 : 0 ≤ m) (h6 : m ≤ 2880) (h7 : -1440 ≤ x.2.2.2.2.2.2.2.2.2.2.1) (h8 : x.2.2.2.2.2.2.2.2.2.2.1 ≤ 1440) : prgAt x d by_ m = tmAt x d by_ m := by
  unfold prgAt tmAt
  generalize x.2.2.2.2.2.2.2.2.2.2.1 = z at *
  rw [wrap_ok (n := d * 86400000) (by omega) (by omega), wrap_ok (n := m - z) (by omega) (by omega), wrap_ok (n := m - z + by_) (by omega) (by omega), wrap_ok (n := (m - z + by_) * 60000) (by omega) (by omega),
    wrap_ok (n := by_ - z) (by omega) (by omega), wrap_ok (n := (by_ - z) * 60000) (by omega) (by omega), wrap_ok (n := d * 86400000 + (by_ - z) * 60000) (by omega) (by omega), wrap_ok (n := m * 60000) (by omega) (by omega)]
  congr 1
  omega
end Go.Vm
