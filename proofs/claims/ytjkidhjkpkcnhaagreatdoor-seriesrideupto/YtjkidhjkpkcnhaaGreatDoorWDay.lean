/- SeriesRide: a day's ride, as the program finds it. Plain law. Own work. -/
import Derived.Test.YtjkidhjkpkcnhaaGreatDoorWIds
set_option maxRecDepth 100000
set_option linter.unusedVariables false
set_option linter.unusedSimpArgs false
namespace Go.Vm
open Go.RowKit
theorem cond_zero' {b : Bool} {n m : Int} (hn : n ≠ 0) (h : (bif b then n else m) = 0) : b = false ∧ m = 0 := by
  cases b
  · exact ⟨rfl, h⟩
  · exact absurd h hn
/-- what is known of a right series -/
structure SrOK (x : Sr2) : Prop where
  first : 0 ≤ x.2.2.2.2.1
  order : x.2.2.2.2.1 ≤ x.2.2.2.2.2.1
  last : x.2.2.2.2.2.1 ≤ 4000
  weeks : x.2.2.2.2.2.2.1 ≠ 0
  ready0 : 0 ≤ x.2.2.2.2.2.2.2.2.1
  ready1 : x.2.2.2.2.2.2.2.2.1 ≤ 1439
  due0 : x.2.2.2.2.2.2.2.2.1 + 1 ≤ x.2.2.2.2.2.2.2.2.2.1
  due1 : x.2.2.2.2.2.2.2.2.2.1 ≤ 2880
  zone0 : -1440 ≤ x.2.2.2.2.2.2.2.2.2.2.1
  zone1 : x.2.2.2.2.2.2.2.2.2.2.1 ≤ 1440
  keyLen : x.1.size ≤ 30
  chsLen : (chsOf x).length ≤ 200
  up : (chsOf x).Pairwise (fun a b => a.1 < b.1)
  right : ∀ c ∈ chsOf x, chBad c = 0
theorem srOK_of {x : Sr2} (h : srBad x = 0) : SrOK x := by
  unfold srBad at h
  obtain ⟨_, h⟩ := cond_zero' (by decide) h
  obtain ⟨_, h⟩ := cond_zero' (by decide) h
  obtain ⟨_, h⟩ := cond_zero' (by decide) h
  obtain ⟨_, h⟩ := cond_zero' (by decide) h
  obtain ⟨k1, h⟩ := cond_zero' (by decide) h
  obtain ⟨_, h⟩ := cond_zero' (by decide) h
  obtain ⟨k2, h⟩ := cond_zero' (by decide) h
  obtain ⟨k3, h⟩ := cond_zero' (by decide) h
  obtain ⟨k4, h⟩ := cond_zero' (by decide) h
  obtain ⟨_, h⟩ := cond_zero' (by decide) h
  obtain ⟨k5, h⟩ := cond_zero' (by decide) h
  obtain ⟨k6, h⟩ := cond_zero' (by decide) h
  obtain ⟨k7, h⟩ := cond_zero' (by decide) h
  obtain ⟨_, h⟩ := cond_zero' (by decide) h
  obtain ⟨_, h⟩ := cond_zero' (by decide) h
  obtain ⟨_, h⟩ := cond_zero' (by decide) h
  have k1 := of_decide_eq_false k1
  have k2 := out_false k2
  have k3 := of_decide_eq_false k3
  have k4 := out_false k4
  have k5 := out_false k5
  have k6 := out_false k6
  have k7 := out_false k7
  rw [wrap_ok (by omega) (by omega)] at k6
  unfold changesFault at h
  split at h
  · cases h
  · rename_i hn
    obtain ⟨_, u1, u2⟩ := chg_up _ none h
    exact ⟨k2.1, k2.2, by omega, by omega, k5.1, k5.2, k6.1, k6.2, k7.1, k7.2, by omega, Nat.le_of_not_lt hn, u1, u2⟩
/-- the ride, where nothing stands against it -/
def prgFin (x : Sr2) (d by_ : Int) : Option Rid :=
  bif !s37 (prgAt x d by_ x.2.2.2.2.2.2.2.2.1) || decide (prgAt x d by_ x.2.2.2.2.2.2.2.2.2.1 > 345686400000) then none
  else some (idOf x d, x.2.1, x.2.2.1, x.2.2.2.1, prgAt x d by_ x.2.2.2.2.2.2.2.2.1, prgAt x d by_ x.2.2.2.2.2.2.2.2.2.1, x.2.2.2.2.2.2.2.2.2.2.2.1, x.2.2.2.2.2.2.2.2.2.2.2.2.1, ())
def prgDay (x : Sr2) (d : Int) : Option Rid :=
  bif wkOff x d then none else match chAt (chsOf x) d with
    | none => prgFin x d 0
    | some c => bif c.2.1 then none else prgFin x d c.2.2.1
theorem chAt_mem : ∀ {l : List Ch} {d : Int} {c : Ch}, chAt l d = some c → c ∈ l
  | [], d, c, h => by cases h
  | e :: l, d, c, h => by
    rw [chAt] at h
    split at h
    · cases h; exact List.mem_cons_self ..
    · exact List.mem_cons_of_mem _ (chAt_mem h)
theorem chBad_by {c : Ch} (h : chBad c = 0) : -1440 ≤ c.2.2.1 ∧ c.2.2.1 ≤ 1440 := by
  unfold chBad at h
  obtain ⟨_, h⟩ := cond_zero' (by decide) h
  obtain ⟨k, _⟩ := cond_zero' (by decide) h
  exact out_false k
theorem prgDay_eq {x : Sr2} (o : SrOK x) {d : Int} (h1 : 0 ≤ d) (h2 : d ≤ 4000) : prgDay x d = refDay x d := by
  rw [refDay_eq x d o.up]
  have fin : ∀ by_ : Int, -1440 ≤ by_ → by_ ≤ 1440 → prgFin x d by_ = bif !s37 (tmAt x d by_ x.2.2.2.2.2.2.2.2.1) || decide (tmAt x d by_ x.2.2.2.2.2.2.2.2.2.1 > 345686400000) then none
      else some (idOf x d, x.2.1, x.2.2.1, x.2.2.2.1, tmAt x d by_ x.2.2.2.2.2.2.2.2.1, tmAt x d by_ x.2.2.2.2.2.2.2.2.2.1, x.2.2.2.2.2.2.2.2.2.2.2.1, x.2.2.2.2.2.2.2.2.2.2.2.2.1, ()) := fun by_ b1 b2 => by
    have r0 := o.ready0; have r1 := o.ready1; have u0 := o.due0; have u1 := o.due1
    unfold prgFin
    rw [prgAt_eq x d by_ _ h1 h2 b1 b2 o.ready0 (by omega) o.zone0 o.zone1, prgAt_eq x d by_ _ h1 h2 b1 b2 (by omega) o.due1 o.zone0 o.zone1]
  unfold prgDay
  cases hc : chAt (chsOf x) d with
  | none =>
    simp only
    rw [fin 0 (by omega) (by omega)]
    cases wkOff x d <;> rfl
  | some c =>
    obtain ⟨b1, b2⟩ := chBad_by (o.right c (chAt_mem hc))
    simp only
    rw [fin c.2.2.1 b1 b2]
    cases wkOff x d
    · cases c.2.1 <;> rfl
    · rfl
end Go.Vm
