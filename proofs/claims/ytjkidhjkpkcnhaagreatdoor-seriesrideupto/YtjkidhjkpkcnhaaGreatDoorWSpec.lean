/- SeriesRide: the law. Own work. -/
import Derived.Test.YtjkidhjkpkcnhaaGreatDoorWOrd
import Derived.Test.YtjkidhjkpkcnhaaGreatDoorWSpecI
set_option maxRecDepth 100000
set_option linter.unusedVariables false
set_option linter.unusedSimpArgs false
namespace Go.Vm
open Go.RowKit
def s3 (r : Rid) (who : List Rdr) (l : List Sr2) (a b : Sr2) (w : Win) : Option (Bool × Unit) :=
  if who.length ≤ 4294967296 ∧ l.length ≤ 4294967296 ∧ srOK l = true ∧ srOK [a] = true ∧ srOK [b] = true then some (true, ()) else none
theorem dayOK_of {x : Sr2} (o : SrOK x) : dayOK x = true := by
  unfold dayOK
  have h1 := o.keyLen
  have h2 := o.chsLen
  rw [decide_eq_true (show x.1.size ≤ 1099511627776 by omega), decide_eq_true (show (chsOf x).length ≤ 4294967296 by omega), decide_eq_true o.weeks, decide_eq_true o.first, decide_eq_true o.last]
  rfl
theorem nz_zero (n : Int) : nz [0, n] = n := by
  simp only [nz, if_true]
  by_cases h : n = 0
  · rw [if_pos h, h]
  · rw [if_neg h]
theorem nz_left {m : Int} (h : m ≠ 0) (n : Int) : nz [m, n] = m := by
  simp only [nz, if_neg h]
theorem part_one (a : Sr2) : ∃ D : List Int, s7 a = some (D, seriesFault [a], ()) ∧
    (bif seriesFault [a] == (0 : Int) then Option.bind (s20 a) fun v10 => (some (.inr ((v10.1, ()), ())) : Option ((Bool × Unit) ⊕ (((List Int) × Unit) × (Unit)))) else some (.inr (([], ()), ()))) = some (.inr ((D, ()), ())) := by
  unfold s7
  by_cases hF : seriesFault [a] = 0
  · have e : (seriesFault [a] != 0) = false := by simpa using hF
    have e2 : (seriesFault [a] == 0) = true := by simpa using hF
    have e20 : s20 a = some ((refDays a).2, ()) := by unfold s20; rw [if_pos (dayOK_of (srOK_of (one_ok hF)))]
    refine ⟨(refDays a).2, ?_, ?_⟩
    · rw [e, hF]; rfl
    · rw [e2, e20]; rfl
  · have e : (seriesFault [a] != 0) = true := by simpa using hF
    have e2 : (seriesFault [a] == 0) = false := by simpa using hF
    exact ⟨[], by rw [e]; rfl, by rw [e2]; rfl⟩
theorem part_two (a : Sr2) (w : Win) (h1 : a.2.1.size ≤ 9223372036854775807) (h2 : a.2.2.1.size ≤ 9223372036854775807) (h3 : a.2.2.2.1.size ≤ 9223372036854775807) : ∃ X : List Rid, s9 a w = some (X, nz [seriesFault [a], s19 w], ()) ∧
    (bif nz [seriesFault [a], s19 w] == (0 : Int) then Option.bind (s21 a w) fun v12 => (some (.inr ((v12.1, ()), ())) : Option ((Bool × Unit) ⊕ (((List WT6) × Unit) × (Unit)))) else some (.inr (([], ()), ()))) = some (.inr ((X, ()), ())) := by
  unfold s9 s19
  by_cases hF : seriesFault [a] = 0
  rotate_left
  · have e : (seriesFault [a] != 0) = true := by simpa using hF
    have e2 : (seriesFault [a] == 0) = false := by simpa using hF
    rw [nz_left hF]
    exact ⟨[], by rw [e]; rfl, by rw [e2]; rfl⟩
  have e : (seriesFault [a] != 0) = false := by simpa using hF
  rw [e, hF, nz_zero]
  cases hb : wBad w
  rotate_left
  · exact ⟨[], rfl, rfl⟩
  have hn := dayOK_of (srOK_of (one_ok hF))
  obtain ⟨v, v1, v2⟩ := rides_sort (x := a) w hn h1 h2 h3
  have e21 : s21 a w = some (v, ()) := by unfold s21; rw [if_pos hn, v2]; rfl
  refine ⟨v, ?_, ?_⟩
  · rw [v1]; rfl
  · rw [e21]; rfl
theorem part_three (a b : Sr2) : ∃ Y : List Int, s10 a b = some (Y, nz [seriesFault [a], seriesFault [b]], ()) ∧
    (bif nz [seriesFault [a], seriesFault [b]] == (0 : Int) then Option.bind (s22 a b) fun v14 => (some (.inr ((v14.1, ()), ())) : Option ((Bool × Unit) ⊕ (((List Int) × Unit) × (Unit)))) else some (.inr (([], ()), ()))) = some (.inr ((Y, ()), ())) := by
  unfold s10
  by_cases hF : nz [seriesFault [a], seriesFault [b]] = 0
  rotate_left
  · have e : (nz [seriesFault [a], seriesFault [b]] != 0) = true := by simpa using hF
    have e2 : (nz [seriesFault [a], seriesFault [b]] == 0) = false := by simpa using hF
    exact ⟨[], by rw [e]; rfl, by rw [e2]; rfl⟩
  have hA := (nz_two hF).1
  have hB := (nz_two hF).2
  rw [hF]
  have e22 : s22 a b = some ((refDays a).2.filter (sameAt a b), ()) := by unfold s22; rw [if_pos ⟨dayOK_of (srOK_of (one_ok hA)), dayOK_of (srOK_of (one_ok hB))⟩]
  refine ⟨(refDays a).2.filter (sameAt a b), ?_, ?_⟩
  rotate_left
  · rw [e22]; rfl
  cases k1 : sEq a.2.1 b.2.1
  · rw [same_none (by rw [k1]; rfl)]; rfl
  cases k2 : sEq a.2.2.1 b.2.2.1
  · rw [same_none (by rw [k1, k2]; rfl)]; rfl
  cases k3 : sEq a.2.2.2.1 b.2.2.2.1
  · rw [same_none (by rw [k1, k2, k3]; rfl)]; rfl
  rw [← same_eq k1 k2 k3]
  rfl
theorem h3 (r : Rid) (who : List Rdr) (l : List Sr2) (a b : Sr2) (w : Win) (y : Bool × Unit) (hw : WFs A3 (r, who, l, a, b, w, ())) (h : s3 r who l a b w = some y) :
    ∃ k, f3 s7 s8 s9 s10 s11 s12 s13 s14 s15 s16 s17 s18 s19 s20 s21 s22 s23 s24 s25 k r who l a b w = some y := by
  unfold s3 at h
  split at h
  rotate_left
  · cases h
  rename_i hn
  obtain ⟨h1, h2, h3, h4, h5⟩ := hn
  cases h
  simp only [WFs, WF] at hw
  have w1 := hw.2.2.2.1.2.1
  have w2 := hw.2.2.2.1.2.2.1
  have w3 := hw.2.2.2.1.2.2.2.1
  clear hw
  refine ⟨0, ?_⟩
  unfold f3
  have e15 : s15 who = some (who, ()) := by unfold s15; rw [if_pos h1]
  have e8l : s8 l = some (l, ()) := by unfold s8; rw [if_pos ⟨h2, h3⟩]
  have e8a : s8 [a] = some ([a], ()) := by unfold s8; rw [if_pos ⟨by simp, h4⟩]
  have e8b : s8 [b] = some ([b], ()) := by unfold s8; rw [if_pos ⟨by simp, h5⟩]
  have ia : inR (0 : Int) (([a].length : Nat) : Int) = true := rfl
  have ib : inR (0 : Int) (([b].length : Nat) : Int) = true := rfl
  have ra : ∀ z : Sr2, rd z [a] (0 : Int) = a := fun _ => rfl
  have rb : ∀ z : Sr2, rd z [b] (0 : Int) = b := fun _ => rfl
  obtain ⟨D, d1, d2⟩ := part_one a
  obtain ⟨X, x1, x2⟩ := part_two a w w1 w2 w3
  obtain ⟨Y, y1, y2⟩ := part_three a b
  simp only [e8a, e8b, e8l, e15, Option.bind_some, ia, ib, ra, rb, cond_true, d1, x1, y1]
  have n1 : (s12 r != s13 r) = false := by show (s12 r != s12 r) = false; simp
  have n2 : (s14 who != s16 who) = false := by show (s14 who != s14 who) = false; simp
  have n3 : (s17 l != seriesFault l) = false := by show (s17 l != s17 l) = false; simp
  have t11 : ∀ z : List Sr2, s11 z = seriesFault z := fun _ => rfl
  have t18 : ∀ z : List Int, s18 z = nz z := fun _ => rfl
  simp only [n1, n2, n3, cond_false, t11, t18, d2, x2, y2, Option.bind_some, beq_self_eq_true, cond_true]
  have g1 : ∀ z : List Int, s23 z z = true := fun z => by unfold s23; simp
  have g2 : ∀ z : List Rid, s24 z z = true := fun z => by unfold s24; simp
  simp only [g1, g2, cond_true, s25_true, Option.bind_some]
end Go.Vm
