/- ShiftsCovered: the law. Own work. -/
import Derived.Test.YtfiembgemhonlaaSSpecF
set_option linter.unusedVariables false
set_option linter.unusedSimpArgs false
namespace Go.Vm
open Go.RowKit Go.Vm.Gain
def s50 (l : List Wd) : Int := shiftsFault l
theorem zip_none {α : Type} {ne : α → α → Bool} (hne : ∀ a b, ne a b = false ↔ a = b) : ∀ {a b : List α}, a.length = b.length → ((List.zip a b).findIdx? (fun q => ne q.1 q.2) = none ↔ a = b)
  | [], [], _ => by simp
  | [], _ :: _, h => by simp at h
  | _ :: _, [], h => by simp at h
  | x :: a, y :: b, h => by
    have ih := zip_none hne (a := a) (b := b) (by simpa using h)
    simp only [List.zip_cons_cons, List.findIdx?_cons, List.cons.injEq]
    cases hq : ne x y
    · have := (hne x y).1 hq
      simp only [Bool.false_eq_true, if_false, Option.map_eq_none_iff, ih, this, true_and]
    · have : x ≠ y := fun e => by rw [(hne x y).2 e] at hq; cases hq
      simp [this]
def s58 (a b : List Int) : Bool := decide (a = b)
def s59 (a b : List Wd) : Bool := decide (a = b)
def s6 (x : List Wd) (w : Wd) (many : Int) (t : List Run) (r : Int × Int × Unit) (v : ByteArray) : Option (Bool × Unit) := if x.length ≤ 4294967296 ∧ t.length ≤ 4294967296 then some (true, ()) else none
theorem fault_S (a b m : Int) (n : Int) : (bif decide (m < 0) then (some (.inr ((nz [a, b, s21 true 1], ()), ())) : Option ((Bool × Unit) ⊕ ((Int × Unit) × Unit))) else some (.inr ((nz [a, b, s21 (decide (m > n)) 1], ()), ()))) = some (.inr ((nz [a, b, s21 (s114 m 0 n) 1], ()), ())) := by
  unfold s114
  cases decide (m < 0) <;> rfl
theorem h6 (x : List Wd) (w : Wd) (many : Int) (t : List Run) (r : Int × Int × Unit) (v : ByteArray) (y : Bool × Unit) (hw : WFs A6 (x, w, many, t, r, v, ())) (h : s6 x w many t r v = some y) :
    ∃ k, f6 s20 s21 s24 s31 s38 s41 s45 s46 s47 s48 s49 s50 s51 s52 s53 s54 s55 s56 s57 s58 s59 k x w many t r v = some y := by
  unfold s6 at h
  split at h
  · rename_i hl
    cases h
    refine ⟨0, ?_⟩
    unfold f6
    have e46 : s46 x = some (x, ()) := by unfold s46; rw [if_pos hl.1]
    have e38 : s38 t = some (t, ()) := by unfold s38; rw [if_pos hl.2]
    simp only [e46, e38, Option.bind_some, s20, fault_S, s53, s47, s45, s54, s55, s56, s57, s24_true, s50, show s41 t = runsFault t from rfl, nzp, s48, s49, s51, s52, s31, nz]
    by_cases he : shiftsFault x = 0
    · obtain ⟨hS, hx5⟩ := shifts_of he
      have hd := dOf_rost hS
      simp only [he, if_true, Option.bind_some, bne_self_eq_false, cond_false, beq_self_eq_true, cond_true, hd]
      unfold s114
      by_cases hb : runsFault t = 0
      · by_cases w1 : winBad w = true <;> by_cases r1 : restBad r = true <;> by_cases k1 : key v = true <;> by_cases m1 : many < 0 <;> by_cases m2 : many > 500 <;> simp [s21, s58, s59, hb, w1, r1, k1, m1, m2]
      · have hb2 : (runsFault t == 0) = false := beq_eq_false_iff_ne.2 hb
        by_cases w1 : winBad w = true <;> by_cases r1 : restBad r = true <;> by_cases k1 : key v = true <;> by_cases m1 : many < 0 <;> by_cases m2 : many > 500 <;> simp [s21, s58, s59, hb, hb2, w1, r1, k1, m1, m2]
    · have he2 : (shiftsFault x == 0) = false := beq_eq_false_iff_ne.2 he
      simp only [he, if_false, Option.bind_some, bne_self_eq_false, cond_false, he2]
      by_cases hb : runsFault t = 0
      · by_cases r1 : restBad r = true <;> by_cases k1 : key v = true <;> by_cases m1 : many < 0 <;> simp [s21, s58, s59, hb, he2, r1, k1, m1]
      · have hb2 : (runsFault t == 0) = false := beq_eq_false_iff_ne.2 hb
        by_cases r1 : restBad r = true <;> by_cases k1 : key v = true <;> by_cases m1 : many < 0 <;> simp [s21, s58, s59, hb, hb2, he2, r1, k1, m1]
  · cases h
end Go.Vm
