/- BatteriesGain, the law. Own work. -/
import Derived.Test.YtfiembgemhonlaaBSpecE
set_option linter.unusedVariables false
set_option linter.unusedSimpArgs false
namespace Go.Vm
open Go.RowKit Go.Vm.Gain
def s3 (vs : List Veh) (ps : List Plc) (v : Veh) (p : Plc) (level want long : Int) : Option (Bool × Unit) := if vs.length ≤ 4294967296 ∧ ps.length ≤ 4294967296 then some (true, ()) else none
theorem fault_one (a b x m : Int) : (bif decide (x < 0) then (some (.inr ((nz [a, b, s21 true 1], ()), ())) : Option ((Bool × Unit) ⊕ ((Int × Unit) × Unit))) else some (.inr ((nz [a, b, s21 (decide (x > m)) 1], ()), ()))) = some (.inr ((nz [a, b, s21 (s114 x 0 m) 1], ()), ())) := by
  unfold s114
  cases decide (x < 0) <;> rfl
theorem fault_two (F x y m : Int) : (bif decide (x < 0) then
              bif decide (y < 0) then
                (some (.inr ((nz [F, s21 true 1], nz [F, s21 true 1], ()), ())) : Option ((Bool × Unit) ⊕ ((Int × Int × Unit) × Unit)))
              else
                some (.inr ((nz [F, s21 true 1], nz [F, s21 (decide (y > m)) 1], ()), ()))
            else
              bif decide (y < 0) then
                some (.inr ((nz [F, s21 (decide (x > 2592000000)) 1], nz [F, s21 true 1], ()), ()))
              else
                some (.inr ((nz [F, s21 (decide (x > 2592000000)) 1], nz [F, s21 (decide (y > m)) 1], ()), ()))) = some (.inr ((nz [F, s21 (s114 x 0 2592000000) 1], nz [F, s21 (s114 y 0 m) 1], ()), ())) := by
  unfold s114
  cases decide (x < 0) <;> cases decide (y < 0) <;> rfl
theorem nz3 (a b c : Int) : nz [a, b, c] = nz [nz [a, b], c] := by
  simp only [nz]
  by_cases ha : a = 0
  · by_cases hb : b = 0 <;> simp [ha, hb]
  · simp [ha]
theorem nz_pair (a : Int) (b : Bool) : nz [a, s21 b 1] = if a = 0 then s21 b 1 else a := by
  cases b <;> simp [nz, s21]
theorem h3 (vs : List Veh) (ps : List Plc) (v : Veh) (p : Plc) (level want long : Int) (y : Bool × Unit) (hw : WFs A3 (vs, ps, v, p, level, want, long, ())) (h : s3 vs ps v p level want long = some y) :
    ∃ k, f3 s12 s13 s14 s15 s16 s17 s18 s19 s20 s21 s22 s23 s24 k vs ps v p level want long = some y := by
  unfold s3 at h
  split at h
  · rename_i hl
    cases h
    refine ⟨0, ?_⟩
    unfold f3
    have e1 : s13 vs = some (vs, ()) := by unfold s13; rw [if_pos hl.1]
    have e2 : s16 ps = some (ps, ()) := by unfold s16; rw [if_pos hl.2]
    have e3 : (s12 vs != s14 vs) = false := by simp [s12, s14]
    have e4 : (s15 ps != s17 ps) = false := by simp [s15, s17]
    simp only [e1, e2, Option.bind_some, e3, e4, cond_false, s20, fault_one, fault_two, s24_true]
    have e5 : nz [s14 [v], s17 [p], s21 (s114 level 0 v.2.1) 1] = nz [s116 v p, s21 (s114 level 0 v.2.1) 1] := nz3 _ _ _
    simp only [e5, nz_pair]
    unfold s18 s19
    by_cases hE : s116 v p = 0
    · simp only [hE, if_true, ne_eq, not_true_eq_false, if_false]
      cases hlv : s114 level 0 v.2.1
      · have R := fit_of hE hlv
        simp only [s21, Bool.false_eq_true, if_false, if_true, cond_false]
        cases hlo : s114 long 0 2592000000
        · obtain ⟨g1, g2⟩ := out_false hlo
          simp only [Bool.false_eq_true, if_false, beq_self_eq_true, cond_true, gainOf_ok R g1 (by omega), Option.bind_some, cond_false]
          cases hwa : s114 want 0 v.2.1
          · obtain ⟨w1, w2⟩ := out_false hwa
            have e23 : s23 v p level want = some (needAt v p level want, ()) := by unfold s23; rw [if_pos ⟨R, w1, w2⟩]
            simp [e23]
          · simp
        · simp only [if_true, cond_true]
          cases hwa : s114 want 0 v.2.1
          · obtain ⟨w1, w2⟩ := out_false hwa
            have e23 : s23 v p level want = some (needAt v p level want, ()) := by unfold s23; rw [if_pos ⟨R, w1, w2⟩]
            simp [e23]
          · simp
      · simp [s21]
    · have hE2 : (s116 v p == 0) = false := by simpa using hE
      simp [hE, hE2]
  · cases h
end Go.Vm
