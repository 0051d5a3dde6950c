/- What is gained, as the reference reckons it. Own work. -/
import Derived.Test.YtfiembgemhonlaaBSpecC
set_option linter.unusedVariables false
set_option linter.unusedSimpArgs false
namespace Go.Vm
open Go.RowKit Go.Vm.Gain
def powerOf (v : Veh) (p : Plc) : Int := if decide (p.2.2.1 < v.2.2.2.1) = true then p.2.2.1 else v.2.2.2.1
def slowOf (v : Veh) : Int := (v.2.1 * v.2.2.2.2.1).tdiv 1000 * 3600000000
/-- a right vehicle at a right place -/
structure Fit (v : Veh) (p : Plc) (lvl : Int) : Prop where
  f1 : 1 ≤ v.2.1
  f2 : v.2.1 ≤ 1000000
  s1 : 0 ≤ v.2.2.2.2.1
  s2 : v.2.2.2.2.1 ≤ 1000
  q1 : 1 ≤ powerOf v p
  q2 : powerOf v p ≤ 1000000
  l1 : 0 ≤ lvl
  l2 : lvl ≤ v.2.1
theorem Fit.prod {v : Veh} {p : Plc} {lvl : Int} (R : Fit v p lvl) : 0 ≤ v.2.1 * v.2.2.2.2.1 ∧ v.2.1 * v.2.2.2.2.1 ≤ v.2.1 * 1000 :=
  ⟨Int.mul_nonneg (by have := R.f1; omega) R.s1, Int.mul_le_mul_of_nonneg_left R.s2 (by have := R.f1; omega)⟩
theorem Fit.good {v : Veh} {p : Plc} {lvl : Int} (R : Fit v p lvl) : Good (lvl * 3600000000) (slowOf v) (v.2.1 * 3600000000) (powerOf v p) v.2.1 := by
  obtain ⟨h1, h2⟩ := R.prod
  obtain ⟨f1, f2, s1, s2, q1, q2, l1, l2⟩ := R
  have e : (v.2.1 * v.2.2.2.2.1).tdiv 1000 = v.2.1 * v.2.2.2.2.1 / 1000 := Int.tdiv_eq_ediv_of_nonneg h1
  refine ⟨by omega, by omega, ?_, ?_, rfl, by omega, f2, q1, q2⟩
  · unfold slowOf; rw [e]; omega
  · unfold slowOf; rw [e]; omega
theorem Fit.wraps {v : Veh} {p : Plc} {lvl : Int} (R : Fit v p lvl) :
    IntKind.i64.wrap (lvl * 3600000000) = lvl * 3600000000 ∧ IntKind.i64.wrap (IntKind.i64.wrap (Int.tdiv (IntKind.i64.wrap (v.2.1 * v.2.2.2.2.1)) 1000) * 3600000000) = slowOf v ∧
    IntKind.i64.wrap (v.2.1 * 3600000000) = v.2.1 * 3600000000 ∧ IntKind.i64.wrap (1000 * powerOf v p) = 1000 * powerOf v p ∧ IntKind.i64.wrap (500 * powerOf v p) = 500 * powerOf v p := by
  obtain ⟨h1, h2⟩ := R.prod
  have G := R.good
  have hS0 := G.S0
  have hSF := G.SF
  obtain ⟨f1, f2, s1, s2, q1, q2, l1, l2⟩ := R
  have e : (v.2.1 * v.2.2.2.2.1).tdiv 1000 = v.2.1 * v.2.2.2.2.1 / 1000 := Int.tdiv_eq_ediv_of_nonneg h1
  refine ⟨wrap_ok (by omega) (by omega), ?_, wrap_ok (by omega) (by omega), wrap_ok (by omega) (by omega), wrap_ok (by omega) (by omega)⟩
  rw [wrap_ok (n := v.2.1 * v.2.2.2.2.1) (by omega) (by omega), wrap_ok (n := Int.tdiv _ _) (by rw [e]; omega) (by rw [e]; omega)]
  show IntKind.i64.wrap (slowOf v) = slowOf v
  exact wrap_ok (by omega) (by omega)
def s22 (v : Veh) (p : Plc) (lvl t : Int) : Option (Int × Unit) := f22 s120 0 v p lvl t
/-- what is gained in a time -/
def gainAt (v : Veh) (p : Plc) (lvl t : Int) : Int := (min (v.2.1 * 3600000000) (X (lvl * 3600000000) (slowOf v) (1000 * powerOf v p) (500 * powerOf v p) t)).tdiv 3600000000
theorem gainOf_ok {v : Veh} {p : Plc} {lvl t : Int} (R : Fit v p lvl) (t0 : 0 ≤ t) (t1 : t ≤ 1152921504606846976) : s22 v p lvl t = some (gainAt v p lvl t, ()) := by
  have G := R.good
  obtain ⟨w1, w2, w3, w4, w5⟩ := R.wraps
  unfold gainAt
  rw [← gainRef_eq (F := v.2.1 * 3600000000) (full := v.2.1) rfl G.L0 (by have := G.q1; omega) (by have := G.q1; omega) t0]
  unfold gainRef s22 f22
  have hq : (if decide (p.2.2.1 < v.2.2.2.1) = true then p.2.2.1 else v.2.2.2.1) = powerOf v p := rfl
  simp only [hq, w1, w2, w3, w4, w5]
  obtain ⟨L0, LF, S0, SF, hF, full0, full1, q1, q2⟩ := G
  generalize lvl * 3600000000 = L at *
  generalize slowOf v = S at *
  generalize powerOf v p = q at *
  generalize v.2.1 = full at *
  generalize hFF : full * 3600000000 = F at *
  have hfirst : ∃ n, (bif decide (L < S) then Option.bind (s120 (IntKind.i64.wrap (S - L)) (1000 * q)) fun v1 => (some (.inr (((if (decide (v1.1 < t)) = true then v1.1 else t), ()), ())) : Option ((Int × Unit) ⊕ ((Int × Unit) × Unit))) else some (.inr (((0 : Int), ()), ()))) = some (.inr ((n, ()), ())) ∧
      (if L < S then min t (cd (S - L) (1000 * q)) else 0) = n ∧ 0 ≤ n ∧ n ≤ t ∧ 0 ≤ n * (1000 * q) ∧ n * (1000 * q) ≤ 3700000000000000 ∧ n ≤ 3700000000000000 := by
    by_cases h : L < S
    · have hd : IntKind.i64.wrap (S - L) = S - L := wrap_ok (by omega) (by omega)
      have hup : s120 (S - L) (1000 * q) = some (cd (S - L) (1000 * q), ()) := over_ok (by omega) (by omega) (by omega) (by omega)
      obtain ⟨a1, a2, a3⟩ := cd_lt (a := S - L) (b := 1000 * q) (by omega) (by omega)
      have a4 := cd_le (a := S - L) (b := 1000 * q) (by omega) (by omega)
      simp only [h, decide_true, cond_true, hd, hup, Option.bind_some, ite_min, if_true]
      generalize cd (S - L) (1000 * q) = a at *
      have hna : min t a ≤ a := by omega
      have b1 : min t a * (1000 * q) ≤ a * (1000 * q) := Int.mul_le_mul_of_nonneg_right hna (by omega)
      have b2 : 0 ≤ min t a * (1000 * q) := Int.mul_nonneg (by omega) (by omega)
      exact ⟨_, rfl, rfl, by omega, by omega, b2, by omega, by omega⟩
    · simp only [h, decide_false, cond_false, if_false]
      exact ⟨0, rfl, rfl, by omega, by omega, by omega, by omega, by omega⟩
  obtain ⟨n, e1, e2, n0, nt, z0, z1, n1⟩ := hfirst
  rw [e1, e2]
  simp only [Option.bind_some]
  have m1 : IntKind.i64.wrap (t - n) = t - n := wrap_ok (by omega) (by omega)
  have m2 : IntKind.i64.wrap (n * 1000) = n * 1000 := wrap_ok (by omega) (by omega)
  have m3 : n * 1000 * q = n * (1000 * q) := Int.mul_assoc _ _ _
  have m4 : IntKind.i64.wrap (n * (1000 * q)) = n * (1000 * q) := wrap_ok (by omega) (by omega)
  simp only [m1, m2, m3, m4]
  generalize n * (1000 * q) = z at *
  have m5 : IntKind.i64.wrap (L + z) = L + z := wrap_ok (by omega) (by omega)
  have m6 : IntKind.i64.wrap (F - (L + z)) = F - (L + z) := wrap_ok (by omega) (by omega)
  simp only [m5, m6, ite_max, ite_min]
  have hdiv : ∀ y : Int, 0 ≤ y → y ≤ 9000000000000000000 → IntKind.i64.wrap (Int.tdiv y 3600000000) = Int.tdiv y 3600000000 := fun y h1 h2 => by
    rw [Int.tdiv_eq_ediv_of_nonneg h1]; exact wrap_ok (by omega) (by omega)
  by_cases hr : t - n > 0
  · have hup : s120 (max 0 (F - (L + z))) (500 * q) = some (cd (max 0 (F - (L + z))) (500 * q), ()) := over_ok (by omega) (by omega) (by omega) (by omega)
    obtain ⟨a1, a2, a3⟩ := cd_lt (a := max 0 (F - (L + z))) (b := 500 * q) (by omega) (by omega)
    have a4 := cd_le (a := max 0 (F - (L + z))) (b := 500 * q) (by omega) (by omega)
    simp only [hr, decide_true, cond_true, hup, Option.bind_some, if_true]
    generalize cd (max 0 (F - (L + z))) (500 * q) = c at *
    have hna : min (t - n) c ≤ c := by omega
    have hn0 : 0 ≤ min (t - n) c := by omega
    generalize min (t - n) c = m at *
    have b1 : m * (500 * q) ≤ c * (500 * q) := Int.mul_le_mul_of_nonneg_right hna (by omega)
    have b2 : 0 ≤ m * (500 * q) := Int.mul_nonneg hn0 (by omega)
    have k2 : IntKind.i64.wrap (m * 500) = m * 500 := wrap_ok (by omega) (by omega)
    have k3 : m * 500 * q = m * (500 * q) := Int.mul_assoc _ _ _
    have k4 : IntKind.i64.wrap (m * (500 * q)) = m * (500 * q) := wrap_ok (by omega) (by omega)
    simp only [k2, k3, k4]
    generalize m * (500 * q) = y at *
    have k5 : IntKind.i64.wrap (L + z + y) = L + z + y := wrap_ok (by omega) (by omega)
    simp only [k5, hdiv (L + z + y) (by omega) (by omega)]
  · simp only [hr, decide_false, cond_false, Option.bind_some, if_false, hdiv (L + z) (by omega) (by omega)]
end Go.Vm
