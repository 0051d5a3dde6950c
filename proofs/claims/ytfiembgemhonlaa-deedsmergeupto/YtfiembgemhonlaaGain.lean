/- Charging: what is gained, and how long it takes. Plain law. Own work. -/
import Derived.Test.YtfiembgemhonlaaVmC
namespace Go.Vm.Gain
/-- a / b rounded up -/
def cd (a b : Int) : Int := (a + b - 1).tdiv b
theorem cd_lt {a b : Int} (ha : 0 ≤ a) (hb : 0 < b) : a ≤ cd a b * b ∧ cd a b * b < a + b ∧ 0 ≤ cd a b := by
  unfold cd
  rw [Int.tdiv_eq_ediv_of_nonneg (by omega)]
  have h1 := Int.mul_ediv_add_emod (a + b - 1) b
  have h2 := Int.emod_nonneg (a + b - 1) (show b ≠ 0 by omega)
  have h3 := Int.emod_lt_of_pos (a + b - 1) hb
  have h4 : 0 ≤ (a + b - 1) / b := Int.ediv_nonneg (by omega) (by omega)
  rw [Int.mul_comm] at h1
  generalize (a + b - 1) / b * b = z at *
  generalize (a + b - 1) % b = y at *
  refine ⟨by omega, by omega, h4⟩
theorem cd_le {a b : Int} (ha : 0 ≤ a) (hb : 0 < b) : cd a b ≤ a := by
  unfold cd
  rw [Int.tdiv_eq_ediv_of_nonneg (by omega)]
  have : (a + b - 1) / b < a + 1 := Int.ediv_lt_of_lt_mul hb (by
    have : (a + 1) * b = a * b + b := by rw [Int.add_mul, Int.one_mul]
    have h2 : a * 1 ≤ a * b := Int.mul_le_mul_of_nonneg_left (by omega) ha
    omega)
  omega
/-- the level after a time, never full -/
def X (L S f g t : Int) : Int := if L < S then L + (min t (cd (S - L) f)) * f + (t - min t (cd (S - L) f)) * g else L + t * g
/-- how long it takes -/
def need (L S f g T : Int) : Int :=
  if L < S ∧ L < T then
    (if L + min (cd (S - L) f) (cd (T - L) f) * f < T then min (cd (S - L) f) (cd (T - L) f) + cd (T - (L + min (cd (S - L) f) (cd (T - L) f) * f)) g else min (cd (S - L) f) (cd (T - L) f))
  else (if L < T then 0 + cd (T - L) g else 0)
/-- as the document reckons -/
def gainRef (F L S f g t full : Int) : Int :=
  let n := if L < S then min t (cd (S - L) f) else 0
  let have1 := L + n * f
  let have2 := if t - n > 0 then have1 + min (t - n) (cd (max 0 (F - have1)) g) * g else have1
  min full (have2.tdiv 3600000000)
theorem min_div {F Y full : Int} (hF : F = full * 3600000000) (hY : 0 ≤ Y) : min full (Y.tdiv 3600000000) = (min F Y).tdiv 3600000000 := by
  subst hF
  rw [Int.tdiv_eq_ediv_of_nonneg hY]
  have h1 := Int.mul_ediv_add_emod Y 3600000000
  have h2 := Int.emod_nonneg Y (show (3600000000 : Int) ≠ 0 by decide)
  have h3 := Int.emod_lt_of_pos Y (show (0 : Int) < 3600000000 by decide)
  by_cases h : full * 3600000000 ≤ Y
  · rw [Int.min_eq_left h]
    have : full ≤ Y / 3600000000 := by omega
    rw [Int.min_eq_left this, Int.mul_tdiv_cancel _ (by decide)]
  · rw [Int.min_eq_right (by omega : Y ≤ full * 3600000000), Int.tdiv_eq_ediv_of_nonneg hY]
    have : Y / 3600000000 ≤ full := by omega
    rw [Int.min_eq_right this]
theorem gainRef_eq {F L S f g t full : Int} (hF : F = full * 3600000000) (hL : 0 ≤ L) (hf : 0 < f) (hg : 0 < g) (ht : 0 ≤ t) : gainRef F L S f g t full = (min F (X L S f g t)).tdiv 3600000000 := by
  unfold gainRef X
  simp only
  have key : ∀ (l r : Int), 0 ≤ l → 0 ≤ r → min full ((if r > 0 then l + min r (cd (max 0 (F - l)) g) * g else l).tdiv 3600000000) = (min F (l + r * g)).tdiv 3600000000 := by
    intro l r hl hr
    obtain ⟨c1, c2, c3⟩ := cd_lt (a := max 0 (F - l)) (b := g) (by omega) hg
    have hrg : 0 ≤ r * g := Int.mul_nonneg hr (by omega)
    split
    · generalize cd (max 0 (F - l)) g = c at *
      by_cases hrc : r ≤ c
      · rw [Int.min_eq_left hrc, min_div hF (by omega)]
      · rw [Int.min_eq_right (by omega : c ≤ r)]
        have h1 : c * g ≤ r * g := Int.mul_le_mul_of_nonneg_right (by omega) (by omega)
        rw [min_div hF (by omega), Int.min_eq_left (by omega : F ≤ l + c * g), Int.min_eq_left (by omega : F ≤ l + r * g)]
    · have : r = 0 := by omega
      subst this
      rw [Int.zero_mul, Int.add_zero, min_div hF hl]
  by_cases h : L < S
  · simp only [h, if_true]
    obtain ⟨a1, a2, a3⟩ := cd_lt (a := S - L) (b := f) (by omega) hf
    have h1 : 0 ≤ min t (cd (S - L) f) * f := Int.mul_nonneg (by omega) (by omega)
    exact key _ _ (by omega) (by omega)
  · simp only [h, if_false, Int.zero_mul, Int.add_zero, Int.sub_zero]
    exact key _ _ hL ht
end Go.Vm.Gain
