/- Charging: what is gained, and how long it takes. Plain law. Own work. -/
import Derived.Test.YtfiembgemhonlaaVmC
namespace Go.Vm.Gain
/-- a / b rounded up -/
def cd (a b : Int) : Int := (a + b - 1).tdiv b
theorem cd_lt {a b : Int} (ha : 0 ≤ a) (hb : 0 < b) : a ≤ cd a b * b ∧ cd a b * b < a + b ∧ 0 ≤ cd a b := by
  unfold cd
  rw [Int.tdiv_eq_ediv_of_nonneg (by omega)]
  have h1 := Int.mul_ediv_add_emod (a + b - 1) b
  have h2 := Int.emod_nonneg (a + b - 1) (show b ≠ 0 by omega)
  have h3 := Int.emod_lt_of_pos (a + b - 1) hb
  have h4 : 0 ≤ (a + b - 1) / b := Int.ediv_nonneg (by omega) (by omega)
  rw [Int.mul_comm] at h1
  generalize (a + b - 1) / b * b = z at *
  generalize (a + b - 1) % b = y at *
  refine ⟨by omega, by omega, h4⟩
theorem cd_le {a b : Int} (ha : 0 ≤ a) (hb : 0 < b) : cd a b ≤ a := by
  unfold cd
  rw [Int.tdiv_eq_ediv_of_nonneg (by omega)]
  have : (a + b - 1) / b < a + 1 := Int.ediv_lt_of_lt_mul hb (by
    have : (a + 1) * b = a * b + b := by rw [Int.add_mul, Int.one_mul]
    have h2 : a * 1 ≤ a * b := Int.mul_le_mul_of_nonneg_left (by omega) ha
    omega)
  omega
theorem mul_lt' {n m b : Int} (hb : 0 < b) (h : n * b < m * b) : n < m := Int.lt_of_mul_lt_mul_right h (by omega)
/-- the level after a time, never full -/
def X (L S f g t : Int) : Int := if L < S then L + (min t (cd (S - L) f)) * f + (t - min t (cd (S - L) f)) * g else L + t * g
theorem X_mono {L S f g t u : Int} (hf : 0 < f) (hg : 0 < g) (hgf : g ≤ f) (h : t ≤ u) : X L S f g t ≤ X L S f g u := by
  unfold X
  split
  · rename_i hl
    generalize cd (S - L) f = a
    have e : ∀ x : Int, L + min x a * f + (x - min x a) * g = L + min x a * (f - g) + x * g := fun x => by
      rw [Int.sub_mul, Int.mul_sub]; omega
    rw [e, e]
    have h1 : min t a * (f - g) ≤ min u a * (f - g) := Int.mul_le_mul_of_nonneg_right (by omega) (by omega)
    have h2 : t * g ≤ u * g := Int.mul_le_mul_of_nonneg_right h (by omega)
    omega
  · have h2 : t * g ≤ u * g := Int.mul_le_mul_of_nonneg_right h (by omega)
    omega
/-- how long it takes -/
def need (L S f g T : Int) : Int :=
  if L < S ∧ L < T then
    (if L + min (cd (S - L) f) (cd (T - L) f) * f < T then min (cd (S - L) f) (cd (T - L) f) + cd (T - (L + min (cd (S - L) f) (cd (T - L) f) * f)) g else min (cd (S - L) f) (cd (T - L) f))
  else (if L < T then 0 + cd (T - L) g else 0)
theorem need_nonneg {L S f g T : Int} (hf : 0 < f) (hg : 0 < g) : 0 ≤ need L S f g T := by
  unfold need
  split
  · rename_i h
    have h1 := (cd_lt (a := S - L) (b := f) (by omega) hf).2.2
    have h2 := (cd_lt (a := T - L) (b := f) (by omega) hf).2.2
    split
    · have h3 := (cd_lt (a := T - (L + min (cd (S - L) f) (cd (T - L) f) * f)) (b := g) (by omega) hg).2.2
      omega
    · omega
  · split
    · have h3 := (cd_lt (a := T - L) (b := g) (by omega) hg).2.2
      omega
    · omega
theorem need_spec {L S f g T : Int} (hf : 0 < f) (hg : 0 < g) : T ≤ X L S f g (need L S f g T) ∧ (0 < need L S f g T → X L S f g (need L S f g T - 1) < T) := by
  unfold need X
  by_cases h : L < S
  · by_cases hT : L < T
    · simp only [h, hT, and_self, if_true]
      obtain ⟨a1, a2, a3⟩ := cd_lt (a := S - L) (b := f) (by omega) hf
      obtain ⟨b1, b2, b3⟩ := cd_lt (a := T - L) (b := f) (by omega) hf
      generalize cd (S - L) f = a at *
      generalize cd (T - L) f = b at *
      by_cases hab : b ≤ a
      · rw [Int.min_eq_right hab]
        have : ¬ (L + b * f < T) := by omega
        rw [if_neg this, Int.min_eq_left hab, Int.min_eq_left (by omega : b - 1 ≤ a)]
        simp only [Int.sub_self, Int.zero_mul, Int.add_zero, Int.sub_mul, Int.one_mul]
        omega
      · have hab' : a < b := by omega
        rw [Int.min_eq_left (by omega : a ≤ b)]
        have hlt : L + a * f < T := by
          have : a * f ≤ (b - 1) * f := Int.mul_le_mul_of_nonneg_right (by omega) (by omega)
          rw [Int.sub_mul, Int.one_mul] at this
          omega
        rw [if_pos hlt]
        obtain ⟨c1, c2, c3⟩ := cd_lt (a := T - (L + a * f)) (b := g) (by omega) hg
        have c4 : 0 < cd (T - (L + a * f)) g := by
          rcases Int.lt_or_le 0 (cd (T - (L + a * f)) g) with h | h
          · exact h
          · have : cd (T - (L + a * f)) g = 0 := by omega
            rw [this, Int.zero_mul] at c1; omega
        generalize cd (T - (L + a * f)) g = c at *
        rw [Int.min_eq_right (by omega : a ≤ a + c), Int.min_eq_right (by omega : a ≤ a + c - 1)]
        have e1 : a + c - a = c := by omega
        have e2 : a + c - 1 - a = c - 1 := by omega
        rw [e1, e2]
        simp only [Int.sub_mul, Int.one_mul]
        omega
    · simp only [h, hT, and_false, if_false, if_true]
      have a3 := (cd_lt (a := S - L) (b := f) (by omega) hf).2.2
      rw [Int.min_eq_left a3]
      simp only [Int.zero_mul, Int.sub_self]
      omega
  · simp only [h, false_and, if_false]
    split
    · obtain ⟨c1, c2, c3⟩ := cd_lt (a := T - L) (b := g) (by omega) hg
      simp only [Int.zero_add, Int.sub_mul, Int.one_mul]
      omega
    · simp only [Int.zero_mul]
      omega
theorem need_le {L S f g T t : Int} (hf : 0 < f) (hg : 0 < g) (hgf : g ≤ f) (ht : 0 ≤ t) (h : T ≤ X L S f g t) : need L S f g T ≤ t := by
  rcases Int.lt_or_le t (need L S f g T) with h1 | h1
  · have := X_mono (L := L) (S := S) hf hg hgf (show t ≤ need L S f g T - 1 by omega)
    have := (need_spec (L := L) (S := S) (T := T) hf hg).2 (by omega)
    omega
  · exact h1
/-- how much that is at most -/
theorem need_small {L S f g T : Int} (hf : 0 < f) (hg : 0 < g) (hL : 0 ≤ L) (hS : 0 ≤ S) (hT : 0 ≤ T) : need L S f g T ≤ S + T := by
  unfold need
  split
  · rename_i h
    have h1 := cd_le (a := S - L) (b := f) (by omega) hf
    have h2 := cd_le (a := T - L) (b := f) (by omega) hf
    have h4 := (cd_lt (a := S - L) (b := f) (by omega) hf).2.2
    have h5 := (cd_lt (a := T - L) (b := f) (by omega) hf).2.2
    split
    · have h3 := cd_le (a := T - (L + min (cd (S - L) f) (cd (T - L) f) * f)) (b := g) (by omega) hg
      have : 0 ≤ min (cd (S - L) f) (cd (T - L) f) * f := Int.mul_nonneg (by omega) (by omega)
      omega
    · omega
  · split
    · have h3 := cd_le (a := T - L) (b := g) (by omega) hg
      omega
    · omega
/-- as the document reckons -/
def gainRef (F L S f g t full : Int) : Int :=
  let n := if L < S then min t (cd (S - L) f) else 0
  let have1 := L + n * f
  let have2 := if t - n > 0 then have1 + min (t - n) (cd (max 0 (F - have1)) g) * g else have1
  min full (have2.tdiv 3600000000)
theorem min_div {F Y full : Int} (hF : F = full * 3600000000) (hY : 0 ≤ Y) : min full (Y.tdiv 3600000000) = (min F Y).tdiv 3600000000 := by
  subst hF
  rw [Int.tdiv_eq_ediv_of_nonneg hY]
  have h1 := Int.mul_ediv_add_emod Y 3600000000
  have h2 := Int.emod_nonneg Y (show (3600000000 : Int) ≠ 0 by decide)
  have h3 := Int.emod_lt_of_pos Y (show (0 : Int) < 3600000000 by decide)
  by_cases h : full * 3600000000 ≤ Y
  · rw [Int.min_eq_left h]
    have : full ≤ Y / 3600000000 := by omega
    rw [Int.min_eq_left this, Int.mul_tdiv_cancel _ (by decide)]
  · rw [Int.min_eq_right (by omega : Y ≤ full * 3600000000), Int.tdiv_eq_ediv_of_nonneg hY]
    have : Y / 3600000000 ≤ full := by omega
    rw [Int.min_eq_right this]
theorem gainRef_eq {F L S f g t full : Int} (hF : F = full * 3600000000) (hL : 0 ≤ L) (hf : 0 < f) (hg : 0 < g) (ht : 0 ≤ t) : gainRef F L S f g t full = (min F (X L S f g t)).tdiv 3600000000 := by
  unfold gainRef X
  simp only
  have key : ∀ (l r : Int), 0 ≤ l → 0 ≤ r → min full ((if r > 0 then l + min r (cd (max 0 (F - l)) g) * g else l).tdiv 3600000000) = (min F (l + r * g)).tdiv 3600000000 := by
    intro l r hl hr
    obtain ⟨c1, c2, c3⟩ := cd_lt (a := max 0 (F - l)) (b := g) (by omega) hg
    have hrg : 0 ≤ r * g := Int.mul_nonneg hr (by omega)
    split
    · generalize cd (max 0 (F - l)) g = c at *
      by_cases hrc : r ≤ c
      · rw [Int.min_eq_left hrc, min_div hF (by omega)]
      · rw [Int.min_eq_right (by omega : c ≤ r)]
        have h1 : c * g ≤ r * g := Int.mul_le_mul_of_nonneg_right (by omega) (by omega)
        rw [min_div hF (by omega), Int.min_eq_left (by omega : F ≤ l + c * g), Int.min_eq_left (by omega : F ≤ l + r * g)]
    · have : r = 0 := by omega
      subst this
      rw [Int.zero_mul, Int.add_zero, min_div hF hl]
  by_cases h : L < S
  · simp only [h, if_true]
    obtain ⟨a1, a2, a3⟩ := cd_lt (a := S - L) (b := f) (by omega) hf
    have h1 : 0 ≤ min t (cd (S - L) f) * f := Int.mul_nonneg (by omega) (by omega)
    exact key _ _ (by omega) (by omega)
  · simp only [h, if_false, Int.zero_mul, Int.add_zero, Int.sub_zero]
    exact key _ _ hL ht
theorem gain_ge {F L S f g t full T want : Int} (hF : F = full * 3600000000) (hT : T = want * 3600000000) (hTF : want ≤ full) (hX : 0 ≤ X L S f g t) (hfull : 0 ≤ full) :
    want ≤ (min F (X L S f g t)).tdiv 3600000000 ↔ T ≤ X L S f g t := by
  subst hF; subst hT
  generalize X L S f g t = Y at *
  rw [Int.tdiv_eq_ediv_of_nonneg (by omega)]
  constructor
  · intro h
    omega
  · intro h
    omega
end Go.Vm.Gain
