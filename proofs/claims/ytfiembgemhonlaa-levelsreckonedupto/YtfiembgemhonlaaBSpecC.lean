/- Charging, as the program and the reference reckon it. Own work. -/
import Derived.Test.YtfiembgemhonlaaBSpecB
import Derived.Test.YtfiembgemhonlaaGain
set_option linter.unusedVariables false
set_option linter.unusedSimpArgs false
namespace Go.Vm
open Go.RowKit Go.Vm.Gain
theorem ite_min (a b : Int) : (if decide (a < b) = true then a else b) = min b a := by
  simp only [decide_eq_true_eq]
  split <;> omega
theorem ite_max (a : Int) : (if decide (a > 0) = true then a else 0) = max 0 a := by
  simp only [decide_eq_true_eq]
  split <;> omega
def s208 (a b : Int) : Option (Int × Unit) := f208 0 a b
def s120 (a b : Int) : Option (Int × Unit) := f120 0 a b
theorem h208 (a b : Int) (y : Int × Unit) (hw : WFs A208 (a, b, ())) (h : s208 a b = some y) : ∃ k, f208 k a b = some y := ⟨0, h⟩
theorem h120 (a b : Int) (y : Int × Unit) (hw : WFs A120 (a, b, ())) (h : s120 a b = some y) : ∃ k, f120 k a b = some y := ⟨0, h⟩
theorem up_ok {a b : Int} (ha : 0 ≤ a) (ha2 : a ≤ 4611686018427387903) (hb : 1 ≤ b) (hb2 : b ≤ 1000000000000) : s208 a b = some (cd a b, ()) := by
  unfold s208 f208
  have h0 : decide (b = 0) = false := by simp; omega
  have h3 := cd_lt ha (by omega : 0 < b)
  have h4 := cd_le ha (by omega : 0 < b)
  have h1 : IntKind.i64.wrap (a + b) = a + b := wrap_ok (by omega) (by omega)
  have h2 : IntKind.i64.wrap (a + b - 1) = a + b - 1 := wrap_ok (by omega) (by omega)
  simp only [h0, cond_false, h1, h2]
  have h5 : IntKind.i64.wrap (Int.tdiv (a + b - 1) b) = cd a b := by
    show IntKind.i64.wrap (cd a b) = cd a b
    exact wrap_ok (by omega) (by omega)
  rw [h5]
theorem over_ok {a b : Int} (ha : 0 ≤ a) (ha2 : a ≤ 4611686018427387903) (hb : 1 ≤ b) (hb2 : b ≤ 1000000000000) : s120 a b = some (cd a b, ()) := up_ok ha ha2 hb hb2
abbrev Bat := Int × Int × Int × Int × Unit
def s118 (b : Bat) (t : Int) : Option (Int × Unit) := f118 s208 0 b t
def s119 (b : Bat) (t : Int) : Option (Int × Unit) := f119 s208 0 b t
theorem h118 (b : Bat) (t : Int) (y : Int × Unit) (hw : WFs A118 (b, t, ())) (h : s118 b t = some y) : ∃ k, f118 s208 k b t = some y := ⟨0, h⟩
theorem h119 (b : Bat) (t : Int) (y : Int × Unit) (hw : WFs A119 (b, t, ())) (h : s119 b t = some y) : ∃ k, f119 s208 k b t = some y := ⟨0, h⟩
/-- what is right of a battery -/
structure Good (L S F q full : Int) : Prop where
  L0 : 0 ≤ L
  LF : L ≤ F
  S0 : 0 ≤ S
  SF : S ≤ F
  hF : F = full * 3600000000
  full0 : 0 ≤ full
  full1 : full ≤ 1000000
  q1 : 1 ≤ q
  q2 : q ≤ 1000000
theorem half (q : Int) (h : 0 ≤ q) : Int.tdiv (1000 * q) 2 = 500 * q := by
  rw [Int.tdiv_eq_ediv_of_nonneg (by omega)]; omega
theorem after_ok {L S F q full t : Int} (G : Good L S F q full) (t0 : 0 ≤ t) (t1 : t ≤ 2592000000) : s118 (L, S, F, 1000 * q, ()) t = some (min F (X L S (1000 * q) (500 * q) t), ()) := by
  obtain ⟨L0, LF, S0, SF, hF, full0, full1, q1, q2⟩ := G
  unfold s118 f118 X
  have hh : IntKind.i64.wrap (Int.tdiv (1000 * q) 2) = 500 * q := by rw [half q (by omega)]; exact wrap_ok (by omega) (by omega)
  by_cases h : L < S
  · have hd : IntKind.i64.wrap (S - L) = S - L := wrap_ok (by omega) (by omega)
    have hup : s208 (S - L) (1000 * q) = some (cd (S - L) (1000 * q), ()) := up_ok (by omega) (by omega) (by omega) (by omega)
    obtain ⟨a1, a2, a3⟩ := cd_lt (a := S - L) (b := 1000 * q) (by omega) (by omega)
    simp only [h, decide_true, cond_true, hd, hup, Option.bind_some, ite_min, hh, if_true]
    generalize cd (S - L) (1000 * q) = a at *
    have hna : min t a ≤ a := by omega
    have hn0 : 0 ≤ min t a := by omega
    have hnt : min t a ≤ t := by omega
    generalize min t a = n at *
    have b1 : n * (1000 * q) ≤ a * (1000 * q) := Int.mul_le_mul_of_nonneg_right hna (by omega)
    have b2 : 0 ≤ n * (1000 * q) := Int.mul_nonneg hn0 (by omega)
    have b3 : (t - n) * (500 * q) ≤ 2592000000 * 500000000 := Int.mul_le_mul (by omega) (by omega) (by omega) (by omega)
    have b4 : 0 ≤ (t - n) * (500 * q) := Int.mul_nonneg (by omega) (by omega)
    have e1 : IntKind.i64.wrap (t - n) = t - n := wrap_ok (by omega) (by omega)
    have e2 : IntKind.i64.wrap (n * (1000 * q)) = n * (1000 * q) := wrap_ok (by omega) (by omega)
    rw [e1, e2]
    generalize n * (1000 * q) = z at *
    have e3 : IntKind.i64.wrap (L + z) = L + z := wrap_ok (by omega) (by omega)
    have e4 : IntKind.i64.wrap ((t - n) * (500 * q)) = (t - n) * (500 * q) := wrap_ok (by omega) (by omega)
    rw [e3, e4]
    generalize (t - n) * (500 * q) = y at *
    have e5 : IntKind.i64.wrap (L + z + y) = L + z + y := wrap_ok (by omega) (by omega)
    rw [e5]
  · simp only [h, decide_false, cond_false, Option.bind_some, ite_min, hh, if_false]
    have b3 : t * (500 * q) ≤ 2592000000 * 500000000 := Int.mul_le_mul (by omega) (by omega) (by omega) (by omega)
    have b4 : 0 ≤ t * (500 * q) := Int.mul_nonneg (by omega) (by omega)
    have e4 : IntKind.i64.wrap (t * (500 * q)) = t * (500 * q) := wrap_ok (by omega) (by omega)
    rw [e4]
    generalize t * (500 * q) = y at *
    have e5 : IntKind.i64.wrap (L + y) = L + y := wrap_ok (by omega) (by omega)
    rw [e5]
theorem needs_ok {L S F q full T : Int} (G : Good L S F q full) (t0 : 0 ≤ T) (t1 : T ≤ F) : s119 (L, S, F, 1000 * q, ()) T = some (need L S (1000 * q) (500 * q) T, ()) := by
  have hnn := need_small (L := L) (S := S) (T := T) (f := 1000 * q) (g := 500 * q) (by have := G.q1; omega) (by have := G.q1; omega) G.L0 G.S0 t0
  have hn0 := need_nonneg (L := L) (S := S) (T := T) (f := 1000 * q) (g := 500 * q) (by have := G.q1; omega) (by have := G.q1; omega)
  obtain ⟨L0, LF, S0, SF, hF, full0, full1, q1, q2⟩ := G
  unfold need at hnn hn0
  unfold s119 f119 need
  have hh : IntKind.i64.wrap (Int.tdiv (1000 * q) 2) = 500 * q := by rw [half q (by omega)]; exact wrap_ok (by omega) (by omega)
  by_cases h : L < S
  · by_cases hT : L < T
    · have hd : IntKind.i64.wrap (S - L) = S - L := wrap_ok (by omega) (by omega)
      have hd2 : IntKind.i64.wrap (T - L) = T - L := wrap_ok (by omega) (by omega)
      have hup : s208 (S - L) (1000 * q) = some (cd (S - L) (1000 * q), ()) := up_ok (by omega) (by omega) (by omega) (by omega)
      have hup2 : s208 (T - L) (1000 * q) = some (cd (T - L) (1000 * q), ()) := up_ok (by omega) (by omega) (by omega) (by omega)
      obtain ⟨a1, a2, a3⟩ := cd_lt (a := S - L) (b := 1000 * q) (by omega) (by omega)
      obtain ⟨c1, c2, c3⟩ := cd_lt (a := T - L) (b := 1000 * q) (by omega) (by omega)
      simp only [h, hT, and_self, if_true] at hnn hn0
      simp only [h, hT, decide_true, cond_true, hd, hd2, hup, hup2, Option.bind_some, ite_min, hh, if_true, and_self]
      generalize cd (S - L) (1000 * q) = a at *
      generalize cd (T - L) (1000 * q) = c at *
      have hna : min a c ≤ a := by omega
      have hn1 : 0 ≤ min a c := by omega
      generalize min a c = n at *
      have b1 : n * (1000 * q) ≤ a * (1000 * q) := Int.mul_le_mul_of_nonneg_right hna (by omega)
      have b2 : 0 ≤ n * (1000 * q) := Int.mul_nonneg hn1 (by omega)
      have e2 : IntKind.i64.wrap (n * (1000 * q)) = n * (1000 * q) := wrap_ok (by omega) (by omega)
      rw [e2]
      generalize n * (1000 * q) = z at *
      have e3 : IntKind.i64.wrap (L + z) = L + z := wrap_ok (by omega) (by omega)
      rw [e3]
      by_cases hz : L + z < T
      · have e6 : IntKind.i64.wrap (T - (L + z)) = T - (L + z) := wrap_ok (by omega) (by omega)
        have hup3 : s208 (T - (L + z)) (500 * q) = some (cd (T - (L + z)) (500 * q), ()) := up_ok (by omega) (by omega) (by omega) (by omega)
        simp only [hz, if_true] at hnn hn0
        simp only [hz, decide_true, cond_true, e6, hup3, Option.bind_some, if_true]
        rw [wrap_ok (by omega) (by omega)]
      · simp only [hz, decide_false, cond_false, if_false]
    · simp only [h, hT, decide_true, decide_false, cond_true, cond_false, Option.bind_some, and_false, if_false, if_true]
  · simp only [h, decide_false, cond_false, Option.bind_some, false_and, if_false]
    simp only [h, false_and, if_false] at hnn hn0
    by_cases hT : L < T
    · have hd2 : IntKind.i64.wrap (T - L) = T - L := wrap_ok (by omega) (by omega)
      have hup2 : s208 (T - L) (500 * q) = some (cd (T - L) (500 * q), ()) := up_ok (by omega) (by omega) (by omega) (by omega)
      simp only [hT, if_true] at hnn hn0
      simp only [hT, decide_true, cond_true, hd2, hh, hup2, Option.bind_some, if_true]
      rw [wrap_ok (by omega) (by omega)]
    · simp only [hT, decide_false, cond_false, if_false]
end Go.Vm
