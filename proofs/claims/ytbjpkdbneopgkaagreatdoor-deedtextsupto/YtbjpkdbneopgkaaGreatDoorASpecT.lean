/- AskTexts: asks, written. Own work. -/
import Derived.Test.YtbjpkdbneopgkaaGreatDoorASpecG
set_option maxRecDepth 100000
set_option linter.unusedVariables false
set_option linter.unusedSimpArgs false
namespace Go.Vm
open Go.RowKit Go.Vm.Num
theorem key_40 {s : ByteArray} (h : key s = true) : s.size ≤ 40 := by
  unfold key keyL at h
  simp only [Bool.and_eq_true, decide_eq_true_eq] at h
  have := size_list s
  omega
theorem bif_zero {b : Bool} {x y : Int} (h : (bif b then x else y) = 0) (hx : x ≠ 0) : b = false ∧ y = 0 := by
  cases b
  · exact ⟨rfl, h⟩
  · exact absurd h hx
/-- what is known of a right ride -/
structure RideOK (r : Rr) : Prop where
  k0 : r.1.size ≤ 40
  k1 : r.2.1.size ≤ 40
  k2 : r.2.2.1.size ≤ 40
  k3 : r.2.2.2.1.size ≤ 40
  a0 : 0 ≤ r.2.2.2.2.1
  a1 : r.2.2.2.2.1 ≤ 345686400000
  b0 : -9223372036854775808 ≤ r.2.2.2.2.2.1
  b1 : r.2.2.2.2.2.1 ≤ 345686400000
  c0 : 0 ≤ r.2.2.2.2.2.2.1
  c1 : r.2.2.2.2.2.2.1 ≤ 60
  d0 : 0 ≤ r.2.2.2.2.2.2.2.1
  d1 : r.2.2.2.2.2.2.2.1 ≤ 60
theorem out_ok {a b c : Int} (h : s99 a b c = false) : b ≤ a ∧ a ≤ c := by
  unfold s99 at h
  simp only [Bool.or_eq_false_iff, decide_eq_false_iff_not] at h
  omega
theorem rideOK_of {r : Rr} (h : rideBad r = 0) : RideOK r := by
  unfold rideBad at h
  obtain ⟨h1, h⟩ := bif_zero h (by decide)
  obtain ⟨h2, h⟩ := bif_zero h (by decide)
  obtain ⟨h3, h⟩ := bif_zero h (by decide)
  obtain ⟨h4, h⟩ := bif_zero h (by decide)
  obtain ⟨h5, h⟩ := bif_zero h (by decide)
  obtain ⟨h6, h⟩ := bif_zero h (by decide)
  obtain ⟨h7, h⟩ := bif_zero h (by decide)
  obtain ⟨h8, h⟩ := bif_zero h (by decide)
  obtain ⟨h9, h⟩ := bif_zero h (by decide)
  simp only [Bool.not_eq_false'] at h1 h2 h3 h4 h6
  unfold s105 at h6
  simp only [Bool.not_eq_true'] at h6
  have q6 := out_ok h6
  have q7 := out_ok h7
  have q8 := out_ok h8
  have q9 := out_ok h9
  have hwr : IntKind.i64.wrap (r.2.2.2.2.1 + 1) = r.2.2.2.2.1 + 1 := wrap_ok (by omega) (by omega)
  rw [hwr] at q7
  exact ⟨key_40 h1, key_40 h2, key_40 h3, key_40 h4, by omega, by omega, by omega, by omega, q8.1, q8.2, q9.1, q9.2⟩
/-! ### a line -/
theorem in_of {n : Int} (h0 : -9223372036854775808 ≤ n) (h1 : n ≤ 345686400000) : inI n = true := by
  unfold inI
  simp only [Bool.and_eq_true, decide_eq_true_eq]
  omega
/-! ### Text -/
end Go.Vm
