/- Charging, as the program and the reference reckon it. Own work. -/
import Derived.Test.YtfiembgemhonlaaBSpecB
import Derived.Test.YtfiembgemhonlaaGain
set_option linter.unusedVariables false
set_option linter.unusedSimpArgs false
namespace Go.Vm
open Go.RowKit Go.Vm.Gain
theorem ite_min (a b : Int) : (if decide (a < b) = true then a else b) = min b a := by
  simp only [decide_eq_true_eq]
  split <;> omega
theorem ite_max (a : Int) : (if decide (a > 0) = true then a else 0) = max 0 a := by
  simp only [decide_eq_true_eq]
  split <;> omega
def s208 (a b : Int) : Option (Int × Unit) := f208 0 a b
def s120 (a b : Int) : Option (Int × Unit) := f120 0 a b
theorem up_ok {a b : Int} (ha : 0 ≤ a) (ha2 : a ≤ 4611686018427387903) (hb : 1 ≤ b) (hb2 : b ≤ 1000000000000) : s208 a b = some (cd a b, ()) := by
  unfold s208 f208
  have h0 : decide (b = 0) = false := by simp; omega
  have h3 := cd_lt ha (by omega : 0 < b)
  have h4 := cd_le ha (by omega : 0 < b)
  have h1 : IntKind.i64.wrap (a + b) = a + b := wrap_ok (by omega) (by omega)
  have h2 : IntKind.i64.wrap (a + b - 1) = a + b - 1 := wrap_ok (by omega) (by omega)
  simp only [h0, cond_false, h1, h2]
  have h5 : IntKind.i64.wrap (Int.tdiv (a + b - 1) b) = cd a b := by
    show IntKind.i64.wrap (cd a b) = cd a b
    exact wrap_ok (by omega) (by omega)
  rw [h5]
theorem over_ok {a b : Int} (ha : 0 ≤ a) (ha2 : a ≤ 4611686018427387903) (hb : 1 ≤ b) (hb2 : b ≤ 1000000000000) : s120 a b = some (cd a b, ()) := up_ok ha ha2 hb hb2
/-- what is right of a battery -/
structure Good (L S F q full : Int) : Prop where
  L0 : 0 ≤ L
  LF : L ≤ F
  S0 : 0 ≤ S
  SF : S ≤ F
  hF : F = full * 3600000000
  full0 : 0 ≤ full
  full1 : full ≤ 1000000
  q1 : 1 ≤ q
  q2 : q ≤ 1000000
end Go.Vm
