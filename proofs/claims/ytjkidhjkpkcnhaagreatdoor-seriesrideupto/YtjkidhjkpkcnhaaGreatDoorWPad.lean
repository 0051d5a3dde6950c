/- SeriesRide: numbers of four digits. Plain law. Own work. -/
import Derived.Lib.ItoaNum
import Derived.Lib.Repeat
set_option linter.unusedVariables false
set_option linter.unusedSimpArgs false
namespace Go.Vm
open Go.Lib
def cdig (x : Nat) : UInt8 := UInt8.ofNat (48 + x)
theorem dd_small {u : Nat} (h : u < 10) : decDigits u = [cdig u] := by rw [decDigits, dif_pos h]; rfl
theorem dd_big {u : Nat} (h : ¬ u < 10) : decDigits u = decDigits (u / 10) ++ [cdig (u % 10)] := by rw [decDigits, dif_neg h]; rfl
theorem dd_five (d : Nat) (h : d < 10000) : decDigits (10000 + d) = [cdig 1, cdig (d / 1000), cdig (d / 100 % 10), cdig (d / 10 % 10), cdig (d % 10)] := by
  rw [dd_big (by omega), show (10000 + d) / 10 = 1000 + d / 10 from by omega, show (10000 + d) % 10 = d % 10 from by omega]
  rw [dd_big (by omega), show (1000 + d / 10) / 10 = 100 + d / 100 from by omega, show (1000 + d / 10) % 10 = d / 10 % 10 from by omega]
  rw [dd_big (by omega), show (100 + d / 100) / 10 = 10 + d / 1000 from by omega, show (100 + d / 100) % 10 = d / 100 % 10 from by omega]
  rw [dd_big (by omega), show (10 + d / 1000) / 10 = 1 from by omega, show (10 + d / 1000) % 10 = d / 1000 from by omega]
  rw [dd_small (by omega)]
  rfl
/-- the same number, with zeros ahead -/
theorem pad_eq (d : Nat) (h : d < 10000) : (decDigits d).length ≤ 4 ∧ List.replicate (4 - (decDigits d).length) (48 : UInt8) ++ decDigits d = (decDigits (10000 + d)).drop 1 := by
  rw [dd_five d h]
  have c0 : (48 : UInt8) = cdig 0 := rfl
  rw [c0]
  by_cases h1 : d < 10
  · rw [dd_small h1, show d / 1000 = 0 from by omega, show d / 100 % 10 = 0 from by omega, show d / 10 % 10 = 0 from by omega, show d % 10 = d from by omega]
    exact ⟨by simp, rfl⟩
  · by_cases h2 : d < 100
    · rw [dd_big h1, dd_small (u := d / 10) (by omega), show d / 1000 = 0 from by omega, show d / 100 % 10 = 0 from by omega, show d / 10 % 10 = d / 10 from by omega]
      exact ⟨by simp, rfl⟩
    · by_cases h3 : d < 1000
      · rw [dd_big h1, dd_big (u := d / 10) (by omega), dd_small (u := d / 10 / 10) (by omega), show d / 10 / 10 = d / 100 from by omega, show d / 1000 = 0 from by omega, show d / 100 % 10 = d / 100 from by omega]
        exact ⟨by simp, rfl⟩
      · rw [dd_big h1, dd_big (u := d / 10) (by omega), dd_big (u := d / 10 / 10) (by omega), dd_small (u := d / 10 / 10 / 10) (by omega), show d / 10 / 10 / 10 = d / 1000 from by omega, show d / 10 / 10 % 10 = d / 100 % 10 from by omega]
        exact ⟨by simp, rfl⟩
end Go.Vm
