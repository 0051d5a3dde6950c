/- AskTexts: asks, written. Own work. -/
import Derived.Test.YtbjpkdbneopgkaaGreatDoorASpecG
set_option maxRecDepth 100000
set_option linter.unusedVariables false
set_option linter.unusedSimpArgs false
namespace Go.Vm
open Go.RowKit Go.Vm.Num
theorem key_40 {s : ByteArray} (h : key s = true) : s.size ≤ 40 := by
  unfold key keyL at h
  simp only [Bool.and_eq_true, decide_eq_true_eq] at h
  have := size_list s
  omega
theorem bif_zero {b : Bool} {x y : Int} (h : (bif b then x else y) = 0) (hx : x ≠ 0) : b = false ∧ y = 0 := by
  cases b
  · exact ⟨rfl, h⟩
  · exact absurd h hx
theorem out_ok {a b c : Int} (h : s99 a b c = false) : b ≤ a ∧ a ≤ c := by
  unfold s99 at h
  simp only [Bool.or_eq_false_iff, decide_eq_false_iff_not] at h
  omega
/-! ### a line -/
theorem join1 (a : ByteArray) : joinL [a] sp = a := by
  apply bytes_of
  show (Lib.join ([a].map (·.data.toList)) sp.data.toList).toArray.toList = _
  rw [List.toList_toArray, List.map_cons, Lib.join_cons]
  unfold Lib.joinTail
  simp
theorem in_of {n : Int} (h0 : -9223372036854775808 ≤ n) (h1 : n ≤ 345686400000) : inI n = true := by
  unfold inI
  simp only [Bool.and_eq_true, decide_eq_true_eq]
  omega
/-! ### Text -/
end Go.Vm
