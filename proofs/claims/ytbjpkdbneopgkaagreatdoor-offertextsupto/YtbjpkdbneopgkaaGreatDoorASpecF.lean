/- AskTexts: Read, in the program and in the reference. Own work. -/
import Derived.Test.YtbjpkdbneopgkaaGreatDoorASpecE
import Derived.Test.YtbjpkdbneopgkaaGreatDoorARead
set_option maxRecDepth 100000
set_option linter.unusedVariables false
set_option linter.unusedSimpArgs false
namespace Go.Vm
open Go.RowKit Go.Vm.Num
/-! ### words, numbers -/
theorem e71 {w : ByteArray} (h : w.size ≤ 281474976710656) : s71 w 15 = some (bif numOk 15 w.data.toList then (aVal w, true, ()) else (0, false, ())) := by
  unfold s71
  rw [if_pos ⟨h, by omega⟩]
theorem e51 {w : ByteArray} (h : w.size ≤ 281474976710656) : s51 w 15 = some (rVal 15 w, numOk 15 w.data.toList, ()) := by
  unfold s51
  rw [if_pos ⟨h, by omega⟩]
  unfold rVal numOk
  cases digs 15 w.data.toList <;> rfl
theorem rVal_ok {w : ByteArray} (h : numOk 15 w.data.toList = true) : rVal 15 w = aVal w := by
  unfold numOk at h
  rw [Bool.and_eq_true] at h
  unfold rVal
  rw [h.1]
  rfl
theorem split_small {w : ByteArray} {n : Nat} (h : w.size ≤ n) : ∀ x ∈ splitL w sp, x.size ≤ n := fun x hx => Nat.le_trans (splitB_size _ _ _ x hx) h
def s50 (w : ByteArray) : Option (List ByteArray × Bool × Unit) := if w.size < 4294967281 then some (splitL w sp, !(splitL w sp).any isE, ()) else none
theorem s87_empty (l : List ByteArray) : s87 l (ByteArray.mk #[]) = l.any isE := by
  unfold s87 hasS
  congr 1
  funext w
  exact isE_sEq w
theorem h50 (w : ByteArray) (y : List ByteArray × Bool × Unit) (hw : WFs A50 (w, ())) (h : s50 w = some y) : ∃ k, f50 s86 s87 k w = some y := ⟨0, by
  unfold s50 at h
  split at h
  rotate_left
  · cases h
  rename_i hr
  cases h
  unfold f50
  rw [show s86 w (ByteArray.mk #[32]) = some (splitL w sp, ()) from s116_one hr]
  simp only [Option.bind_some, s87_empty]⟩
/-! ### a line that is an ask -/
/-! ### the program -/
end Go.Vm
