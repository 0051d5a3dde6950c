/- AskTexts: Read, in the program and in the reference. Own work. -/
import Derived.Test.YtbjpkdbneopgkaaGreatDoorASpecE
import Derived.Test.YtbjpkdbneopgkaaGreatDoorARead
set_option maxRecDepth 100000
set_option linter.unusedVariables false
set_option linter.unusedSimpArgs false
namespace Go.Vm
open Go.RowKit Go.Vm.Num
/-! ### words, numbers -/
theorem rVal_ok {w : ByteArray} (h : numOk 15 w.data.toList = true) : rVal 15 w = aVal w := by
  unfold numOk at h
  rw [Bool.and_eq_true] at h
  unfold rVal
  rw [h.1]
  rfl
theorem split_small {w : ByteArray} {n : Nat} (h : w.size ≤ n) : ∀ x ∈ splitL w sp, x.size ≤ n := fun x hx => Nat.le_trans (splitB_size _ _ _ x hx) h
theorem pieces_count (c : UInt8) : ∀ l : List UInt8, (pieces c l).length = l.count c + 1
  | [] => rfl
  | b :: l => by
    have ih := pieces_count c l
    unfold pieces
    rw [List.count_cons]
    by_cases h : b = c
    · rw [if_pos h, List.length_cons, ih]; simp [h]
    · rw [if_neg h]
      split
      · rename_i hp
        exact absurd hp (pieces_ne c l)
      · rename_i p ps hp
        rw [hp] at ih
        simp only [List.length_cons] at ih ⊢
        simp [h]
        omega
theorem count_words (s : ByteArray) : ((splitL s sp).length : Int) = (Lib.countByte s.data.toList 32 : Int) + 1 := by
  show ((splitL s ⟨#[32]⟩).length : Int) = _
  rw [splitL_one, piecesB, List.length_map, pieces_count]
  unfold Lib.countByte
  omega
theorem count_le (s : ByteArray) : Lib.countByte s.data.toList 32 ≤ s.size := by
  unfold Lib.countByte
  rw [← bytes_size]
  exact List.count_le_length
def s50 (w : ByteArray) : Option (List ByteArray × Bool × Unit) := if w.size < 4294967281 then some (splitL w sp, !(splitL w sp).any isE, ()) else none
theorem s87_empty (l : List ByteArray) : s87 l (ByteArray.mk #[]) = l.any isE := by
  unfold s87 hasS
  congr 1
  funext w
  exact isE_sEq w
theorem h50 (w : ByteArray) (y : List ByteArray × Bool × Unit) (hw : WFs A50 (w, ())) (h : s50 w = some y) : ∃ k, f50 s86 s87 k w = some y := ⟨0, by
  unfold s50 at h
  split at h
  rotate_left
  · cases h
  rename_i hr
  cases h
  unfold f50
  rw [show s86 w (ByteArray.mk #[32]) = some (splitL w sp, ()) from s116_one hr]
  simp only [Option.bind_some, s87_empty]⟩
/-! ### a line that is an ask -/
/-! ### the program -/
theorem e84 {a b c d : ByteArray} (h : ∀ x ∈ [a, b, c, d], x.size ≤ 200000) : s84 [a, b, c, d] 15 = some (bif [a, b, c, d].all (fun w => numOk 15 w.data.toList) then ([aVal a, aVal b, aVal c, aVal d], true, ()) else ([], false, ())) := by
  unfold s84
  rw [if_pos ⟨⟨by simp, fun x hx => by have := h x hx; omega⟩, by omega⟩]
  rfl
end Go.Vm
