/- SeriesRide: the names of a series' rides. Plain law. Own work. -/
import Derived.Test.YtjkidhjkpkcnhaaGreatDoorWSpecG
import Derived.Test.YtjkidhjkpkcnhaaGreatDoorWPad
set_option maxRecDepth 100000
set_option linter.unusedVariables false
set_option linter.unusedSimpArgs false
namespace Go.Vm
open Go.RowKit Go.Lib
theorem repeat_one (b : UInt8) : ∀ n, repeatL [b] n = List.replicate n b
  | 0 => rfl
  | n + 1 => by rw [repeatL, repeat_one b n, List.replicate_succ]; rfl
theorem numeral_list (n : Nat) : (numeral (n : Int)).data.toList = decDigits n := by
  show (itoa (n : Int)).toArray.toList = _
  rw [List.toList_toArray]
  unfold itoa
  rw [if_neg (by omega), Int.toNat_natCast]
theorem numeral_len (n : Nat) : (numeral (n : Int)).size = (decDigits n).length := by
  rw [← numeral_list]
  exact Array.length_toList.symm
theorem id_eq (x : Sr2) (n : Nat) (h : n ≤ 4000) : (numeral (n : Int)).size ≤ 4 ∧ ((x.1 ++ (ByteArray.mk #[45])) ++ copies (ByteArray.mk #[48]) (4 - (numeral (n : Int)).size)) ++ numeral (n : Int) = idOf x (n : Int) := by
  obtain ⟨h4, hp⟩ := pad_eq n (by omega)
  rw [numeral_len]
  refine ⟨h4, ?_⟩
  unfold idOf
  have hw : IntKind.i64.wrap ((10000 : Int) + (n : Int)) = ((10000 + n : Nat) : Int) := by rw [wrap_ok (by omega) (by omega)]; omega
  rw [hw]
  apply bytes_ext
  rw [ByteArray.toList_eq, ByteArray.toList_eq]
  have he : (ByteArray.extract (numeral ((10000 + n : Nat) : Int)) 1 (numeral ((10000 + n : Nat) : Int)).size).data.toList = (decDigits (10000 + n)).drop 1 := by
    rw [ByteArray.data_extract, Array.toList_extract, List.extract_eq_take_drop, numeral_list, numeral_len, List.take_of_length_le]
    rw [List.length_drop]
    exact Nat.le_refl _
  have hc : (copies (ByteArray.mk #[48]) (4 - (decDigits n).length)).data.toList = List.replicate (4 - (decDigits n).length) 48 := by
    show (repeatL [48] _).toArray.toList = _
    rw [List.toList_toArray, repeat_one]
  simp only [ByteArray.data_append, Array.toList_append, hc, he, numeral_list]
  rw [← hp, List.append_assoc, List.append_assoc]
end Go.Vm
