/- AskTexts: Read, in the program and in the reference. Own work. -/
import Derived.Test.YtbjpkdbneopgkaaGreatDoorASpecE
import Derived.Test.YtbjpkdbneopgkaaGreatDoorARead
set_option maxRecDepth 100000
set_option linter.unusedVariables false
set_option linter.unusedSimpArgs false
namespace Go.Vm
open Go.RowKit Go.Vm.Num
/-! ### words, numbers -/
theorem e71 {w : ByteArray} (h : w.size ≤ 281474976710656) : s71 w 15 = some (bif numOk 15 w.data.toList then (aVal w, true, ()) else (0, false, ())) := by
  unfold s71
  rw [if_pos ⟨h, by omega⟩]
theorem e51 {w : ByteArray} (h : w.size ≤ 281474976710656) : s51 w 15 = some (rVal 15 w, numOk 15 w.data.toList, ()) := by
  unfold s51
  rw [if_pos ⟨h, by omega⟩]
  unfold rVal numOk
  cases digs 15 w.data.toList <;> rfl
theorem rVal_ok {w : ByteArray} (h : numOk 15 w.data.toList = true) : rVal 15 w = aVal w := by
  unfold numOk at h
  rw [Bool.and_eq_true] at h
  unfold rVal
  rw [h.1]
  rfl
theorem split_small {w : ByteArray} {n : Nat} (h : w.size ≤ n) : ∀ x ∈ splitL w sp, x.size ≤ n := fun x hx => Nat.le_trans (splitB_size _ _ _ x hx) h
theorem pieces_count (c : UInt8) : ∀ l : List UInt8, (pieces c l).length = l.count c + 1
  | [] => rfl
  | b :: l => by
    have ih := pieces_count c l
    unfold pieces
    rw [List.count_cons]
    by_cases h : b = c
    · rw [if_pos h, List.length_cons, ih]; simp [h]
    · rw [if_neg h]
      split
      · rename_i hp
        exact absurd hp (pieces_ne c l)
      · rename_i p ps hp
        rw [hp] at ih
        simp only [List.length_cons] at ih ⊢
        simp [h]
        omega
theorem count_words (s : ByteArray) : ((splitL s sp).length : Int) = (Lib.countByte s.data.toList 32 : Int) + 1 := by
  show ((splitL s ⟨#[32]⟩).length : Int) = _
  rw [splitL_one, piecesB, List.length_map, pieces_count]
  unfold Lib.countByte
  omega
theorem count_le (s : ByteArray) : Lib.countByte s.data.toList 32 ≤ s.size := by
  unfold Lib.countByte
  rw [← bytes_size]
  exact List.count_le_length
def s50 (w : ByteArray) : Option (List ByteArray × Bool × Unit) := if w.size < 4294967281 then some (splitL w sp, !(splitL w sp).any isE, ()) else none
theorem s87_empty (l : List ByteArray) : s87 l (ByteArray.mk #[]) = l.any isE := by
  unfold s87 hasS
  congr 1
  funext w
  exact isE_sEq w
theorem h50 (w : ByteArray) (y : List ByteArray × Bool × Unit) (hw : WFs A50 (w, ())) (h : s50 w = some y) : ∃ k, f50 s86 s87 k w = some y := ⟨0, by
  unfold s50 at h
  split at h
  rotate_left
  · cases h
  rename_i hr
  cases h
  unfold f50
  rw [show s86 w (ByteArray.mk #[32]) = some (splitL w sp, ()) from s116_one hr]
  simp only [Option.bind_some, s87_empty]⟩
/-! ### a line that is an ask -/
def kindOf (w : ByteArray) : Option Nat := askWs.findIdx? (fun y => sEq w y)
theorem s52_kind (w : ByteArray) : s52 s40 w = match kindOf w with | some i => (i : Int) | none => -1 := rfl
theorem kind_lt {w : ByteArray} {i : Nat} (h : kindOf w = some i) : i < 4 := by
  unfold kindOf at h
  have := (List.findIdx?_eq_some_iff_getElem.1 h).1
  exact this
theorem s52_ref {w : ByteArray} (h : isE w = false) : s52 s37 w = match kindOf w with | some i => (i : Int) + 1 | none => -1 := by
  unfold s52 s37
  rw [List.findIdx?_cons, sEq_empty, show w.data.toList.isEmpty = isE w from rfl, h]
  simp only [Bool.false_eq_true, if_false]
  rw [show List.findIdx? (fun y => sEq w y) askWs = kindOf w from rfl]
  cases kindOf w with
  | none => rfl
  | some i => simp
def askLine (s : ByteArray) : Option Ask :=
  bif (splitL s sp).any isE then none else match splitL s sp with
  | [t, k, id, r] => match kindOf k with
    | some i => bif decide (2 ≤ i) && numOk 15 t.data.toList then some (aVal t, (i : Int) + 1, (id, r, ByteArray.empty, ByteArray.empty, 0, 0, 0, 0, ()), ()) else none
    | none => none
  | [t, k, id, r, f, o, a, b, c, d] => match kindOf k with
    | some i => bif decide (i < 2) && (numOk 15 t.data.toList && [a, b, c, d].all (fun w => numOk 15 w.data.toList)) then some (aVal t, (i : Int) + 1, (id, r, f, o, aVal a, aVal b, aVal c, aVal d, ()), ()) else none
    | none => none
  | _ => none
theorem len_cases (ws : List ByteArray) : (∃ t k i r, ws = [t, k, i, r]) ∨ (∃ t k i r f o a b c d, ws = [t, k, i, r, f, o, a, b, c, d]) ∨ (((ws.length : Int) == 4) = false ∧ ((ws.length : Int) == 10) = false) := by
  by_cases h4 : ws.length = 4
  · match ws, h4 with
    | [t, k, i, r], _ => exact .inl ⟨t, k, i, r, rfl⟩
  by_cases h10 : ws.length = 10
  · match ws, h10 with
    | [t, k, i, r, f, o, a, b, c, d], _ => exact .inr (.inl ⟨t, k, i, r, f, o, a, b, c, d, rfl⟩)
  · refine .inr (.inr ⟨?_, ?_⟩) <;> rw [beq_eq_false_iff_ne] <;> omega
theorem ask_none {s : ByteArray} (h4 : (((splitL s sp).length : Int) == 4) = false) (h10 : (((splitL s sp).length : Int) == 10) = false) : askLine s = none := by
  unfold askLine
  cases (splitL s sp).any isE
  rotate_left
  · rfl
  simp only [cond_false]
  split
  · rename_i he; rw [he] at h4; cases h4
  · rename_i he; rw [he] at h10; cases h10
  · rfl
theorem ask_four {s t k id r : ByteArray} (h : splitL s sp = [t, k, id, r]) (hE : (splitL s sp).any isE = false) : askLine s = match kindOf k with
    | some i => bif decide (2 ≤ i) && numOk 15 t.data.toList then some (aVal t, (i : Int) + 1, (id, r, ByteArray.empty, ByteArray.empty, 0, 0, 0, 0, ()), ()) else none
    | none => none := by
  unfold askLine
  rw [hE]
  simp only [cond_false, h]
theorem ask_ten {s t k id r f o a b c d : ByteArray} (h : splitL s sp = [t, k, id, r, f, o, a, b, c, d]) (hE : (splitL s sp).any isE = false) : askLine s = match kindOf k with
    | some i => bif decide (i < 2) && (numOk 15 t.data.toList && [a, b, c, d].all (fun w => numOk 15 w.data.toList)) then some (aVal t, (i : Int) + 1, (id, r, f, o, aVal a, aVal b, aVal c, aVal d, ()), ()) else none
    | none => none := by
  unfold askLine
  rw [hE]
  simp only [cond_false, h]
theorem ask_empty {s : ByteArray} (hE : (splitL s sp).any isE = true) : askLine s = none := by
  unfold askLine
  rw [hE]
  rfl
/-! ### the program -/
def s47 (s : ByteArray) : Option AT7 := if s.size ≤ 200000 then some (match askLine s with | some a => (a, true, ()) | none => zAT7) else none
theorem e84 {a b c d : ByteArray} (h : ∀ x ∈ [a, b, c, d], x.size ≤ 200000) : s84 [a, b, c, d] 15 = some (bif [a, b, c, d].all (fun w => numOk 15 w.data.toList) then ([aVal a, aVal b, aVal c, aVal d], true, ()) else ([], false, ())) := by
  unfold s84
  rw [if_pos ⟨⟨by simp, fun x hx => by have := h x hx; omega⟩, by omega⟩]
  rfl
theorem kinds_n (i : Nat) (h : i < 4) : IntKind.i64.wrap (1 + (i : Int)) = (i : Int) + 1 := by rw [wrap_ok (by omega) (by omega)]; omega
theorem h47 (s : ByteArray) (y : AT7) (hw : WFs A47 (s, ())) (h : s47 s = some y) : ∃ k, f47 s40 s52 s70 s71 s83 s84 k s = some y := by
  unfold s47 at h
  split at h
  rotate_left
  · cases h
  rename_i hs
  cases h
  clear hw
  refine ⟨0, ?_⟩
  unfold f47
  have hc := count_words s
  have hcl := count_le s
  have e83 : s83 s (ByteArray.mk #[32]) = some ((Lib.countByte s.data.toList 32 : Int), ()) := by
    unfold s83
    rw [if_pos (show (ByteArray.mk #[32]).size = 1 from rfl)]
    rfl
  have e70 : s70 s (IntKind.i64.wrap ((Lib.countByte s.data.toList 32 : Int) + 1)) = some (bif (splitL s sp).any isE then ([], false, ()) else (splitL s sp, true, ())) := by
    unfold s70
    rw [if_pos (by omega), wrap_ok (by omega) (by omega), ← hc]
    unfold wordsOk
    rw [beq_self_eq_true]
    cases (splitL s sp).any isE <;> rfl
  rw [e83]
  simp only [Option.bind_some, e70]
  have hsm := split_small hs
  cases hE : (splitL s sp).any isE
  rotate_left
  · rw [ask_empty hE]
    rfl
  simp only [cond_false, Bool.not_true]
  rcases len_cases (splitL s sp) with ⟨t, k, id, r, he⟩ | ⟨t, k, id, r, f, o, a, b, c, d, he⟩ | ⟨h4, h10⟩
  · rw [ask_four he hE, he]
    rw [he] at hsm
    have ht := hsm t (by simp)
    simp only [show ((([t, k, id, r].length : Nat) : Int) != 4) = false from rfl, show ((([t, k, id, r].length : Nat) : Int) == 10) = false from rfl, show inR (0 : Int) (([t, k, id, r].length : Nat) : Int) = true from rfl, show inR (1 : Int) (([t, k, id, r].length : Nat) : Int) = true from rfl, show inR (2 : Int) (([t, k, id, r].length : Nat) : Int) = true from rfl, show inR (3 : Int) (([t, k, id, r].length : Nat) : Int) = true from rfl, cond_false, cond_true, Option.bind_some,
      show rd (α := ByteArray) ByteArray.empty [t, k, id, r] (0 : Int) = t from rfl, show rd (α := ByteArray) ByteArray.empty [t, k, id, r] (1 : Int) = k from rfl, show rd (α := ByteArray) ByteArray.empty [t, k, id, r] (2 : Int) = id from rfl, show rd (α := ByteArray) ByteArray.empty [t, k, id, r] (3 : Int) = r from rfl, e71 (show t.size ≤ 281474976710656 by omega), s52_kind]
    cases hn : numOk 15 t.data.toList
    · cases hk : kindOf k with
      | none => rfl
      | some i => simp only [Bool.and_false]; rfl
    cases hk : kindOf k with
    | none => rfl
    | some i =>
      have hi := kind_lt hk
      have e0 : decide ((i : Int) < 0) = false := decide_eq_false (by omega)
      simp only [cond_true, Bool.not_true, cond_false, e0, kinds_n i hi, Bool.and_true]
      by_cases h2 : 2 ≤ i
      · have e1 : decide ((i : Int) + 1 ≤ 2) = false := decide_eq_false (by omega)
        rw [e1, decide_eq_true h2]
        rfl
      · have e1 : decide ((i : Int) + 1 ≤ 2) = true := decide_eq_true (by omega)
        rw [e1, decide_eq_false h2]
        rfl
  · rw [ask_ten he hE, he]
    rw [he] at hsm
    have ht := hsm t (by simp)
    have e84' := e84 (a := a) (b := b) (c := c) (d := d) (fun x hx => hsm x (by simp only [List.mem_cons] at hx ⊢; simp only [hx, or_true]))
    simp only [show ((([t, k, id, r, f, o, a, b, c, d].length : Nat) : Int) != 4) = true from rfl, show ((([t, k, id, r, f, o, a, b, c, d].length : Nat) : Int) != 10) = false from rfl, show ((([t, k, id, r, f, o, a, b, c, d].length : Nat) : Int) == 10) = true from rfl, show inR (0 : Int) (([t, k, id, r, f, o, a, b, c, d].length : Nat) : Int) = true from rfl, show inR (1 : Int) (([t, k, id, r, f, o, a, b, c, d].length : Nat) : Int) = true from rfl, show inR (2 : Int) (([t, k, id, r, f, o, a, b, c, d].length : Nat) : Int) = true from rfl, show inR (3 : Int) (([t, k, id, r, f, o, a, b, c, d].length : Nat) : Int) = true from rfl, show inR (4 : Int) (([t, k, id, r, f, o, a, b, c, d].length : Nat) : Int) = true from rfl, show inR (5 : Int) (([t, k, id, r, f, o, a, b, c, d].length : Nat) : Int) = true from rfl, cond_false, cond_true, Option.bind_some,
      show rd (α := ByteArray) ByteArray.empty [t, k, id, r, f, o, a, b, c, d] (0 : Int) = t from rfl, show rd (α := ByteArray) ByteArray.empty [t, k, id, r, f, o, a, b, c, d] (1 : Int) = k from rfl, show rd (α := ByteArray) ByteArray.empty [t, k, id, r, f, o, a, b, c, d] (2 : Int) = id from rfl, show rd (α := ByteArray) ByteArray.empty [t, k, id, r, f, o, a, b, c, d] (3 : Int) = r from rfl, show rd (α := ByteArray) ByteArray.empty [t, k, id, r, f, o, a, b, c, d] (4 : Int) = f from rfl, show rd (α := ByteArray) ByteArray.empty [t, k, id, r, f, o, a, b, c, d] (5 : Int) = o from rfl, e71 (show t.size ≤ 281474976710656 by omega), s52_kind,
      show (decide (0 ≤ (6 : Int)) && (decide ((6 : Int) ≤ (([t, k, id, r, f, o, a, b, c, d].length : Nat) : Int)) && decide ((([t, k, id, r, f, o, a, b, c, d].length : Nat) : Int) ≤ (([t, k, id, r, f, o, a, b, c, d].length : Nat) : Int)))) = true from rfl, show List.drop (Int.toNat (6 : Int)) (List.take (Int.toNat (([t, k, id, r, f, o, a, b, c, d].length : Nat) : Int)) [t, k, id, r, f, o, a, b, c, d]) = [a, b, c, d] from rfl, e84']
    cases hn : numOk 15 t.data.toList
    · cases hk : kindOf k with
      | none => rfl
      | some i => simp only [Bool.false_and, Bool.and_false]; rfl
    cases hk : kindOf k with
    | none => rfl
    | some i =>
      have hi := kind_lt hk
      have e0 : decide ((i : Int) < 0) = false := decide_eq_false (by omega)
      simp only [cond_true, Bool.not_true, cond_false, e0, kinds_n i hi, Bool.true_and]
      by_cases h2 : i < 2
      · have e1 : decide ((i : Int) + 1 ≤ 2) = true := decide_eq_true (by omega)
        rw [e1, decide_eq_true h2]
        cases [a, b, c, d].all (fun w => numOk 15 w.data.toList) <;> rfl
      · have e1 : decide ((i : Int) + 1 ≤ 2) = false := decide_eq_false (by omega)
        rw [e1, decide_eq_false h2]
        rfl
  · rw [ask_none h4 h10]
    have e4 : (((splitL s sp).length : Int) != 4) = true := by rw [bne, h4]; rfl
    have e10 : (((splitL s sp).length : Int) != 10) = true := by rw [bne, h10]; rfl
    rw [e4, e10]
    rfl
end Go.Vm
