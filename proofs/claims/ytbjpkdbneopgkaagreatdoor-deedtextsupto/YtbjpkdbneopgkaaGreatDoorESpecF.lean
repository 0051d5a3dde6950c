/- DeedTexts: a line that is a deed, in the program. Own work. -/
import Derived.Test.YtbjpkdbneopgkaaGreatDoorESpecA
set_option maxRecDepth 100000
set_option linter.unusedVariables false
set_option linter.unusedSimpArgs false
namespace Go.Vm
open Go.RowKit Go.Vm.Num
abbrev zCr : Cr := (ByteArray.empty, 0, 0, ())
abbrev zRd : Rr := (ByteArray.empty, ByteArray.empty, ByteArray.empty, ByteArray.empty, 0, 0, 0, 0, ())
def deedWs : List ByteArray := [ByteArray.mk #[99, 97, 114], ByteArray.mk #[97, 119, 97, 121], ByteArray.mk #[97, 115, 107], ByteArray.mk #[100, 114, 111, 112]]
def s62 : List ByteArray := deedWs
theorem h62 (hw : WFs A62 ()) : ∃ k, f62 k = some (s62, ()) := ⟨0, rfl⟩
def dkOf (w : ByteArray) : Option Nat := deedWs.findIdx? (fun y => sEq w y)
theorem s52_dk (w : ByteArray) : s52 s62 w = match dkOf w with | some i => (i : Int) | none => -1 := rfl
theorem dk_lt {w : ByteArray} {i : Nat} (h : dkOf w = some i) : i < 4 := by
  unfold dkOf at h
  exact (List.findIdx?_eq_some_iff_getElem.1 h).1
/-- the rest of a deed: behind its site, number, moment and kind -/
def dRest : Nat → List ByteArray → Option (ByteArray × ByteArray × Cr × Rr × Unit)
  | 0, [c, s, w, z] => bif [s, w].all (fun w => numOk 15 w.data.toList) then some (ByteArray.empty, z, (c, aVal s, aVal w, ()), zRd, ()) else none
  | 1, [x] => some (x, ByteArray.empty, zCr, zRd, ())
  | 2, [i, r, f, o, p, q, u, v] => bif [p, q, u, v].all (fun w => numOk 15 w.data.toList) then some (ByteArray.empty, ByteArray.empty, zCr, (i, r, f, o, aVal p, aVal q, aVal u, aVal v, ()), ()) else none
  | 3, [x] => some (x, ByteArray.empty, zCr, zRd, ())
  | _, _ => none
theorem dRest0 (c s w z : ByteArray) : dRest 0 [c, s, w, z] = bif [s, w].all (fun w => numOk 15 w.data.toList) then some (ByteArray.empty, z, (c, aVal s, aVal w, ()), zRd, ()) else none := rfl
theorem dRest2 (i r f o p q u v : ByteArray) : dRest 2 [i, r, f, o, p, q, u, v] = bif [p, q, u, v].all (fun w => numOk 15 w.data.toList) then some (ByteArray.empty, ByteArray.empty, zCr, (i, r, f, o, aVal p, aVal q, aVal u, aVal v, ()), ()) else none := rfl
def deedOf : List ByteArray → Option Dd
  | a :: n :: t :: k :: l => bif [n, t].all (fun w => numOk 15 w.data.toList) then (match dkOf k with
    | some i => (dRest i l).map fun r => (a, aVal n, aVal t, (i : Int) + 1, r)
    | none => none) else none
  | _ => none
theorem deedOf_cons (a n t k : ByteArray) (l : List ByteArray) : deedOf (a :: n :: t :: k :: l) = bif [n, t].all (fun w => numOk 15 w.data.toList) then (match dkOf k with
    | some i => (dRest i l).map fun r => (a, aVal n, aVal t, (i : Int) + 1, r)
    | none => none) else none := rfl
def deedLine (s : ByteArray) : Option Dd := bif (splitL s sp).any isE then none else deedOf (splitL s sp)
theorem deed_line {s : ByteArray} (hE : (splitL s sp).any isE = false) : deedLine s = deedOf (splitL s sp) := by
  unfold deedLine
  rw [hE]
  rfl
theorem deed_empty {s : ByteArray} (hE : (splitL s sp).any isE = true) : deedLine s = none := by
  unfold deedLine
  rw [hE]
  rfl
theorem dlen_cases (ws : List ByteArray) : (∃ a n t k x, ws = [a, n, t, k, x]) ∨ (∃ a n t k c s w z, ws = [a, n, t, k, c, s, w, z]) ∨ (∃ a n t k i r f o p q u v, ws = [a, n, t, k, i, r, f, o, p, q, u, v]) ∨ (ws.length < 5) ∨ (5 ≤ ws.length ∧ ws.length ≠ 5 ∧ ws.length ≠ 8 ∧ ws.length ≠ 12) := by
  by_cases h5 : ws.length = 5
  · match ws, h5 with
    | [a, n, t, k, x], _ => exact .inl ⟨a, n, t, k, x, rfl⟩
  by_cases h8 : ws.length = 8
  · match ws, h8 with
    | [a, n, t, k, c, s, w, z], _ => exact .inr (.inl ⟨a, n, t, k, c, s, w, z, rfl⟩)
  by_cases h12 : ws.length = 12
  · match ws, h12 with
    | [a, n, t, k, i, r, f, o, p, q, u, v], _ => exact .inr (.inr (.inl ⟨a, n, t, k, i, r, f, o, p, q, u, v, rfl⟩))
  by_cases h : ws.length < 5
  · exact .inr (.inr (.inr (.inl h)))
  · exact .inr (.inr (.inr (.inr ⟨by omega, h5, h8, h12⟩)))
theorem dRest_none {i : Nat} {l : List ByteArray} (h1 : l.length ≠ 1) (h4 : l.length ≠ 4) (h8 : l.length ≠ 8) : dRest i l = none := by
  unfold dRest
  split
  · simp at h4
  · simp at h1
  · simp at h8
  · simp at h1
  · rfl
theorem deedOf_none {ws : List ByteArray} (h : ws.length < 5 ∨ (ws.length ≠ 5 ∧ ws.length ≠ 8 ∧ ws.length ≠ 12)) : deedOf ws = none := by
  unfold deedOf
  split
  · rename_i a n t k l
    cases [n, t].all (fun w => numOk 15 w.data.toList)
    · rfl
    simp only [cond_true]
    cases dkOf k with
    | none => rfl
    | some i =>
      simp only
      have hl : (a :: n :: t :: k :: l).length = l.length + 4 := by simp
      by_cases h0 : l = []
      · subst h0
        unfold dRest
        split <;> first | rfl | (rename_i he; cases he)
      · have : 0 < l.length := List.length_pos_iff.2 h0
        rw [dRest_none (by omega) (by omega) (by omega)]
        rfl
  · rfl
def s64 (s : ByteArray) : Option ET8 := if s.size ≤ 200000 then some (match deedLine s with | some a => (a, true, ()) | none => zET8) else none
theorem e84t {a b : ByteArray} (ha : a.size ≤ 200000) (hb : b.size ≤ 200000) : s84 [a, b] 15 = some (bif [a, b].all (fun w => numOk 15 w.data.toList) then ([aVal a, aVal b], true, ()) else ([], false, ())) := by
  unfold s84
  rw [if_pos ⟨⟨by simp, fun x hx => by
    simp only [List.mem_cons, List.not_mem_nil, or_false] at hx
    rcases hx with rfl | rfl <;> omega⟩, by omega⟩]
  rfl
theorem h64 (s : ByteArray) (y : ET8) (hw : WFs A64 (s, ())) (h : s64 s = some y) : ∃ k, f64 s52 s62 s70 s83 s84 k s = some y := by
  unfold s64 at h
  split at h
  rotate_left
  · cases h
  rename_i hs
  cases h
  clear hw
  refine ⟨0, ?_⟩
  unfold f64
  have hc := count_words s
  have hcl := count_le s
  have e83 : s83 s (ByteArray.mk #[32]) = some ((Lib.countByte s.data.toList 32 : Int), ()) := by
    unfold s83
    rw [if_pos (show (ByteArray.mk #[32]).size = 1 from rfl)]
    rfl
  have e70 : s70 s (IntKind.i64.wrap ((Lib.countByte s.data.toList 32 : Int) + 1)) = some (bif (splitL s sp).any isE then ([], false, ()) else (splitL s sp, true, ())) := by
    unfold s70
    rw [if_pos (by omega), wrap_ok (by omega) (by omega), ← hc]
    unfold wordsOk
    rw [beq_self_eq_true]
    cases (splitL s sp).any isE <;> rfl
  rw [e83]
  simp only [Option.bind_some, e70]
  have hsm := split_small hs
  cases hE : (splitL s sp).any isE
  rotate_left
  · rw [deed_empty hE]
    rfl
  rw [deed_line hE]
  simp only [cond_false, Bool.not_true]
  clear hE hc hcl e83 e70
  generalize splitL s sp = ws at hsm ⊢
  rcases dlen_cases ws with ⟨a, n, t, k, x, rfl⟩ | ⟨a, n, t, k, c, s, w, z, rfl⟩ | ⟨a, n, t, k, i, r, f, o, p, q, u, v, rfl⟩ | hlt | ⟨h5, hn5, hn8, hn12⟩
  · have e1 := e84t (a := n) (b := t) (hsm n (by simp)) (hsm t (by simp))
    simp only [show inR (0 : Int) (([a, n, t, k, x].length : Nat) : Int) = true from rfl, show rd (α := ByteArray) ByteArray.empty [a, n, t, k, x] (0 : Int) = a from rfl, show inR (1 : Int) (([a, n, t, k, x].length : Nat) : Int) = true from rfl, show rd (α := ByteArray) ByteArray.empty [a, n, t, k, x] (1 : Int) = n from rfl, show inR (2 : Int) (([a, n, t, k, x].length : Nat) : Int) = true from rfl, show rd (α := ByteArray) ByteArray.empty [a, n, t, k, x] (2 : Int) = t from rfl, show inR (3 : Int) (([a, n, t, k, x].length : Nat) : Int) = true from rfl, show rd (α := ByteArray) ByteArray.empty [a, n, t, k, x] (3 : Int) = k from rfl, show inR (4 : Int) (([a, n, t, k, x].length : Nat) : Int) = true from rfl, show rd (α := ByteArray) ByteArray.empty [a, n, t, k, x] (4 : Int) = x from rfl, show decide ((([a, n, t, k, x].length : Nat) : Int) < (5 : Int)) = false from rfl, show (decide (0 ≤ (1 : Int)) && (decide ((1 : Int) ≤ (3 : Int)) && decide ((3 : Int) ≤ (([a, n, t, k, x].length : Nat) : Int)))) = true from rfl, show List.drop (Int.toNat (1 : Int)) (List.take (Int.toNat (3 : Int)) [a, n, t, k, x]) = [n, t] from rfl, cond_false, cond_true, Option.bind_some, e1, s52_dk]
    rw [deedOf_cons]
    cases [n, t].all (fun w => numOk 15 w.data.toList)
    · rfl
    simp only [cond_true, Bool.not_true, cond_false, show ∀ x1 x2 : Int, inR (0 : Int) (([x1, x2].length : Nat) : Int) = true from fun _ _ => rfl, show ∀ x1 x2 : Int, inR (1 : Int) (([x1, x2].length : Nat) : Int) = true from fun _ _ => rfl, show ∀ x1 x2 : Int, rd (α := Int) (0 : Int) [x1, x2] (0 : Int) = x1 from fun _ _ => rfl, show ∀ x1 x2 : Int, rd (α := Int) (0 : Int) [x1, x2] (1 : Int) = x2 from fun _ _ => rfl]
    cases hk : dkOf k with
    | none => rfl
    | some j =>
      have hj := dk_lt hk
      obtain rfl | rfl | rfl | rfl : j = 0 ∨ j = 1 ∨ j = 2 ∨ j = 3 := by omega
      all_goals rfl
  · have e1 := e84t (a := n) (b := t) (hsm n (by simp)) (hsm t (by simp))
    have e2 := e84t (a := s) (b := w) (hsm s (by simp)) (hsm w (by simp))
    simp only [show inR (0 : Int) (([a, n, t, k, c, s, w, z].length : Nat) : Int) = true from rfl, show rd (α := ByteArray) ByteArray.empty [a, n, t, k, c, s, w, z] (0 : Int) = a from rfl, show inR (1 : Int) (([a, n, t, k, c, s, w, z].length : Nat) : Int) = true from rfl, show rd (α := ByteArray) ByteArray.empty [a, n, t, k, c, s, w, z] (1 : Int) = n from rfl, show inR (2 : Int) (([a, n, t, k, c, s, w, z].length : Nat) : Int) = true from rfl, show rd (α := ByteArray) ByteArray.empty [a, n, t, k, c, s, w, z] (2 : Int) = t from rfl, show inR (3 : Int) (([a, n, t, k, c, s, w, z].length : Nat) : Int) = true from rfl, show rd (α := ByteArray) ByteArray.empty [a, n, t, k, c, s, w, z] (3 : Int) = k from rfl, show inR (4 : Int) (([a, n, t, k, c, s, w, z].length : Nat) : Int) = true from rfl, show rd (α := ByteArray) ByteArray.empty [a, n, t, k, c, s, w, z] (4 : Int) = c from rfl, show inR (5 : Int) (([a, n, t, k, c, s, w, z].length : Nat) : Int) = true from rfl, show rd (α := ByteArray) ByteArray.empty [a, n, t, k, c, s, w, z] (5 : Int) = s from rfl, show inR (6 : Int) (([a, n, t, k, c, s, w, z].length : Nat) : Int) = true from rfl, show rd (α := ByteArray) ByteArray.empty [a, n, t, k, c, s, w, z] (6 : Int) = w from rfl, show inR (7 : Int) (([a, n, t, k, c, s, w, z].length : Nat) : Int) = true from rfl, show rd (α := ByteArray) ByteArray.empty [a, n, t, k, c, s, w, z] (7 : Int) = z from rfl, show decide ((([a, n, t, k, c, s, w, z].length : Nat) : Int) < (5 : Int)) = false from rfl, show (decide (0 ≤ (1 : Int)) && (decide ((1 : Int) ≤ (3 : Int)) && decide ((3 : Int) ≤ (([a, n, t, k, c, s, w, z].length : Nat) : Int)))) = true from rfl, show List.drop (Int.toNat (1 : Int)) (List.take (Int.toNat (3 : Int)) [a, n, t, k, c, s, w, z]) = [n, t] from rfl, show (decide (0 ≤ (5 : Int)) && (decide ((5 : Int) ≤ (7 : Int)) && decide ((7 : Int) ≤ (([a, n, t, k, c, s, w, z].length : Nat) : Int)))) = true from rfl, show List.drop (Int.toNat (5 : Int)) (List.take (Int.toNat (7 : Int)) [a, n, t, k, c, s, w, z]) = [s, w] from rfl, cond_false, cond_true, Option.bind_some, e1, s52_dk]
    rw [deedOf_cons]
    cases [n, t].all (fun w => numOk 15 w.data.toList)
    · rfl
    simp only [cond_true, Bool.not_true, cond_false, show ∀ x1 x2 : Int, inR (0 : Int) (([x1, x2].length : Nat) : Int) = true from fun _ _ => rfl, show ∀ x1 x2 : Int, inR (1 : Int) (([x1, x2].length : Nat) : Int) = true from fun _ _ => rfl, show ∀ x1 x2 : Int, rd (α := Int) (0 : Int) [x1, x2] (0 : Int) = x1 from fun _ _ => rfl, show ∀ x1 x2 : Int, rd (α := Int) (0 : Int) [x1, x2] (1 : Int) = x2 from fun _ _ => rfl]
    cases hk : dkOf k with
    | none => rfl
    | some j =>
      have hj := dk_lt hk
      obtain rfl | rfl | rfl | rfl : j = 0 ∨ j = 1 ∨ j = 2 ∨ j = 3 := by omega
      · simp only [dRest0, show decide (((0 : Nat) : Int) < 0) = false from rfl, show inR ((0 : Nat) : Int) ((List.length ([(8 : Int), (5 : Int), (12 : Int), (5 : Int)]) : Nat) : Int) = true from rfl, show ((([a, n, t, k, c, s, w, z].length : Nat) : Int) != (rd (α := Int) (0 : Int) ([(8 : Int), (5 : Int), (12 : Int), (5 : Int)]) ((0 : Nat) : Int))) = false from rfl, show (IntKind.i64.wrap ((1 : Int) + ((0 : Nat) : Int)) == (1 : Int)) = true from rfl, cond_true, cond_false, e2, Option.bind_some]
        cases [s, w].all (fun w => numOk 15 w.data.toList) <;> rfl
      all_goals rfl
  · have e1 := e84t (a := n) (b := t) (hsm n (by simp)) (hsm t (by simp))
    have e2 := e84 (a := p) (b := q) (c := u) (d := v) (fun y hy => hsm y (by simp only [List.mem_cons] at hy ⊢; simp only [hy, or_true]))
    simp only [show inR (0 : Int) (([a, n, t, k, i, r, f, o, p, q, u, v].length : Nat) : Int) = true from rfl, show rd (α := ByteArray) ByteArray.empty [a, n, t, k, i, r, f, o, p, q, u, v] (0 : Int) = a from rfl, show inR (1 : Int) (([a, n, t, k, i, r, f, o, p, q, u, v].length : Nat) : Int) = true from rfl, show rd (α := ByteArray) ByteArray.empty [a, n, t, k, i, r, f, o, p, q, u, v] (1 : Int) = n from rfl, show inR (2 : Int) (([a, n, t, k, i, r, f, o, p, q, u, v].length : Nat) : Int) = true from rfl, show rd (α := ByteArray) ByteArray.empty [a, n, t, k, i, r, f, o, p, q, u, v] (2 : Int) = t from rfl, show inR (3 : Int) (([a, n, t, k, i, r, f, o, p, q, u, v].length : Nat) : Int) = true from rfl, show rd (α := ByteArray) ByteArray.empty [a, n, t, k, i, r, f, o, p, q, u, v] (3 : Int) = k from rfl, show inR (4 : Int) (([a, n, t, k, i, r, f, o, p, q, u, v].length : Nat) : Int) = true from rfl, show rd (α := ByteArray) ByteArray.empty [a, n, t, k, i, r, f, o, p, q, u, v] (4 : Int) = i from rfl, show inR (5 : Int) (([a, n, t, k, i, r, f, o, p, q, u, v].length : Nat) : Int) = true from rfl, show rd (α := ByteArray) ByteArray.empty [a, n, t, k, i, r, f, o, p, q, u, v] (5 : Int) = r from rfl, show inR (6 : Int) (([a, n, t, k, i, r, f, o, p, q, u, v].length : Nat) : Int) = true from rfl, show rd (α := ByteArray) ByteArray.empty [a, n, t, k, i, r, f, o, p, q, u, v] (6 : Int) = f from rfl, show inR (7 : Int) (([a, n, t, k, i, r, f, o, p, q, u, v].length : Nat) : Int) = true from rfl, show rd (α := ByteArray) ByteArray.empty [a, n, t, k, i, r, f, o, p, q, u, v] (7 : Int) = o from rfl, show decide ((([a, n, t, k, i, r, f, o, p, q, u, v].length : Nat) : Int) < (5 : Int)) = false from rfl, show (decide (0 ≤ (1 : Int)) && (decide ((1 : Int) ≤ (3 : Int)) && decide ((3 : Int) ≤ (([a, n, t, k, i, r, f, o, p, q, u, v].length : Nat) : Int)))) = true from rfl, show List.drop (Int.toNat (1 : Int)) (List.take (Int.toNat (3 : Int)) [a, n, t, k, i, r, f, o, p, q, u, v]) = [n, t] from rfl, show (decide (0 ≤ (8 : Int)) && (decide ((8 : Int) ≤ (([a, n, t, k, i, r, f, o, p, q, u, v].length : Nat) : Int)) && decide ((([a, n, t, k, i, r, f, o, p, q, u, v].length : Nat) : Int) ≤ (([a, n, t, k, i, r, f, o, p, q, u, v].length : Nat) : Int)))) = true from rfl, show List.drop (Int.toNat (8 : Int)) (List.take (Int.toNat (([a, n, t, k, i, r, f, o, p, q, u, v].length : Nat) : Int)) [a, n, t, k, i, r, f, o, p, q, u, v]) = [p, q, u, v] from rfl, cond_false, cond_true, Option.bind_some, e1, s52_dk]
    rw [deedOf_cons]
    cases [n, t].all (fun w => numOk 15 w.data.toList)
    · rfl
    simp only [cond_true, Bool.not_true, cond_false, show ∀ x1 x2 : Int, inR (0 : Int) (([x1, x2].length : Nat) : Int) = true from fun _ _ => rfl, show ∀ x1 x2 : Int, inR (1 : Int) (([x1, x2].length : Nat) : Int) = true from fun _ _ => rfl, show ∀ x1 x2 : Int, rd (α := Int) (0 : Int) [x1, x2] (0 : Int) = x1 from fun _ _ => rfl, show ∀ x1 x2 : Int, rd (α := Int) (0 : Int) [x1, x2] (1 : Int) = x2 from fun _ _ => rfl]
    cases hk : dkOf k with
    | none => rfl
    | some j =>
      have hj := dk_lt hk
      obtain rfl | rfl | rfl | rfl : j = 0 ∨ j = 1 ∨ j = 2 ∨ j = 3 := by omega
      · rfl
      · rfl
      · simp only [dRest2, show decide (((2 : Nat) : Int) < 0) = false from rfl, show inR ((2 : Nat) : Int) ((List.length ([(8 : Int), (5 : Int), (12 : Int), (5 : Int)]) : Nat) : Int) = true from rfl, show (((12 : Nat) : Int) != (rd (α := Int) (0 : Int) ([(8 : Int), (5 : Int), (12 : Int), (5 : Int)]) ((2 : Nat) : Int))) = false from rfl, show ((([a, n, t, k, i, r, f, o, p, q, u, v].length : Nat) : Int) != (rd (α := Int) (0 : Int) ([(8 : Int), (5 : Int), (12 : Int), (5 : Int)]) ((2 : Nat) : Int))) = false from rfl, show (IntKind.i64.wrap ((1 : Int) + ((2 : Nat) : Int)) == (1 : Int)) = false from rfl, show (IntKind.i64.wrap ((1 : Int) + ((2 : Nat) : Int)) == (3 : Int)) = true from rfl, cond_true, cond_false, e2, Option.bind_some]
        cases [p, q, u, v].all (fun w => numOk 15 w.data.toList) <;> rfl
      · rfl
  · rw [deedOf_none (.inl hlt), show decide ((ws.length : Int) < 5) = true from decide_eq_true (by omega)]
    rfl
  · rw [deedOf_none (.inr ⟨hn5, hn8, hn12⟩)]
    obtain ⟨a, n, t, k, x, l, rfl⟩ := five_or h5
    have hl : (a :: n :: t :: k :: x :: l).length = l.length + 5 := by simp
    have e1 := e84t (a := n) (b := t) (hsm n (by simp)) (hsm t (by simp))
    have eR : ∀ z : Nat, z < 5 → inR (z : Int) ((a :: n :: t :: k :: x :: l).length : Int) = true := fun z hz => by
      unfold inR
      rw [Bool.and_eq_true, decide_eq_true_eq, decide_eq_true_eq]
      omega
    have e0 : decide (((a :: n :: t :: k :: x :: l).length : Int) < 5) = false := decide_eq_false (by omega)
    have e3 : (decide (0 ≤ (1 : Int)) && (decide ((1 : Int) ≤ (3 : Int)) && decide ((3 : Int) ≤ (((a :: n :: t :: k :: x :: l).length : Nat) : Int)))) = true := by
      rw [show decide ((3 : Int) ≤ (((a :: n :: t :: k :: x :: l).length : Nat) : Int)) = true from decide_eq_true (by omega)]
      rfl
    simp only [e0, e3, cond_false, cond_true, show List.drop (Int.toNat (1 : Int)) (List.take (Int.toNat (3 : Int)) (a :: n :: t :: k :: x :: l)) = [n, t] from rfl, e1, Option.bind_some, show inR (3 : Int) ((a :: n :: t :: k :: x :: l).length : Int) = true from eR 3 (by omega), show rd (α := ByteArray) ByteArray.empty (a :: n :: t :: k :: x :: l) (3 : Int) = k from rfl, s52_dk]
    cases [n, t].all (fun w => numOk 15 w.data.toList)
    · rfl
    simp only [cond_true, Bool.not_true, cond_false]
    cases hk : dkOf k with
    | none => rfl
    | some j =>
      have hj := dk_lt hk
      have ne : ∀ m : Nat, (a :: n :: t :: k :: x :: l).length ≠ m → ((((a :: n :: t :: k :: x :: l).length : Nat) : Int) != (m : Int)) = true := fun m hm => by
        simp only [bne_iff_ne, ne_eq]
        omega
      obtain rfl | rfl | rfl | rfl : j = 0 ∨ j = 1 ∨ j = 2 ∨ j = 3 := by omega
      · show (bif ((((a :: n :: t :: k :: x :: l).length : Nat) : Int) != ((8 : Nat) : Int)) then _ else _) = _
        rw [ne 8 hn8]
        rfl
      · show (bif ((((a :: n :: t :: k :: x :: l).length : Nat) : Int) != ((5 : Nat) : Int)) then _ else _) = _
        rw [ne 5 hn5]
        rfl
      · show (bif ((((a :: n :: t :: k :: x :: l).length : Nat) : Int) != ((12 : Nat) : Int)) then _ else _) = _
        rw [ne 12 hn12]
        rfl
      · show (bif ((((a :: n :: t :: k :: x :: l).length : Nat) : Int) != ((5 : Nat) : Int)) then _ else _) = _
        rw [ne 5 hn5]
        rfl
end Go.Vm
