/- RatingTexts: Read. Own work. -/
import Derived.Test.YtjkidhjkpkcnhaaGreatDoorZSpecT
import Derived.Test.YtjkidhjkpkcnhaaGreatDoorZLine
set_option maxRecDepth 100000
set_option linter.unusedVariables false
set_option linter.unusedSimpArgs false
namespace Go.Vm
open Go.RowKit Go.Vm.Num
/-- a line that is a trip -/
def lineRt (w : ByteArray) : Option Rt := match splitL w sp with
  | [a, b, c, d, e] => bif ![a, b, c, d, e].any isE && [d, e].all (fun w => numOk 15 w.data.toList) then some (a, b, c, aVal d, aVal e, ()) else none
  | _ => none
theorem five {ws : List ByteArray} (h : (ws.length : Int) = 5) : ∃ a b c d e, ws = [a, b, c, d, e] := by
  match ws, h with
  | [a, b, c, d, e], _ => exact ⟨a, b, c, d, e, rfl⟩
  | [], h => simp at h
  | [_], h => simp at h
  | [_, _], h => simp at h
  | [_, _, _], h => simp at h
  | [_, _, _, _], h => simp at h
  | _ :: _ :: _ :: _ :: _ :: _ :: l, h => simp only [List.length_cons] at h; omega
theorem line_none {w : ByteArray} (h : ¬ ((splitL w sp).length : Int) = 5) : lineRt w = none := by
  unfold lineRt
  split
  · rename_i a b c d e he
    rw [he] at h
    exact absurd rfl h
  · rfl
theorem line_five {w a b c d e : ByteArray} (h : splitL w sp = [a, b, c, d, e]) : lineRt w = bif ![a, b, c, d, e].any isE && [d, e].all (fun w => numOk 15 w.data.toList) then some (a, b, c, aVal d, aVal e, ()) else none := by
  unfold lineRt
  rw [h]
theorem split_small {w : ByteArray} {n : Nat} (h : w.size ≤ n) : ∀ x ∈ splitL w sp, x.size ≤ n := fun x hx => Nat.le_trans (splitB_size _ _ _ x hx) h
def outT (i : Int) (out : List Rt) : Option Rt → (((Int × Unit) × ((List ZT10) × Unit)) ⊕ ((((List ZT10) × Int × Int × Unit) ⊕ (ZT1 × ((List ZT10) × Unit))) ⊕ ((Unit) × ((List ZT10) × Unit))))
  | some r => .inl ((IntKind.i64.wrap (i + 1), ()), (out ++ [r], ()))
  | none => .inr (.inl (.inr ((i, false, ()), (out, ()))))
theorem lineW_eq {w : ByteArray} {i : Int} {out : List Rt} (hw : w.size ≤ 200000) (ho : out.length < 4294967296) : lineW s112 s113 w i out = some (outT i out (lineRt w)) := by
  have e112 : s112 w 5 = some (bif wordsOk (splitL w sp) 5 then (splitL w sp, true, ()) else ([], false, ())) := by
    unfold s112
    rw [if_pos (by omega)]
  unfold lineW
  rw [e112]
  simp only [Option.bind_some]
  unfold wordsOk
  by_cases h5 : ((splitL w sp).length : Int) = 5
  rotate_left
  · rw [line_none h5, beq_eq_false_iff_ne.2 h5]
    rfl
  obtain ⟨a, b, c, d, e, hs⟩ := five h5
  have hsm := split_small hw
  rw [hs] at hsm
  rw [line_five hs, hs]
  cases hE : [a, b, c, d, e].any isE
  rotate_left
  · rfl
  have e113 : s113 [d, e] 15 = some (bif [d, e].all (fun w => numOk 15 w.data.toList) then ([aVal d, aVal e], true, ()) else ([], false, ())) := by
    unfold s113
    rw [if_pos ⟨⟨by simp, fun x hx => by have := hsm x (List.mem_cons_of_mem _ (List.mem_cons_of_mem _ (List.mem_cons_of_mem _ hx))); omega⟩, by omega⟩]
    rfl
  have e5 : decide (out.length + [((a, b, c, aVal d, aVal e, ()) : Rt)].length ≤ 4294967296) = true := decide_eq_true (by rw [List.length_singleton]; omega)
  show Option.bind (s113 [d, e] 15) _ = _
  rw [e113]
  simp only [Option.bind_some]
  cases hA : [d, e].all (fun w => numOk 15 w.data.toList)
  · rfl
  · show (bif decide (out.length + [((a, b, c, aVal d, aVal e, ()) : Rt)].length ≤ 4294967296) then _ else _) = _
    rw [e5]
    rfl
/-! ### a text, read -/
/-- a text's pieces, read: the line that is wrong, or the trips -/
def rdP : List (List UInt8) → Nat → List Rt → Nat ⊕ List Rt
  | [], _, out => .inr out
  | [p], i, out => match p with
    | [] => .inr out
    | _ :: _ => .inl i
  | p :: q :: ps, i, out => match lineRt ⟨p.toArray⟩ with
    | some r => rdP (q :: ps) (i + 1) (out ++ [r])
    | none => .inl i
def readRes : Nat ⊕ List Rt → List Rt × Int × Int × Unit
  | .inl i => ([], (i : Int), 9, ())
  | .inr out => bif rFaults out != 0 then ([], 0, rFaults out, ()) else (out, 0, 0, ())
def readT (s : ByteArray) : List Rt × Int × Int × Unit := if s.size > 200000 then ([], 0, 2, ()) else readRes (rdP (pieces 10 s.data.toList) 0 [])
def s57 (s : ByteArray) : Option (List Rt × Int × Int × Unit) := some (readT s)
def s58 (s : ByteArray) : Option (List Rt × Int × Int × Unit) := some (readT s)
/-- the program reads the lines in order -/
def pBody (n : Nat) (ends : Bool) (j : Nat) (w : ByteArray) (out : List Rt) : List Rt ⊕ (Nat ⊕ List Rt) :=
  bif !ends && ((j : Int) == (n : Int) - 1) then .inr (.inl j) else match lineRt w with
    | some r => .inl (out ++ [r])
    | none => .inr (.inl j)
def toB (l : List UInt8) : ByteArray := ⟨l.toArray⟩
theorem scan_ends (n : Nat) : ∀ (ps : List (List UInt8)) (j : Nat) (out : List Rt), scan (pBody n true) (fun b => .inr b) (ps.map toB) j out = rdP (ps ++ [[]]) j out
  | [], j, out => rfl
  | [p], j, out => by
    simp only [List.map_cons, List.map_nil, scan, pBody, Bool.not_true, Bool.false_and, cond_false, List.cons_append, List.nil_append, rdP, toB]
    cases lineRt ⟨p.toArray⟩ <;> rfl
  | p :: q :: ps, j, out => by
    have ih := scan_ends n (q :: ps) (j + 1)
    rw [List.map_cons, List.cons_append, scan]
    simp only [pBody, Bool.not_true, Bool.false_and, cond_false, List.cons_append, rdP, toB] at ih ⊢
    cases lineRt ⟨p.toArray⟩ with
    | none => rfl
    | some r => exact ih (out ++ [r])
theorem scan_open {p : List UInt8} (hp : p ≠ []) : ∀ (ps : List (List UInt8)) (n j : Nat) (out : List Rt), n = j + ps.length + 1 → scan (pBody n false) (fun b => .inr b) ((ps ++ [p]).map toB) j out = rdP (ps ++ [p]) j out
  | [], n, j, out, h => by
    have e : ((j : Int) == (n : Int) - 1) = true := by rw [beq_iff_eq]; subst h; simp only [List.length_nil]; omega
    cases p with
    | nil => exact absurd rfl hp
    | cons c p =>
      simp only [List.nil_append, List.map_cons, List.map_nil, scan, pBody, e, Bool.not_false, Bool.true_and, cond_true, rdP]
  | q :: ps, n, j, out, h => by
    have ih := scan_open hp ps n (j + 1)
    have e : ((j : Int) == (n : Int) - 1) = false := by rw [beq_eq_false_iff_ne]; simp only [List.length_cons] at h; omega
    obtain ⟨x, xs, hx⟩ : ∃ x xs, ps ++ [p] = x :: xs := by
      cases ps with
      | nil => exact ⟨p, [], rfl⟩
      | cons x xs => exact ⟨x, xs ++ [p], rfl⟩
    rw [List.cons_append, List.map_cons, scan]
    simp only [pBody, e, Bool.not_false, Bool.true_and, cond_false, toB]
    rw [hx] at ih ⊢
    simp only [rdP]
    cases hl : lineRt ⟨q.toArray⟩ with
    | none => rfl
    | some r => exact ih (out ++ [r]) (by simp only [List.length_cons] at h; omega)
theorem toB_map (c : UInt8) (s : ByteArray) : piecesB c s = (pieces c s.data.toList).map toB := rfl
theorem end_cases (s : ByteArray) : s.data.toList = [] ∨ (∃ l, s.data.toList = l ++ [10]) ∨ (∃ l c, s.data.toList = l ++ [c] ∧ c ≠ (10 : UInt8)) := by
  by_cases h : s.data.toList = []
  · exact .inl h
  · right
    by_cases hc : s.data.toList.getLast h = 10
    · exact .inl ⟨s.data.toList.dropLast, by rw [← hc, List.dropLast_concat_getLast]⟩
    · exact .inr ⟨s.data.toList.dropLast, s.data.toList.getLast h, by rw [List.dropLast_concat_getLast], hc⟩
/-- what Lines gives, read in order -/
theorem read_lines {s : ByteArray} (hs : s.size ≤ 200000) : ∃ L ends, s156 s = some (L, ends, ()) ∧ L.length ≤ 200001 ∧ (∀ w ∈ L, w.size ≤ 200000) ∧ scan (pBody L.length ends) (fun b => .inr b) L 0 [] = rdP (pieces 10 s.data.toList) 0 [] := by
  have e156 : s156 s = some (bif isE s then ([], true, ()) else (splitL (s194 s nl).1 nl, (s194 s nl).2.1, ())) := by
    unfold s156
    rw [if_pos (by omega)]
  rw [e156]
  rcases end_cases s with h | ⟨l, h⟩ | ⟨l, c, h, hc⟩
  · have : isE s = true := by unfold isE; rw [h]; rfl
    rw [this, h]
    exact ⟨[], true, rfl, by simp, (fun w hw => by cases hw), rfl⟩
  · have hE : isE s = false := by unfold isE; rw [h]; simp
    rw [hE, lines_end h]
    have hlen : l.length ≤ 200000 := by have := bytes_size s; rw [h, List.length_append] at this; simp only [List.length_singleton] at this; omega
    have hsz : (⟨l.toArray⟩ : ByteArray).size = l.length := by rw [← bytes_size]
    refine ⟨_, _, rfl, ?_, ?_, ?_⟩
    · have := splitL_len 10 ⟨l.toArray⟩
      rw [hsz] at this
      exact Nat.le_trans this (by omega)
    · intro w hw
      have := splitB_size _ _ _ w hw
      rw [hsz] at this
      omega
    · show scan (pBody (splitL _ _).length true) _ (splitL _ _) 0 [] = _
      rw [splitL_one, toB_map, h, pieces_append, scan_ends]
  · have hE : isE s = false := by unfold isE; rw [h]; simp
    rw [hE, lines_open h hc]
    refine ⟨_, _, rfl, ?_, ?_, ?_⟩
    · exact Nat.le_trans (splitL_len 10 s) (by omega)
    · intro w hw
      exact Nat.le_trans (splitB_size _ _ _ w hw) hs
    · obtain ⟨ps, p, hp, hne⟩ := pieces_last 10 hc l
      show scan (pBody (splitL _ _).length false) _ (splitL _ _) 0 [] = _
      rw [splitL_one, toB_map, h, hp]
      exact scan_open hne ps _ 0 [] (by rw [List.length_map, List.length_append, List.length_singleton]; omega)
end Go.Vm
