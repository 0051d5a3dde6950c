/- Texts that are read line by line, in the program's way and in the reference's: any kind of line. Own work. -/
import Derived.Test.YtbjpkdbneopgkaaGreatDoorASpecD
set_option maxRecDepth 100000
set_option linter.unusedVariables false
set_option linter.unusedSimpArgs false
namespace Go.Vm
open Go.RowKit Go.Vm.Num
section
variable {α : Type} (lineF : ByteArray → Option α)
/-- a text's pieces, read: the line that is wrong, or what was read -/
def rdG : List (List UInt8) → Nat → List α → Nat ⊕ List α
  | [], _, out => .inr out
  | [p], i, out => match p with
    | [] => .inr out
    | _ :: _ => .inl i
  | p :: q :: ps, i, out => match lineF ⟨p.toArray⟩ with
    | some r => rdG (q :: ps) (i + 1) (out ++ [r])
    | none => .inl i
/-- the program reads the lines in order -/
def bodyG (n : Nat) (ends : Bool) (j : Nat) (w : ByteArray) (out : List α) : List α ⊕ (Nat ⊕ List α) :=
  bif !ends && ((j : Int) == (n : Int) - 1) then .inr (.inl j) else match lineF w with
    | some r => .inl (out ++ [r])
    | none => .inr (.inl j)
def toB (l : List UInt8) : ByteArray := ⟨l.toArray⟩
theorem scan_endsG (n : Nat) : ∀ (ps : List (List UInt8)) (j : Nat) (out : List α), scan (bodyG lineF n true) (fun b => .inr b) (ps.map toB) j out = rdG lineF (ps ++ [[]]) j out
  | [], j, out => rfl
  | [p], j, out => by
    simp only [List.map_cons, List.map_nil, scan, bodyG, Bool.not_true, Bool.false_and, cond_false, List.cons_append, List.nil_append, rdG, toB]
    cases lineF ⟨p.toArray⟩ <;> rfl
  | p :: q :: ps, j, out => by
    have ih := scan_endsG n (q :: ps) (j + 1)
    rw [List.map_cons, List.cons_append, scan]
    simp only [bodyG, Bool.not_true, Bool.false_and, cond_false, List.cons_append, rdG, toB] at ih ⊢
    cases lineF ⟨p.toArray⟩ with
    | none => rfl
    | some r => exact ih (out ++ [r])
theorem scan_openG {p : List UInt8} (hp : p ≠ []) : ∀ (ps : List (List UInt8)) (n j : Nat) (out : List α), n = j + ps.length + 1 → scan (bodyG lineF n false) (fun b => .inr b) ((ps ++ [p]).map toB) j out = rdG lineF (ps ++ [p]) j out
  | [], n, j, out, h => by
    have e : ((j : Int) == (n : Int) - 1) = true := by rw [beq_iff_eq]; subst h; simp only [List.length_nil]; omega
    cases p with
    | nil => exact absurd rfl hp
    | cons c p =>
      simp only [List.nil_append, List.map_cons, List.map_nil, scan, bodyG, e, Bool.not_false, Bool.true_and, cond_true, rdG]
  | q :: ps, n, j, out, h => by
    have ih := scan_openG hp ps n (j + 1)
    have e : ((j : Int) == (n : Int) - 1) = false := by rw [beq_eq_false_iff_ne]; simp only [List.length_cons] at h; omega
    obtain ⟨x, xs, hx⟩ : ∃ x xs, ps ++ [p] = x :: xs := by
      cases ps with
      | nil => exact ⟨p, [], rfl⟩
      | cons x xs => exact ⟨x, xs ++ [p], rfl⟩
    rw [List.cons_append, List.map_cons, scan]
    simp only [bodyG, e, Bool.not_false, Bool.true_and, cond_false, toB]
    rw [hx] at ih ⊢
    simp only [rdG]
    cases hl : lineF ⟨q.toArray⟩ with
    | none => rfl
    | some r => exact ih (out ++ [r]) (by simp only [List.length_cons] at h; omega)
theorem toB_map (c : UInt8) (s : ByteArray) : piecesB c s = (pieces c s.data.toList).map toB := rfl
theorem end_cases (s : ByteArray) : s.data.toList = [] ∨ (∃ l, s.data.toList = l ++ [10]) ∨ (∃ l c, s.data.toList = l ++ [c] ∧ c ≠ (10 : UInt8)) := by
  by_cases h : s.data.toList = []
  · exact .inl h
  · right
    by_cases hc : s.data.toList.getLast h = 10
    · exact .inl ⟨s.data.toList.dropLast, by rw [← hc, List.dropLast_concat_getLast]⟩
    · exact .inr ⟨s.data.toList.dropLast, s.data.toList.getLast h, by rw [List.dropLast_concat_getLast], hc⟩
/-- what Lines gives, read in order -/
theorem read_linesG {s : ByteArray} (hs : s.size ≤ 200000) : ∃ L ends, s82 s = some (L, ends, ()) ∧ L.length ≤ 200001 ∧ (∀ w ∈ L, w.size ≤ 200000) ∧ scan (bodyG lineF L.length ends) (fun b => .inr b) L 0 [] = rdG lineF (pieces 10 s.data.toList) 0 [] := by
  have e82 : s82 s = some (bif isE s then ([], true, ()) else (splitL (s113 s nl).1 nl, (s113 s nl).2.1, ())) := by
    unfold s82
    rw [if_pos (by omega)]
  rw [e82]
  rcases end_cases s with h | ⟨l, h⟩ | ⟨l, c, h, hc⟩
  · have : isE s = true := by unfold isE; rw [h]; rfl
    rw [this, h]
    exact ⟨[], true, rfl, by simp, (fun w hw => by cases hw), rfl⟩
  · have hE : isE s = false := by unfold isE; rw [h]; simp
    rw [hE, lines_end h]
    have hlen : l.length ≤ 200000 := by have := bytes_size s; rw [h, List.length_append] at this; simp only [List.length_singleton] at this; omega
    have hsz : (⟨l.toArray⟩ : ByteArray).size = l.length := by rw [← bytes_size]
    refine ⟨_, _, rfl, ?_, ?_, ?_⟩
    · have := splitL_len 10 ⟨l.toArray⟩
      rw [hsz] at this
      exact Nat.le_trans this (by omega)
    · intro w hw
      have := splitB_size _ _ _ w hw
      rw [hsz] at this
      omega
    · show scan (bodyG lineF (splitL _ _).length true) _ (splitL _ _) 0 [] = _
      rw [splitL_one, toB_map, h, pieces_append, scan_endsG]
  · have hE : isE s = false := by unfold isE; rw [h]; simp
    rw [hE, lines_open h hc]
    refine ⟨_, _, rfl, ?_, ?_, ?_⟩
    · exact Nat.le_trans (splitL_len 10 s) (by omega)
    · intro w hw
      exact Nat.le_trans (splitB_size _ _ _ w hw) hs
    · obtain ⟨ps, p, hp, hne⟩ := pieces_last 10 hc l
      show scan (bodyG lineF (splitL _ _).length false) _ (splitL _ _) 0 [] = _
      rw [splitL_one, toB_map, h, hp]
      exact scan_openG lineF hne ps _ 0 [] (by rw [List.length_map, List.length_append, List.length_singleton]; omega)
end
section
variable {α : Type} {lineF : ByteArray → Option α}
abbrev TauG (α : Type) : Type := (((List α) × Int × Int × Unit) ⊕ ((Int × Bool × Unit) × ((List α) × Unit))) ⊕ (Unit × ((List α) × Unit))
/-- how a reading ended -/
def EndsG (t : TauG α) (r : Nat ⊕ List α) : Prop :=
  (∃ (i : Nat) (out : List α), t = .inl (.inr (((i : Int), false, ()), (out, ()))) ∧ r = .inl i) ∨ (∃ out : List α, t = .inr ((), (out, ())) ∧ r = .inr out)
abbrev stG (j : Nat) (out : List α) : (Int × Unit) × ((List α) × Unit) := (((j : Int), ()), (out, ()))
theorem read_progG {L : List ByteArray} {ends : Bool} {f : ((Int × Unit) × ((List α) × Unit)) → Option (((Int × Unit) × ((List α) × Unit)) ⊕ TauG α)}
    (hbad : ∀ (j : Nat) (w : ByteArray) (out : List α), L[j]? = some w → out.length ≤ j → (!ends && ((j : Int) == (L.length : Int) - 1)) = true ∨ lineF w = none → ∃ out', f (stG j out) = some (.inr (.inl (.inr (((j : Int), false, ()), (out', ()))))))
    (hgood : ∀ (j : Nat) (w : ByteArray) (out : List α) (a : α), L[j]? = some w → out.length ≤ j → (!ends && ((j : Int) == (L.length : Int) - 1)) = false → lineF w = some a → f (stG j out) = some (.inl (stG (j + 1) (out ++ [a]))))
    (hend : ∀ out : List α, f (stG L.length out) = some (.inr (.inr ((), (out, ()))))) :
    ∀ (l : List ByteArray) (j : Nat) (out : List α) (k : Nat), L.drop j = l → j ≤ L.length → out.length ≤ j → l.length < k → ∃ t, iter k f (stG j out) = some t ∧ EndsG t (scan (bodyG lineF L.length ends) (fun b => .inr b) l j out)
  | [], j, out, 0, _, _, _, hk => by simp at hk
  | _ :: _, j, out, 0, _, _, _, hk => by simp at hk
  | [], j, out, k + 1, hl, hjl, ho, hk => by
    have hj : L.length ≤ j := by simpa using hl
    obtain rfl : j = L.length := Nat.le_antisymm hjl hj
    exact ⟨_, by simp only [iter, hend, Option.bind_some], .inr ⟨out, rfl, rfl⟩⟩
  | w :: l, j, out, k + 1, hl, hjl, ho, hk => by
    have hx : L[j]? = some w := by
      have := congrArg (·[0]?) hl
      simpa using this
    have hlt := (List.getElem?_eq_some_iff.1 hx).1
    have hl' : L.drop (j + 1) = l := by
      have := congrArg List.tail hl
      simpa using this
    by_cases hb : (!ends && ((j : Int) == (L.length : Int) - 1)) = true
    · obtain ⟨out', e⟩ := hbad j w out hx ho (.inl hb)
      refine ⟨_, by simp only [iter, e, Option.bind_some], .inl ⟨j, out', rfl, ?_⟩⟩
      simp only [scan, bodyG, hb, cond_true]
    · have hb : (!ends && ((j : Int) == (L.length : Int) - 1)) = false := by simpa using hb
      cases hf : lineF w with
      | none =>
        obtain ⟨out', e⟩ := hbad j w out hx ho (.inr hf)
        refine ⟨_, by simp only [iter, e, Option.bind_some], .inl ⟨j, out', rfl, ?_⟩⟩
        simp only [scan, bodyG, hb, cond_false, hf]
      | some a =>
        have e := hgood j w out a hx ho hb hf
        obtain ⟨t, h1, h2⟩ := read_progG hbad hgood hend l (j + 1) (out ++ [a]) k hl' hlt (by rw [List.length_append, List.length_singleton]; omega) (by simp only [List.length_cons] at hk; omega)
        refine ⟨t, by simp only [iter, e, Option.bind_some]; exact h1, ?_⟩
        simp only [scan, bodyG, hb, cond_false, hf]
        exact h2
theorem piecesG_single (c : UInt8) : ∀ (l p : List UInt8), pieces c l = [p] → p = l
  | [], p, h => by simp [pieces] at h; exact h
  | b :: l, p, h => by
    unfold pieces at h
    split at h
    · have := pieces_ne c l
      simp at h
      exact absurd h.2 this
    · split at h
      · rename_i hp
        exact absurd hp (pieces_ne c l)
      · rename_i q qs hp
        simp only [List.cons.injEq] at h
        obtain ⟨rfl, rfl⟩ := h
        rw [piecesG_single c l q hp]
theorem piecesG_first (c : UInt8) : ∀ (l p q : List UInt8) (ps : List (List UInt8)), pieces c l = p :: q :: ps → p.length + 1 ≤ l.length
  | [], p, q, ps, h => by simp [pieces] at h
  | b :: l, p, q, ps, h => by
    unfold pieces at h
    split at h
    · simp only [List.cons.injEq] at h
      obtain ⟨rfl, h⟩ := h
      simp
    · split at h
      · simp at h
      · rename_i p' ps' hp
        simp only [List.cons.injEq] at h
        obtain ⟨rfl, rfl⟩ := h
        have := piecesG_first c l p' q ps hp
        simp only [List.length_cons]
        omega
/-- what is behind the first line -/
def restG (x : ByteArray) (p : List UInt8) : ByteArray := ⟨(x.data.toList.drop (p.length + 1)).toArray⟩
theorem restG_size (x : ByteArray) (p : List UInt8) : (restG x p).size = x.size - (p.length + 1) := by
  unfold restG
  rw [← bytes_size, List.toList_toArray, List.length_drop, bytes_size]
/-- a text cut at its first line's end -/
theorem cutG {x : ByteArray} (hx : x.size ≤ 200000) : (∀ p, pieces 10 x.data.toList = [p] → s85 x (ByteArray.mk #[10]) = some (x, ByteArray.mk #[], false, ())) ∧
    (∀ p q ps, pieces 10 x.data.toList = p :: q :: ps → s85 x (ByteArray.mk #[10]) = some (⟨p.toArray⟩, restG x p, true, ())) := by
  have e : s85 x (ByteArray.mk #[10]) = some (⟨(Lib.cut x.data.toList [10]).1.toArray⟩, ⟨(Lib.cut x.data.toList [10]).2.1.toArray⟩, (Lib.cut x.data.toList [10]).2.2, ()) := by
    unfold s85
    rw [if_pos (by omega)]
  constructor
  · intro p hp
    rw [e, cut_one, hp]
  · intro p q ps hp
    rw [e, cut_one, hp]
    rfl
abbrev stR (x : ByteArray) (i : Nat) (out : List α) : (ByteArray × Int × Unit) × ((List α) × Unit) := ((x, (i : Int), ()), (out, ()))
theorem read_refG {s : ByteArray} {k : Nat} {f : ((ByteArray × Int × Unit) × ((List α) × Unit)) → Option (((ByteArray × Int × Unit) × ((List α) × Unit)) ⊕ TauG α)} (hs : s.size ≤ 200000) (hk : s.size < k)
    (hend : ∀ (x : ByteArray) (i : Nat) (out : List α), isE x = true → f (stR x i out) = some (.inr (.inr ((), (out, ())))))
    (hopen : ∀ (x : ByteArray) (i : Nat) (out : List α) (p : List UInt8), isE x = false → x.size ≤ 200000 → pieces 10 x.data.toList = [p] → ∃ out', f (stR x i out) = some (.inr (.inl (.inr (((i : Int), false, ()), (out', ()))))))
    (hbad : ∀ (x : ByteArray) (i : Nat) (out : List α) (p q : List UInt8) (ps : List (List UInt8)), isE x = false → x.size ≤ 200000 → out.length ≤ 200000 → (⟨p.toArray⟩ : ByteArray).size ≤ 200000 → pieces 10 x.data.toList = p :: q :: ps → lineF ⟨p.toArray⟩ = none → ∃ out', f (stR x i out) = some (.inr (.inl (.inr (((i : Int), false, ()), (out', ()))))))
    (hgood : ∀ (x : ByteArray) (i : Nat) (out : List α) (p q : List UInt8) (ps : List (List UInt8)) (a : α), isE x = false → x.size ≤ 200000 → out.length ≤ 200000 → i ≤ 200000 → (⟨p.toArray⟩ : ByteArray).size ≤ 200000 → pieces 10 x.data.toList = p :: q :: ps → lineF ⟨p.toArray⟩ = some a → f (stR x i out) = some (.inl (stR (restG x p) (i + 1) (out ++ [a])))) :
    ∃ t, iter k f (stR s 0 []) = some t ∧ EndsG t (rdG lineF (pieces 10 s.data.toList) 0 []) := by
  generalize hR : rdG lineF (pieces 10 s.data.toList) 0 [] = R
  refine iter_post (fun y => ∃ (x : ByteArray) (i : Nat) (out : List α), y = stR x i out ∧ out.length ≤ i ∧ i + x.size ≤ 200000 ∧ rdG lineF (pieces 10 x.data.toList) i out = R) (fun y => y.1.1.size) (fun t => EndsG t R) ?step k _ ⟨s, 0, [], rfl, Nat.le_refl _, by omega, hR⟩ hk
  rintro y ⟨x, i, out, rfl, ho, hi, hx⟩
  cases hE : isE x
  rotate_left
  · right
    refine ⟨_, hend x i out hE, .inr ⟨out, rfl, ?_⟩⟩
    have : x.data.toList = [] := by unfold isE at hE; simpa using hE
    rw [this] at hx
    exact hx.symm
  have hne : x.data.toList ≠ [] := by intro h; unfold isE at hE; rw [h] at hE; cases hE
  cases hp : pieces 10 x.data.toList with
  | nil => exact absurd hp (pieces_ne _ _)
  | cons p ps =>
    cases ps with
    | nil =>
      right
      have hpe := piecesG_single _ _ _ hp
      obtain ⟨out', e⟩ := hopen x i out p hE (by omega) hp
      refine ⟨_, e, .inl ⟨i, out', rfl, ?_⟩⟩
      rw [hp, hpe] at hx
      cases hd : x.data.toList with
      | nil => exact absurd hd hne
      | cons c l =>
        rw [hd] at hx
        exact hx.symm
    | cons q ps =>
      have hrest := pieces_rest 10 _ p q ps hp
      have hpx := piecesG_first 10 _ p q ps hp
      rw [bytes_size] at hpx
      have hsz : (⟨p.toArray⟩ : ByteArray).size = p.length := by rw [← bytes_size]
      rw [hp] at hx
      simp only [rdG] at hx
      cases hl : lineF ⟨p.toArray⟩ with
      | none =>
        rw [hl] at hx
        obtain ⟨out', e⟩ := hbad x i out p q ps hE (by omega) (by omega) (by omega) hp hl
        exact .inr ⟨_, e, .inl ⟨i, out', rfl, hx.symm⟩⟩
      | some a =>
        rw [hl] at hx
        have e := hgood x i out p q ps a hE (by omega) (by omega) (by omega) (by omega) hp hl
        refine .inl ⟨_, e, ⟨_, i + 1, _, rfl, ?_, ?_, ?_⟩, ?_⟩
        · rw [List.length_append, List.length_singleton]; omega
        · rw [restG_size]; omega
        · show rdG lineF (pieces 10 (restG x p).data.toList) (i + 1) _ = R
          unfold restG
          rw [List.toList_toArray, hrest]
          exact hx
        · show (restG x p).size < x.size
          rw [restG_size]; omega
/-- what a reading gives back -/
def resG (faults : List α → Int) : Nat ⊕ List α → List α × Int × Int × Unit
  | .inl i => ([], (i : Int), 9, ())
  | .inr out => bif faults out != 0 then ([], 0, faults out, ()) else (out, 0, 0, ())
def readG (lineF : ByteArray → Option α) (faults : List α → Int) (s : ByteArray) : List α × Int × Int × Unit := if s.size > 200000 then ([], 0, 2, ()) else resG faults (rdG lineF (pieces 10 s.data.toList) 0 [])
end
end Go.Vm
