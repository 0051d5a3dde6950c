/- RunTexts: texts cut at a byte. Plain law. Own work. -/
import Derived.Test.YtbjpkdbneopgkaaGreatDoorAHand
import Derived.Test.YtbjpkdbneopgkaaGreatDoorVmQ
import Derived.Lib.SplitLaws
set_option maxRecDepth 100000
set_option linter.unusedVariables false
set_option linter.unusedSimpArgs false
namespace Go.Vm
open Go.RowKit
/-- the pieces of a text between the places where a byte stands -/
def pieces (c : UInt8) : List UInt8 → List (List UInt8)
  | [] => [[]]
  | b :: l => if b = c then [] :: pieces c l else match pieces c l with
    | [] => [[b]]
    | p :: ps => (b :: p) :: ps
theorem pieces_ne (c : UInt8) : ∀ l, pieces c l ≠ []
  | [] => by simp [pieces]
  | b :: l => by
    unfold pieces
    split
    · simp
    · split <;> simp
theorem index_cons_ne {b c : UInt8} (l : List UInt8) (h : b ≠ c) : Lib.index (b :: l) [c] = if Lib.index l [c] == -1 then -1 else Lib.index l [c] + 1 := by
  have hp : ([c] : List UInt8).isPrefixOf (b :: l) = false := by simp [List.isPrefixOf, Ne.symm h]
  rw [Lib.index, hp]; simp
theorem index_cons_eq (c : UInt8) (l : List UInt8) : Lib.index (c :: l) [c] = 0 := by
  rw [Lib.index]; simp [List.isPrefixOf]
theorem index_count {c : UInt8} : ∀ {l : List UInt8}, (0 < l.count c → ∃ j : Nat, Lib.index l [c] = j) ∧ (l.count c = 0 → Lib.index l [c] = -1)
  | [] => ⟨fun h => by simp at h, fun _ => rfl⟩
  | b :: l => by
    obtain ⟨h1, h2⟩ := index_count (c := c) (l := l)
    by_cases h : b = c
    · subst h
      exact ⟨fun _ => ⟨0, index_cons_eq b l⟩, fun h => by simp at h⟩
    · rw [List.count_cons_of_ne (by simpa using h), index_cons_ne l h]
      refine ⟨fun hc => ?_, fun hc => ?_⟩
      · obtain ⟨j, hj⟩ := h1 hc
        refine ⟨j + 1, ?_⟩
        rw [hj, if_neg (by simp)]
        omega
      · rw [h2 hc]; rfl
theorem splitK_one (c : UInt8) : ∀ l : List UInt8, Lib.splitK [c] 0 (l.count c) l = pieces c l
  | [] => rfl
  | b :: l => by
    have ih := splitK_one c l
    by_cases h : b = c
    · subst h
      rw [List.count_cons_self]
      unfold Lib.splitK pieces
      rw [index_cons_eq, if_neg (by decide), if_pos rfl]
      simp only [Int.toNat_zero, Nat.add_zero, List.take_zero, List.length_singleton, Nat.zero_add, List.drop_succ_cons, List.drop_zero]
      rw [ih]
    · rw [List.count_cons_of_ne (by simpa using h)]
      unfold pieces
      rw [if_neg h, ← ih]
      cases hk : l.count c with
      | zero => simp only [Lib.splitK]
      | succ k =>
        obtain ⟨j, hj⟩ := index_count.1 (show 0 < l.count c by omega)
        have hi : Lib.index (b :: l) [c] = ((j + 1 : Nat) : Int) := by rw [index_cons_ne l h, hj, if_neg (by simp)]; omega
        unfold Lib.splitK
        rw [hj, hi, if_neg (by simp; omega), if_neg (by simp)]
        simp only [Int.toNat_natCast, Nat.add_zero, List.length_singleton, List.take_succ_cons, List.drop_succ_cons]
/-- .. as byte slices -/
def piecesB (c : UInt8) (s : ByteArray) : List ByteArray := (pieces c s.data.toList).map fun l => ⟨l.toArray⟩
theorem splitL_one (c : UInt8) (s : ByteArray) : splitL s ⟨#[c]⟩ = piecesB c s := by
  have h := Lib.splitB_data ⟨#[c]⟩ 0 (Lib.countB s ⟨#[c]⟩) s
  have hc : Lib.countB s ⟨#[c]⟩ = s.data.toList.count c := Lib.count_one c s.data.toList
  rw [hc] at h
  have h : (splitL s ⟨#[c]⟩).map (·.data.toList) = pieces c s.data.toList := by
    unfold splitL
    rw [hc, h]
    exact splitK_one c s.data.toList
  unfold piecesB
  rw [← h, List.map_map]
  have : ((fun l : List UInt8 => (⟨l.toArray⟩ : ByteArray)) ∘ fun x : ByteArray => x.data.toList) = id := by
    funext x
    exact bytes_of (by simp)
  rw [this, List.map_id]
/-- a text cut at the first such place -/
theorem cut_one (c : UInt8) : ∀ l : List UInt8, Lib.cut l [c] = match pieces c l with
    | p :: _ :: _ => (p, l.drop (p.length + 1), true)
    | _ => (l, [], false)
  | [] => rfl
  | b :: l => by
    have ih := cut_one c l
    have hne := pieces_ne c l
    by_cases h : b = c
    · subst h
      unfold Lib.cut pieces
      rw [index_cons_eq, if_pos (by decide), if_pos rfl]
      cases hp : pieces b l with
      | nil => exact absurd hp hne
      | cons p ps => rfl
    · unfold pieces
      rw [if_neg h]
      unfold Lib.cut at ih ⊢
      rw [index_cons_ne l h]
      cases hp : pieces c l with
      | nil => exact absurd hp hne
      | cons p ps =>
        rw [hp] at ih
        cases ps with
        | nil =>
          simp only at ih ⊢
          split at ih
          · simp at ih
          · rename_i hi
            have := Lib.index_ge l [c]
            have e : Lib.index l [c] = -1 := by omega
            rw [e]
            rfl
        | cons q ps =>
          simp only at ih ⊢
          split at ih
          · rename_i hi
            obtain ⟨j, hj⟩ : ∃ j : Nat, Lib.index l [c] = j := ⟨(Lib.index l [c]).toNat, by omega⟩
            rw [hj] at ih ⊢
            simp only [Int.toNat_natCast, List.length_singleton, Prod.mk.injEq, and_true] at ih
            have e0 : (if ((j : Int) == -1) = true then (-1 : Int) else (j : Int) + 1) = (j : Int) + 1 := if_neg (by simp)
            rw [e0, if_pos (by omega)]
            have e : ((j : Int) + 1).toNat = j + 1 := by omega
            have e3 : (b :: l).drop (j + 1 + [c].length) = l.drop (p.length + 1) := by rw [← ih.2]; rfl
            have e4 : (b :: l).drop ((b :: p).length + 1) = l.drop (p.length + 1) := rfl
            rw [e, List.take_succ_cons, ih.1, e3, e4]
          · simp at ih
theorem pieces_rest (c : UInt8) : ∀ (l p : List UInt8) (q : List UInt8) (ps : List (List UInt8)), pieces c l = p :: q :: ps → pieces c (l.drop (p.length + 1)) = q :: ps
  | [], p, q, ps, h => by simp [pieces] at h
  | b :: l, p, q, ps, h => by
    unfold pieces at h
    split at h
    · simp only [List.cons.injEq] at h
      obtain ⟨rfl, h⟩ := h
      simpa using h
    · split at h
      · simp at h
      · rename_i p' ps' hp
        simp only [List.cons.injEq] at h
        obtain ⟨rfl, rfl⟩ := h
        rw [List.length_cons, List.drop_succ_cons]
        exact pieces_rest c l p' q ps hp
theorem pieces_append (c : UInt8) : ∀ l : List UInt8, pieces c (l ++ [c]) = pieces c l ++ [[]]
  | [] => by simp [pieces]
  | b :: l => by
    have ih := pieces_append c l
    have hne := pieces_ne c l
    rw [List.cons_append]
    unfold pieces
    by_cases h : b = c
    · rw [if_pos h, if_pos h, ih]; rfl
    · rw [if_neg h, if_neg h, ih]
      cases hp : pieces c l with
      | nil => exact absurd hp hne
      | cons p ps => rfl
theorem pieces_last (c : UInt8) {x : UInt8} (hx : x ≠ c) : ∀ l : List UInt8, ∃ ps p, pieces c (l ++ [x]) = ps ++ [p] ∧ p ≠ []
  | [] => ⟨[], [x], by simp [pieces, hx], by simp⟩
  | b :: l => by
    obtain ⟨ps, p, h1, h2⟩ := pieces_last c hx l
    rw [List.cons_append]
    unfold pieces
    by_cases h : b = c
    · rw [if_pos h, h1]
      exact ⟨[] :: ps, p, rfl, h2⟩
    · rw [if_neg h, h1]
      cases ps with
      | nil => exact ⟨[], b :: p, rfl, by simp⟩
      | cons q ps => exact ⟨(b :: q) :: ps, p, rfl, h2⟩
end Go.Vm
