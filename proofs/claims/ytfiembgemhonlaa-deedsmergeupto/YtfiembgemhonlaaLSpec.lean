/- LevelsReckoned, the law. Own work. -/
import Derived.Test.YtfiembgemhonlaaLSpecC
set_option linter.unusedVariables false
set_option linter.unusedSimpArgs false
namespace Go.Vm
open Go.RowKit Go.Vm.Gain
theorem allv_skip (at_ : Int) : ∀ (l : List Trn) (m n : Int), (∀ x ∈ l, x.1 > at_) → allv at_ m n l = m
  | [], _, _, _ => rfl
  | t :: l, m, n, h => by
    have h1 : decide (t.1 ≤ at_) = false := decide_eq_false (by have := h t (List.mem_cons_self ..); omega)
    simp only [allv, h1, cond_false]
    exact allv_skip at_ l m _ (fun x hx => h x (List.mem_cons_of_mem _ hx))
theorem brk_all (at_ : Int) : ∀ (l : List Trn) (n : Int), l.Pairwise (fun a b => a.1 ≤ b.1) → brk at_ n l = allv at_ n n l
  | [], _, _ => rfl
  | t :: l, n, h => by
    have h' := List.pairwise_cons.1 h
    by_cases hb : t.1 > at_
    · rw [allv_skip at_ (t :: l) n n (fun x hx => by
        rcases List.mem_cons.1 hx with rfl | hx
        · exact hb
        · have := h'.1 x hx
          omega)]
      simp only [brk, decide_eq_true hb, cond_true]
    · have h1 : decide (t.1 ≤ at_) = true := decide_eq_true (by omega)
      simp only [brk, allv, decide_eq_false hb, cond_false, h1, cond_true]
      exact brk_all at_ l _ h'.2
theorem lows_all : ∀ (l : List Trn) (n m : Int), (∀ x ∈ l, x.1 ≤ 345686400000) → lows n m l = (lvs n l).foldl mn m
  | [], _, _, _ => rfl
  | t :: l, n, m, h => by
    have h1 : decide (t.1 > 345686400000) = false := decide_eq_false (by have := h t (List.mem_cons_self ..); omega)
    simp only [lows, lvs, h1, cond_false, List.foldl_cons]
    exact lows_all l _ _ (fun x hx => h x (List.mem_cons_of_mem _ hx))
theorem runB_cases (x : Run) (p : Option Run) : (runB x p = .inl (some x) ∧ runBad x = false) ∨ ∃ e : Int, e ≠ 0 ∧ runB x p = .inr (.inl (e, ())) := by
  unfold runB
  cases key x.1
  · exact .inr ⟨5, by decide, rfl⟩
  · cases runBad x
    · cases p with
      | none => exact .inl ⟨rfl, rfl⟩
      | some o =>
        simp only
        cases sLt x.1 o.1
        · cases sEq x.1 o.1
          · exact .inl ⟨rfl, trivial⟩
          · cases decide (x.2.1.1 < o.2.1.2.1)
            · exact .inl ⟨rfl, trivial⟩
            · exact .inr ⟨7, by decide, rfl⟩
        · exact .inr ⟨7, by decide, rfl⟩
    · exact .inr ⟨1, by decide, rfl⟩
theorem runs_right : ∀ (l : List Run) (j : Nat) (p : Option Run), out1 (scan (fun _ => runB) (fun _ => .inr ((), ())) l j p) = 0 → ∀ t ∈ l, runBad t = false
  | [], _, _, _, t, ht => by cases ht
  | x :: l, j, p, h, t, ht => by
    simp only [scan] at h
    rcases runB_cases x p with ⟨e, hb⟩ | ⟨e, he, e2⟩
    · rw [e] at h
      rcases List.mem_cons.1 ht with rfl | ht
      · exact hb
      · exact runs_right l (j + 1) _ h t ht
    · rw [e2] at h
      exact absurd h he
theorem chgB_cases (x : Chg) : (chgB x () = .inl () ∧ chgBad x = false) ∨ ∃ e : Int, e ≠ 0 ∧ chgB x () = .inr (.inl (e, ())) := by
  unfold chgB
  cases key x.1
  · exact .inr ⟨5, by decide, rfl⟩
  · cases key x.2.1
    · exact .inr ⟨5, by decide, rfl⟩
    · cases chgBad x
      · exact .inl ⟨rfl, rfl⟩
      · exact .inr ⟨1, by decide, rfl⟩
theorem chgs_right : ∀ (l : List Chg) (j : Nat), out1 (scan (fun _ => chgB) (fun _ => .inr ((), ())) l j ()) = 0 → ∀ t ∈ l, chgBad t = false
  | [], _, _, t, ht => by cases ht
  | x :: l, j, h, t, ht => by
    simp only [scan] at h
    rcases chgB_cases x with ⟨e, hb⟩ | ⟨e, he, e2⟩
    · rw [e] at h
      rcases List.mem_cons.1 ht with rfl | ht
      · exact hb
      · exact chgs_right l (j + 1) h t ht
    · rw [e2] at h
      exact absurd h he
theorem nz_cons (a : Int) (l : List Int) : nz (a :: l) = 0 ↔ a = 0 ∧ nz l = 0 := by
  simp only [nz]
  by_cases h : a = 0 <;> simp [h]
theorem trns_end {v : ByteArray} {t : List Run} {c : List Chg} (ht : s146 t = 0) (hc : s215 c = 0) : ∀ x ∈ trns v t c, x.1 ≤ 345686400000 := by
  intro x hx
  have hx := (stab_same W267 (things v t c)).mem W267 hx
  unfold s146 runsFault at ht
  unfold s215 chgsFault at hc
  split at ht
  · cases ht
  · split at hc
    · cases hc
    · rcases List.mem_append.1 hx with hx | hx
      · obtain ⟨a, ha, hax⟩ := List.mem_filterMap.1 hx
        have hb := chgs_right c 0 hc a ha
        unfold thC at hax
        cases h1 : sEq a.1 v <;> rw [h1] at hax
        · cases hax
        · cases h2 : decide (a.2.2.2.1 ≥ 0) <;> rw [h2] at hax
          · cases hax
          · simp only [cond_true, Option.some.injEq] at hax
            subst hax
            have h2 := of_decide_eq_true h2
            simp only [chgBad, Bool.or_eq_false_iff, Bool.and_eq_false_iff, Bool.not_eq_false', Bool.and_eq_true, beq_iff_eq, decide_eq_false_iff_not] at hb
            simp only
            omega
      · obtain ⟨a, ha, hax⟩ := List.mem_filterMap.1 hx
        have hb := runs_right t 0 none ht a ha
        unfold thR at hax
        cases h1 : sEq a.1 v <;> rw [h1] at hax
        · cases hax
        · simp only [cond_true, Option.some.injEq] at hax
          subst hax
          simp only [runBad, Bool.or_eq_false_iff, decide_eq_false_iff_not] at hb
          simp only
          omega
theorem trns_sorted (v : ByteArray) (t : List Run) (c : List Chg) : (trns v t c).Pairwise (fun a b => a.1 ≤ b.1) := by
  refine (stab_order W267 (things v t c)).imp ?_
  intro a b h
  have : ¬ (b.1 < a.1 ∨ (b.1 = a.1 ∧ b.2.1 < a.2.1)) := by
    rw [← lt267, h]; simp
  omega
theorem nz4 (a b c d : Int) : nz [a, b, c, d] = if nz [a, b, c] = 0 then d else nz [a, b, c] := by
  simp only [nz]
  by_cases ha : a = 0
  · by_cases hb : b = 0
    · by_cases hc : c = 0
      · by_cases hd : d = 0 <;> simp [ha, hb, hc, hd]
      · simp [ha, hb, hc]
    · simp [ha, hb]
  · simp [ha]
theorem nzp (a b : Int) : nz [a, b] = if a = 0 then b else a := by
  simp only [nz]
  by_cases ha : a = 0
  · by_cases hb : b = 0 <;> simp [ha, hb]
  · simp [ha]
theorem fault_L (a b c x m : Int) : (bif decide (x < 0) then (some (.inr ((nz [a, b, c, s21 true 1], ()), ())) : Option ((Bool × Unit) ⊕ ((Int × Unit) × Unit))) else some (.inr ((nz [a, b, c, s21 (decide (x > m)) 1], ()), ()))) = some (.inr ((nz [a, b, c, s21 (s114 x 0 m) 1], ()), ())) := by
  unfold s114
  cases decide (x < 0) <;> rfl
def s5 (v : Veh) (t : List Run) (c : List Chg) (st at_ : Int) : Option (Bool × Unit) := if t.length ≤ 4294967296 ∧ c.length ≤ 4294967296 then some (true, ()) else none
theorem h5 (v : Veh) (t : List Run) (c : List Chg) (st at_ : Int) (y : Bool × Unit) (hw : WFs A5 (v, t, c, st, at_, ())) (h : s5 v t c st at_ = some y) :
    ∃ k, f5 s14 s20 s21 s24 s32 s37 s38 s39 s40 s41 s42 s43 s44 k v t c st at_ = some y := by
  unfold s5 at h
  split at h
  · rename_i hl
    cases h
    refine ⟨0, ?_⟩
    unfold f5
    have e1 : s38 t = some (t, ()) := by unfold s38; rw [if_pos hl.1]
    have e2 : s39 c = some (c, ()) := by unfold s39; rw [if_pos hl.2]
    have e136 : nz [s14 [v], s41 t, s42 c, s21 (s114 st 0 v.2.1) 1] = s136 v t c st := nz4 _ _ _ _
    simp only [e1, e2, Option.bind_some, s20, fault_L, e136, s24_true, nzp]
    unfold s37 f37
    by_cases hE : s136 v t c st = 0
    · have hne : (s136 v t c st != 0) = false := by simp [hE]
      have h0 : nz [s12 [v], s146 t, s215 c] = 0 := by
        unfold s136 at hE
        by_cases h : nz [s12 [v], s146 t, s215 c] = 0
        · exact h
        · rw [if_neg h] at hE; exact absurd hE h
      obtain ⟨_, h0⟩ := (nz_cons _ _).1 h0
      obtain ⟨ht, h0⟩ := (nz_cons _ _).1 h0
      obtain ⟨hc, _⟩ := (nz_cons _ _).1 h0
      have lt : t.length ≤ 1000 := by
        unfold s146 runsFault at ht
        split at ht
        · cases ht
        · omega
      have lc : c.length ≤ 1000 := by
        unfold s215 chgsFault at hc
        split at hc
        · cases hc
        · omega
      have e40 : s40 v t c st = some (lows st st (trns v.1 t c), 0, ()) := by
        unfold s40; rw [if_pos hE, if_pos (by omega)]
      have e44 : s44 v.1 t c st = some (lows st st (trns v.1 t c), ()) := by
        unfold s44; rw [if_pos (by omega), lows_all _ _ _ (trns_end ht hc)]
      have e43 : s43 v.1 t c st at_ = some (brk at_ st (trns v.1 t c), ()) := by
        unfold s43; rw [if_pos (by omega), brk_all at_ _ _ (trns_sorted v.1 t c)]
      have e137 : s137 v.1 t c st at_ = some (brk at_ st (trns v.1 t c), ()) := by
        unfold s137; rw [if_pos (by omega)]
      have e32 : s32 at_ = s21 (s114 at_ 0 345686399999) 1 := rfl
      have e121 : (!s121 at_) = s114 at_ 0 345686399999 := by unfold s121; simp
      simp only [hE, hne, cond_false, e121, e32, if_true, e40, e137, e43, e44, beq_self_eq_true, cond_true, Option.bind_some]
      cases s114 at_ 0 345686399999
      · simp [s21]
      · simp [s21]
    · have hne : (s136 v t c st != 0) = true := by simp [hE]
      have hne2 : (s136 v t c st == 0) = false := by simp [hE]
      have e40 : s40 v t c st = some (0, s136 v t c st, ()) := by
        unfold s40; rw [if_neg hE]
      simp only [hne, hne2, cond_true, if_neg hE, cond_false, Option.bind_some, e40, beq_self_eq_true]
  · cases h
end Go.Vm
