/- Shifts: what is wrong with them, and whose each one is. Own work. -/
import Derived.Test.YtfiembgemhonlaaBSpecD
set_option linter.unusedVariables false
set_option linter.unusedSimpArgs false
namespace Go.Vm
open Go.RowKit Go.Vm.Gain
abbrev Wd := Int × Int × Unit
def s148 (a b : Wd) : Int := nz [s128 a.1 b.1, s128 a.2.1 b.2.1]
theorem h148 (a b : Wd) (hw : WFs A148 (a, b, ())) : ∃ k, f148 s127 s128 k a b = some (s148 a b, ()) := ⟨0, rfl⟩
def shBad (w : Wd) : Bool := decide (w.1 < 0) || (decide (w.1 ≥ w.2.1) || decide (w.2.1 > 345686400000))
def shB (w : Wd) (p : Option Wd) : Option Wd ⊕ ((Int × Unit) ⊕ (Unit × Unit)) :=
  bif shBad w then .inr (.inl (1, ())) else match p with
    | none => .inl (some w)
    | some o => bif decide (s148 w o < 0) then .inr (.inl (7, ())) else .inl (some w)
def shiftsFault (l : List Wd) : Int := if l.length > 500 then 2 else out1 (scan (fun _ => shB) (fun _ => .inr ((), ())) l 0 none)
def SJ (xs : List Wd) (j : Nat) (p : Option Wd) : Prop := (j = 0 ∧ p = none) ∨ ∃ o, 0 < j ∧ xs[j - 1]? = some o ∧ p = some o
theorem shB_next {x : Wd} {b b' : Option Wd} (h : shB x b = .inl b') : shBad x = false ∧ b' = some x ∧ ∀ o, b = some o → ¬ s148 x o < 0 := by
  unfold shB at h
  cases hb : shBad x <;> rw [hb] at h
  · refine ⟨rfl, ?_⟩
    cases b with
    | none => simp only [cond_false, Sum.inl.injEq] at h; exact ⟨h.symm, fun o h => by cases h⟩
    | some o =>
      simp only [cond_false] at h
      cases h2 : decide (s148 x o < 0) <;> rw [h2] at h
      · simp only [cond_false, Sum.inl.injEq] at h
        exact ⟨h.symm, fun o' ho => by cases ho; exact of_decide_eq_false h2⟩
      · cases h
  · cases h
theorem SJ_next {xs : List Wd} (j : Nat) (x : Wd) (b b' : Option Wd) (hx : xs[j]? = some x) (h : shB x b = .inl b') : SJ xs (j + 1) b' :=
  .inr ⟨x, by omega, hx, (shB_next h).2.1⟩
def s53 (l : List Wd) : Option (Int × Unit) := some (shiftsFault l, ())
theorem h53 (l : List Wd) (y : Int × Unit) (hw : WFs A53 (l, ())) (h : s53 l = some y) : ∃ k, f53 s148 k l = some y := by
  cases h
  simp only [WFs, WF] at hw
  have hl := hw.1.1
  refine ⟨l.length + 1, ?_⟩
  unfold f53 shiftsFault
  rw [show (500 : Int) = ((500 : Nat) : Int) from rfl, len_gt]
  by_cases hn : l.length > 500
  · simp [hn]
  · simp only [hn, decide_false, cond_false, if_false]
    rw [iter_scanI (β := Option Wd) l (fun j _ => (((j : Int), ()), ())) (fun _ => shB) (fun _ => .inr ((), ())) (SJ l) none ?hb ?hs ?hk ?hJ ?h1 ?h2]
    · exact out1_bind _
    case hb => exact .inl ⟨rfl, rfl⟩
    case hs => rfl
    case hk => exact Nat.lt_succ_self _
    · intro j x b b' hx _ h
      exact SJ_next j x b b' hx h
    · intro j x b hx hJ
      simp only [lt_at hx, inR_at hx, rd_at hx, wrap_succ hx hl, cond_true]
      unfold shB shBad
      cases h1 : decide (x.1 < 0)
      · cases h2 : decide (x.1 ≥ x.2.1)
        · cases h3 : decide (x.2.1 > 345686400000)
          · simp only [cond_false, Bool.or_false]
            rcases hJ with ⟨rfl, rfl⟩ | ⟨o, hj, ho, rfl⟩
            · rfl
            · have e0 : decide (((j : Nat) : Int) > 0) = true := by simp; omega
              simp only [e0, prev_ix hl hj ho, inR_at ho, rd_at ho, cond_true]
              cases decide (s148 x o < 0) <;> rfl
          · rfl
        · rfl
      · rfl
    · intro b _
      simp
/-! ### whose each shift is -/
/-- when each driver is free; whose each shift is -/
def rostStep (w : Wd) (b : List Int × List Int) : List Int × List Int :=
  match b.1.findIdx? (fun f => decide (f ≤ w.1)) with
  | some k => (b.1.set k w.2.1, b.2 ++ [(k : Int)])
  | none => (b.1 ++ [w.2.1], b.2 ++ [(b.1.length : Int)])
def rost (l : List Wd) : List Int × List Int := l.foldl (fun b w => rostStep w b) ([], [])
def s142 (l : List Wd) : Option (List Int × Int × Unit) := if l.length ≤ 4294967296 then some ((rost l).2, ((rost l).1.length : Int), ()) else none
theorem h142 (l : List Wd) (y : List Int × Int × Unit) (hw : WFs A142 (l, ())) (h : s142 l = some y) : ∃ k, f142 k l = some y := by
  unfold s142 at h
  split at h
  · rename_i hl
    cases h
    refine ⟨l.length + 2, ?_⟩
    unfold f142
    rw [iter_fold (β := List Int × List Int) l (fun j b => ((b.1, b.2, (j : Int), ()), ())) rostStep (fun b => .inr ((b.1, b.2, ()), ())) (fun j b => b.1.length ≤ j ∧ b.2.length = j) ([], []) ?hb ?hs ?hk ?hJ ?h1 ?h2]
    · rfl
    case hb => exact ⟨Nat.le_refl _, rfl⟩
    case hs => rfl
    case hk => omega
    · intro j x b hx hJ
      unfold rostStep
      split
      · simp only [List.length_set, List.length_append, List.length_singleton]; omega
      · simp only [List.length_append, List.length_singleton]; omega
    · intro j x b hx hJ
      obtain ⟨fr, out⟩ := b
      obtain ⟨hJ1, hJ2⟩ := hJ
      simp only at hJ1 hJ2
      have hjl := (List.getElem?_eq_some_iff.1 hx).1
      simp only [lt_at hx, inR_at hx, rd_at hx, wrap_succ hx (by omega), cond_true]
      rw [iter_find (s0 := (((0 : Int), ()), (x, ()))) fr (fun i => (((i : Int), ()), (x, ()))) (fun f => decide (f ≤ x.1)) (fun i => .inl (.inr (((i : Int), ()), (fr, (x.1, x.2.1, ()), ())))) (.inr ((), ((x.1, x.2.1, ()), ()))) rfl (by omega) ?g1 ?g2]
      case g1 =>
        intro i f hf
        simp only [lt_at hf, inR_at hf, rd_at hf, wrap_succ hf (by omega), cond_true]
        cases decide (f ≤ x.1) <;> rfl
      case g2 => simp
      unfold rostStep
      simp only [Option.bind_some]
      cases hfi : fr.findIdx? (fun f => decide (f ≤ x.1)) with
      | some i =>
        have hil : i < fr.length := by
          have := List.findIdx?_eq_some_iff_findIdx_eq.1 hfi
          omega
        have e1 : decide ((i : Int) < 0) = false := by simp
        have e2 : inR (i : Int) (fr.length : Int) = true := by simp [inR]; omega
        have e3 : decide (out.length + [(i : Int)].length ≤ 4294967296) = true := by simp; omega
        simp only [Option.bind_some, e1, cond_false, e2, cond_true, e3, Int.toNat_natCast]
      | none =>
        have e1 : decide ((-1 : Int) < 0) = true := by decide
        have e3 : decide (fr.length + [(0 : Int)].length ≤ 4294967296) = true := by simp; omega
        have e2 : inR (fr.length : Int) ((fr ++ [(0 : Int)]).length : Int) = true := by simp [inR]; omega
        have e4 : decide (out.length + [(fr.length : Int)].length ≤ 4294967296) = true := by simp; omega
        simp only [Option.bind_some, e1, e3, cond_true, e2, e4, Int.toNat_natCast]
        have e5 : List.set (fr ++ [(0 : Int)]) fr.length x.2.1 = fr ++ [x.2.1] := by
          rw [List.set_append]; simp
        rw [e5]
    · intro b _
      simp
  · cases h
def s45 (l : List Wd) : Option (Int × Int × Unit) := if shiftsFault l = 0 then some (((rost l).1.length : Int), 0, ()) else some (0, shiftsFault l, ())
theorem shift_len {l : List Wd} (h : shiftsFault l = 0) : l.length ≤ 500 := by
  unfold shiftsFault at h
  split at h
  · cases h
  · omega
theorem h45 (l : List Wd) (y : Int × Int × Unit) (hw : WFs A45 (l, ())) (h : s45 l = some y) : ∃ k, f45 s53 s142 k l = some y := by
  refine ⟨0, ?_⟩
  unfold s45 at h
  unfold f45 s53
  simp only [Option.bind_some]
  split at h
  · rename_i he
    cases h
    have hl := shift_len he
    unfold s142
    rw [if_pos (by omega)]
    simp [he]
  · rename_i he
    cases h
    have : (shiftsFault l != 0) = true := by simpa using he
    rw [this]; rfl
end Go.Vm
