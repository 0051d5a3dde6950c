/- LevelsReckoned: what is wrong with trips and charges. Own work. -/
import Derived.Test.YtfiembgemhonlaaBSpecF
import Derived.Test.YtfiembgemhonlaaLFn
import Derived.Test.YtfiembgemhonlaaVmS
set_option linter.unusedVariables false
set_option linter.unusedSimpArgs false
namespace Go.Vm
open Go.RowKit Go.Vm.Gain
abbrev Run := ByteArray × (Int × Int × Unit) × Int × Int × Unit
abbrev Chg := ByteArray × ByteArray × Int × Int × Int × Unit
abbrev Trn := Int × Int × Int × Unit
theorem in_not_out (a b c : Int) : (!s115 a b c) = s114 a b c := by
  unfold s115 s114
  rw [Bool.not_and]
  congr 1
  · rw [← decide_not]; congr 1; apply propext; omega
  · rw [← decide_not]; congr 1; apply propext; omega
/-! ### moments -/
def s121 (a : Int) : Bool := !s114 a 0 345686399999
def s32 (a : Int) : Int := s21 (s114 a 0 345686399999) 1
/-! ### trips -/
def runBad (t : Run) : Bool := decide (t.2.1.1 < 0) || (decide (t.2.1.1 ≥ t.2.1.2.1) || (decide (t.2.1.2.1 > 345686400000) || (s114 t.2.2.1 0 1000000000 || s114 t.2.2.2.1 0 1000000)))
def runB (t : Run) (p : Option Run) : Option Run ⊕ ((Int × Unit) ⊕ (Unit × Unit)) :=
  bif !key t.1 then .inr (.inl (5, ())) else bif runBad t then .inr (.inl (1, ())) else match p with
    | none => .inl (some t)
    | some o => bif sLt t.1 o.1 then .inr (.inl (7, ())) else bif sEq t.1 o.1 then bif decide (t.2.1.1 < o.2.1.2.1) then .inr (.inl (7, ())) else .inl (some t) else .inl (some t)
def runsFault (l : List Run) : Int := if l.length > 1000 then 2 else out1 (scan (fun _ => runB) (fun _ => .inr ((), ())) l 0 none)
def s146 := runsFault
def s41 := runsFault
def RJ (xs : List Run) (j : Nat) (p : Option Run) : Prop := (j = 0 ∧ p = none) ∨ ∃ o, 0 < j ∧ xs[j - 1]? = some o ∧ p = some o ∧ o.2.1.1 < o.2.1.2.1
theorem RJ_next {xs : List Run} (j : Nat) (x : Run) (b b' : Option Run) (hx : xs[j]? = some x) (h : runB x b = .inl b') : RJ xs (j + 1) b' := by
  unfold runB at h
  cases hk : key x.1
  · rw [hk] at h; cases h
  · cases hb : runBad x
    · have hlt : x.2.1.1 < x.2.1.2.1 := by
        simp only [runBad, Bool.or_eq_false_iff, decide_eq_false_iff_not] at hb
        omega
      rw [hk, hb] at h
      right
      refine ⟨x, by omega, hx, ?_, hlt⟩
      cases b with
      | none => simp only [Bool.not_true, cond_false, Sum.inl.injEq] at h; exact h.symm
      | some o =>
        simp only [Bool.not_true, cond_false] at h
        cases h1 : sLt x.1 o.1 <;> rw [h1] at h
        · cases h2 : sEq x.1 o.1 <;> rw [h2] at h
          · simp only [cond_false, Sum.inl.injEq] at h; exact h.symm
          · simp only [cond_false, cond_true] at h
            cases h3 : decide (x.2.1.1 < o.2.1.2.1) <;> rw [h3] at h
            · simp only [cond_false, Sum.inl.injEq] at h; exact h.symm
            · simp at h
        · simp at h
    · rw [hk, hb] at h; cases h
theorem prev_of {xs : List Run} {j : Nat} {o : Run} (hl : xs.length ≤ 9223372036854775807) (h : 0 < j) (ho : xs[j - 1]? = some o) : IntKind.i64.wrap ((j : Int) - 1) = ((j - 1 : Nat) : Int) := by
  have := (List.getElem?_eq_some_iff.1 ho).1
  rw [wrap_ok (by omega) (by omega)]; omega
theorem h146 (l : List Run) (hw : WFs A146 (l, ())) : ∃ k, f146 s113 s114 k l = some (s146 l, ()) := by
  simp only [WFs, WF] at hw
  have hl := hw.1.1
  refine ⟨l.length + 1, ?_⟩
  unfold f146 s146 runsFault
  rw [show (1000 : Int) = ((1000 : Nat) : Int) from rfl, len_gt]
  by_cases hn : l.length > 1000
  · simp [hn]
  · simp only [hn, decide_false, cond_false, if_false]
    rw [iter_scanI (β := Option Run) l (fun j _ => (((j : Int), ()), ())) (fun _ => runB) (fun _ => .inr ((), ())) (RJ l) none ?hb ?hs ?hk ?hJ ?h1 ?h2]
    · exact out1_bind _
    case hb => exact .inl ⟨rfl, rfl⟩
    case hs => rfl
    case hk => exact Nat.lt_succ_self _
    · intro j x b b' hx _ h
      exact RJ_next j x b b' hx h
    · intro j x b hx hJ
      simp only [lt_at hx, inR_at hx, rd_at hx, wrap_succ hx hl, cond_true, s113]
      unfold runB runBad
      cases !key x.1
      · simp only [cond_false]
        cases h1 : decide (x.2.1.1 < 0)
        · cases h2 : decide (x.2.1.1 ≥ x.2.1.2.1)
          · cases h3 : decide (x.2.1.2.1 > 345686400000)
            · cases h4 : s114 x.2.2.1 0 1000000000
              · cases h5 : s114 x.2.2.2.1 0 1000000
                · simp only [cond_false, Bool.or_false]
                  rcases hJ with ⟨rfl, rfl⟩ | ⟨o, hj, ho, rfl, hlt⟩
                  · rfl
                  · have e0 : (((j : Nat) : Int) == 0) = false := by simp; omega
                    simp only [e0, cond_false, prev_of hl hj ho, inR_at ho, rd_at ho, cond_true]
                    cases h6 : sLt x.1 o.1
                    · cases h7 : sEq x.1 o.1
                      · rfl
                      · simp only [cond_true, cond_false]
                        cases h8 : decide (x.2.1.1 < o.2.1.2.1)
                        · have : decide (x.2.1.1 ≤ o.2.1.1) = false := by
                            have := of_decide_eq_false h8
                            exact decide_eq_false (by omega)
                          rw [this]; rfl
                        · cases decide (x.2.1.1 ≤ o.2.1.1) <;> rfl
                    · rfl
                · rfl
              · rfl
            · rfl
          · rfl
        · rfl
      · rfl
    · intro b _
      simp
theorem h41 (l : List Run) (hw : WFs A41 (l, ())) : ∃ k, f41 s31 s115 k l = some (s41 l, ()) := by
  simp only [WFs, WF] at hw
  have hl := hw.1.1
  refine ⟨l.length + 1, ?_⟩
  unfold f41 s41 runsFault
  rw [show (1000 : Int) = ((1000 : Nat) : Int) from rfl, len_gt]
  by_cases hn : l.length > 1000
  · simp [hn]
  · simp only [hn, decide_false, cond_false, if_false]
    rw [iter_scanI (β := Option Run) l (fun j _ => (((j : Int), ()), ())) (fun _ => runB) (fun _ => .inr ((), ())) (RJ l) none ?hb ?hs ?hk ?hJ ?h1 ?h2]
    · exact out1_bind _
    case hb => exact .inl ⟨rfl, rfl⟩
    case hs => rfl
    case hk => exact Nat.lt_succ_self _
    · intro j x b b' hx _ h
      exact RJ_next j x b b' hx h
    · intro j x b hx hJ
      simp only [lt_at hx, inR_at hx, rd_at hx, wrap_succ hx hl, cond_true, s31, in_not_out]
      unfold runB runBad
      cases !key x.1
      · simp only [cond_false]
        cases h1 : decide (x.2.1.1 < 0)
        · cases h2 : decide (x.2.1.1 ≥ x.2.1.2.1)
          · cases h3 : decide (x.2.1.2.1 > 345686400000)
            · cases h4 : s114 x.2.2.1 0 1000000000
              · cases h5 : s114 x.2.2.2.1 0 1000000
                · simp only [cond_false, Bool.or_false]
                  rcases hJ with ⟨rfl, rfl⟩ | ⟨o, hj, ho, rfl, hlt⟩
                  · rfl
                  · have e0 : (((j : Nat) : Int) == 0) = false := by simp; omega
                    simp only [e0, cond_false, prev_of hl hj ho, inR_at ho, rd_at ho, cond_true]
                    cases h6 : sLt x.1 o.1
                    · cases h7 : sEq x.1 o.1
                      · rfl
                      · simp only [cond_true, cond_false]
                        cases h8 : decide (x.2.1.1 < o.2.1.2.1) <;> rfl
                    · rfl
                · rfl
              · rfl
            · rfl
          · rfl
        · rfl
      · rfl
    · intro b _
      simp
/-! ### charges -/
def chgBad (c : Chg) : Bool := (!(c.2.2.1 == -1 && c.2.2.2.1 == -1) && (s114 c.2.2.1 0 c.2.2.2.1 || decide (c.2.2.2.1 > 345686400000))) || s114 c.2.2.2.2.1 0 1000000
def chgB (c : Chg) (_ : Unit) : Unit ⊕ ((Int × Unit) ⊕ (Unit × Unit)) :=
  bif !key c.1 then .inr (.inl (5, ())) else bif !key c.2.1 then .inr (.inl (5, ())) else bif chgBad c then .inr (.inl (1, ())) else .inl ()
def chgsFault (l : List Chg) : Int := if l.length > 1000 then 2 else out1 (scan (fun _ => chgB) (fun _ => .inr ((), ())) l 0 ())
def s215 := chgsFault
def s42 := chgsFault
end Go.Vm
