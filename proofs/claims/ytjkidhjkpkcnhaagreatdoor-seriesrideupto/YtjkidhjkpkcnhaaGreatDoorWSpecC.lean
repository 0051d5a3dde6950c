/- SeriesRide: series, as the reference checks them. Own work. -/
import Derived.Test.YtjkidhjkpkcnhaaGreatDoorWSpecB
set_option maxRecDepth 100000
set_option linter.unusedVariables false
set_option linter.unusedSimpArgs false
namespace Go.Vm
open Go.RowKit
def lastF : ByteArray → List Sr2 → Int
  | _, [] => 0
  | p, x :: l => bif srBad x != 0 then srBad x else bif leS x.1 p then 7 else lastF x.1 l
theorem lastF_some : ∀ (l : List Sr2) (q : Sr2), lastF q.1 l = lstG srBad srOrd (some q) l
  | [], q => rfl
  | x :: l, q => by
    by_cases h : srBad x = 0
    · have e : (srBad x != 0) = false := by simpa using h
      have h1 : oneG srBad srOrd (some q) x = bif leS x.1 q.1 then 7 else 0 := by unfold oneG; rw [e]; rfl
      simp only [lastF, lstG, e, cond_false, lastF_some l x]
      cases hle : leS x.1 q.1 <;> rw [hle] at h1
      · rw [if_pos (show oneG srBad srOrd (some q) x = 0 from h1)]; rfl
      · rw [if_neg (by rw [h1]; decide), h1]; rfl
    · have e : (srBad x != 0) = true := by simpa using h
      have h1 : oneG srBad srOrd (some q) x = srBad x := by unfold oneG; rw [e]; rfl
      simp only [lastF, lstG, e, cond_true]
      rw [if_neg (by rw [h1]; exact h), h1]
theorem srBad_key {x : Sr2} (h : srBad x = 0) : key x.1 = true := by
  unfold srBad at h
  cases hk : key x.1
  · rw [hk] at h; cases h
  · rfl
theorem lastF_none (l : List Sr2) : lastF (ByteArray.mk #[]) l = lstG srBad srOrd none l := by
  cases l with
  | nil => rfl
  | cons x l =>
    by_cases h : srBad x = 0
    · have e : (srBad x != 0) = false := by simpa using h
      have h1 : oneG srBad srOrd none x = 0 := by unfold oneG; rw [e]; rfl
      simp only [lastF, lstG, e, cond_false, lastF_some l x, leS_empty (srBad_key h)]
      rw [if_pos h1]
    · have e : (srBad x != 0) = true := by simpa using h
      have h1 : oneG srBad srOrd none x = srBad x := by unfold oneG; rw [e]; rfl
      simp only [lastF, lstG, e, cond_true]
      rw [if_neg (by rw [h1]; exact h), h1]
def lastB (_ : Nat) (x : Sr2) (p : ByteArray) : ByteArray ⊕ ((Int × Unit) ⊕ (Unit × Unit)) := bif srBad x != 0 then .inr (.inl (srBad x, ())) else bif leS x.1 p then .inr (.inl (7, ())) else .inl x.1
theorem lastB_scan : ∀ (l : List Sr2) (j : Nat) (p : ByteArray), (match scan lastB (fun _ => .inr ((), ())) l j p with | .inl z => some z | .inr _ => some ((0 : Int), ())) = some (lastF p l, ())
  | [], j, p => rfl
  | x :: l, j, p => by
    simp only [scan, lastB, lastF]
    cases srBad x != 0
    · simp only [cond_false]
      cases leS x.1 p
      · exact lastB_scan l (j + 1) x.1
      · rfl
    · rfl
theorem form_eq (a b : Bool) : (a == !b) = !(a == b) := by cases a <;> cases b <;> rfl
theorem h11 (l : List Sr2) (hw : WFs A11 (l, ())) : ∃ k, f11 s36 s71 k l = some (s11 l, ()) := by
  simp only [WFs, WF] at hw
  have hl := hw.1.1
  have hch : ∀ (j : Nat) (x : Sr2), l[j]? = some x → x.2.2.2.2.2.2.2.2.2.2.2.2.2.1.length ≤ 9223372036854775807 := fun j x hx => by
    have := hw.1.2 j x hx
    exact this.2.2.2.2.2.2.2.2.2.2.2.2.2.1.1
  clear hw
  refine ⟨l.length + 202, ?_⟩
  unfold f11 s11 seriesFault
  rw [show (100 : Int) = ((100 : Nat) : Int) from rfl, len_gt]
  by_cases hn : l.length > 100
  · simp [hn]
  · simp only [hn, decide_false, cond_false, if_false]
    rw [iter_scan0 (s0 := (((ByteArray.mk #[]), (0 : Int), ()), ())) (β := ByteArray) l (fun j b => ((b, (j : Int), ()), ())) lastB (fun _ => .inr ((), ())) (ByteArray.mk #[]) rfl (by omega) ?h1 (fun b => by simp)]
    · rw [← lastF_none]
      exact lastB_scan l 0 _
    case h1 =>
      intro j x b hx
      simp only [lt_at hx, inR_at hx, rd_at hx, wrap_succ hx hl, cond_true, s36, in_out, Bool.not_not]
      unfold lastB srBad
      cases !key x.1
      rotate_left
      · rfl
      cases !key x.2.1
      rotate_left
      · rfl
      cases !key x.2.2.1
      rotate_left
      · rfl
      cases !key x.2.2.2.1
      rotate_left
      · rfl
      cases decide ((x.1.size : Int) > 30)
      rotate_left
      · rfl
      cases sEq x.2.2.1 x.2.2.2.1
      rotate_left
      · rfl
      cases s74 x.2.2.2.2.1 0 x.2.2.2.2.2.1
      rotate_left
      · rfl
      cases decide (x.2.2.2.2.2.1 > 4000)
      rotate_left
      · rfl
      cases s74 x.2.2.2.2.2.2.1 1 52
      rotate_left
      · rfl
      cases s74 x.2.2.2.2.2.2.2.1 1 127
      rotate_left
      · rfl
      cases s74 x.2.2.2.2.2.2.2.2.1 0 1439
      rotate_left
      · rfl
      cases s74 x.2.2.2.2.2.2.2.2.2.1 (IntKind.i64.wrap (x.2.2.2.2.2.2.2.2.1 + 1)) 2880
      rotate_left
      · rfl
      cases s74 x.2.2.2.2.2.2.2.2.2.2.1 (-1440) 1440
      rotate_left
      · rfl
      cases s74 x.2.2.2.2.2.2.2.2.2.2.2.1 0 60
      rotate_left
      · rfl
      cases s74 x.2.2.2.2.2.2.2.2.2.2.2.2.1 0 60
      rotate_left
      · rfl
      cases (IntKind.i64.wrap (x.2.2.2.2.2.2.2.2.2.2.2.1 + x.2.2.2.2.2.2.2.2.2.2.2.2.1)) == (0 : Int)
      rotate_left
      · rfl
      simp only [cond_false]
      unfold changesFault
      rw [show (200 : Int) = ((200 : Nat) : Int) from rfl, len_gt]
      by_cases hn2 : x.2.2.2.2.2.2.2.2.2.2.2.2.2.1.length > 200
      · simp [hn2]
      simp only [hn2, decide_false, cond_false, if_false]
      have hcl := hch j x hx
      rw [iterG chBad chOrd (τ := (WT2 × Unit) ⊕ ((Int × Unit) ⊕ (Unit × Unit))) x.2.2.2.2.2.2.2.2.2.2.2.2.2.1 (fun e => .inr (.inl (e, ()))) (by omega) ?g1 (by simp)]
      · by_cases h : lstG chBad chOrd none x.2.2.2.2.2.2.2.2.2.2.2.2.2.1 = 0
        · rw [if_pos h, h]
          simp only [Option.bind_some, leS]
          cases (sLt x.1 b || sEq x.1 b) <;> rfl
        · have e : (lstG chBad chOrd none x.2.2.2.2.2.2.2.2.2.2.2.2.2.1 != 0) = true := by simpa using h
          rw [if_neg h, e]
          rfl
      case g1 =>
        intro i c hc
        have hstep := oneG_at (τ := (WT2 × Unit) ⊕ ((Int × Unit) ⊕ (Unit × Unit))) chOrd hc hcl zWT3 (A := some (.inr (.inl (.inr (.inl (7, ())))))) (B := some (.inl ((((i + 1 : Nat) : Int), ()), ())))
        have hform : (c.2.1 == (c.2.2.1 != (0 : Int))) = !(c.2.1 == (c.2.2.1 == (0 : Int))) := form_eq _ _
        simp only [lt_at hc, inR_at hc, rd_at hc, wrap_succ hc hcl, cond_true, hform]
        unfold oneG chBad
        cases s74 c.1 0 4000
        rotate_left
        · rfl
        cases s74 c.2.2.1 (-1440) 1440
        rotate_left
        · rfl
        cases !(c.2.1 == (c.2.2.1 == (0 : Int)))
        rotate_left
        · rfl
        refine hstep.trans ?_
        cases ordG chOrd (preG x.2.2.2.2.2.2.2.2.2.2.2.2.2.1 i) c <;> rfl
end Go.Vm
