/- ShiftsCovered: who is tired. Own work. -/
import Derived.Test.YtfiembgemhonlaaSSpecD
set_option linter.unusedVariables false
set_option linter.unusedSimpArgs false
namespace Go.Vm
open Go.RowKit Go.Vm.Gain
def RunOK (x : Run) : Prop := 0 ≤ x.2.1.1 ∧ x.2.1.1 < x.2.1.2.1 ∧ x.2.1.2.1 ≤ 345686400000
theorem runs_ok {t : List Run} (h : runsFault t = 0) : t.length ≤ 1000 ∧ ∀ x ∈ t, RunOK x := by
  unfold runsFault at h
  split at h
  · cases h
  · refine ⟨by omega, fun x hx => ?_⟩
    have hb := runs_right t 0 none h x hx
    simp only [runBad, Bool.or_eq_false_iff, decide_eq_false_iff_not] at hb
    unfold RunOK
    omega
/-- what was driven since the last long break, at each trip -/
def workAt (br : Int) (l : List Run) : Nat → Int
  | 0 => 0
  | k + 1 => match l[k + 1]?, l[k]? with
    | some x, some p => if x.2.1.1 - p.2.1.2.1 < br then workAt br l k + (p.2.1.2.1 - p.2.1.1) else 0
    | _, _ => 0
theorem workAt_ok {br : Int} {l : List Run} (h : ∀ x ∈ l, RunOK x) : ∀ k, 0 ≤ workAt br l k ∧ workAt br l k ≤ 345686400000 * (k : Int)
  | 0 => by simp [workAt]
  | k + 1 => by
    have ih := workAt_ok (br := br) h k
    simp only [workAt]
    split
    · rename_i x p hx hp
      have := h p (List.mem_of_getElem? hp)
      unfold RunOK at this
      split
      · omega
      · omega
    · omega
theorem workAt_succ {br : Int} {l : List Run} {k : Nat} {x p : Run} (hx : l[k + 1]? = some x) (hp : l[k]? = some p) : workAt br l (k + 1) = if x.2.1.1 - p.2.1.2.1 < br then workAt br l k + (p.2.1.2.1 - p.2.1.1) else 0 := by
  simp only [workAt, hx, hp]
def tiredTo (r : Int × Int × Unit) (l : List Run) : Nat → List Int
  | 0 => []
  | k + 1 => if workAt r.2.1 l k ≥ r.1 then tiredTo r l k ++ [(k : Int)] else tiredTo r l k
theorem tiredTo_len (r : Int × Int × Unit) (l : List Run) : ∀ k, (tiredTo r l k).length ≤ k
  | 0 => by simp [tiredTo]
  | k + 1 => by
    have := tiredTo_len r l k
    simp only [tiredTo]
    split
    · simp; omega
    · omega
def tired (r : Int × Int × Unit) (l : List Run) : List Int := tiredTo r l l.length
theorem own_filter (v : ByteArray) : ∀ (t : List Run), t.filterMap (ownR v) = t.filter fun x => sEq x.1 v
  | [] => rfl
  | x :: t => by
    rw [List.filterMap_cons, List.filter_cons, own_filter v t]
    unfold ownR
    cases sEq x.1 v <;> rfl
/-- the trips of a vehicle -/
def mine (t : List Run) (v : ByteArray) : List Run := t.filter fun x => sEq x.1 v
def s49 (r : Int × Int × Unit) (t : List Run) (v : ByteArray) : Option (List Int × Int × Unit) :=
  if restBad r then some ([], 1, ()) else if runsFault t = 0 then (if key v then some (tired r (mine t v), 0, ()) else some ([], 5, ())) else some ([], runsFault t, ())
theorem h49 (r : Int × Int × Unit) (t : List Run) (v : ByteArray) (y : List Int × Int × Unit) (hw : WFs A49 (r, t, v, ())) (h : s49 r t v = some y) : ∃ k, f49 s113 s114 s146 s147 k r t v = some y := by
  unfold s49 at h
  by_cases hr : restBad r = true
  · rw [if_pos hr] at h
    cases h
    refine ⟨0, ?_⟩
    unfold f49
    unfold restBad at hr
    cases h1 : s114 r.1 1 86400000
    · rw [h1, Bool.false_or] at hr
      rw [hr]; rfl
    · rfl
  · rw [if_neg hr] at h
    have hr2 : s114 r.1 1 86400000 = false ∧ s114 r.2.1 1 86400000 = false := by
      unfold restBad at hr
      simpa using hr
    by_cases he : runsFault t = 0
    · rw [if_pos he] at h
      by_cases hk : key v = true
      · rw [if_pos hk] at h
        cases h
        obtain ⟨hl, hok⟩ := runs_ok he
        have e147 : s147 t v = some (mine t v, ()) := by
          unfold s147; rw [if_pos (by omega), own_filter]; rfl
        have hml : (mine t v).length ≤ 1000 := Nat.le_trans (List.length_filter_le _ _) hl
        have hmok : ∀ x ∈ mine t v, RunOK x := fun x hx => hok x (List.mem_filter.1 hx).1
        refine ⟨1001, ?_⟩
        unfold f49
        simp only [hr2.1, hr2.2, cond_false, show s146 t = 0 from he, bne_self_eq_false, s113, hk, Bool.not_true, e147, Option.bind_some]
        generalize mine t v = l at *
        rw [iter_path (s0 := (([], (0 : Int), (0 : Int), (0 : Int), ()), ())) (fun j => match j with
          | 0 => (([], (0 : Int), (0 : Int), (0 : Int), ()), ())
          | j + 1 => ((tiredTo r l (j + 1), workAt r.2.1 l j + ((l.getD j default).2.1.2.1 - (l.getD j default).2.1.1), (l.getD j default).2.1.2.1, ((j + 1 : Nat) : Int), ()), ())) (.inr ((tired r l, ()), ())) l.length ?hs ?hk ?h1 ?h2]
        · rfl
        case hs => rfl
        case hk => omega
        case h1 =>
          intro j hj
          have hx : l[j]? = some l[j] := List.getElem?_eq_getElem hj
          have hxo := hmok _ (List.getElem_mem hj)
          have hgd : l.getD j default = l[j] := by simp [List.getD, hx]
          generalize hxe : l[j] = x at *
          unfold RunOK at hxo
          have hwk := workAt_ok (br := r.2.1) hmok j
          have hwd : IntKind.i64.wrap (x.2.1.2.1 - x.2.1.1) = x.2.1.2.1 - x.2.1.1 := wrap_ok (by omega) (by omega)
          have hwd2 : IntKind.i64.wrap (workAt r.2.1 l j + (x.2.1.2.1 - x.2.1.1)) = workAt r.2.1 l j + (x.2.1.2.1 - x.2.1.1) := wrap_ok (by omega) (by omega)
          have hlen := tiredTo_len r l j
          have eA : decide ((tiredTo r l j).length + [(j : Int)].length ≤ 4294967296) = true := by
            simp only [List.length_cons, List.length_nil]
            exact decide_eq_true (by omega)
          cases j with
          | zero =>
            have e0 : decide (((0 : Nat) : Int) > 0) = false := by decide
            have e00 : decide ((0 : Int) > 0) = false := by decide
            have hx0 := hx
            have g1 := lt_at hx
            have g2 := inR_at hx
            have g3 := rd_at (d := (ByteArray.empty, ((0 : Int), (0 : Int), ()), (0 : Int), (0 : Int), ())) hx
            have g4 := wrap_succ hx (by omega)
            simp only [Int.natCast_zero] at g1 g2 g3 g4
            simp only [g1, g2, g3, g4, e00, cond_true, cond_false, Option.bind_some, workAt, tiredTo, hgd, Int.natCast_zero]
            simp only [workAt] at hwd2
            by_cases hq : (0 : Int) ≥ r.1
            · simp only [hq, decide_true, cond_true, if_true, hwd, hwd2, Option.bind_some]
              simp
            · simp only [hq, decide_false, cond_false, if_false, hwd, hwd2, Option.bind_some]
          | succ j =>
            have hp : l[j]? = some (l[j]'(by omega)) := List.getElem?_eq_getElem (by omega)
            have hpo := hmok _ (List.getElem_mem (show j < l.length by omega))
            have hgp : l.getD j default = l[j]'(by omega) := by simp [List.getD, hp]
            have hws := workAt_succ (br := r.2.1) hx hp
            generalize l[j]'(by omega) = p at *
            unfold RunOK at hpo
            have e0 : decide ((((j + 1 : Nat) : Int)) > 0) = true := decide_eq_true (by omega)
            have hgap : IntKind.i64.wrap (x.2.1.1 - p.2.1.2.1) = x.2.1.1 - p.2.1.2.1 := wrap_ok (by omega) (by omega)
            simp only [lt_at hx, inR_at hx, rd_at hx, wrap_succ hx (by omega), e0, cond_true, Option.bind_some, hgp, hgap, hgd]
            have hwork : (bif decide (x.2.1.1 - p.2.1.2.1 ≥ r.2.1) then (0 : Int) else workAt r.2.1 l j + (p.2.1.2.1 - p.2.1.1)) = workAt r.2.1 l (j + 1) := by
              rw [hws]
              by_cases hq : x.2.1.1 - p.2.1.2.1 < r.2.1
              · rw [if_pos hq, show decide (x.2.1.1 - p.2.1.2.1 ≥ r.2.1) = false from decide_eq_false (by omega)]; rfl
              · rw [if_neg hq, show decide (x.2.1.1 - p.2.1.2.1 ≥ r.2.1) = true from decide_eq_true (by omega)]; rfl
            have hb2 : ∀ {α β : Type} (b : Bool) (f : Int → α ⊕ ((Int × Unit) × Unit)), True := fun _ _ => trivial
            cases hd : decide (x.2.1.1 - p.2.1.2.1 ≥ r.2.1) <;> rw [hd] at hwork <;> simp only [cond_true, cond_false] at hwork <;> simp only [cond_true, cond_false, Option.bind_some, hwork]
            all_goals (
              show _ = some (Sum.inl ((tiredTo r l (j + 1 + 1), _, _, _, _), _))
              by_cases hq : workAt r.2.1 l (j + 1) ≥ r.1
              · have e5 : tiredTo r l (j + 1 + 1) = tiredTo r l (j + 1) ++ [((j + 1 : Nat) : Int)] := by rw [tiredTo, if_pos hq]
                simp only [hq, decide_true, cond_true, eA, Option.bind_some, e5, hwd, hwd2]
              · have e5 : tiredTo r l (j + 1 + 1) = tiredTo r l (j + 1) := by rw [tiredTo, if_neg hq]
                simp only [hq, decide_false, cond_false, Option.bind_some, e5, hwd, hwd2])
        case h2 =>
          unfold tired
          cases hl0 : l.length with
          | zero => simp [tiredTo]
          | succ n => simp
      · rw [if_neg hk] at h
        cases h
        refine ⟨0, ?_⟩
        unfold f49
        have hk' : key v = false := by simpa using hk
        simp only [hr2.1, hr2.2, cond_false, show s146 t = 0 from he, bne_self_eq_false, s113, hk', Bool.not_false, cond_true]
    · rw [if_neg he] at h
      cases h
      refine ⟨0, ?_⟩
      unfold f49
      have he' : (s146 t != 0) = true := by simpa [s146] using he
      simp only [hr2.1, hr2.2, cond_false, he', cond_true]
      rfl
end Go.Vm
