/- LevelsReckoned: levels. Own work. -/
import Derived.Test.YtfiembgemhonlaaLSpecB
set_option linter.unusedVariables false
set_option linter.unusedSimpArgs false
namespace Go.Vm
open Go.RowKit Go.Vm.Gain
theorem wrap_last {n : Nat} (h : n ≤ 9223372036854775807) : IntKind.i64.wrap (((n + 1 : Nat) : Int) - 1) = (n : Int) := by
  rw [wrap_ok (by omega) (by omega)]; omega
def s140 (v : ByteArray) (t : List Run) (c : List Chg) (st : Int) : Option (List Int × List Int × Unit) :=
  if t.length + c.length ≤ 4294967290 then some ((-1) :: (trns v t c).map (·.1), st :: lvs st (trns v t c), ()) else none
theorem h140 (v : ByteArray) (t : List Run) (c : List Chg) (st : Int) (y : List Int × List Int × Unit) (hw : WFs A140 (v, t, c, st, ())) (h : s140 v t c st = some y) : ∃ k, f140 s218 k v t c st = some y := by
  unfold s140 at h
  split at h
  · rename_i hn
    cases h
    refine ⟨t.length + c.length + 1, ?_⟩
    unfold f140
    rw [collect c (thC v) [] (by omega) (by simp; omega) ?h1 ?h2]
    · simp only [Option.bind_some]
      have hl := List.length_filterMap_le (thC v) c
      rw [collect t (thR v) ([] ++ c.filterMap (thC v)) (k := t.length + c.length + 1) (by omega) (by simp only [List.nil_append]; omega) ?h3 ?h4]
      · simp only [Option.bind_some, List.nil_append]
        have hlen := things_len v t c
        have hts := trns_len v t c
        rw [show s218 (c.filterMap (thC v) ++ t.filterMap (thR v)) = some (trns v t c) from by
          unfold s218
          rw [s219_eq]
          exact if_pos (show (things v t c).length ≤ _ by omega)]
        simp only [Option.bind_some]
        generalize trns v t c = l at *
        rw [iter_scanI (β := List Int × Int) (s0 := (([(-1 : Int)], [st], (0 : Int), ()), ())) l (fun j b => (((-1) :: (l.take j).map (·.1), b.1 ++ [b.2], (j : Int), ()), ())) (fun _ t b => .inl (b.1 ++ [b.2], stp b.2 t)) (fun b => .inr (((-1) :: l.map (·.1), b.1 ++ [b.2], ()), ())) (fun j b => b.1.length = j) ([], st) rfl rfl (by omega) ?hJ ?h5 ?h6]
        · have key : ∀ (m : List Trn) (j : Nat) (b : List Int × Int), scan (β := List Int × Int) (τ := (List Int × List Int × Unit) ⊕ ((List Int × List Int × Unit) × Unit)) (fun _ t b => .inl (b.1 ++ [b.2], stp b.2 t)) (fun b => .inr (((-1) :: l.map (·.1), b.1 ++ [b.2], ()), ())) m j b = .inr (((-1) :: l.map (·.1), b.1 ++ b.2 :: lvs b.2 m, ()), ()) := by
            intro m
            induction m with
            | nil => intro j b; rfl
            | cons x m ih =>
              intro j b
              simp only [scan, ih, lvs, List.append_assoc, List.singleton_append]
          rw [key]
          rfl
        · intro j x b b' hx hb h
          cases h
          simp [hb]
        · intro j x b hx hb
          have hj := (List.getElem?_eq_some_iff.1 hx).1
          have e1 : (b.1 ++ [b.2]).length = j + 1 := by simp [hb]
          have e2 : ((-1 : Int) :: (l.take j).map (·.1)).length = j + 1 := by simp; omega
          have i1 : inR (j : Int) ((j + 1 : Nat) : Int) = true := inR_of (by omega) (by omega)
          have r1 : rd (0 : Int) (b.1 ++ [b.2]) (j : Int) = b.2 := rd_mid 0 (by rw [hb])
          have t1 : (l.take (j + 1)).map (·.1) = (l.take j).map (·.1) ++ [x.1] := by
            rw [List.take_add_one, List.map_append, hx]; rfl
          simp only [lt_at hx, inR_at hx, rd_at hx, wrap_succ hx (by omega), cond_true, e1, e2, wrap_last (show j ≤ 9223372036854775807 by omega), i1, r1, List.length_singleton]
          have d1 : decide (j + 1 + 1 ≤ 4294967296) = true := decide_eq_true (by omega)
          simp only [d1, cond_true, stp, t1]
          cases x.2.1 == 0 <;> simp only [cond_true, cond_false, Option.bind_some] <;> rfl
        · intro b hb
          simp
      · intro j x b hx hb
        simp only [lt_at hx, inR_at hx, rd_at hx, wrap_succ hx (by omega), cond_true, thR]
        have : decide (b.length + [((x.2.1.2.1, 1, x.2.2.2.1, ()) : Trn)].length ≤ 4294967296) = true := decide_eq_true (by simp only [List.length_singleton]; omega)
        cases sEq x.1 v <;> simp only [cond_true, cond_false, this]
      · intro b
        simp
    · intro j x b hx hb
      simp only [lt_at hx, inR_at hx, rd_at hx, wrap_succ hx (by omega), cond_true, thC]
      have : decide (b.length + [((x.2.2.2.1, 0, x.2.2.2.2.1, ()) : Trn)].length ≤ 4294967296) = true := decide_eq_true (by simp only [List.length_singleton]; omega)
      cases sEq x.1 v
      · rfl
      · cases decide (x.2.2.2.1 ≥ 0) <;> simp only [cond_true, cond_false, this]
    · intro b
      simp
  · cases h
def allv (at_ : Int) : Int → Int → List Trn → Int
  | m, _, [] => m
  | m, n, t :: l => allv at_ (bif decide (t.1 ≤ at_) then stp n t else m) (stp n t) l
def s43 (v : ByteArray) (t : List Run) (c : List Chg) (st at_ : Int) : Option (Int × Unit) := if t.length + c.length ≤ 4294967290 then some (allv at_ st st (trns v t c), ()) else none
theorem lvs_len (n : Int) : ∀ l : List Trn, (lvs n l).length = l.length
  | [] => rfl
  | t :: l => by simp only [lvs, List.length_cons, lvs_len (stp n t) l]
theorem lvs_at : ∀ (l : List Trn) (n : Int) (ls : List Int) (at_ m : Int), ls = lvs n l → allv at_ m n l = ((l.map (·.1)).zip ls).foldl (fun m p => bif decide (p.1 ≤ at_) then p.2 else m) m
  | [], n, ls, at_, m, h => by subst h; rfl
  | t :: l, n, ls, at_, m, h => by
    subst h
    simp only [allv, lvs, List.map_cons, List.zip_cons_cons, List.foldl_cons]
    exact lvs_at l (stp n t) _ at_ _ rfl
theorem h43 (v : ByteArray) (t : List Run) (c : List Chg) (st at_ : Int) (y : Int × Unit) (hw : WFs A43 (v, t, c, st, at_, ())) (h : s43 v t c st at_ = some y) : ∃ k, f43 s140 k v t c st at_ = some y := by
  unfold s43 at h
  split at h
  · rename_i hn
    cases h
    refine ⟨t.length + c.length + 3, ?_⟩
    unfold f43
    rw [show s140 v t c st = some ((-1) :: (trns v t c).map (·.1), st :: lvs st (trns v t c), ()) from if_pos hn]
    simp only [Option.bind_some]
    have hts := trns_len v t c
    generalize trns v t c = l at *
    have hz : ((((-1) :: l.map (·.1) : List Int)).zip (st :: lvs st l)).length = ((-1 : Int) :: l.map (·.1)).length := by simp [lvs_len]
    have hz2 : ((((-1) :: l.map (·.1) : List Int)).zip (st :: lvs st l)).length = (st :: lvs st l).length := by simp [lvs_len]
    have hz3 : ((((-1) :: l.map (·.1) : List Int)).zip (st :: lvs st l)).length = l.length + 1 := by simp [lvs_len]
    rw [iter_scan0 (β := Int) ((((-1) :: l.map (·.1) : List Int)).zip (st :: lvs st l)) (fun j n => ((n, (j : Int), ()), ())) (fun _ p n => .inl (bif decide (p.1 ≤ at_) then p.2 else n)) (fun n => .inr ((n, ()), ())) st ?hs ?hk ?h1 ?h2]
    · have key : ∀ (m : List (Int × Int)) (j : Nat) (n : Int), scan (β := Int) (τ := (Int × Unit) ⊕ ((Int × Unit) × Unit)) (fun _ (p : Int × Int) n => .inl (bif decide (p.1 ≤ at_) then p.2 else n)) (fun n => .inr ((n, ()), ())) m j n = .inr ((m.foldl (fun m p => bif decide (p.1 ≤ at_) then p.2 else m) n, ()), ()) := by
        intro m
        induction m with
        | nil => intro j n; rfl
        | cons p m ih => intro j n; simp only [scan, ih, List.foldl_cons]
      rw [key]
      simp only [Option.bind_some, List.zip_cons_cons, List.foldl_cons]
      rw [lvs_at l st _ at_ st rfl]
      have : (bif decide ((-1 : Int) ≤ at_) then st else st) = st := by cases decide ((-1 : Int) ≤ at_) <;> rfl
      rw [this]
    case hs => rfl
    case hk => omega
    · intro j p b hx
      have hx1 : ((-1 : Int) :: l.map (·.1))[j]? = some p.1 := (List.getElem?_zip_eq_some.1 hx).1
      have hx2 : (st :: lvs st l)[j]? = some p.2 := (List.getElem?_zip_eq_some.1 hx).2
      have hj := (List.getElem?_eq_some_iff.1 hx).1
      simp only [lt_at hx1, inR_at hx1, rd_at hx1, inR_at hx2, rd_at hx2, wrap_succ hx (by omega), cond_true]
      cases decide (p.1 ≤ at_) <;> rfl
    · intro b
      rw [hz]
      simp
  · cases h
def mn (m y : Int) : Int := if decide (y < m) then y else m
def s141 (l : List Int) : Option (Int × Unit) := match l with | [] => none | x :: m => some (m.foldl mn x, ())
theorem h141 (l : List Int) (y : Int × Unit) (hw : WFs A141 (l, ())) (h : s141 l = some y) : ∃ k, f141 k l = some y := by
  cases l with
  | nil => cases h
  | cons x m =>
    cases h
    simp only [WFs, WF] at hw
    have hl := hw.1.1
    refine ⟨(x :: m).length + 1, ?_⟩
    unfold f141
    have c1 : decide ((((x :: m).length : Nat) : Int) < 1) = false := decide_eq_false (by simp only [List.length_cons]; omega)
    have c2 : inR (0 : Int) (((x :: m).length : Nat) : Int) = true := inR_of (by omega) (by simp only [List.length_cons]; omega)
    have c3 : rd (0 : Int) (x :: m) 0 = x := rfl
    simp only [c1, c2, c3, cond_true, cond_false]
    have key := iter_scanJ (f := fun (y1 : (Int × Int × Unit) × Unit) =>
          bif (decide (y1.1.2.1 < (((x :: m).length : Nat) : Int))) then
            bif (inR y1.1.2.1 (((x :: m).length : Nat) : Int)) then
              (some (.inl (((if (decide ((rd (α := Int) (0 : Int) (x :: m) y1.1.2.1) < y1.1.1)) then (rd (α := Int) (0 : Int) (x :: m) y1.1.2.1) else y1.1.1), (IntKind.i64.wrap (y1.1.2.1 + (1 : Int))), ()), ())) : Option (((Int × Int × Unit) × Unit) ⊕ ((Int × Unit) ⊕ ((Int × Unit) × Unit))))
            else
              none
          else
            some (.inr (.inr ((y1.1.1, ()), ())))) (x :: m) (fun j n => ((n, (j : Int), ()), ())) (fun _ y n => .inl (mn n y)) (fun n => .inr ((n, ()), ())) (fun _ _ => True) (fun _ _ _ _ _ _ _ => trivial)
      (by
        intro j y b hx _
        simp only [lt_at hx, inR_at hx, rd_at hx, wrap_succ hx hl, cond_true, mn])
      (by
        intro b _
        simp) m 1 ((x :: m).length + 1) x trivial rfl (by simp) (by simp only [List.length_cons]; omega)
    have key2 : ∀ (m : List Int) (j : Nat) (n : Int), scan (β := Int) (τ := (Int × Unit) ⊕ ((Int × Unit) × Unit)) (fun _ y n => .inl (mn n y)) (fun n => .inr ((n, ()), ())) m j n = .inr ((m.foldl mn n, ()), ()) := by
      intro m
      induction m with
      | nil => intro j n; rfl
      | cons p m ih => intro j n; simp only [scan, ih, List.foldl_cons]
    rw [key2] at key
    have key' := congrArg (fun o => Option.bind o fun r => match r with | .inl z => some z | .inr z2 => some (z2.1.1, ())) key
    exact key'
def s44 (v : ByteArray) (t : List Run) (c : List Chg) (st : Int) : Option (Int × Unit) := if t.length + c.length ≤ 4294967290 then some ((lvs st (trns v t c)).foldl mn st, ()) else none
theorem h44 (v : ByteArray) (t : List Run) (c : List Chg) (st : Int) (y : Int × Unit) (hw : WFs A44 (v, t, c, st, ())) (h : s44 v t c st = some y) : ∃ k, f44 s140 s141 k v t c st = some y := by
  unfold s44 at h
  split at h
  · rename_i hn
    cases h
    refine ⟨0, ?_⟩
    unfold f44
    rw [show s140 v t c st = some ((-1) :: (trns v t c).map (·.1), st :: lvs st (trns v t c), ()) from if_pos hn]
    rfl
  · cases h
/-! ### the program's -/
def s136 (v : Veh) (t : List Run) (c : List Chg) (st : Int) : Int := if nz [s12 [v], s146 t, s215 c] = 0 then s21 (s114 st 0 v.2.1) 1 else nz [s12 [v], s146 t, s215 c]
theorem h136 (v : Veh) (t : List Run) (c : List Chg) (st : Int) (hw : WFs A136 (v, t, c, st, ())) : ∃ k, f136 s12 s114 s123 s146 s215 k v t c st = some (s136 v t c st, ()) := by
  refine ⟨0, ?_⟩
  unfold f136 s136 s123
  by_cases h : nz [s12 [v], s146 t, s215 c] = 0
  · simp only [h, beq_self_eq_true, cond_true, if_true]
    cases s114 st 0 v.2.1 <;> rfl
  · have : (nz [s12 [v], s146 t, s215 c] == 0) = false := by simpa using h
    simp only [this, cond_false, if_neg h]
def s37 (v : Veh) (t : List Run) (c : List Chg) (st at_ : Int) : Option (Int × Int × Unit) := f37 s121 s136 s137 0 v t c st at_
theorem h37 (v : Veh) (t : List Run) (c : List Chg) (st at_ : Int) (y : Int × Int × Unit) (hw : WFs A37 (v, t, c, st, at_, ())) (h : s37 v t c st at_ = some y) : ∃ k, f37 s121 s136 s137 k v t c st at_ = some y := ⟨0, h⟩
def lows : Int → Int → List Trn → Int
  | _, m, [] => m
  | n, m, t :: l => bif decide (t.1 > 345686400000) then m else lows (stp n t) (mn m (stp n t)) l
def s40 (v : Veh) (t : List Run) (c : List Chg) (st : Int) : Option (Int × Int × Unit) :=
  if s136 v t c st = 0 then (if t.length + c.length ≤ 4294967295 then some (lows st st (trns v.1 t c), 0, ()) else none) else some (0, s136 v t c st, ())
theorem h40 (v : Veh) (t : List Run) (c : List Chg) (st : Int) (y : Int × Int × Unit) (hw : WFs A40 (v, t, c, st, ())) (h : s40 v t c st = some y) : ∃ k, f40 s136 s217 k v t c st = some y := by
  unfold s40 at h
  refine ⟨t.length + c.length + 1, ?_⟩
  unfold f40
  by_cases hE : s136 v t c st = 0
  · rw [if_pos hE] at h
    split at h
    · rename_i hn
      cases h
      have : (s136 v t c st != 0) = false := by simp [hE]
      simp only [this, cond_false]
      rw [show s217 v.1 t c = some (trns v.1 t c, ()) from if_pos hn]
      simp only [Option.bind_some]
      have hl := trns_len v.1 t c
      generalize trns v.1 t c = l at *
      rw [iter_scan0 (β := Int × Int) l (fun j b => ((b.1, (j : Int), ()), (b.2, ()))) (fun _ t b => bif decide (t.1 > 345686400000) then .inr (.inl (b.2, 0, ())) else .inl (stp b.1 t, mn b.2 (stp b.1 t))) (fun b => .inr ((), (b.2, ()))) (st, st) ?hs ?hk ?h1 ?h2]
      · have key : ∀ (l : List Trn) (j : Nat) (b : Int × Int), (Option.bind (some (scan (β := Int × Int) (τ := (Int × Int × Unit) ⊕ (Unit × (Int × Unit))) (fun _ (t : Trn) b => bif decide (t.1 > 345686400000) then .inr (.inl (b.2, 0, ())) else .inl (stp b.1 t, mn b.2 (stp b.1 t))) (fun b => .inr ((), (b.2, ()))) l j b)) fun r => match r with | .inl z => some z | .inr z4 => some (z4.2.1, (0 : Int), ())) = some (lows b.1 b.2 l, 0, ()) := by
          intro l
          induction l with
          | nil => intro j n; rfl
          | cons t l ih =>
            intro j b
            simp only [scan, lows]
            cases decide (t.1 > 345686400000)
            · exact ih (j + 1) (stp b.1 t, mn b.2 (stp b.1 t))
            · rfl
        exact key l 0 (st, st)
      case hs => simp
      case hk => omega
      · intro j x b hx
        simp only [lt_at hx, inR_at hx, rd_at hx, wrap_succ hx (by omega), cond_true, stp]
        cases decide (x.1 > 345686400000)
        · simp only [cond_false]
          cases x.2.1 == 0 <;> rfl
        · rfl
      · intro b
        simp
    · cases h
  · rw [if_neg hE] at h
    cases h
    have : (s136 v t c st != 0) = true := by simp [hE]
    simp only [this, cond_true]
end Go.Vm
