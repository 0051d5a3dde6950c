/- ShiftsCovered: who is tired, as the reference does it. Own work. -/
import Derived.Test.YtfiembgemhonlaaSSpecE
set_option linter.unusedVariables false
set_option linter.unusedSimpArgs false
namespace Go.Vm
open Go.RowKit Go.Vm.Gain
def s57 (r : Int × Int × Unit) (t : List Run) (v : ByteArray) : Option (List Int × Unit) := if runsFault t = 0 then some (tired r (mine t v), ()) else none
/-- the work since the last long break, from a trip back -/
theorem back_work {f : (Int × Int × Unit) × Unit → Option (((Int × Int × Unit) × Unit) ⊕ (((((List Int) × Int × Unit) × (Unit)) ⊕ (((List Int) × Unit) ⊕ (((List Int) × Unit) × (Unit)))) ⊕ ((Int × Unit) × (Unit))))} {br : Int} {l : List Run} (hok : ∀ x ∈ l, RunOK x) (hlen : l.length ≤ 1000)
    (h0 : ∀ a : Int, f ((a, 0, ()), ()) = some (.inr (.inr ((a, ()), ()))))
    (h1 : ∀ (a : Int) (k : Nat) (x p : Run), l[k + 1]? = some x → l[k]? = some p → 0 ≤ a → a ≤ 1000000000000000 → RunOK x → RunOK p → f ((a, ((k + 1 : Nat) : Int), ()), ()) = some (if x.2.1.1 - p.2.1.2.1 < br then .inl ((a + (p.2.1.2.1 - p.2.1.1), ((k : Nat) : Int), ()), ()) else .inr (.inr ((a, ()), ())))) :
    ∀ (k n : Nat) (a : Int), k < n → k < l.length → 0 ≤ a → a + workAt br l k ≤ 900000000000000 → iter n f ((a, (k : Int), ()), ()) = some (.inr ((a + workAt br l k, ()), ()))
  | k, 0, a, hn, _, _, _ => by omega
  | 0, n + 1, a, hn, hk, ha, hb => by
    have := h0 a
    simp only [iter, Int.natCast_zero, this, Option.bind_some, workAt, Int.add_zero]
  | k + 1, n + 1, a, hn, hk, ha, hb => by
    have hx : l[k + 1]? = some l[k + 1] := List.getElem?_eq_getElem hk
    have hp : l[k]? = some (l[k]'(by omega)) := List.getElem?_eq_getElem (by omega)
    have hxo := hok _ (List.getElem_mem hk)
    have hpo := hok _ (List.getElem_mem (show k < l.length by omega))
    have hws := workAt_succ (br := br) hx hp
    have hwk := workAt_ok (br := br) hok k
    have hst := h1 a k _ _ hx hp ha (by have := workAt_ok (br := br) hok (k + 1); omega) hxo hpo
    generalize l[k + 1] = x at *
    generalize l[k]'(by omega) = p at *
    simp only [iter, hst, Option.bind_some]
    rw [hws] at hb ⊢
    by_cases hq : x.2.1.1 - p.2.1.2.1 < br
    · unfold RunOK at hpo
      rw [if_pos hq] at hb ⊢
      simp only [if_pos hq]
      rw [back_work hok hlen h0 h1 k n _ (by omega) (by omega) (by omega) (by omega), Int.add_assoc]
      congr 4
      omega
    · rw [if_neg hq]
      simp only [if_neg hq, Int.add_zero]
theorem h57 (r : Int × Int × Unit) (t : List Run) (v : ByteArray) (y : List Int × Unit) (hw : WFs A57 (r, t, v, ())) (h : s57 r t v = some y) : ∃ k, f57 m38 k r t v = some y := by
  unfold s57 at h
  split at h
  · rename_i he
    cases h
    obtain ⟨hl, hok⟩ := runs_ok he
    refine ⟨1005, ?_⟩
    unfold f57
    have e38 : m38 t = some t := by unfold m38; rw [if_pos (by omega)]
    simp only [e38, Option.bind_some]
    refine (congrArg (fun B => Option.bind B _) (?hB : _ = some (.inr ((mine t v, ()), (v, ()))))).trans ?_
    case hB =>
      rw [iter_find (s0 := (((0 : Int), ()), (v, ()))) t (fun i => (((i : Int), ()), (v, ()))) (fun x => !sEq x.1 v) (fun i => .inl (.inr (((i : Int), ()), (t, v, ())))) (.inr ((), (v, ()))) ?a1 ?a2 ?a3 ?a4]
      case a1 => rfl
      case a2 => omega
      case a3 =>
        intro j x hx
        simp only [lt_at hx, inR_at hx, rd_at hx, wrap_succ hx (by omega), cond_true]
        cases sEq x.1 v <;> rfl
      case a4 => simp
      cases hf : t.findIdx? (fun x => !sEq x.1 v) with
      | none =>
        have hall : mine t v = t := List.filter_eq_self.2 fun x hx => by
          have := (List.findIdx?_eq_none_iff.1 hf) x hx
          simpa using this
        simp only [Option.bind_some, hall, beq_self_eq_true, cond_true]
      | some i0 =>
        obtain ⟨g1, g2, g3⟩ := List.findIdx?_eq_some_iff_getElem.1 hf
        have h0 : t[i0]? = some t[i0] := List.getElem?_eq_getElem g1
        obtain ⟨st, hst0, hinv, hst⟩ := filter_path (keep := fun x => sEq x.1 v) h0 (by simpa using g2) (fun m x hm hx => by
          have := g3 m hm
          obtain ⟨hml, e⟩ := List.getElem?_eq_some_iff.1 hx
          rw [e] at this
          simpa using this)
        have hI := hinv (t.length - (i0 + 1)) (by omega)
        rw [show i0 + 1 + (t.length - (i0 + 1)) = t.length from by omega] at hI
        have e1 : ((i0 : Int) == (-1 : Int)) = false := by rw [beq_eq_false_iff_ne]; omega
        simp only [Option.bind_some, e1, cond_false]
        generalize hz : st (t.length - (i0 + 1)) = z at hI
        obtain ⟨i, row⟩ := z
        simp only at hI
        have hres : List.take i row = mine t v := by rw [hI.head, List.take_length]; rfl
        have hi1 : IntKind.i64.wrap ((i0 : Int) + 1) = ((i0 + 1 : Nat) : Int) := by rw [wrap_ok (by omega) (by omega)]; omega
        rw [hi1]
        rw [iter_path (s0 := (((i0 : Int), ((i0 + 1 : Nat) : Int), ()), (t, v, ()))) (fun j => ((((st j).1 : Int), ((i0 + 1 + j : Nat) : Int), ()), ((st j).2, v, ()))) (.inr (((i : Int), ()), (row, v, ()))) (t.length - (i0 + 1)) ?b1 ?b2 ?b3 ?b4]
        case b1 => simp [hst0]
        case b2 => omega
        case b3 =>
          intro j hj
          have hc := hinv j (by omega)
          have hx : t[i0 + 1 + j]? = some (t[i0 + 1 + j]'(by omega)) := List.getElem?_eq_getElem (by omega)
          have hs := hst j _ hx
          have hrx : (st j).2[i0 + 1 + j]? = some (t[i0 + 1 + j]'(by omega)) := by rw [hc.at (Nat.le_refl _)]; exact hx
          generalize t[i0 + 1 + j]'(by omega) = x at *
          have hlow := hc.low
          have hlen := hc.len
          have e2 : IntKind.i64.wrap (((i0 + 1 + j : Nat) : Int) + 1) = ((i0 + 1 + (j + 1) : Nat) : Int) := by rw [wrap_ok (by omega) (by omega)]; omega
          simp only [lt_at hrx, inR_at hrx, rd_at hrx, e2, cond_true, Bool.not_not, hs]
          cases sEq x.1 v
          · rfl
          · have c8 : inR (((st j).1 : Nat) : Int) (((st j).2.length : Nat) : Int) = true := by simp [inR]; omega
            have c9 : IntKind.i64.wrap ((((st j).1 : Nat) : Int) + 1) = (((st j).1 + 1 : Nat) : Int) := by rw [wrap_ok (by omega) (by omega)]; omega
            simp only [c8, c9, cond_true, Int.toNat_natCast]
        case b4 =>
          rw [hz]
          have c1 : decide (((i0 + 1 + (t.length - (i0 + 1)) : Nat) : Int) < ((row.length : Nat) : Int)) = false := by
            have := hI.len
            exact decide_eq_false (by omega)
          simp only [c1, cond_false]
        have hil : i ≤ row.length := by have := hI.low; rw [hI.len]; omega
        have e4 : (decide ((0 : Int) ≤ (i : Int)) && (decide ((i : Int) ≤ ((row.length : Nat) : Int)) && decide (((row.length : Nat) : Int) ≤ ((row.length : Nat) : Int)))) = true := by simp; omega
        simp only [Option.bind_some, e4, cond_true, Int.toNat_natCast]
        refine (congrArg (fun b => cond b _ none) (?e5 : _ = true)).trans ?_
        case e5 =>
          simp only [List.length_append, List.length_take, List.length_replicate]
          simp; omega
        simp only [cond_true, Int.toNat_zero, List.drop_zero]
        rw [List.take_append_of_le_length (by rw [List.length_take]; omega), List.take_take, Nat.min_self, hres]
    have hml : (mine t v).length ≤ 1000 := Nat.le_trans (List.length_filter_le _ _) hl
    have hmok : ∀ x ∈ mine t v, RunOK x := fun x hx => hok x (List.mem_filter.1 hx).1
    simp only [Option.bind_some]
    generalize mine t v = l at *
    rw [iter_path (s0 := (([], (0 : Int), ()), ())) (fun j => ((tiredTo r l j, (j : Int), ()), ())) (.inr ((tired r l, ()), ())) l.length ?hs ?hk ?h1 ?h2]
    · rfl
    case hs => rfl
    case hk => omega
    case h1 =>
      intro j hj
      have hx : l[j]? = some l[j] := List.getElem?_eq_getElem hj
      have hwk := workAt_ok (br := r.2.1) hmok j
      have hlen := tiredTo_len r l j
      have eA : decide ((tiredTo r l j).length + [(j : Int)].length ≤ 4294967296) = true := by
        simp only [List.length_cons, List.length_nil]
        exact decide_eq_true (by omega)
      simp only [lt_at hx, wrap_succ hx (by omega), cond_true]
      rw [back_work (br := r.2.1) hmok hml (fun a => rfl) (fun a k x p hx hp ha hb hxo hpo => ?g) j 1005 0 (by omega) (by omega) (Int.le_refl _) (by omega)]
      case g =>
        unfold RunOK at hxo hpo
        have hkl := (List.getElem?_eq_some_iff.1 hx).1
        have e0 : decide ((((k + 1 : Nat) : Int)) > 0) = true := decide_eq_true (by omega)
        have e1 : IntKind.i64.wrap (x.2.1.1 - p.2.1.2.1) = x.2.1.1 - p.2.1.2.1 := wrap_ok (by omega) (by omega)
        have e2 : IntKind.i64.wrap (p.2.1.2.1 - p.2.1.1) = p.2.1.2.1 - p.2.1.1 := wrap_ok (by omega) (by omega)
        have e3 : IntKind.i64.wrap (a + (p.2.1.2.1 - p.2.1.1)) = a + (p.2.1.2.1 - p.2.1.1) := wrap_ok (by omega) (by omega)
        simp only [e0, inR_at hx, wrap_pred (n := k) (by omega), inR_at hp, rd_at hx, rd_at hp, cond_true, e1, e2, e3]
        by_cases hq : x.2.1.1 - p.2.1.2.1 < r.2.1
        · simp only [hq, decide_true, cond_true, if_true]
        · simp only [hq, decide_false, cond_false, if_false]
      simp only [Option.bind_some, Int.zero_add, tiredTo]
      by_cases hq : workAt r.2.1 l j ≥ r.1
      · simp only [hq, decide_true, cond_true, eA, if_true]
      · simp only [hq, decide_false, cond_false, if_false]
    case h2 =>
      unfold tired
      simp
  · cases h
end Go.Vm
