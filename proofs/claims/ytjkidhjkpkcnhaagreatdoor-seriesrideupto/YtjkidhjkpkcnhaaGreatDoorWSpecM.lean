/- SeriesRide: RidesIn. Own work. -/
import Derived.Test.YtjkidhjkpkcnhaaGreatDoorWSpecL
import Derived.Test.YtjkidhjkpkcnhaaGreatDoorVmK
set_option maxRecDepth 100000
set_option linter.unusedVariables false
set_option linter.unusedSimpArgs false
namespace Go.Vm
open Go.RowKit
theorem filterMap_len {α β : Type} (g : α → Option β) : ∀ l : List α, (l.filterMap g).length ≤ l.length
  | [] => Nat.le_refl _
  | d :: l => by
    have := filterMap_len g l
    rw [List.filterMap_cons]
    cases g d <;> simp only [List.length_cons] <;> omega
theorem span_len (lo last : Int) : (span lo last).length = (last + 1 - lo).toNat := by
  unfold span
  rw [List.length_map, List.length_range']
theorem refDays_len {x : Sr2} (hn : dayOK x = true) : (refDays x).1.length ≤ 4001 ∧ (refDays x).2.length ≤ 4001 := by
  unfold dayOK at hn
  simp only [Bool.and_eq_true, decide_eq_true_eq] at hn
  obtain ⟨_, _, _, h1, h2⟩ := hn
  rw [refDays_eq]
  have e1 := filterMap_len (refDay x) (span x.2.2.2.2.1 x.2.2.2.2.2.1)
  have e2 := filterMap_len (fun d => (refDay x d).map fun _ => d) (span x.2.2.2.2.1 x.2.2.2.2.2.1)
  rw [span_len] at e1 e2
  exact ⟨Nat.le_trans e1 (by omega), Nat.le_trans e2 (by omega)⟩
def keepW (w : Win) (q : Rid) : Bool := s80 q.2.2.2.2.1 w
noncomputable def s21 (x : Sr2) (w : Win) : Option (List Rid × Unit) := if dayOK x = true then (s64_81 ((refDays x).1.filter (keepW w))).bind fun v => some (v, ()) else none
theorem h21 (x : Sr2) (w : Win) (y : List Rid × Unit) (hw : WFs A21 (x, w, ())) (h : s21 x w = some y) : ∃ k, f21 s37 s64_81 s80 s107 k x w = some y := by
  unfold s21 at h
  split at h
  rotate_left
  · cases h
  rename_i hn
  clear hw
  refine ⟨9000 + (chsOf x).length, ?_⟩
  rw [f21w_eq]
  unfold f21w
  rw [ref_loop x hn (by omega)]
  have hl := (refDays_len hn).1
  simp only [Option.bind_some]
  generalize (refDays x).1 = t at *
  refine (congrArg (fun B => Option.bind B _) (?hB : _ = some (.inr ((t.filter (keepW w), ()), (w, ()))))).trans ?_
  case hB =>
    rw [iter_find (s0 := (((0 : Int), ()), (w, ()))) t (fun i => (((i : Int), ()), (w, ()))) (fun x => !keepW w x) (fun i => .inl (.inr (((i : Int), ()), (t, w, ())))) (.inr ((), (w, ()))) ?a1 ?a2 ?a3 ?a4]
    case a1 => rfl
    case a2 => omega
    case a3 =>
      intro j x hx
      simp only [lt_at hx, inR_at hx, rd_at hx, wrap_succ hx (by omega), cond_true]
      unfold keepW
      show (bif !s80 x.2.2.2.2.1 w then _ else _) = _
      cases s80 x.2.2.2.2.1 w <;> rfl
    case a4 => simp
    cases hf : t.findIdx? (fun x => !keepW w x) with
    | none =>
      have hall : t.filter (keepW w) = t := List.filter_eq_self.2 fun x hx => by
        have := (List.findIdx?_eq_none_iff.1 hf) x hx
        simpa using this
      simp only [Option.bind_some, hall, beq_self_eq_true, cond_true]
    | some i0 =>
      obtain ⟨g1, g2, g3⟩ := List.findIdx?_eq_some_iff_getElem.1 hf
      have h0 : t[i0]? = some t[i0] := List.getElem?_eq_getElem g1
      obtain ⟨st, hst0, hinv, hst⟩ := filter_path (keep := keepW w) h0 (by simpa using g2) (fun m x hm hx => by
        have := g3 m hm
        obtain ⟨hml, e⟩ := List.getElem?_eq_some_iff.1 hx
        rw [e] at this
        simpa using this)
      have hI := hinv (t.length - (i0 + 1)) (by omega)
      rw [show i0 + 1 + (t.length - (i0 + 1)) = t.length from by omega] at hI
      have e1 : ((i0 : Int) == (-1 : Int)) = false := by rw [beq_eq_false_iff_ne]; omega
      simp only [Option.bind_some, e1, cond_false]
      generalize hz : st (t.length - (i0 + 1)) = z at hI
      obtain ⟨i, row⟩ := z
      simp only at hI
      have hres : List.take i row = t.filter (keepW w) := by rw [hI.head, List.take_length]
      have hi1 : IntKind.i64.wrap ((i0 : Int) + 1) = ((i0 + 1 : Nat) : Int) := by rw [wrap_ok (by omega) (by omega)]; omega
      rw [hi1]
      rw [iter_path (s0 := (((i0 : Int), ((i0 + 1 : Nat) : Int), ()), (t, w, ()))) (fun j => ((((st j).1 : Int), ((i0 + 1 + j : Nat) : Int), ()), ((st j).2, w, ()))) (.inr (((i : Int), ()), (row, w, ()))) (t.length - (i0 + 1)) ?b1 ?b2 ?b3 ?b4]
      case b1 => simp [hst0]
      case b2 => omega
      case b3 =>
        intro j hj
        have hc := hinv j (by omega)
        have hx : t[i0 + 1 + j]? = some (t[i0 + 1 + j]'(by omega)) := List.getElem?_eq_getElem (by omega)
        have hs := hst j _ hx
        have hrx : (st j).2[i0 + 1 + j]? = some (t[i0 + 1 + j]'(by omega)) := by rw [hc.at (Nat.le_refl _)]; exact hx
        generalize t[i0 + 1 + j]'(by omega) = x at *
        have hlow := hc.low
        have hlen := hc.len
        have e2 : IntKind.i64.wrap (((i0 + 1 + j : Nat) : Int) + 1) = ((i0 + 1 + (j + 1) : Nat) : Int) := by rw [wrap_ok (by omega) (by omega)]; omega
        simp only [lt_at hrx, inR_at hrx, rd_at hrx, e2, cond_true, Bool.not_not, hs]
        show (bif keepW w x then _ else _) = _
        cases keepW w x
        · rfl
        · have c8 : inR (((st j).1 : Nat) : Int) (((st j).2.length : Nat) : Int) = true := by simp [inR]; omega
          have c9 : IntKind.i64.wrap ((((st j).1 : Nat) : Int) + 1) = (((st j).1 + 1 : Nat) : Int) := by rw [wrap_ok (by omega) (by omega)]; omega
          simp only [c8, c9, cond_true, Int.toNat_natCast]
      case b4 =>
        rw [hz]
        have c1 : decide (((i0 + 1 + (t.length - (i0 + 1)) : Nat) : Int) < ((row.length : Nat) : Int)) = false := by
          have := hI.len
          exact decide_eq_false (by omega)
        simp only [c1, cond_false]
      have hil : i ≤ row.length := by have := hI.low; rw [hI.len]; omega
      have e4 : (decide ((0 : Int) ≤ (i : Int)) && (decide ((i : Int) ≤ ((row.length : Nat) : Int)) && decide (((row.length : Nat) : Int) ≤ ((row.length : Nat) : Int)))) = true := by simp; omega
      simp only [Option.bind_some, e4, cond_true, Int.toNat_natCast]
      refine (congrArg (fun b => cond b _ none) (?e5 : _ = true)).trans ?_
      case e5 =>
        simp only [List.length_append, List.length_take, List.length_replicate]
        simp; omega
      simp only [cond_true, Int.toNat_zero, List.drop_zero]
      rw [List.take_append_of_le_length (by rw [List.length_take]; omega), List.take_take, Nat.min_self, hres]
  exact h
end Go.Vm
