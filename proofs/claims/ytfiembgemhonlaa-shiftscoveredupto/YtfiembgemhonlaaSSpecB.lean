/- ShiftsCovered: rosters. Own work. -/
import Derived.Test.YtfiembgemhonlaaSSpecA
set_option linter.unusedVariables false
set_option linter.unusedSimpArgs false
namespace Go.Vm
open Go.RowKit Go.Vm.Gain
theorem fold_any {α : Type} (p q : α → Bool) : ∀ (l : List α) (b : Bool), l.foldl (fun b x => bif p x then bif q x then true else b else b) b = (b || l.any fun x => p x && q x)
  | [], b => by simp
  | x :: l, b => by
    simp only [List.foldl_cons, fold_any p q l, List.any_cons]
    cases p x <;> cases q x <;> cases b <;> simp
def s47 (l : List Wd) : Option (List Int × Int × Unit) := if shiftsFault l = 0 then some ((rost l).2, 0, ()) else some ([], shiftsFault l, ())
theorem h47 (l : List Wd) (y : List Int × Int × Unit) (hw : WFs A47 (l, ())) (h : s47 l = some y) : ∃ k, f47 s53 s142 k l = some y := by
  refine ⟨0, ?_⟩
  unfold s47 at h
  unfold f47 s53
  simp only [Option.bind_some]
  split at h
  · rename_i he
    cases h
    have hl := shift_len he
    unfold s142
    rw [if_pos (by omega)]
    simp [he]
  · rename_i he
    cases h
    have : (shiftsFault l != 0) = true := by simpa using he
    rw [this]; rfl
def s55 (l : List Wd) : Option (List Int × Unit) := if shiftsFault l = 0 then some ((rost l).2, ()) else none
theorem h55 (l : List Wd) (y : List Int × Unit) (hw : WFs A55 (l, ())) (h : s55 l = some y) : ∃ k, f55 k l = some y := by
  unfold s55 at h
  split at h
  · rename_i he
    cases h
    obtain ⟨hS, hl⟩ := shifts_of he
    refine ⟨l.length + 3, ?_⟩
    unfold f55
    rw [iter_path (fun j => (((rost (l.take j)).2, (j : Int), ()), ())) (.inr (((rost l).2, ()), ())) l.length ?hs ?hk ?h1 ?h2]
    · rfl
    case hs => rfl
    case hk => omega
    · intro j hj
      have hx : l[j]? = some l[j] := List.getElem?_eq_getElem hj
      have hinv := rost_inv hS j (by omega)
      have hnext : rost (l.take (j + 1)) = rostStep l[j] (rost (l.take j)) := by
        rw [← rost_snoc, List.take_append_getElem (by omega)]
      have hw0 := hS.ok l[j] (List.getElem_mem _)
      simp only [hnext, lt_at hx, inR_at hx, rd_at hx, wrap_succ hx (by omega), cond_true]
      have hlen2 : (rost (l.take j)).2.length = j := by rw [hinv.len, List.length_take]; omega
      have hlen1 : (rost (l.take j)).1.length ≤ j := by have := hinv.few; rw [List.length_take] at this; omega
      have hwhose := hinv.whose
      generalize rost (l.take j) = b at *
      obtain ⟨fr, out⟩ := b
      simp only at hlen1 hlen2 hwhose ⊢
      generalize l[j] = w at *
      -- the number that nobody has who is still on
      have hN : ∃ N, N ≤ fr.length ∧ (∀ m, m < N → (List.zip out (l.take j)).any (fun p => p.1 == (m : Int) && decide (w.1 < p.2.2.1)) = true) ∧ (List.zip out (l.take j)).any (fun p => p.1 == (N : Int) && decide (w.1 < p.2.2.1)) = false ∧
          (rostStep w (fr, out)).2 = out ++ [(N : Int)] := by
        unfold rostStep
        simp only
        cases hf : fr.findIdx? (fun f => decide (f ≤ w.1)) with
        | some k =>
          obtain ⟨⟨x, hx2, hp⟩, hfirst⟩ := findIdx_some hf
          simp only [decide_eq_true_eq] at hp
          have hk := (List.getElem?_eq_some_iff.1 hx2).1
          refine ⟨k, by omega, fun m hm => (hwhose m w.1).2 ⟨fr[m], List.getElem?_eq_getElem (by omega), ?_⟩, ?_, rfl⟩
          · have := hfirst m _ hm (List.getElem?_eq_getElem (by omega))
            simp only [decide_eq_false_iff_not] at this
            omega
          · rw [← Bool.not_eq_true]
            intro h
            obtain ⟨f, h1, h2⟩ := (hwhose k w.1).1 h
            rw [hx2] at h1; cases h1; omega
        | none =>
          have hall := findIdx_none hf
          refine ⟨fr.length, Nat.le_refl _, fun m hm => (hwhose m w.1).2 ⟨fr[m], List.getElem?_eq_getElem hm, ?_⟩, ?_, rfl⟩
          · have := hall fr[m] (List.getElem_mem _)
            simp only [decide_eq_false_iff_not] at this
            omega
          · rw [← Bool.not_eq_true]
            intro h
            obtain ⟨f, h1, h2⟩ := (hwhose fr.length w.1).1 h
            simp at h1
      obtain ⟨N, hN1, hN2, hN3, hN4⟩ := hN
      rw [hN4]
      have hrow : ∀ m : Nat, m ≤ N → (iter (σ := (Bool × Int × Unit) × (Unit)) (τ := (((Int × Bool × Unit) × (Unit)) ⊕ (((((List Int) × Int × Unit) × (Unit)) ⊕ (((List Int) × Unit) ⊕ (((List Int) × Unit) × (Unit)))) ⊕ ((Int × Unit) × (Unit)))) ⊕ ((Bool × Unit) × (Unit))) (l.length + 3) (fun y3 =>
                    bif (decide (y3.1.2.1 < (j : Int))) then
                      bif (inR y3.1.2.1 ((List.length out : Nat) : Int)) then
                        bif (inR y3.1.2.1 ((List.length out : Nat) : Int)) then
                          bif ((rd (α := Int) (0 : Int) out y3.1.2.1) == (m : Int)) then
                            bif (inR y3.1.2.1 ((List.length l : Nat) : Int)) then
                              bif (decide ((rd (α := (Int × Int × Unit)) ((0 : Int), (0 : Int), ()) l y3.1.2.1).2.1 > w.1)) then
                                some (.inl ((true, (IntKind.i64.wrap (y3.1.2.1 + (1 : Int))), ()), ()))
                              else
                                some (.inl ((y3.1.1, (IntKind.i64.wrap (y3.1.2.1 + (1 : Int))), ()), ()))
                            else
                              none
                          else
                            some (.inl ((y3.1.1, (IntKind.i64.wrap (y3.1.2.1 + (1 : Int))), ()), ()))
                        else
                          none
                      else
                        none
                    else
                      some (.inr (.inr ((y3.1.1, ()), ())))) ((false, (0 : Int), ()), ())) = some (.inr ((decide (m < N), ()), ())) := by
        intro m hm
        have hz : (List.zip out (l.take j)).length = j := by rw [List.length_zip, List.length_take]; omega
        rw [iter_fold (β := Bool) (List.zip out (l.take j)) (fun k b => ((b, (k : Int), ()), ())) (fun p b => bif p.1 == (m : Int) then bif decide (w.1 < p.2.2.1) then true else b else b) (fun b => .inr ((b, ()), ())) (fun _ _ => True) false ?gb ?gs ?gk ?gJ ?g1 ?g2]
        · rw [fold_any (fun p : Int × Wd => p.1 == (m : Int)) (fun p => decide (w.1 < p.2.2.1))]
          rcases Nat.lt_or_ge m N with h1 | h1
          · rw [hN2 m h1]; simp [h1]
          · have : m = N := by omega
            subst this
            rw [hN3]; simp
        case gb => trivial
        case gs => rfl
        case gk => omega
        · intros; trivial
        · intro i p b hp _
          have hi := (List.getElem?_eq_some_iff.1 hp).1
          obtain ⟨o, x⟩ := p
          obtain ⟨ho, hx2⟩ := List.getElem?_zip_eq_some.1 hp
          have hx3 : l[i]? = some x := by
            rw [List.getElem?_take] at hx2
            split at hx2
            · exact hx2
            · cases hx2
          have e0 : decide ((i : Int) < (j : Int)) = true := by simp; omega
          simp only [e0, inR_at ho, rd_at ho, inR_at hx3, rd_at hx3, wrap_succ ho (by omega), cond_true, gt_iff_lt]
          cases o == (m : Int) <;> cases decide (w.1 < x.2.1) <;> rfl
        · intro b _
          rw [hz]
          simp
      rw [iter_path (s0 := (((0 : Int), true, ()), ())) (fun m => if m ≤ N then (((m : Int), true, ()), ()) else (((N : Int), false, ()), ())) (.inr (((N : Int), ()), ())) (N + 1) ?k1 ?k2 ?k3 ?k4]
      case k1 => rfl
      case k2 => omega
      case k3 =>
        intro m hm
        have hm' : m ≤ N := by omega
        rw [if_pos hm']
        simp only [cond_true]
        rw [hrow m hm']
        simp only [Option.bind_some]
        rcases Nat.lt_or_ge m N with h1 | h1
        · have e : IntKind.i64.wrap ((m : Int) + 1) = ((m + 1 : Nat) : Int) := by rw [wrap_ok (by omega) (by omega)]; omega
          rw [if_pos (show m + 1 ≤ N by omega)]
          simp only [h1, decide_true, cond_true, e]
        · have : m = N := by omega
          subst this
          rw [if_neg (by omega)]
          simp
      case k4 =>
        rw [if_neg (by omega)]
        rfl
      simp only [Option.bind_some]
      have e : decide (out.length + [(N : Int)].length ≤ 4294967296) = true := by simp; omega
      rw [e]
      rfl
    · rw [List.take_length]
      simp
  · cases h
end Go.Vm
