/- OffersCount: deals, checked by the reference; costs. Own work. -/
import Derived.Test.YtbjpkdbneopgkaaPSpecB
set_option maxRecDepth 100000
set_option linter.unusedVariables false
set_option linter.unusedSimpArgs false
namespace Go.Vm
open Go.RowKit
theorem h20 (l : List Ofr) (d : List Dl) (y : Int × Unit) (hw : WFs A20 (l, d, ())) (h : s20 l d = some y) : ∃ k, f20 s43 k l d = some y := by
  simp only [WFs, WF] at hw
  have hl : d.length ≤ 9223372036854775807 := hw.2.1.1
  clear hw
  unfold s20 at h
  cases h
  refine ⟨d.length + 1, ?_⟩
  unfold f20
  rw [show (200 : Int) = ((200 : Nat) : Int) from rfl, len_gt]
  unfold dealsF
  by_cases hn : d.length > 200
  · simp [hn]
  · simp only [hn, decide_false, cond_false, if_false]
    obtain ⟨b', hb'⟩ := dScan (γ := Unit × Unit) l d (fun x (m : Unit) => m) (fun m => ((), ())) d 0 ()
    rw [iter_scanI (s0 := (((0 : Int), ()), ())) d (fun (j : Nat) (m : Unit) => (((j : Int), ()), ())) (dBody l d (fun x m => m)) (fun m => .inr ((), ())) (fun j m => True) () trivial rfl (by omega) (fun _ _ _ _ _ _ _ => trivial) ?a3 ?a4, hb']
    case a3 =>
      intro j x b hx hJ
      have hj : j < d.length := (List.getElem?_eq_some_iff.1 hx).1
      have hin : (decide (0 ≤ (0 : Int)) && (decide ((0 : Int) ≤ (j : Int)) && decide ((j : Int) ≤ ((List.length d : Nat) : Int)))) = true := by
        simp only [Bool.and_eq_true, decide_eq_true_eq]; omega
      have hk : List.drop (Int.toNat (0 : Int)) (List.take (Int.toNat (j : Int)) d) = d.take j := rfl
      have hkl : (d.take j).length ≤ 9223372036854775807 := by rw [List.length_take]; omega
      simp only [lt_at hx, inR_at hx, rd_at hx, wrap_succ hx hl, cond_true, Option.bind_some, hin, hk]
      rw [iter_find (s0 := (((0 : Int), ()), (x, ()))) (d.take j) (fun i => (((i : Int), ()), (x, ()))) (fun o => sEq o.2.1 x.2.1) (fun i => .inl (.inr (.inl ((6 : Int), ())))) (.inr ((), (x, ()))) rfl (by rw [List.length_take]; omega) ?b3 ?b4]
      case b3 =>
        intro i o ho
        have e0 : decide ((i : Int) ≥ 0) = true := decide_eq_true (by omega)
        simp only [lt_at ho, inR_at ho, rd_at ho, wrap_succ ho hkl, cond_true, e0]
        cases sEq o.2.1 x.2.1 <;> rfl
      case b4 => simp only [Int.lt_irrefl, decide_false, cond_false]
      have ha := any_idx (fun o : Dl => sEq o.2.1 x.2.1) (d.take j)
      simp only [dBody, dBad]
      rw [← ha]
      cases decide (s43 l x < 0)
      rotate_left
      · rfl
      cases j with
      | zero => rfl
      | succ i =>
        have hi : i < d.length := by omega
        have ho : d[i]? = some d[i] := List.getElem?_eq_getElem hi
        have e0 : decide (((i + 1 : Nat) : Int) > 0) = true := decide_eq_true (by omega)
        have hp := prev_ix (xs := d) (j := i + 1) hl (by omega) ho
        simp only [Nat.add_sub_cancel] at hp
        simp only [e0, hp, inR_at ho, rd_at ho, cond_true, dPrev, ho, Option.bind_some]
        cases (sLt x.1 d[i].1 || sEq x.1 d[i].1)
        rotate_left
        · rfl
        cases (d.take (i + 1)).findIdx? (fun o => sEq o.2.1 x.2.1) <;> rfl
    case a4 => intro b hJ; simp only [Int.lt_irrefl, decide_false, cond_false]
    cases hz : dRec l d d 0 != 0
    · have : dRec l d d 0 = 0 := by simpa using hz
      simp only [cond_false, Option.bind_some, this]
    · rfl
/-! ### costs -/
def costSum (l : List Ofr) (d : List Dl) : Int := d.foldl (fun c x => IntKind.i64.wrap (c + (rd (α := PT3) zPT3 l (s43 l x)).2.2.1)) 0
def found (l : List Ofr) (d : List Dl) : Prop := ∀ x ∈ d, 0 ≤ s43 l x
open Classical in
noncomputable def s25 (l : List Ofr) (d : List Dl) : Option (Int × Unit) := if found l d then some (costSum l d, ()) else none
open Classical in
noncomputable def s41 (l : List Ofr) (d : List Dl) : Option (Int × Unit) := if ofrsFault l = 0 ∧ found l d then some (costSum l d, ()) else none
theorem s43_in {l : List Ofr} {x : Dl} (h : 0 ≤ s43 l x) : inR (s43 l x) (l.length : Int) = true := by
  unfold s43 at h ⊢
  generalize ho : offAt l x = q at h ⊢
  cases q with
  | none => simp [ixI] at h
  | some i =>
    have := (List.findIdx?_eq_some_iff_getElem.1 ho).1
    show inR (i : Int) (l.length : Int) = true
    simp only [inR, Bool.and_eq_true, decide_eq_true_eq]
    omega
theorem h25 (l : List Ofr) (d : List Dl) (y : Int × Unit) (hw : WFs A25 (l, d, ())) (h : s25 l d = some y) : ∃ k, f25 s43 k l d = some y := by
  simp only [WFs, WF] at hw
  have hl : d.length ≤ 9223372036854775807 := hw.2.1.1
  clear hw
  unfold s25 at h
  split at h
  rotate_left
  · cases h
  rename_i hf
  cases h
  refine ⟨d.length + 1, ?_⟩
  unfold f25
  rw [iter_fold (s0 := (zPT0, ())) d (fun (j : Nat) (c : Int) => ((c, (j : Int), ()), ())) (fun x c => IntKind.i64.wrap (c + (rd (α := PT3) zPT3 l (s43 l x)).2.2.1)) (fun c => .inr ((c, ()), ())) (fun _ _ => True) 0 trivial rfl (by omega) (fun _ _ _ _ _ => trivial) ?a1 ?a2]
  case a1 =>
    intro j x c hx _
    simp only [lt_at hx, inR_at hx, rd_at hx, wrap_succ hx hl, cond_true, s43_in (hf x (List.mem_of_getElem? hx))]
  case a2 => intro c _; simp only [Int.lt_irrefl, decide_false, cond_false]
  rfl
theorem h41 (l : List Ofr) (d : List Dl) (y : Int × Unit) (hw : WFs A41 (l, d, ())) (h : s41 l d = some y) : ∃ k, f41 s47 k l d = some y := by
  simp only [WFs, WF] at hw
  have hl : d.length ≤ 9223372036854775807 := hw.2.1.1
  clear hw
  unfold s41 at h
  split at h
  rotate_left
  · cases h
  rename_i hf
  obtain ⟨hF, hf⟩ := hf
  cases h
  have e47 : ∀ x, s47 l x = some (s43 l x, ()) := fun x => if_pos hF
  refine ⟨d.length + 1, ?_⟩
  unfold f41
  rw [iter_fold (s0 := (zPT0, ())) d (fun (j : Nat) (c : Int) => ((c, (j : Int), ()), ())) (fun x c => IntKind.i64.wrap (c + (rd (α := PT3) zPT3 l (s43 l x)).2.2.1)) (fun c => .inr ((c, ()), ())) (fun _ _ => True) 0 trivial rfl (by omega) (fun _ _ _ _ _ => trivial) ?a1 ?a2]
  case a1 =>
    intro j x c hx _
    simp only [lt_at hx, inR_at hx, rd_at hx, wrap_succ hx hl, cond_true, e47, Option.bind_some, s43_in (hf x (List.mem_of_getElem? hx))]
  case a2 => intro c _; simp only [Int.lt_irrefl, decide_false, cond_false]
  rfl
theorem dRec_found {l : List Ofr} {d : List Dl} : ∀ (r : List Dl) (j : Nat), dRec l d r j = 0 → ∀ x ∈ r, 0 ≤ s43 l x
  | [], _, _, x, hx => by cases hx
  | x :: r, j, h, y, hy => by
    simp only [dRec] at h
    cases hb : dBad l d j x != 0
    rotate_left
    · rw [hb, cond_true] at h; rw [h] at hb; cases hb
    rw [hb, cond_false] at h
    rcases List.mem_cons.1 hy with rfl | hy
    · have hb0 : dBad l d j y = 0 := by simpa using hb
      unfold dBad at hb0
      cases hs : decide (s43 l y < 0)
      · have := of_decide_eq_false hs; omega
      · rw [hs, cond_true] at hb0; cases hb0
    · exact dRec_found r (j + 1) h y hy
theorem found_of {l : List Ofr} {d : List Dl} (h : dealsF l d = 0) : found l d := by
  unfold dealsF at h
  split at h
  · cases h
  · exact dRec_found d 0 h
end Go.Vm
