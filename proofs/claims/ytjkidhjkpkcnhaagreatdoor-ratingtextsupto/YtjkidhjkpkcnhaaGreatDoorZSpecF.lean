/- RatingTexts: Read, in the program and in the reference. Own work. -/
import Derived.Test.YtjkidhjkpkcnhaaGreatDoorZSpecE
set_option maxRecDepth 100000
set_option linter.unusedVariables false
set_option linter.unusedSimpArgs false
namespace Go.Vm
open Go.RowKit Go.Vm.Num
theorem scan_rel {α β τ τ' : Type} (b1 : Nat → α → β → β ⊕ τ) (b2 : Nat → α → β → β ⊕ τ') (f1 : β → τ) (f2 : β → τ') (R : τ → τ' → Prop)
    (hb : ∀ j x b, (∃ b', b1 j x b = .inl b' ∧ b2 j x b = .inl b') ∨ (∃ t t', b1 j x b = .inr t ∧ b2 j x b = .inr t' ∧ R t t')) (hf : ∀ b, R (f1 b) (f2 b)) : ∀ (l : List α) (j : Nat) (b : β), R (scan b1 f1 l j b) (scan b2 f2 l j b)
  | [], j, b => hf b
  | x :: l, j, b => by
    rcases hb j x b with ⟨b', h1, h2⟩ | ⟨t, t', h1, h2, h3⟩
    · simp only [scan, h1, h2]
      exact scan_rel b1 b2 f1 f2 R hb hf l (j + 1) b'
    · simp only [scan, h1, h2]
      exact h3
abbrev ZTau : Type := (((List ZT10) × Int × Int × Unit) ⊕ (ZT1 × ((List ZT10) × Unit))) ⊕ ((Unit) × ((List ZT10) × Unit))
/-- how a reading ended -/
def Ends (t : ZTau) (r : Nat ⊕ List Rt) : Prop :=
  (∃ (i : Nat) (out : List Rt), t = .inl (.inr (((i : Int), false, ()), (out, ()))) ∧ r = .inl i) ∨ (∃ out : List Rt, t = .inr ((), (out, ())) ∧ r = .inr out)
def zBody (n : Nat) (ends : Bool) (j : Nat) (w : ByteArray) (out : List Rt) : List Rt ⊕ ZTau :=
  bif !ends && ((j : Int) == (n : Int) - 1) then .inr (.inl (.inr (((j : Int), false, ()), (out, ())))) else match lineRt w with
    | some r => .inl (out ++ [r])
    | none => .inr (.inl (.inr (((j : Int), false, ()), (out, ()))))
theorem zBody_rel (n : Nat) (ends : Bool) (j : Nat) (w : ByteArray) (out : List Rt) : (∃ b', zBody n ends j w out = .inl b' ∧ pBody n ends j w out = .inl b') ∨ (∃ t t', zBody n ends j w out = .inr t ∧ pBody n ends j w out = .inr t' ∧ Ends t t') := by
  unfold zBody pBody
  cases (!ends && ((j : Int) == (n : Int) - 1))
  · simp only [cond_false]
    cases lineRt w with
    | none => exact .inr ⟨_, _, rfl, rfl, .inl ⟨_, _, rfl, rfl⟩⟩
    | some r => exact .inl ⟨_, rfl, rfl⟩
  · exact .inr ⟨_, _, rfl, rfl, .inl ⟨_, _, rfl, rfl⟩⟩
theorem fin_same (out : List Rt) : (bif (rFaults out) != (0 : Int) then (some ([], (0 : Int), rFaults out, ()) : Option (List Rt × Int × Int × Unit)) else some (out, 0, 0, ())) = some (readRes (.inr out)) := by
  unfold readRes
  simp only
  cases (rFaults out != 0) <;> rfl
theorem h57 (s : ByteArray) (y : List Rt × Int × Int × Unit) (hw : WFs A57 (s, ())) (h : s57 s = some y) : ∃ k, f57 s112 s113 s121 s156 k s = some y := by
  unfold s57 at h
  cases h
  clear hw
  refine ⟨200002, ?_⟩
  rw [f57w_eq]
  unfold f57w readT
  by_cases hs : s.size > 200000
  · have : decide ((s.size : Int) > 200000) = true := decide_eq_true (by omega)
    rw [this, if_pos hs]
    rfl
  have : decide ((s.size : Int) > 200000) = false := decide_eq_false (by omega)
  rw [this, if_neg hs]
  obtain ⟨L, ends, h1, h2, h3, h4⟩ := read_lines (s := s) (by omega)
  rw [h1]
  simp only [Option.bind_some, cond_false]
  rw [iter_scanI (s0 := (((0 : Int), ()), (([] : List Rt), ()))) L (fun i (b : List Rt) => (((i : Int), ()), (b, ()))) (zBody L.length ends) (fun b => .inr ((), (b, ()))) (fun j b => b.length ≤ j) [] (Nat.le_refl _) rfl (by omega) ?hJ ?h1 ?h2]
  · have hr := scan_rel (zBody L.length ends) (pBody L.length ends) (fun b => .inr ((), (b, ()))) (fun b => .inr b) Ends (zBody_rel _ _) (fun b => .inr ⟨b, rfl, rfl⟩) L 0 []
    rw [h4] at hr
    generalize scan (zBody L.length ends) (fun b => .inr ((), (b, ()))) L 0 [] = t at hr ⊢
    generalize rdP (pieces 10 s.data.toList) 0 [] = r at hr ⊢
    rcases hr with ⟨i, out, rfl, rfl⟩ | ⟨out, rfl, rfl⟩
    · rfl
    · exact fin_same out
  case hJ =>
    intro j w b b' hx hb e
    unfold zBody at e
    cases hc : (!ends && ((j : Int) == (L.length : Int) - 1))
    · rw [hc] at e
      simp only [cond_false] at e
      cases hl : lineRt w with
      | none => rw [hl] at e; cases e
      | some r =>
        rw [hl] at e
        cases e
        simp only [List.length_append, List.length_singleton]
        omega
    · rw [hc] at e
      cases e
  case h2 => intro b _; simp
  case h1 =>
    intro j w b hx hb
    have hj := (List.getElem?_eq_some_iff.1 hx).1
    have e1 := lineW_eq (i := (j : Int)) (h3 w (List.mem_of_getElem? hx)) (show b.length < 4294967296 by omega)
    have e2 : IntKind.i64.wrap ((L.length : Int) - 1) = (L.length : Int) - 1 := wrap_ok (by omega) (by omega)
    simp only [lt_at hx, inR_at hx, rd_at hx, cond_true, e1, e2]
    unfold zBody outT
    cases ends
    · simp only [Bool.not_false, cond_true, Bool.true_and]
      cases ((j : Int) == (L.length : Int) - 1)
      · simp only [cond_false]
        cases lineRt w with
        | none => rfl
        | some r => simp only [wrap_succ hx (by omega)]
      · rfl
    · simp only [Bool.not_true, cond_false, Bool.false_and]
      cases lineRt w with
      | none => rfl
      | some r => simp only [wrap_succ hx (by omega)]
/-! ### the reference -/
def s124 (w : ByteArray) : Option (List ByteArray × Bool × Unit) := if w.size < 4294967281 then some (splitL w sp, !(splitL w sp).any isE, ()) else none
theorem s117_empty (l : List ByteArray) : s117 l (ByteArray.mk #[]) = l.any isE := by
  unfold s117 hasS
  congr 1
  funext w
  exact isE_sEq w
theorem h124 (w : ByteArray) (y : List ByteArray × Bool × Unit) (hw : WFs A124 (w, ())) (h : s124 w = some y) : ∃ k, f124 s116 s117 k w = some y := ⟨0, by
  unfold s124 at h
  split at h
  rotate_left
  · cases h
  rename_i hr
  cases h
  unfold f124
  rw [show s116 w (ByteArray.mk #[32]) = some (splitL w sp, ()) from s116_one hr]
  simp only [Option.bind_some, s117_empty]⟩
theorem pieces_single (c : UInt8) : ∀ (l p : List UInt8), pieces c l = [p] → p = l
  | [], p, h => by simp [pieces] at h; exact h
  | b :: l, p, h => by
    unfold pieces at h
    split at h
    · have := pieces_ne c l
      simp at h
      exact absurd h.2 this
    · split at h
      · rename_i hp
        exact absurd hp (pieces_ne c l)
      · rename_i q qs hp
        simp only [List.cons.injEq] at h
        obtain ⟨rfl, rfl⟩ := h
        rw [pieces_single c l q hp]
theorem rVal_ok {w : ByteArray} (h : numOk 15 w.data.toList = true) : rVal 15 w = aVal w := by
  unfold numOk at h
  rw [Bool.and_eq_true] at h
  unfold rVal
  rw [h.1]
  rfl
theorem pieces_first (c : UInt8) : ∀ (l p q : List UInt8) (ps : List (List UInt8)), pieces c l = p :: q :: ps → p.length + 1 ≤ l.length
  | [], p, q, ps, h => by simp [pieces] at h
  | b :: l, p, q, ps, h => by
    unfold pieces at h
    split at h
    · simp only [List.cons.injEq] at h
      obtain ⟨rfl, h⟩ := h
      simp
    · split at h
      · simp at h
      · rename_i p' ps' hp
        simp only [List.cons.injEq] at h
        obtain ⟨rfl, rfl⟩ := h
        have := pieces_first c l p' q ps hp
        simp only [List.length_cons]
        omega
theorem bind_post {σ τ ρ ρ' : Type} {f : σ → Option (σ ⊕ τ)} {g : τ → Option ρ} {g' : ρ → Option ρ'} {y : Option ρ'} {k : Nat} {s : σ} (I : σ → Prop) (m : σ → Nat) (Q : τ → Prop)
    (h : ∀ s, I s → (∃ s', f s = some (.inl s') ∧ I s' ∧ m s' < m s) ∨ (∃ t, f s = some (.inr t) ∧ Q t)) (hi : I s) (hm : m s < k) (hq : ∀ t, Q t → Option.bind (g t) g' = y) : Option.bind (Option.bind (iter k f s) g) g' = y := by
  obtain ⟨t, e, q⟩ := iter_post I m Q h k s hi hm
  rw [e]
  exact hq t q
theorem h58 (s : ByteArray) (y : List Rt × Int × Int × Unit) (hw : WFs A58 (s, ())) (h : s58 s = some y) : ∃ k, f58 s53 s118 s124 s157 k s = some y := by
  unfold s58 at h
  cases h
  clear hw
  refine ⟨200002, ?_⟩
  unfold f58 readT
  by_cases hs : s.size > 200000
  · have : decide ((s.size : Int) > 200000) = true := decide_eq_true (by omega)
    rw [this, if_pos hs]
    rfl
  have : decide ((s.size : Int) > 200000) = false := decide_eq_false (by omega)
  rw [this, if_neg hs]
  simp only [cond_false]
  generalize hR : rdP (pieces 10 s.data.toList) 0 [] = R
  refine bind_post (fun y => ∃ (x : ByteArray) (i : Nat) (out : List Rt), y = ((x, (i : Int), ()), (out, ())) ∧ out.length ≤ i ∧ i + x.size ≤ 200000 ∧ rdP (pieces 10 x.data.toList) i out = R) (fun y => y.1.1.size) (fun t => Ends t R) ?step ⟨s, 0, [], rfl, Nat.le_refl _, by omega, hR⟩ (by show s.size < 200002; omega) ?fin
  case fin =>
    rintro t (⟨i, out, rfl, rfl⟩ | ⟨out, rfl, rfl⟩)
    · rfl
    · exact fin_same out
  case step =>
    rintro y ⟨x, i, out, rfl, ho, hi, hx⟩
    have e0 : sEq x (ByteArray.mk #[]) = isE x := sEq_empty x
    simp only [e0]
    cases hE : isE x
    rotate_left
    · right
      refine ⟨_, rfl, .inr ⟨out, rfl, ?_⟩⟩
      have : x.data.toList = [] := by unfold isE at hE; simpa using hE
      rw [this] at hx
      exact hx.symm
    have hne : x.data.toList ≠ [] := by intro h; unfold isE at hE; rw [h] at hE; cases hE
    have e157 : s157 x (ByteArray.mk #[10]) = some (⟨(Lib.cut x.data.toList [10]).1.toArray⟩, ⟨(Lib.cut x.data.toList [10]).2.1.toArray⟩, (Lib.cut x.data.toList [10]).2.2, ()) := by
      unfold s157
      rw [if_pos (by omega)]
    simp only [Bool.not_false, cond_true, e157, Option.bind_some]
    rw [cut_one]
    cases hp : pieces 10 x.data.toList with
    | nil => exact absurd hp (pieces_ne _ _)
    | cons p ps =>
      cases ps with
      | nil =>
        right
        have := pieces_single _ _ _ hp
        refine ⟨_, rfl, .inl ⟨i, out, rfl, ?_⟩⟩
        rw [hp, this] at hx
        cases hd : x.data.toList with
        | nil => exact absurd hd hne
        | cons c l =>
          rw [hd] at hx
          exact hx.symm
      | cons q ps =>
        have hrest := pieces_rest 10 _ p q ps hp
        have hpx := pieces_first 10 _ p q ps hp
        rw [bytes_size] at hpx
        rw [hp] at hx
        have hsz : (⟨p.toArray⟩ : ByteArray).size = p.length := by rw [← bytes_size]
        have hrs : (⟨(x.data.toList.drop (p.length + 1)).toArray⟩ : ByteArray).size = x.size - (p.length + 1) := by rw [← bytes_size, List.toList_toArray, List.length_drop, bytes_size]
        simp only [Bool.not_true, cond_false]
        rw [show s124 ⟨p.toArray⟩ = some (splitL ⟨p.toArray⟩ sp, !(splitL ⟨p.toArray⟩ sp).any isE, ()) from by unfold s124; rw [if_pos (by omega)]]
        simp only [Option.bind_some]
        simp only [rdP] at hx
        by_cases h5 : ((splitL ⟨p.toArray⟩ sp).length : Int) = 5
        rotate_left
        · rw [line_none h5] at hx
          have : (((splitL ⟨p.toArray⟩ sp).length : Int) != 5) = true := by simpa using h5
          rw [this]
          refine .inr ⟨_, ?_, .inl ⟨i, out, rfl, hx.symm⟩⟩
          cases (!!(splitL ⟨p.toArray⟩ sp).any isE) <;> rfl
        obtain ⟨a, b, c, d, e, hs5⟩ := five h5
        have hsm := split_small (show (⟨p.toArray⟩ : ByteArray).size ≤ 200000 by omega)
        rw [hs5] at hsm
        rw [line_five hs5] at hx
        rw [hs5]
        have e118 : s118 [d, e] 15 = some ([rVal 15 d, rVal 15 e], [d, e].all (fun w => numOk 15 w.data.toList), ()) := by
          unfold s118
          rw [if_pos ⟨⟨by simp, fun x hx => by have := hsm x (List.mem_cons_of_mem _ (List.mem_cons_of_mem _ (List.mem_cons_of_mem _ hx))); omega⟩, by omega⟩]
          rfl
        show _ ∨ _
        rw [show (([a, b, c, d, e].length : Int) != 5) = false from rfl]
        simp only [cond_false]
        cases hE : [a, b, c, d, e].any isE
        rotate_left
        · rw [hE] at hx
          exact .inr ⟨_, rfl, .inl ⟨i, out, rfl, hx.symm⟩⟩
        rw [hE] at hx
        simp only [Bool.not_false, Bool.not_true, cond_false]
        rw [show (decide (0 ≤ (3 : Int)) && (decide ((3 : Int) ≤ ((List.length [a, b, c, d, e] : Nat) : Int)) && decide (((List.length [a, b, c, d, e] : Nat) : Int) ≤ ((List.length [a, b, c, d, e] : Nat) : Int)))) = true from rfl]
        rw [show (List.drop (Int.toNat (3 : Int)) (List.take (Int.toNat ((List.length [a, b, c, d, e] : Nat) : Int)) [a, b, c, d, e])) = [d, e] from rfl, e118]
        simp only [cond_true, Option.bind_some]
        have e5 : ∀ r : Rt, decide (out.length + [r].length ≤ 4294967296) = true := fun r => decide_eq_true (by rw [List.length_singleton]; omega)
        simp only [show (inR (0 : Int) ((List.length [a, b, c, d, e] : Nat) : Int)) = true from rfl, show (inR (1 : Int) ((List.length [a, b, c, d, e] : Nat) : Int)) = true from rfl, show (inR (2 : Int) ((List.length [a, b, c, d, e] : Nat) : Int)) = true from rfl, show ∀ x1 x2 : Int, (inR (0 : Int) ((List.length [x1, x2] : Nat) : Int)) = true from fun _ _ => rfl, show ∀ x1 x2 : Int, (inR (1 : Int) ((List.length [x1, x2] : Nat) : Int)) = true from fun _ _ => rfl, cond_true, e5]
        cases hA : [d, e].all (fun w => numOk 15 w.data.toList)
        · rw [hA] at hx
          exact .inr ⟨_, rfl, .inl ⟨i, _, rfl, hx.symm⟩⟩
        · rw [hA] at hx
          have hA' := hA
          simp only [List.all_cons, List.all_nil, Bool.and_true, Bool.and_eq_true] at hA'
          rw [rVal_ok hA'.1, rVal_ok hA'.2]
          left
          refine ⟨((⟨(x.data.toList.drop (p.length + 1)).toArray⟩, ((i + 1 : Nat) : Int), ()), (out ++ [(a, b, c, aVal d, aVal e, ())], ())), ?_, ⟨_, i + 1, _, rfl, ?_, ?_, ?_⟩, ?_⟩
          · rw [← show IntKind.i64.wrap ((i : Int) + 1) = ((i + 1 : Nat) : Int) by rw [wrap_ok (by omega) (by omega)]; omega]
            rfl
          · simp only [List.length_append, List.length_singleton]; omega
          · rw [hrs]; omega
          · show rdP (pieces 10 (List.drop (p.length + 1) x.data.toList)) (i + 1) _ = R
            rw [hrest]
            exact hx
          · show (⟨(x.data.toList.drop (p.length + 1)).toArray⟩ : ByteArray).size < x.size
            rw [hrs]
            omega
end Go.Vm
