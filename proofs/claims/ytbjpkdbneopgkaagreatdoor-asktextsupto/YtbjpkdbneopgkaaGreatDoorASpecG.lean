/- AskTexts: Read, in the program and in the reference: whole texts. Own work. -/
import Derived.Test.YtbjpkdbneopgkaaGreatDoorASpecF
set_option maxRecDepth 100000
set_option linter.unusedVariables false
set_option linter.unusedSimpArgs false
namespace Go.Vm
open Go.RowKit Go.Vm.Num
section
variable {α σ ρ ρ' : Type}
theorem ends2 {k : Nat} {f : σ → Option (σ ⊕ TauG α)} {s : σ} {r : Nat ⊕ List α} {g : TauG α → Option ρ} {g' : ρ → Option ρ'} {y : Option ρ'} (h : ∃ t, iter k f s = some t ∧ EndsG t r) (hq : ∀ t, EndsG t r → Option.bind (g t) g' = y) : Option.bind (Option.bind (iter k f s) g) g' = y := by
  obtain ⟨t, e, q⟩ := h
  rw [e]
  exact hq t q
theorem finG {faults : List α → Int} (out : List α) : (bif (faults out) != (0 : Int) then (some ([], (0 : Int), faults out, ()) : Option (List α × Int × Int × Unit)) else some (out, 0, 0, ())) = some (resG faults (.inr out)) := by
  unfold resG
  simp only
  cases (faults out != 0) <;> rfl
end
def readAsks (s : ByteArray) : List Ask × Int × Int × Unit := readG askLine asksFault s
def s11 (s : ByteArray) : Option (List Ask × Int × Int × Unit) := some (readAsks s)
def s12 (s : ByteArray) : Option (List Ask × Int × Int × Unit) := some (readAsks s)
theorem e47 {w : ByteArray} (h : w.size ≤ 200000) : s47 w = some (match askLine w with | some a => (a, true, ()) | none => zAT7) := if_pos h
theorem h11 (s : ByteArray) (y : List Ask × Int × Int × Unit) (hw : WFs A11 (s, ())) (h : s11 s = some y) : ∃ k, f11 s38 s47 s82 k s = some y := by
  unfold s11 at h
  cases h
  clear hw
  refine ⟨200002, ?_⟩
  unfold f11 readAsks readG
  by_cases hs : s.size > 200000
  · have : decide ((s.size : Int) > 200000) = true := decide_eq_true (by omega)
    rw [this, if_pos hs]
    rfl
  have : decide ((s.size : Int) > 200000) = false := decide_eq_false (by omega)
  rw [this, if_neg hs]
  obtain ⟨L, ends, h1, h2, h3, h4⟩ := read_linesG askLine (s := s) (by omega)
  rw [h1]
  simp only [Option.bind_some, cond_false]
  rw [← h4]
  refine ends2 (read_progG (L := L) (ends := ends) (lineF := askLine) ?hbad ?hgood ?hend L 0 [] 200002 rfl (Nat.zero_le _) (Nat.le_refl _) (by omega)) ?hq
  case hq =>
    rintro t (⟨i, out, rfl, e⟩ | ⟨out, rfl, e⟩)
    · rw [e]; rfl
    · rw [e]; exact finG out
  case hend => intro out; simp
  case hbad =>
    intro j w out hx ho hb
    have e2 : IntKind.i64.wrap ((L.length : Int) - 1) = (L.length : Int) - 1 := wrap_ok (by omega) (by omega)
    have hj := (List.getElem?_eq_some_iff.1 hx).1
    have e5 : ∀ a : Ask, decide (out.length + [a].length ≤ 4294967296) = true := fun a => decide_eq_true (by rw [List.length_singleton]; omega)
    simp only [stG, lt_at hx, inR_at hx, rd_at hx, cond_true, e2, e47 (h3 w (List.mem_of_getElem? hx)), Option.bind_some]
    cases hc : (!ends && ((j : Int) == (L.length : Int) - 1))
    · have hf : askLine w = none := hb.resolve_left (by rw [hc]; simp)
      rw [hf]
      simp only [e5, cond_true]
      cases ends
      · rw [show ((j : Int) == (L.length : Int) - 1) = false from by simpa using hc]
        exact ⟨_, rfl⟩
      · exact ⟨_, rfl⟩
    · rw [Bool.and_eq_true] at hc
      rw [show ends = false from by simpa using hc.1, hc.2]
      exact ⟨_, rfl⟩
  case hgood =>
    intro j w out a hx ho hb hf
    have e2 : IntKind.i64.wrap ((L.length : Int) - 1) = (L.length : Int) - 1 := wrap_ok (by omega) (by omega)
    have hj := (List.getElem?_eq_some_iff.1 hx).1
    have e5 : ∀ a : Ask, decide (out.length + [a].length ≤ 4294967296) = true := fun a => decide_eq_true (by rw [List.length_singleton]; omega)
    simp only [stG, lt_at hx, inR_at hx, rd_at hx, cond_true, e2, e47 (h3 w (List.mem_of_getElem? hx)), Option.bind_some, hf, wrap_succ hx (by omega), e5]
    cases ends
    · rw [show ((j : Int) == (L.length : Int) - 1) = false from by simpa using hb]
      rfl
    · rfl
/-! ### the reference -/
theorem e53 {a b c d : ByteArray} (h : ∀ x ∈ [a, b, c, d], x.size ≤ 200000) : s53 [a, b, c, d] 15 = some ([rVal 15 a, rVal 15 b, rVal 15 c, rVal 15 d], [a, b, c, d].all (fun w => numOk 15 w.data.toList), ()) := by
  unfold s53
  rw [if_pos ⟨⟨by simp, fun x hx => by have := h x hx; omega⟩, by omega⟩]
  rfl
theorem e50 {w : ByteArray} (h : w.size ≤ 200000) : s50 w = some (splitL w sp, !(splitL w sp).any isE, ()) := by
  unfold s50
  rw [if_pos (by omega)]
theorem not_lt4 {ws : List ByteArray} (h : ((ws.length : Int) == 4) = false) : decide ((ws.length : Int) < 4) = true ∨ 5 ≤ ws.length := by
  rw [beq_eq_false_iff_ne] at h
  by_cases h2 : ws.length < 4
  · exact .inl (decide_eq_true (by omega))
  · exact .inr (by omega)
theorem five_or {ws : List ByteArray} (h : 5 ≤ ws.length) : ∃ t k id r u l, ws = t :: k :: id :: r :: u :: l := by
  match ws, h with
  | t :: k :: id :: r :: u :: l, _ => exact ⟨t, k, id, r, u, l, rfl⟩
theorem h12 (s : ByteArray) (y : List Ask × Int × Int × Unit) (hw : WFs A12 (s, ())) (h : s12 s = some y) : ∃ k, f12 s6 s37 s50 s51 s52 s53 s85 k s = some y := by
  unfold s12 at h
  cases h
  clear hw
  refine ⟨200002, ?_⟩
  unfold f12 readAsks readG
  by_cases hs : s.size > 200000
  · have : decide ((s.size : Int) > 200000) = true := decide_eq_true (by omega)
    rw [this, if_pos hs]
    rfl
  have : decide ((s.size : Int) > 200000) = false := decide_eq_false (by omega)
  rw [this, if_neg hs]
  simp only [cond_false]
  refine ends2 (read_refG (lineF := askLine) (s := s) (k := 200002) (by omega) (by omega) ?hend ?hopen ?hbad ?hgood) ?hq
  case hq =>
    rintro t (⟨i, out, rfl, e⟩ | ⟨out, rfl, e⟩)
    · rw [e]; rfl
    · rw [e]; exact finG out
  case hend =>
    intro x i out hE
    have e0 : sEq x (ByteArray.mk #[]) = isE x := sEq_empty x
    simp only [stR, e0, hE]
    rfl
  case hopen =>
    intro x i out p hE hx hp
    have e0 : sEq x (ByteArray.mk #[]) = isE x := sEq_empty x
    simp only [stR, e0, hE, Bool.not_false, cond_true, (cutG hx).1 p hp, Option.bind_some]
    exact ⟨_, rfl⟩
  case hbad =>
    intro x i out p q ps hE hx hol hpl hp hf
    have e0 : sEq x (ByteArray.mk #[]) = isE x := sEq_empty x
    simp only [stR, e0, hE, Bool.not_false, cond_true, (cutG hx).2 p q ps hp, Option.bind_some, Bool.not_true, cond_false, e50 hpl]
    have hsm := split_small hpl
    have e5 : ∀ a : Ask, decide (out.length + [a].length ≤ 4294967296) = true := fun a => decide_eq_true (by rw [List.length_singleton]; omega)
    generalize (⟨p.toArray⟩ : ByteArray) = w at hf hpl hsm ⊢
    cases hW : (splitL w sp).any isE
    rotate_left
    · exact ⟨_, rfl⟩
    simp only [Bool.not_false, Bool.not_true, cond_false]
    rcases len_cases (splitL w sp) with ⟨t, k, id, r, he⟩ | ⟨t, k, id, r, f, o, a, b, c, d, he⟩ | ⟨h4, h10⟩
    · rw [ask_four he hW] at hf
      rw [he] at hsm hW ⊢
      have ht := hsm t (by simp)
      have hk : isE k = false := by
        simp only [List.any_cons, Bool.or_eq_false_iff] at hW
        exact hW.2.1
      simp only [show decide ((([t, k, id, r].length : Nat) : Int) < 4) = false from rfl, show ((([t, k, id, r].length : Nat) : Int) != 10) = true from rfl, show ((([t, k, id, r].length : Nat) : Int) == 4) = true from rfl, show inR (0 : Int) (([t, k, id, r].length : Nat) : Int) = true from rfl, show inR (1 : Int) (([t, k, id, r].length : Nat) : Int) = true from rfl, show inR (2 : Int) (([t, k, id, r].length : Nat) : Int) = true from rfl, show inR (3 : Int) (([t, k, id, r].length : Nat) : Int) = true from rfl, show rd (α := ByteArray) ByteArray.empty [t, k, id, r] (0 : Int) = t from rfl, show rd (α := ByteArray) ByteArray.empty [t, k, id, r] (1 : Int) = k from rfl, show rd (α := ByteArray) ByteArray.empty [t, k, id, r] (2 : Int) = id from rfl, show rd (α := ByteArray) ByteArray.empty [t, k, id, r] (3 : Int) = r from rfl, cond_false, cond_true, e51 (show t.size ≤ 281474976710656 by omega), Option.bind_some, s52_ref hk, e5]
      cases hkk : kindOf k with
      | none => exact ⟨_, rfl⟩
      | some n =>
        rw [hkk] at hf
        have hn := kind_lt hkk
        have e1 : decide ((n : Int) + 1 < 1) = false := decide_eq_false (by omega)
        simp only [e1, cond_false] at hf ⊢
        by_cases h2 : 2 ≤ n
        · rw [decide_eq_true h2] at hf
          rw [show decide ((n : Int) + 1 > 2) = true from decide_eq_true (by omega)]
          simp only [Bool.true_and] at hf
          cases hnt : numOk 15 t.data.toList
          · rw [hnt] at hf
            exact ⟨_, rfl⟩
          · rw [hnt] at hf
            cases hf
        · rw [decide_eq_false h2] at hf
          rw [show decide ((n : Int) + 1 > 2) = false from decide_eq_false (by omega)]
          exact ⟨_, rfl⟩
    · rw [ask_ten he hW] at hf
      rw [he] at hsm hW ⊢
      have ht := hsm t (by simp)
      have hk : isE k = false := by
        simp only [List.any_cons, Bool.or_eq_false_iff] at hW
        exact hW.2.1
      have e53' := e53 (a := a) (b := b) (c := c) (d := d) (fun x hx => hsm x (by simp only [List.mem_cons] at hx ⊢; simp only [hx, or_true]))
      simp only [show decide ((([t, k, id, r, f, o, a, b, c, d].length : Nat) : Int) < 4) = false from rfl, show ((([t, k, id, r, f, o, a, b, c, d].length : Nat) : Int) != 10) = false from rfl, show ((([t, k, id, r, f, o, a, b, c, d].length : Nat) : Int) == 4) = false from rfl, show inR (0 : Int) (([t, k, id, r, f, o, a, b, c, d].length : Nat) : Int) = true from rfl, show inR (1 : Int) (([t, k, id, r, f, o, a, b, c, d].length : Nat) : Int) = true from rfl, show inR (2 : Int) (([t, k, id, r, f, o, a, b, c, d].length : Nat) : Int) = true from rfl, show inR (3 : Int) (([t, k, id, r, f, o, a, b, c, d].length : Nat) : Int) = true from rfl, show inR (4 : Int) (([t, k, id, r, f, o, a, b, c, d].length : Nat) : Int) = true from rfl, show inR (5 : Int) (([t, k, id, r, f, o, a, b, c, d].length : Nat) : Int) = true from rfl, show rd (α := ByteArray) ByteArray.empty [t, k, id, r, f, o, a, b, c, d] (0 : Int) = t from rfl, show rd (α := ByteArray) ByteArray.empty [t, k, id, r, f, o, a, b, c, d] (1 : Int) = k from rfl, show rd (α := ByteArray) ByteArray.empty [t, k, id, r, f, o, a, b, c, d] (2 : Int) = id from rfl, show rd (α := ByteArray) ByteArray.empty [t, k, id, r, f, o, a, b, c, d] (3 : Int) = r from rfl, show rd (α := ByteArray) ByteArray.empty [t, k, id, r, f, o, a, b, c, d] (4 : Int) = f from rfl, show rd (α := ByteArray) ByteArray.empty [t, k, id, r, f, o, a, b, c, d] (5 : Int) = o from rfl, cond_false, cond_true, e51 (show t.size ≤ 281474976710656 by omega), Option.bind_some, s52_ref hk, e5,
        show (decide (0 ≤ (6 : Int)) && (decide ((6 : Int) ≤ (([t, k, id, r, f, o, a, b, c, d].length : Nat) : Int)) && decide ((([t, k, id, r, f, o, a, b, c, d].length : Nat) : Int) ≤ (([t, k, id, r, f, o, a, b, c, d].length : Nat) : Int)))) = true from rfl, show List.drop (Int.toNat (6 : Int)) (List.take (Int.toNat (([t, k, id, r, f, o, a, b, c, d].length : Nat) : Int)) [t, k, id, r, f, o, a, b, c, d]) = [a, b, c, d] from rfl, e53',
        show ∀ x1 x2 x3 x4 : Int, inR (0 : Int) (([x1, x2, x3, x4].length : Nat) : Int) = true from fun _ _ _ _ => rfl, show ∀ x1 x2 x3 x4 : Int, inR (1 : Int) (([x1, x2, x3, x4].length : Nat) : Int) = true from fun _ _ _ _ => rfl, show ∀ x1 x2 x3 x4 : Int, inR (2 : Int) (([x1, x2, x3, x4].length : Nat) : Int) = true from fun _ _ _ _ => rfl, show ∀ x1 x2 x3 x4 : Int, inR (3 : Int) (([x1, x2, x3, x4].length : Nat) : Int) = true from fun _ _ _ _ => rfl]
      cases hkk : kindOf k with
      | none => exact ⟨_, rfl⟩
      | some n =>
        rw [hkk] at hf
        have hn := kind_lt hkk
        have e1 : decide ((n : Int) + 1 < 1) = false := decide_eq_false (by omega)
        simp only [e1, cond_false] at hf ⊢
        by_cases h2 : n < 2
        · rw [decide_eq_true h2] at hf
          rw [show decide ((n : Int) + 1 > 2) = false from decide_eq_false (by omega)]
          simp only [Bool.true_and] at hf
          cases hnt : numOk 15 t.data.toList
          · rw [hnt] at hf
            exact ⟨_, rfl⟩
          · rw [hnt] at hf
            simp only [Bool.true_and] at hf
            cases hA : [a, b, c, d].all (fun w => numOk 15 w.data.toList)
            · rw [hA] at hf
              exact ⟨_, rfl⟩
            · rw [hA] at hf
              cases hf
        · rw [decide_eq_false h2] at hf
          rw [show decide ((n : Int) + 1 > 2) = true from decide_eq_true (by omega)]
          cases hnt : numOk 15 t.data.toList <;> exact ⟨_, rfl⟩
    · rcases not_lt4 h4 with e | e
      · rw [e]
        exact ⟨_, rfl⟩
      obtain ⟨t, k, id, r, u, l, he⟩ := five_or e
      rw [he] at hsm hW h4 h10 ⊢
      have ht := hsm t (by simp)
      have hk : isE k = false := by
        simp only [List.any_cons, Bool.or_eq_false_iff] at hW
        exact hW.2.1
      have e10 : (((t :: k :: id :: r :: u :: l).length : Int) != 10) = true := by rw [bne, h10]; rfl
      have e4 : decide (((t :: k :: id :: r :: u :: l).length : Int) < 4) = false := decide_eq_false (by simp only [List.length_cons]; omega)
      have eR : ∀ z : Nat, z < 4 → inR (z : Int) ((t :: k :: id :: r :: u :: l).length : Int) = true := fun z hz => by
        unfold inR
        rw [Bool.and_eq_true, decide_eq_true_eq, decide_eq_true_eq]
        simp only [List.length_cons]
        omega
      simp only [e4, h4, e10, eR 0 (by omega), eR 1 (by omega), eR 2 (by omega), eR 3 (by omega), show inR (0 : Int) ((t :: k :: id :: r :: u :: l).length : Int) = true from eR 0 (by omega), show inR (1 : Int) ((t :: k :: id :: r :: u :: l).length : Int) = true from eR 1 (by omega), show inR (2 : Int) ((t :: k :: id :: r :: u :: l).length : Int) = true from eR 2 (by omega), show inR (3 : Int) ((t :: k :: id :: r :: u :: l).length : Int) = true from eR 3 (by omega), show rd (α := ByteArray) ByteArray.empty (t :: k :: id :: r :: u :: l) (0 : Int) = t from rfl, show rd (α := ByteArray) ByteArray.empty (t :: k :: id :: r :: u :: l) (1 : Int) = k from rfl, cond_false, cond_true, e51 (show t.size ≤ 281474976710656 by omega), Option.bind_some, s52_ref hk, e5]
      cases hkk : kindOf k with
      | none => exact ⟨_, rfl⟩
      | some n =>
        have hn := kind_lt hkk
        have e1 : decide ((n : Int) + 1 < 1) = false := decide_eq_false (by omega)
        simp only [e1, cond_false]
        cases decide ((n : Int) + 1 > 2)
        · exact ⟨_, rfl⟩
        · cases numOk 15 t.data.toList <;> exact ⟨_, rfl⟩
  case hgood =>
    intro x i out p q ps ast hE hx hol hil hpl hp hf
    have e0 : sEq x (ByteArray.mk #[]) = isE x := sEq_empty x
    simp only [stR, e0, hE, Bool.not_false, cond_true, (cutG hx).2 p q ps hp, Option.bind_some, Bool.not_true, cond_false, e50 hpl]
    have hsm := split_small hpl
    have e5 : ∀ a : Ask, decide (out.length + [a].length ≤ 4294967296) = true := fun a => decide_eq_true (by rw [List.length_singleton]; omega)
    generalize (⟨p.toArray⟩ : ByteArray) = w at hf hpl hsm ⊢
    cases hW : (splitL w sp).any isE
    rotate_left
    · rw [ask_empty hW] at hf
      cases hf
    simp only [Bool.not_false, Bool.not_true, cond_false]
    rcases len_cases (splitL w sp) with ⟨t, k, id, r, he⟩ | ⟨t, k, id, r, f, o, a, b, c, d, he⟩ | ⟨h4, h10⟩
    · rw [ask_four he hW] at hf
      rw [he] at hsm hW ⊢
      have ht := hsm t (by simp)
      have hk : isE k = false := by
        simp only [List.any_cons, Bool.or_eq_false_iff] at hW
        exact hW.2.1
      simp only [show decide ((([t, k, id, r].length : Nat) : Int) < 4) = false from rfl, show ((([t, k, id, r].length : Nat) : Int) != 10) = true from rfl, show ((([t, k, id, r].length : Nat) : Int) == 4) = true from rfl, show inR (0 : Int) (([t, k, id, r].length : Nat) : Int) = true from rfl, show inR (1 : Int) (([t, k, id, r].length : Nat) : Int) = true from rfl, show inR (2 : Int) (([t, k, id, r].length : Nat) : Int) = true from rfl, show inR (3 : Int) (([t, k, id, r].length : Nat) : Int) = true from rfl, show rd (α := ByteArray) ByteArray.empty [t, k, id, r] (0 : Int) = t from rfl, show rd (α := ByteArray) ByteArray.empty [t, k, id, r] (1 : Int) = k from rfl, show rd (α := ByteArray) ByteArray.empty [t, k, id, r] (2 : Int) = id from rfl, show rd (α := ByteArray) ByteArray.empty [t, k, id, r] (3 : Int) = r from rfl, cond_false, cond_true, e51 (show t.size ≤ 281474976710656 by omega), Option.bind_some, s52_ref hk, e5]
      cases hkk : kindOf k with
      | none => rw [hkk] at hf; cases hf
      | some n =>
        rw [hkk] at hf
        have hn := kind_lt hkk
        have e1 : decide ((n : Int) + 1 < 1) = false := decide_eq_false (by omega)
        simp only [e1, cond_false] at hf ⊢
        by_cases h2 : 2 ≤ n
        · rw [decide_eq_true h2] at hf
          rw [show decide ((n : Int) + 1 > 2) = true from decide_eq_true (by omega)]
          simp only [Bool.true_and] at hf
          cases hnt : numOk 15 t.data.toList
          · rw [hnt] at hf
            cases hf
          · rw [hnt] at hf
            cases hf
            rw [rVal_ok hnt, show IntKind.i64.wrap ((i : Int) + 1) = ((i + 1 : Nat) : Int) by rw [wrap_ok (by omega) (by omega)]; omega]
            rfl
        · rw [decide_eq_false h2] at hf
          rw [show decide ((n : Int) + 1 > 2) = false from decide_eq_false (by omega)]
          cases hf
    · rw [ask_ten he hW] at hf
      rw [he] at hsm hW ⊢
      have ht := hsm t (by simp)
      have hk : isE k = false := by
        simp only [List.any_cons, Bool.or_eq_false_iff] at hW
        exact hW.2.1
      have e53' := e53 (a := a) (b := b) (c := c) (d := d) (fun x hx => hsm x (by simp only [List.mem_cons] at hx ⊢; simp only [hx, or_true]))
      simp only [show decide ((([t, k, id, r, f, o, a, b, c, d].length : Nat) : Int) < 4) = false from rfl, show ((([t, k, id, r, f, o, a, b, c, d].length : Nat) : Int) != 10) = false from rfl, show ((([t, k, id, r, f, o, a, b, c, d].length : Nat) : Int) == 4) = false from rfl, show inR (0 : Int) (([t, k, id, r, f, o, a, b, c, d].length : Nat) : Int) = true from rfl, show inR (1 : Int) (([t, k, id, r, f, o, a, b, c, d].length : Nat) : Int) = true from rfl, show inR (2 : Int) (([t, k, id, r, f, o, a, b, c, d].length : Nat) : Int) = true from rfl, show inR (3 : Int) (([t, k, id, r, f, o, a, b, c, d].length : Nat) : Int) = true from rfl, show inR (4 : Int) (([t, k, id, r, f, o, a, b, c, d].length : Nat) : Int) = true from rfl, show inR (5 : Int) (([t, k, id, r, f, o, a, b, c, d].length : Nat) : Int) = true from rfl, show rd (α := ByteArray) ByteArray.empty [t, k, id, r, f, o, a, b, c, d] (0 : Int) = t from rfl, show rd (α := ByteArray) ByteArray.empty [t, k, id, r, f, o, a, b, c, d] (1 : Int) = k from rfl, show rd (α := ByteArray) ByteArray.empty [t, k, id, r, f, o, a, b, c, d] (2 : Int) = id from rfl, show rd (α := ByteArray) ByteArray.empty [t, k, id, r, f, o, a, b, c, d] (3 : Int) = r from rfl, show rd (α := ByteArray) ByteArray.empty [t, k, id, r, f, o, a, b, c, d] (4 : Int) = f from rfl, show rd (α := ByteArray) ByteArray.empty [t, k, id, r, f, o, a, b, c, d] (5 : Int) = o from rfl, cond_false, cond_true, e51 (show t.size ≤ 281474976710656 by omega), Option.bind_some, s52_ref hk, e5,
        show (decide (0 ≤ (6 : Int)) && (decide ((6 : Int) ≤ (([t, k, id, r, f, o, a, b, c, d].length : Nat) : Int)) && decide ((([t, k, id, r, f, o, a, b, c, d].length : Nat) : Int) ≤ (([t, k, id, r, f, o, a, b, c, d].length : Nat) : Int)))) = true from rfl, show List.drop (Int.toNat (6 : Int)) (List.take (Int.toNat (([t, k, id, r, f, o, a, b, c, d].length : Nat) : Int)) [t, k, id, r, f, o, a, b, c, d]) = [a, b, c, d] from rfl, e53',
        show ∀ x1 x2 x3 x4 : Int, inR (0 : Int) (([x1, x2, x3, x4].length : Nat) : Int) = true from fun _ _ _ _ => rfl, show ∀ x1 x2 x3 x4 : Int, inR (1 : Int) (([x1, x2, x3, x4].length : Nat) : Int) = true from fun _ _ _ _ => rfl, show ∀ x1 x2 x3 x4 : Int, inR (2 : Int) (([x1, x2, x3, x4].length : Nat) : Int) = true from fun _ _ _ _ => rfl, show ∀ x1 x2 x3 x4 : Int, inR (3 : Int) (([x1, x2, x3, x4].length : Nat) : Int) = true from fun _ _ _ _ => rfl]
      cases hkk : kindOf k with
      | none => rw [hkk] at hf; cases hf
      | some n =>
        rw [hkk] at hf
        have hn := kind_lt hkk
        have e1 : decide ((n : Int) + 1 < 1) = false := decide_eq_false (by omega)
        simp only [e1, cond_false] at hf ⊢
        by_cases h2 : n < 2
        · rw [decide_eq_true h2] at hf
          rw [show decide ((n : Int) + 1 > 2) = false from decide_eq_false (by omega)]
          simp only [Bool.true_and] at hf
          cases hnt : numOk 15 t.data.toList
          · rw [hnt] at hf
            cases hf
          · rw [hnt] at hf
            simp only [Bool.true_and] at hf
            cases hA : [a, b, c, d].all (fun w => numOk 15 w.data.toList)
            · rw [hA] at hf
              cases hf
            · rw [hA] at hf
              cases hf
              have hA' := hA
              simp only [List.all_cons, List.all_nil, Bool.and_true, Bool.and_eq_true] at hA'
              rw [rVal_ok hnt, rVal_ok hA'.1, rVal_ok hA'.2.1, rVal_ok hA'.2.2.1, rVal_ok hA'.2.2.2, show IntKind.i64.wrap ((i : Int) + 1) = ((i + 1 : Nat) : Int) by rw [wrap_ok (by omega) (by omega)]; omega]
              rfl
        · rw [decide_eq_false h2] at hf
          rw [show decide ((n : Int) + 1 > 2) = true from decide_eq_true (by omega)]
          cases hnt : numOk 15 t.data.toList <;> cases hf
    · rw [ask_none h4 h10] at hf
      cases hf
end Go.Vm
