/- DeedTexts: Read, in the program and in the reference: whole texts. Own work. -/
import Derived.Test.YtbjpkdbneopgkaaGreatDoorESpecF
set_option maxRecDepth 100000
set_option linter.unusedVariables false
set_option linter.unusedSimpArgs false
namespace Go.Vm
open Go.RowKit Go.Vm.Num
noncomputable def readDeeds (s : ByteArray) : List Dd × Int × Int × Unit := readG deedLine dFaults s
noncomputable def s19 (s : ByteArray) : Option (List Dd × Int × Int × Unit) := some (readDeeds s)
noncomputable def s20 (s : ByteArray) : Option (List Dd × Int × Int × Unit) := some (readDeeds s)
theorem e64 {w : ByteArray} (h : w.size ≤ 200000) : s64 w = some (match deedLine w with | some a => (a, true, ()) | none => zET8) := if_pos h
theorem h19 (s : ByteArray) (y : List Dd × Int × Int × Unit) (hw : WFs A19 (s, ())) (h : s19 s = some y) : ∃ k, f19 s61 s64 s82 k s = some y := by
  unfold s19 at h
  cases h
  clear hw
  refine ⟨200002, ?_⟩
  unfold f19 readDeeds readG
  by_cases hs : s.size > 200000
  · have : decide ((s.size : Int) > 200000) = true := decide_eq_true (by omega)
    rw [this, if_pos hs]
    rfl
  have : decide ((s.size : Int) > 200000) = false := decide_eq_false (by omega)
  rw [this, if_neg hs]
  obtain ⟨L, ends, h1, h2, h3, h4⟩ := read_linesG deedLine (s := s) (by omega)
  rw [h1]
  simp only [Option.bind_some, cond_false]
  rw [← h4]
  refine ends2 (read_progG (L := L) (ends := ends) (lineF := deedLine) ?hbad ?hgood ?hend L 0 [] 200002 rfl (Nat.zero_le _) (Nat.le_refl _) (by omega)) ?hq
  case hq =>
    rintro t (⟨i, out, rfl, e⟩ | ⟨out, rfl, e⟩)
    · rw [e]; rfl
    · rw [e]; exact finG out
  case hend => intro out; simp
  case hbad =>
    intro j w out hx ho hb
    have e2 : IntKind.i64.wrap ((L.length : Int) - 1) = (L.length : Int) - 1 := wrap_ok (by omega) (by omega)
    have hj := (List.getElem?_eq_some_iff.1 hx).1
    have e5 : ∀ a : Dd, decide (out.length + [a].length ≤ 4294967296) = true := fun a => decide_eq_true (by rw [List.length_singleton]; omega)
    simp only [stG, lt_at hx, inR_at hx, rd_at hx, cond_true, e2, e64 (h3 w (List.mem_of_getElem? hx)), Option.bind_some]
    cases hc : (!ends && ((j : Int) == (L.length : Int) - 1))
    · have hf : deedLine w = none := hb.resolve_left (by rw [hc]; simp)
      rw [hf]
      simp only [e5, cond_true]
      cases ends
      · rw [show ((j : Int) == (L.length : Int) - 1) = false from by simpa using hc]
        exact ⟨_, rfl⟩
      · exact ⟨_, rfl⟩
    · rw [Bool.and_eq_true] at hc
      rw [show ends = false from by simpa using hc.1, hc.2]
      exact ⟨_, rfl⟩
  case hgood =>
    intro j w out a hx ho hb hf
    have e2 : IntKind.i64.wrap ((L.length : Int) - 1) = (L.length : Int) - 1 := wrap_ok (by omega) (by omega)
    have hj := (List.getElem?_eq_some_iff.1 hx).1
    have e5 : ∀ a : Dd, decide (out.length + [a].length ≤ 4294967296) = true := fun a => decide_eq_true (by rw [List.length_singleton]; omega)
    simp only [stG, lt_at hx, inR_at hx, rd_at hx, cond_true, e2, e64 (h3 w (List.mem_of_getElem? hx)), Option.bind_some, hf, wrap_succ hx (by omega), e5]
    cases ends
    · rw [show ((j : Int) == (L.length : Int) - 1) = false from by simpa using hb]
      rfl
    · rfl
/-! ### the reference -/
theorem sEq_no {a b : ByteArray} (h : (a.data.toList == b.data.toList) = false) : sEq a b = false := by
  unfold sEq
  rw [ByteArray.toList_eq, ByteArray.toList_eq]
  exact h
theorem mput_new {κ ν : Type} {eq : κ → κ → Bool} {k : κ} {v : ν} {l : List (κ × ν × Nat)} {n : Nat} (h : mhas eq k l = false) : mput eq k v (l, n) = (l ++ [(k, v, n)], n + 1) := by
  unfold mput
  rw [h]
  rfl
theorem many_list : (mput (keq .str) (ByteArray.mk #[100, 114, 111, 112]) (5 : Int) (mput (keq .str) (ByteArray.mk #[97, 115, 107]) (12 : Int) (mput (keq .str) (ByteArray.mk #[97, 119, 97, 121]) (5 : Int) (mput (keq .str) (ByteArray.mk #[99, 97, 114]) (8 : Int) (([], 0) : MapC .str (.int .i64)))))).1 = [(ByteArray.mk #[99, 97, 114], (8 : Int), 0), (ByteArray.mk #[97, 119, 97, 121], (5 : Int), 1), (ByteArray.mk #[97, 115, 107], (12 : Int), 2), (ByteArray.mk #[100, 114, 111, 112], (5 : Int), 3)] := by
  have n1 : keq .str (ByteArray.mk #[97, 119, 97, 121]) (ByteArray.mk #[99, 97, 114]) = false := sEq_no (by decide)
  have n2 : keq .str (ByteArray.mk #[97, 115, 107]) (ByteArray.mk #[99, 97, 114]) = false := sEq_no (by decide)
  have n3 : keq .str (ByteArray.mk #[97, 115, 107]) (ByteArray.mk #[97, 119, 97, 121]) = false := sEq_no (by decide)
  have n4 : keq .str (ByteArray.mk #[100, 114, 111, 112]) (ByteArray.mk #[99, 97, 114]) = false := sEq_no (by decide)
  have n5 : keq .str (ByteArray.mk #[100, 114, 111, 112]) (ByteArray.mk #[97, 119, 97, 121]) = false := sEq_no (by decide)
  have n6 : keq .str (ByteArray.mk #[100, 114, 111, 112]) (ByteArray.mk #[97, 115, 107]) = false := sEq_no (by decide)
  have m1 : mput (keq .str) (ByteArray.mk #[99, 97, 114]) (8 : Int) (([], 0) : MapC .str (.int .i64)) = ([(ByteArray.mk #[99, 97, 114], (8 : Int), 0)], 1) := rfl
  have m2 : mput (keq .str) (ByteArray.mk #[97, 119, 97, 121]) (5 : Int) (([(ByteArray.mk #[99, 97, 114], (8 : Int), 0)], 1) : MapC .str (.int .i64)) = ([(ByteArray.mk #[99, 97, 114], (8 : Int), 0), (ByteArray.mk #[97, 119, 97, 121], (5 : Int), 1)], 2) := mput_new (by
    show cond (keq .str (ByteArray.mk #[97, 119, 97, 121]) (ByteArray.mk #[99, 97, 114])) true false = false
    rw [n1]; rfl)
  have m3 : mput (keq .str) (ByteArray.mk #[97, 115, 107]) (12 : Int) (([(ByteArray.mk #[99, 97, 114], (8 : Int), 0), (ByteArray.mk #[97, 119, 97, 121], (5 : Int), 1)], 2) : MapC .str (.int .i64)) = ([(ByteArray.mk #[99, 97, 114], (8 : Int), 0), (ByteArray.mk #[97, 119, 97, 121], (5 : Int), 1), (ByteArray.mk #[97, 115, 107], (12 : Int), 2)], 3) := mput_new (by
    show cond (keq .str (ByteArray.mk #[97, 115, 107]) (ByteArray.mk #[99, 97, 114])) true (cond (keq .str (ByteArray.mk #[97, 115, 107]) (ByteArray.mk #[97, 119, 97, 121])) true false) = false
    rw [n2, n3]; rfl)
  have m4 : mput (keq .str) (ByteArray.mk #[100, 114, 111, 112]) (5 : Int) (([(ByteArray.mk #[99, 97, 114], (8 : Int), 0), (ByteArray.mk #[97, 119, 97, 121], (5 : Int), 1), (ByteArray.mk #[97, 115, 107], (12 : Int), 2)], 3) : MapC .str (.int .i64)) = ([(ByteArray.mk #[99, 97, 114], (8 : Int), 0), (ByteArray.mk #[97, 119, 97, 121], (5 : Int), 1), (ByteArray.mk #[97, 115, 107], (12 : Int), 2), (ByteArray.mk #[100, 114, 111, 112], (5 : Int), 3)], 4) := mput_new (by
    show cond (keq .str (ByteArray.mk #[100, 114, 111, 112]) (ByteArray.mk #[99, 97, 114])) true (cond (keq .str (ByteArray.mk #[100, 114, 111, 112]) (ByteArray.mk #[97, 119, 97, 121])) true (cond (keq .str (ByteArray.mk #[100, 114, 111, 112]) (ByteArray.mk #[97, 115, 107])) true false)) = false
    rw [n4, n5, n6]; rfl)
  have g1 := (congrArg (mput (keq .str) (ByteArray.mk #[97, 119, 97, 121]) (5 : Int)) m1).trans m2
  have g2 := (congrArg (mput (keq .str) (ByteArray.mk #[97, 115, 107]) (12 : Int)) g1).trans m3
  exact congrArg Prod.fst ((congrArg (mput (keq .str) (ByteArray.mk #[100, 114, 111, 112]) (5 : Int)) g2).trans m4)
theorem dk_cases (k : ByteArray) : (sEq k (ByteArray.mk #[99, 97, 114]) = true ∧ dkOf k = some 0 ∧ mget (keq .str) (0 : Int) k (mput (keq .str) (ByteArray.mk #[100, 114, 111, 112]) (5 : Int) (mput (keq .str) (ByteArray.mk #[97, 115, 107]) (12 : Int) (mput (keq .str) (ByteArray.mk #[97, 119, 97, 121]) (5 : Int) (mput (keq .str) (ByteArray.mk #[99, 97, 114]) (8 : Int) (([], 0) : MapC .str (.int .i64)))))).1 = (8 : Int)) ∨ (sEq k (ByteArray.mk #[99, 97, 114]) = false ∧ sEq k (ByteArray.mk #[97, 115, 107]) = false ∧ sEq k (ByteArray.mk #[97, 119, 97, 121]) = true ∧ dkOf k = some 1 ∧ mget (keq .str) (0 : Int) k (mput (keq .str) (ByteArray.mk #[100, 114, 111, 112]) (5 : Int) (mput (keq .str) (ByteArray.mk #[97, 115, 107]) (12 : Int) (mput (keq .str) (ByteArray.mk #[97, 119, 97, 121]) (5 : Int) (mput (keq .str) (ByteArray.mk #[99, 97, 114]) (8 : Int) (([], 0) : MapC .str (.int .i64)))))).1 = (5 : Int)) ∨
    (sEq k (ByteArray.mk #[99, 97, 114]) = false ∧ sEq k (ByteArray.mk #[97, 115, 107]) = true ∧ dkOf k = some 2 ∧ mget (keq .str) (0 : Int) k (mput (keq .str) (ByteArray.mk #[100, 114, 111, 112]) (5 : Int) (mput (keq .str) (ByteArray.mk #[97, 115, 107]) (12 : Int) (mput (keq .str) (ByteArray.mk #[97, 119, 97, 121]) (5 : Int) (mput (keq .str) (ByteArray.mk #[99, 97, 114]) (8 : Int) (([], 0) : MapC .str (.int .i64)))))).1 = (12 : Int)) ∨ (sEq k (ByteArray.mk #[99, 97, 114]) = false ∧ sEq k (ByteArray.mk #[97, 115, 107]) = false ∧ sEq k (ByteArray.mk #[97, 119, 97, 121]) = false ∧ dkOf k = some 3 ∧ mget (keq .str) (0 : Int) k (mput (keq .str) (ByteArray.mk #[100, 114, 111, 112]) (5 : Int) (mput (keq .str) (ByteArray.mk #[97, 115, 107]) (12 : Int) (mput (keq .str) (ByteArray.mk #[97, 119, 97, 121]) (5 : Int) (mput (keq .str) (ByteArray.mk #[99, 97, 114]) (8 : Int) (([], 0) : MapC .str (.int .i64)))))).1 = (5 : Int)) ∨ (dkOf k = none ∧ mget (keq .str) (0 : Int) k (mput (keq .str) (ByteArray.mk #[100, 114, 111, 112]) (5 : Int) (mput (keq .str) (ByteArray.mk #[97, 115, 107]) (12 : Int) (mput (keq .str) (ByteArray.mk #[97, 119, 97, 121]) (5 : Int) (mput (keq .str) (ByteArray.mk #[99, 97, 114]) (8 : Int) (([], 0) : MapC .str (.int .i64)))))).1 = (0 : Int)) := by
  rw [many_list]
  unfold dkOf deedWs mget
  have hq : ∀ x : ByteArray, keq .str k x = sEq k x := fun _ => rfl
  simp only [mfind, List.findIdx?_cons, List.findIdx?_nil, hq]
  cases h1 : sEq k (ByteArray.mk #[99, 97, 114])
  · cases h2 : sEq k (ByteArray.mk #[97, 119, 97, 121])
    · cases h3 : sEq k (ByteArray.mk #[97, 115, 107])
      · cases h4 : sEq k (ByteArray.mk #[100, 114, 111, 112]) <;> simp
      · simp
    · have e := sEq_iff.1 h2
      have : sEq k (ByteArray.mk #[97, 115, 107]) = false := by rw [e]; exact sEq_no (by decide)
      simp [this]
  · simp
theorem e53t {a b : ByteArray} (ha : a.size ≤ 200000) (hb : b.size ≤ 200000) : s53 [a, b] 15 = some ([rVal 15 a, rVal 15 b], [a, b].all (fun w => numOk 15 w.data.toList), ()) := by
  unfold s53
  rw [if_pos ⟨⟨by simp, fun x hx => by
    simp only [List.mem_cons, List.not_mem_nil, or_false] at hx
    rcases hx with rfl | rfl <;> omega⟩, by omega⟩]
  rfl
theorem all2 {a b : ByteArray} (h : [a, b].all (fun w => numOk 15 w.data.toList) = true) : rVal 15 a = aVal a ∧ rVal 15 b = aVal b := by
  simp only [List.all_cons, List.all_nil, Bool.and_true, Bool.and_eq_true] at h
  exact ⟨rVal_ok h.1, rVal_ok h.2⟩
theorem all4 {a b c d : ByteArray} (h : [a, b, c, d].all (fun w => numOk 15 w.data.toList) = true) : rVal 15 a = aVal a ∧ rVal 15 b = aVal b ∧ rVal 15 c = aVal c ∧ rVal 15 d = aVal d := by
  simp only [List.all_cons, List.all_nil, Bool.and_true, Bool.and_eq_true] at h
  exact ⟨rVal_ok h.1, rVal_ok h.2.1, rVal_ok h.2.2.1, rVal_ok h.2.2.2⟩
theorem i_next {i : Nat} (h : i ≤ 200000) : IntKind.i64.wrap ((i : Int) + 1) = ((i + 1 : Nat) : Int) := by rw [wrap_ok (by omega) (by omega)]; omega
theorem h20 (s : ByteArray) (y : List Dd × Int × Int × Unit) (hw : WFs A20 (s, ())) (h : s20 s = some y) : ∃ k, f20 s15 s50 s53 s85 k s = some y := by
  unfold s20 at h
  cases h
  clear hw
  refine ⟨200002, ?_⟩
  unfold f20 readDeeds readG
  by_cases hs : s.size > 200000
  · have : decide ((s.size : Int) > 200000) = true := decide_eq_true (by omega)
    rw [this, if_pos hs]
    rfl
  have : decide ((s.size : Int) > 200000) = false := decide_eq_false (by omega)
  rw [this, if_neg hs]
  simp only [cond_false]
  refine ends2 (read_refG (lineF := deedLine) (s := s) (k := 200002) (by omega) (by omega) ?hend ?hopen ?hbad ?hgood) ?hq
  case hq =>
    rintro t (⟨i, out, rfl, e⟩ | ⟨out, rfl, e⟩)
    · rw [e]; rfl
    · rw [e]; exact finG out
  case hend =>
    intro x i out hE
    have e0 : sEq x (ByteArray.mk #[]) = isE x := sEq_empty x
    simp only [stR, e0, hE]
    rfl
  case hopen =>
    intro x i out p hE hx hp
    have e0 : sEq x (ByteArray.mk #[]) = isE x := sEq_empty x
    simp only [stR, e0, hE, Bool.not_false, cond_true, (cutG hx).1 p hp, Option.bind_some]
    exact ⟨_, rfl⟩
  case hbad =>
    intro x i out p q ps hE hx hol hpl hp hf
    have e0 : sEq x (ByteArray.mk #[]) = isE x := sEq_empty x
    simp only [stR, e0, hE, Bool.not_false, cond_true, (cutG hx).2 p q ps hp, Option.bind_some, Bool.not_true, cond_false, e50 hpl]
    have hsm := split_small hpl
    have e5 : ∀ a : Dd, decide (out.length + [a].length ≤ 4294967296) = true := fun a => decide_eq_true (by rw [List.length_singleton]; omega)
    clear hp hE
    generalize (⟨p.toArray⟩ : ByteArray) = w at hf hpl hsm ⊢
    cases hW : (splitL w sp).any isE
    rotate_left
    · exact ⟨_, rfl⟩
    rw [deed_line hW] at hf
    simp only [Bool.not_false, Bool.not_true, cond_false]
    clear hW
    generalize splitL w sp = ws at hsm hf ⊢
    rcases dlen_cases ws with ⟨a, n, t, k, x, rfl⟩ | ⟨a, n, t, k, c, s, w', z, rfl⟩ | ⟨a, n, t, k, i, r, f, o, p', q', u, v, rfl⟩ | hlt | ⟨h5, hn5, hn8, hn12⟩
    · have e1 := e53t (a := n) (b := t) (hsm n (by simp)) (hsm t (by simp))
      rw [deedOf_cons] at hf
      simp only [show inR (0 : Int) (([a, n, t, k, x].length : Nat) : Int) = true from rfl, show rd (α := ByteArray) ByteArray.empty [a, n, t, k, x] (0 : Int) = a from rfl, show inR (1 : Int) (([a, n, t, k, x].length : Nat) : Int) = true from rfl, show rd (α := ByteArray) ByteArray.empty [a, n, t, k, x] (1 : Int) = n from rfl, show inR (2 : Int) (([a, n, t, k, x].length : Nat) : Int) = true from rfl, show rd (α := ByteArray) ByteArray.empty [a, n, t, k, x] (2 : Int) = t from rfl, show inR (3 : Int) (([a, n, t, k, x].length : Nat) : Int) = true from rfl, show rd (α := ByteArray) ByteArray.empty [a, n, t, k, x] (3 : Int) = k from rfl, show inR (4 : Int) (([a, n, t, k, x].length : Nat) : Int) = true from rfl, show rd (α := ByteArray) ByteArray.empty [a, n, t, k, x] (4 : Int) = x from rfl, show decide ((([a, n, t, k, x].length : Nat) : Int) < (5 : Int)) = false from rfl, show (decide (0 ≤ (1 : Int)) && (decide ((1 : Int) ≤ (3 : Int)) && decide ((3 : Int) ≤ (([a, n, t, k, x].length : Nat) : Int)))) = true from rfl, show List.drop (Int.toNat (1 : Int)) (List.take (Int.toNat (3 : Int)) [a, n, t, k, x]) = [n, t] from rfl, cond_false, cond_true, Option.bind_some, e1, show ∀ x1 x2 : Int, inR (0 : Int) (([x1, x2].length : Nat) : Int) = true from fun _ _ => rfl, show ∀ x1 x2 : Int, inR (1 : Int) (([x1, x2].length : Nat) : Int) = true from fun _ _ => rfl, show ∀ x1 x2 : Int, rd (α := Int) (0 : Int) [x1, x2] (0 : Int) = x1 from fun _ _ => rfl, show ∀ x1 x2 : Int, rd (α := Int) (0 : Int) [x1, x2] (1 : Int) = x2 from fun _ _ => rfl]
      rcases dk_cases k with ⟨c1, hk, hm⟩ | ⟨c1, c2, c3, hk, hm⟩ | ⟨c1, c2, hk, hm⟩ | ⟨c1, c2, c3, hk, hm⟩ | ⟨hk, hm⟩
      · rw [hk] at hf
        simp only [hm, show ((([a, n, t, k, x].length : Nat) : Int) != (8 : Int)) = true from rfl, show ((([a, n, t, k, x].length : Nat) : Int) != (5 : Int)) = false from rfl, show ((([a, n, t, k, x].length : Nat) : Int) != (12 : Int)) = true from rfl, show ((([a, n, t, k, x].length : Nat) : Int) != (0 : Int)) = true from rfl, cond_false, cond_true]
        exact ⟨_, rfl⟩
      · rw [hk] at hf
        simp only [hm, show ((([a, n, t, k, x].length : Nat) : Int) != (8 : Int)) = true from rfl, show ((([a, n, t, k, x].length : Nat) : Int) != (5 : Int)) = false from rfl, show ((([a, n, t, k, x].length : Nat) : Int) != (12 : Int)) = true from rfl, show ((([a, n, t, k, x].length : Nat) : Int) != (0 : Int)) = true from rfl, cond_false, cond_true]
        simp only [c1, c2, c3, cond_false, cond_true, Option.bind_some, e5]
        cases hA : [n, t].all (fun w => numOk 15 w.data.toList)
        · rw [hA] at hf
          exact ⟨_, rfl⟩
        · rw [hA] at hf
          cases hf
      · rw [hk] at hf
        simp only [hm, show ((([a, n, t, k, x].length : Nat) : Int) != (8 : Int)) = true from rfl, show ((([a, n, t, k, x].length : Nat) : Int) != (5 : Int)) = false from rfl, show ((([a, n, t, k, x].length : Nat) : Int) != (12 : Int)) = true from rfl, show ((([a, n, t, k, x].length : Nat) : Int) != (0 : Int)) = true from rfl, cond_false, cond_true]
        exact ⟨_, rfl⟩
      · rw [hk] at hf
        simp only [hm, show ((([a, n, t, k, x].length : Nat) : Int) != (8 : Int)) = true from rfl, show ((([a, n, t, k, x].length : Nat) : Int) != (5 : Int)) = false from rfl, show ((([a, n, t, k, x].length : Nat) : Int) != (12 : Int)) = true from rfl, show ((([a, n, t, k, x].length : Nat) : Int) != (0 : Int)) = true from rfl, cond_false, cond_true]
        simp only [c1, c2, c3, cond_false, cond_true, Option.bind_some, e5]
        cases hA : [n, t].all (fun w => numOk 15 w.data.toList)
        · rw [hA] at hf
          exact ⟨_, rfl⟩
        · rw [hA] at hf
          cases hf
      · rw [hk] at hf
        simp only [hm, show ((([a, n, t, k, x].length : Nat) : Int) != (8 : Int)) = true from rfl, show ((([a, n, t, k, x].length : Nat) : Int) != (5 : Int)) = false from rfl, show ((([a, n, t, k, x].length : Nat) : Int) != (12 : Int)) = true from rfl, show ((([a, n, t, k, x].length : Nat) : Int) != (0 : Int)) = true from rfl, cond_false, cond_true]
        exact ⟨_, rfl⟩
    · have e1 := e53t (a := n) (b := t) (hsm n (by simp)) (hsm t (by simp))
      have e2 := e53t (a := s) (b := w') (hsm s (by simp)) (hsm w' (by simp))
      rw [deedOf_cons] at hf
      simp only [show inR (0 : Int) (([a, n, t, k, c, s, w', z].length : Nat) : Int) = true from rfl, show rd (α := ByteArray) ByteArray.empty [a, n, t, k, c, s, w', z] (0 : Int) = a from rfl, show inR (1 : Int) (([a, n, t, k, c, s, w', z].length : Nat) : Int) = true from rfl, show rd (α := ByteArray) ByteArray.empty [a, n, t, k, c, s, w', z] (1 : Int) = n from rfl, show inR (2 : Int) (([a, n, t, k, c, s, w', z].length : Nat) : Int) = true from rfl, show rd (α := ByteArray) ByteArray.empty [a, n, t, k, c, s, w', z] (2 : Int) = t from rfl, show inR (3 : Int) (([a, n, t, k, c, s, w', z].length : Nat) : Int) = true from rfl, show rd (α := ByteArray) ByteArray.empty [a, n, t, k, c, s, w', z] (3 : Int) = k from rfl, show inR (4 : Int) (([a, n, t, k, c, s, w', z].length : Nat) : Int) = true from rfl, show rd (α := ByteArray) ByteArray.empty [a, n, t, k, c, s, w', z] (4 : Int) = c from rfl, show inR (5 : Int) (([a, n, t, k, c, s, w', z].length : Nat) : Int) = true from rfl, show rd (α := ByteArray) ByteArray.empty [a, n, t, k, c, s, w', z] (5 : Int) = s from rfl, show inR (6 : Int) (([a, n, t, k, c, s, w', z].length : Nat) : Int) = true from rfl, show rd (α := ByteArray) ByteArray.empty [a, n, t, k, c, s, w', z] (6 : Int) = w' from rfl, show inR (7 : Int) (([a, n, t, k, c, s, w', z].length : Nat) : Int) = true from rfl, show rd (α := ByteArray) ByteArray.empty [a, n, t, k, c, s, w', z] (7 : Int) = z from rfl, show decide ((([a, n, t, k, c, s, w', z].length : Nat) : Int) < (5 : Int)) = false from rfl, show (decide (0 ≤ (1 : Int)) && (decide ((1 : Int) ≤ (3 : Int)) && decide ((3 : Int) ≤ (([a, n, t, k, c, s, w', z].length : Nat) : Int)))) = true from rfl, show List.drop (Int.toNat (1 : Int)) (List.take (Int.toNat (3 : Int)) [a, n, t, k, c, s, w', z]) = [n, t] from rfl, show (decide (0 ≤ (5 : Int)) && (decide ((5 : Int) ≤ (7 : Int)) && decide ((7 : Int) ≤ (([a, n, t, k, c, s, w', z].length : Nat) : Int)))) = true from rfl, show List.drop (Int.toNat (5 : Int)) (List.take (Int.toNat (7 : Int)) [a, n, t, k, c, s, w', z]) = [s, w'] from rfl, cond_false, cond_true, Option.bind_some, e1, show ∀ x1 x2 : Int, inR (0 : Int) (([x1, x2].length : Nat) : Int) = true from fun _ _ => rfl, show ∀ x1 x2 : Int, inR (1 : Int) (([x1, x2].length : Nat) : Int) = true from fun _ _ => rfl, show ∀ x1 x2 : Int, rd (α := Int) (0 : Int) [x1, x2] (0 : Int) = x1 from fun _ _ => rfl, show ∀ x1 x2 : Int, rd (α := Int) (0 : Int) [x1, x2] (1 : Int) = x2 from fun _ _ => rfl]
      rcases dk_cases k with ⟨c1, hk, hm⟩ | ⟨c1, c2, c3, hk, hm⟩ | ⟨c1, c2, hk, hm⟩ | ⟨c1, c2, c3, hk, hm⟩ | ⟨hk, hm⟩
      · rw [hk] at hf
        simp only [hm, show ((([a, n, t, k, c, s, w', z].length : Nat) : Int) != (8 : Int)) = false from rfl, show ((([a, n, t, k, c, s, w', z].length : Nat) : Int) != (5 : Int)) = true from rfl, show ((([a, n, t, k, c, s, w', z].length : Nat) : Int) != (12 : Int)) = true from rfl, show ((([a, n, t, k, c, s, w', z].length : Nat) : Int) != (0 : Int)) = true from rfl, cond_false, cond_true]
        simp only [c1, e2, show ∀ x1 x2 : Int, inR (0 : Int) (([x1, x2].length : Nat) : Int) = true from fun _ _ => rfl, show ∀ x1 x2 : Int, inR (1 : Int) (([x1, x2].length : Nat) : Int) = true from fun _ _ => rfl, show ∀ x1 x2 : Int, rd (α := Int) (0 : Int) [x1, x2] (0 : Int) = x1 from fun _ _ => rfl, show ∀ x1 x2 : Int, rd (α := Int) (0 : Int) [x1, x2] (1 : Int) = x2 from fun _ _ => rfl, cond_false, cond_true, Option.bind_some, e5]
        cases hA : [n, t].all (fun w => numOk 15 w.data.toList)
        · rw [hA] at hf
          exact ⟨_, rfl⟩
        · rw [hA] at hf
          cases hB : [s, w'].all (fun w => numOk 15 w.data.toList)
          · simp only [cond_true, dRest0] at hf
            rw [hB] at hf
            exact ⟨_, rfl⟩
          · simp only [cond_true, dRest0] at hf
            rw [hB] at hf
            cases hf
      · rw [hk] at hf
        simp only [hm, show ((([a, n, t, k, c, s, w', z].length : Nat) : Int) != (8 : Int)) = false from rfl, show ((([a, n, t, k, c, s, w', z].length : Nat) : Int) != (5 : Int)) = true from rfl, show ((([a, n, t, k, c, s, w', z].length : Nat) : Int) != (12 : Int)) = true from rfl, show ((([a, n, t, k, c, s, w', z].length : Nat) : Int) != (0 : Int)) = true from rfl, cond_false, cond_true]
        exact ⟨_, rfl⟩
      · rw [hk] at hf
        simp only [hm, show ((([a, n, t, k, c, s, w', z].length : Nat) : Int) != (8 : Int)) = false from rfl, show ((([a, n, t, k, c, s, w', z].length : Nat) : Int) != (5 : Int)) = true from rfl, show ((([a, n, t, k, c, s, w', z].length : Nat) : Int) != (12 : Int)) = true from rfl, show ((([a, n, t, k, c, s, w', z].length : Nat) : Int) != (0 : Int)) = true from rfl, cond_false, cond_true]
        exact ⟨_, rfl⟩
      · rw [hk] at hf
        simp only [hm, show ((([a, n, t, k, c, s, w', z].length : Nat) : Int) != (8 : Int)) = false from rfl, show ((([a, n, t, k, c, s, w', z].length : Nat) : Int) != (5 : Int)) = true from rfl, show ((([a, n, t, k, c, s, w', z].length : Nat) : Int) != (12 : Int)) = true from rfl, show ((([a, n, t, k, c, s, w', z].length : Nat) : Int) != (0 : Int)) = true from rfl, cond_false, cond_true]
        exact ⟨_, rfl⟩
      · rw [hk] at hf
        simp only [hm, show ((([a, n, t, k, c, s, w', z].length : Nat) : Int) != (8 : Int)) = false from rfl, show ((([a, n, t, k, c, s, w', z].length : Nat) : Int) != (5 : Int)) = true from rfl, show ((([a, n, t, k, c, s, w', z].length : Nat) : Int) != (12 : Int)) = true from rfl, show ((([a, n, t, k, c, s, w', z].length : Nat) : Int) != (0 : Int)) = true from rfl, cond_false, cond_true]
        exact ⟨_, rfl⟩
    · have e1 := e53t (a := n) (b := t) (hsm n (by simp)) (hsm t (by simp))
      have e2 := e53 (a := p') (b := q') (c := u) (d := v) (fun y hy => hsm y (by simp only [List.mem_cons] at hy ⊢; simp only [hy, or_true]))
      rw [deedOf_cons] at hf
      simp only [show inR (0 : Int) (([a, n, t, k, i, r, f, o, p', q', u, v].length : Nat) : Int) = true from rfl, show rd (α := ByteArray) ByteArray.empty [a, n, t, k, i, r, f, o, p', q', u, v] (0 : Int) = a from rfl, show inR (1 : Int) (([a, n, t, k, i, r, f, o, p', q', u, v].length : Nat) : Int) = true from rfl, show rd (α := ByteArray) ByteArray.empty [a, n, t, k, i, r, f, o, p', q', u, v] (1 : Int) = n from rfl, show inR (2 : Int) (([a, n, t, k, i, r, f, o, p', q', u, v].length : Nat) : Int) = true from rfl, show rd (α := ByteArray) ByteArray.empty [a, n, t, k, i, r, f, o, p', q', u, v] (2 : Int) = t from rfl, show inR (3 : Int) (([a, n, t, k, i, r, f, o, p', q', u, v].length : Nat) : Int) = true from rfl, show rd (α := ByteArray) ByteArray.empty [a, n, t, k, i, r, f, o, p', q', u, v] (3 : Int) = k from rfl, show inR (4 : Int) (([a, n, t, k, i, r, f, o, p', q', u, v].length : Nat) : Int) = true from rfl, show rd (α := ByteArray) ByteArray.empty [a, n, t, k, i, r, f, o, p', q', u, v] (4 : Int) = i from rfl, show inR (5 : Int) (([a, n, t, k, i, r, f, o, p', q', u, v].length : Nat) : Int) = true from rfl, show rd (α := ByteArray) ByteArray.empty [a, n, t, k, i, r, f, o, p', q', u, v] (5 : Int) = r from rfl, show inR (6 : Int) (([a, n, t, k, i, r, f, o, p', q', u, v].length : Nat) : Int) = true from rfl, show rd (α := ByteArray) ByteArray.empty [a, n, t, k, i, r, f, o, p', q', u, v] (6 : Int) = f from rfl, show inR (7 : Int) (([a, n, t, k, i, r, f, o, p', q', u, v].length : Nat) : Int) = true from rfl, show rd (α := ByteArray) ByteArray.empty [a, n, t, k, i, r, f, o, p', q', u, v] (7 : Int) = o from rfl, show decide ((([a, n, t, k, i, r, f, o, p', q', u, v].length : Nat) : Int) < (5 : Int)) = false from rfl, show (decide (0 ≤ (1 : Int)) && (decide ((1 : Int) ≤ (3 : Int)) && decide ((3 : Int) ≤ (([a, n, t, k, i, r, f, o, p', q', u, v].length : Nat) : Int)))) = true from rfl, show List.drop (Int.toNat (1 : Int)) (List.take (Int.toNat (3 : Int)) [a, n, t, k, i, r, f, o, p', q', u, v]) = [n, t] from rfl, show (decide (0 ≤ (8 : Int)) && (decide ((8 : Int) ≤ (([a, n, t, k, i, r, f, o, p', q', u, v].length : Nat) : Int)) && decide ((([a, n, t, k, i, r, f, o, p', q', u, v].length : Nat) : Int) ≤ (([a, n, t, k, i, r, f, o, p', q', u, v].length : Nat) : Int)))) = true from rfl, show List.drop (Int.toNat (8 : Int)) (List.take (Int.toNat (([a, n, t, k, i, r, f, o, p', q', u, v].length : Nat) : Int)) [a, n, t, k, i, r, f, o, p', q', u, v]) = [p', q', u, v] from rfl, cond_false, cond_true, Option.bind_some, e1, show ∀ x1 x2 : Int, inR (0 : Int) (([x1, x2].length : Nat) : Int) = true from fun _ _ => rfl, show ∀ x1 x2 : Int, inR (1 : Int) (([x1, x2].length : Nat) : Int) = true from fun _ _ => rfl, show ∀ x1 x2 : Int, rd (α := Int) (0 : Int) [x1, x2] (0 : Int) = x1 from fun _ _ => rfl, show ∀ x1 x2 : Int, rd (α := Int) (0 : Int) [x1, x2] (1 : Int) = x2 from fun _ _ => rfl]
      rcases dk_cases k with ⟨c1, hk, hm⟩ | ⟨c1, c2, c3, hk, hm⟩ | ⟨c1, c2, hk, hm⟩ | ⟨c1, c2, c3, hk, hm⟩ | ⟨hk, hm⟩
      · rw [hk] at hf
        simp only [hm, show ((([a, n, t, k, i, r, f, o, p', q', u, v].length : Nat) : Int) != (8 : Int)) = true from rfl, show ((([a, n, t, k, i, r, f, o, p', q', u, v].length : Nat) : Int) != (5 : Int)) = true from rfl, show ((([a, n, t, k, i, r, f, o, p', q', u, v].length : Nat) : Int) != (12 : Int)) = false from rfl, show ((([a, n, t, k, i, r, f, o, p', q', u, v].length : Nat) : Int) != (0 : Int)) = true from rfl, cond_false, cond_true]
        exact ⟨_, rfl⟩
      · rw [hk] at hf
        simp only [hm, show ((([a, n, t, k, i, r, f, o, p', q', u, v].length : Nat) : Int) != (8 : Int)) = true from rfl, show ((([a, n, t, k, i, r, f, o, p', q', u, v].length : Nat) : Int) != (5 : Int)) = true from rfl, show ((([a, n, t, k, i, r, f, o, p', q', u, v].length : Nat) : Int) != (12 : Int)) = false from rfl, show ((([a, n, t, k, i, r, f, o, p', q', u, v].length : Nat) : Int) != (0 : Int)) = true from rfl, cond_false, cond_true]
        exact ⟨_, rfl⟩
      · rw [hk] at hf
        simp only [hm, show ((([a, n, t, k, i, r, f, o, p', q', u, v].length : Nat) : Int) != (8 : Int)) = true from rfl, show ((([a, n, t, k, i, r, f, o, p', q', u, v].length : Nat) : Int) != (5 : Int)) = true from rfl, show ((([a, n, t, k, i, r, f, o, p', q', u, v].length : Nat) : Int) != (12 : Int)) = false from rfl, show ((([a, n, t, k, i, r, f, o, p', q', u, v].length : Nat) : Int) != (0 : Int)) = true from rfl, cond_false, cond_true]
        simp only [c1, c2, e2, show ∀ x1 x2 x3 x4 : Int, inR (0 : Int) (([x1, x2, x3, x4].length : Nat) : Int) = true from fun _ _ _ _ => rfl, show ∀ x1 x2 x3 x4 : Int, rd (α := Int) (0 : Int) [x1, x2, x3, x4] (0 : Int) = x1 from fun _ _ _ _ => rfl, show ∀ x1 x2 x3 x4 : Int, inR (1 : Int) (([x1, x2, x3, x4].length : Nat) : Int) = true from fun _ _ _ _ => rfl, show ∀ x1 x2 x3 x4 : Int, rd (α := Int) (0 : Int) [x1, x2, x3, x4] (1 : Int) = x2 from fun _ _ _ _ => rfl, show ∀ x1 x2 x3 x4 : Int, inR (2 : Int) (([x1, x2, x3, x4].length : Nat) : Int) = true from fun _ _ _ _ => rfl, show ∀ x1 x2 x3 x4 : Int, rd (α := Int) (0 : Int) [x1, x2, x3, x4] (2 : Int) = x3 from fun _ _ _ _ => rfl, show ∀ x1 x2 x3 x4 : Int, inR (3 : Int) (([x1, x2, x3, x4].length : Nat) : Int) = true from fun _ _ _ _ => rfl, show ∀ x1 x2 x3 x4 : Int, rd (α := Int) (0 : Int) [x1, x2, x3, x4] (3 : Int) = x4 from fun _ _ _ _ => rfl, cond_false, cond_true, Option.bind_some, e5]
        cases hA : [n, t].all (fun w => numOk 15 w.data.toList)
        · rw [hA] at hf
          exact ⟨_, rfl⟩
        · rw [hA] at hf
          cases hB : [p', q', u, v].all (fun w => numOk 15 w.data.toList)
          · simp only [cond_true, dRest2] at hf
            rw [hB] at hf
            exact ⟨_, rfl⟩
          · simp only [cond_true, dRest2] at hf
            rw [hB] at hf
            cases hf
      · rw [hk] at hf
        simp only [hm, show ((([a, n, t, k, i, r, f, o, p', q', u, v].length : Nat) : Int) != (8 : Int)) = true from rfl, show ((([a, n, t, k, i, r, f, o, p', q', u, v].length : Nat) : Int) != (5 : Int)) = true from rfl, show ((([a, n, t, k, i, r, f, o, p', q', u, v].length : Nat) : Int) != (12 : Int)) = false from rfl, show ((([a, n, t, k, i, r, f, o, p', q', u, v].length : Nat) : Int) != (0 : Int)) = true from rfl, cond_false, cond_true]
        exact ⟨_, rfl⟩
      · rw [hk] at hf
        simp only [hm, show ((([a, n, t, k, i, r, f, o, p', q', u, v].length : Nat) : Int) != (8 : Int)) = true from rfl, show ((([a, n, t, k, i, r, f, o, p', q', u, v].length : Nat) : Int) != (5 : Int)) = true from rfl, show ((([a, n, t, k, i, r, f, o, p', q', u, v].length : Nat) : Int) != (12 : Int)) = false from rfl, show ((([a, n, t, k, i, r, f, o, p', q', u, v].length : Nat) : Int) != (0 : Int)) = true from rfl, cond_false, cond_true]
        exact ⟨_, rfl⟩
    · rw [show decide ((ws.length : Int) < 5) = true from decide_eq_true (by omega)]
      exact ⟨_, rfl⟩
    · obtain ⟨a, n, t, k, x', l, rfl⟩ := five_or h5
      have hl : (a :: n :: t :: k :: x' :: l).length = l.length + 5 := by simp
      have e1 := e53t (a := n) (b := t) (hsm n (by simp)) (hsm t (by simp))
      have eR : ∀ z : Nat, z < 5 → inR (z : Int) ((a :: n :: t :: k :: x' :: l).length : Int) = true := fun z hz => by
        unfold inR
        rw [Bool.and_eq_true, decide_eq_true_eq, decide_eq_true_eq]
        omega
      have e9 : decide (((a :: n :: t :: k :: x' :: l).length : Int) < 5) = false := decide_eq_false (by omega)
      have e3 : (decide (0 ≤ (1 : Int)) && (decide ((1 : Int) ≤ (3 : Int)) && decide ((3 : Int) ≤ (((a :: n :: t :: k :: x' :: l).length : Nat) : Int)))) = true := by
        rw [show decide ((3 : Int) ≤ (((a :: n :: t :: k :: x' :: l).length : Nat) : Int)) = true from decide_eq_true (by omega)]
        rfl
      have ne : ∀ m : Nat, (a :: n :: t :: k :: x' :: l).length ≠ m → ((((a :: n :: t :: k :: x' :: l).length : Nat) : Int) != (m : Int)) = true := fun m hm => by
        simp only [bne_iff_ne, ne_eq]
        omega
      simp only [e9, e3, cond_false, cond_true, show List.drop (Int.toNat (1 : Int)) (List.take (Int.toNat (3 : Int)) (a :: n :: t :: k :: x' :: l)) = [n, t] from rfl, e1, Option.bind_some, show inR (0 : Int) ((a :: n :: t :: k :: x' :: l).length : Int) = true from eR 0 (by omega), show inR (3 : Int) ((a :: n :: t :: k :: x' :: l).length : Int) = true from eR 3 (by omega), show rd (α := ByteArray) ByteArray.empty (a :: n :: t :: k :: x' :: l) (3 : Int) = k from rfl, show rd (α := ByteArray) ByteArray.empty (a :: n :: t :: k :: x' :: l) (0 : Int) = a from rfl, show ∀ x1 x2 : Int, inR (0 : Int) (([x1, x2].length : Nat) : Int) = true from fun _ _ => rfl, show ∀ x1 x2 : Int, inR (1 : Int) (([x1, x2].length : Nat) : Int) = true from fun _ _ => rfl, show ∀ x1 x2 : Int, rd (α := Int) (0 : Int) [x1, x2] (0 : Int) = x1 from fun _ _ => rfl, show ∀ x1 x2 : Int, rd (α := Int) (0 : Int) [x1, x2] (1 : Int) = x2 from fun _ _ => rfl]
      rcases dk_cases k with ⟨c1, hk, hm⟩ | ⟨c1, c2, c3, hk, hm⟩ | ⟨c1, c2, hk, hm⟩ | ⟨c1, c2, c3, hk, hm⟩ | ⟨hk, hm⟩
      · rw [hm, show ((((a :: n :: t :: k :: x' :: l).length : Nat) : Int) != (8 : Int)) = true from ne 8 hn8]
        exact ⟨_, rfl⟩
      · rw [hm, show ((((a :: n :: t :: k :: x' :: l).length : Nat) : Int) != (5 : Int)) = true from ne 5 hn5]
        exact ⟨_, rfl⟩
      · rw [hm, show ((((a :: n :: t :: k :: x' :: l).length : Nat) : Int) != (12 : Int)) = true from ne 12 hn12]
        exact ⟨_, rfl⟩
      · rw [hm, show ((((a :: n :: t :: k :: x' :: l).length : Nat) : Int) != (5 : Int)) = true from ne 5 hn5]
        exact ⟨_, rfl⟩
      · rw [hm, show ((((a :: n :: t :: k :: x' :: l).length : Nat) : Int) != (0 : Int)) = true from ne 0 (by omega)]
        exact ⟨_, rfl⟩
  case hgood =>
    intro x i out p q ps ast hE hx hol hil hpl hp hf
    have e0 : sEq x (ByteArray.mk #[]) = isE x := sEq_empty x
    simp only [stR, e0, hE, Bool.not_false, cond_true, (cutG hx).2 p q ps hp, Option.bind_some, Bool.not_true, cond_false, e50 hpl]
    have hsm := split_small hpl
    have e5 : ∀ a : Dd, decide (out.length + [a].length ≤ 4294967296) = true := fun a => decide_eq_true (by rw [List.length_singleton]; omega)
    clear hp hE
    generalize (⟨p.toArray⟩ : ByteArray) = w at hf hpl hsm ⊢
    cases hW : (splitL w sp).any isE
    rotate_left
    · rw [deed_empty hW] at hf
      cases hf
    rw [deed_line hW] at hf
    simp only [Bool.not_false, Bool.not_true, cond_false]
    clear hW
    generalize splitL w sp = ws at hsm hf ⊢
    rcases dlen_cases ws with ⟨a, n, t, k, x, rfl⟩ | ⟨a, n, t, k, c, s, w', z, rfl⟩ | ⟨a, n, t, k, i, r, f, o, p', q', u, v, rfl⟩ | hlt | ⟨h5, hn5, hn8, hn12⟩
    · have e1 := e53t (a := n) (b := t) (hsm n (by simp)) (hsm t (by simp))
      rw [deedOf_cons] at hf
      simp only [show inR (0 : Int) (([a, n, t, k, x].length : Nat) : Int) = true from rfl, show rd (α := ByteArray) ByteArray.empty [a, n, t, k, x] (0 : Int) = a from rfl, show inR (1 : Int) (([a, n, t, k, x].length : Nat) : Int) = true from rfl, show rd (α := ByteArray) ByteArray.empty [a, n, t, k, x] (1 : Int) = n from rfl, show inR (2 : Int) (([a, n, t, k, x].length : Nat) : Int) = true from rfl, show rd (α := ByteArray) ByteArray.empty [a, n, t, k, x] (2 : Int) = t from rfl, show inR (3 : Int) (([a, n, t, k, x].length : Nat) : Int) = true from rfl, show rd (α := ByteArray) ByteArray.empty [a, n, t, k, x] (3 : Int) = k from rfl, show inR (4 : Int) (([a, n, t, k, x].length : Nat) : Int) = true from rfl, show rd (α := ByteArray) ByteArray.empty [a, n, t, k, x] (4 : Int) = x from rfl, show decide ((([a, n, t, k, x].length : Nat) : Int) < (5 : Int)) = false from rfl, show (decide (0 ≤ (1 : Int)) && (decide ((1 : Int) ≤ (3 : Int)) && decide ((3 : Int) ≤ (([a, n, t, k, x].length : Nat) : Int)))) = true from rfl, show List.drop (Int.toNat (1 : Int)) (List.take (Int.toNat (3 : Int)) [a, n, t, k, x]) = [n, t] from rfl, cond_false, cond_true, Option.bind_some, e1, show ∀ x1 x2 : Int, inR (0 : Int) (([x1, x2].length : Nat) : Int) = true from fun _ _ => rfl, show ∀ x1 x2 : Int, inR (1 : Int) (([x1, x2].length : Nat) : Int) = true from fun _ _ => rfl, show ∀ x1 x2 : Int, rd (α := Int) (0 : Int) [x1, x2] (0 : Int) = x1 from fun _ _ => rfl, show ∀ x1 x2 : Int, rd (α := Int) (0 : Int) [x1, x2] (1 : Int) = x2 from fun _ _ => rfl]
      rcases dk_cases k with ⟨c1, hk, hm⟩ | ⟨c1, c2, c3, hk, hm⟩ | ⟨c1, c2, hk, hm⟩ | ⟨c1, c2, c3, hk, hm⟩ | ⟨hk, hm⟩
      · rw [hk] at hf
        simp only [hm, show ((([a, n, t, k, x].length : Nat) : Int) != (8 : Int)) = true from rfl, show ((([a, n, t, k, x].length : Nat) : Int) != (5 : Int)) = false from rfl, show ((([a, n, t, k, x].length : Nat) : Int) != (12 : Int)) = true from rfl, show ((([a, n, t, k, x].length : Nat) : Int) != (0 : Int)) = true from rfl, cond_false, cond_true]
        cases hA : [n, t].all (fun w => numOk 15 w.data.toList) <;> rw [hA] at hf <;> cases hf
      · rw [hk] at hf
        simp only [hm, show ((([a, n, t, k, x].length : Nat) : Int) != (8 : Int)) = true from rfl, show ((([a, n, t, k, x].length : Nat) : Int) != (5 : Int)) = false from rfl, show ((([a, n, t, k, x].length : Nat) : Int) != (12 : Int)) = true from rfl, show ((([a, n, t, k, x].length : Nat) : Int) != (0 : Int)) = true from rfl, cond_false, cond_true]
        simp only [c1, c2, c3, cond_false, cond_true, Option.bind_some, e5]
        cases hA : [n, t].all (fun w => numOk 15 w.data.toList)
        · rw [hA] at hf
          cases hf
        · rw [hA] at hf
          cases hf
          rw [(all2 hA).1, (all2 hA).2, i_next hil]
          rfl
      · rw [hk] at hf
        simp only [hm, show ((([a, n, t, k, x].length : Nat) : Int) != (8 : Int)) = true from rfl, show ((([a, n, t, k, x].length : Nat) : Int) != (5 : Int)) = false from rfl, show ((([a, n, t, k, x].length : Nat) : Int) != (12 : Int)) = true from rfl, show ((([a, n, t, k, x].length : Nat) : Int) != (0 : Int)) = true from rfl, cond_false, cond_true]
        cases hA : [n, t].all (fun w => numOk 15 w.data.toList) <;> rw [hA] at hf <;> cases hf
      · rw [hk] at hf
        simp only [hm, show ((([a, n, t, k, x].length : Nat) : Int) != (8 : Int)) = true from rfl, show ((([a, n, t, k, x].length : Nat) : Int) != (5 : Int)) = false from rfl, show ((([a, n, t, k, x].length : Nat) : Int) != (12 : Int)) = true from rfl, show ((([a, n, t, k, x].length : Nat) : Int) != (0 : Int)) = true from rfl, cond_false, cond_true]
        simp only [c1, c2, c3, cond_false, cond_true, Option.bind_some, e5]
        cases hA : [n, t].all (fun w => numOk 15 w.data.toList)
        · rw [hA] at hf
          cases hf
        · rw [hA] at hf
          cases hf
          rw [(all2 hA).1, (all2 hA).2, i_next hil]
          rfl
      · rw [hk] at hf
        simp only [hm, show ((([a, n, t, k, x].length : Nat) : Int) != (8 : Int)) = true from rfl, show ((([a, n, t, k, x].length : Nat) : Int) != (5 : Int)) = false from rfl, show ((([a, n, t, k, x].length : Nat) : Int) != (12 : Int)) = true from rfl, show ((([a, n, t, k, x].length : Nat) : Int) != (0 : Int)) = true from rfl, cond_false, cond_true]
        cases hA : [n, t].all (fun w => numOk 15 w.data.toList) <;> rw [hA] at hf <;> cases hf
    · have e1 := e53t (a := n) (b := t) (hsm n (by simp)) (hsm t (by simp))
      have e2 := e53t (a := s) (b := w') (hsm s (by simp)) (hsm w' (by simp))
      rw [deedOf_cons] at hf
      simp only [show inR (0 : Int) (([a, n, t, k, c, s, w', z].length : Nat) : Int) = true from rfl, show rd (α := ByteArray) ByteArray.empty [a, n, t, k, c, s, w', z] (0 : Int) = a from rfl, show inR (1 : Int) (([a, n, t, k, c, s, w', z].length : Nat) : Int) = true from rfl, show rd (α := ByteArray) ByteArray.empty [a, n, t, k, c, s, w', z] (1 : Int) = n from rfl, show inR (2 : Int) (([a, n, t, k, c, s, w', z].length : Nat) : Int) = true from rfl, show rd (α := ByteArray) ByteArray.empty [a, n, t, k, c, s, w', z] (2 : Int) = t from rfl, show inR (3 : Int) (([a, n, t, k, c, s, w', z].length : Nat) : Int) = true from rfl, show rd (α := ByteArray) ByteArray.empty [a, n, t, k, c, s, w', z] (3 : Int) = k from rfl, show inR (4 : Int) (([a, n, t, k, c, s, w', z].length : Nat) : Int) = true from rfl, show rd (α := ByteArray) ByteArray.empty [a, n, t, k, c, s, w', z] (4 : Int) = c from rfl, show inR (5 : Int) (([a, n, t, k, c, s, w', z].length : Nat) : Int) = true from rfl, show rd (α := ByteArray) ByteArray.empty [a, n, t, k, c, s, w', z] (5 : Int) = s from rfl, show inR (6 : Int) (([a, n, t, k, c, s, w', z].length : Nat) : Int) = true from rfl, show rd (α := ByteArray) ByteArray.empty [a, n, t, k, c, s, w', z] (6 : Int) = w' from rfl, show inR (7 : Int) (([a, n, t, k, c, s, w', z].length : Nat) : Int) = true from rfl, show rd (α := ByteArray) ByteArray.empty [a, n, t, k, c, s, w', z] (7 : Int) = z from rfl, show decide ((([a, n, t, k, c, s, w', z].length : Nat) : Int) < (5 : Int)) = false from rfl, show (decide (0 ≤ (1 : Int)) && (decide ((1 : Int) ≤ (3 : Int)) && decide ((3 : Int) ≤ (([a, n, t, k, c, s, w', z].length : Nat) : Int)))) = true from rfl, show List.drop (Int.toNat (1 : Int)) (List.take (Int.toNat (3 : Int)) [a, n, t, k, c, s, w', z]) = [n, t] from rfl, show (decide (0 ≤ (5 : Int)) && (decide ((5 : Int) ≤ (7 : Int)) && decide ((7 : Int) ≤ (([a, n, t, k, c, s, w', z].length : Nat) : Int)))) = true from rfl, show List.drop (Int.toNat (5 : Int)) (List.take (Int.toNat (7 : Int)) [a, n, t, k, c, s, w', z]) = [s, w'] from rfl, cond_false, cond_true, Option.bind_some, e1, show ∀ x1 x2 : Int, inR (0 : Int) (([x1, x2].length : Nat) : Int) = true from fun _ _ => rfl, show ∀ x1 x2 : Int, inR (1 : Int) (([x1, x2].length : Nat) : Int) = true from fun _ _ => rfl, show ∀ x1 x2 : Int, rd (α := Int) (0 : Int) [x1, x2] (0 : Int) = x1 from fun _ _ => rfl, show ∀ x1 x2 : Int, rd (α := Int) (0 : Int) [x1, x2] (1 : Int) = x2 from fun _ _ => rfl]
      rcases dk_cases k with ⟨c1, hk, hm⟩ | ⟨c1, c2, c3, hk, hm⟩ | ⟨c1, c2, hk, hm⟩ | ⟨c1, c2, c3, hk, hm⟩ | ⟨hk, hm⟩
      · rw [hk] at hf
        simp only [hm, show ((([a, n, t, k, c, s, w', z].length : Nat) : Int) != (8 : Int)) = false from rfl, show ((([a, n, t, k, c, s, w', z].length : Nat) : Int) != (5 : Int)) = true from rfl, show ((([a, n, t, k, c, s, w', z].length : Nat) : Int) != (12 : Int)) = true from rfl, show ((([a, n, t, k, c, s, w', z].length : Nat) : Int) != (0 : Int)) = true from rfl, cond_false, cond_true]
        simp only [c1, e2, show ∀ x1 x2 : Int, inR (0 : Int) (([x1, x2].length : Nat) : Int) = true from fun _ _ => rfl, show ∀ x1 x2 : Int, inR (1 : Int) (([x1, x2].length : Nat) : Int) = true from fun _ _ => rfl, show ∀ x1 x2 : Int, rd (α := Int) (0 : Int) [x1, x2] (0 : Int) = x1 from fun _ _ => rfl, show ∀ x1 x2 : Int, rd (α := Int) (0 : Int) [x1, x2] (1 : Int) = x2 from fun _ _ => rfl, cond_false, cond_true, Option.bind_some, e5]
        cases hA : [n, t].all (fun w => numOk 15 w.data.toList)
        · rw [hA] at hf
          cases hf
        · rw [hA] at hf
          cases hB : [s, w'].all (fun w => numOk 15 w.data.toList)
          · simp only [cond_true, dRest0] at hf
            rw [hB] at hf
            cases hf
          · simp only [cond_true, dRest0] at hf
            rw [hB] at hf
            cases hf
            rw [(all2 hA).1, (all2 hA).2, (all2 hB).1, (all2 hB).2, i_next hil]
            rfl
      · rw [hk] at hf
        simp only [hm, show ((([a, n, t, k, c, s, w', z].length : Nat) : Int) != (8 : Int)) = false from rfl, show ((([a, n, t, k, c, s, w', z].length : Nat) : Int) != (5 : Int)) = true from rfl, show ((([a, n, t, k, c, s, w', z].length : Nat) : Int) != (12 : Int)) = true from rfl, show ((([a, n, t, k, c, s, w', z].length : Nat) : Int) != (0 : Int)) = true from rfl, cond_false, cond_true]
        cases hA : [n, t].all (fun w => numOk 15 w.data.toList) <;> rw [hA] at hf <;> cases hf
      · rw [hk] at hf
        simp only [hm, show ((([a, n, t, k, c, s, w', z].length : Nat) : Int) != (8 : Int)) = false from rfl, show ((([a, n, t, k, c, s, w', z].length : Nat) : Int) != (5 : Int)) = true from rfl, show ((([a, n, t, k, c, s, w', z].length : Nat) : Int) != (12 : Int)) = true from rfl, show ((([a, n, t, k, c, s, w', z].length : Nat) : Int) != (0 : Int)) = true from rfl, cond_false, cond_true]
        cases hA : [n, t].all (fun w => numOk 15 w.data.toList) <;> rw [hA] at hf <;> cases hf
      · rw [hk] at hf
        simp only [hm, show ((([a, n, t, k, c, s, w', z].length : Nat) : Int) != (8 : Int)) = false from rfl, show ((([a, n, t, k, c, s, w', z].length : Nat) : Int) != (5 : Int)) = true from rfl, show ((([a, n, t, k, c, s, w', z].length : Nat) : Int) != (12 : Int)) = true from rfl, show ((([a, n, t, k, c, s, w', z].length : Nat) : Int) != (0 : Int)) = true from rfl, cond_false, cond_true]
        cases hA : [n, t].all (fun w => numOk 15 w.data.toList) <;> rw [hA] at hf <;> cases hf
      · rw [hk] at hf
        simp only [hm, show ((([a, n, t, k, c, s, w', z].length : Nat) : Int) != (8 : Int)) = false from rfl, show ((([a, n, t, k, c, s, w', z].length : Nat) : Int) != (5 : Int)) = true from rfl, show ((([a, n, t, k, c, s, w', z].length : Nat) : Int) != (12 : Int)) = true from rfl, show ((([a, n, t, k, c, s, w', z].length : Nat) : Int) != (0 : Int)) = true from rfl, cond_false, cond_true]
        cases hA : [n, t].all (fun w => numOk 15 w.data.toList) <;> rw [hA] at hf <;> cases hf
    · have e1 := e53t (a := n) (b := t) (hsm n (by simp)) (hsm t (by simp))
      have e2 := e53 (a := p') (b := q') (c := u) (d := v) (fun y hy => hsm y (by simp only [List.mem_cons] at hy ⊢; simp only [hy, or_true]))
      rw [deedOf_cons] at hf
      simp only [show inR (0 : Int) (([a, n, t, k, i, r, f, o, p', q', u, v].length : Nat) : Int) = true from rfl, show rd (α := ByteArray) ByteArray.empty [a, n, t, k, i, r, f, o, p', q', u, v] (0 : Int) = a from rfl, show inR (1 : Int) (([a, n, t, k, i, r, f, o, p', q', u, v].length : Nat) : Int) = true from rfl, show rd (α := ByteArray) ByteArray.empty [a, n, t, k, i, r, f, o, p', q', u, v] (1 : Int) = n from rfl, show inR (2 : Int) (([a, n, t, k, i, r, f, o, p', q', u, v].length : Nat) : Int) = true from rfl, show rd (α := ByteArray) ByteArray.empty [a, n, t, k, i, r, f, o, p', q', u, v] (2 : Int) = t from rfl, show inR (3 : Int) (([a, n, t, k, i, r, f, o, p', q', u, v].length : Nat) : Int) = true from rfl, show rd (α := ByteArray) ByteArray.empty [a, n, t, k, i, r, f, o, p', q', u, v] (3 : Int) = k from rfl, show inR (4 : Int) (([a, n, t, k, i, r, f, o, p', q', u, v].length : Nat) : Int) = true from rfl, show rd (α := ByteArray) ByteArray.empty [a, n, t, k, i, r, f, o, p', q', u, v] (4 : Int) = i from rfl, show inR (5 : Int) (([a, n, t, k, i, r, f, o, p', q', u, v].length : Nat) : Int) = true from rfl, show rd (α := ByteArray) ByteArray.empty [a, n, t, k, i, r, f, o, p', q', u, v] (5 : Int) = r from rfl, show inR (6 : Int) (([a, n, t, k, i, r, f, o, p', q', u, v].length : Nat) : Int) = true from rfl, show rd (α := ByteArray) ByteArray.empty [a, n, t, k, i, r, f, o, p', q', u, v] (6 : Int) = f from rfl, show inR (7 : Int) (([a, n, t, k, i, r, f, o, p', q', u, v].length : Nat) : Int) = true from rfl, show rd (α := ByteArray) ByteArray.empty [a, n, t, k, i, r, f, o, p', q', u, v] (7 : Int) = o from rfl, show decide ((([a, n, t, k, i, r, f, o, p', q', u, v].length : Nat) : Int) < (5 : Int)) = false from rfl, show (decide (0 ≤ (1 : Int)) && (decide ((1 : Int) ≤ (3 : Int)) && decide ((3 : Int) ≤ (([a, n, t, k, i, r, f, o, p', q', u, v].length : Nat) : Int)))) = true from rfl, show List.drop (Int.toNat (1 : Int)) (List.take (Int.toNat (3 : Int)) [a, n, t, k, i, r, f, o, p', q', u, v]) = [n, t] from rfl, show (decide (0 ≤ (8 : Int)) && (decide ((8 : Int) ≤ (([a, n, t, k, i, r, f, o, p', q', u, v].length : Nat) : Int)) && decide ((([a, n, t, k, i, r, f, o, p', q', u, v].length : Nat) : Int) ≤ (([a, n, t, k, i, r, f, o, p', q', u, v].length : Nat) : Int)))) = true from rfl, show List.drop (Int.toNat (8 : Int)) (List.take (Int.toNat (([a, n, t, k, i, r, f, o, p', q', u, v].length : Nat) : Int)) [a, n, t, k, i, r, f, o, p', q', u, v]) = [p', q', u, v] from rfl, cond_false, cond_true, Option.bind_some, e1, show ∀ x1 x2 : Int, inR (0 : Int) (([x1, x2].length : Nat) : Int) = true from fun _ _ => rfl, show ∀ x1 x2 : Int, inR (1 : Int) (([x1, x2].length : Nat) : Int) = true from fun _ _ => rfl, show ∀ x1 x2 : Int, rd (α := Int) (0 : Int) [x1, x2] (0 : Int) = x1 from fun _ _ => rfl, show ∀ x1 x2 : Int, rd (α := Int) (0 : Int) [x1, x2] (1 : Int) = x2 from fun _ _ => rfl]
      rcases dk_cases k with ⟨c1, hk, hm⟩ | ⟨c1, c2, c3, hk, hm⟩ | ⟨c1, c2, hk, hm⟩ | ⟨c1, c2, c3, hk, hm⟩ | ⟨hk, hm⟩
      · rw [hk] at hf
        simp only [hm, show ((([a, n, t, k, i, r, f, o, p', q', u, v].length : Nat) : Int) != (8 : Int)) = true from rfl, show ((([a, n, t, k, i, r, f, o, p', q', u, v].length : Nat) : Int) != (5 : Int)) = true from rfl, show ((([a, n, t, k, i, r, f, o, p', q', u, v].length : Nat) : Int) != (12 : Int)) = false from rfl, show ((([a, n, t, k, i, r, f, o, p', q', u, v].length : Nat) : Int) != (0 : Int)) = true from rfl, cond_false, cond_true]
        cases hA : [n, t].all (fun w => numOk 15 w.data.toList) <;> rw [hA] at hf <;> cases hf
      · rw [hk] at hf
        simp only [hm, show ((([a, n, t, k, i, r, f, o, p', q', u, v].length : Nat) : Int) != (8 : Int)) = true from rfl, show ((([a, n, t, k, i, r, f, o, p', q', u, v].length : Nat) : Int) != (5 : Int)) = true from rfl, show ((([a, n, t, k, i, r, f, o, p', q', u, v].length : Nat) : Int) != (12 : Int)) = false from rfl, show ((([a, n, t, k, i, r, f, o, p', q', u, v].length : Nat) : Int) != (0 : Int)) = true from rfl, cond_false, cond_true]
        cases hA : [n, t].all (fun w => numOk 15 w.data.toList) <;> rw [hA] at hf <;> cases hf
      · rw [hk] at hf
        simp only [hm, show ((([a, n, t, k, i, r, f, o, p', q', u, v].length : Nat) : Int) != (8 : Int)) = true from rfl, show ((([a, n, t, k, i, r, f, o, p', q', u, v].length : Nat) : Int) != (5 : Int)) = true from rfl, show ((([a, n, t, k, i, r, f, o, p', q', u, v].length : Nat) : Int) != (12 : Int)) = false from rfl, show ((([a, n, t, k, i, r, f, o, p', q', u, v].length : Nat) : Int) != (0 : Int)) = true from rfl, cond_false, cond_true]
        simp only [c1, c2, e2, show ∀ x1 x2 x3 x4 : Int, inR (0 : Int) (([x1, x2, x3, x4].length : Nat) : Int) = true from fun _ _ _ _ => rfl, show ∀ x1 x2 x3 x4 : Int, rd (α := Int) (0 : Int) [x1, x2, x3, x4] (0 : Int) = x1 from fun _ _ _ _ => rfl, show ∀ x1 x2 x3 x4 : Int, inR (1 : Int) (([x1, x2, x3, x4].length : Nat) : Int) = true from fun _ _ _ _ => rfl, show ∀ x1 x2 x3 x4 : Int, rd (α := Int) (0 : Int) [x1, x2, x3, x4] (1 : Int) = x2 from fun _ _ _ _ => rfl, show ∀ x1 x2 x3 x4 : Int, inR (2 : Int) (([x1, x2, x3, x4].length : Nat) : Int) = true from fun _ _ _ _ => rfl, show ∀ x1 x2 x3 x4 : Int, rd (α := Int) (0 : Int) [x1, x2, x3, x4] (2 : Int) = x3 from fun _ _ _ _ => rfl, show ∀ x1 x2 x3 x4 : Int, inR (3 : Int) (([x1, x2, x3, x4].length : Nat) : Int) = true from fun _ _ _ _ => rfl, show ∀ x1 x2 x3 x4 : Int, rd (α := Int) (0 : Int) [x1, x2, x3, x4] (3 : Int) = x4 from fun _ _ _ _ => rfl, cond_false, cond_true, Option.bind_some, e5]
        cases hA : [n, t].all (fun w => numOk 15 w.data.toList)
        · rw [hA] at hf
          cases hf
        · rw [hA] at hf
          cases hB : [p', q', u, v].all (fun w => numOk 15 w.data.toList)
          · simp only [cond_true, dRest2] at hf
            rw [hB] at hf
            cases hf
          · simp only [cond_true, dRest2] at hf
            rw [hB] at hf
            cases hf
            rw [(all2 hA).1, (all2 hA).2, (all4 hB).1, (all4 hB).2.1, (all4 hB).2.2.1, (all4 hB).2.2.2, i_next hil]
            rfl
      · rw [hk] at hf
        simp only [hm, show ((([a, n, t, k, i, r, f, o, p', q', u, v].length : Nat) : Int) != (8 : Int)) = true from rfl, show ((([a, n, t, k, i, r, f, o, p', q', u, v].length : Nat) : Int) != (5 : Int)) = true from rfl, show ((([a, n, t, k, i, r, f, o, p', q', u, v].length : Nat) : Int) != (12 : Int)) = false from rfl, show ((([a, n, t, k, i, r, f, o, p', q', u, v].length : Nat) : Int) != (0 : Int)) = true from rfl, cond_false, cond_true]
        cases hA : [n, t].all (fun w => numOk 15 w.data.toList) <;> rw [hA] at hf <;> cases hf
      · rw [hk] at hf
        simp only [hm, show ((([a, n, t, k, i, r, f, o, p', q', u, v].length : Nat) : Int) != (8 : Int)) = true from rfl, show ((([a, n, t, k, i, r, f, o, p', q', u, v].length : Nat) : Int) != (5 : Int)) = true from rfl, show ((([a, n, t, k, i, r, f, o, p', q', u, v].length : Nat) : Int) != (12 : Int)) = false from rfl, show ((([a, n, t, k, i, r, f, o, p', q', u, v].length : Nat) : Int) != (0 : Int)) = true from rfl, cond_false, cond_true]
        cases hA : [n, t].all (fun w => numOk 15 w.data.toList) <;> rw [hA] at hf <;> cases hf
    · rw [deedOf_none (.inl hlt)] at hf
      cases hf
    · rw [deedOf_none (.inr ⟨hn5, hn8, hn12⟩)] at hf
      cases hf
end Go.Vm
