/- DeedTexts: deeds, written by the program. Own work. -/
import Derived.Test.YtbjpkdbneopgkaaGreatDoorESpecG
set_option maxRecDepth 100000
set_option linter.unusedVariables false
set_option linter.unusedSimpArgs false
namespace Go.Vm
open Go.RowKit Go.Vm.Num
/-- what is known of a right deed -/
structure DeedOK (d : Dd) : Prop where
  site : d.1.size ≤ 40
  n0 : 1 ≤ d.2.1
  n1 : d.2.1 ≤ 1000000
  t0 : 0 ≤ d.2.2.1
  t1 : d.2.2.1 ≤ 345686400000
  k1 : 1 ≤ d.2.2.2.1
  k4 : d.2.2.2.1 ≤ 4
  car : d.2.2.2.1 = 1 → d.2.2.2.2.2.2.1.1.size ≤ 40 ∧ d.2.2.2.2.2.1.size ≤ 40 ∧ (0 ≤ d.2.2.2.2.2.2.1.2.1 ∧ d.2.2.2.2.2.2.1.2.1 ≤ 60) ∧ (0 ≤ d.2.2.2.2.2.2.1.2.2.1 ∧ d.2.2.2.2.2.2.1.2.2.1 ≤ 60)
  ask : d.2.2.2.1 = 3 → RideOK d.2.2.2.2.2.2.2.1
  other : d.2.2.2.1 = 2 ∨ d.2.2.2.1 = 4 → d.2.2.2.2.1.size ≤ 40
theorem deedOK_of {d : Dd} (h : dFault d = 0) : DeedOK d := by
  obtain ⟨⟨h1, h2, h3, h4⟩, h5, h6⟩ := small_of h
  have hd := h
  unfold dFault at h
  obtain ⟨g1, h⟩ := bif_zero h (by decide)
  obtain ⟨g2, h⟩ := bif_zero h (by decide)
  obtain ⟨g3, h⟩ := bif_zero h (by decide)
  obtain ⟨g4, h⟩ := bif_zero h (by decide)
  simp only [Bool.not_eq_false'] at g1
  have q2 := out_ok g2
  dsimp only [dSite, dNo, dAt, dKind] at *
  refine ⟨key_40 g1, q2.1, q2.2, h1, by omega, h5, h6, fun e => ?_, fun e => ?_, fun e => ?_⟩
  · rw [show (d.2.2.2.1 == 1) = true from by rw [e]; rfl] at h
    simp only [cond_true] at h
    obtain ⟨c1, h⟩ := bif_zero h (by decide)
    obtain ⟨c2, h⟩ := bif_zero h (by decide)
    obtain ⟨c3, h⟩ := bif_zero h (by decide)
    obtain ⟨c4, h⟩ := bif_zero h (by decide)
    simp only [Bool.not_eq_false'] at c1 c2
    exact ⟨key_40 c1, key_40 c2, out_ok c3, out_ok c4⟩
  · rw [show (d.2.2.2.1 == 1) = false from by rw [e]; rfl, show (d.2.2.2.1 == 3) = true from by rw [e]; rfl] at h
    simp only [cond_true, cond_false] at h
    cases hr : rideBad (dRide d) != 0
    · exact rideOK_of (by simpa using hr)
    · rw [hr] at h
      simp only [cond_true] at h
      rw [h] at hr
      cases hr
  · rw [show (d.2.2.2.1 == 1) = false from by rcases e with e | e <;> rw [e] <;> rfl, show (d.2.2.2.1 == 3) = false from by rcases e with e | e <;> rw [e] <;> rfl] at h
    simp only [cond_false] at h
    obtain ⟨c1, h⟩ := bif_zero h (by decide)
    simp only [Bool.not_eq_false'] at c1
    exact key_40 c1
def dOKs (l : List Dd) : Prop := l.length ≤ 1000 ∧ ∀ t ∈ l, DeedOK t
theorem deeds_OK {l : List Dd} (h : dFaults l = 0) : dOKs l := by
  have := deeds_of h
  exact ⟨this.len, fun t ht => deedOK_of (this.each t ht)⟩
/-! ### a line -/
def dWord (d : Dd) : ByteArray := rd (α := ByteArray) ByteArray.empty deedWs (d.2.2.2.1 - 1)
theorem dword_facts {d : Dd} (h1 : 1 ≤ d.2.2.2.1) (h4 : d.2.2.2.1 ≤ 4) : IntKind.i64.wrap (d.2.2.2.1 - 1) = d.2.2.2.1 - 1 ∧ inR (d.2.2.2.1 - 1) ((s62.length : Nat) : Int) = true ∧ (dWord d).size ≤ 4 := by
  have hk : d.2.2.2.1 = 1 ∨ d.2.2.2.1 = 2 ∨ d.2.2.2.1 = 3 ∨ d.2.2.2.1 = 4 := by omega
  unfold dWord
  rcases hk with e | e | e | e <;> rw [e] <;> exact ⟨by decide, by decide, by decide⟩
def dHead (d : Dd) : List ByteArray := [d.1, numeral d.2.1, numeral d.2.2.1, dWord d]
def dTail (d : Dd) : List ByteArray :=
  bif d.2.2.2.1 == 1 then [d.2.2.2.2.2.2.1.1, numeral d.2.2.2.2.2.2.1.2.1, numeral d.2.2.2.2.2.2.1.2.2.1, d.2.2.2.2.2.1] else
  bif d.2.2.2.1 == 3 then [d.2.2.2.2.2.2.2.1.1, d.2.2.2.2.2.2.2.1.2.1, d.2.2.2.2.2.2.2.1.2.2.1, d.2.2.2.2.2.2.2.1.2.2.2.1, numeral d.2.2.2.2.2.2.2.1.2.2.2.2.1, numeral d.2.2.2.2.2.2.2.1.2.2.2.2.2.1, numeral d.2.2.2.2.2.2.2.1.2.2.2.2.2.2.1, numeral d.2.2.2.2.2.2.2.1.2.2.2.2.2.2.2.1] else [d.2.2.2.2.1]
def dWords (d : Dd) : List ByteArray := dHead d ++ dTail d
def dLine (d : Dd) : ByteArray := joinL (dWords d) sp ++ nl
def dLines (l : List Dd) : ByteArray := l.foldl (fun b t => b ++ dLine t) (ByteArray.mk #[])
/-- words, each behind a blank -/
def glue : List ByteArray → ByteArray
  | [] => ByteArray.mk #[]
  | w :: l => (sp ++ w) ++ glue l
theorem join_glue (w : ByteArray) : ∀ l : List ByteArray, joinL (w :: l) sp = w ++ glue l := by
  intro l
  apply bytes_of
  show (Lib.join ((w :: l).map (·.data.toList)) sp.data.toList).toArray.toList = _
  rw [List.toList_toArray, List.map_cons, Lib.join_cons, ByteArray.data_append, Array.toList_append]
  congr 1
  induction l with
  | nil => rfl
  | cons x l ih =>
    unfold glue
    unfold Lib.joinTail at ih ⊢
    rw [List.map_cons, List.map_cons, List.flatten_cons, ih]
    simp only [ByteArray.data_append, Array.toList_append, List.append_assoc]
theorem glue_size : ∀ (l : List ByteArray), (∀ w ∈ l, w.size ≤ 40) → (glue l).size ≤ 41 * l.length
  | [], _ => Nat.le_refl _
  | w :: l, h => by
    have := glue_size l (fun x hx => h x (List.mem_cons_of_mem _ hx))
    have hw := h w (List.mem_cons_self ..)
    have hs : sp.size = 1 := rfl
    unfold glue
    simp only [ByteArray.size_append, hs, List.length_cons]
    omega
theorem num_40 {n : Int} (h0 : -9223372036854775808 ≤ n) (h1 : n ≤ 345686400000) : (numeral n).size ≤ 40 := by
  have := numeral_size n h0 (by omega)
  omega
theorem dwords_40 {d : Dd} (o : DeedOK d) : ∀ w ∈ dWords d, w.size ≤ 40 := by
  have hw := (dword_facts o.k1 o.k4).2.2
  have h0 := o.n0; have h1 := o.n1; have h2 := o.t0; have h3 := o.t1; have hk1 := o.k1; have hk4 := o.k4
  intro w hw'
  unfold dWords dHead at hw'
  rcases List.mem_append.1 hw' with h | h
  · simp only [List.mem_cons, List.not_mem_nil, or_false] at h
    rcases h with rfl | rfl | rfl | rfl
    · exact o.site
    · exact num_40 (by omega) (by omega)
    · exact num_40 (by omega) (by omega)
    · omega
  · unfold dTail at h
    by_cases e1 : d.2.2.2.1 = 1
    · rw [show (d.2.2.2.1 == 1) = true from by rw [e1]; rfl] at h
      obtain ⟨c1, c2, c3, c4⟩ := o.car e1
      simp only [cond_true, List.mem_cons, List.not_mem_nil, or_false] at h
      rcases h with rfl | rfl | rfl | rfl
      · exact c1
      · exact num_40 (by omega) (by omega)
      · exact num_40 (by omega) (by omega)
      · exact c2
    by_cases e3 : d.2.2.2.1 = 3
    · rw [show (d.2.2.2.1 == 1) = false from by rw [e3]; rfl, show (d.2.2.2.1 == 3) = true from by rw [e3]; rfl] at h
      obtain ⟨g0, g1, g2, g3, a0, a1, b0, b1, c0, c1, d0, d1⟩ := o.ask e3
      simp only [cond_true, cond_false, List.mem_cons, List.not_mem_nil, or_false] at h
      rcases h with rfl | rfl | rfl | rfl | rfl | rfl | rfl | rfl
      · exact g0
      · exact g1
      · exact g2
      · exact g3
      · exact num_40 (by omega) (by omega)
      · exact num_40 (by omega) (by omega)
      · exact num_40 (by omega) (by omega)
      · exact num_40 (by omega) (by omega)
    · rw [show (d.2.2.2.1 == 1) = false from by simpa using e1, show (d.2.2.2.1 == 3) = false from by simpa using e3] at h
      simp only [cond_false, List.mem_cons, List.not_mem_nil, or_false] at h
      rw [h]
      exact o.other (by omega)
theorem dwords_len (d : Dd) : (dWords d).length ≤ 12 := by
  unfold dWords dHead dTail
  cases d.2.2.2.1 == 1
  · cases d.2.2.2.1 == 3 <;> simp
  · simp
theorem djoin_size {d : Dd} (o : DeedOK d) : (joinL (dWords d) sp).size ≤ 500 := by
  have hl := dwords_len d
  have h40 := dwords_40 o
  have hs := o.site
  have e : dWords d = d.1 :: (numeral d.2.1 :: numeral d.2.2.1 :: dWord d :: dTail d) := rfl
  rw [e] at h40 hl ⊢
  rw [join_glue, ByteArray.size_append]
  have := glue_size _ (fun w hw => h40 w (List.mem_cons_of_mem _ hw))
  simp only [List.length_cons] at hl this
  omega
theorem dline_size {d : Dd} (o : DeedOK d) : (dLine d).size ≤ 501 := by
  have := djoin_size o
  have hn : nl.size = 1 := rfl
  unfold dLine
  rw [ByteArray.size_append, hn]
  omega
/-! ### Text -/
noncomputable def s17 (l : List Dd) : Option (ByteArray × Int × Unit) := some (s8 (bif dFaults l != 0 then (ByteArray.mk #[]) else dLines l) (dFaults l))
theorem e42d {ws : List ByteArray} (h1 : ws.length ≤ 12) (h2 : (joinL ws sp).size ≤ 500) : s42 ws (ByteArray.mk #[32]) = some (joinL ws sp, ()) := by
  unfold s42
  rw [if_pos ⟨by omega, Nat.le_trans h2 (by decide)⟩]
theorem h17 (l : List Dd) (y : ByteArray × Int × Unit) (hw : WFs A17 (l, ())) (h : s17 l = some y) : ∃ k, f17 s39 s42 s61 s62 k l = some y := by
  unfold s17 at h
  cases h
  clear hw
  refine ⟨4000, ?_⟩
  unfold f17 s61
  by_cases hF : dFaults l = 0
  rotate_left
  · have e : (dFaults l != 0) = true := by simpa using hF
    unfold s8
    rw [e]
    rfl
  have e : (dFaults l != 0) = false := by simpa using hF
  obtain ⟨hlen, hok⟩ := deeds_OK hF
  rw [e]
  simp only [cond_false]
  rw [iter_fold (s0 := (((0 : Int), ()), zET2)) l (fun i (b : ByteArray) => (((i : Int), ()), ((b, ()), ()))) (fun t b => b ++ dLine t) (fun b => .inr ((), ((b, ()), ()))) (fun j b => b.size ≤ 501 * j) (ByteArray.mk #[]) (Nat.le_refl _) rfl (by omega) ?hJ ?h1 ?h2]
  · simp only [Option.bind_some]
    show (bif decide (((dLines l).size : Int) > 200000) then _ else _) = _
    unfold s8
    rw [hF]
    cases decide (((dLines l).size : Int) > 200000) <;> rfl
  case hJ =>
    intro j t b hx hb
    have := dline_size (hok t (List.mem_of_getElem? hx))
    rw [ByteArray.size_append]
    omega
  case h2 => intro b _; simp
  case h1 =>
    intro j t b hx hb
    have hj := (List.getElem?_eq_some_iff.1 hx).1
    have o := hok t (List.mem_of_getElem? hx)
    have hjs := djoin_size o
    have hll := dwords_len t
    obtain ⟨w3, w4, _⟩ := dword_facts o.k1 o.k4
    have q0 := o.n0; have q1 := o.n1; have q2 := o.t0; have q3 := o.t1
    have hk1 := o.k1; have hk4 := o.k4
    have hnl : nl.size = 1 := rfl
    have i0 := s107_in (in_of (n := t.2.1) (by omega) (by omega))
    have i1 := s107_in (in_of (n := t.2.2.1) (by omega) (by omega))
    simp only [lt_at hx, inR_at hx, rd_at hx, wrap_succ hx (by omega), cond_true, i0, i1, Option.bind_some, w3, w4]
    have hin : ∀ ws : List ByteArray, ws = dWords t → (Option.bind (s42 ws (ByteArray.mk #[32])) fun v8 =>
        bif decide (ByteArray.size v8.1 + ByteArray.size (ByteArray.mk #[10]) < 4611686018427387904) then
          bif decide (ByteArray.size b + ByteArray.size (v8.1 ++ (ByteArray.mk #[10])) ≤ 4294967296) then
            (some (.inl (((((j + 1 : Nat) : Int)), ()), (((b ++ (v8.1 ++ (ByteArray.mk #[10]))), ()), ()))) : Option (((Int × Unit) × ET2) ⊕ (ET1 ⊕ (Unit × ET2))))
          else none
        else none) = some (.inl ((((j + 1 : Nat) : Int), ()), ((b ++ dLine t, ()), ()))) := fun ws hws => by
      subst hws
      rw [e42d hll hjs]
      have c1 : decide ((joinL (dWords t) sp).size + (ByteArray.mk #[10]).size < 4611686018427387904) = true := decide_eq_true (by rw [show (ByteArray.mk #[10]).size = 1 from rfl]; omega)
      have c2 : decide (b.size + (joinL (dWords t) sp ++ ByteArray.mk #[10]).size ≤ 4294967296) = true := decide_eq_true (by rw [ByteArray.size_append, show (ByteArray.mk #[10]).size = 1 from rfl]; omega)
      simp only [Option.bind_some, c1, c2, cond_true]
      rfl
    by_cases e1 : t.2.2.2.1 = 1
    · have b1 : (t.2.2.2.1 == 1) = true := by rw [e1]; rfl
      obtain ⟨_, _, c3, c4⟩ := o.car e1
      have i2 := s107_in (in_of (n := t.2.2.2.2.2.2.1.2.1) (by omega) (by omega))
      have i3 := s107_in (in_of (n := t.2.2.2.2.2.2.1.2.2.1) (by omega) (by omega))
      simp only [b1, cond_true, i2, i3, Option.bind_some]
      exact hin _ (by unfold dWords dTail; rw [b1]; rfl)
    by_cases e3 : t.2.2.2.1 = 3
    · have b1 : (t.2.2.2.1 == 1) = false := by rw [e3]; rfl
      have b3 : (t.2.2.2.1 == 3) = true := by rw [e3]; rfl
      obtain ⟨_, _, _, _, a0, a1, b0, b1', c0, c1, d0, d1⟩ := o.ask e3
      have i2 := s107_in (in_of (n := t.2.2.2.2.2.2.2.1.2.2.2.2.1) (by omega) (by omega))
      have i3 := s107_in (in_of (n := t.2.2.2.2.2.2.2.1.2.2.2.2.2.1) (by omega) (by omega))
      have i4 := s107_in (in_of (n := t.2.2.2.2.2.2.2.1.2.2.2.2.2.2.1) (by omega) (by omega))
      have i5 := s107_in (in_of (n := t.2.2.2.2.2.2.2.1.2.2.2.2.2.2.2.1) (by omega) (by omega))
      simp only [b1, b3, cond_true, cond_false, i2, i3, i4, i5, Option.bind_some]
      exact hin _ (by unfold dWords dTail; rw [b1, b3]; rfl)
    · have b1 : (t.2.2.2.1 == 1) = false := by simpa using e1
      have b3 : (t.2.2.2.1 == 3) = false := by simpa using e3
      simp only [b1, b3, cond_true, cond_false, Option.bind_some]
      exact hin _ (by unfold dWords dTail; rw [b1, b3]; rfl)
end Go.Vm
