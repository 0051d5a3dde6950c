/- AskTexts: asks, written. Own work. -/
import Derived.Test.YtbjpkdbneopgkaaGreatDoorASpecG
set_option maxRecDepth 100000
set_option linter.unusedVariables false
set_option linter.unusedSimpArgs false
namespace Go.Vm
open Go.RowKit Go.Vm.Num
theorem key_40 {s : ByteArray} (h : key s = true) : s.size ≤ 40 := by
  unfold key keyL at h
  simp only [Bool.and_eq_true, decide_eq_true_eq] at h
  have := size_list s
  omega
theorem bif_zero {b : Bool} {x y : Int} (h : (bif b then x else y) = 0) (hx : x ≠ 0) : b = false ∧ y = 0 := by
  cases b
  · exact ⟨rfl, h⟩
  · exact absurd h hx
/-- what is known of a right ride -/
structure RideOK (r : Rr) : Prop where
  k0 : r.1.size ≤ 40
  k1 : r.2.1.size ≤ 40
  k2 : r.2.2.1.size ≤ 40
  k3 : r.2.2.2.1.size ≤ 40
  a0 : 0 ≤ r.2.2.2.2.1
  a1 : r.2.2.2.2.1 ≤ 345686400000
  b0 : -9223372036854775808 ≤ r.2.2.2.2.2.1
  b1 : r.2.2.2.2.2.1 ≤ 345686400000
  c0 : 0 ≤ r.2.2.2.2.2.2.1
  c1 : r.2.2.2.2.2.2.1 ≤ 60
  d0 : 0 ≤ r.2.2.2.2.2.2.2.1
  d1 : r.2.2.2.2.2.2.2.1 ≤ 60
theorem out_ok {a b c : Int} (h : s99 a b c = false) : b ≤ a ∧ a ≤ c := by
  unfold s99 at h
  simp only [Bool.or_eq_false_iff, decide_eq_false_iff_not] at h
  omega
theorem rideOK_of {r : Rr} (h : rideBad r = 0) : RideOK r := by
  unfold rideBad at h
  obtain ⟨h1, h⟩ := bif_zero h (by decide)
  obtain ⟨h2, h⟩ := bif_zero h (by decide)
  obtain ⟨h3, h⟩ := bif_zero h (by decide)
  obtain ⟨h4, h⟩ := bif_zero h (by decide)
  obtain ⟨h5, h⟩ := bif_zero h (by decide)
  obtain ⟨h6, h⟩ := bif_zero h (by decide)
  obtain ⟨h7, h⟩ := bif_zero h (by decide)
  obtain ⟨h8, h⟩ := bif_zero h (by decide)
  obtain ⟨h9, h⟩ := bif_zero h (by decide)
  simp only [Bool.not_eq_false'] at h1 h2 h3 h4 h6
  unfold s105 at h6
  simp only [Bool.not_eq_true'] at h6
  have q6 := out_ok h6
  have q7 := out_ok h7
  have q8 := out_ok h8
  have q9 := out_ok h9
  have hwr : IntKind.i64.wrap (r.2.2.2.2.1 + 1) = r.2.2.2.2.1 + 1 := wrap_ok (by omega) (by omega)
  rw [hwr] at q7
  exact ⟨key_40 h1, key_40 h2, key_40 h3, key_40 h4, by omega, by omega, by omega, by omega, q8.1, q8.2, q9.1, q9.2⟩
/-- what is known of a right ask -/
structure AskOK (a : Ask) : Prop where
  t0 : 0 ≤ kAt a
  t1 : kAt a < 345686400000
  k1 : 1 ≤ kKind a
  k4 : kKind a ≤ 4
  ride : RideOK (kRide a)
theorem askOK_of {a : Ask} (h : askBad a = 0) : AskOK a := by
  obtain ⟨⟨h1, h2⟩, h3, h4⟩ := small_ask h
  refine ⟨h1, h2, h3, h4, ?_⟩
  unfold askBad at h
  obtain ⟨_, h⟩ := bif_zero h (by decide)
  obtain ⟨_, h⟩ := bif_zero h (by decide)
  cases hk : (kKind a == 1) || (kKind a == 2)
  · rw [hk] at h
    simp only [cond_false] at h
    obtain ⟨g1, h⟩ := bif_zero h (by decide)
    obtain ⟨g2, _⟩ := bif_zero h (by decide)
    simp only [Bool.not_eq_false', Bool.and_eq_true] at g1
    simp only [Bool.not_eq_false'] at g2
    unfold bare at g2
    simp only [Bool.and_eq_true, beq_iff_eq, Bool.and_true] at g2
    obtain ⟨e1, e2, e3, e4, e5, e6⟩ := g2
    have f1 := sEq_iff.1 e1
    have f2 := sEq_iff.1 e2
    exact ⟨key_40 g1.1, key_40 g1.2, by rw [f1]; decide, by rw [f2]; decide, by omega, by omega, by omega, by omega, by omega, by omega, by omega, by omega⟩
  · rw [hk] at h
    exact rideOK_of h
def allOK (l : List Ask) : Prop := l.length ≤ 2000 ∧ ∀ t ∈ l, AskOK t
theorem asks_OK {l : List Ask} (h : asksFault l = 0) : allOK l := by
  unfold asksFault at h
  split at h
  · cases h
  · exact ⟨by omega, fun t ht => askOK_of (chkP_all l none h t ht)⟩
/-! ### a line -/
def wordOf (a : Ask) : ByteArray := rd (α := ByteArray) ByteArray.empty askWs (kKind a - 1)
theorem word_facts {a : Ask} (h1 : 1 ≤ kKind a) (h4 : kKind a ≤ 4) : inR (kKind a) ((s37.length : Nat) : Int) = true ∧ rd (α := ByteArray) ByteArray.empty s37 (kKind a) = wordOf a ∧ IntKind.i64.wrap (kKind a - 1) = kKind a - 1 ∧ inR (kKind a - 1) ((s40.length : Nat) : Int) = true ∧ (wordOf a).size ≤ 6 := by
  have hk : kKind a = 1 ∨ kKind a = 2 ∨ kKind a = 3 ∨ kKind a = 4 := by omega
  unfold wordOf
  rcases hk with e | e | e | e <;> rw [e] <;> exact ⟨by decide, by decide, by decide, by decide, by decide⟩
def short (a : Ask) : List ByteArray := [numeral (kAt a), wordOf a, (kRide a).1, (kRide a).2.1]
def long (a : Ask) : List ByteArray := short a ++ [(kRide a).2.2.1, (kRide a).2.2.2.1, numeral (kRide a).2.2.2.2.1, numeral (kRide a).2.2.2.2.2.1, numeral (kRide a).2.2.2.2.2.2.1, numeral (kRide a).2.2.2.2.2.2.2.1]
def wordsOf (a : Ask) : List ByteArray := bif decide (kKind a ≤ 2) then long a else short a
def lineOf (a : Ask) : ByteArray := joinL (wordsOf a) sp ++ nl
def linesOf (l : List Ask) : ByteArray := l.foldl (fun b t => b ++ lineOf t) (ByteArray.mk #[])
theorem join10 (a b c d e f g h i j : ByteArray) : joinL [a, b, c, d, e, f, g, h, i, j] sp = a ++ (sp ++ b) ++ (sp ++ c) ++ (sp ++ d) ++ (sp ++ e) ++ (sp ++ f) ++ (sp ++ g) ++ (sp ++ h) ++ (sp ++ i) ++ (sp ++ j) := by
  apply bytes_of
  simp only [ByteArray.data_append, Array.toList_append]
  show (Lib.join ([a, b, c, d, e, f, g, h, i, j].map (·.data.toList)) sp.data.toList).toArray.toList = _
  rw [List.toList_toArray, List.map_cons, Lib.join_cons]
  unfold Lib.joinTail
  simp
theorem join1 (a : ByteArray) : joinL [a] sp = a := by
  apply bytes_of
  show (Lib.join ([a].map (·.data.toList)) sp.data.toList).toArray.toList = _
  rw [List.toList_toArray, List.map_cons, Lib.join_cons]
  unfold Lib.joinTail
  simp
/-- the numbers' sizes -/
structure Sizes (a : Ask) : Prop where
  n0 : (numeral (kAt a)).size ≤ 21
  n1 : (numeral (kRide a).2.2.2.2.1).size ≤ 21
  n2 : (numeral (kRide a).2.2.2.2.2.1).size ≤ 21
  n3 : (numeral (kRide a).2.2.2.2.2.2.1).size ≤ 21
  n4 : (numeral (kRide a).2.2.2.2.2.2.2.1).size ≤ 21
  w : (wordOf a).size ≤ 6
theorem sizes_of {a : Ask} (o : AskOK a) : Sizes a := by
  obtain ⟨t0, t1, k1, k4, ⟨_, _, _, _, a0, a1, b0, b1, c0, c1, d0, d1⟩⟩ := o
  exact ⟨(numeral_size _ (by omega) (by omega)).2, (numeral_size _ (by omega) (by omega)).2, (numeral_size _ (by omega) (by omega)).2, (numeral_size _ (by omega) (by omega)).2, (numeral_size _ (by omega) (by omega)).2, (word_facts k1 k4).2.2.2.2⟩
theorem join_size {a : Ask} (o : AskOK a) : (joinL (wordsOf a) sp).size ≤ 300 := by
  obtain ⟨n0, n1, n2, n3, n4, w⟩ := sizes_of o
  obtain ⟨_, _, _, _, ⟨k0, k1, k2, k3, _, _, _, _, _, _, _, _⟩⟩ := o
  have hs : sp.size = 1 := rfl
  unfold wordsOf long short
  cases decide (kKind a ≤ 2)
  · simp only [cond_false, join4, ByteArray.size_append, hs]
    omega
  · simp only [cond_true, List.cons_append, List.nil_append, join10, ByteArray.size_append, hs]
    omega
theorem line_size {a : Ask} (o : AskOK a) : (lineOf a).size ≤ 301 := by
  have := join_size o
  have hn : nl.size = 1 := rfl
  unfold lineOf
  rw [ByteArray.size_append, hn]
  omega
theorem in_of {n : Int} (h0 : -9223372036854775808 ≤ n) (h1 : n ≤ 345686400000) : inI n = true := by
  unfold inI
  simp only [Bool.and_eq_true, decide_eq_true_eq]
  omega
theorem kinds_two {n : Int} (h : 1 ≤ n) : ((n == 1) = true ∧ decide (n ≤ 2) = true) ∨ ((n == 1) = false ∧ (n == 2) = decide (n ≤ 2)) := by
  by_cases h1 : n = 1
  · subst h1; exact .inl ⟨rfl, rfl⟩
  · right
    refine ⟨by simpa using h1, ?_⟩
    by_cases h2 : n = 2
    · subst h2; rfl
    · rw [show decide (n ≤ 2) = false from decide_eq_false (by omega)]
      simpa using h2
/-! ### Text -/
def s9 (l : List Ask) : Option (ByteArray × Int × Unit) := some (s8 (bif asksFault l != 0 then (ByteArray.mk #[]) else linesOf l) (asksFault l))
theorem e42 {ws : List ByteArray} (h1 : ws.length ≤ 10) (h2 : (joinL ws sp).size ≤ 300) : s42 ws (ByteArray.mk #[32]) = some (joinL ws sp, ()) := by
  unfold s42
  rw [if_pos ⟨by omega, Nat.le_trans h2 (by decide)⟩]
theorem h9 (l : List Ask) (y : ByteArray × Int × Unit) (hw : WFs A9 (l, ())) (h : s9 l = some y) : ∃ k, f9 s38 s39 s40 s42 k l = some y := by
  unfold s9 at h
  cases h
  clear hw
  refine ⟨4000, ?_⟩
  unfold f9 s38
  by_cases hF : asksFault l = 0
  rotate_left
  · have e : (asksFault l != 0) = true := by simpa using hF
    unfold s8
    rw [e]
    rfl
  have e : (asksFault l != 0) = false := by simpa using hF
  obtain ⟨hlen, hok⟩ := asks_OK hF
  rw [e]
  simp only [cond_false]
  rw [iter_fold (s0 := (((0 : Int), ()), zAT3)) l (fun i (b : ByteArray) => (((i : Int), ()), ((b, ()), ()))) (fun t b => b ++ lineOf t) (fun b => .inr ((), ((b, ()), ()))) (fun j b => b.size ≤ 301 * j) (ByteArray.mk #[]) (Nat.le_refl _) rfl (by omega) ?hJ ?h1 ?h2]
  · simp only [Option.bind_some]
    show (bif decide (((linesOf l).size : Int) > 200000) then _ else _) = _
    unfold s8
    rw [hF]
    cases decide (((linesOf l).size : Int) > 200000) <;> rfl
  case hJ =>
    intro j t b hx hb
    have := line_size (hok t (List.mem_of_getElem? hx))
    rw [ByteArray.size_append]
    omega
  case h2 => intro b _; simp
  case h1 =>
    intro j t b hx hb
    have hj := (List.getElem?_eq_some_iff.1 hx).1
    have o := hok t (List.mem_of_getElem? hx)
    have hjs := join_size o
    obtain ⟨t0, t1, k1, k4, ⟨_, _, _, _, a0, a1, b0, b1, c0, c1, d0, d1⟩⟩ := o
    obtain ⟨_, _, w3, w4, _⟩ := word_facts k1 k4
    have hnl : nl.size = 1 := rfl
    have i0 := s107_in (in_of (n := kAt t) (by omega) (by omega))
    have i1 := s107_in (in_of (n := (kRide t).2.2.2.2.1) (by omega) (by omega))
    have i2 := s107_in (in_of (n := (kRide t).2.2.2.2.2.1) (by omega) (by omega))
    have i3 := s107_in (in_of (n := (kRide t).2.2.2.2.2.2.1) (by omega) (by omega))
    have i4 := s107_in (in_of (n := (kRide t).2.2.2.2.2.2.2.1) (by omega) (by omega))
    simp only [lt_at hx, inR_at hx, rd_at hx, wrap_succ hx (by omega), cond_true, i0, i1, i2, i3, i4, Option.bind_some, w3, w4]
    have hin : ∀ ws : List ByteArray, ws = wordsOf t → ws.length ≤ 10 → (Option.bind (s42 ws (ByteArray.mk #[32])) fun v8 =>
        bif decide (ByteArray.size v8.1 + ByteArray.size (ByteArray.mk #[10]) < 4611686018427387904) then
          bif decide (ByteArray.size b + ByteArray.size (v8.1 ++ (ByteArray.mk #[10])) ≤ 4294967296) then
            (some (.inl (((((j + 1 : Nat) : Int)), ()), (((b ++ (v8.1 ++ (ByteArray.mk #[10]))), ()), ()))) : Option (((Int × Unit) × AT3) ⊕ (AT1 ⊕ (Unit × AT3))))
          else none
        else none) = some (.inl ((((j + 1 : Nat) : Int), ()), ((b ++ lineOf t, ()), ()))) := fun ws hws hl => by
      subst hws
      rw [e42 hl hjs]
      have c1 : decide ((joinL (wordsOf t) sp).size + (ByteArray.mk #[10]).size < 4611686018427387904) = true := decide_eq_true (by rw [show (ByteArray.mk #[10]).size = 1 from rfl]; omega)
      have c2 : decide (b.size + (joinL (wordsOf t) sp ++ ByteArray.mk #[10]).size ≤ 4294967296) = true := decide_eq_true (by rw [ByteArray.size_append, show (ByteArray.mk #[10]).size = 1 from rfl]; omega)
      simp only [Option.bind_some, c1, c2, cond_true]
      rfl
    cases hd : decide (kKind t ≤ 2)
    · simp only [hd, cond_false, Option.bind_some]
      exact hin _ (by unfold wordsOf; rw [hd]; rfl) (by simp)
    · simp only [hd, cond_true, Option.bind_some]
      exact hin _ (by unfold wordsOf; rw [hd]; rfl) (by simp)
end Go.Vm
