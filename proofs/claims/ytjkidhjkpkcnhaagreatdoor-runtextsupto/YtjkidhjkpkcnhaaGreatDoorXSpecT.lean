/- RunTexts: trips, written. Own work. -/
import Derived.Test.YtjkidhjkpkcnhaaGreatDoorXSpecC
import Derived.Lib.Join
set_option maxRecDepth 100000
set_option linter.unusedVariables false
set_option linter.unusedSimpArgs false
namespace Go.Vm
open Go.RowKit
theorem runs_both : ∀ (l : List Run) (j : Nat) (p : Option Run), out1 (scan (fun _ => runB) (fun _ => .inr ((), ())) l j p) = 0 → ∀ t ∈ l, key t.1 = true ∧ runBad t = false
  | [], _, _, _, t, ht => by cases ht
  | x :: l, j, p, h, t, ht => by
    simp only [scan] at h
    have hx : key x.1 = true ∧ runBad x = false ∧ ∃ p', runB x p = .inl p' := by
      unfold runB at h ⊢
      cases hk : key x.1
      · rw [hk] at h; simp [out1] at h
      · cases hb : runBad x
        · rw [hk, hb] at h
          refine ⟨rfl, rfl, ?_⟩
          simp only [Bool.not_true, cond_false] at h ⊢
          cases p with
          | none => exact ⟨_, rfl⟩
          | some o =>
            simp only at h ⊢
            cases h1 : sLt x.1 o.1
            · cases h2 : sEq x.1 o.1
              · exact ⟨_, rfl⟩
              · cases h3 : decide (x.2.1.1 < o.2.1.2.1)
                · exact ⟨_, rfl⟩
                · rw [h1, h2, h3] at h; simp [out1] at h
            · rw [h1] at h; simp [out1] at h
        · rw [hk, hb] at h; simp [out1] at h
    obtain ⟨h1, h2, p', h3⟩ := hx
    rw [h3] at h
    rcases List.mem_cons.1 ht with rfl | ht
    · exact ⟨h1, h2⟩
    · exact runs_both l (j + 1) p' h t ht
/-- what is known of a right trip -/
structure RunOK (t : Run) : Prop where
  size : t.1.size ≤ 40
  a0 : 0 ≤ t.2.1.1
  a1 : t.2.1.1 ≤ 345686400000
  b0 : 0 ≤ t.2.1.2.1
  b1 : t.2.1.2.1 ≤ 345686400000
  c0 : 0 ≤ t.2.2.1
  c1 : t.2.2.1 ≤ 1000000000
  d0 : 0 ≤ t.2.2.2.1
  d1 : t.2.2.2.1 ≤ 1000000
theorem runOK_of {t : Run} (h1 : key t.1 = true) (h2 : runBad t = false) : RunOK t := by
  unfold key keyL at h1
  simp only [Bool.and_eq_true, decide_eq_true_eq] at h1
  have hs := size_list t.1
  unfold runBad at h2
  simp only [Bool.or_eq_false_iff, decide_eq_false_iff_not] at h2
  have c := out_false h2.2.2.2.1
  have d := out_false h2.2.2.2.2
  exact ⟨by omega, by omega, by omega, by omega, by omega, c.1, c.2, d.1, d.2⟩
theorem runs_OK {l : List Run} (h : runsFault l = 0) : l.length ≤ 1000 ∧ ∀ t ∈ l, RunOK t := by
  unfold runsFault at h
  split at h
  · cases h
  · rename_i hn
    exact ⟨by omega, fun t ht => by obtain ⟨h1, h2⟩ := runs_both l 0 none h t ht; exact runOK_of h1 h2⟩
theorem numeral_size (n : Int) (h0 : -9223372036854775808 ≤ n) (h1 : n ≤ 9223372036854775807) : 1 ≤ (numeral n).size ∧ (numeral n).size ≤ 21 := by
  have h2 := Lib.itoa_length_le n h0 h1
  have e : (numeral n).size = (Lib.itoa n).length := by show (Lib.itoa n).toArray.size = _; rw [List.size_toArray]
  rw [e]
  refine ⟨?_, Nat.le_trans h2 (by omega)⟩
  unfold Lib.itoa
  split
  · simp
  · rw [Lib.decDigits_length]; exact Lib.nDigits_pos _
abbrev sp : ByteArray := ByteArray.mk #[32]
abbrev nl : ByteArray := ByteArray.mk #[10]
/-! ### numbers -/
def inI (n : Int) : Bool := decide (-9223372036854775808 ≤ n) && decide (n ≤ 9223372036854775807)
def s105 (l : List Int) : Option (ByteArray × Unit) :=
  if l.length ≤ 4294967296 ∧ l.all inI = true ∧ (joinL (l.map numeral) sp).size ≤ 140737488355328 then some (joinL (l.map numeral) sp, ()) else none
theorem foldl_map {α β : Type} (g : α → β) : ∀ (l : List α) (b : List β), l.foldl (fun b x => b ++ [g x]) b = b ++ l.map g
  | [], b => by simp
  | x :: l, b => by rw [List.foldl_cons, foldl_map g l, List.map_cons]; simp
theorem s107_in {n : Int} (h : inI n = true) : s107 n = some (numeral n, ()) := by
  unfold inI at h
  simp only [Bool.and_eq_true, decide_eq_true_eq] at h
  unfold s107 s155
  rw [if_pos h]
theorem h105 (l : List Int) (y : ByteArray × Unit) (hw : WFs A105 (l, ())) (h : s105 l = some y) : ∃ k, f105 s107 s120 k l = some y := by
  unfold s105 at h
  split at h
  rotate_left
  · cases h
  rename_i hn
  cases h
  clear hw
  refine ⟨l.length + 1, ?_⟩
  unfold f105
  rw [iter_fold (s0 := (([], (0 : Int), ()), ())) l (fun i (b : List ByteArray) => ((b, (i : Int), ()), ())) (fun x b => b ++ [numeral x]) (fun b => .inr ((b, ()), ())) (fun j b => b.length ≤ j) [] (Nat.le_refl _) rfl (by omega) ?hJ ?h1 ?h2]
  · simp only [Option.bind_some]
    rw [foldl_map, List.nil_append]
    unfold s120
    rw [if_pos ⟨by rw [List.length_map]; omega, hn.2.2⟩]
    rfl
  case hJ =>
    intro j x b hx hb
    simp only [List.length_append, List.length_singleton]
    omega
  case h2 => intro b _; simp
  case h1 =>
    intro j x b hx hb
    have hj := (List.getElem?_eq_some_iff.1 hx).1
    have e := s107_in (List.all_eq_true.1 hn.2.1 x (List.mem_of_getElem? hx))
    have e5 : decide (b.length + [numeral x].length ≤ 4294967296) = true := decide_eq_true (by rw [List.length_singleton]; omega)
    simp only [lt_at hx, inR_at hx, rd_at hx, wrap_succ hx (by omega), cond_true, e, Option.bind_some, e5]
/-! ### lines -/
def nums (t : Run) : List Int := [t.2.1.1, t.2.1.2.1, t.2.2.1, t.2.2.2.1]
def lineOf (t : Run) : ByteArray := ((t.1 ++ sp) ++ joinL ((nums t).map numeral) sp) ++ nl
def linesOf (l : List Run) : ByteArray := l.foldl (fun b t => b ++ lineOf t) (ByteArray.mk #[])
theorem join4 (a b c d : ByteArray) : joinL [a, b, c, d] sp = a ++ (sp ++ b) ++ (sp ++ c) ++ (sp ++ d) := by
  apply bytes_of
  simp only [ByteArray.data_append, Array.toList_append]
  show (Lib.join ([a, b, c, d].map (·.data.toList)) sp.data.toList).toArray.toList = _
  rw [List.toList_toArray, List.map_cons, Lib.join_cons]
  unfold Lib.joinTail
  simp
theorem RunOK.inI {t : Run} (o : RunOK t) : (nums t).all inI = true := by
  have := o.a0; have := o.a1; have := o.b0; have := o.b1; have := o.c0; have := o.c1; have := o.d0; have := o.d1
  unfold nums Vm.inI
  simp only [List.all_cons, List.all_nil, Bool.and_true, Bool.and_eq_true, decide_eq_true_eq]
  omega
theorem join_size {t : Run} (o : RunOK t) : (joinL ((nums t).map numeral) sp).size ≤ 87 := by
  have := o.a0; have := o.a1; have := o.b0; have := o.b1; have := o.c0; have := o.c1; have := o.d0; have := o.d1
  have n1 := numeral_size t.2.1.1 (by omega) (by omega)
  have n2 := numeral_size t.2.1.2.1 (by omega) (by omega)
  have n3 := numeral_size t.2.2.1 (by omega) (by omega)
  have n4 := numeral_size t.2.2.2.1 (by omega) (by omega)
  unfold nums
  simp only [List.map_cons, List.map_nil]
  rw [join4]
  have hs : sp.size = 1 := rfl
  simp only [ByteArray.size_append, hs]
  omega
theorem line_size {t : Run} (o : RunOK t) : (lineOf t).size ≤ 129 := by
  have := join_size o
  have := o.size
  have hs : sp.size = 1 := rfl
  have hn : nl.size = 1 := rfl
  unfold lineOf
  simp only [ByteArray.size_append, hs, hn]
  omega
def allOK (l : List Run) : Prop := l.length ≤ 1000 ∧ ∀ t ∈ l, RunOK t
open Classical in
noncomputable def s47 (l : List Run) : Option (ByteArray × Unit) := if allOK l then some (linesOf l, ()) else none
theorem h47 (l : List Run) (y : ByteArray × Unit) (hw : WFs A47 (l, ())) (h : s47 l = some y) : ∃ k, f47 s105 k l = some y := by
  unfold s47 at h
  split at h
  rotate_left
  · cases h
  rename_i hn
  cases h
  clear hw
  refine ⟨l.length + 1, ?_⟩
  unfold f47
  have hlen := hn.1
  rw [iter_fold (s0 := (((ByteArray.mk #[]), (0 : Int), ()), ())) l (fun i (b : ByteArray) => ((b, (i : Int), ()), ())) (fun t b => b ++ lineOf t) (fun b => .inr ((b, ()), ())) (fun j b => b.size ≤ 129 * j) (ByteArray.mk #[]) (Nat.le_refl _) rfl (by omega) ?hJ ?h1 ?h2]
  · rfl
  case hJ =>
    intro j t b hx hb
    have := line_size (hn.2 t (List.mem_of_getElem? hx))
    rw [ByteArray.size_append]
    omega
  case h2 => intro b _; simp
  case h1 =>
    intro j t b hx hb
    have hj := (List.getElem?_eq_some_iff.1 hx).1
    have o := hn.2 t (List.mem_of_getElem? hx)
    have j1 := join_size o
    have j2 := line_size o
    have j3 := o.size
    have hs : sp.size = 1 := rfl
    have hnl : nl.size = 1 := rfl
    have e105 : s105 [t.2.1.1, t.2.1.2.1, t.2.2.1, t.2.2.2.1] = some (joinL ((nums t).map numeral) sp, ()) := by
      show s105 (nums t) = _
      unfold s105
      rw [if_pos ⟨by unfold nums; simp, o.inI, by omega⟩]
    have c1 : decide (t.1.size + sp.size < 4611686018427387904) = true := decide_eq_true (by rw [hs]; omega)
    have c2 : decide ((t.1 ++ sp).size + (joinL ((nums t).map numeral) sp).size < 4611686018427387904) = true := decide_eq_true (by rw [ByteArray.size_append, hs]; omega)
    have c3 : decide (((t.1 ++ sp) ++ joinL ((nums t).map numeral) sp).size + nl.size < 4611686018427387904) = true := decide_eq_true (by rw [ByteArray.size_append, ByteArray.size_append, hs, hnl]; omega)
    have c4 : decide (b.size + (((t.1 ++ sp) ++ joinL ((nums t).map numeral) sp) ++ nl).size < 4611686018427387904) = true := decide_eq_true (by
      have : (((t.1 ++ sp) ++ joinL ((nums t).map numeral) sp) ++ nl).size ≤ 129 := j2
      omega)
    simp only [lt_at hx, inR_at hx, rd_at hx, wrap_succ hx (by omega), cond_true, e105, Option.bind_some, c1, c2, c3, c4]
    rfl
def s48 (x : ByteArray) (e : Int) : ByteArray × Int × Unit :=
  bif e != 0 then ((ByteArray.mk #[]), e, ()) else bif decide (((x.size : Nat) : Int) > (200000 : Int)) then ((ByteArray.mk #[]), 2, ()) else (x, 0, ())
theorem h48 (x : ByteArray) (e : Int) (hw : WFs A48 (x, e, ())) : ∃ k, f48 k x e = some (s48 x e) := ⟨0, by
  unfold f48 s48
  cases e != 0
  · simp only [cond_false]
    cases decide (((x.size : Nat) : Int) > (200000 : Int)) <;> rfl
  · rfl⟩
/-! ### Text -/
def s49 (l : List Run) : Option (ByteArray × Int × Unit) := some (s48 (bif runsFault l != 0 then (ByteArray.mk #[]) else linesOf l) (runsFault l))
theorem write_line {t : Run} (b : ByteArray) : ((nums t).foldl (fun y n => y ++ (sp ++ numeral n)) (b ++ t.1)) ++ nl = b ++ lineOf t := by
  unfold lineOf nums
  simp only [List.map_cons, List.map_nil]
  rw [join4]
  apply bytes_of
  simp only [List.foldl_cons, List.foldl_nil, ByteArray.data_append, Array.toList_append, List.append_assoc]
theorem h49 (l : List Run) (y : ByteArray × Int × Unit) (hw : WFs A49 (l, ())) (h : s49 l = some y) : ∃ k, f49 s85 s107 k l = some y := by
  unfold s49 at h
  cases h
  clear hw
  refine ⟨2000, ?_⟩
  unfold f49 s85
  by_cases hF : runsFault l = 0
  rotate_left
  · have e : (runsFault l != 0) = true := by simpa using hF
    unfold s48
    rw [e]
    rfl
  have e : (runsFault l != 0) = false := by simpa using hF
  obtain ⟨hlen, hok⟩ := runs_OK hF
  rw [e]
  simp only [cond_false]
  rw [iter_fold (s0 := (((0 : Int), ()), ((ByteArray.empty, ()), ()))) l (fun i (b : ByteArray) => (((i : Int), ()), ((b, ()), ()))) (fun t b => b ++ lineOf t) (fun b => .inr ((), ((b, ()), ()))) (fun j b => b.size ≤ 129 * j) (ByteArray.mk #[]) (Nat.le_refl _) rfl (by omega) ?hJ ?h1 ?h2]
  · simp only [Option.bind_some]
    show (bif decide (((linesOf l).size : Int) > 200000) then _ else _) = _
    unfold s48
    rw [hF]
    cases decide (((linesOf l).size : Int) > 200000) <;> rfl
  case hJ =>
    intro j t b hx hb
    have := line_size (hok t (List.mem_of_getElem? hx))
    rw [ByteArray.size_append]
    omega
  case h2 => intro b _; simp
  case h1 =>
    intro j t b hx hb
    have hj := (List.getElem?_eq_some_iff.1 hx).1
    have o := hok t (List.mem_of_getElem? hx)
    have j2 := line_size o
    have j3 := o.size
    have hs : sp.size = 1 := rfl
    have hnl : nl.size = 1 := rfl
    have c1 : decide (b.size + t.1.size ≤ 4294967296) = true := decide_eq_true (by omega)
    simp only [lt_at hx, inR_at hx, rd_at hx, wrap_succ hx (by omega), cond_true, c1]
    rw [iter_fold (s0 := (((0 : Int), ()), (((b ++ t.1), ()), ()))) (nums t) (fun i (b : ByteArray) => (((i : Int), ()), ((b, ()), ()))) (fun n b => b ++ (sp ++ numeral n)) (fun b => .inr ((), ((b, ()), ()))) (fun i b => b.size ≤ 200000 + 100 * i) (b ++ t.1) (by rw [ByteArray.size_append]; omega) rfl (by unfold nums; simp) ?gJ ?g1 ?g2]
    · simp only [Option.bind_some]
      have hw := write_line (t := t) b
      generalize (nums t).foldl (fun y n => y ++ (sp ++ numeral n)) (b ++ t.1) = z at hw ⊢
      have c2 : decide (z.size + nl.size ≤ 4294967296) = true := decide_eq_true (by
        have : (z ++ nl).size ≤ 129 * j + 129 := by rw [hw, ByteArray.size_append]; omega
        rw [ByteArray.size_append] at this
        omega)
      simp only [c2, cond_true]
      rw [hw]
    case gJ =>
      intro i n z hn hz
      have hin := List.all_eq_true.1 o.inI n (List.mem_of_getElem? hn)
      unfold inI at hin
      simp only [Bool.and_eq_true, decide_eq_true_eq] at hin
      have := numeral_size n hin.1 hin.2
      simp only [ByteArray.size_append, hs]
      omega
    case g2 =>
      intro z _
      have : decide ((((nums t).length : Nat) : Int) < (((nums t).length : Nat) : Int)) = false := by simp
      show (bif decide ((((nums t).length : Nat) : Int) < (((nums t).length : Nat) : Int)) then _ else _) = _
      rw [this]
      rfl
    case g1 =>
      intro i n z hn hz
      have hi := (List.getElem?_eq_some_iff.1 hn).1
      have hi4 : i < 4 := hi
      have hin := List.all_eq_true.1 o.inI n (List.mem_of_getElem? hn)
      have e107 := s107_in hin
      unfold inI at hin
      simp only [Bool.and_eq_true, decide_eq_true_eq] at hin
      have hns := numeral_size n hin.1 hin.2
      have c3 : decide (sp.size + (numeral n).size < 4611686018427387904) = true := decide_eq_true (by rw [hs]; omega)
      have c4 : decide (z.size + (sp ++ numeral n).size ≤ 4294967296) = true := decide_eq_true (by rw [ByteArray.size_append, hs]; omega)
      show (bif decide ((i : Int) < ((nums t).length : Int)) then bif inR (i : Int) ((nums t).length : Int) then bif inR (i : Int) ((nums t).length : Int) then Option.bind (s107 (rd (α := Int) (0 : Int) (nums t) (i : Int))) _ else _ else _ else _) = _
      simp only [lt_at hn, inR_at hn, rd_at hn, wrap_succ hn (by unfold nums; simp), cond_true, e107, Option.bind_some, c3, c4]
end Go.Vm
