/- RatingTexts: ratings, written. Own work. -/
import Derived.Test.YtjkidhjkpkcnhaaGreatDoorZSpecD
set_option maxRecDepth 100000
set_option linter.unusedVariables false
set_option linter.unusedSimpArgs false
namespace Go.Vm
open Go.RowKit
/-- what is known of a right rating -/
structure RtOK (t : Rt) : Prop where
  k0 : t.1.size ≤ 40
  k1 : t.2.1.size ≤ 40
  k2 : t.2.2.1.size ≤ 40
  a0 : 1 ≤ t.2.2.2.1
  a1 : t.2.2.2.1 ≤ 5
  b0 : 0 ≤ t.2.2.2.2.1
  b1 : t.2.2.2.2.1 < 345686400000
theorem key_40 {s : ByteArray} (h : key s = true) : s.size ≤ 40 := by
  unfold key keyL at h
  simp only [Bool.and_eq_true, decide_eq_true_eq] at h
  have := size_list s
  omega
theorem rtOK_of {t : Rt} (h : rgFault t = 0) : RtOK t := by
  have hf := fine_of h
  unfold rgFault at h
  cases h1 : key (rFrom t)
  · rw [h1] at h; cases h
  cases h2 : key (rTo t)
  · rw [h1, h2] at h; cases h
  cases h3 : key (rRide t)
  · rw [h1, h2, h3] at h; cases h
  exact ⟨key_40 h1, key_40 h2, key_40 h3, hf.stars.1, hf.stars.2, hf.timed.1, hf.timed.2⟩
def allOK (l : List Rt) : Prop := l.length ≤ 3000 ∧ ∀ t ∈ l, RtOK t
theorem rts_OK {l : List Rt} (h : rFaults l = 0) : allOK l := ⟨faults_len h, fun t ht => rtOK_of (faults_each h t ht)⟩
def lineOf (t : Rt) : ByteArray := joinL [t.1, t.2.1, t.2.2.1, joinL [numeral t.2.2.2.1, numeral t.2.2.2.2.1] sp] sp ++ nl
def linesOf (l : List Rt) : ByteArray := l.foldl (fun b t => b ++ lineOf t) (ByteArray.mk #[])
theorem join2 (a b : ByteArray) : joinL [a, b] sp = a ++ (sp ++ b) := by
  apply bytes_of
  simp only [ByteArray.data_append, Array.toList_append]
  show (Lib.join ([a, b].map (·.data.toList)) sp.data.toList).toArray.toList = _
  rw [List.toList_toArray, List.map_cons, Lib.join_cons]
  unfold Lib.joinTail
  simp
theorem line_eq (t : Rt) : lineOf t = ((((((((t.1 ++ sp) ++ t.2.1) ++ sp) ++ t.2.2.1) ++ sp) ++ numeral t.2.2.2.1) ++ sp) ++ numeral t.2.2.2.2.1) ++ nl := by
  unfold lineOf
  rw [join2, join4]
  apply bytes_of
  simp only [ByteArray.data_append, Array.toList_append, List.append_assoc]
theorem nums_size {t : Rt} (o : RtOK t) : (numeral t.2.2.2.1).size ≤ 21 ∧ (numeral t.2.2.2.2.1).size ≤ 21 := by
  have := o.a0; have := o.a1; have := o.b0; have := o.b1
  exact ⟨(numeral_size t.2.2.2.1 (by omega) (by omega)).2, (numeral_size t.2.2.2.2.1 (by omega) (by omega)).2⟩
theorem line_size {t : Rt} (o : RtOK t) : (lineOf t).size ≤ 170 := by
  have := nums_size o
  have := o.k0; have := o.k1; have := o.k2
  have hs : sp.size = 1 := rfl
  have hn : nl.size = 1 := rfl
  rw [line_eq]
  simp only [ByteArray.size_append, hs, hn]
  omega
theorem in_stars {t : Rt} (o : RtOK t) : inI t.2.2.2.1 = true := by
  have := o.a0; have := o.a1
  unfold inI
  simp only [Bool.and_eq_true, decide_eq_true_eq]
  omega
theorem in_at {t : Rt} (o : RtOK t) : inI t.2.2.2.2.1 = true := by
  have := o.b0; have := o.b1
  unfold inI
  simp only [Bool.and_eq_true, decide_eq_true_eq]
  omega
open Classical in
noncomputable def s54 (l : List Rt) : Option (ByteArray × Unit) := if allOK l then some (linesOf l, ()) else none
theorem h54 (l : List Rt) (y : ByteArray × Unit) (hw : WFs A54 (l, ())) (h : s54 l = some y) : ∃ k, f54 s105 s120 k l = some y := by
  unfold s54 at h
  split at h
  rotate_left
  · cases h
  rename_i hn
  cases h
  clear hw
  refine ⟨l.length + 1, ?_⟩
  unfold f54
  have hlen := hn.1
  rw [iter_fold (s0 := (((ByteArray.mk #[]), (0 : Int), ()), ())) l (fun i (b : ByteArray) => ((b, (i : Int), ()), ())) (fun t b => b ++ lineOf t) (fun b => .inr ((b, ()), ())) (fun j b => b.size ≤ 170 * j) (ByteArray.mk #[]) (Nat.le_refl _) rfl (by omega) ?hJ ?h1 ?h2]
  · rfl
  case hJ =>
    intro j t b hx hb
    have := line_size (hn.2 t (List.mem_of_getElem? hx))
    rw [ByteArray.size_append]
    omega
  case h2 => intro b _; simp
  case h1 =>
    intro j t b hx hb
    have hj := (List.getElem?_eq_some_iff.1 hx).1
    have o := hn.2 t (List.mem_of_getElem? hx)
    have j1 := nums_size o
    have j2 := line_size o
    have hs : sp.size = 1 := rfl
    have hnl : nl.size = 1 := rfl
    have e2 : (joinL [numeral t.2.2.2.1, numeral t.2.2.2.2.1] sp).size ≤ 43 := by
      rw [join2]
      simp only [ByteArray.size_append, hs]
      omega
    have e105 : s105 [t.2.2.2.1, t.2.2.2.2.1] = some (joinL [numeral t.2.2.2.1, numeral t.2.2.2.2.1] sp, ()) := by
      unfold s105
      rw [if_pos ⟨by simp, by simp only [List.all_cons, List.all_nil, in_stars o, in_at o, Bool.and_self], by simp only [List.map_cons, List.map_nil]; omega⟩]
      rfl
    have j3 : (joinL [t.1, t.2.1, t.2.2.1, joinL [numeral t.2.2.2.1, numeral t.2.2.2.2.1] sp] sp).size ≤ 170 := by
      unfold lineOf at j2
      rw [ByteArray.size_append] at j2
      omega
    have e120 : s120 [t.1, t.2.1, t.2.2.1, joinL [numeral t.2.2.2.1, numeral t.2.2.2.2.1] sp] (ByteArray.mk #[32]) = some (joinL [t.1, t.2.1, t.2.2.1, joinL [numeral t.2.2.2.1, numeral t.2.2.2.2.1] sp] sp, ()) := by
      unfold s120
      rw [if_pos ⟨by simp, by show (joinL [t.1, t.2.1, t.2.2.1, joinL [numeral t.2.2.2.1, numeral t.2.2.2.2.1] sp] sp).size ≤ _; omega⟩]
    have c3 : decide ((joinL [t.1, t.2.1, t.2.2.1, joinL [numeral t.2.2.2.1, numeral t.2.2.2.2.1] sp] sp).size + nl.size < 4611686018427387904) = true := decide_eq_true (by rw [hnl]; omega)
    have c4 : decide (b.size + (joinL [t.1, t.2.1, t.2.2.1, joinL [numeral t.2.2.2.1, numeral t.2.2.2.2.1] sp] sp ++ nl).size < 4611686018427387904) = true := decide_eq_true (by
      have : (joinL [t.1, t.2.1, t.2.2.1, joinL [numeral t.2.2.2.1, numeral t.2.2.2.2.1] sp] sp ++ nl).size ≤ 170 := j2
      omega)
    simp only [lt_at hx, inR_at hx, rd_at hx, wrap_succ hx (by omega), cond_true, e105, Option.bind_some, e120, c3, c4]
    rfl
/-! ### Text -/
def s55 (l : List Rt) : Option (ByteArray × Int × Unit) := some (s48 (bif rFaults l != 0 then (ByteArray.mk #[]) else linesOf l) (rFaults l))
theorem h55 (l : List Rt) (y : ByteArray × Int × Unit) (hw : WFs A55 (l, ())) (h : s55 l = some y) : ∃ k, f55 s107 s121 k l = some y := by
  unfold s55 at h
  cases h
  clear hw
  refine ⟨4000, ?_⟩
  unfold f55 s121
  by_cases hF : rFaults l = 0
  rotate_left
  · have e : (rFaults l != 0) = true := by simpa using hF
    unfold s48
    rw [e]
    rfl
  have e : (rFaults l != 0) = false := by simpa using hF
  obtain ⟨hlen, hok⟩ := rts_OK hF
  rw [e]
  simp only [cond_false]
  rw [iter_fold (s0 := (((0 : Int), ()), ((ByteArray.empty, ()), ()))) l (fun i (b : ByteArray) => (((i : Int), ()), ((b, ()), ()))) (fun t b => b ++ lineOf t) (fun b => .inr ((), ((b, ()), ()))) (fun j b => b.size ≤ 170 * j) (ByteArray.mk #[]) (Nat.le_refl _) rfl (by omega) ?hJ ?h1 ?h2]
  · simp only [Option.bind_some]
    show (bif decide (((linesOf l).size : Int) > 200000) then _ else _) = _
    unfold s48
    rw [hF]
    cases decide (((linesOf l).size : Int) > 200000) <;> rfl
  case hJ =>
    intro j t b hx hb
    have := line_size (hok t (List.mem_of_getElem? hx))
    rw [ByteArray.size_append]
    omega
  case h2 => intro b _; simp
  case h1 =>
    intro j t b hx hb
    have hj := (List.getElem?_eq_some_iff.1 hx).1
    have o := hok t (List.mem_of_getElem? hx)
    have j1 := nums_size o
    have j2 := line_size o
    have k0 := o.k0
    have k1 := o.k1
    have k2 := o.k2
    have hs : sp.size = 1 := rfl
    have hnl : nl.size = 1 := rfl
    have c1 : decide (t.1.size + sp.size < 4611686018427387904) = true := decide_eq_true (by rw [hs]; omega)
    have c2 : decide ((t.1 ++ sp).size + t.2.1.size < 4611686018427387904) = true := decide_eq_true (by simp only [ByteArray.size_append, hs]; omega)
    have c3 : decide (((t.1 ++ sp) ++ t.2.1).size + sp.size < 4611686018427387904) = true := decide_eq_true (by simp only [ByteArray.size_append, hs]; omega)
    have c4 : decide ((((t.1 ++ sp) ++ t.2.1) ++ sp).size + t.2.2.1.size < 4611686018427387904) = true := decide_eq_true (by simp only [ByteArray.size_append, hs]; omega)
    have c5 : decide (((((t.1 ++ sp) ++ t.2.1) ++ sp) ++ t.2.2.1).size + sp.size < 4611686018427387904) = true := decide_eq_true (by simp only [ByteArray.size_append, hs]; omega)
    have c6 : decide ((((((t.1 ++ sp) ++ t.2.1) ++ sp) ++ t.2.2.1) ++ sp).size + (numeral t.2.2.2.1).size < 4611686018427387904) = true := decide_eq_true (by simp only [ByteArray.size_append, hs]; omega)
    have c7 : decide (((((((t.1 ++ sp) ++ t.2.1) ++ sp) ++ t.2.2.1) ++ sp) ++ numeral t.2.2.2.1).size + sp.size < 4611686018427387904) = true := decide_eq_true (by simp only [ByteArray.size_append, hs]; omega)
    have c8 : decide ((((((((t.1 ++ sp) ++ t.2.1) ++ sp) ++ t.2.2.1) ++ sp) ++ numeral t.2.2.2.1) ++ sp).size + (numeral t.2.2.2.2.1).size < 4611686018427387904) = true := decide_eq_true (by simp only [ByteArray.size_append, hs]; omega)
    have c9 : decide (((((((((t.1 ++ sp) ++ t.2.1) ++ sp) ++ t.2.2.1) ++ sp) ++ numeral t.2.2.2.1) ++ sp) ++ numeral t.2.2.2.2.1).size + nl.size < 4611686018427387904) = true := decide_eq_true (by simp only [ByteArray.size_append, hs, hnl]; omega)
    have c10 : decide (b.size + (((((((((t.1 ++ sp) ++ t.2.1) ++ sp) ++ t.2.2.1) ++ sp) ++ numeral t.2.2.2.1) ++ sp) ++ numeral t.2.2.2.2.1) ++ nl).size ≤ 4294967296) = true := decide_eq_true (by
      rw [← line_eq]
      omega)
    simp only [lt_at hx, inR_at hx, rd_at hx, wrap_succ hx (by omega), cond_true, c1, c2, c3, c4, c5, c6, c7, c8, c9, c10, s107_in (in_stars o), s107_in (in_at o), Option.bind_some, line_eq]
end Go.Vm
