/- RatingTexts: words, numbers, lines (RunTexts, the same seat). Own work. -/
import Derived.Test.YtjkidhjkpkcnhaaGreatDoorZSpecR
import Derived.Test.YtjkidhjkpkcnhaaGreatDoorXSplit
import Derived.Lib.Join
set_option maxRecDepth 100000
set_option linter.unusedVariables false
set_option linter.unusedSimpArgs false
namespace Go.Vm
open Go.RowKit Go.Vm.Num
theorem numeral_size (n : Int) (h0 : -9223372036854775808 ≤ n) (h1 : n ≤ 9223372036854775807) : 1 ≤ (numeral n).size ∧ (numeral n).size ≤ 21 := by
  have h2 := Lib.itoa_length_le n h0 h1
  have e : (numeral n).size = (Lib.itoa n).length := by show (Lib.itoa n).toArray.size = _; rw [List.size_toArray]
  rw [e]
  refine ⟨?_, Nat.le_trans h2 (by omega)⟩
  unfold Lib.itoa
  split
  · simp
  · rw [Lib.decDigits_length]; exact Lib.nDigits_pos _
abbrev sp : ByteArray := ByteArray.mk #[32]
abbrev nl : ByteArray := ByteArray.mk #[10]
def inI (n : Int) : Bool := decide (-9223372036854775808 ≤ n) && decide (n ≤ 9223372036854775807)
def s105 (l : List Int) : Option (ByteArray × Unit) :=
  if l.length ≤ 4294967296 ∧ l.all inI = true ∧ (joinL (l.map numeral) sp).size ≤ 140737488355328 then some (joinL (l.map numeral) sp, ()) else none
theorem foldl_map {α β : Type} (g : α → β) : ∀ (l : List α) (b : List β), l.foldl (fun b x => b ++ [g x]) b = b ++ l.map g
  | [], b => by simp
  | x :: l, b => by rw [List.foldl_cons, foldl_map g l, List.map_cons]; simp
theorem s107_in {n : Int} (h : inI n = true) : s107 n = some (numeral n, ()) := by
  unfold inI at h
  simp only [Bool.and_eq_true, decide_eq_true_eq] at h
  unfold s107 s155
  rw [if_pos h]
theorem h105 (l : List Int) (y : ByteArray × Unit) (hw : WFs A105 (l, ())) (h : s105 l = some y) : ∃ k, f105 s107 s120 k l = some y := by
  unfold s105 at h
  split at h
  rotate_left
  · cases h
  rename_i hn
  cases h
  clear hw
  refine ⟨l.length + 1, ?_⟩
  unfold f105
  rw [iter_fold (s0 := (([], (0 : Int), ()), ())) l (fun i (b : List ByteArray) => ((b, (i : Int), ()), ())) (fun x b => b ++ [numeral x]) (fun b => .inr ((b, ()), ())) (fun j b => b.length ≤ j) [] (Nat.le_refl _) rfl (by omega) ?hJ ?h1 ?h2]
  · simp only [Option.bind_some]
    rw [foldl_map, List.nil_append]
    unfold s120
    rw [if_pos ⟨by rw [List.length_map]; omega, hn.2.2⟩]
    rfl
  case hJ =>
    intro j x b hx hb
    simp only [List.length_append, List.length_singleton]
    omega
  case h2 => intro b _; simp
  case h1 =>
    intro j x b hx hb
    have hj := (List.getElem?_eq_some_iff.1 hx).1
    have e := s107_in (List.all_eq_true.1 hn.2.1 x (List.mem_of_getElem? hx))
    have e5 : decide (b.length + [numeral x].length ≤ 4294967296) = true := decide_eq_true (by rw [List.length_singleton]; omega)
    simp only [lt_at hx, inR_at hx, rd_at hx, wrap_succ hx (by omega), cond_true, e, Option.bind_some, e5]
theorem join4 (a b c d : ByteArray) : joinL [a, b, c, d] sp = a ++ (sp ++ b) ++ (sp ++ c) ++ (sp ++ d) := by
  apply bytes_of
  simp only [ByteArray.data_append, Array.toList_append]
  show (Lib.join ([a, b, c, d].map (·.data.toList)) sp.data.toList).toArray.toList = _
  rw [List.toList_toArray, List.map_cons, Lib.join_cons]
  unfold Lib.joinTail
  simp
def s48 (x : ByteArray) (e : Int) : ByteArray × Int × Unit :=
  bif e != 0 then ((ByteArray.mk #[]), e, ()) else bif decide (((x.size : Nat) : Int) > (200000 : Int)) then ((ByteArray.mk #[]), 2, ()) else (x, 0, ())
theorem h48 (x : ByteArray) (e : Int) (hw : WFs A48 (x, e, ())) : ∃ k, f48 k x e = some (s48 x e) := ⟨0, by
  unfold f48 s48
  cases e != 0
  · simp only [cond_false]
    cases decide (((x.size : Nat) : Int) > (200000 : Int)) <;> rfl
  · rfl⟩
theorem h66 (l : List Int) (hw : WFs A66 (l, ())) : ∃ k, f66 k l = some (s66 l, ()) := by
  simp only [WFs, WF] at hw
  refine ⟨l.length + 1, ?_⟩
  unfold f66
  rw [iter_scan0 (β := Unit) l (fun j _ => (((j : Int), ()), ())) (fun _ x _ => nzBody x) (fun _ => .inr ((), ())) () ?hs ?hk ?h1 ?h2]
  · exact nz_scan l 0
  case hs => rfl
  case hk => exact Nat.lt_succ_self _
  · intro j x b hx
    simp only [lt_at hx, inR_at hx, rd_at hx, wrap_succ hx hw.1.1, cond_true, nzBody]
    cases (x != 0) <;> rfl
  · intro b
    simp
theorem h69 (l : List Int) (hw : WFs A69 (l, ())) : ∃ k, f69 k l = some (s69 l, ()) := by
  simp only [WFs, WF] at hw
  refine ⟨l.length + 1, ?_⟩
  unfold f69
  rw [iter_scan0 (β := Unit) l (fun j _ => (((j : Int), ()), ())) (fun _ x _ => nzBody x) (fun _ => .inr ((), ())) () ?hs ?hk ?h1 ?h2]
  · exact nz_scan l 0
  case hs => rfl
  case hk => exact Nat.lt_succ_self _
  · intro j x b hx
    simp only [lt_at hx, inR_at hx, rd_at hx, wrap_succ hx hw.1.1, cond_true, nzBody]
    cases (x != 0) <;> rfl
  · intro b
    simp
/-! ### Words -/
def isE (w : ByteArray) : Bool := w.data.toList.isEmpty
theorem isE_sEq (w : ByteArray) : sEq (ByteArray.mk #[]) w = isE w := by
  unfold sEq isE
  rw [ByteArray.toList_eq, ByteArray.toList_eq]
  cases w.data.toList <;> rfl
theorem pieces_len (c : UInt8) : ∀ l : List UInt8, (pieces c l).length ≤ l.length + 1
  | [] => by simp [pieces]
  | b :: l => by
    have ih := pieces_len c l
    unfold pieces
    split
    · simp only [List.length_cons]; omega
    · split
      · simp
      · rename_i h
        rw [h] at ih
        simp only [List.length_cons] at ih ⊢
        omega
theorem splitL_len (c : UInt8) (s : ByteArray) : (splitL s ⟨#[c]⟩).length ≤ s.size + 1 := by
  rw [splitL_one, piecesB, List.length_map, ← bytes_size]
  exact pieces_len _ _
theorem s116_one {s : ByteArray} {c : UInt8} (h : s.size < 4294967281) : s116 s ⟨#[c]⟩ = some (splitL s ⟨#[c]⟩, ()) := by
  unfold s116
  rw [if_pos ⟨h, Nat.le_refl _⟩]
def wordsOk (ws : List ByteArray) (n : Int) : Bool := ((ws.length : Int) == n) && !ws.any isE
def s112 (s : ByteArray) (n : Int) : Option (List ByteArray × Bool × Unit) := if s.size < 4294967281 then some (bif wordsOk (splitL s sp) n then (splitL s sp, true, ()) else ([], false, ())) else none
theorem h112 (s : ByteArray) (n : Int) (y : List ByteArray × Bool × Unit) (hw : WFs A112 (s, n, ())) (h : s112 s n = some y) : ∃ k, f112 s116 k s n = some y := by
  unfold s112 at h
  split at h
  rotate_left
  · cases h
  rename_i hr
  cases h
  have hl := splitL_len 32 s
  refine ⟨s.size + 2, ?_⟩
  unfold f112
  rw [s116_one hr]
  simp only [Option.bind_some]
  generalize splitL s sp = ws at hl ⊢
  unfold wordsOk
  cases hn : ((ws.length : Int) == n)
  · have : ((ws.length : Int) != n) = true := by rw [bne, hn]; rfl
    rw [this]
    rfl
  have : ((ws.length : Int) != n) = false := by rw [bne, hn]; rfl
  rw [this]
  simp only [cond_false, Bool.true_and]
  rw [iter_any (s0 := (((0 : Int), ()), ())) ws (fun j => (((j : Int), ()), ())) isE (.inl ([], false, ())) (.inr ((), ())) rfl (by omega)
    (fun j w hj => by
      have e : sEq w (ByteArray.mk #[]) = isE w := sEq_empty w
      simp only [lt_at hj, inR_at hj, rd_at hj, wrap_succ hj (by omega), cond_true, e]
      cases isE w <;> rfl)
    (by simp)]
  cases ws.any isE <;> rfl
/-! ### a list whose elements are read, or not -/
theorem scan_all {α γ τ : Type} (p : α → Bool) (g : α → γ) (t : τ) (fin : List γ → τ) : ∀ (l : List α) (j : Nat) (b : List γ), scan (fun _ x b => bif p x then .inl (b ++ [g x]) else .inr t) fin l j b = bif l.all p then fin (b ++ l.map g) else t
  | [], j, b => by simp [scan]
  | x :: l, j, b => by
    simp only [scan, List.all_cons, List.map_cons]
    cases hp : p x
    · rfl
    · simp only [cond_true, Bool.true_and]
      rw [scan_all p g t fin l (j + 1), List.append_assoc]
      rfl
def small (l : List ByteArray) : Prop := l.length ≤ 4294967296 ∧ ∀ w ∈ l, w.size ≤ 281474976710656
instance (l : List ByteArray) : Decidable (small l) := by unfold small; infer_instance
def s113 (l : List ByteArray) (lim : Int) : Option (List Int × Bool × Unit) :=
  if small l ∧ lim ≤ 17 then some (bif l.all (fun w => numOk lim w.data.toList) then (l.map aVal, true, ()) else ([], false, ())) else none
theorem h113 (l : List ByteArray) (lim : Int) (y : List Int × Bool × Unit) (hw : WFs A113 (l, lim, ())) (h : s113 l lim = some y) : ∃ k, f113 s139 k l lim = some y := by
  unfold s113 at h
  split at h
  rotate_left
  · cases h
  rename_i hr
  cases h
  obtain ⟨⟨hl, hs⟩, hlim⟩ := hr
  clear hw
  refine ⟨l.length + 1, ?_⟩
  unfold f113
  rw [iter_scanI (s0 := (([], (0 : Int), ()), ())) l (fun i (b : List Int) => ((b, (i : Int), ()), ())) (fun _ w b => bif numOk lim w.data.toList then .inl (b ++ [aVal w]) else .inr (.inl ([], false, ()))) (fun b => .inr ((b, ()), ())) (fun j b => b.length ≤ j) [] (Nat.le_refl _) rfl (by omega) ?hJ ?h1 ?h2]
  · rw [scan_all]
    cases l.all _ <;> rfl
  case hJ =>
    intro j w b b' hx hb e
    cases hok : numOk lim w.data.toList
    · rw [hok] at e; cases e
    · rw [hok] at e
      cases e
      simp only [List.length_append, List.length_singleton]
      omega
  case h2 => intro b _; simp
  case h1 =>
    intro j w b hx hb
    have hj := (List.getElem?_eq_some_iff.1 hx).1
    have e139 : s139 w lim = some (bif numOk lim w.data.toList then (aVal w, true, ()) else (0, false, ())) := by
      unfold s139
      rw [if_pos ⟨hs w (List.mem_of_getElem? hx), hlim⟩]
    simp only [lt_at hx, inR_at hx, rd_at hx, wrap_succ hx (by omega), cond_true, e139, Option.bind_some]
    cases numOk lim w.data.toList
    · rfl
    · have e5 : decide (b.length + [aVal w].length ≤ 4294967296) = true := decide_eq_true (by rw [List.length_singleton]; omega)
      simp only [cond_true, Bool.not_true, cond_false, e5]
/-- what the reference reads: 0 where there is none -/
def rVal (lim : Int) (w : ByteArray) : Int := bif digs lim w.data.toList then aVal w else 0
def s118 (l : List ByteArray) (lim : Int) : Option (List Int × Bool × Unit) :=
  if small l ∧ lim ≤ 17 then some (l.map (rVal lim), l.all (fun w => numOk lim w.data.toList), ()) else none
theorem foldl_both {α γ : Type} (g : α → γ) (p : α → Bool) : ∀ (l : List α) (b : List γ) (o : Bool), l.foldl (fun (b : List γ × Bool) x => (b.1 ++ [g x], bif b.2 then p x else false)) (b, o) = (b ++ l.map g, o && l.all p)
  | [], b, o => by simp
  | x :: l, b, o => by
    rw [List.foldl_cons, foldl_both g p l]
    cases o <;> simp
theorem h118 (l : List ByteArray) (lim : Int) (y : List Int × Bool × Unit) (hw : WFs A118 (l, lim, ())) (h : s118 l lim = some y) : ∃ k, f118 s95 k l lim = some y := by
  unfold s118 at h
  split at h
  rotate_left
  · cases h
  rename_i hr
  cases h
  obtain ⟨⟨hl, hs⟩, hlim⟩ := hr
  clear hw
  refine ⟨l.length + 1, ?_⟩
  unfold f118
  rw [iter_fold (s0 := (([], true, (0 : Int), ()), ())) l (fun i (b : List Int × Bool) => ((b.1, b.2, (i : Int), ()), ())) (fun w b => (b.1 ++ [rVal lim w], bif b.2 then numOk lim w.data.toList else false)) (fun b => .inr ((b.1, b.2, ()), ())) (fun j b => b.1.length ≤ j) ([], true) (Nat.le_refl _) rfl (by omega) ?hJ ?h1 ?h2]
  · rw [foldl_both]
    rfl
  case hJ =>
    intro j w b hx hb
    simp only [List.length_append, List.length_singleton]
    omega
  case h2 => intro b _; simp
  case h1 =>
    intro j w b hx hb
    have hj := (List.getElem?_eq_some_iff.1 hx).1
    have e95 : s95 w lim = some (rVal lim w, numOk lim w.data.toList, ()) := by
      unfold s95
      rw [if_pos ⟨hs w (List.mem_of_getElem? hx), hlim⟩]
      unfold rVal numOk
      cases digs lim w.data.toList <;> rfl
    have e5 : decide (b.1.length + [rVal lim w].length ≤ 4294967296) = true := decide_eq_true (by rw [List.length_singleton]; omega)
    simp only [lt_at hx, inR_at hx, rd_at hx, wrap_succ hx (by omega), cond_true, e95, Option.bind_some, e5]
    cases b.2 <;> rfl
/-! ### Lines -/
def s244 (s t : ByteArray) : Bool := decide (t.size ≤ s.size) && sEq (s.extract (s.size - t.size) s.size) t
theorem h244 (s t : ByteArray) (hw : WFs A244 (s, t, ())) : ∃ k, f244 k s t = some (s244 s t, ()) := by
  simp only [WFs, WF] at hw
  refine ⟨0, ?_⟩
  unfold f244 s244
  by_cases h : t.size ≤ s.size
  · have e1 : decide ((s.size : Int) ≥ (t.size : Int)) = true := decide_eq_true (by omega)
    have e0 : IntKind.i64.wrap ((s.size : Int) - (t.size : Int)) = ((s.size - t.size : Nat) : Int) := by rw [wrap_ok (by omega) (by omega)]; omega
    have e2 : decide ((0 : Int) ≤ ((s.size - t.size : Nat) : Int)) = true := decide_eq_true (by omega)
    have e3 : decide (((s.size - t.size : Nat) : Int) ≤ (s.size : Int)) = true := decide_eq_true (by omega)
    have e4 : decide ((s.size : Int) ≤ (s.size : Int)) = true := decide_eq_true (by omega)
    simp only [e0, e1, e2, e3, e4, cond_true, Int.toNat_natCast, decide_eq_true h, Bool.true_and]
  · have e1 : decide ((s.size : Int) ≥ (t.size : Int)) = false := decide_eq_false (by omega)
    simp only [e1, cond_false, decide_eq_false h, Bool.false_and]
def s225 (s t : ByteArray) : ByteArray × Bool × Unit := bif s244 s t then (s.extract 0 (s.size - t.size), true, ()) else (s, false, ())
theorem h225 (s t : ByteArray) (hw : WFs A225 (s, t, ())) : ∃ k, f225 s244 k s t = some (s225 s t) := by
  simp only [WFs, WF] at hw
  refine ⟨0, ?_⟩
  unfold f225 s225
  cases h : s244 s t
  · rfl
  · have h1 : t.size ≤ s.size := by
      unfold s244 at h
      rw [Bool.and_eq_true] at h
      exact of_decide_eq_true h.1
    have e0 : IntKind.i64.wrap ((s.size : Int) - (t.size : Int)) = ((s.size - t.size : Nat) : Int) := by rw [wrap_ok (by omega) (by omega)]; omega
    have e1 : decide ((0 : Int) ≤ 0) = true := rfl
    have e2 : decide ((0 : Int) ≤ ((s.size - t.size : Nat) : Int)) = true := decide_eq_true (by omega)
    have e3 : decide (((s.size - t.size : Nat) : Int) ≤ (s.size : Int)) = true := decide_eq_true (by omega)
    simp only [e0, e1, e2, e3, Bool.not_true, cond_false, cond_true, Int.toNat_natCast, Int.toNat_zero, Bool.true_and]
def s194 := s225
theorem h194 (s t : ByteArray) (hw : WFs A194 (s, t, ())) : ∃ k, f194 s225 k s t = some (s194 s t) := ⟨0, rfl⟩
def s156 (s : ByteArray) : Option (List ByteArray × Bool × Unit) :=
  if s.size < 4294967281 then some (bif isE s then ([], true, ()) else (splitL (s194 s nl).1 nl, (s194 s nl).2.1, ())) else none
theorem s194_size (s t : ByteArray) : (s194 s t).1.size ≤ s.size := by
  unfold s194 s225
  cases s244 s t
  · exact Nat.le_refl _
  · exact extract_size_le _ _ _
theorem h156 (s : ByteArray) (y : List ByteArray × Bool × Unit) (hw : WFs A156 (s, ())) (h : s156 s = some y) : ∃ k, f156 s116 s194 k s = some y := ⟨0, by
  unfold s156 at h
  split at h
  rotate_left
  · cases h
  rename_i hr
  cases h
  unfold f156
  have e : sEq s (ByteArray.mk #[]) = isE s := sEq_empty s
  have := s194_size s (ByteArray.mk #[10])
  rw [e]
  cases isE s
  · rw [s116_one (by omega)]; rfl
  · rfl⟩
theorem lines_end {s : ByteArray} {l : List UInt8} (h : s.data.toList = l ++ [10]) : s194 s nl = (⟨l.toArray⟩, true, ()) := by
  have hs : s.size = l.length + 1 := by rw [← bytes_size, h]; simp
  have hn : nl.size = 1 := rfl
  have e1 : (s.extract l.length (l.length + 1)) = nl := bytes_of (by
    rw [ByteArray.data_extract, Array.toList_extract, h, List.extract_eq_take_drop, List.drop_left, Nat.add_sub_cancel_left]; rfl)
  have e2 : s.extract 0 l.length = ⟨l.toArray⟩ := bytes_of (by
    rw [ByteArray.data_extract, Array.toList_extract, h, List.extract_eq_take_drop]
    simp)
  unfold s194 s225 s244
  rw [hn, hs, Nat.add_sub_cancel, e1, e2, sEq_iff.2 rfl, decide_eq_true (by omega)]
  rfl
theorem lines_open {s : ByteArray} {l : List UInt8} {c : UInt8} (h : s.data.toList = l ++ [c]) (hc : c ≠ 10) : s194 s nl = (s, false, ()) := by
  have hs : s.size = l.length + 1 := by rw [← bytes_size, h]; simp
  have hn : nl.size = 1 := rfl
  have e1 : (s.extract l.length (l.length + 1)).data.toList = [c] := by
    rw [ByteArray.data_extract, Array.toList_extract, h, List.extract_eq_take_drop, List.drop_left, Nat.add_sub_cancel_left]; rfl
  have e2 : sEq (s.extract l.length (l.length + 1)) nl = false := by
    rw [← Bool.not_eq_true, sEq_iff]
    intro e
    rw [e] at e1
    simp at e1
    exact hc e1.symm
  unfold s194 s225 s244
  rw [hn, hs, Nat.add_sub_cancel, e2, Bool.and_false]
  rfl
end Go.Vm
