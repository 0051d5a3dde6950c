/- Numbers (shown at other seats before; renumbered). Own work. -/
import Derived.Test.YtbjpkdbneopgkaaGreatDoorASpecA
import Derived.Test.YtbjpkdbneopgkaaGreatDoorNumL
import Derived.Lib.AtoiTie
set_option linter.unusedVariables false
set_option linter.unusedSimpArgs false
set_option maxRecDepth 100000
namespace Go.Vm
open Go.RowKit Go.Vm.Num
/-! ### a prefix -/
def s148 (s t : ByteArray) : Bool := decide (t.size ≤ s.size) && sEq (s.extract 0 t.size) t
theorem h148 (s t : ByteArray) (hw : WFs A148 (s, t, ())) : ∃ k, f148 k s t = some (s148 s t, ()) := by
  refine ⟨0, ?_⟩
  unfold f148 s148
  by_cases h : t.size ≤ s.size
  · have e1 : decide ((s.size : Int) ≥ (t.size : Int)) = true := decide_eq_true (by omega)
    have e2 : decide ((0 : Int) ≤ (t.size : Int)) = true := decide_eq_true (by omega)
    have e3 : decide ((t.size : Int) ≤ (s.size : Int)) = true := decide_eq_true (by omega)
    simp only [e1, e2, e3, cond_true, Int.toNat_natCast, decide_eq_true h, Bool.true_and]
    rfl
  · have e1 : decide ((s.size : Int) ≥ (t.size : Int)) = false := decide_eq_false (by omega)
    simp only [e1, cond_false, decide_eq_false h, Bool.false_and]
def s119 (s t : ByteArray) : ByteArray := bif s148 s t then s.extract t.size s.size else s
def s88 := s119
theorem h119 (s t : ByteArray) (hw : WFs A119 (s, t, ())) : ∃ k, f119 s148 k s t = some (s119 s t, ()) := by
  refine ⟨0, ?_⟩
  unfold f119 s119
  cases h : s148 s t
  · rfl
  · have h1 : t.size ≤ s.size := by
      unfold s148 at h
      rw [Bool.and_eq_true] at h
      exact of_decide_eq_true h.1
    have e2 : decide ((0 : Int) ≤ (t.size : Int)) = true := decide_eq_true (by omega)
    have e3 : decide ((t.size : Int) ≤ (s.size : Int)) = true := decide_eq_true (by omega)
    have e4 : decide ((s.size : Int) ≤ (s.size : Int)) = true := decide_eq_true (by omega)
    simp only [e2, e3, e4, cond_true, Int.toNat_natCast, Bool.true_and]
theorem h88 (s t : ByteArray) (hw : WFs A88 (s, t, ())) : ∃ k, f88 s119 k s t = some (s88 s t, ()) := ⟨0, rfl⟩
theorem bytes_size (s : ByteArray) : s.data.toList.length = s.size := Array.length_toList
theorem trim_body (s : ByteArray) : (s88 s (ByteArray.mk #[45])).data.toList = body s.data.toList := by
  unfold s88 s119 s148
  have hz : (ByteArray.mk #[45]).size = 1 := rfl
  rw [hz]
  have he : (s.extract 0 1).data.toList = s.data.toList.take 1 := by simp [ByteArray.data_extract]
  have hx : (s.extract 1 s.size).data.toList = s.data.toList.drop 1 := by
    rw [ByteArray.data_extract, Array.toList_extract, List.extract_eq_take_drop, List.take_of_length_le]
    rw [List.length_drop, bytes_size]
    exact Nat.le_refl _
  have hq : sEq (s.extract 0 1) (ByteArray.mk #[45]) = (s.data.toList.take 1 == [45]) := by
    unfold sEq
    rw [ByteArray.toList_eq, ByteArray.toList_eq, he]
  rw [hq]
  cases hl : s.data.toList with
  | nil =>
    have : ¬ 1 ≤ s.size := by rw [← bytes_size, hl]; simp
    simp only [decide_eq_false this, Bool.false_and, cond_false, hl]
    rfl
  | cons c t =>
    have : 1 ≤ s.size := by rw [← bytes_size, hl]; simp
    simp only [decide_eq_true this, Bool.true_and, List.take_succ_cons, List.take_zero]
    by_cases hc : c = 45
    · subst hc
      rw [show (([45] : List UInt8) == [45]) = true from rfl]
      simp only [cond_true, hx, hl]
      rfl
    · have : ¬ [c] = ([45] : List UInt8) := fun e => hc (by injection e)
      rw [show ([c] == ([45] : List UInt8)) = false from beq_eq_false_iff_ne.2 this]
      simp only [cond_false, hl]
      unfold body
      split
      · rename_i h; cases h; exact absurd rfl hc
      · rfl
theorem body_le (l : List UInt8) : (body l).length ≤ l.length ∧ l.length ≤ (body l).length + 1 := by
  unfold body
  split
  · simp
  · simp
/-! ### a number -/
def digs (lim : Int) (l : List UInt8) : Bool := !(body l).isEmpty && (decide (((body l).length : Int) ≤ lim) && (body l).all dig)
def numOk (lim : Int) (l : List UInt8) : Bool := digs lim l && okN l
theorem atoi_all {lim : Int} {s : ByteArray} (hd : digs lim s.data.toList = true) (hl : lim ≤ 17) : Lib.atoi s.data.toList = some (aVal s) ∧ aOk s = true := by
  unfold digs at hd
  rw [Bool.and_eq_true, Bool.and_eq_true] at hd
  obtain ⟨h1, h2, h3⟩ := hd
  have h2 := of_decide_eq_true h2
  have hb := body_le s.data.toList
  have hne : body s.data.toList ≠ [] := by simpa using h1
  obtain ⟨m, _, hm⟩ := atoi_some hne h3
  have := Lib.atoiAll_short s.data.toList (by omega)
  rw [hm] at this
  unfold aVal aOk
  rw [this]
  exact ⟨hm, rfl⟩
theorem dig_bt {b : UInt8} : dig b = (!decide ((b.toNat : Int) < 48) && !decide ((b.toNat : Int) > 57)) := by
  unfold dig
  by_cases h1 : 48 ≤ b.toNat
  · by_cases h2 : b.toNat ≤ 57
    · rw [decide_eq_true h1, decide_eq_true h2, decide_eq_false (by omega), decide_eq_false (by omega)]; rfl
    · rw [decide_eq_true h1, decide_eq_false h2, decide_eq_false (by omega), decide_eq_true (by omega)]; rfl
  · rw [decide_eq_false h1, decide_eq_true (show (b.toNat : Int) < 48 by omega)]; rfl
theorem c48 {c : UInt8} (h : c.toNat = 48) : c = 48 := UInt8.toNat.inj (by rw [h]; rfl)
def s71 (s : ByteArray) (lim : Int) : Option (Int × Bool × Unit) := if s.size ≤ 281474976710656 ∧ lim ≤ 17 then some (bif numOk lim s.data.toList then (aVal s, true, ()) else (0, false, ())) else none
/-! ### .. as the reference reads it -/
def s39 (n : Int) : Option (ByteArray × Unit) := s79 n
theorem h39 (n : Int) (y : ByteArray × Unit) (hw : WFs A39 (n, ())) (h : s39 n = some y) : ∃ k, f39 s79 k n = some y := ⟨0, by
  unfold f39
  unfold s39 at h
  rw [h]
  rfl⟩
theorem dig_contains (b : UInt8) : ([48, 49, 50, 51, 52, 53, 54, 55, 56, 57] : List UInt8).contains b = dig b := by
  have := all256 (p := fun b => ([48, 49, 50, 51, 52, 53, 54, 55, 56, 57] : List UInt8).contains b == dig b) (by decide) b
  exact beq_iff_eq.1 this
def s51 (s : ByteArray) (lim : Int) : Option (Int × Bool × Unit) := if s.size ≤ 281474976710656 ∧ lim ≤ 17 then some (bif digs lim s.data.toList then (aVal s, okN s.data.toList, ()) else (0, false, ())) else none
theorem h51 (s : ByteArray) (lim : Int) (y : Int × Bool × Unit) (hw : WFs A51 (s, lim, ())) (h : s51 s lim = some y) : ∃ k, f51 s39 s74 s88 k s lim = some y := by
  unfold s51 at h
  split at h
  rotate_left
  · cases h
  rename_i hr
  cases h
  refine ⟨0, ?_⟩
  unfold f51
  have hb := trim_body s
  generalize hB : s88 s (ByteArray.mk #[45]) = B at hb ⊢
  have hBs : B.size = (body s.data.toList).length := by rw [← hb, bytes_size]
  have e1 : sEq B (ByteArray.mk #[]) = (body s.data.toList).isEmpty := by rw [sEq_empty, hb]
  have e2 : decide ((B.size : Int) > lim) = !decide (((body s.data.toList).length : Int) ≤ lim) := by
    rw [hBs]
    by_cases h : ((body s.data.toList).length : Int) ≤ lim
    · rw [decide_eq_true h, decide_eq_false (by omega)]; rfl
    · rw [decide_eq_false h, decide_eq_true (by omega)]; rfl
  have e3 : s74 B (ByteArray.mk #[48, 49, 50, 51, 52, 53, 54, 55, 56, 57]) = (body s.data.toList).all dig := by
    unfold s74
    rw [hb]
    congr 1
    funext b
    exact dig_contains b
  rw [e1, e2, e3]
  cases hd : digs lim s.data.toList
  · unfold digs at hd
    cases hem : (body s.data.toList).isEmpty
    · rw [hem] at hd
      cases hlm : decide (((body s.data.toList).length : Int) ≤ lim)
      · rfl
      · rw [hlm] at hd
        simp only [Bool.not_false, Bool.true_and] at hd
        rw [hd]
        rfl
    · rfl
  · obtain ⟨ha, hok⟩ := atoi_all hd hr.2
    have hd' := hd
    unfold digs at hd'
    rw [Bool.and_eq_true, Bool.and_eq_true] at hd'
    obtain ⟨h1, h2, h3⟩ := hd'
    have h1' : (body s.data.toList).isEmpty = false := by simpa using h1
    rw [h1', h2, h3]
    simp only [Bool.not_true, cond_false, decide_eq_true hr.1, hok, cond_true]
    have hbd := by
      have h2 := of_decide_eq_true h2
      have hle := body_le s.data.toList
      have := Lib.atoiAll_short s.data.toList (by omega)
      rw [ha] at this
      exact Lib.atoiAll_bounds this
    have hne : body s.data.toList ≠ [] := by simpa using h1
    have hbk := back hne h3 ha
    have es : s39 (aVal s) = some (numeral (aVal s), ()) := by
      unfold s39 s79
      rw [if_pos hbd]
    rw [es]
    simp only [Option.bind_some]
    have : sEq (numeral (aVal s)) s = okN s.data.toList := by
      rw [← hbk]
      unfold sEq numeral
      rw [ByteArray.toList_eq, ByteArray.toList_eq, Bool.eq_iff_iff, beq_iff_eq, decide_eq_true_iff]
    rw [this]
/-! ### .. the same, for numbers that are small -/
theorem iter_any {α σ τ : Type} {f : σ → Option (σ ⊕ τ)} {s0 : σ} {k : Nat} (xs : List α) (mk : Nat → σ) (p : α → Bool) (hit miss : τ) (hs : s0 = mk 0) (hk : xs.length < k)
    (h1 : ∀ (j : Nat) (x : α), xs[j]? = some x → f (mk j) = some (bif p x then .inr hit else .inl (mk (j + 1))))
    (h2 : f (mk xs.length) = some (.inr miss)) : iter k f s0 = some (bif xs.any p then hit else miss) := by
  rw [iter_find (s0 := s0) (k := k) (f := f) xs mk p (fun _ => hit) miss hs hk h1 h2]
  congr 1
  cases h : xs.findIdx? p with
  | none =>
    have : xs.any p = false := by rw [← List.findIdx?_isSome, h]; rfl
    rw [this]; rfl
  | some i =>
    have : xs.any p = true := by rw [← List.findIdx?_isSome, h]; rfl
    rw [this]; rfl
theorem h71 (s : ByteArray) (lim : Int) (y : Int × Bool × Unit) (hw : WFs A71 (s, lim, ())) (h : s71 s lim = some y) : ∃ k, f71 s88 k s lim = some y := by
  unfold s71 at h
  split at h
  rotate_left
  · cases h
  rename_i hr
  cases h
  refine ⟨s.size + 1, ?_⟩
  unfold f71
  have hb := trim_body s
  have hle := body_le s.data.toList
  rw [bytes_size] at hle
  generalize hB : s88 s (ByteArray.mk #[45]) = B at hb ⊢
  have hBs : B.size = (body s.data.toList).length := by rw [← hb, bytes_size]
  have e1 : sEq B (ByteArray.mk #[]) = (body s.data.toList).isEmpty := by rw [sEq_empty, hb]
  have e2 : decide ((B.size : Int) > lim) = !decide (((body s.data.toList).length : Int) ≤ lim) := by
    rw [hBs]
    by_cases h : ((body s.data.toList).length : Int) ≤ lim
    · rw [decide_eq_true h, decide_eq_false (by omega)]; rfl
    · rw [decide_eq_false h, decide_eq_true (by omega)]; rfl
  rw [e1, e2]
  unfold numOk digs
  cases hem : (body s.data.toList).isEmpty
  rotate_left
  · simp [okN, hem]
  simp only [cond_false, Bool.not_false, Bool.true_and]
  cases hlm : decide (((body s.data.toList).length : Int) ≤ lim)
  · rfl
  simp only [Bool.not_true, cond_false, Bool.true_and]
  obtain ⟨c, t, hct⟩ : ∃ c t, body s.data.toList = c :: t := by
    cases hx : body s.data.toList with
    | nil => rw [hx] at hem; cases hem
    | cons c t => exact ⟨c, t, rfl⟩
  have hB0 : B.data.toList[0]? = some c := by rw [hb, hct]; rfl
  have hBl : B.data.toList.length = B.size := bytes_size B
  have hin : inR (0 : Int) (B.size : Int) = true := by
    have := inR_at hB0
    rw [hBl] at this
    exact this
  have hbt : bt B (0 : Int) = (c.toNat : Int) := bt_at hB0
  have e3 : ((bt B (0 : Int)) == (48 : Int)) = ((body s.data.toList).head? == some 48) := by
    rw [hbt, hct]
    by_cases hc : c = 48
    · subst hc; rfl
    · have h1 : ¬ (c.toNat : Int) = 48 := fun e => hc (c48 (by omega))
      have h2 : ¬ (c :: t).head? = some (48 : UInt8) := by simpa using hc
      rw [beq_eq_false_iff_ne.2 h1, beq_eq_false_iff_ne.2 h2]
  have e4 : decide ((B.size : Int) > 1) = decide ((body s.data.toList).length > 1) := by rw [hBs]; congr 1; apply propext; omega
  have e5 : decide ((s.size : Int) > (B.size : Int)) = decide (s.data.toList.length > (body s.data.toList).length) := by rw [hBs, bytes_size]; congr 1; apply propext; omega
  have hbad : okN s.data.toList = ((body s.data.toList).all dig && !((body s.data.toList).head? == some 48 && (decide ((body s.data.toList).length > 1) || decide (s.data.toList.length > (body s.data.toList).length)))) := by
    unfold okN
    rw [hem]
    rfl
  rw [hin, e3, e4, e5, hbad]
  simp only [cond_true]
  have loop :
      (Option.bind (α := (Int × Bool × Unit) ⊕ (Unit × Unit)) (iter (σ := (Int × Unit) × Unit) (τ := (Int × Bool × Unit) ⊕ (Unit × Unit)) (s.size + 1) (fun y2 =>
          bif (decide (y2.1.1 < ((ByteArray.size B : Nat) : Int))) then
            bif (inR y2.1.1 ((ByteArray.size B : Nat) : Int)) then
              bif (decide ((bt B y2.1.1) < (48 : Int))) then
                some (.inr (.inl zAT0))
              else
                bif (inR y2.1.1 ((ByteArray.size B : Nat) : Int)) then
                  bif (decide ((bt B y2.1.1) > (57 : Int))) then
                    some (.inr (.inl zAT0))
                  else
                    some (.inl (((IntKind.i64.wrap (y2.1.1 + (1 : Int))), ()), ()))
                else
                  none
            else
              none
          else
            some (.inr (.inr ((), ())))) (((0 : Int), ()), ())) fun r => match r with
      | .inl z => some z
      | .inr z3 =>
        bif (decide (ByteArray.size s ≤ 281474976710656)) then
          bif (aOk s) then
            some ((aVal s), true, ())
          else
            none
        else
          none) = some (bif (body s.data.toList).all dig then (aVal s, true, ()) else (0, false, ())) := by
    rw [iter_any (s0 := (((0 : Int), ()), ())) B.data.toList (fun j => (((j : Int), ()), ())) (fun b => !dig b) (.inl zAT0) (.inr ((), ())) rfl (by rw [hBl]; omega)
      (fun j b hj => by
        have g1 := lt_at hj
        have g2 := inR_at hj
        rw [hBl] at g1 g2
        simp only [g1, g2, bt_at hj, wrap_succ hj (by rw [hBl]; omega), cond_true, dig_bt]
        cases decide ((b.toNat : Int) < 48) <;> cases decide ((b.toNat : Int) > 57) <;> rfl)
      (by rw [hBl]; simp)]
    rw [hb]
    cases hall : (body s.data.toList).all dig
    · have : (body s.data.toList).any (fun b => !dig b) = true := by
        rw [List.any_eq_not_all_not]
        simp [hall]
      rw [this]
      rfl
    · have : (body s.data.toList).any (fun b => !dig b) = false := by
        rw [List.any_eq_not_all_not]
        simp only [Bool.not_not]
        rw [hall]; rfl
      have hd : digs lim s.data.toList = true := by unfold digs; rw [hem, hlm, hall]; rfl
      rw [this, (atoi_all hd hr.2).2, decide_eq_true hr.1]
      rfl
  cases hc48 : (body s.data.toList).head? == some 48
  · simp only [cond_false, Option.bind_some, Bool.false_and, Bool.not_false, Bool.and_true, Bool.and_self]
    exact loop
  · simp only [cond_true, Bool.true_and]
    cases hd1 : decide ((body s.data.toList).length > 1)
    · simp only [cond_false, Option.bind_some, Bool.false_or]
      cases hd2 : decide (s.data.toList.length > (body s.data.toList).length)
      · simp only [cond_false, Bool.not_false, Bool.and_true, Bool.and_self]
        exact loop
      · simp only [cond_true, Bool.not_true, Bool.and_false, cond_false]
    · simp only [cond_true, Option.bind_some, Bool.true_or, Bool.not_true, Bool.and_false, cond_false]
end Go.Vm
