/- Decimal numbers as texts: what is read, what is written. Own work. -/
import Derived.Lib.Atoi
import Derived.Lib.ItoaNum
set_option linter.unusedVariables false
set_option linter.unusedSimpArgs false
namespace Go.Vm.Num
open Go.Lib
def dig (b : UInt8) : Bool := decide (48 ≤ b.toNat) && decide (b.toNat ≤ 57)
theorem dig_val {b : UInt8} (h : dig b = true) : digitVal b = some (b.toNat - 48) ∧ 48 ≤ b.toNat ∧ b.toNat ≤ 57 := by
  unfold dig at h
  rw [Bool.and_eq_true, decide_eq_true_eq, decide_eq_true_eq] at h
  unfold digitVal
  rw [if_pos h]
  exact ⟨rfl, h⟩
theorem from_some : ∀ (l : List UInt8) (acc : Nat), l.all dig = true → ∃ m, decFrom acc l = some m ∧ acc ≤ m
  | [], acc, _ => ⟨acc, rfl, Nat.le_refl _⟩
  | b :: l, acc, h => by
    rw [List.all_cons, Bool.and_eq_true] at h
    obtain ⟨h1, h2⟩ := h
    obtain ⟨e, _, _⟩ := dig_val h1
    obtain ⟨m, h3, h4⟩ := from_some l (acc * 10 + (b.toNat - 48)) h2
    refine ⟨m, ?_, by omega⟩
    simp only [decFrom, e, h3]
theorem from_snoc : ∀ (l : List UInt8) (acc n : Nat) (b : UInt8), decFrom acc l = some n → dig b = true → decFrom acc (l ++ [b]) = some (n * 10 + (b.toNat - 48))
  | [], acc, n, b, h, hb => by
    cases h
    simp only [List.nil_append, decFrom, (dig_val hb).1]
  | c :: l, acc, n, b, h, hb => by
    simp only [decFrom] at h
    simp only [List.cons_append, decFrom]
    cases hc : digitVal c with
    | none => rw [hc] at h; cases h
    | some d =>
      rw [hc] at h
      exact from_snoc l _ n b h hb
theorem byte_eq {b : UInt8} (h : 48 ≤ b.toNat) : UInt8.ofNat (48 + (b.toNat - 48)) = b := by
  rw [show 48 + (b.toNat - 48) = b.toNat from by omega]
  exact UInt8.ofNat_toNat
theorem head_ne (u : Nat) (hu : u ≠ 0) : (decDigits u).head? ≠ some 48 := by
  induction u using Nat.strongRecOn with
  | _ u ih =>
    rw [decDigits]
    split
    · rename_i h
      simp only [List.head?_cons, ne_eq, Option.some.injEq]
      intro e
      have := congrArg UInt8.toNat e
      rw [UInt8.toNat_ofNat_of_lt' (by show 48 + u < 256; omega)] at this
      have h48 : (48 : UInt8).toNat = 48 := rfl
      omega
    · rename_i h
      have hne : decDigits (u / 10) ≠ [] := by
        intro e
        have := decDigits_length (u / 10)
        rw [e] at this
        have := nDigits_pos (u / 10)
        simp at *
        omega
      have := ih (u / 10) (by omega) (by omega)
      cases hd : decDigits (u / 10) with
      | nil => exact absurd hd hne
      | cons c t =>
        rw [hd] at this
        simpa using this
/-- a text of digits is its number's numeral, if it begins with no needless zero -/
theorem canon : ∀ (n : Nat) (l : List UInt8), l.length = n → l ≠ [] → l.all dig = true → (l.head? ≠ some 48 ∨ l.length = 1) → ∀ m, decFrom 0 l = some m → decDigits m = l
  | 0, l, hn, hne, _, _, _, _ => absurd (List.eq_nil_of_length_eq_zero hn) hne
  | n + 1, l, hn, hne, hd, hc, m, hm => by
    rcases List.eq_nil_or_concat l with rfl | ⟨i, b, rfl⟩
    · exact absurd rfl hne
    · rw [List.concat_eq_append] at *
      rw [List.all_append, Bool.and_eq_true] at hd
      have hb : dig b = true := by simpa using hd.2
      obtain ⟨_, hb1, hb2⟩ := dig_val hb
      by_cases hi : i = []
      · subst hi
        simp only [List.nil_append, decFrom, (dig_val hb).1, Nat.zero_mul, Nat.zero_add, Option.some.injEq] at hm
        subst hm
        rw [decDigits, dif_pos (by omega), byte_eq hb1]
        rfl
      · obtain ⟨q, hq, _⟩ := from_some i 0 hd.1
        have h2 := from_snoc i 0 q b hq hb
        rw [hm] at h2
        cases h2
        have hh : i.head? ≠ some 48 := by
          rcases hc with hc | hc
          · cases i with
            | nil => exact absurd rfl hi
            | cons c t => simpa using hc
          · rw [List.length_append] at hc
            rw [List.length_singleton] at hc
            exact absurd (List.eq_nil_of_length_eq_zero (by omega)) hi
        have hq1 : 1 ≤ q := by
          cases i with
          | nil => exact absurd rfl hi
          | cons c t =>
            have hc1 : dig c = true := by
              have := hd.1
              rw [List.all_cons, Bool.and_eq_true] at this
              exact this.1
            obtain ⟨e, k1, k2⟩ := dig_val hc1
            simp only [decFrom, e] at hq
            obtain ⟨m', h3, h4⟩ := from_some t (0 * 10 + (c.toNat - 48)) (by
              have := hd.1
              rw [List.all_cons, Bool.and_eq_true] at this
              exact this.2)
            rw [hq] at h3
            cases h3
            have : c ≠ 48 := by simpa using hh
            have : c.toNat ≠ 48 := fun e => this (UInt8.toNat.inj (by rw [e]; rfl))
            omega
        have hrec := canon n i (by rw [List.length_append] at hn; simpa using hn) hi hd.1 (.inl hh) q hq
        rw [decDigits, dif_neg (by omega), show (q * 10 + (b.toNat - 48)) / 10 = q from by omega, show (q * 10 + (b.toNat - 48)) % 10 = b.toNat - 48 from by omega, byte_eq hb1, hrec]
/-- .. and not otherwise -/
theorem canon_not {l : List UInt8} {m : Nat} (h1 : l.head? = some 48) (h2 : l.length ≠ 1) : decDigits m ≠ l := by
  intro e
  by_cases hm : m = 0
  · subst hm
    rw [decDigits, dif_pos (by omega)] at e
    rw [← e] at h2
    exact h2 rfl
  · rw [← e] at h1
    exact head_ne m hm h1
/-- the digits behind a sign -/
def body : List UInt8 → List UInt8
  | 45 :: l => l
  | l => l
/-- is a text a number as it is written? -/
def okN (l : List UInt8) : Bool := !(body l).isEmpty && ((body l).all dig && !((body l).head? == some 48 && (decide ((body l).length > 1) || decide (l.length > (body l).length))))
theorem atoi_some {l : List UInt8} (hne : body l ≠ []) (hd : (body l).all dig = true) : ∃ m, decFrom 0 (body l) = some m ∧ atoi l = some (if l.length > (body l).length then -(m : Int) else (m : Int)) := by
  obtain ⟨m, hm, _⟩ := from_some (body l) 0 hd
  refine ⟨m, hm, ?_⟩
  cases l with
  | nil => exact absurd rfl hne
  | cons c t =>
    by_cases hc : c = 45
    · subst hc
      have hb : body (45 :: t) = t := rfl
      rw [hb] at hne hd hm ⊢
      simp only [atoi]
      rw [if_pos (by decide)]
      unfold decNat
      rw [if_neg (by simpa using hne), hm, if_pos (by simp)]
      rfl
    · have hb : body (c :: t) = c :: t := by
        unfold body
        split
        · rename_i h; cases h; exact absurd rfl hc
        · rfl
      rw [hb] at hne hd hm ⊢
      have hcd : dig c = true := by
        rw [List.all_cons, Bool.and_eq_true] at hd
        exact hd.1
      obtain ⟨_, k1, k2⟩ := dig_val hcd
      have hc43 : c ≠ 43 := fun e => by subst e; exact absurd k1 (by decide)
      simp only [atoi]
      rw [if_neg (by simpa using hc), if_neg (by simpa using hc43)]
      unfold decNat
      rw [if_neg (by simp), hm, if_neg (by omega)]
      rfl
/-- what is read is written so just if it was written as numbers are -/
theorem back {l : List UInt8} (hne : body l ≠ []) (hd : (body l).all dig = true) {n : Int} (hn : atoi l = some n) : decide (itoa n = l) = okN l := by
  obtain ⟨m, hm, ha⟩ := atoi_some hne hd
  rw [hn] at ha
  have hn' := Option.some.inj ha
  have hemp : (body l).isEmpty = false := by simpa using hne
  unfold okN
  rw [hemp, hd]
  simp only [Bool.not_false, Bool.true_and]
  by_cases hs : l.length > (body l).length
  · rw [if_pos hs] at hn'
    rw [decide_eq_true hs, Bool.or_true, Bool.and_true]
    have hl : l = 45 :: body l := by
      cases l with
      | nil => simp [body] at hs
      | cons c t =>
        by_cases hc : c = 45
        · subst hc; rfl
        · have hb : body (c :: t) = c :: t := by
            unfold body
            split
            · rename_i h; cases h; exact absurd rfl hc
            · rfl
          rw [hb] at hs
          omega
    by_cases h0 : (body l).head? = some 48
    · rw [h0]
      simp only [beq_self_eq_true, Bool.not_true, decide_eq_false_iff_not]
      intro e
      rw [hn'] at e
      by_cases hm0 : m = 0
      · subst hm0
        have : itoa (-((0 : Nat) : Int)) = [48] := by
          unfold itoa
          rw [if_neg (by decide), show (-((0 : Nat) : Int)).toNat = 0 from rfl, decDigits, dif_pos (by omega)]
          rfl
        rw [this] at e
        rw [← e] at hl
        injection hl with h _
        exact absurd h (by decide)
      · rw [show itoa (-(m : Int)) = 45 :: decDigits m from by unfold itoa; rw [if_pos (by omega)]; simp] at e
        rw [hl] at e
        injection e with _ e
        rw [← e] at h0
        exact head_ne m hm0 h0
    · rw [show ((body l).head? == some 48) = false from by rw [beq_eq_false_iff_ne]; exact h0]
      simp only [Bool.not_false, decide_eq_true_eq]
      have h1 := canon _ (body l) rfl hne hd (.inl h0) m hm
      have hm0 : m ≠ 0 := by
        rintro rfl
        rw [decDigits, dif_pos (by omega)] at h1
        rw [← h1] at h0
        exact h0 rfl
      rw [hn', show itoa (-(m : Int)) = 45 :: decDigits m from by unfold itoa; rw [if_pos (by omega)]; simp, h1]
      exact hl.symm
  · rw [if_neg hs] at hn'
    rw [decide_eq_false hs, Bool.or_false]
    have hl : body l = l := by
      cases l with
      | nil => rfl
      | cons c t =>
        by_cases hc : c = 45
        · subst hc
          exact absurd (show (45 :: t : List UInt8).length > t.length by simp) hs
        · unfold body
          split
          · rename_i h; cases h; exact absurd rfl hc
          · rfl
    have hi : itoa (m : Int) = decDigits m := by unfold itoa; rw [if_neg (by omega)]; simp
    rw [hn', hi]
    by_cases h0 : (body l).head? = some 48 ∧ (body l).length > 1
    · rw [h0.1, decide_eq_true h0.2]
      simp only [beq_self_eq_true, Bool.and_self, Bool.not_true, decide_eq_false_iff_not]
      rw [hl] at h0
      exact canon_not h0.1 (by omega)
    · have hc : (body l).head? ≠ some 48 ∨ (body l).length = 1 := by
        by_cases h1 : (body l).head? = some 48
        · refine .inr ?_
          have : ¬ (body l).length > 1 := fun h2 => h0 ⟨h1, h2⟩
          have : (body l).length ≠ 0 := fun e => hne (List.eq_nil_of_length_eq_zero e)
          omega
        · exact .inl h1
      have h1 := canon _ (body l) rfl hne hd hc m hm
      rw [hl] at h1
      rw [decide_eq_true h1]
      have : ((body l).head? == some 48 && decide ((body l).length > 1)) = false := by
        rw [← Bool.not_eq_true, Bool.and_eq_true, beq_iff_eq, decide_eq_true_eq]
        exact h0
      rw [this]
      rfl
end Go.Vm.Num
