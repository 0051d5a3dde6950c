/- BonusesPaid: what was shown of common functions, under this seat's numbers (renum.py). Own work. -/
import Derived.Test.YtfiembgemhonlaaDoorUFn
import Derived.Test.YtfiembgemhonlaaDoorUHand
import Derived.Test.YtfiembgemhonlaaDoorVmQ
import Derived.Test.YtfiembgemhonlaaDoorVmK
import Derived.Lib.Bytealg
set_option linter.unusedVariables false
set_option linter.unusedSimpArgs false
namespace Go.Vm
open Go.Proofs
abbrev RT0 : Type := (Int × Int × Unit)
abbrev RT1 : Type := (Int × Int × Int × Unit)
abbrev RT2 : Type := (RT0 × Unit)
abbrev RT3 : Type := (RT0 × Int × Unit)
abbrev RT4 : Type := (RT0 × Bool × Unit)
abbrev RT5 : Type := (ByteArray × ByteArray × ByteArray × Int × Int × Unit)
abbrev RT6 : Type := (Int × RT5 × Unit)
abbrev RT7 : Type := (RT5 × Int × Unit)
abbrev zRT0 : RT0 := ((0 : Int), (0 : Int), ())
abbrev zRT2 : RT2 := (zRT0, ())
abbrev zRT4 : RT4 := (zRT0, false, ())
abbrev zRT5 : RT5 := (ByteArray.empty, ByteArray.empty, ByteArray.empty, (0 : Int), (0 : Int), ())
abbrev RY0 : Ty := (.struct (.cons (.int .i64) (.cons (.int .i64) .nil)))
abbrev RY1 : Ty := (.struct (.cons (.int .i64) (.cons (.int .i64) (.cons (.int .i64) .nil))))
abbrev RY2 : Ty := (.struct (.cons .str (.cons .str (.cons .str (.cons (.int .i64) (.cons (.int .i64) .nil))))))
abbrev Wd : Type := Int × Int × Unit
end Go.Vm
/- Charging: what is gained, and how long it takes. Plain law. Own work. -/
namespace Go.Vm.Gain
/-- a / b rounded up -/
def cd (a b : Int) : Int := (a + b - 1).tdiv b
theorem cd_lt {a b : Int} (ha : 0 ≤ a) (hb : 0 < b) : a ≤ cd a b * b ∧ cd a b * b < a + b ∧ 0 ≤ cd a b := by
  unfold cd
  rw [Int.tdiv_eq_ediv_of_nonneg (by omega)]
  have h1 := Int.mul_ediv_add_emod (a + b - 1) b
  have h2 := Int.emod_nonneg (a + b - 1) (show b ≠ 0 by omega)
  have h3 := Int.emod_lt_of_pos (a + b - 1) hb
  have h4 : 0 ≤ (a + b - 1) / b := Int.ediv_nonneg (by omega) (by omega)
  rw [Int.mul_comm] at h1
  generalize (a + b - 1) / b * b = z at *
  generalize (a + b - 1) % b = y at *
  refine ⟨by omega, by omega, h4⟩
theorem cd_le {a b : Int} (ha : 0 ≤ a) (hb : 0 < b) : cd a b ≤ a := by
  unfold cd
  rw [Int.tdiv_eq_ediv_of_nonneg (by omega)]
  have : (a + b - 1) / b < a + 1 := Int.ediv_lt_of_lt_mul hb (by
    have : (a + 1) * b = a * b + b := by rw [Int.add_mul, Int.one_mul]
    have h2 : a * 1 ≤ a * b := Int.mul_le_mul_of_nonneg_left (by omega) ha
    omega)
  omega
theorem mul_lt' {n m b : Int} (hb : 0 < b) (h : n * b < m * b) : n < m := Int.lt_of_mul_lt_mul_right h (by omega)
/-- the level after a time, never full -/
def X (L S f g t : Int) : Int := if L < S then L + (min t (cd (S - L) f)) * f + (t - min t (cd (S - L) f)) * g else L + t * g
theorem X_mono {L S f g t u : Int} (hf : 0 < f) (hg : 0 < g) (hgf : g ≤ f) (h : t ≤ u) : X L S f g t ≤ X L S f g u := by
  unfold X
  split
  · rename_i hl
    generalize cd (S - L) f = a
    have e : ∀ x : Int, L + min x a * f + (x - min x a) * g = L + min x a * (f - g) + x * g := fun x => by
      rw [Int.sub_mul, Int.mul_sub]; omega
    rw [e, e]
    have h1 : min t a * (f - g) ≤ min u a * (f - g) := Int.mul_le_mul_of_nonneg_right (by omega) (by omega)
    have h2 : t * g ≤ u * g := Int.mul_le_mul_of_nonneg_right h (by omega)
    omega
  · have h2 : t * g ≤ u * g := Int.mul_le_mul_of_nonneg_right h (by omega)
    omega
/-- how long it takes -/
def need (L S f g T : Int) : Int :=
  if L < S ∧ L < T then
    (if L + min (cd (S - L) f) (cd (T - L) f) * f < T then min (cd (S - L) f) (cd (T - L) f) + cd (T - (L + min (cd (S - L) f) (cd (T - L) f) * f)) g else min (cd (S - L) f) (cd (T - L) f))
  else (if L < T then 0 + cd (T - L) g else 0)
theorem need_nonneg {L S f g T : Int} (hf : 0 < f) (hg : 0 < g) : 0 ≤ need L S f g T := by
  unfold need
  split
  · rename_i h
    have h1 := (cd_lt (a := S - L) (b := f) (by omega) hf).2.2
    have h2 := (cd_lt (a := T - L) (b := f) (by omega) hf).2.2
    split
    · have h3 := (cd_lt (a := T - (L + min (cd (S - L) f) (cd (T - L) f) * f)) (b := g) (by omega) hg).2.2
      omega
    · omega
  · split
    · have h3 := (cd_lt (a := T - L) (b := g) (by omega) hg).2.2
      omega
    · omega
theorem need_spec {L S f g T : Int} (hf : 0 < f) (hg : 0 < g) : T ≤ X L S f g (need L S f g T) ∧ (0 < need L S f g T → X L S f g (need L S f g T - 1) < T) := by
  unfold need X
  by_cases h : L < S
  · by_cases hT : L < T
    · simp only [h, hT, and_self, if_true]
      obtain ⟨a1, a2, a3⟩ := cd_lt (a := S - L) (b := f) (by omega) hf
      obtain ⟨b1, b2, b3⟩ := cd_lt (a := T - L) (b := f) (by omega) hf
      generalize cd (S - L) f = a at *
      generalize cd (T - L) f = b at *
      by_cases hab : b ≤ a
      · rw [Int.min_eq_right hab]
        have : ¬ (L + b * f < T) := by omega
        rw [if_neg this, Int.min_eq_left hab, Int.min_eq_left (by omega : b - 1 ≤ a)]
        simp only [Int.sub_self, Int.zero_mul, Int.add_zero, Int.sub_mul, Int.one_mul]
        omega
      · have hab' : a < b := by omega
        rw [Int.min_eq_left (by omega : a ≤ b)]
        have hlt : L + a * f < T := by
          have : a * f ≤ (b - 1) * f := Int.mul_le_mul_of_nonneg_right (by omega) (by omega)
          rw [Int.sub_mul, Int.one_mul] at this
          omega
        rw [if_pos hlt]
        obtain ⟨c1, c2, c3⟩ := cd_lt (a := T - (L + a * f)) (b := g) (by omega) hg
        have c4 : 0 < cd (T - (L + a * f)) g := by
          rcases Int.lt_or_le 0 (cd (T - (L + a * f)) g) with h | h
          · exact h
          · have : cd (T - (L + a * f)) g = 0 := by omega
            rw [this, Int.zero_mul] at c1; omega
        generalize cd (T - (L + a * f)) g = c at *
        rw [Int.min_eq_right (by omega : a ≤ a + c), Int.min_eq_right (by omega : a ≤ a + c - 1)]
        have e1 : a + c - a = c := by omega
        have e2 : a + c - 1 - a = c - 1 := by omega
        rw [e1, e2]
        simp only [Int.sub_mul, Int.one_mul]
        omega
    · simp only [h, hT, and_false, if_false, if_true]
      have a3 := (cd_lt (a := S - L) (b := f) (by omega) hf).2.2
      rw [Int.min_eq_left a3]
      simp only [Int.zero_mul, Int.sub_self]
      omega
  · simp only [h, false_and, if_false]
    split
    · obtain ⟨c1, c2, c3⟩ := cd_lt (a := T - L) (b := g) (by omega) hg
      simp only [Int.zero_add, Int.sub_mul, Int.one_mul]
      omega
    · simp only [Int.zero_mul]
      omega
theorem need_le {L S f g T t : Int} (hf : 0 < f) (hg : 0 < g) (hgf : g ≤ f) (ht : 0 ≤ t) (h : T ≤ X L S f g t) : need L S f g T ≤ t := by
  rcases Int.lt_or_le t (need L S f g T) with h1 | h1
  · have := X_mono (L := L) (S := S) hf hg hgf (show t ≤ need L S f g T - 1 by omega)
    have := (need_spec (L := L) (S := S) (T := T) hf hg).2 (by omega)
    omega
  · exact h1
/-- how much that is at most -/
theorem need_small {L S f g T : Int} (hf : 0 < f) (hg : 0 < g) (hL : 0 ≤ L) (hS : 0 ≤ S) (hT : 0 ≤ T) : need L S f g T ≤ S + T := by
  unfold need
  split
  · rename_i h
    have h1 := cd_le (a := S - L) (b := f) (by omega) hf
    have h2 := cd_le (a := T - L) (b := f) (by omega) hf
    have h4 := (cd_lt (a := S - L) (b := f) (by omega) hf).2.2
    have h5 := (cd_lt (a := T - L) (b := f) (by omega) hf).2.2
    split
    · have h3 := cd_le (a := T - (L + min (cd (S - L) f) (cd (T - L) f) * f)) (b := g) (by omega) hg
      have : 0 ≤ min (cd (S - L) f) (cd (T - L) f) * f := Int.mul_nonneg (by omega) (by omega)
      omega
    · omega
  · split
    · have h3 := cd_le (a := T - L) (b := g) (by omega) hg
      omega
    · omega
/-- as the document reckons -/
def gainRef (F L S f g t full : Int) : Int :=
  let n := if L < S then min t (cd (S - L) f) else 0
  let have1 := L + n * f
  let have2 := if t - n > 0 then have1 + min (t - n) (cd (max 0 (F - have1)) g) * g else have1
  min full (have2.tdiv 3600000000)
theorem min_div {F Y full : Int} (hF : F = full * 3600000000) (hY : 0 ≤ Y) : min full (Y.tdiv 3600000000) = (min F Y).tdiv 3600000000 := by
  subst hF
  rw [Int.tdiv_eq_ediv_of_nonneg hY]
  have h1 := Int.mul_ediv_add_emod Y 3600000000
  have h2 := Int.emod_nonneg Y (show (3600000000 : Int) ≠ 0 by decide)
  have h3 := Int.emod_lt_of_pos Y (show (0 : Int) < 3600000000 by decide)
  by_cases h : full * 3600000000 ≤ Y
  · rw [Int.min_eq_left h]
    have : full ≤ Y / 3600000000 := by omega
    rw [Int.min_eq_left this, Int.mul_tdiv_cancel _ (by decide)]
  · rw [Int.min_eq_right (by omega : Y ≤ full * 3600000000), Int.tdiv_eq_ediv_of_nonneg hY]
    have : Y / 3600000000 ≤ full := by omega
    rw [Int.min_eq_right this]
theorem gainRef_eq {F L S f g t full : Int} (hF : F = full * 3600000000) (hL : 0 ≤ L) (hf : 0 < f) (hg : 0 < g) (ht : 0 ≤ t) : gainRef F L S f g t full = (min F (X L S f g t)).tdiv 3600000000 := by
  unfold gainRef X
  simp only
  have key : ∀ (l r : Int), 0 ≤ l → 0 ≤ r → min full ((if r > 0 then l + min r (cd (max 0 (F - l)) g) * g else l).tdiv 3600000000) = (min F (l + r * g)).tdiv 3600000000 := by
    intro l r hl hr
    obtain ⟨c1, c2, c3⟩ := cd_lt (a := max 0 (F - l)) (b := g) (by omega) hg
    have hrg : 0 ≤ r * g := Int.mul_nonneg hr (by omega)
    split
    · generalize cd (max 0 (F - l)) g = c at *
      by_cases hrc : r ≤ c
      · rw [Int.min_eq_left hrc, min_div hF (by omega)]
      · rw [Int.min_eq_right (by omega : c ≤ r)]
        have h1 : c * g ≤ r * g := Int.mul_le_mul_of_nonneg_right (by omega) (by omega)
        rw [min_div hF (by omega), Int.min_eq_left (by omega : F ≤ l + c * g), Int.min_eq_left (by omega : F ≤ l + r * g)]
    · have : r = 0 := by omega
      subst this
      rw [Int.zero_mul, Int.add_zero, min_div hF hl]
  by_cases h : L < S
  · simp only [h, if_true]
    obtain ⟨a1, a2, a3⟩ := cd_lt (a := S - L) (b := f) (by omega) hf
    have h1 : 0 ≤ min t (cd (S - L) f) * f := Int.mul_nonneg (by omega) (by omega)
    exact key _ _ (by omega) (by omega)
  · simp only [h, if_false, Int.zero_mul, Int.add_zero, Int.sub_zero]
    exact key _ _ hL ht
theorem gain_ge {F L S f g t full T want : Int} (hF : F = full * 3600000000) (hT : T = want * 3600000000) (hTF : want ≤ full) (hX : 0 ≤ X L S f g t) (hfull : 0 ≤ full) :
    want ≤ (min F (X L S f g t)).tdiv 3600000000 ↔ T ≤ X L S f g t := by
  subst hF; subst hT
  generalize X L S f g t = Y at *
  rw [Int.tdiv_eq_ediv_of_nonneg (by omega)]
  constructor
  · intro h
    omega
  · intro h
    omega
end Go.Vm.Gain

/- What the functions of BatteriesGain come to. Own work. -/
set_option linter.unusedVariables false
set_option linter.unusedSimpArgs false
namespace Go.Vm
open Go.RowKit
/-! ### small ones -/
def s40 (a b c : Int) : Bool := decide (a < b) || decide (a > c)
theorem h40 (a b c : Int) (hw : WFs A40 (a, b, c, ())) : ∃ k, f40 k a b c = some (s40 a b c, ()) := by
  refine ⟨0, ?_⟩
  unfold f40 s40
  cases decide (a < b) <;> rfl
def s31 (a b c : Int) : Bool := decide (b ≤ a) && decide (a ≤ c)
theorem h31 (a b c : Int) (hw : WFs A31 (a, b, c, ())) : ∃ k, f31 k a b c = some (s31 a b c, ()) := by
  refine ⟨0, ?_⟩
  unfold f31 s31
  cases decide (b ≤ a) <;> rfl
theorem in_out (a b c : Int) : s31 a b c = !s40 a b c := by
  unfold s31 s40
  by_cases h : b ≤ a <;> by_cases h2 : a ≤ c <;> simp [h, h2] <;> omega
def s52 (a : Int) : Bool := false
theorem h52 (a : Int) (hw : WFs A52 (a, ())) : ∃ k, f52 k a = some (s52 a, ()) := by
  refine ⟨0, ?_⟩
  unfold f52 s52
  simp
def s39 (a b : Int) : Int := if a < b then -1 else if a > b then 1 else 0
theorem h39 (a b : Int) (hw : WFs A39 (a, b, ())) : ∃ k, f39 s52 k a b = some (s39 a b, ()) := by
  refine ⟨0, ?_⟩
  unfold f39 s39 s52
  simp only [cond_false]
  by_cases h : a < b
  · simp [h]
  · by_cases h2 : a > b <;> simp [h, h2]
def s11 (b : Bool) (e : Int) : Int := if b then e else 0
theorem h11 (b : Bool) (e : Int) (hw : WFs A11 (b, e, ())) : ∃ k, f11 k b e = some (s11 b e, ()) := by
  refine ⟨0, ?_⟩
  unfold f11 s11
  cases b <;> rfl
/-! ### the first that is not 0 -/
def nz : List Int → Int
  | [] => 0
  | x :: l => if x = 0 then nz l else x
def nzBody (x : Int) : Unit ⊕ ((Int × Unit) ⊕ (Unit × Unit)) := bif x != 0 then .inr (.inl (x, ())) else .inl ()
theorem nz_scan : ∀ (l : List Int) (j : Nat), (match scan (β := Unit) (fun _ x _ => nzBody x) (fun _ => .inr ((), ())) l j () with | .inl z => some z | .inr _ => some ((0 : Int), ())) = some (nz l, ())
  | [], j => rfl
  | x :: l, j => by
    by_cases h : x = 0
    · subst h
      simp only [scan, nzBody, nz, bne_self_eq_false, cond_false, if_true]
      exact nz_scan l (j + 1)
    · have : (x != 0) = true := by simpa using h
      simp only [scan, nzBody, nz, this, cond_true, h, if_false]
theorem h8 (l : List Int) (hw : WFs A8 (l, ())) : ∃ k, f8 k l = some (nz l, ()) := by
  simp only [WFs, WF] at hw
  refine ⟨l.length + 1, ?_⟩
  unfold f8
  rw [iter_scan0 (β := Unit) l (fun j _ => (((j : Int), ()), ())) (fun _ x _ => nzBody x) (fun _ => .inr ((), ())) () ?hs ?hk ?h1 ?h2]
  · exact nz_scan l 0
  case hs => rfl
  case hk => exact Nat.lt_succ_self _
  · intro j x b hx
    simp only [lt_at hx, inR_at hx, rd_at hx, wrap_succ hx hw.1.1, cond_true, nzBody]
    cases (x != 0) <;> rfl
  · intro b
    simp
def s8 (l : List Int) : Int := nz l
def s27 (l : List Int) : Int := nz l
def s38 (l : List Int) : Int := nz l
theorem h27 (l : List Int) (hw : WFs A27 (l, ())) : ∃ k, f27 k l = some (s27 l, ()) := h8 l hw
theorem h38 (l : List Int) (hw : WFs A38 (l, ())) : ∃ k, f38 k l = some (s38 l, ()) := h8 l hw
/-! ### keys -/
def okc (b : UInt8) : Bool := (decide (97 ≤ b.toNat) && decide (b.toNat ≤ 122)) || (decide (48 ≤ b.toNat) && decide (b.toNat ≤ 57)) || b.toNat == 45 || b.toNat == 95
def lower (b : UInt8) : Bool := decide (97 ≤ b.toNat) && decide (b.toNat ≤ 122)
def keyL (l : List UInt8) : Bool := decide (1 ≤ l.length) && decide (l.length ≤ 40) && lower (l.headD 0) && l.all okc
def key (s : ByteArray) : Bool := keyL s.data.toList
theorem size_list (s : ByteArray) : s.size = s.data.toList.length := by rw [Array.length_toList]; rfl
theorem bt_at {s : ByteArray} {j : Nat} {b : UInt8} (h : s.data.toList[j]? = some b) : bt s (j : Int) = (b.toNat : Int) := by
  unfold bt
  have : s.data.getD j 0 = b := by
    rw [Array.getD_eq_getD_getElem?, ← Array.getElem?_toList, h]; rfl
  simp only [Int.toNat_natCast, this]
def allBody (b : UInt8) : Unit ⊕ ((Bool × Unit) ⊕ (Unit × Unit)) := bif okc b then .inl () else .inr (.inl (false, ()))
theorem all_scan (p : UInt8 → Bool) (body : UInt8 → Unit ⊕ ((Bool × Unit) ⊕ (Unit × Unit))) (hb : ∀ b, body b = bif p b then .inl () else .inr (.inl (false, ()))) : ∀ (l : List UInt8) (j : Nat), (match scan (β := Unit) (fun _ x _ => body x) (fun _ => .inr ((), ())) l j () with | .inl z => some z | .inr _ => some (true, ())) = some (l.all p, ())
  | [], j => rfl
  | x :: l, j => by
    simp only [scan, hb, List.all_cons]
    cases p x
    · rfl
    · simp only [cond_true, Bool.true_and]
      have := all_scan p body hb l (j + 1)
      simp only [hb] at this
      exact this
theorem h34 (s t : ByteArray) (hw : WFs A34 (s, t, ())) : ∃ k, f34 (fun s c => Lib.indexByte s.data.toList c.toNat.toUInt8) k s t = some (s.data.toList.all (fun b => t.data.toList.contains b), ()) := by
  simp only [WFs, WF] at hw
  refine ⟨s.data.toList.length + 1, ?_⟩
  unfold f34
  rw [iter_scan0 (β := Unit) s.data.toList (fun j _ => (((j : Int), ()), ())) (fun _ x _ => bif t.data.toList.contains x then .inl () else .inr (.inl (false, ()))) (fun _ => .inr ((), ())) () ?hs ?hk ?h1 ?h2]
  · exact all_scan _ _ (fun b => rfl) _ 0
  case hs => rfl
  case hk => exact Nat.lt_succ_self _
  · intro j x b hx
    have hs : s.data.toList.length ≤ 9223372036854775807 := by rw [← size_list]; exact hw.1
    simp only [size_list, lt_at hx, inR_at hx, bt_at hx, wrap_succ hx hs, cond_true]
    have : decide (Lib.indexByte t.data.toList (x.toNat : Int).toNat.toUInt8 < 0) = !t.data.toList.contains x := by
      have e : (x.toNat : Int).toNat.toUInt8 = x := by simp
      rw [e]
      generalize t.data.toList = l
      induction l with
      | nil => rfl
      | cons y l ih =>
        unfold Lib.indexByte
        have hge := Lib.indexByte_ge l x
        by_cases hyx : y = x
        · subst hyx; simp
        · have h1 : (y == x) = false := by simpa using hyx
          have h2 : (x == y) = false := by simpa using (fun h => hyx h.symm)
          simp only [h1, Bool.false_eq_true, if_false, List.contains_cons, h2, Bool.false_or]
          rw [← ih]
          by_cases h3 : Lib.indexByte l x = -1
          · simp [h3]
          · have : (Lib.indexByte l x == -1) = false := by simpa using h3
            simp only [this, Bool.false_eq_true, if_false]
            congr 1
            apply propext
            omega
    rw [this]
    cases t.data.toList.contains x <;> rfl
  · intro b
    rw [size_list]
    simp
def s51 (s : ByteArray) (c : Int) : Int := Lib.indexByte s.data.toList c.toNat.toUInt8
def s34 (s t : ByteArray) : Bool := s.data.toList.all (fun b => t.data.toList.contains b)
theorem h51 (s : ByteArray) (c : Int) (hw : WFs A51 (s, c, ())) : ∃ k, f51 s63 k s c = some (s51 s c, ()) := ⟨0, rfl⟩
def s36 (s : ByteArray) : Bool := key s
def s12 (s : ByteArray) : Bool := key s
theorem sEq_empty (s : ByteArray) : sEq s (ByteArray.mk #[]) = s.data.toList.isEmpty := by
  unfold sEq
  rw [ByteArray.toList_eq, ByteArray.toList_eq]
  cases s.data.toList <;> rfl
theorem all256 {p : UInt8 → Bool} (h : ∀ n : Fin 256, p (UInt8.ofNat n.1) = true) (b : UInt8) : p b = true := by
  have := h ⟨b.toNat, b.toNat_lt⟩
  simpa using this
theorem smalls_ok : ∀ b : UInt8, (([97, 98, 99, 100, 101, 102, 103, 104, 105, 106, 107, 108, 109, 110, 111, 112, 113, 114, 115, 116, 117, 118, 119, 120, 121, 122] : List UInt8).contains b == lower b) = true := all256 (by decide +kernel)
theorem chars_ok : ∀ b : UInt8, (([97, 98, 99, 100, 101, 102, 103, 104, 105, 106, 107, 108, 109, 110, 111, 112, 113, 114, 115, 116, 117, 118, 119, 120, 121, 122, 48, 49, 50, 51, 52, 53, 54, 55, 56, 57, 45, 95] : List UInt8).contains b == okc b) = true := all256 (by decide +kernel)
theorem h12 (s : ByteArray) (hw : WFs A12 (s, ())) : ∃ k, f12 s31 s34 k s = some (s12 s, ()) := by
  refine ⟨0, ?_⟩
  unfold f12 s12 key keyL s31 s34
  rw [size_list]
  have he : (s.extract (Int.toNat 0) (Int.toNat 1)).data.toList = s.data.toList.take 1 := by simp [ByteArray.data_extract]
  simp only [he]
  generalize s.data.toList = l
  have e1 : (fun b => ([97, 98, 99, 100, 101, 102, 103, 104, 105, 106, 107, 108, 109, 110, 111, 112, 113, 114, 115, 116, 117, 118, 119, 120, 121, 122] : List UInt8).contains b) = lower := funext fun b => by simpa using smalls_ok b
  have e2 : (fun b => ([97, 98, 99, 100, 101, 102, 103, 104, 105, 106, 107, 108, 109, 110, 111, 112, 113, 114, 115, 116, 117, 118, 119, 120, 121, 122, 48, 49, 50, 51, 52, 53, 54, 55, 56, 57, 45, 95] : List UInt8).contains b) = okc := funext fun b => by simpa using chars_ok b
  simp only [e1, e2]
  cases l with
  | nil => rfl
  | cons b l =>
    have h1 : decide ((1 : Int) ≤ ((b :: l).length : Int)) = true := by simp; omega
    have h2 : decide ((((b :: l).length : Nat) : Int) ≤ 40) = decide ((b :: l).length ≤ 40) := by congr 1; apply propext; omega
    have h3 : decide (1 ≤ (b :: l).length) = true := by simp
    simp only [h1, h2, h3, Bool.true_and]
    cases decide ((b :: l).length ≤ 40)
    · rfl
    · simp only [cond_true, Int.le_refl, decide_true, Bool.true_and, show decide ((0 : Int) ≤ 1) = true from rfl, List.take_succ_cons, List.take_zero, List.all_cons, List.all_nil, Bool.and_true, List.headD_cons]
      cases lower b <;> rfl
theorem h36 (s : ByteArray) (hw : WFs A36 (s, ())) : ∃ k, f36 k s = some (s36 s, ()) := by
  simp only [WFs, WF] at hw
  refine ⟨s.data.toList.length + 1, ?_⟩
  unfold f36 s36 key keyL
  rw [sEq_empty]
  cases hl : s.data.toList with
  | nil => rfl
  | cons b l =>
    have h0 : s.data.toList[0]? = some b := by rw [hl]; rfl
    have hb : bt s (0 : Int) = (b.toNat : Int) := bt_at h0
    have hin : inR (0 : Int) (s.size : Int) = true := by
      have := inR_at h0
      rw [← size_list] at this
      exact this
    rw [← hl]
    have hne : (s.data.toList).isEmpty = false := by rw [hl]; rfl
    have h1 : decide (1 ≤ s.data.toList.length) = true := by rw [hl]; simp
    have hh : s.data.toList.headD 0 = b := by rw [hl]; rfl
    have h2 : decide (((s.size : Nat) : Int) > 40) = !decide (s.data.toList.length ≤ 40) := by
      rw [size_list, ← decide_not]
      congr 1; apply propext; omega
    simp only [hne, h1, hh, h2, hin, hb, cond_false, cond_true, Bool.true_and]
    cases decide (s.data.toList.length ≤ 40)
    · rfl
    · simp only [Bool.not_true, cond_false, Bool.true_and]
      unfold lower
      have e1 : decide ((b.toNat : Int) < 97) = !decide (97 ≤ b.toNat) := by by_cases h : 97 ≤ b.toNat <;> simp [h] <;> omega
      have e2 : decide ((b.toNat : Int) > 122) = !decide (b.toNat ≤ 122) := by by_cases h : b.toNat ≤ 122 <;> simp [h] <;> omega
      rw [e1, e2]
      cases decide (97 ≤ b.toNat)
      · rfl
      · cases decide (b.toNat ≤ 122)
        · rfl
        · simp only [Bool.not_true, cond_false, Bool.true_and]
          rw [iter_scan0 (β := Unit) s.data.toList (fun j _ => (((j : Int), ()), ())) (fun _ x _ => allBody x) (fun _ => .inr ((), ())) () ?hs ?hk ?h1 ?h2]
          case hs => rfl
          case hk => exact Nat.lt_succ_self _
          · exact all_scan _ _ (fun b => rfl) _ 0
          · intro j x b hx
            have hs : s.data.toList.length ≤ 9223372036854775807 := by rw [← size_list]; exact hw.1
            simp only [size_list, lt_at hx, inR_at hx, bt_at hx, wrap_succ hx hs, cond_true]
            unfold allBody okc
            have a1 : decide ((x.toNat : Int) ≥ 97) = decide (97 ≤ x.toNat) := by congr 1; apply propext; omega
            have a2 : decide ((x.toNat : Int) ≤ 122) = decide (x.toNat ≤ 122) := by congr 1; apply propext; omega
            have a3 : decide ((x.toNat : Int) ≥ 48) = decide (48 ≤ x.toNat) := by congr 1; apply propext; omega
            have a4 : decide ((x.toNat : Int) ≤ 57) = decide (x.toNat ≤ 57) := by congr 1; apply propext; omega
            have a5 : ((x.toNat : Int) == 45) = (x.toNat == 45) := by rw [Bool.eq_iff_iff]; simp only [beq_iff_eq]; omega
            have a6 : ((x.toNat : Int) == 95) = (x.toNat == 95) := by rw [Bool.eq_iff_iff]; simp only [beq_iff_eq]; omega
            rw [a1, a2, a3, a4, a5, a6]
            cases decide (97 ≤ x.toNat) <;> cases decide (x.toNat ≤ 122) <;> cases decide (48 ≤ x.toNat) <;> cases decide (x.toNat ≤ 57) <;> cases (x.toNat == 45) <;> cases (x.toNat == 95) <;> rfl
          · intro b
            rw [size_list]
            simp
end Go.Vm

/- Lists that are checked. Own work. -/
set_option linter.unusedVariables false
set_option linter.unusedSimpArgs false
namespace Go.Vm
open Go.RowKit
def leS (a b : ByteArray) : Bool := sLt a b || sEq a b
/-- what is wrong with a list in the order of its keys -/
def chk {α : Type} (kf : α → ByteArray) (φ : α → Int) : Option ByteArray → List α → Int
  | _, [] => 0
  | p, x :: l => bif !key (kf x) then 5 else bif (match p with | none => false | some q => leS (kf x) q) then 7 else bif φ x != 0 then φ x else chk kf φ (some (kf x)) l
def prevK {α : Type} (kf : α → ByteArray) (xs : List α) (j : Nat) : Option ByteArray := if j = 0 then none else (xs[j - 1]?).map kf
def chkBody {α : Type} (kf : α → ByteArray) (φ : α → Int) (xs : List α) (j : Nat) (x : α) (_ : Unit) : Unit ⊕ ((Int × Unit) ⊕ (Unit × Unit)) :=
  bif !key (kf x) then .inr (.inl (5, ())) else bif (match prevK kf xs j with | none => false | some q => leS (kf x) q) then .inr (.inl (7, ())) else bif φ x != 0 then .inr (.inl (φ x, ())) else .inl ()
theorem chk_scan {α : Type} (kf : α → ByteArray) (φ : α → Int) (xs : List α) : ∀ (l : List α) (j : Nat), xs.drop j = l →
    (match scan (chkBody kf φ xs) (fun _ => .inr ((), ())) l j () with | .inl z => some z | .inr _ => some ((0 : Int), ())) = some (chk kf φ (prevK kf xs j) l, ())
  | [], j, hl => rfl
  | x :: l, j, hl => by
    have hx : xs[j]? = some x := by rw [← List.head?_drop, hl]; rfl
    have hl' : xs.drop (j + 1) = l := by rw [← List.drop_drop, hl]; rfl
    simp only [scan, chk, chkBody]
    cases !key (kf x)
    · simp only [cond_false]
      generalize (match prevK kf xs j with | none => false | some q => leS (kf x) q) = b
      cases b
      · simp only [cond_false]
        cases φ x != 0
        · simp only [cond_false]
          have := chk_scan kf φ xs l (j + 1) hl'
          have hp : prevK kf xs (j + 1) = some (kf x) := by simp [prevK, hx]
          rw [hp] at this
          exact this
        · rfl
      · rfl
    · rfl
/-- .. as the reference goes: with the last key -/
def chkLast {α : Type} (kf : α → ByteArray) (φ : α → Int) : ByteArray → List α → Int
  | _, [] => 0
  | p, x :: l => bif !key (kf x) then 5 else bif leS (kf x) p then 7 else bif φ x != 0 then φ x else chkLast kf φ (kf x) l
theorem chkLast_eq {α : Type} (kf : α → ByteArray) (φ : α → Int) : ∀ (l : List α) (p : ByteArray), chkLast kf φ p l = chk kf φ (some p) l
  | [], p => rfl
  | x :: l, p => by simp only [chkLast, chk, chkLast_eq kf φ l]
theorem leS_empty {s : ByteArray} (h : key s = true) : leS s (ByteArray.mk #[]) = false := by
  unfold leS
  rw [sEq_empty]
  unfold sLt
  rw [ByteArray.toList_eq, ByteArray.toList_eq]
  unfold key keyL at h
  cases hl : s.data.toList with
  | nil => rw [hl] at h; simp at h
  | cons b l => rfl
theorem chkLast_first {α : Type} (kf : α → ByteArray) (φ : α → Int) (l : List α) : chkLast kf φ (ByteArray.mk #[]) l = chk kf φ none l := by
  cases l with
  | nil => rfl
  | cons x l =>
    simp only [chkLast, chk]
    cases hk : key (kf x)
    · rfl
    · simp only [leS_empty hk, Bool.not_true, cond_false, chkLast_eq]
def lastBody {α : Type} (kf : α → ByteArray) (φ : α → Int) (_ : Nat) (x : α) (p : ByteArray) : ByteArray ⊕ ((Int × Unit) ⊕ (Unit × Unit)) :=
  bif !key (kf x) then .inr (.inl (5, ())) else bif leS (kf x) p then .inr (.inl (7, ())) else bif φ x != 0 then .inr (.inl (φ x, ())) else .inl (kf x)
theorem last_scan {α : Type} (kf : α → ByteArray) (φ : α → Int) : ∀ (l : List α) (j : Nat) (p : ByteArray),
    (match scan (lastBody kf φ) (fun _ => .inr ((), ())) l j p with | .inl z => some z | .inr _ => some ((0 : Int), ())) = some (chkLast kf φ p l, ())
  | [], j, p => rfl
  | x :: l, j, p => by
    simp only [scan, chkLast, lastBody]
    cases !key (kf x)
    · simp only [cond_false]
      cases leS (kf x) p
      · simp only [cond_false]
        cases φ x != 0
        · exact last_scan kf φ l (j + 1) (kf x)
        · rfl
      · rfl
    · rfl
theorem prev_at {α : Type} {xs : List α} {j : Nat} {x : α} (h : xs[j]? = some x) (hl : xs.length ≤ 9223372036854775807) (hj : j ≠ 0) : ∃ y, xs[j - 1]? = some y ∧ IntKind.i64.wrap ((j : Int) - 1) = ((j - 1 : Nat) : Int) := by
  have := (List.getElem?_eq_some_iff.1 h).1
  refine ⟨xs[j - 1], List.getElem?_eq_getElem (by omega), ?_⟩
  rw [wrap_ok (by omega) (by omega)]; omega
/-! ### vehicles, places -/
abbrev Veh := ByteArray × Int × Int × Int × Int × Unit
abbrev Plc := ByteArray × Int × Int × Unit
def vehBad (v : Veh) : Int := bif s40 v.2.1 1 1000000 then 1 else bif s40 v.2.2.1 0 v.2.1 then 1 else bif s40 v.2.2.2.1 1 1000000 then 1 else bif s40 v.2.2.2.2.1 0 1000 then 1 else 0
def plcBad (v : Plc) : Int := bif s40 v.2.1 1 50 then 1 else bif s40 v.2.2.1 1 1000000 then 1 else 0
def vehsFault (l : List Veh) : Int := if l.length > 200 then 2 else chk (·.1) vehBad none l
def plcsFault (l : List Plc) : Int := if l.length > 50 then 2 else chk (·.1) plcBad none l
theorem len_gt {α : Type} (l : List α) (n : Nat) : decide ((l.length : Int) > (n : Int)) = decide (l.length > n) := by congr 1; apply propext; omega
end Go.Vm

/- Needs by halving; the law. Own work. -/
set_option linter.unusedVariables false
set_option linter.unusedSimpArgs false
namespace Go.Vm
open Go.RowKit Go.Vm.Gain
/-! ### one vehicle, one place -/
theorem nz2 {a b : Int} (h : nz [a, b] = 0) : a = 0 ∧ b = 0 := by
  simp only [nz] at h
  split at h
  · rename_i ha
    split at h
    · rename_i hb; exact ⟨ha, hb⟩
    · exact ⟨ha, h⟩
  · rename_i ha; exact absurd h ha
theorem one_fault {α : Type} {kf : α → ByteArray} {φ : α → Int} {x : α} (h : chk kf φ none [x] = 0) : φ x = 0 := by
  simp only [chk] at h
  cases hk : key (kf x)
  · rw [hk] at h; cases h
  · rw [hk] at h
    simp only [Bool.not_true, cond_false] at h
    by_cases hx : φ x = 0
    · exact hx
    · have : (φ x != 0) = true := by simpa using hx
      rw [this] at h
      exact h
theorem out_false {a b c : Int} (h : s40 a b c = false) : b ≤ a ∧ a ≤ c := by
  unfold s40 at h
  simp only [Bool.or_eq_false_iff, decide_eq_false_iff_not] at h
  omega
/-! ### drivers, at one input -/
end Go.Vm

/- LevelsReckoned: what is wrong with trips and charges. Own work. -/
set_option linter.unusedVariables false
set_option linter.unusedSimpArgs false
namespace Go.Vm
open Go.RowKit Go.Vm.Gain
abbrev Run := ByteArray × (Int × Int × Unit) × Int × Int × Unit
abbrev Chg := ByteArray × ByteArray × Int × Int × Int × Unit
abbrev Trn := Int × Int × Int × Unit
theorem in_not_out (a b c : Int) : (!s31 a b c) = s40 a b c := by
  unfold s31 s40
  rw [Bool.not_and]
  congr 1
  · rw [← decide_not]; congr 1; apply propext; omega
  · rw [← decide_not]; congr 1; apply propext; omega
/-! ### moments -/
def s32 (a : Int) : Bool := !s40 a 0 345686399999
def s37 (a : Int) : Bool := !s40 a 0 345686399999
def s13 (a : Int) : Int := s11 (s40 a 0 345686399999) 1
theorem h32 (a : Int) (hw : WFs A32 (a, ())) : ∃ k, f32 s31 k a = some (s32 a, ()) := ⟨0, by unfold f32 s32; rw [← in_not_out]; simp⟩
theorem h37 (a : Int) (hw : WFs A37 (a, ())) : ∃ k, f37 s40 k a = some (s37 a, ()) := ⟨0, rfl⟩
theorem h13 (a : Int) (hw : WFs A13 (a, ())) : ∃ k, f13 s11 s32 k a = some (s13 a, ()) := ⟨0, by unfold f13 s13 s32; simp⟩
/-! ### trips -/
def runBad (t : Run) : Bool := decide (t.2.1.1 < 0) || (decide (t.2.1.1 ≥ t.2.1.2.1) || (decide (t.2.1.2.1 > 345686400000) || (s40 t.2.2.1 0 1000000000 || s40 t.2.2.2.1 0 1000000)))
def runB (t : Run) (p : Option Run) : Option Run ⊕ ((Int × Unit) ⊕ (Unit × Unit)) :=
  bif !key t.1 then .inr (.inl (5, ())) else bif runBad t then .inr (.inl (1, ())) else match p with
    | none => .inl (some t)
    | some o => bif sLt t.1 o.1 then .inr (.inl (7, ())) else bif sEq t.1 o.1 then bif decide (t.2.1.1 < o.2.1.2.1) then .inr (.inl (7, ())) else .inl (some t) else .inl (some t)
def runsFault (l : List Run) : Int := if l.length > 1000 then 2 else out1 (scan (fun _ => runB) (fun _ => .inr ((), ())) l 0 none)
def RJ (xs : List Run) (j : Nat) (p : Option Run) : Prop := (j = 0 ∧ p = none) ∨ ∃ o, 0 < j ∧ xs[j - 1]? = some o ∧ p = some o ∧ o.2.1.1 < o.2.1.2.1
theorem RJ_next {xs : List Run} (j : Nat) (x : Run) (b b' : Option Run) (hx : xs[j]? = some x) (h : runB x b = .inl b') : RJ xs (j + 1) b' := by
  unfold runB at h
  cases hk : key x.1
  · rw [hk] at h; cases h
  · cases hb : runBad x
    · have hlt : x.2.1.1 < x.2.1.2.1 := by
        simp only [runBad, Bool.or_eq_false_iff, decide_eq_false_iff_not] at hb
        omega
      rw [hk, hb] at h
      right
      refine ⟨x, by omega, hx, ?_, hlt⟩
      cases b with
      | none => simp only [Bool.not_true, cond_false, Sum.inl.injEq] at h; exact h.symm
      | some o =>
        simp only [Bool.not_true, cond_false] at h
        cases h1 : sLt x.1 o.1 <;> rw [h1] at h
        · cases h2 : sEq x.1 o.1 <;> rw [h2] at h
          · simp only [cond_false, Sum.inl.injEq] at h; exact h.symm
          · simp only [cond_false, cond_true] at h
            cases h3 : decide (x.2.1.1 < o.2.1.2.1) <;> rw [h3] at h
            · simp only [cond_false, Sum.inl.injEq] at h; exact h.symm
            · simp at h
        · simp at h
    · rw [hk, hb] at h; cases h
theorem prev_of {xs : List Run} {j : Nat} {o : Run} (hl : xs.length ≤ 9223372036854775807) (h : 0 < j) (ho : xs[j - 1]? = some o) : IntKind.i64.wrap ((j : Int) - 1) = ((j - 1 : Nat) : Int) := by
  have := (List.getElem?_eq_some_iff.1 ho).1
  rw [wrap_ok (by omega) (by omega)]; omega
/-! ### charges -/
def chgBad (c : Chg) : Bool := (!(c.2.2.1 == -1 && c.2.2.2.1 == -1) && (s40 c.2.2.1 0 c.2.2.2.1 || decide (c.2.2.2.1 > 345686400000))) || s40 c.2.2.2.2.1 0 1000000
def chgB (c : Chg) (_ : Unit) : Unit ⊕ ((Int × Unit) ⊕ (Unit × Unit)) :=
  bif !key c.1 then .inr (.inl (5, ())) else bif !key c.2.1 then .inr (.inl (5, ())) else bif chgBad c then .inr (.inl (1, ())) else .inl ()
def chgsFault (l : List Chg) : Int := if l.length > 1000 then 2 else out1 (scan (fun _ => chgB) (fun _ => .inr ((), ())) l 0 ())
end Go.Vm

/- LevelsReckoned, the law. Own work. -/
set_option linter.unusedVariables false
set_option linter.unusedSimpArgs false
namespace Go.Vm
open Go.RowKit Go.Vm.Gain
theorem runB_cases (x : Run) (p : Option Run) : (runB x p = .inl (some x) ∧ runBad x = false) ∨ ∃ e : Int, e ≠ 0 ∧ runB x p = .inr (.inl (e, ())) := by
  unfold runB
  cases key x.1
  · exact .inr ⟨5, by decide, rfl⟩
  · cases runBad x
    · cases p with
      | none => exact .inl ⟨rfl, rfl⟩
      | some o =>
        simp only
        cases sLt x.1 o.1
        · cases sEq x.1 o.1
          · exact .inl ⟨rfl, trivial⟩
          · cases decide (x.2.1.1 < o.2.1.2.1)
            · exact .inl ⟨rfl, trivial⟩
            · exact .inr ⟨7, by decide, rfl⟩
        · exact .inr ⟨7, by decide, rfl⟩
    · exact .inr ⟨1, by decide, rfl⟩
theorem runs_right : ∀ (l : List Run) (j : Nat) (p : Option Run), out1 (scan (fun _ => runB) (fun _ => .inr ((), ())) l j p) = 0 → ∀ t ∈ l, runBad t = false
  | [], _, _, _, t, ht => by cases ht
  | x :: l, j, p, h, t, ht => by
    simp only [scan] at h
    rcases runB_cases x p with ⟨e, hb⟩ | ⟨e, he, e2⟩
    · rw [e] at h
      rcases List.mem_cons.1 ht with rfl | ht
      · exact hb
      · exact runs_right l (j + 1) _ h t ht
    · rw [e2] at h
      exact absurd h he
theorem chgB_cases (x : Chg) : (chgB x () = .inl () ∧ chgBad x = false) ∨ ∃ e : Int, e ≠ 0 ∧ chgB x () = .inr (.inl (e, ())) := by
  unfold chgB
  cases key x.1
  · exact .inr ⟨5, by decide, rfl⟩
  · cases key x.2.1
    · exact .inr ⟨5, by decide, rfl⟩
    · cases chgBad x
      · exact .inl ⟨rfl, rfl⟩
      · exact .inr ⟨1, by decide, rfl⟩
theorem chgs_right : ∀ (l : List Chg) (j : Nat), out1 (scan (fun _ => chgB) (fun _ => .inr ((), ())) l j ()) = 0 → ∀ t ∈ l, chgBad t = false
  | [], _, _, t, ht => by cases ht
  | x :: l, j, h, t, ht => by
    simp only [scan] at h
    rcases chgB_cases x with ⟨e, hb⟩ | ⟨e, he, e2⟩
    · rw [e] at h
      rcases List.mem_cons.1 ht with rfl | ht
      · exact hb
      · exact chgs_right l (j + 1) h t ht
    · rw [e2] at h
      exact absurd h he
theorem nz_cons (a : Int) (l : List Int) : nz (a :: l) = 0 ↔ a = 0 ∧ nz l = 0 := by
  simp only [nz]
  by_cases h : a = 0 <;> simp [h]
theorem nz4 (a b c d : Int) : nz [a, b, c, d] = if nz [a, b, c] = 0 then d else nz [a, b, c] := by
  simp only [nz]
  by_cases ha : a = 0
  · by_cases hb : b = 0
    · by_cases hc : c = 0
      · by_cases hd : d = 0 <;> simp [ha, hb, hc, hd]
      · simp [ha, hb, hc]
    · simp [ha, hb]
  · simp [ha]
theorem nzp (a b : Int) : nz [a, b] = if a = 0 then b else a := by
  simp only [nz]
  by_cases ha : a = 0
  · by_cases hb : b = 0 <;> simp [ha, hb]
  · simp [ha]
theorem fault_L (a b c x m : Int) : (bif decide (x < 0) then (some (.inr ((nz [a, b, c, s11 true 1], ()), ())) : Option ((Bool × Unit) ⊕ ((Int × Unit) × Unit))) else some (.inr ((nz [a, b, c, s11 (decide (x > m)) 1], ()), ()))) = some (.inr ((nz [a, b, c, s11 (s40 x 0 m) 1], ()), ())) := by
  unfold s40
  cases decide (x < 0) <;> rfl
def s5Gain (v : Veh) (t : List Run) (c : List Chg) (st at_ : Int) : Option (Bool × Unit) := if t.length ≤ 4294967296 ∧ c.length ≤ 4294967296 then some (true, ()) else none
end Go.Vm

/- ShiftsCovered: the law. Own work. -/
set_option linter.unusedVariables false
set_option linter.unusedSimpArgs false
namespace Go.Vm
open Go.RowKit Go.Vm.Gain
theorem zip_none {α : Type} {ne : α → α → Bool} (hne : ∀ a b, ne a b = false ↔ a = b) : ∀ {a b : List α}, a.length = b.length → ((List.zip a b).findIdx? (fun q => ne q.1 q.2) = none ↔ a = b)
  | [], [], _ => by simp
  | [], _ :: _, h => by simp at h
  | _ :: _, [], h => by simp at h
  | x :: a, y :: b, h => by
    have ih := zip_none hne (a := a) (b := b) (by simpa using h)
    simp only [List.zip_cons_cons, List.findIdx?_cons, List.cons.injEq]
    cases hq : ne x y
    · have := (hne x y).1 hq
      simp only [Bool.false_eq_true, if_false, Option.map_eq_none_iff, ih, this, true_and]
    · have : x ≠ y := fun e => by rw [(hne x y).2 e] at hq; cases hq
      simp [this]
def wne (x y : Wd) : Bool := !((x.1 == y.1) && ((x.2.1 == y.2.1) && true))
theorem wne_iff (x y : Wd) : wne x y = false ↔ x = y := by
  obtain ⟨a, b, ⟨⟩⟩ := x
  obtain ⟨c, d, ⟨⟩⟩ := y
  simp [wne]
theorem fault_S (a b m : Int) (n : Int) : (bif decide (m < 0) then (some (.inr ((nz [a, b, s11 true 1], ()), ())) : Option ((Bool × Unit) ⊕ ((Int × Unit) × Unit))) else some (.inr ((nz [a, b, s11 (decide (m > n)) 1], ()), ()))) = some (.inr ((nz [a, b, s11 (s40 m 0 n) 1], ()), ())) := by
  unfold s40
  cases decide (m < 0) <;> rfl
end Go.Vm

/- DeedsMerge: small functions; what is wrong with a deed; their order. Own work. -/
set_option linter.unusedVariables false
set_option linter.unusedSimpArgs false
namespace Go.Vm
open Go.RowKit Go.Vm.Gain
abbrev Rd : Type := ByteArray × ByteArray × ByteArray × ByteArray × Int × Int × Int × Int × Unit
abbrev Cr : Type := ByteArray × Int × Int × Unit
abbrev Dd : Type := ByteArray × Int × Int × Int × ByteArray × ByteArray × Cr × Rd × Unit
abbrev dSite (d : Dd) : ByteArray := d.1
abbrev dNo (d : Dd) : Int := d.2.1
abbrev dAt (d : Dd) : Int := d.2.2.1
abbrev dKind (d : Dd) : Int := d.2.2.2.1
abbrev dKey (d : Dd) : ByteArray := d.2.2.2.2.1
abbrev dNode (d : Dd) : ByteArray := d.2.2.2.2.2.1
abbrev dCar (d : Dd) : Cr := d.2.2.2.2.2.2.1
abbrev dRide (d : Dd) : Rd := d.2.2.2.2.2.2.2.1
theorem sEq_self (a : ByteArray) : sEq a a = true := sEq_iff.2 rfl
/-! ### strings.Compare -/
def s48 (a b : ByteArray) : Int := cmpS a b
theorem h48 (a b : ByteArray) (hw : WFs A48 (a, b, ())) : ∃ k, f48 s60 k a b = some (s48 a b, ()) := ⟨0, rfl⟩
theorem s128_cmp (a b : Int) : s39 a b = cmpI a b := rfl
/-! ### rides -/
theorem all_find {α : Type} (p : α → Bool) (l : List α) : l.all p = (l.findIdx? fun x => !p x).isNone := by
  induction l with
  | nil => rfl
  | cons x l ih =>
    simp only [List.all_cons, List.findIdx?_cons, ih]
    cases p x
    · rfl
    · simp
/-- what is wrong with a ride -/
def rFault (r : Rd) : Int :=
  bif !(key r.1 && (key r.2.1 && (key r.2.2.1 && key r.2.2.2.1))) then 5 else bif sEq r.2.2.1 r.2.2.2.1 then 6 else bif !s37 r.2.2.2.2.1 then 1
  else bif s40 r.2.2.2.2.2.1 (IntKind.i64.wrap (r.2.2.2.2.1 + 1)) 345686400000 then 1 else bif s40 r.2.2.2.2.2.2.1 0 60 then 1 else bif s40 r.2.2.2.2.2.2.2.1 0 60 then 1
  else bif IntKind.i64.wrap (r.2.2.2.2.2.2.1 + r.2.2.2.2.2.2.2.1) == 0 then 3 else 0
theorem cond_one {α : Type} (b : Bool) (x y : α) : (bif b then (some (x, ()) : Option (α × Unit)) else some (y, ())) = some (bif b then x else y, ()) := by cases b <;> rfl
/-! ### deeds -/
def zC (c : Cr) : Bool := sEq c.1 ByteArray.empty && (c.2.1 == 0 && (c.2.2.1 == 0 && true))
def zR (r : Rd) : Bool := sEq r.1 ByteArray.empty && (sEq r.2.1 ByteArray.empty && (sEq r.2.2.1 ByteArray.empty && (sEq r.2.2.2.1 ByteArray.empty && (r.2.2.2.2.1 == 0 && (r.2.2.2.2.2.1 == 0 && (r.2.2.2.2.2.2.1 == 0 && (r.2.2.2.2.2.2.2.1 == 0 && true)))))))
/-- what is wrong with a deed -/
def dFault (d : Dd) : Int :=
  bif !key (dSite d) then 5 else bif s40 (dNo d) 1 1000000 then 1 else bif !s37 (dAt d) then 1 else bif s40 (dKind d) 1 4 then 4 else
  bif dKind d == 1 then (bif !key (dCar d).1 then 5 else bif !key (dNode d) then 5 else bif s40 (dCar d).2.1 0 60 then 1 else bif s40 (dCar d).2.2.1 0 60 then 1 else bif !(sEq (dKey d) ByteArray.empty && zR (dRide d)) then 3 else 0)
  else bif dKind d == 3 then (bif rFault (dRide d) != 0 then rFault (dRide d) else bif !(sEq (dKey d) ByteArray.empty && (sEq (dNode d) ByteArray.empty && zC (dCar d))) then 3 else 0)
  else (bif !key (dKey d) then 5 else bif !(sEq (dNode d) ByteArray.empty && (zC (dCar d) && zR (dRide d))) then 3 else 0)
/-! ### their order -/
def dCmp : Dd → Dd → Int := lexC (fun a b => cmpI (dAt a) (dAt b)) (lexC (fun a b => cmpS (dSite a) (dSite b)) (fun a b => cmpI (dNo a) (dNo b)))
theorem dCmp_ok : CmpOK dCmp (fun _ => True) := (cmpI_ok.on dAt).lex ((cmpS_ok.on dSite).lex (cmpI_ok.on dNo))
theorem nz_lex (a b c : Int) : nz [a, b, c] = if a = 0 then (if b = 0 then c else b) else a := by
  simp only [nz]
  by_cases ha : a = 0
  · by_cases hb : b = 0
    · by_cases hc : c = 0 <;> simp [ha, hb, hc]
    · simp [ha, hb]
  · simp [ha]
/-- a deed whose numbers are moderate -/
def Small (d : Dd) : Prop := 0 ≤ dAt d ∧ dAt d < 345686400000 ∧ 0 ≤ dNo d ∧ dNo d ≤ 1000001
theorem cond_zero {b : Bool} {x y : Int} (h : (bif b then x else y) = 0) (hx : x ≠ 0) : b = false ∧ y = 0 := by
  cases b
  · exact ⟨rfl, h⟩
  · exact absurd h hx
theorem outd_false {a b c : Int} (h : s40 a b c = false) : b ≤ a ∧ a ≤ c := by
  unfold s40 at h
  simp only [Bool.or_eq_false_iff, decide_eq_false_iff_not] at h
  omega
theorem small_of {d : Dd} (h : dFault d = 0) : Small d ∧ (1 ≤ dKind d ∧ dKind d ≤ 4) := by
  unfold dFault at h
  obtain ⟨h1, h⟩ := cond_zero h (by decide)
  obtain ⟨h2, h⟩ := cond_zero h (by decide)
  obtain ⟨h3, h⟩ := cond_zero h (by decide)
  obtain ⟨h4, h⟩ := cond_zero h (by decide)
  simp only [Bool.not_eq_false'] at h1 h3
  unfold s37 at h3
  simp only [Bool.not_eq_true'] at h3
  have := outd_false h2
  have := outd_false h3
  have := outd_false h4
  exact ⟨⟨by omega, by omega, by omega, by omega⟩, by omega⟩
end Go.Vm

/- DeedsMerge: what is wrong with deeds. Own work. -/
set_option linter.unusedVariables false
set_option linter.unusedSimpArgs false
namespace Go.Vm
open Go.RowKit Go.Vm.Gain
section
variable {α : Type}
def ordP (ord : α → α → Bool) (p : Option α) (x : α) : Bool := match p with | none => false | some o => ord o x
/-- each by itself, and with the one before -/
def chkP (bad : α → Int) (ord : α → α → Bool) : Option α → List α → Int
  | _, [] => 0
  | p, x :: l => bif bad x != 0 then bad x else bif ordP ord p x then 7 else chkP bad ord (some x) l
def chkPB (bad : α → Int) (ord : α → α → Bool) (x : α) (p : Option α) : Option α ⊕ ((Int × Unit) ⊕ (Unit × Unit)) :=
  bif bad x != 0 then .inr (.inl (bad x, ())) else bif ordP ord p x then .inr (.inl (7, ())) else .inl (some x)
theorem chkP_scan (bad : α → Int) (ord : α → α → Bool) : ∀ (l : List α) (j : Nat) (p : Option α), scan (fun _ => chkPB bad ord) (fun _ => .inr ((), ())) l j p = bif chkP bad ord p l != 0 then .inl (chkP bad ord p l, ()) else .inr ((), ())
  | [], j, p => rfl
  | x :: l, j, p => by
    simp only [scan, chkPB, chkP]
    cases h : bad x != 0
    · simp only [cond_false]
      cases h2 : ordP ord p x
      · simp only [cond_false]
        exact chkP_scan bad ord l (j + 1) (some x)
      · rfl
    · simp only [cond_true, h]
/-- the one before -/
def PJ (xs : List α) (j : Nat) (p : Option α) : Prop := (j = 0 ∧ p = none) ∨ ∃ o, 0 < j ∧ xs[j - 1]? = some o ∧ p = some o
theorem iter_chkP {xs : List α} {f : (Int × Unit) × Unit → Option (((Int × Unit) × Unit) ⊕ ((Int × Unit) ⊕ (Unit × Unit)))} (bad : α → Int) (ord : α → α → Bool)
    (h1 : ∀ (j : Nat) (x : α) (p : Option α), xs[j]? = some x → PJ xs j p → f (((j : Int), ()), ()) = some (match chkPB bad ord x p with | .inl _ => .inl ((((j + 1 : Nat) : Int), ()), ()) | .inr t => .inr t))
    (h2 : f (((xs.length : Int), ()), ()) = some (.inr (.inr ((), ())))) :
    iter (xs.length + 1) f (((0 : Int), ()), ()) = some (bif chkP bad ord none xs != 0 then .inl (chkP bad ord none xs, ()) else .inr ((), ())) := by
  rw [iter_scanI (s0 := (((0 : Int), ()), ())) (k := xs.length + 1) (β := Option α) xs (fun j _ => (((j : Int), ()), ())) (fun _ => chkPB bad ord) (fun _ => .inr ((), ())) (PJ xs) none (.inl ⟨rfl, rfl⟩) rfl (Nat.lt_succ_self _) ?_ ?_ (fun _ _ => h2), chkP_scan]
  · intro j x b b' hx _ h
    refine .inr ⟨x, Nat.succ_pos _, by simpa using hx, ?_⟩
    unfold chkPB at h
    cases h3 : bad x != 0 <;> rw [h3] at h
    · cases h4 : ordP ord b x <;> rw [h4] at h
      · cases h; rfl
      · cases h
    · cases h
  · intro j x b hx hJ
    rw [h1 j x b hx hJ]
    cases chkPB bad ord x b <;> rfl
theorem chkP_congr {bad : α → Int} {o1 o2 : α → α → Bool} (h : ∀ o x, bad o = 0 → bad x = 0 → o1 o x = o2 o x) : ∀ (l : List α) (p : Option α), (∀ o, p = some o → bad o = 0) → chkP bad o1 p l = chkP bad o2 p l
  | [], p, _ => rfl
  | x :: l, p, hp => by
    simp only [chkP]
    cases hb : bad x != 0
    · have hx : bad x = 0 := by simpa using hb
      have : ordP o1 p x = ordP o2 p x := by
        cases p with
        | none => rfl
        | some o => exact h o x (hp o rfl) hx
      rw [this, chkP_congr h l (some x) (fun o e => by cases e; exact hx)]
    · rfl
theorem chkP_all {bad : α → Int} {ord : α → α → Bool} : ∀ (l : List α) (p : Option α), chkP bad ord p l = 0 → ∀ x ∈ l, bad x = 0
  | [], p, _, x, hx => by cases hx
  | y :: l, p, h, x, hx => by
    simp only [chkP] at h
    cases hb : bad y != 0 <;> rw [hb] at h
    · cases h2 : ordP ord p y <;> rw [h2] at h
      · rcases List.mem_cons.1 hx with rfl | hx
        · simpa using hb
        · exact chkP_all l _ h x hx
      · cases h
    · simp only [cond_true] at h
      simp [h] at hb
end
section
variable {α κ : Type} {eq : κ → κ → Bool} (heq : ∀ a b, eq a b = true ↔ a = b) (nm : α → κ)
def seenB (eq : κ → κ → Bool) (nm : α → κ) (x : α) (c : List (κ × Bool × Nat) × Nat) : (List (κ × Bool × Nat) × Nat) ⊕ ((Int × Unit) ⊕ (Unit × ((List (κ × Bool × Nat) × Nat) × Unit))) :=
  bif mget eq false (nm x) c.1 then .inr (.inl (6, ())) else .inl (mput eq (nm x) true c)
include heq
open Classical in
theorem seen_scan : ∀ (l : List α) (j : Nat) (c : List (κ × Bool × Nat) × Nat) (seen : List κ), (∀ n, mget eq false n c.1 = true ↔ n ∈ seen) →
    (match scan (fun _ => seenB eq nm) (fun c => .inr ((), (c, ()))) l j c with | .inl z => some z | .inr _ => some ((0 : Int), ())) = some (if (∀ x ∈ l, nm x ∉ seen) ∧ (l.map nm).Nodup then 0 else 6, ())
  | [], j, c, seen, _ => by simp [scan]
  | x :: l, j, c, seen, hc => by
    simp only [scan, seenB]
    cases h : mget eq false (nm x) c.1
    · simp only [cond_false]
      have hx : nm x ∉ seen := fun e => by rw [(hc _).2 e] at h; cases h
      have hc2 : ∀ n, mget eq false n (mput eq (nm x) true c).1 = true ↔ n ∈ nm x :: seen := fun n => by
        rw [mget_mput heq, List.mem_cons]
        cases h2 : eq n (nm x)
        · rw [cond_false, hc]
          have : n ≠ nm x := fun e => by rw [(heq _ _).2 e] at h2; cases h2
          simp [this]
        · simp [(heq _ _).1 h2]
      have hs := seen_scan l (j + 1) (mput eq (nm x) true c) (nm x :: seen) hc2
      refine Eq.trans hs ?_
      have hiff : ((∀ y ∈ l, nm y ∉ nm x :: seen) ∧ (l.map nm).Nodup) ↔ ((∀ y ∈ x :: l, nm y ∉ seen) ∧ ((x :: l).map nm).Nodup) := by
        simp only [List.mem_cons, not_or, List.map_cons, List.nodup_cons, forall_eq_or_imp, List.mem_map, not_exists, not_and]
        constructor
        · rintro ⟨h1, h2⟩
          exact ⟨⟨hx, fun y hy => (h1 y hy).2⟩, fun y hy => (h1 y hy).1, h2⟩
        · rintro ⟨⟨_, h1⟩, h2, h3⟩
          exact ⟨fun y hy => ⟨h2 y hy, h1 y hy⟩, h3⟩
      by_cases hq : (∀ y ∈ l, nm y ∉ nm x :: seen) ∧ (l.map nm).Nodup
      · rw [if_pos hq, if_pos (hiff.1 hq)]
      · rw [if_neg hq, if_neg (fun h => hq (hiff.2 h))]
    · simp only [cond_true]
      have := (hc _).1 h
      rw [if_neg (fun h => h.1 x (by simp) this)]
omit heq
/-- each against all before it -/
def dupB (same : α → α → Bool) (xs : List α) (j : Nat) (x : α) (_ : Unit) : Unit ⊕ ((Int × Unit) ⊕ (Unit × Unit)) := bif (xs.take j).any (same · x) then .inr (.inl (6, ())) else .inl ()
open Classical in
theorem dup_scan {same : α → α → Bool} (hs : ∀ a b, same a b = true ↔ nm a = nm b) (xs : List α) : ∀ (l : List α) (j : Nat), xs.drop j = l → ((xs.take j).map nm).Nodup →
    (match scan (dupB same xs) (fun _ => .inr ((), ())) l j () with | .inl z => some z | .inr _ => some ((0 : Int), ())) = some (if (xs.map nm).Nodup then 0 else 6, ())
  | [], j, hl, hn => by
    have : xs.take j = xs := by
      have := congrArg List.length hl
      simp at this
      exact List.take_of_length_le (by omega)
    rw [this] at hn
    rw [if_pos hn]
    rfl
  | x :: l, j, hl, hn => by
    have hx : xs[j]? = some x := by
      have := congrArg (·[0]?) hl
      simpa using this
    have hl' : xs.drop (j + 1) = l := by
      have := congrArg List.tail hl
      simpa using this
    have ht : xs.take (j + 1) = xs.take j ++ [x] := by
      rw [List.take_add_one, hx]; rfl
    simp only [scan, dupB]
    cases h : (xs.take j).any (same · x)
    · simp only [cond_false]
      refine dup_scan hs xs l (j + 1) hl' ?_
      rw [ht, List.map_append]
      refine List.nodup_append.2 ⟨hn, by simp, fun a ha b hb e => ?_⟩
      obtain ⟨y, hy, rfl⟩ := List.mem_map.1 ha
      simp only [List.map_cons, List.map_nil, List.mem_singleton] at hb
      have := List.any_eq_false.1 h y hy
      exact this ((hs y x).2 (e.trans hb))
    · simp only [cond_true]
      obtain ⟨y, hy, hyx⟩ := List.any_eq_true.1 h
      rw [if_neg]
      intro hnd
      have h2 : ((xs.take (j + 1)).map nm).Nodup := hnd.sublist ((List.take_sublist _ _).map _)
      rw [ht, List.map_append] at h2
      have := (List.nodup_append.1 h2).2.2 (nm y) (List.mem_map.2 ⟨y, hy, rfl⟩) (nm x) (by simp)
      exact this ((hs y x).1 hyx)
end
/-! ### names -/
abbrev Nm : Type := ByteArray × Int × Unit
def nm (d : Dd) : Nm := (dSite d, dNo d, ())
abbrev TN : Ty := .struct (.cons .str (.cons (.int .i64) .nil))
def nmEq (a b : Nm) : Bool := keq TN a b
theorem nm_iff (a b : Nm) : nmEq a b = true ↔ a = b := keq_iff (K := TN) rfl a b
open Classical in
noncomputable def dFaults (l : List Dd) : Int :=
  if l.length > 1000 then 2 else if chkP dFault (fun o x => decide (dCmp x o ≤ 0)) none l = 0 then (if (l.map nm).Nodup then 0 else 6) else chkP dFault (fun o x => decide (dCmp x o ≤ 0)) none l
theorem any_find {α : Type} (p : α → Bool) (l : List α) : l.any p = (l.findIdx? p).isSome := by
  induction l with
  | nil => rfl
  | cons x l ih =>
    simp only [List.any_cons, List.findIdx?_cons, ih]
    cases p x
    · simp
    · rfl
/-- deeds that are right -/
structure Deeds (l : List Dd) : Prop where
  len : l.length ≤ 1000
  each : ∀ d ∈ l, dFault d = 0
  names : (l.map nm).Nodup
theorem deeds_of {l : List Dd} (h : dFaults l = 0) : Deeds l := by
  unfold dFaults at h
  split at h
  · cases h
  · rename_i hn
    split at h
    · rename_i hc
      split at h
      · rename_i hnd
        exact ⟨by omega, chkP_all l none hc, hnd⟩
      · cases h
    · rename_i hc
      exact absurd h hc
end Go.Vm

namespace Go.Vm
open Go.RowKit Go.Vm.Gain
theorem last_at {α : Type} {l : List α} (h : l.length ≤ 9223372036854775807) : (l = [] ∧ l.getLast? = none) ∨ ∃ o, 0 < l.length ∧ l.getLast? = some o ∧ l[l.length - 1]? = some o ∧ IntKind.i64.wrap ((l.length : Int) - 1) = ((l.length - 1 : Nat) : Int) := by
  rcases List.eq_nil_or_concat l with rfl | ⟨m, o, rfl⟩
  · exact .inl ⟨rfl, rfl⟩
  · refine .inr ⟨o, by simp, by simp, by simp, ?_⟩
    rw [List.concat_eq_append, List.length_append] at h ⊢
    simp only [List.length_cons, List.length_nil] at h ⊢
    rw [wrap_ok (by omega) (by omega)]
    omega
end Go.Vm

/- RatingsScored: small functions; what is wrong with ratings, and with people. Own work. -/
set_option linter.unusedVariables false
set_option linter.unusedSimpArgs false
namespace Go.Vm
open Go.RowKit Go.Vm.Gain
abbrev Rt : Type := ByteArray × ByteArray × ByteArray × Int × Int × Unit
abbrev rFrom (r : Rt) : ByteArray := r.1
abbrev rTo (r : Rt) : ByteArray := r.2.1
abbrev rRide (r : Rt) : ByteArray := r.2.2.1
abbrev rStars (r : Rt) : Int := r.2.2.2.1
abbrev rAt (r : Rt) : Int := r.2.2.2.2.1
/-! ### strings -/
theorem less_cmp : ∀ a b : List UInt8, Op.bytesLess a b = decide (Lib.compareBytes a b < 0)
  | [], [] => rfl
  | [], _ :: _ => rfl
  | _ :: _, [] => rfl
  | a :: x, b :: y => by
    simp only [Op.bytesLess, Lib.compareBytes]
    by_cases h : a < b
    · simp [h]
    · by_cases h2 : b < a
      · have : (a == b) = false := by
          rw [beq_eq_false_iff_ne]
          rintro rfl
          exact h h2
        simp [h, h2, this]
      · have : a = b := by
          rw [UInt8.lt_iff_toNat_lt] at h h2
          exact UInt8.toNat_inj.1 (by omega)
        subst this
        simp [h, less_cmp x y]
theorem sLt_cmp (a b : ByteArray) : sLt a b = decide (cmpS a b < 0) := by
  unfold sLt cmpS
  rw [ByteArray.toList_eq, ByteArray.toList_eq, less_cmp]
theorem cmp_vals : ∀ a b : List UInt8, Lib.compareBytes a b = -1 ∨ Lib.compareBytes a b = 0 ∨ Lib.compareBytes a b = 1
  | [], [] => by simp [Lib.compareBytes]
  | [], _ :: _ => by simp [Lib.compareBytes]
  | _ :: _, [] => by simp [Lib.compareBytes]
  | a :: x, b :: y => by
    simp only [Lib.compareBytes]
    have := cmp_vals x y
    split
    · simp
    · split
      · simp
      · exact this
theorem cmpS_vals (a b : ByteArray) : cmpS a b = -1 ∨ cmpS a b = 0 ∨ cmpS a b = 1 := cmp_vals _ _
def s62 (a : ByteArray) : Bool := false
theorem h62 (a : ByteArray) (hw : WFs A62 (a, ())) : ∃ k, f62 k a = some (s62 a, ()) := ⟨0, by
  unfold f62 s62
  rw [sEq_self]
  rfl⟩
def s50 (a b : ByteArray) : Int := cmpS a b
theorem h50 (a b : ByteArray) (hw : WFs A50 (a, b, ())) : ∃ k, f50 s62 k a b = some (s50 a b, ()) := ⟨0, by
  unfold f50 s50 s62
  simp only [cond_false, sLt_cmp]
  have hs : sEq a b = decide (cmpS a b = 0) := by
    by_cases h : a = b
    · rw [sEq_iff.2 h, decide_eq_true (cmpS_zero.2 h)]
    · rw [decide_eq_false (fun e => h (cmpS_zero.1 e)), ← Bool.not_eq_true]
      exact fun e => h (sEq_iff.1 e)
  rw [hs]
  rcases cmpS_vals a b with h | h | h <;> rw [h] <;> rfl⟩
/-- the comparison of two lists -/
def cmpL : List ByteArray → List ByteArray → Int
  | [], [] => 0
  | [], _ :: _ => -1
  | _ :: _, [] => 1
  | x :: l, y :: m => if cmpS x y = 0 then cmpL l m else cmpS x y
def s33 (a b : List ByteArray) : Int := cmpL a b
def cmpLB (b : List ByteArray) (j : Nat) (x : ByteArray) (_ : Unit) : Unit ⊕ ((Int × Unit) ⊕ (Unit × Unit)) :=
  match b[j]? with
  | none => .inr (.inl (1, ()))
  | some y => bif cmpS x y != 0 then .inr (.inl (cmpS x y, ())) else .inl ()
theorem cmpL_scan (b : List ByteArray) (n : Nat) : ∀ (l : List ByteArray) (j : Nat), j + l.length = n →
    (match scan (cmpLB b) (fun _ => .inr ((), ())) l j () with | .inl z => some z | .inr _ => bif decide ((n : Int) < (b.length : Int)) then some ((-1 : Int), ()) else some ((0 : Int), ())) = some (cmpL l (b.drop j), ())
  | [], j, hj => by
    simp only [scan]
    have hj : j = n := by simpa using hj
    subst hj
    by_cases h : j < b.length
    · rw [decide_eq_true (by omega), List.drop_eq_getElem_cons h]
      rfl
    · rw [decide_eq_false (by omega), List.drop_eq_nil_of_le (by omega)]
      rfl
  | x :: l, j, hj => by
    simp only [scan, cmpLB]
    by_cases h : j < b.length
    · rw [List.getElem?_eq_getElem h, List.drop_eq_getElem_cons h]
      simp only [cmpL]
      by_cases h0 : cmpS x b[j] = 0
      · rw [show (cmpS x b[j] != 0) = false from by simp [h0], if_pos h0]
        exact cmpL_scan b n l (j + 1) (by simp at hj ⊢; omega)
      · rw [show (cmpS x b[j] != 0) = true from by simpa using h0, if_neg h0]
        rfl
    · rw [List.getElem?_eq_none (by omega), List.drop_eq_nil_of_le (by omega)]
      rfl
theorem h33 (a b : List ByteArray) (hw : WFs A33 (a, b, ())) : ∃ k, f33 s50 k a b = some (s33 a b, ()) := by
  simp only [WFs, WF] at hw
  have hl : a.length ≤ 9223372036854775807 := hw.1.1
  clear hw
  refine ⟨a.length + 1, ?_⟩
  unfold f33 s33
  rw [iter_scan0 (s0 := (((0 : Int), ()), ())) a (fun j _ => (((j : Int), ()), ())) (cmpLB b) (fun _ => .inr ((), ())) () rfl (Nat.lt_succ_self _) ?a1 ?a2]
  case a2 => simp
  case a1 =>
    intro j x u hx
    simp only [lt_at hx, inR_at hx, rd_at hx, wrap_succ hx hl, cond_true, cmpLB]
    by_cases h : j < b.length
    · have hy : b[j]? = some b[j] := List.getElem?_eq_getElem h
      rw [decide_eq_false (by omega), cond_false, inR_at hy, cond_true, rd_at hy, hy]
      simp only [s50]
      cases cmpS x b[j] != 0 <;> rfl
    · rw [decide_eq_true (by omega), List.getElem?_eq_none (by omega)]
      rfl
  have := cmpL_scan b a.length a 0 (by simp)
  rw [List.drop_zero] at this
  exact this
/-! ### the order of ratings -/
def wCmp : Rt → Rt → Int := lexC (fun a b => cmpS (rRide a) (rRide b)) (lexC (fun a b => cmpS (rFrom a) (rFrom b)) (fun a b => cmpS (rTo a) (rTo b)))
theorem wCmp_ok : CmpOK wCmp (fun _ => True) := (cmpS_ok.on rRide).lex ((cmpS_ok.on rFrom).lex (cmpS_ok.on rTo))
def s80 (a b : Rt) : Int := wCmp a b
theorem h80 (a b : Rt) (hw : WFs A80 (a, b, ())) : ∃ k, f80 s38 s48 k a b = some (s80 a b, ()) := ⟨0, by
  unfold f80 s38 s80
  rw [nz_lex]
  rfl⟩
def rCmp : Rt → Rt → Int := lexC wCmp (fun a b => cmpI (rAt a) (rAt b))
theorem rCmp_ok : CmpOK rCmp (fun _ => True) := wCmp_ok.lex (cmpI_ok.on rAt)
def s64 (a b : Rt) : Int := rCmp a b
theorem h64 (a b : Rt) (hw : WFs A64 (a, b, ())) : ∃ k, f64 s38 s39 s80 k a b = some (s64 a b, ()) := ⟨0, by
  unfold f64 s38 s64
  rw [nzp]
  rfl⟩
/-- a rating at a moment that there is -/
def Timed (r : Rt) : Prop := 0 ≤ rAt r ∧ rAt r < 345686400000
instance : DecidablePred Timed := fun r => inferInstanceAs (Decidable (_ ∧ _))
/-! ### what is wrong with a rating -/
def rgFault (r : Rt) : Int :=
  bif !key (rFrom r) then 5 else bif !key (rTo r) then 5 else bif !key (rRide r) then 5 else bif sEq (rFrom r) (rTo r) then 6 else bif s40 (rStars r) 1 5 then 1 else bif !s37 (rAt r) then 1 else 0
structure Fine (r : Rt) : Prop where
  timed : Timed r
  stars : 1 ≤ rStars r ∧ rStars r ≤ 5
theorem fine_of {r : Rt} (h : rgFault r = 0) : Fine r := by
  unfold rgFault at h
  obtain ⟨h1, h⟩ := cond_zero h (by decide)
  obtain ⟨h2, h⟩ := cond_zero h (by decide)
  obtain ⟨h3, h⟩ := cond_zero h (by decide)
  obtain ⟨h4, h⟩ := cond_zero h (by decide)
  obtain ⟨h5, h⟩ := cond_zero h (by decide)
  obtain ⟨h6, h⟩ := cond_zero h (by decide)
  simp only [Bool.not_eq_false'] at h6
  unfold s37 at h6
  simp only [Bool.not_eq_true'] at h6
  have := outd_false h5
  have := outd_false h6
  exact ⟨⟨by omega, by omega⟩, by omega⟩
def rFaults (l : List Rt) : Int := if l.length > 3000 then 2 else chkP rgFault (fun o x => decide (rCmp x o ≤ 0)) none l
def s53 := rFaults
theorem faults_out (l : List Rt) (q : (Int × Unit) ⊕ (Unit × Unit)) (n : Int) (hq : q = bif n != 0 then .inl (n, ()) else .inr ((), ())) : (Option.bind (some q) fun r => match r with | .inl z => some z | .inr z2 => some ((0 : Int), ())) = some (n, ()) := by
  subst hq
  cases h : n != 0
  · have : n = 0 := by simpa using h
    subst this; rfl
  · rfl
theorem h53 (l : List Rt) (hw : WFs A53 (l, ())) : ∃ k, f53 s36 s37 s40 s64 k l = some (s53 l, ()) := by
  simp only [WFs, WF] at hw
  have hl : l.length ≤ 9223372036854775807 := hw.1.1
  clear hw
  refine ⟨l.length + 1, ?_⟩
  unfold f53 s53 rFaults
  rw [show (3000 : Int) = ((3000 : Nat) : Int) from rfl, len_gt]
  by_cases hn : l.length > 3000
  · simp [hn]
  · simp only [hn, decide_false, cond_false, if_false]
    rw [iter_chkP (xs := l) rgFault (fun o x => decide (rCmp x o ≤ 0)) ?a1 ?a2]
    case a2 => simp
    case a1 =>
      intro j x p hx hp
      simp only [lt_at hx, inR_at hx, rd_at hx, wrap_succ hx hl, cond_true, chkPB, ordP, rgFault, show s36 = key from rfl]
      cases key x.1
      · rfl
      cases key x.2.1
      · rfl
      cases key x.2.2.1
      · rfl
      cases sEq x.1 x.2.1
      rotate_left
      · rfl
      cases s40 x.2.2.2.1 1 5
      rotate_left
      · rfl
      cases s37 x.2.2.2.2.1
      · rfl
      simp only [Bool.not_true, cond_false, bne_self_eq_false]
      rcases hp with ⟨rfl, rfl⟩ | ⟨o, hj, ho, rfl⟩
      · rfl
      · have e0 : decide (((j : Nat) : Int) > 0) = true := by simp; omega
        simp only [e0, prev_ix hl hj ho, inR_at ho, rd_at ho, cond_true, s64]
        cases decide (rCmp x o ≤ 0) <;> rfl
    exact faults_out l _ _ rfl
/-! ### faiths -/
abbrev Fa : Type := Int × Int × Int × Unit
def fFault (f : Fa) : Int := bif s40 f.1 0 1000 then 1 else bif s40 f.2.1 1000 5000 then 1 else bif s40 f.2.2.1 0 345686400000 then 1 else 0
def s54 := fFault
theorem h54 (f : Fa) (hw : WFs A54 (f, ())) : ∃ k, f54 s40 k f = some (s54 f, ()) := ⟨0, by
  unfold f54 s54 fFault
  simp only [cond_one]⟩
/-! ### people -/
def hasS (l : List ByteArray) (x : ByteArray) : Bool := l.any (sEq x ·)
theorem hasS_iff {l : List ByteArray} {x : ByteArray} : hasS l x = true ↔ x ∈ l := by
  unfold hasS
  rw [List.any_eq_true]
  constructor
  · rintro ⟨y, hy, h⟩
    rw [sEq_iff.1 h]; exact hy
  · exact fun h => ⟨x, h, sEq_self x⟩
def whoF : List ByteArray → List ByteArray → Int
  | _, [] => 0
  | seen, x :: l => bif !key x then 5 else bif hasS seen x then 6 else whoF (seen ++ [x]) l
def wFault (l : List ByteArray) (most : Int) : Int := if (l.length : Int) > most then 2 else whoF [] l
def whoB (xs : List ByteArray) (j : Nat) (x : ByteArray) (_ : Unit) : Unit ⊕ ((Int × Unit) ⊕ (Unit × Unit)) := bif !key x then .inr (.inl (5, ())) else bif hasS (xs.take j) x then .inr (.inl (6, ())) else .inl ()
theorem who_scan (xs : List ByteArray) : ∀ (l : List ByteArray) (j : Nat), xs.drop j = l →
    (Option.bind (some (scan (whoB xs) (fun _ => .inr ((), ())) l j ())) fun r : (Int × Unit) ⊕ (Unit × Unit) => match r with | .inl z => some z | .inr z2 => some ((0 : Int), ())) = some (whoF (xs.take j) l, ())
  | [], j, hl => rfl
  | x :: l, j, hl => by
    have hx : xs[j]? = some x := by
      have := congrArg (·[0]?) hl
      simpa using this
    have hl' : xs.drop (j + 1) = l := by
      have := congrArg List.tail hl
      simpa using this
    simp only [scan, whoF, whoB]
    cases key x
    · rfl
    · simp only [Bool.not_true, cond_false]
      cases hasS (xs.take j) x
      · simp only [cond_false]
        have := who_scan xs l (j + 1) hl'
        rw [List.take_add_one, hx] at this
        exact this
      · rfl
abbrev Wm : Type := MapC .str .bool
def strHas (x : ByteArray) (c : Wm) : Bool := mget (keq .str) false x c.1
def strPut (x : ByteArray) (c : Wm) : Wm := mput (keq .str) x true c
def whoM (x : ByteArray) (c : Wm) : Wm ⊕ ((Int × Unit) ⊕ (Unit × (Wm × Unit))) := bif !key x then .inr (.inl (5, ())) else bif strHas x c then .inr (.inl (6, ())) else .inl (strPut x c)
theorem whoM_scan : ∀ (l : List ByteArray) (j : Nat) (c : Wm) (seen : List ByteArray), (∀ x, strHas x c = hasS seen x) →
    (Option.bind (some (scan (fun _ => whoM) (fun c => .inr ((), (c, ()))) l j c)) fun r : (Int × Unit) ⊕ (Unit × (Wm × Unit)) => match r with | .inl z => some z | .inr z2 => some ((0 : Int), ())) = some (whoF seen l, ())
  | [], j, c, seen, _ => rfl
  | x :: l, j, c, seen, hc => by
    simp only [scan, whoF, whoM]
    cases key x
    · rfl
    · simp only [Bool.not_true, cond_false, hc]
      cases hd : hasS seen x
      · simp only [hc, hd, cond_false]
        refine whoM_scan l (j + 1) _ (seen ++ [x]) (fun y => ?_)
        have e : strHas y (strPut x c) = cond (sEq y x) true (strHas y c) := mget_mput (eq := keq .str) (fun a b => sEq_iff) false x true c y
        rw [e, hc]
        have e2 : hasS (seen ++ [x]) y = (hasS seen y || sEq y x) := by simp [hasS]
        rw [e2]
        cases sEq y x <;> cases hasS seen y <;> rfl
      · rfl
end Go.Vm

namespace Go.Vm
open Go.RowKit Go.Vm.Gain
theorem faults_len {l : List Rt} (h : rFaults l = 0) : l.length ≤ 3000 := by
  unfold rFaults at h
  split at h
  · cases h
  · omega
theorem faults_each {l : List Rt} (h : rFaults l = 0) : ∀ r ∈ l, rgFault r = 0 := by
  unfold rFaults at h
  split at h
  · cases h
  · exact chkP_all l none h
end Go.Vm

/- RatingsScored: fractions. Own work. -/
set_option linter.unusedVariables false
set_option linter.unusedSimpArgs false
namespace Go.Vm
open Go.RowKit Go.Vm.Gain
abbrev Fr : Type := Int × Int × Unit
/-! ### the greatest common divisor -/
theorem gcd_iter {τ : Type} {f : (Int × Int × Unit) × Unit → Option (((Int × Int × Unit) × Unit) ⊕ (τ ⊕ ((Int × Unit) × Unit)))}
    (h1 : ∀ a b : Nat, b ≠ 0 → f (((a : Int), (b : Int), ()), ()) = some (.inl (((b : Int), ((a % b : Nat) : Int), ()), ())))
    (h2 : ∀ a : Nat, f (((a : Int), (0 : Int), ()), ()) = some (.inr (.inr (((a : Int), ()), ())))) : ∀ (k a b : Nat), b < k → iter k f (((a : Int), (b : Int), ()), ()) = some (.inr ((((Nat.gcd a b : Nat) : Int), ()), ()))
  | 0, a, b, h => by omega
  | k + 1, a, b, h => by
    simp only [iter]
    by_cases hb : b = 0
    · subst hb
      rw [show ((0 : Nat) : Int) = 0 from rfl, h2, Nat.gcd_zero_right]
      rfl
    · rw [h1 a b hb, Option.bind_some]
      have hlt := Nat.mod_lt a (Nat.pos_of_ne_zero hb)
      rw [show Nat.gcd a b = Nat.gcd b (a % b) from by rw [Nat.gcd_comm a b, Nat.gcd_rec, Nat.gcd_comm]]
      exact gcd_iter h1 h2 k b (a % b) (by omega)
def s81 (x y : Int) : Option (Int × Unit) := if 0 ≤ x ∧ 0 ≤ y then some (((Nat.gcd x.toNat y.toNat : Nat) : Int), ()) else none
theorem h81 (x y : Int) (z : Int × Unit) (hw : WFs A81 (x, y, ())) (h : s81 x y = some z) : ∃ k, f81 k x y = some z := by
  clear hw
  unfold s81 at h
  split at h
  rotate_left
  · cases h
  rename_i hc
  cases h
  obtain ⟨a, rfl⟩ := Int.eq_ofNat_of_zero_le hc.1
  obtain ⟨b, rfl⟩ := Int.eq_ofNat_of_zero_le hc.2
  refine ⟨b + 1, ?_⟩
  unfold f81
  rw [gcd_iter ?h1 ?h2 (b + 1) a b (Nat.lt_succ_self b)]
  · rfl
  case h1 =>
    intro a b hb
    have e1 : (((b : Int)) != (0 : Int)) = true := by simp; omega
    have e2 : decide ((b : Int) = 0) = false := by simp; omega
    simp only [e1, e2, cond_true, cond_false]
    rfl
  case h2 => intro a; rfl
/-- a fraction in lowest terms -/
def frac (x y : Int) : Fr := (((x.toNat / Nat.gcd x.toNat y.toNat : Nat) : Int), ((y.toNat / Nat.gcd x.toNat y.toNat : Nat) : Int), ())
def Apt (x y : Int) : Prop := 0 ≤ x ∧ 0 < y ∧ x ≤ 9223372036854775807 ∧ y ≤ 9223372036854775807
instance (x y : Int) : Decidable (Apt x y) := inferInstanceAs (Decidable (_ ∧ _))
def s66 (x y : Int) : Option (Fr × Unit) := if Apt x y then some (frac x y, ()) else none
theorem h66 (x y : Int) (z : Fr × Unit) (hw : WFs A66 (x, y, ())) (h : s66 x y = some z) : ∃ k, f66 s81 k x y = some z := by
  clear hw
  unfold s66 at h
  split at h
  rotate_left
  · cases h
  rename_i hc
  cases h
  obtain ⟨h1, h2, h3, h4⟩ := hc
  obtain ⟨a, rfl⟩ := Int.eq_ofNat_of_zero_le h1
  obtain ⟨b, rfl⟩ := Int.eq_ofNat_of_zero_le (by omega : (0 : Int) ≤ y)
  refine ⟨0, ?_⟩
  unfold f66
  have e0 : (if (decide ((IntKind.i64.wrap (-(a : Int))) > (a : Int))) then (IntKind.i64.wrap (-(a : Int))) else (a : Int)) = (a : Int) := by
    rw [wrap_ok (by omega) (by omega), if_neg (by simp only [decide_eq_true_eq]; omega)]
  have hg : 0 < Nat.gcd a b := Nat.gcd_pos_of_pos_right _ (by omega)
  have e1 : s81 (a : Int) (b : Int) = some (((Nat.gcd a b : Nat) : Int), ()) := by
    unfold s81
    rw [if_pos ⟨by omega, by omega⟩]
    rfl
  have e2 : decide ((((Nat.gcd a b : Nat)) : Int) = 0) = false := by simp; omega
  have e3 : ∀ n : Nat, (n : Int) ≤ 9223372036854775807 → IntKind.i64.wrap (Int.tdiv (n : Int) ((Nat.gcd a b : Nat) : Int)) = ((n / Nat.gcd a b : Nat) : Int) := fun n hn => by
    rw [← Int.ofNat_tdiv]
    have := Nat.div_le_self n (Nat.gcd a b)
    generalize n / Nat.gcd a b = m at *
    exact wrap_ok (by omega) (by omega)
  simp only [e0, e1, e2, Option.bind_some, cond_false, e3 a h3, e3 b h4]
  rfl
/-! ### products of 64 bits -/
theorem wrap_u (n : Int) : IntKind.u64.wrap n = n % 18446744073709551616 := by
  unfold IntKind.wrap
  simp only [IntKind.signed, IntKind.bits, Bool.false_and]
  rfl
theorem iand_low (a : Int) (h0 : 0 ≤ a) (h1 : a < 18446744073709551616) : iand .u64 a 4294967295 = a % 4294967296 := by
  obtain ⟨n, rfl⟩ := Int.eq_ofNat_of_zero_le h0
  unfold iand
  rw [wrap_u, BitVec.toNat_and]
  have e1 : (BitVec.ofInt IntKind.u64.bits (n : Int)).toNat = n := by
    show (BitVec.ofInt 64 (n : Int)).toNat = n
    rw [BitVec.toNat_ofInt]
    omega
  have e2 : (BitVec.ofInt IntKind.u64.bits 4294967295).toNat = 2 ^ 32 - 1 := by decide
  rw [e1, e2, Nat.and_two_pow_sub_one_eq_mod]
  omega
theorem mul_parts (a b c d p q r s : Int) (hp : p = a * d) (hq : q = b * c) (hr : r = b * d) (hs : s = a * c) : (a * 4294967296 + b) * (c * 4294967296 + d) = s * 18446744073709551616 + (p + q) * 4294967296 + r := by
  subst hp hq hr hs
  rw [Int.add_mul, Int.mul_add, Int.mul_add]
  have e1 : a * 4294967296 * (c * 4294967296) = a * c * 18446744073709551616 := by
    rw [Int.mul_assoc, Int.mul_left_comm (4294967296 : Int), ← Int.mul_assoc, ← Int.mul_assoc, Int.mul_assoc (a * c)]; rfl
  have e2 : a * 4294967296 * d = a * d * 4294967296 := by rw [Int.mul_assoc, Int.mul_comm (4294967296 : Int), ← Int.mul_assoc]
  have e3 : b * (c * 4294967296) = b * c * 4294967296 := by rw [Int.mul_assoc]
  rw [e1, e2, e3]
  omega
theorem mul_le {a b : Int} (h1 : 0 ≤ a) (h2 : a ≤ 4294967295) (h3 : 0 ≤ b) (h4 : b ≤ 4294967295) : 0 ≤ a * b ∧ a * b ≤ 18446744065119617025 :=
  ⟨Int.mul_nonneg h1 h3, Int.le_trans (Int.mul_le_mul h2 h4 h3 (by omega)) (by decide)⟩
/-! ### comparisons -/
theorem wrap_u_in (n : Int) : 0 ≤ IntKind.u64.wrap n ∧ IntKind.u64.wrap n < 18446744073709551616 := by rw [wrap_u]; omega
/-! ### fractions in lowest terms -/
theorem frac_pos {x y : Int} (h : Apt x y) : 0 ≤ (frac x y).1 ∧ 0 < (frac x y).2.1 ∧ (frac x y).1 ≤ x ∧ (frac x y).2.1 ≤ y := by
  obtain ⟨h1, h2, _, _⟩ := h
  unfold frac
  have hg : 0 < Nat.gcd x.toNat y.toNat := Nat.gcd_pos_of_pos_right _ (by omega)
  have hle : Nat.gcd x.toNat y.toNat ≤ y.toNat := Nat.le_of_dvd (by omega) (Nat.gcd_dvd_right _ _)
  have := Nat.div_le_self x.toNat (Nat.gcd x.toNat y.toNat)
  have := Nat.div_le_self y.toNat (Nat.gcd x.toNat y.toNat)
  have := Nat.div_pos hle hg
  generalize x.toNat / Nat.gcd x.toNat y.toNat = p at *
  generalize y.toNat / Nat.gcd x.toNat y.toNat = q at *
  refine ⟨by simp only; omega, by simp only; omega, by simp only; omega, by simp only; omega⟩
theorem frac_eq {x y z w : Int} (h : Apt x y) (h' : Apt z w) (he : (frac x y).1 * (frac z w).2.1 = (frac z w).1 * (frac x y).2.1) : frac x y = frac z w := by
  have p1 := frac_pos h
  have p2 := frac_pos h'
  obtain ⟨h1, h2, _, _⟩ := h
  obtain ⟨h3, h4, _, _⟩ := h'
  unfold frac at *
  simp only at *
  have c1 : Nat.Coprime (x.toNat / Nat.gcd x.toNat y.toNat) (y.toNat / Nat.gcd x.toNat y.toNat) := Nat.coprime_div_gcd_div_gcd (Nat.gcd_pos_of_pos_right _ (by omega))
  have c2 : Nat.Coprime (z.toNat / Nat.gcd z.toNat w.toNat) (w.toNat / Nat.gcd z.toNat w.toNat) := Nat.coprime_div_gcd_div_gcd (Nat.gcd_pos_of_pos_right _ (by omega))
  generalize x.toNat / Nat.gcd x.toNat y.toNat = a at *
  generalize y.toNat / Nat.gcd x.toNat y.toNat = b at *
  generalize z.toNat / Nat.gcd z.toNat w.toNat = c at *
  generalize w.toNat / Nat.gcd z.toNat w.toNat = d at *
  have he : a * d = c * b := by exact_mod_cast he
  have d1 : b ∣ d := c1.symm.dvd_of_dvd_mul_left ⟨c, by rw [he, Nat.mul_comm]⟩
  have d2 : d ∣ b := c2.symm.dvd_of_dvd_mul_left ⟨a, by rw [← he, Nat.mul_comm]⟩
  have e : b = d := Nat.dvd_antisymm d1 d2
  subst e
  have : a = c := Nat.eq_of_mul_eq_mul_right (by omega) he
  rw [this]
end Go.Vm

/- RatingsScored: the ratings that count, and their sums. Own work. -/
set_option linter.unusedVariables false
set_option linter.unusedSimpArgs false
namespace Go.Vm
open Go.RowKit Go.Vm.Gain
/-! ### the ratings that count -/
def sameW (a b : Rt) : Bool := wCmp a b == 0
def stepC (out : List Rt) (r : Rt) : List Rt :=
  match out.getLast? with
  | some o => bif sameW o r then out.dropLast ++ [r] else out ++ [r]
  | none => out ++ [r]
def countC (l : List Rt) (at_ : Int) : List Rt := (l.filter fun r => decide (rAt r ≤ at_)).foldl stepC []
theorem stepC_len (out : List Rt) (r : Rt) : (stepC out r).length ≤ out.length + 1 := by
  unfold stepC
  cases h : out.getLast? with
  | none => simp
  | some o =>
    simp only
    cases sameW o r <;> simp <;> omega
theorem fold_len : ∀ (l out : List Rt), (l.foldl stepC out).length ≤ out.length + l.length
  | [], out => by simp
  | r :: l, out => by
    have := fold_len l (stepC out r)
    have := stepC_len out r
    simp only [List.foldl_cons, List.length_cons]
    omega
theorem count_len (l : List Rt) (at_ : Int) : (countC l at_).length ≤ l.length := by
  have h := fold_len (l.filter fun r => decide (rAt r ≤ at_)) []
  have := List.length_filter_le (fun r => decide (rAt r ≤ at_)) l
  unfold countC
  simp only [List.length_nil, Nat.zero_add] at h
  omega
theorem fold_mem : ∀ (l out : List Rt) (x : Rt), x ∈ l.foldl stepC out → x ∈ out ∨ x ∈ l
  | [], out, x, h => .inl h
  | r :: l, out, x, h => by
    rw [List.foldl_cons] at h
    rcases fold_mem l (stepC out r) x h with h | h
    · unfold stepC at h
      cases hl : out.getLast? with
      | none =>
        rw [hl] at h
        simp only [List.mem_append, List.mem_singleton] at h
        exact h.elim .inl fun e => .inr (by simp [e])
      | some o =>
        rw [hl] at h
        simp only at h
        cases hs : sameW o r <;> rw [hs] at h
        · simp only [cond_false, List.mem_append, List.mem_singleton] at h
          exact h.elim .inl fun e => .inr (by simp [e])
        · simp only [cond_true, List.mem_append, List.mem_singleton] at h
          exact h.elim (fun h => .inl ((List.dropLast_sublist _).subset h)) fun e => .inr (by simp [e])
    · exact .inr (List.mem_cons_of_mem _ h)
theorem count_mem {l : List Rt} {at_ : Int} {x : Rt} (h : x ∈ countC l at_) : x ∈ l ∧ rAt x ≤ at_ := by
  rcases fold_mem _ [] x h with h | h
  · cases h
  · rw [List.mem_filter] at h
    exact ⟨h.1, by simpa using h.2⟩
def s65 (l : List Rt) (at_ : Int) : Option (List Rt × Unit) := if l.length ≤ 3000 then some (countC l at_, ()) else none
theorem last_set {α : Type} {out : List α} {o : α} (h : out.getLast? = some o) (r : α) : out.set (out.length - 1) r = out.dropLast ++ [r] := by
  obtain ⟨l, rfl⟩ := List.getLast?_eq_some_iff.1 h
  simp
theorem h65 (l : List Rt) (at_ : Int) (y : List Rt × Unit) (hw : WFs A65 (l, at_, ())) (h : s65 l at_ = some y) : ∃ k, f65 s80 k l at_ = some y := by
  clear hw
  unfold s65 at h
  split at h
  rotate_left
  · cases h
  rename_i hn
  cases h
  have hl : l.length ≤ 9223372036854775807 := by omega
  refine ⟨l.length + 1, ?_⟩
  unfold f65
  rw [iter_scanI (s0 := (([], (0 : Int), ()), ())) (β := List Rt) l (fun j o => ((o, (j : Int), ()), ())) (fun _ x o => .inl (if decide (rAt x ≤ at_) then stepC o x else o)) (fun o => .inr ((o, ()), ())) (fun j o => o.length ≤ j) [] (Nat.le_refl _) rfl (Nat.lt_succ_self _) ?a0 ?a1 ?a2]
  case a2 => intro o _; simp
  case a0 =>
    intro j x o o' hx hJ hs
    cases hs
    have := stepC_len o x
    by_cases h : decide (rAt x ≤ at_) = true
    · rw [if_pos h]; omega
    · rw [if_neg h]; omega
  case a1 =>
    intro j x o hx hJ
    have hj := (List.getElem?_eq_some_iff.1 hx).1
    have hol : o.length ≤ 9223372036854775807 := by omega
    simp only [lt_at hx, inR_at hx, rd_at hx, wrap_succ hx hl, cond_true]
    by_cases hat : rAt x ≤ at_
    · rw [decide_eq_false (show ¬ x.2.2.2.2.1 > at_ from Int.not_lt.2 hat), if_pos (decide_eq_true hat)]
      simp only [cond_false]
      have hap : decide (o.length + [x].length ≤ 4294967296) = true := decide_eq_true (by simp; omega)
      rcases last_at hol with ⟨rfl, _⟩ | ⟨p, hp0, hp1, hp2, hp3⟩
      · simp only [List.length_nil, Int.natCast_zero]
        rw [show decide (IntKind.i64.wrap ((0 : Int) - 1) ≥ 0) = false from by decide]
        simp only [cond_false, Option.bind_some]
        rfl
      · have e0 : decide (((o.length - 1 : Nat) : Int) ≥ 0) = true := by simp
        simp only [hp3, e0, cond_true, inR_at hp2, rd_at hp2, Option.bind_some, Int.toNat_natCast, hap]
        unfold stepC
        rw [hp1]
        simp only [s80, sameW]
        cases wCmp p x == 0
        · rfl
        · simp only [cond_true]
          rw [last_set hp1]
    · rw [decide_eq_true (show x.2.2.2.2.1 > at_ from Int.not_le.1 hat), if_neg (by simpa using hat)]
      rfl
  rw [scan_fold0 (fun (x : Rt) (o : List Rt) => if decide (rAt x ≤ at_) then stepC o x else o)]
  unfold countC
  rw [List.foldl_filter]
  rfl
/-! ### weights -/
def wt (half at_ : Int) (r : Rt) : Int := if half > 0 then (((1024 / 2 ^ (min ((at_ - rAt r) / half) 10).toNat : Nat)) : Int) else 1024
theorem wt_range (half at_ : Int) (r : Rt) : 0 ≤ wt half at_ r ∧ wt half at_ r ≤ 1024 := by
  unfold wt
  split
  · have := Nat.div_le_self 1024 (2 ^ (min ((at_ - rAt r) / half) 10).toNat)
    generalize 1024 / 2 ^ (min ((at_ - rAt r) / half) 10).toNat = m at *
    omega
  · omega
/-- moments that are moderate -/
structure Near (half at_ : Int) (r : Rt) : Prop where
  h0 : 0 ≤ half
  a0 : 0 ≤ rAt r
  a1 : rAt r ≤ at_
  a2 : at_ < 345686400000
theorem steps_eq {half at_ : Int} {r : Rt} (h : Near half at_ r) (hp : half > 0) :
    (if (decide ((IntKind.i64.wrap (Int.tdiv (IntKind.i64.wrap (at_ - rAt r)) half)) < (10 : Int))) then (IntKind.i64.wrap (Int.tdiv (IntKind.i64.wrap (at_ - rAt r)) half)) else (10 : Int)) = min ((at_ - rAt r) / half) 10 ∧ 0 ≤ (at_ - rAt r) / half := by
  obtain ⟨h0, a0, a1, a2⟩ := h
  have e1 : IntKind.i64.wrap (at_ - rAt r) = at_ - rAt r := wrap_ok (by omega) (by omega)
  have e2 : Int.tdiv (at_ - rAt r) half = (at_ - rAt r) / half := Int.tdiv_eq_ediv_of_nonneg (by omega)
  have e3 : 0 ≤ (at_ - rAt r) / half := Int.ediv_nonneg (by omega) (by omega)
  have e4 : (at_ - rAt r) / half ≤ at_ - rAt r := Int.ediv_le_self _ (by omega)
  rw [e1, e2, wrap_ok (by omega) (by omega)]
  refine ⟨?_, e3⟩
  by_cases h : (at_ - rAt r) / half < 10
  · rw [if_pos (decide_eq_true h)]; omega
  · rw [if_neg (by simpa using h)]; omega
theorem wt_join {σ : Type} {half at_ : Int} {r : Rt} (h : Near half at_ r) :
    (bif (decide (half > (0 : Int))) then
      bif decide (half = 0) then
        none
      else
        bif decide (0 ≤ (if (decide ((IntKind.i64.wrap (Int.tdiv (IntKind.i64.wrap (at_ - rAt r)) half)) < (10 : Int))) then (IntKind.i64.wrap (Int.tdiv (IntKind.i64.wrap (at_ - rAt r)) half)) else (10 : Int))) then
          some (.inr (((Int.fdiv (1024 : Int) ((2 : Int) ^ (min (Int.toNat (if (decide ((IntKind.i64.wrap (Int.tdiv (IntKind.i64.wrap (at_ - rAt r)) half)) < (10 : Int))) then (IntKind.i64.wrap (Int.tdiv (IntKind.i64.wrap (at_ - rAt r)) half)) else (10 : Int))) 64))), ()), ()))
        else
          none
    else
      some (.inr (((1024 : Int), ()), ()))) = (some (.inr ((wt half at_ r, ()), ())) : Option (σ ⊕ ((Int × Unit) × Unit))) := by
  by_cases hp : half > 0
  · obtain ⟨e, e3⟩ := steps_eq h hp
    rw [decide_eq_true hp, decide_eq_false (show ¬ half = 0 from by omega), e, decide_eq_true (show 0 ≤ min ((at_ - rAt r) / half) 10 from by omega)]
    show (some (Sum.inr ((Int.fdiv 1024 ((2 : Int) ^ (min (Int.toNat (min ((at_ - rAt r) / half) 10)) 64)), ()), ())) : Option (σ ⊕ ((Int × Unit) × Unit))) = _
    unfold wt
    rw [if_pos hp]
    have hm : min (min ((at_ - rAt r) / half) 10).toNat 64 = (min ((at_ - rAt r) / half) 10).toNat := by omega
    rw [hm]
    generalize (min ((at_ - rAt r) / half) 10).toNat = n
    rw [Int.fdiv_eq_ediv_of_nonneg _ (Int.le_of_lt (Int.pow_pos (by decide)))]
    have e : (((1024 / 2 ^ n : Nat)) : Int) = (1024 : Int) / (2 : Int) ^ n := by rw [Int.natCast_ediv, Int.natCast_pow]; rfl
    rw [e]
  · rw [decide_eq_false hp]
    unfold wt
    rw [if_neg hp]
    rfl
/-! ### sums -/
abbrev Mi : Type := MapC .str (.int .i64)
def iGet (x : ByteArray) (m : Mi) : Int := mget (keq .str) (0 : Int) x m.1
def iPut (x : ByteArray) (v : Int) (m : Mi) : Mi := mput (keq .str) x v m
theorem iGet_put (x y : ByteArray) (v : Int) (m : Mi) : iGet y (iPut x v m) = cond (sEq y x) v (iGet y m) := mget_mput (eq := keq .str) (fun a b => sEq_iff) 0 x v m y
def addR2 (half at_ : Int) (r : Rt) (m : Mi × Mi) : Mi × Mi :=
  (iPut (rTo r) (IntKind.i64.wrap (iGet (rTo r) m.1 + IntKind.i64.wrap (IntKind.i64.wrap (1000 * wt half at_ r) * rStars r))) m.1,
   iPut (rTo r) (IntKind.i64.wrap (iGet (rTo r) m.2 + IntKind.i64.wrap (1000 * wt half at_ r))) m.2)
/-- the sum of what counts for somebody -/
def tot (g : Rt → Int) (who : ByteArray) : List Rt → Int
  | [] => 0
  | r :: l => (bif sEq (rTo r) who then g r else 0) + tot g who l
def gS (half at_ : Int) (r : Rt) : Int := 1000 * wt half at_ r * rStars r
def gW (half at_ : Int) (r : Rt) : Int := 1000 * wt half at_ r
theorem gW_range (half at_ : Int) (r : Rt) : 0 ≤ gW half at_ r ∧ gW half at_ r ≤ 1024000 := by
  have := wt_range half at_ r
  unfold gW
  omega
theorem gS_range {half at_ : Int} {r : Rt} (h : 1 ≤ rStars r ∧ rStars r ≤ 5) : 0 ≤ gS half at_ r ∧ gS half at_ r ≤ 5120000 := by
  have hg := gW_range half at_ r
  unfold gS
  rw [show 1000 * wt half at_ r = gW half at_ r from rfl]
  refine ⟨Int.mul_nonneg hg.1 (by omega), ?_⟩
  calc gW half at_ r * rStars r ≤ 1024000 * 5 := Int.mul_le_mul hg.2 h.2 (by omega) (by decide)
    _ = 5120000 := by decide
theorem tot_range {g : Rt → Int} {B : Int} (hB : 0 ≤ B) (who : ByteArray) : ∀ (l : List Rt), (∀ r ∈ l, 0 ≤ g r ∧ g r ≤ B) → 0 ≤ tot g who l ∧ tot g who l ≤ B * (l.length : Int)
  | [], _ => by simp [tot]
  | r :: l, h => by
    have h1 := h r (by simp)
    have h2 := tot_range hB who l (fun x hx => h x (by simp [hx]))
    simp only [tot, List.length_cons]
    have e : B * ((l.length + 1 : Nat) : Int) = B * (l.length : Int) + B := by rw [Int.natCast_add, Int.mul_add]; simp
    rw [e]
    cases sEq (rTo r) who <;> simp only [cond_true, cond_false] <;> omega
theorem sums_get (half at_ : Int) : ∀ (C : List Rt) (m : Mi × Mi) (B : Int), (∀ r ∈ C, 1 ≤ rStars r ∧ rStars r ≤ 5) → (∀ who, 0 ≤ iGet who m.1 ∧ iGet who m.1 ≤ B) → (∀ who, 0 ≤ iGet who m.2 ∧ iGet who m.2 ≤ B) → B + 5120000 * (C.length : Int) ≤ 4611686018427387904 →
    ∀ who, iGet who (C.foldl (fun m r => addR2 half at_ r m) m).1 = iGet who m.1 + tot (gS half at_) who C ∧ iGet who (C.foldl (fun m r => addR2 half at_ r m) m).2 = iGet who m.2 + tot (gW half at_) who C
  | [], m, B, _, _, _, _, who => by simp [tot]
  | r :: C, m, B, hst, hm1, hm2, hB, who => by
    have hs := hst r (by simp)
    have g1 := gS_range (half := half) (at_ := at_) hs
    have g2 := gW_range half at_ r
    have hlen : 5120000 * ((r :: C).length : Int) = 5120000 * (C.length : Int) + 5120000 := by simp; omega
    rw [hlen] at hB
    have e1 : IntKind.i64.wrap (1000 * wt half at_ r) = gW half at_ r := wrap_ok (by unfold gW at g2; omega) (by unfold gW at g2; omega)
    have e2 : IntKind.i64.wrap (gW half at_ r * rStars r) = gS half at_ r := wrap_ok (by unfold gS at g1; unfold gW; omega) (by unfold gS at g1; unfold gW; omega)
    have a1 := hm1 (rTo r)
    have a2 := hm2 (rTo r)
    have e3 : IntKind.i64.wrap (iGet (rTo r) m.1 + gS half at_ r) = iGet (rTo r) m.1 + gS half at_ r := wrap_ok (by omega) (by omega)
    have e4 : IntKind.i64.wrap (iGet (rTo r) m.2 + gW half at_ r) = iGet (rTo r) m.2 + gW half at_ r := wrap_ok (by omega) (by omega)
    have p1 : ∀ who, iGet who (addR2 half at_ r m).1 = iGet who m.1 + (bif sEq (rTo r) who then gS half at_ r else 0) := fun who => by
      unfold addR2
      rw [e1, e2, e3, iGet_put]
      by_cases h : who = rTo r
      · rw [sEq_iff.2 h, sEq_iff.2 h.symm, h]; rfl
      · rw [show sEq who (rTo r) = false from by rw [← Bool.not_eq_true]; exact fun e => h (sEq_iff.1 e), show sEq (rTo r) who = false from by rw [← Bool.not_eq_true]; exact fun e => h (sEq_iff.1 e).symm]
        simp
    have p2 : ∀ who, iGet who (addR2 half at_ r m).2 = iGet who m.2 + (bif sEq (rTo r) who then gW half at_ r else 0) := fun who => by
      unfold addR2
      rw [e1, e4, iGet_put]
      by_cases h : who = rTo r
      · rw [sEq_iff.2 h, sEq_iff.2 h.symm, h]; rfl
      · rw [show sEq who (rTo r) = false from by rw [← Bool.not_eq_true]; exact fun e => h (sEq_iff.1 e), show sEq (rTo r) who = false from by rw [← Bool.not_eq_true]; exact fun e => h (sEq_iff.1 e).symm]
        simp
    have ih := sums_get half at_ C (addR2 half at_ r m) (B + 5120000) (fun x hx => hst x (by simp [hx])) (fun w => by
      have := hm1 w
      rw [p1 w]
      cases sEq (rTo r) w <;> simp only [cond_true, cond_false] <;> omega) (fun w => by
      have := hm2 w
      rw [p2 w]
      cases sEq (rTo r) w <;> simp only [cond_true, cond_false] <;> omega) (by omega) who
    rw [List.foldl_cons, ih.1, ih.2, p1 who, p2 who]
    simp only [tot]
    omega
theorem sums_iter {τ : Type} (half at_ : Int) (C : List Rt) {f : (Int × Unit) × (Mi × Mi × Unit) → Option (((Int × Unit) × (Mi × Mi × Unit)) ⊕ (τ ⊕ (Unit × (Mi × Mi × Unit))))}
    (h1 : ∀ (j : Nat) (x : Rt) (m1 m2 : Mi), C[j]? = some x → f (((j : Int), ()), (m1, m2, ())) = some (.inl ((((j + 1 : Nat) : Int), ()), ((addR2 half at_ x (m1, m2)).1, (addR2 half at_ x (m1, m2)).2, ()))))
    (h2 : ∀ m1 m2, f (((C.length : Int), ()), (m1, m2, ())) = some (.inr (.inr ((), (m1, m2, ()))))) :
    iter (C.length + 1) f (((0 : Int), ()), ((([], 0) : Mi), (([], 0) : Mi), ())) = some (.inr ((), ((C.foldl (fun m r => addR2 half at_ r m) (([], 0), ([], 0))).1, (C.foldl (fun m r => addR2 half at_ r m) (([], 0), ([], 0))).2, ()))) := by
  rw [iter_scan0 (s0 := (((0 : Int), ()), ((([], 0) : Mi), (([], 0) : Mi), ()))) (β := Mi × Mi) C (fun j m => (((j : Int), ()), (m.1, m.2, ()))) (fun _ x m => .inl (addR2 half at_ x m)) (fun m => .inr ((), (m.1, m.2, ()))) (([], 0), ([], 0)) rfl (Nat.lt_succ_self _) (fun j x m hx => h1 j x m.1 m.2 hx) (fun m => h2 m.1 m.2), scan_fold0 (fun x m => addR2 half at_ x m)]
end Go.Vm

/- RatingsScored: scores. Own work. -/
set_option linter.unusedVariables false
set_option linter.unusedSimpArgs false
namespace Go.Vm
open Go.RowKit Go.Vm.Gain
def scoreN (f : Fa) (C : List Rt) (who : ByteArray) (at_ : Int) : Int := 1024 * f.1 * f.2.1 + tot (gS f.2.2.1 at_) who C
def scoreD (f : Fa) (C : List Rt) (who : ByteArray) (at_ : Int) : Int := 1024000 * f.1 + tot (gW f.2.2.1 at_) who C
def scoreQ (f : Fa) (C : List Rt) (who : ByteArray) (at_ : Int) : Option Fr := if scoreD f C who at_ = 0 then none else some (frac (scoreN f C who at_) (scoreD f C who at_))
def outQ : Option Fr → Fr × Bool × Unit
  | none => ((0, 0, ()), false, ())
  | some q => (q, true, ())
structure FaOK (f : Fa) : Prop where
  many : 0 ≤ f.1 ∧ f.1 ≤ 1000
  stars : 1000 ≤ f.2.1 ∧ f.2.1 ≤ 5000
  half : 0 ≤ f.2.2.1 ∧ f.2.2.1 ≤ 345686400000
theorem faith_ok {f : Fa} (h : fFault f = 0) : FaOK f := by
  unfold fFault at h
  obtain ⟨h1, h⟩ := cond_zero h (by decide)
  obtain ⟨h2, h⟩ := cond_zero h (by decide)
  obtain ⟨h3, h⟩ := cond_zero h (by decide)
  exact ⟨outd_false h1, outd_false h2, outd_false h3⟩
theorem base_range {f : Fa} (h : FaOK f) : 0 ≤ 1024 * f.1 * f.2.1 ∧ 1024 * f.1 * f.2.1 ≤ 5120000000 := by
  obtain ⟨⟨h1, h2⟩, ⟨h3, h4⟩, _⟩ := h
  refine ⟨Int.mul_nonneg (by omega) (by omega), ?_⟩
  calc 1024 * f.1 * f.2.1 ≤ 1024000 * 5000 := Int.mul_le_mul (by omega) h4 (by omega) (by decide)
    _ = 5120000000 := by decide
theorem score_range {f : Fa} (h : FaOK f) {C : List Rt} (hC : C.length ≤ 3000) (hs : ∀ r ∈ C, 1 ≤ rStars r ∧ rStars r ≤ 5) (who : ByteArray) (at_ : Int) :
    (0 ≤ scoreN f C who at_ ∧ scoreN f C who at_ ≤ 20480000000) ∧ (0 ≤ scoreD f C who at_ ∧ scoreD f C who at_ ≤ 16384000000) := by
  have h1 := base_range h
  have h2 := tot_range (g := gS f.2.2.1 at_) (B := 5120000) (by decide) who C (fun r hr => gS_range (hs r hr))
  have h3 := tot_range (g := gW f.2.2.1 at_) (B := 5120000) (by decide) who C (fun r _ => by have := gW_range f.2.2.1 at_ r; omega)
  obtain ⟨⟨m1, m2⟩, _, _⟩ := h
  unfold scoreN scoreD
  omega
theorem score_apt {f : Fa} (h : FaOK f) {C : List Rt} (hC : C.length ≤ 3000) (hs : ∀ r ∈ C, 1 ≤ rStars r ∧ rStars r ≤ 5) (who : ByteArray) (at_ : Int) (h0 : scoreD f C who at_ ≠ 0) : Apt (scoreN f C who at_) (scoreD f C who at_) := by
  have := score_range h hC hs who at_
  exact ⟨by omega, by omega, by omega, by omega⟩
/-- what somebody has, read off the sums -/
theorem score_join {σ : Type} {f : Fa} (h : FaOK f) {C : List Rt} (hC : C.length ≤ 3000) (hs : ∀ r ∈ C, 1 ≤ rStars r ∧ rStars r ≤ 5) (who : ByteArray) (at_ : Int) {m : Mi × Mi} (hm : m = C.foldl (fun m r => addR2 f.2.2.1 at_ r m) (([], 0), ([], 0))) :
    (bif ((IntKind.i64.wrap (iGet who m.2 + (IntKind.i64.wrap ((1024000 : Int) * f.1)))) == (0 : Int)) then
      some (.inr (((((0 : Int), (0 : Int), ()), false, ()) : Fr × Bool × Unit), ()))
    else
      Option.bind (s66 (IntKind.i64.wrap (iGet who m.1 + (IntKind.i64.wrap ((IntKind.i64.wrap ((1024 : Int) * f.1)) * f.2.1)))) (IntKind.i64.wrap (iGet who m.2 + (IntKind.i64.wrap ((1024000 : Int) * f.1))))) fun v5 =>
      some (.inr ((v5.1, true, ()), ()))) = (some (.inr (outQ (scoreQ f C who at_), ())) : Option (σ ⊕ ((Fr × Bool × Unit) × Unit))) := by
  have hg := sums_get f.2.2.1 at_ C (([], 0), ([], 0)) 0 hs (fun w => by show 0 ≤ (0 : Int) ∧ (0 : Int) ≤ 0; omega) (fun w => by show 0 ≤ (0 : Int) ∧ (0 : Int) ≤ 0; omega) (by omega) who
  rw [← hm] at hg
  have g1 : iGet who m.1 = tot (gS f.2.2.1 at_) who C := by rw [hg.1]; exact Int.zero_add _
  have g2 : iGet who m.2 = tot (gW f.2.2.1 at_) who C := by rw [hg.2]; exact Int.zero_add _
  have hr := score_range h hC hs who at_
  have hb := base_range h
  have h1 := tot_range (g := gS f.2.2.1 at_) (B := 5120000) (by decide) who C (fun r hr => gS_range (hs r hr))
  have h2 := tot_range (g := gW f.2.2.1 at_) (B := 5120000) (by decide) who C (fun r _ => by have := gW_range f.2.2.1 at_ r; omega)
  have hmany := h.many
  have e1 : IntKind.i64.wrap ((1024000 : Int) * f.1) = 1024000 * f.1 := wrap_ok (by omega) (by omega)
  have e2 : IntKind.i64.wrap ((1024 : Int) * f.1) = 1024 * f.1 := wrap_ok (by omega) (by omega)
  have e3 : IntKind.i64.wrap (1024 * f.1 * f.2.1) = 1024 * f.1 * f.2.1 := wrap_ok (by omega) (by omega)
  have e4 : IntKind.i64.wrap (iGet who m.2 + 1024000 * f.1) = scoreD f C who at_ := by
    rw [g2, wrap_ok (by omega) (by omega)]; unfold scoreD; omega
  have e5 : IntKind.i64.wrap (iGet who m.1 + 1024 * f.1 * f.2.1) = scoreN f C who at_ := by
    rw [g1, wrap_ok (by omega) (by omega)]; unfold scoreN; omega
  rw [e1, e2, e3, e4, e5]
  unfold scoreQ
  by_cases h0 : scoreD f C who at_ = 0
  · rw [h0, if_pos rfl]
    rfl
  · rw [if_neg h0, show (scoreD f C who at_ == 0) = false from by simpa using h0]
    unfold s66
    rw [if_pos (score_apt h hC hs who at_ h0)]
    rfl
def s41 (f : Fa) (l : List Rt) (who : ByteArray) (at_ : Int) : Option (Fr × Int × Unit) :=
  if nz [rFaults l, fFault f] = 0 then
    if key who = true then
      if s37 at_ = true then
        match scoreQ f (countC l at_) who at_ with
        | none => some ((0, 0, ()), 8, ())
        | some q => some (q, 0, ())
      else some ((0, 0, ()), 1, ())
    else some ((0, 0, ()), 5, ())
  else some ((0, 0, ()), nz [rFaults l, fFault f], ())
theorem moment_in {a : Int} (h : s37 a = true) : 0 ≤ a ∧ a < 345686400000 := by
  unfold s37 at h
  simp only [Bool.not_eq_true'] at h
  have := outd_false h
  omega
theorem fine_all {l : List Rt} (h : rFaults l = 0) : ∀ r ∈ l, Fine r := fun r hr => fine_of (faults_each h r hr)
theorem near_of {f : Fa} {l : List Rt} {at_ : Int} (hf : FaOK f) (hl : ∀ r ∈ l, Fine r) (ha : s37 at_ = true) {r : Rt} (hr : r ∈ countC l at_) : Near f.2.2.1 at_ r := by
  have h1 := count_mem hr
  have h2 := (hl r h1.1).timed
  exact ⟨hf.half.1, h2.1, h1.2, (moment_in ha).2⟩
theorem h41 (f : Fa) (l : List Rt) (who : ByteArray) (at_ : Int) (y : Fr × Int × Unit) (hw : WFs A41 (f, l, who, at_, ())) (h : s41 f l who at_ = some y) : ∃ k, f41 s27 s36 s37 s53 s54 s65 s66 k f l who at_ = some y := by
  clear hw
  unfold s41 at h
  by_cases hz : nz [rFaults l, fFault f] = 0
  rotate_left
  · rw [if_neg hz] at h
    cases h
    refine ⟨0, ?_⟩
    unfold f41
    rw [show (s27 [s53 l, s54 f] != 0) = true from bne_iff_ne.2 hz]
    rfl
  rw [if_pos hz] at h
  obtain ⟨z1, z2⟩ := nz2 hz
  by_cases hk : key who = true
  rotate_left
  · rw [if_neg hk] at h
    cases h
    refine ⟨0, ?_⟩
    unfold f41
    rw [show (s27 [s53 l, s54 f] != 0) = false from by rw [show s27 [s53 l, s54 f] = 0 from hz]; rfl, show s36 who = false from by rw [← Bool.not_eq_true]; exact hk]
    rfl
  rw [if_pos hk] at h
  by_cases ha : s37 at_ = true
  rotate_left
  · rw [if_neg ha] at h
    cases h
    refine ⟨0, ?_⟩
    unfold f41
    rw [show (s27 [s53 l, s54 f] != 0) = false from by rw [show s27 [s53 l, s54 f] = 0 from hz]; rfl, show s36 who = true from hk, show s37 at_ = false from by simpa using ha]
    rfl
  rw [if_pos ha] at h
  have hlen := faults_len z1
  have hC := count_len l at_
  have hf := faith_ok z2
  have hfine := fine_all z1
  have hst : ∀ r ∈ countC l at_, 1 ≤ rStars r ∧ rStars r ≤ 5 := fun r hr => (hfine r (count_mem hr).1).stars
  have hnear : ∀ r ∈ countC l at_, Near f.2.2.1 at_ r := fun r hr => near_of hf hfine ha hr
  have e257 : s65 l at_ = some (countC l at_, ()) := by unfold s65; rw [if_pos hlen]
  refine ⟨(countC l at_).length + 1, ?_⟩
  unfold f41
  rw [show (s27 [s53 l, s54 f] != 0) = false from by rw [show s27 [s53 l, s54 f] = 0 from hz]; rfl, show s36 who = true from hk, ha, e257]
  simp only [Bool.not_true, cond_false, Option.bind_some]
  have hl : (countC l at_).length ≤ 9223372036854775807 := by omega
  rw [sums_iter f.2.2.1 at_ (countC l at_) ?h1 ?h2]
  case h2 => intro m1 m2; simp
  case h1 =>
    intro j x m1 m2 hx
    simp only [lt_at hx, inR_at hx, rd_at hx, wrap_succ hx hl, cond_true]
    rw [wt_join (hnear x (List.mem_of_getElem? hx))]
    rfl
  simp only [Option.bind_some]
  refine (congrArg (fun q : Option ((Fr × Int × Unit) ⊕ ((Fr × Bool × Unit) × Unit)) => Option.bind q _) (score_join hf (by omega) hst who at_ rfl)).trans ?_
  rw [Option.bind_some]
  cases hq : scoreQ f (countC l at_) who at_ with
  | none => rw [hq] at h; cases h; rfl
  | some q => rw [hq] at h; cases h; rfl
end Go.Vm

/- RatingsScored: people by their scores. Own work. -/
set_option linter.unusedVariables false
set_option linter.unusedSimpArgs false
namespace Go.Vm
open Go.RowKit Go.Vm.Gain
/-! ### the ratings that count, twice -/
theorem chkP_sorted {α : Type} {bad : α → Int} {cmp : α → α → Int} (hc : CmpOK cmp (fun _ => True)) : ∀ (l : List α) (p : Option α), chkP bad (fun o x => decide (cmp x o ≤ 0)) p l = 0 →
    (∀ o, p = some o → ∀ x ∈ l, cmp o x < 0) ∧ l.Pairwise fun a b => cmp a b < 0
  | [], p, _ => ⟨fun _ _ x hx => (by cases hx), List.Pairwise.nil⟩
  | y :: l, p, h => by
    simp only [chkP] at h
    cases hb : bad y != 0 <;> rw [hb] at h
    rotate_left
    · simp only [cond_true] at h
      simp [h] at hb
    simp only [cond_false] at h
    cases h2 : ordP (fun o x => decide (cmp x o ≤ 0)) p y <;> rw [h2] at h
    rotate_left
    · cases h
    simp only [cond_false] at h
    obtain ⟨h3, h4⟩ := chkP_sorted hc l (some y) h
    have h5 := h3 y rfl
    refine ⟨fun o ho x hx => ?_, List.pairwise_cons.2 ⟨h5, h4⟩⟩
    subst ho
    simp only [ordP, decide_eq_false_iff_not] at h2
    have h6 : cmp o y < 0 := by
      have := (hc.flip_le (a := y) (b := o) trivial trivial)
      omega
    rcases List.mem_cons.1 hx with rfl | hx
    · exact h6
    · exact hc.lt_le (a := o) (b := y) (c := x) trivial trivial trivial h6 (by have := h5 x hx; omega)
theorem ratings_sorted {l : List Rt} (h : rFaults l = 0) : l.Pairwise fun a b => wCmp a b ≤ 0 := by
  unfold rFaults at h
  split at h
  · cases h
  · refine (chkP_sorted rCmp_ok l none h).2.imp (fun {a b} hab => ?_)
    unfold rCmp lexC at hab
    split at hab <;> omega
def keepF : List Rt → List Rt
  | [] => []
  | r :: l => bif l.any (sameW · r) then keepF l else r :: keepF l
theorem fold_keep : ∀ (l : List Rt) (x : Rt) (out : List Rt), (x :: l).Pairwise (fun a b => wCmp a b ≤ 0) → l.foldl stepC (out ++ [x]) = out ++ keepF (x :: l)
  | [], x, out, _ => by simp [keepF]
  | y :: l, x, out, h => by
    obtain ⟨h1, h2⟩ := List.pairwise_cons.1 h
    have hxy := h1 y (by simp)
    have hany : (y :: l).any (sameW · x) = sameW x y := by
      unfold sameW
      by_cases e : wCmp x y = 0
      · have e2 := (wCmp_ok.zero (a := x) (b := y) trivial trivial).1 e
        simp [e, e2]
      · have hlt : wCmp x y < 0 := by omega
        rw [show (wCmp x y == 0) = false from by simpa using e]
        rw [List.any_eq_false]
        intro z hz hzx
        have hzx : wCmp z x = 0 := by simpa using hzx
        have hxz := (wCmp_ok.zero (a := z) (b := x) trivial trivial).1 hzx
        rcases List.mem_cons.1 hz with rfl | hz
        · exact e hxz
        · have := wCmp_ok.lt_le (a := x) (b := y) (c := z) trivial trivial trivial hlt ((List.pairwise_cons.1 h2).1 z hz)
          omega
    have hst : stepC (out ++ [x]) y = bif sameW x y then out ++ [y] else out ++ [x] ++ [y] := by
      unfold stepC
      rw [List.getLast?_concat, List.dropLast_concat]
    rw [List.foldl_cons, hst]
    conv => rhs; unfold keepF
    rw [hany]
    cases sameW x y
    · simp only [cond_false]
      rw [fold_keep l y (out ++ [x]) h2, List.append_assoc]
      rfl
    · simp only [cond_true]
      rw [fold_keep l y out h2]
/-! ### package trust knows a score -/
def s18 : Option (Bool × Unit) := f18 s41 0
theorem h18 (y : Bool × Unit) (hw : WFs A18 ()) (h : s18 = some y) : ∃ k, f18 s41 k = some y := ⟨0, h⟩
theorem s36_true : s18 = some (true, ()) := by decide +kernel
/-! ### the order of people -/
def cO : Option Fr → Option Fr → Int
  | some x, some y => cmpI (y.1 * x.2.1) (x.1 * y.2.1)
  | some _, none => -1
  | none, some _ => 1
  | none, none => 0
def PosQ : Option Fr → Prop
  | some x => 0 ≤ x.1 ∧ 0 < x.2.1 ∧ x.1 ≤ 9223372036854775807 ∧ x.2.1 ≤ 9223372036854775807
  | none => True
theorem cmpI_le {a b : Int} : cmpI a b ≤ 0 ↔ a ≤ b := by
  unfold cmpI
  by_cases h : a < b
  · rw [if_pos h]; omega
  · rw [if_neg h]
    by_cases h2 : a > b
    · rw [if_pos h2]; omega
    · rw [if_neg h2]; omega
theorem cO_ok : CmpOK cO PosQ := by
  constructor
  · intro a b _ _
    cases a with
    | none => cases b with
      | none => exact (by decide : (0 : Int) < 0 ↔ (0 : Int) < 0)
      | some b => exact (by decide : (1 : Int) < 0 ↔ (0 : Int) < -1)
    | some a => cases b with
      | none => exact (by decide : (-1 : Int) < 0 ↔ (0 : Int) < 1)
      | some b => exact cmpI_ok.anti _ _ trivial trivial
  · intro a b c ha hb hc h1 h2
    cases a with
    | none =>
      cases b with
      | some b => exact absurd h1 (show ¬ (1 : Int) ≤ 0 from by decide)
      | none => cases c with
        | some c => exact absurd h2 (show ¬ (1 : Int) ≤ 0 from by decide)
        | none => exact (by decide : (0 : Int) ≤ 0)
    | some x =>
      cases c with
      | none => exact (by decide : (-1 : Int) ≤ 0)
      | some z =>
        cases b with
        | none => exact absurd h2 (show ¬ (1 : Int) ≤ 0 from by decide)
        | some y =>
          simp only [cO, cmpI_le] at h1 h2 ⊢
          obtain ⟨x0, x1, _, _⟩ := ha
          obtain ⟨y0, y1, _, _⟩ := hb
          obtain ⟨z0, z1, _, _⟩ := hc
          have k1 : z.1 * y.2.1 * x.2.1 ≤ y.1 * z.2.1 * x.2.1 := Int.mul_le_mul_of_nonneg_right h2 (by omega)
          have k2 : y.1 * x.2.1 * z.2.1 ≤ x.1 * y.2.1 * z.2.1 := Int.mul_le_mul_of_nonneg_right h1 (by omega)
          have e1 : z.1 * y.2.1 * x.2.1 = z.1 * x.2.1 * y.2.1 := by rw [Int.mul_assoc, Int.mul_comm y.2.1, ← Int.mul_assoc]
          have e2 : y.1 * z.2.1 * x.2.1 = y.1 * x.2.1 * z.2.1 := by rw [Int.mul_assoc, Int.mul_comm z.2.1, ← Int.mul_assoc]
          have e3 : x.1 * y.2.1 * z.2.1 = x.1 * z.2.1 * y.2.1 := by rw [Int.mul_assoc, Int.mul_comm y.2.1, ← Int.mul_assoc]
          rw [e1, e2] at k1
          rw [e3] at k2
          exact Int.le_of_mul_le_mul_right (Int.le_trans k1 k2) y1
def cmpR (S : ByteArray → Option Fr) : ByteArray → ByteArray → Int := lexC (fun a b => cO (S a) (S b)) cmpS
theorem cmpR_ok {S : ByteArray → Option Fr} (h : ∀ a, PosQ (S a)) : CmpOK (cmpR S) (fun _ => True) := ((cO_ok.on S).mono (fun a _ => h a)).lex cmpS_ok
theorem score_pos {f : Fa} (h : FaOK f) {C : List Rt} (hC : C.length ≤ 3000) (hs : ∀ r ∈ C, 1 ≤ rStars r ∧ rStars r ≤ 5) (at_ : Int) (who : ByteArray) : PosQ (scoreQ f C who at_) := by
  unfold scoreQ
  split
  · trivial
  · rename_i h0
    have ha := score_apt h hC hs who at_ h0
    have := frac_pos ha
    obtain ⟨_, _, _, _⟩ := ha
    exact ⟨by omega, by omega, by omega, by omega⟩
theorem wrap_u_id {n : Int} (h : 0 ≤ n) (h2 : n ≤ 9223372036854775807) : IntKind.u64.wrap n = n := by rw [wrap_u]; omega
theorem score_ne {f : Fa} (h : FaOK f) {C : List Rt} (hC : C.length ≤ 3000) (hs : ∀ r ∈ C, 1 ≤ rStars r ∧ rStars r ≤ 5) (at_ : Int) {a b : ByteArray} {x y : Fr} (ha : scoreQ f C a at_ = some x) (hb : scoreQ f C b at_ = some y) (hc : cO (some x) (some y) = 0) : x = y := by
  unfold scoreQ at ha hb
  split at ha
  · cases ha
  rename_i a0
  split at hb
  · cases hb
  rename_i b0
  cases ha; cases hb
  have := cmpI_zero.1 hc
  exact frac_eq (score_apt h hC hs a at_ a0) (score_apt h hC hs b at_ b0) this.symm
end Go.Vm
