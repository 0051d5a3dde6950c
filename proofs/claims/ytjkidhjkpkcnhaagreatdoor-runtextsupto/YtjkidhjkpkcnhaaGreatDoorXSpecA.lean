/- RunTexts: what was shown of common functions (VehiclesReady, the same seat). Own work. -/
import Derived.Test.YtjkidhjkpkcnhaaGreatDoorXFn
import Derived.Test.YtjkidhjkpkcnhaaGreatDoorXHand
import Derived.Test.YtjkidhjkpkcnhaaGreatDoorVmQ
import Derived.Lib.Bytealg
set_option linter.unusedVariables false
set_option linter.unusedSimpArgs false
set_option linter.unusedVariables false
set_option linter.unusedSimpArgs false
namespace Go.Vm
open Go.Proofs
end Go.Vm
/- Charging: what is gained, and how long it takes. Plain law. Own work. -/
namespace Go.Vm.Gain
/-- a / b rounded up -/
def cd (a b : Int) : Int := (a + b - 1).tdiv b
theorem cd_lt {a b : Int} (ha : 0 ≤ a) (hb : 0 < b) : a ≤ cd a b * b ∧ cd a b * b < a + b ∧ 0 ≤ cd a b := by
  unfold cd
  rw [Int.tdiv_eq_ediv_of_nonneg (by omega)]
  have h1 := Int.mul_ediv_add_emod (a + b - 1) b
  have h2 := Int.emod_nonneg (a + b - 1) (show b ≠ 0 by omega)
  have h3 := Int.emod_lt_of_pos (a + b - 1) hb
  have h4 : 0 ≤ (a + b - 1) / b := Int.ediv_nonneg (by omega) (by omega)
  rw [Int.mul_comm] at h1
  generalize (a + b - 1) / b * b = z at *
  generalize (a + b - 1) % b = y at *
  refine ⟨by omega, by omega, h4⟩
theorem cd_le {a b : Int} (ha : 0 ≤ a) (hb : 0 < b) : cd a b ≤ a := by
  unfold cd
  rw [Int.tdiv_eq_ediv_of_nonneg (by omega)]
  have : (a + b - 1) / b < a + 1 := Int.ediv_lt_of_lt_mul hb (by
    have : (a + 1) * b = a * b + b := by rw [Int.add_mul, Int.one_mul]
    have h2 : a * 1 ≤ a * b := Int.mul_le_mul_of_nonneg_left (by omega) ha
    omega)
  omega
theorem mul_lt' {n m b : Int} (hb : 0 < b) (h : n * b < m * b) : n < m := Int.lt_of_mul_lt_mul_right h (by omega)
/-- the level after a time, never full -/
def X (L S f g t : Int) : Int := if L < S then L + (min t (cd (S - L) f)) * f + (t - min t (cd (S - L) f)) * g else L + t * g
theorem X_mono {L S f g t u : Int} (hf : 0 < f) (hg : 0 < g) (hgf : g ≤ f) (h : t ≤ u) : X L S f g t ≤ X L S f g u := by
  unfold X
  split
  · rename_i hl
    generalize cd (S - L) f = a
    have e : ∀ x : Int, L + min x a * f + (x - min x a) * g = L + min x a * (f - g) + x * g := fun x => by
      rw [Int.sub_mul, Int.mul_sub]; omega
    rw [e, e]
    have h1 : min t a * (f - g) ≤ min u a * (f - g) := Int.mul_le_mul_of_nonneg_right (by omega) (by omega)
    have h2 : t * g ≤ u * g := Int.mul_le_mul_of_nonneg_right h (by omega)
    omega
  · have h2 : t * g ≤ u * g := Int.mul_le_mul_of_nonneg_right h (by omega)
    omega
/-- how long it takes -/
def need (L S f g T : Int) : Int :=
  if L < S ∧ L < T then
    (if L + min (cd (S - L) f) (cd (T - L) f) * f < T then min (cd (S - L) f) (cd (T - L) f) + cd (T - (L + min (cd (S - L) f) (cd (T - L) f) * f)) g else min (cd (S - L) f) (cd (T - L) f))
  else (if L < T then 0 + cd (T - L) g else 0)
theorem need_nonneg {L S f g T : Int} (hf : 0 < f) (hg : 0 < g) : 0 ≤ need L S f g T := by
  unfold need
  split
  · rename_i h
    have h1 := (cd_lt (a := S - L) (b := f) (by omega) hf).2.2
    have h2 := (cd_lt (a := T - L) (b := f) (by omega) hf).2.2
    split
    · have h3 := (cd_lt (a := T - (L + min (cd (S - L) f) (cd (T - L) f) * f)) (b := g) (by omega) hg).2.2
      omega
    · omega
  · split
    · have h3 := (cd_lt (a := T - L) (b := g) (by omega) hg).2.2
      omega
    · omega
theorem need_spec {L S f g T : Int} (hf : 0 < f) (hg : 0 < g) : T ≤ X L S f g (need L S f g T) ∧ (0 < need L S f g T → X L S f g (need L S f g T - 1) < T) := by
  unfold need X
  by_cases h : L < S
  · by_cases hT : L < T
    · simp only [h, hT, and_self, if_true]
      obtain ⟨a1, a2, a3⟩ := cd_lt (a := S - L) (b := f) (by omega) hf
      obtain ⟨b1, b2, b3⟩ := cd_lt (a := T - L) (b := f) (by omega) hf
      generalize cd (S - L) f = a at *
      generalize cd (T - L) f = b at *
      by_cases hab : b ≤ a
      · rw [Int.min_eq_right hab]
        have : ¬ (L + b * f < T) := by omega
        rw [if_neg this, Int.min_eq_left hab, Int.min_eq_left (by omega : b - 1 ≤ a)]
        simp only [Int.sub_self, Int.zero_mul, Int.add_zero, Int.sub_mul, Int.one_mul]
        omega
      · have hab' : a < b := by omega
        rw [Int.min_eq_left (by omega : a ≤ b)]
        have hlt : L + a * f < T := by
          have : a * f ≤ (b - 1) * f := Int.mul_le_mul_of_nonneg_right (by omega) (by omega)
          rw [Int.sub_mul, Int.one_mul] at this
          omega
        rw [if_pos hlt]
        obtain ⟨c1, c2, c3⟩ := cd_lt (a := T - (L + a * f)) (b := g) (by omega) hg
        have c4 : 0 < cd (T - (L + a * f)) g := by
          rcases Int.lt_or_le 0 (cd (T - (L + a * f)) g) with h | h
          · exact h
          · have : cd (T - (L + a * f)) g = 0 := by omega
            rw [this, Int.zero_mul] at c1; omega
        generalize cd (T - (L + a * f)) g = c at *
        rw [Int.min_eq_right (by omega : a ≤ a + c), Int.min_eq_right (by omega : a ≤ a + c - 1)]
        have e1 : a + c - a = c := by omega
        have e2 : a + c - 1 - a = c - 1 := by omega
        rw [e1, e2]
        simp only [Int.sub_mul, Int.one_mul]
        omega
    · simp only [h, hT, and_false, if_false, if_true]
      have a3 := (cd_lt (a := S - L) (b := f) (by omega) hf).2.2
      rw [Int.min_eq_left a3]
      simp only [Int.zero_mul, Int.sub_self]
      omega
  · simp only [h, false_and, if_false]
    split
    · obtain ⟨c1, c2, c3⟩ := cd_lt (a := T - L) (b := g) (by omega) hg
      simp only [Int.zero_add, Int.sub_mul, Int.one_mul]
      omega
    · simp only [Int.zero_mul]
      omega
theorem need_le {L S f g T t : Int} (hf : 0 < f) (hg : 0 < g) (hgf : g ≤ f) (ht : 0 ≤ t) (h : T ≤ X L S f g t) : need L S f g T ≤ t := by
  rcases Int.lt_or_le t (need L S f g T) with h1 | h1
  · have := X_mono (L := L) (S := S) hf hg hgf (show t ≤ need L S f g T - 1 by omega)
    have := (need_spec (L := L) (S := S) (T := T) hf hg).2 (by omega)
    omega
  · exact h1
/-- how much that is at most -/
theorem need_small {L S f g T : Int} (hf : 0 < f) (hg : 0 < g) (hL : 0 ≤ L) (hS : 0 ≤ S) (hT : 0 ≤ T) : need L S f g T ≤ S + T := by
  unfold need
  split
  · rename_i h
    have h1 := cd_le (a := S - L) (b := f) (by omega) hf
    have h2 := cd_le (a := T - L) (b := f) (by omega) hf
    have h4 := (cd_lt (a := S - L) (b := f) (by omega) hf).2.2
    have h5 := (cd_lt (a := T - L) (b := f) (by omega) hf).2.2
    split
    · have h3 := cd_le (a := T - (L + min (cd (S - L) f) (cd (T - L) f) * f)) (b := g) (by omega) hg
      have : 0 ≤ min (cd (S - L) f) (cd (T - L) f) * f := Int.mul_nonneg (by omega) (by omega)
      omega
    · omega
  · split
    · have h3 := cd_le (a := T - L) (b := g) (by omega) hg
      omega
    · omega
/-- as the document reckons -/
def gainRef (F L S f g t full : Int) : Int :=
  let n := if L < S then min t (cd (S - L) f) else 0
  let have1 := L + n * f
  let have2 := if t - n > 0 then have1 + min (t - n) (cd (max 0 (F - have1)) g) * g else have1
  min full (have2.tdiv 3600000000)
theorem min_div {F Y full : Int} (hF : F = full * 3600000000) (hY : 0 ≤ Y) : min full (Y.tdiv 3600000000) = (min F Y).tdiv 3600000000 := by
  subst hF
  rw [Int.tdiv_eq_ediv_of_nonneg hY]
  have h1 := Int.mul_ediv_add_emod Y 3600000000
  have h2 := Int.emod_nonneg Y (show (3600000000 : Int) ≠ 0 by decide)
  have h3 := Int.emod_lt_of_pos Y (show (0 : Int) < 3600000000 by decide)
  by_cases h : full * 3600000000 ≤ Y
  · rw [Int.min_eq_left h]
    have : full ≤ Y / 3600000000 := by omega
    rw [Int.min_eq_left this, Int.mul_tdiv_cancel _ (by decide)]
  · rw [Int.min_eq_right (by omega : Y ≤ full * 3600000000), Int.tdiv_eq_ediv_of_nonneg hY]
    have : Y / 3600000000 ≤ full := by omega
    rw [Int.min_eq_right this]
theorem gainRef_eq {F L S f g t full : Int} (hF : F = full * 3600000000) (hL : 0 ≤ L) (hf : 0 < f) (hg : 0 < g) (ht : 0 ≤ t) : gainRef F L S f g t full = (min F (X L S f g t)).tdiv 3600000000 := by
  unfold gainRef X
  simp only
  have key : ∀ (l r : Int), 0 ≤ l → 0 ≤ r → min full ((if r > 0 then l + min r (cd (max 0 (F - l)) g) * g else l).tdiv 3600000000) = (min F (l + r * g)).tdiv 3600000000 := by
    intro l r hl hr
    obtain ⟨c1, c2, c3⟩ := cd_lt (a := max 0 (F - l)) (b := g) (by omega) hg
    have hrg : 0 ≤ r * g := Int.mul_nonneg hr (by omega)
    split
    · generalize cd (max 0 (F - l)) g = c at *
      by_cases hrc : r ≤ c
      · rw [Int.min_eq_left hrc, min_div hF (by omega)]
      · rw [Int.min_eq_right (by omega : c ≤ r)]
        have h1 : c * g ≤ r * g := Int.mul_le_mul_of_nonneg_right (by omega) (by omega)
        rw [min_div hF (by omega), Int.min_eq_left (by omega : F ≤ l + c * g), Int.min_eq_left (by omega : F ≤ l + r * g)]
    · have : r = 0 := by omega
      subst this
      rw [Int.zero_mul, Int.add_zero, min_div hF hl]
  by_cases h : L < S
  · simp only [h, if_true]
    obtain ⟨a1, a2, a3⟩ := cd_lt (a := S - L) (b := f) (by omega) hf
    have h1 : 0 ≤ min t (cd (S - L) f) * f := Int.mul_nonneg (by omega) (by omega)
    exact key _ _ (by omega) (by omega)
  · simp only [h, if_false, Int.zero_mul, Int.add_zero, Int.sub_zero]
    exact key _ _ hL ht
theorem gain_ge {F L S f g t full T want : Int} (hF : F = full * 3600000000) (hT : T = want * 3600000000) (hTF : want ≤ full) (hX : 0 ≤ X L S f g t) (hfull : 0 ≤ full) :
    want ≤ (min F (X L S f g t)).tdiv 3600000000 ↔ T ≤ X L S f g t := by
  subst hF; subst hT
  generalize X L S f g t = Y at *
  rw [Int.tdiv_eq_ediv_of_nonneg (by omega)]
  constructor
  · intro h
    omega
  · intro h
    omega
end Go.Vm.Gain

/- What the functions of BatteriesGain come to. Own work. -/
set_option linter.unusedVariables false
set_option linter.unusedSimpArgs false
namespace Go.Vm
open Go.RowKit
/-! ### small ones -/
def s74 (a b c : Int) : Bool := decide (a < b) || decide (a > c)
theorem h74 (a b c : Int) (hw : WFs A74 (a, b, c, ())) : ∃ k, f74 k a b c = some (s74 a b c, ()) := by
  refine ⟨0, ?_⟩
  unfold f74 s74
  cases decide (a < b) <;> rfl
def s71 (a b c : Int) : Bool := decide (b ≤ a) && decide (a ≤ c)
theorem h71 (a b c : Int) (hw : WFs A71 (a, b, c, ())) : ∃ k, f71 k a b c = some (s71 a b c, ()) := by
  refine ⟨0, ?_⟩
  unfold f71 s71
  cases decide (b ≤ a) <;> rfl
theorem in_out (a b c : Int) : s71 a b c = !s74 a b c := by
  unfold s71 s74
  by_cases h : b ≤ a <;> by_cases h2 : a ≤ c <;> simp [h, h2] <;> omega
def s132 (a : Int) : Bool := false
theorem h132 (a : Int) (hw : WFs A132 (a, ())) : ∃ k, f132 k a = some (s132 a, ()) := by
  refine ⟨0, ?_⟩
  unfold f132 s132
  simp
def s67 (a b : Int) : Int := if a < b then -1 else if a > b then 1 else 0
theorem h67 (a b : Int) (hw : WFs A67 (a, b, ())) : ∃ k, f67 s132 k a b = some (s67 a b, ()) := by
  refine ⟨0, ?_⟩
  unfold f67 s67 s132
  simp only [cond_false]
  by_cases h : a < b
  · simp [h]
  · by_cases h2 : a > b <;> simp [h, h2]
/-! ### the first that is not 0 -/
def nz : List Int → Int
  | [] => 0
  | x :: l => if x = 0 then nz l else x
def nzBody (x : Int) : Unit ⊕ ((Int × Unit) ⊕ (Unit × Unit)) := bif x != 0 then .inr (.inl (x, ())) else .inl ()
theorem nz_scan : ∀ (l : List Int) (j : Nat), (match scan (β := Unit) (fun _ x _ => nzBody x) (fun _ => .inr ((), ())) l j () with | .inl z => some z | .inr _ => some ((0 : Int), ())) = some (nz l, ())
  | [], j => rfl
  | x :: l, j => by
    by_cases h : x = 0
    · subst h
      simp only [scan, nzBody, nz, bne_self_eq_false, cond_false, if_true]
      exact nz_scan l (j + 1)
    · have : (x != 0) = true := by simpa using h
      simp only [scan, nzBody, nz, this, cond_true, h, if_false]
def s66 (l : List Int) : Int := nz l
/-! ### keys -/
def okc (b : UInt8) : Bool := (decide (97 ≤ b.toNat) && decide (b.toNat ≤ 122)) || (decide (48 ≤ b.toNat) && decide (b.toNat ≤ 57)) || b.toNat == 45 || b.toNat == 95
def lower (b : UInt8) : Bool := decide (97 ≤ b.toNat) && decide (b.toNat ≤ 122)
def keyL (l : List UInt8) : Bool := decide (1 ≤ l.length) && decide (l.length ≤ 40) && lower (l.headD 0) && l.all okc
def key (s : ByteArray) : Bool := keyL s.data.toList
theorem size_list (s : ByteArray) : s.size = s.data.toList.length := by rw [Array.length_toList]; rfl
theorem bt_at {s : ByteArray} {j : Nat} {b : UInt8} (h : s.data.toList[j]? = some b) : bt s (j : Int) = (b.toNat : Int) := by
  unfold bt
  have : s.data.getD j 0 = b := by
    rw [Array.getD_eq_getD_getElem?, ← Array.getElem?_toList, h]; rfl
  simp only [Int.toNat_natCast, this]
def allBody (b : UInt8) : Unit ⊕ ((Bool × Unit) ⊕ (Unit × Unit)) := bif okc b then .inl () else .inr (.inl (false, ()))
theorem all_scan (p : UInt8 → Bool) (body : UInt8 → Unit ⊕ ((Bool × Unit) ⊕ (Unit × Unit))) (hb : ∀ b, body b = bif p b then .inl () else .inr (.inl (false, ()))) : ∀ (l : List UInt8) (j : Nat), (match scan (β := Unit) (fun _ x _ => body x) (fun _ => .inr ((), ())) l j () with | .inl z => some z | .inr _ => some (true, ())) = some (l.all p, ())
  | [], j => rfl
  | x :: l, j => by
    simp only [scan, hb, List.all_cons]
    cases p x
    · rfl
    · simp only [cond_true, Bool.true_and]
      have := all_scan p body hb l (j + 1)
      simp only [hb] at this
      exact this
theorem h94 (s t : ByteArray) (hw : WFs A94 (s, t, ())) : ∃ k, f94 (fun s c => Lib.indexByte s.data.toList c.toNat.toUInt8) k s t = some (s.data.toList.all (fun b => t.data.toList.contains b), ()) := by
  simp only [WFs, WF] at hw
  refine ⟨s.data.toList.length + 1, ?_⟩
  unfold f94
  rw [iter_scan0 (β := Unit) s.data.toList (fun j _ => (((j : Int), ()), ())) (fun _ x _ => bif t.data.toList.contains x then .inl () else .inr (.inl (false, ()))) (fun _ => .inr ((), ())) () ?hs ?hk ?h1 ?h2]
  · exact all_scan _ _ (fun b => rfl) _ 0
  case hs => rfl
  case hk => exact Nat.lt_succ_self _
  · intro j x b hx
    have hs : s.data.toList.length ≤ 9223372036854775807 := by rw [← size_list]; exact hw.1
    simp only [size_list, lt_at hx, inR_at hx, bt_at hx, wrap_succ hx hs, cond_true]
    have : decide (Lib.indexByte t.data.toList (x.toNat : Int).toNat.toUInt8 < 0) = !t.data.toList.contains x := by
      have e : (x.toNat : Int).toNat.toUInt8 = x := by simp
      rw [e]
      generalize t.data.toList = l
      induction l with
      | nil => rfl
      | cons y l ih =>
        unfold Lib.indexByte
        have hge := Lib.indexByte_ge l x
        by_cases hyx : y = x
        · subst hyx; simp
        · have h1 : (y == x) = false := by simpa using hyx
          have h2 : (x == y) = false := by simpa using (fun h => hyx h.symm)
          simp only [h1, Bool.false_eq_true, if_false, List.contains_cons, h2, Bool.false_or]
          rw [← ih]
          by_cases h3 : Lib.indexByte l x = -1
          · simp [h3]
          · have : (Lib.indexByte l x == -1) = false := by simpa using h3
            simp only [this, Bool.false_eq_true, if_false]
            congr 1
            apply propext
            omega
    rw [this]
    cases t.data.toList.contains x <;> rfl
  · intro b
    rw [size_list]
    simp
def s145 (s : ByteArray) (c : Int) : Int := Lib.indexByte s.data.toList c.toNat.toUInt8
def s94 (s t : ByteArray) : Bool := s.data.toList.all (fun b => t.data.toList.contains b)
theorem h145 (s : ByteArray) (c : Int) (hw : WFs A145 (s, c, ())) : ∃ k, f145 s182 k s c = some (s145 s c, ()) := ⟨0, rfl⟩
def s75 (s : ByteArray) : Bool := key s
def s36 (s : ByteArray) : Bool := key s
theorem sEq_empty (s : ByteArray) : sEq s (ByteArray.mk #[]) = s.data.toList.isEmpty := by
  unfold sEq
  rw [ByteArray.toList_eq, ByteArray.toList_eq]
  cases s.data.toList <;> rfl
theorem all256 {p : UInt8 → Bool} (h : ∀ n : Fin 256, p (UInt8.ofNat n.1) = true) (b : UInt8) : p b = true := by
  have := h ⟨b.toNat, b.toNat_lt⟩
  simpa using this
theorem smalls_ok : ∀ b : UInt8, (([97, 98, 99, 100, 101, 102, 103, 104, 105, 106, 107, 108, 109, 110, 111, 112, 113, 114, 115, 116, 117, 118, 119, 120, 121, 122] : List UInt8).contains b == lower b) = true := all256 (by decide +kernel)
theorem chars_ok : ∀ b : UInt8, (([97, 98, 99, 100, 101, 102, 103, 104, 105, 106, 107, 108, 109, 110, 111, 112, 113, 114, 115, 116, 117, 118, 119, 120, 121, 122, 48, 49, 50, 51, 52, 53, 54, 55, 56, 57, 45, 95] : List UInt8).contains b == okc b) = true := all256 (by decide +kernel)
theorem h36 (s : ByteArray) (hw : WFs A36 (s, ())) : ∃ k, f36 s71 s94 k s = some (s36 s, ()) := by
  refine ⟨0, ?_⟩
  unfold f36 s36 key keyL s71 s94
  rw [size_list]
  have he : (s.extract (Int.toNat 0) (Int.toNat 1)).data.toList = s.data.toList.take 1 := by simp [ByteArray.data_extract]
  simp only [he]
  generalize s.data.toList = l
  have e1 : (fun b => ([97, 98, 99, 100, 101, 102, 103, 104, 105, 106, 107, 108, 109, 110, 111, 112, 113, 114, 115, 116, 117, 118, 119, 120, 121, 122] : List UInt8).contains b) = lower := funext fun b => by simpa using smalls_ok b
  have e2 : (fun b => ([97, 98, 99, 100, 101, 102, 103, 104, 105, 106, 107, 108, 109, 110, 111, 112, 113, 114, 115, 116, 117, 118, 119, 120, 121, 122, 48, 49, 50, 51, 52, 53, 54, 55, 56, 57, 45, 95] : List UInt8).contains b) = okc := funext fun b => by simpa using chars_ok b
  simp only [e1, e2]
  cases l with
  | nil => rfl
  | cons b l =>
    have h1 : decide ((1 : Int) ≤ ((b :: l).length : Int)) = true := by simp; omega
    have h2 : decide ((((b :: l).length : Nat) : Int) ≤ 40) = decide ((b :: l).length ≤ 40) := by congr 1; apply propext; omega
    have h3 : decide (1 ≤ (b :: l).length) = true := by simp
    simp only [h1, h2, h3, Bool.true_and]
    cases decide ((b :: l).length ≤ 40)
    · rfl
    · simp only [cond_true, Int.le_refl, decide_true, Bool.true_and, show decide ((0 : Int) ≤ 1) = true from rfl, List.take_succ_cons, List.take_zero, List.all_cons, List.all_nil, Bool.and_true, List.headD_cons]
      cases lower b <;> rfl
theorem h75 (s : ByteArray) (hw : WFs A75 (s, ())) : ∃ k, f75 k s = some (s75 s, ()) := by
  simp only [WFs, WF] at hw
  refine ⟨s.data.toList.length + 1, ?_⟩
  unfold f75 s75 key keyL
  rw [sEq_empty]
  cases hl : s.data.toList with
  | nil => rfl
  | cons b l =>
    have h0 : s.data.toList[0]? = some b := by rw [hl]; rfl
    have hb : bt s (0 : Int) = (b.toNat : Int) := bt_at h0
    have hin : inR (0 : Int) (s.size : Int) = true := by
      have := inR_at h0
      rw [← size_list] at this
      exact this
    rw [← hl]
    have hne : (s.data.toList).isEmpty = false := by rw [hl]; rfl
    have h1 : decide (1 ≤ s.data.toList.length) = true := by rw [hl]; simp
    have hh : s.data.toList.headD 0 = b := by rw [hl]; rfl
    have h2 : decide (((s.size : Nat) : Int) > 40) = !decide (s.data.toList.length ≤ 40) := by
      rw [size_list, ← decide_not]
      congr 1; apply propext; omega
    simp only [hne, h1, hh, h2, hin, hb, cond_false, cond_true, Bool.true_and]
    cases decide (s.data.toList.length ≤ 40)
    · rfl
    · simp only [Bool.not_true, cond_false, Bool.true_and]
      unfold lower
      have e1 : decide ((b.toNat : Int) < 97) = !decide (97 ≤ b.toNat) := by by_cases h : 97 ≤ b.toNat <;> simp [h] <;> omega
      have e2 : decide ((b.toNat : Int) > 122) = !decide (b.toNat ≤ 122) := by by_cases h : b.toNat ≤ 122 <;> simp [h] <;> omega
      rw [e1, e2]
      cases decide (97 ≤ b.toNat)
      · rfl
      · cases decide (b.toNat ≤ 122)
        · rfl
        · simp only [Bool.not_true, cond_false, Bool.true_and]
          rw [iter_scan0 (β := Unit) s.data.toList (fun j _ => (((j : Int), ()), ())) (fun _ x _ => allBody x) (fun _ => .inr ((), ())) () ?hs ?hk ?h1 ?h2]
          case hs => rfl
          case hk => exact Nat.lt_succ_self _
          · exact all_scan _ _ (fun b => rfl) _ 0
          · intro j x b hx
            have hs : s.data.toList.length ≤ 9223372036854775807 := by rw [← size_list]; exact hw.1
            simp only [size_list, lt_at hx, inR_at hx, bt_at hx, wrap_succ hx hs, cond_true]
            unfold allBody okc
            have a1 : decide ((x.toNat : Int) ≥ 97) = decide (97 ≤ x.toNat) := by congr 1; apply propext; omega
            have a2 : decide ((x.toNat : Int) ≤ 122) = decide (x.toNat ≤ 122) := by congr 1; apply propext; omega
            have a3 : decide ((x.toNat : Int) ≥ 48) = decide (48 ≤ x.toNat) := by congr 1; apply propext; omega
            have a4 : decide ((x.toNat : Int) ≤ 57) = decide (x.toNat ≤ 57) := by congr 1; apply propext; omega
            have a5 : ((x.toNat : Int) == 45) = (x.toNat == 45) := by rw [Bool.eq_iff_iff]; simp only [beq_iff_eq]; omega
            have a6 : ((x.toNat : Int) == 95) = (x.toNat == 95) := by rw [Bool.eq_iff_iff]; simp only [beq_iff_eq]; omega
            rw [a1, a2, a3, a4, a5, a6]
            cases decide (97 ≤ x.toNat) <;> cases decide (x.toNat ≤ 122) <;> cases decide (48 ≤ x.toNat) <;> cases decide (x.toNat ≤ 57) <;> cases (x.toNat == 45) <;> cases (x.toNat == 95) <;> rfl
          · intro b
            rw [size_list]
            simp
end Go.Vm

/- Lists that are checked. Own work. -/
set_option linter.unusedVariables false
set_option linter.unusedSimpArgs false
namespace Go.Vm
open Go.RowKit
def leS (a b : ByteArray) : Bool := sLt a b || sEq a b
/-- what is wrong with a list in the order of its keys -/
def chk {α : Type} (kf : α → ByteArray) (φ : α → Int) : Option ByteArray → List α → Int
  | _, [] => 0
  | p, x :: l => bif !key (kf x) then 5 else bif (match p with | none => false | some q => leS (kf x) q) then 7 else bif φ x != 0 then φ x else chk kf φ (some (kf x)) l
def prevK {α : Type} (kf : α → ByteArray) (xs : List α) (j : Nat) : Option ByteArray := if j = 0 then none else (xs[j - 1]?).map kf
def chkBody {α : Type} (kf : α → ByteArray) (φ : α → Int) (xs : List α) (j : Nat) (x : α) (_ : Unit) : Unit ⊕ ((Int × Unit) ⊕ (Unit × Unit)) :=
  bif !key (kf x) then .inr (.inl (5, ())) else bif (match prevK kf xs j with | none => false | some q => leS (kf x) q) then .inr (.inl (7, ())) else bif φ x != 0 then .inr (.inl (φ x, ())) else .inl ()
theorem chk_scan {α : Type} (kf : α → ByteArray) (φ : α → Int) (xs : List α) : ∀ (l : List α) (j : Nat), xs.drop j = l →
    (match scan (chkBody kf φ xs) (fun _ => .inr ((), ())) l j () with | .inl z => some z | .inr _ => some ((0 : Int), ())) = some (chk kf φ (prevK kf xs j) l, ())
  | [], j, hl => rfl
  | x :: l, j, hl => by
    have hx : xs[j]? = some x := by rw [← List.head?_drop, hl]; rfl
    have hl' : xs.drop (j + 1) = l := by rw [← List.drop_drop, hl]; rfl
    simp only [scan, chk, chkBody]
    cases !key (kf x)
    · simp only [cond_false]
      generalize (match prevK kf xs j with | none => false | some q => leS (kf x) q) = b
      cases b
      · simp only [cond_false]
        cases φ x != 0
        · simp only [cond_false]
          have := chk_scan kf φ xs l (j + 1) hl'
          have hp : prevK kf xs (j + 1) = some (kf x) := by simp [prevK, hx]
          rw [hp] at this
          exact this
        · rfl
      · rfl
    · rfl
/-- .. as the reference goes: with the last key -/
def chkLast {α : Type} (kf : α → ByteArray) (φ : α → Int) : ByteArray → List α → Int
  | _, [] => 0
  | p, x :: l => bif !key (kf x) then 5 else bif leS (kf x) p then 7 else bif φ x != 0 then φ x else chkLast kf φ (kf x) l
theorem chkLast_eq {α : Type} (kf : α → ByteArray) (φ : α → Int) : ∀ (l : List α) (p : ByteArray), chkLast kf φ p l = chk kf φ (some p) l
  | [], p => rfl
  | x :: l, p => by simp only [chkLast, chk, chkLast_eq kf φ l]
theorem leS_empty {s : ByteArray} (h : key s = true) : leS s (ByteArray.mk #[]) = false := by
  unfold leS
  rw [sEq_empty]
  unfold sLt
  rw [ByteArray.toList_eq, ByteArray.toList_eq]
  unfold key keyL at h
  cases hl : s.data.toList with
  | nil => rw [hl] at h; simp at h
  | cons b l => rfl
theorem chkLast_first {α : Type} (kf : α → ByteArray) (φ : α → Int) (l : List α) : chkLast kf φ (ByteArray.mk #[]) l = chk kf φ none l := by
  cases l with
  | nil => rfl
  | cons x l =>
    simp only [chkLast, chk]
    cases hk : key (kf x)
    · rfl
    · simp only [leS_empty hk, Bool.not_true, cond_false, chkLast_eq]
def lastBody {α : Type} (kf : α → ByteArray) (φ : α → Int) (_ : Nat) (x : α) (p : ByteArray) : ByteArray ⊕ ((Int × Unit) ⊕ (Unit × Unit)) :=
  bif !key (kf x) then .inr (.inl (5, ())) else bif leS (kf x) p then .inr (.inl (7, ())) else bif φ x != 0 then .inr (.inl (φ x, ())) else .inl (kf x)
theorem last_scan {α : Type} (kf : α → ByteArray) (φ : α → Int) : ∀ (l : List α) (j : Nat) (p : ByteArray),
    (match scan (lastBody kf φ) (fun _ => .inr ((), ())) l j p with | .inl z => some z | .inr _ => some ((0 : Int), ())) = some (chkLast kf φ p l, ())
  | [], j, p => rfl
  | x :: l, j, p => by
    simp only [scan, chkLast, lastBody]
    cases !key (kf x)
    · simp only [cond_false]
      cases leS (kf x) p
      · simp only [cond_false]
        cases φ x != 0
        · exact last_scan kf φ l (j + 1) (kf x)
        · rfl
      · rfl
    · rfl
theorem prev_at {α : Type} {xs : List α} {j : Nat} {x : α} (h : xs[j]? = some x) (hl : xs.length ≤ 9223372036854775807) (hj : j ≠ 0) : ∃ y, xs[j - 1]? = some y ∧ IntKind.i64.wrap ((j : Int) - 1) = ((j - 1 : Nat) : Int) := by
  have := (List.getElem?_eq_some_iff.1 h).1
  refine ⟨xs[j - 1], List.getElem?_eq_getElem (by omega), ?_⟩
  rw [wrap_ok (by omega) (by omega)]; omega
/-! ### vehicles, places -/
abbrev Veh := ByteArray × Int × Int × Int × Int × Unit
abbrev Plc := ByteArray × Int × Int × Unit
def vehBad (v : Veh) : Int := bif s74 v.2.1 1 1000000 then 1 else bif s74 v.2.2.1 0 v.2.1 then 1 else bif s74 v.2.2.2.1 1 1000000 then 1 else bif s74 v.2.2.2.2.1 0 1000 then 1 else 0
def plcBad (v : Plc) : Int := bif s74 v.2.1 1 50 then 1 else bif s74 v.2.2.1 1 1000000 then 1 else 0
def vehsFault (l : List Veh) : Int := if l.length > 200 then 2 else chk (·.1) vehBad none l
def plcsFault (l : List Plc) : Int := if l.length > 50 then 2 else chk (·.1) plcBad none l
theorem len_gt {α : Type} (l : List α) (n : Nat) : decide ((l.length : Int) > (n : Int)) = decide (l.length > n) := by congr 1; apply propext; omega
end Go.Vm

/- What is gained, as the reference reckons it. Own work. -/
set_option linter.unusedVariables false
set_option linter.unusedSimpArgs false
namespace Go.Vm
open Go.RowKit Go.Vm.Gain
def powerOf (v : Veh) (p : Plc) : Int := if decide (p.2.2.1 < v.2.2.2.1) = true then p.2.2.1 else v.2.2.2.1
def slowOf (v : Veh) : Int := (v.2.1 * v.2.2.2.2.1).tdiv 1000 * 3600000000
/-- a right vehicle at a right place -/
structure Fit (v : Veh) (p : Plc) (lvl : Int) : Prop where
  f1 : 1 ≤ v.2.1
  f2 : v.2.1 ≤ 1000000
  s1 : 0 ≤ v.2.2.2.2.1
  s2 : v.2.2.2.2.1 ≤ 1000
  q1 : 1 ≤ powerOf v p
  q2 : powerOf v p ≤ 1000000
  l1 : 0 ≤ lvl
  l2 : lvl ≤ v.2.1
theorem Fit.prod {v : Veh} {p : Plc} {lvl : Int} (R : Fit v p lvl) : 0 ≤ v.2.1 * v.2.2.2.2.1 ∧ v.2.1 * v.2.2.2.2.1 ≤ v.2.1 * 1000 :=
  ⟨Int.mul_nonneg (by have := R.f1; omega) R.s1, Int.mul_le_mul_of_nonneg_left R.s2 (by have := R.f1; omega)⟩
/-- what is gained in a time -/
def gainAt (v : Veh) (p : Plc) (lvl t : Int) : Int := (min (v.2.1 * 3600000000) (X (lvl * 3600000000) (slowOf v) (1000 * powerOf v p) (500 * powerOf v p) t)).tdiv 3600000000
end Go.Vm

/- Shifts: what is wrong with them, and whose each one is. Own work. -/
set_option linter.unusedVariables false
set_option linter.unusedSimpArgs false
namespace Go.Vm
open Go.RowKit Go.Vm.Gain
abbrev Wd := Int × Int × Unit
def s189 (a b : Wd) : Int := nz [s67 a.1 b.1, s67 a.2.1 b.2.1]
theorem h189 (a b : Wd) (hw : WFs A189 (a, b, ())) : ∃ k, f189 s66 s67 k a b = some (s189 a b, ()) := ⟨0, rfl⟩
def shBad (w : Wd) : Bool := decide (w.1 < 0) || (decide (w.1 ≥ w.2.1) || decide (w.2.1 > 345686400000))
def shB (w : Wd) (p : Option Wd) : Option Wd ⊕ ((Int × Unit) ⊕ (Unit × Unit)) :=
  bif shBad w then .inr (.inl (1, ())) else match p with
    | none => .inl (some w)
    | some o => bif decide (s189 w o < 0) then .inr (.inl (7, ())) else .inl (some w)
def shiftsFault (l : List Wd) : Int := if l.length > 500 then 2 else out1 (scan (fun _ => shB) (fun _ => .inr ((), ())) l 0 none)
def SJ (xs : List Wd) (j : Nat) (p : Option Wd) : Prop := (j = 0 ∧ p = none) ∨ ∃ o, 0 < j ∧ xs[j - 1]? = some o ∧ p = some o
theorem shB_next {x : Wd} {b b' : Option Wd} (h : shB x b = .inl b') : shBad x = false ∧ b' = some x ∧ ∀ o, b = some o → ¬ s189 x o < 0 := by
  unfold shB at h
  cases hb : shBad x <;> rw [hb] at h
  · refine ⟨rfl, ?_⟩
    cases b with
    | none => simp only [cond_false, Sum.inl.injEq] at h; exact ⟨h.symm, fun o h => by cases h⟩
    | some o =>
      simp only [cond_false] at h
      cases h2 : decide (s189 x o < 0) <;> rw [h2] at h
      · simp only [cond_false, Sum.inl.injEq] at h
        exact ⟨h.symm, fun o' ho => by cases ho; exact of_decide_eq_false h2⟩
      · cases h
  · cases h
theorem SJ_next {xs : List Wd} (j : Nat) (x : Wd) (b b' : Option Wd) (hx : xs[j]? = some x) (h : shB x b = .inl b') : SJ xs (j + 1) b' :=
  .inr ⟨x, by omega, hx, (shB_next h).2.1⟩
def s152 (l : List Wd) : Option (Int × Unit) := some (shiftsFault l, ())
theorem h152 (l : List Wd) (y : Int × Unit) (hw : WFs A152 (l, ())) (h : s152 l = some y) : ∃ k, f152 s189 k l = some y := by
  cases h
  simp only [WFs, WF] at hw
  have hl := hw.1.1
  refine ⟨l.length + 1, ?_⟩
  unfold f152 shiftsFault
  rw [show (500 : Int) = ((500 : Nat) : Int) from rfl, len_gt]
  by_cases hn : l.length > 500
  · simp [hn]
  · simp only [hn, decide_false, cond_false, if_false]
    rw [iter_scanI (β := Option Wd) l (fun j _ => (((j : Int), ()), ())) (fun _ => shB) (fun _ => .inr ((), ())) (SJ l) none ?hb ?hs ?hk ?hJ ?h1 ?h2]
    · exact out1_bind _
    case hb => exact .inl ⟨rfl, rfl⟩
    case hs => rfl
    case hk => exact Nat.lt_succ_self _
    · intro j x b b' hx _ h
      exact SJ_next j x b b' hx h
    · intro j x b hx hJ
      simp only [lt_at hx, inR_at hx, rd_at hx, wrap_succ hx hl, cond_true]
      unfold shB shBad
      cases h1 : decide (x.1 < 0)
      · cases h2 : decide (x.1 ≥ x.2.1)
        · cases h3 : decide (x.2.1 > 345686400000)
          · simp only [cond_false, Bool.or_false]
            rcases hJ with ⟨rfl, rfl⟩ | ⟨o, hj, ho, rfl⟩
            · rfl
            · have e0 : decide (((j : Nat) : Int) > 0) = true := by simp; omega
              simp only [e0, prev_ix hl hj ho, inR_at ho, rd_at ho, cond_true]
              cases decide (s189 x o < 0) <;> rfl
          · rfl
        · rfl
      · rfl
    · intro b _
      simp
/-! ### whose each shift is -/
/-- when each driver is free; whose each shift is -/
def rostStep (w : Wd) (b : List Int × List Int) : List Int × List Int :=
  match b.1.findIdx? (fun f => decide (f ≤ w.1)) with
  | some k => (b.1.set k w.2.1, b.2 ++ [(k : Int)])
  | none => (b.1 ++ [w.2.1], b.2 ++ [(b.1.length : Int)])
def rost (l : List Wd) : List Int × List Int := l.foldl (fun b w => rostStep w b) ([], [])
def s153 (l : List Wd) : Option (List Int × Int × Unit) := if l.length ≤ 4294967296 then some ((rost l).2, ((rost l).1.length : Int), ()) else none
theorem h153 (l : List Wd) (y : List Int × Int × Unit) (hw : WFs A153 (l, ())) (h : s153 l = some y) : ∃ k, f153 k l = some y := by
  unfold s153 at h
  split at h
  · rename_i hl
    cases h
    refine ⟨l.length + 2, ?_⟩
    unfold f153
    rw [iter_fold (β := List Int × List Int) l (fun j b => ((b.1, b.2, (j : Int), ()), ())) rostStep (fun b => .inr ((b.1, b.2, ()), ())) (fun j b => b.1.length ≤ j ∧ b.2.length = j) ([], []) ?hb ?hs ?hk ?hJ ?h1 ?h2]
    · rfl
    case hb => exact ⟨Nat.le_refl _, rfl⟩
    case hs => rfl
    case hk => omega
    · intro j x b hx hJ
      unfold rostStep
      split
      · simp only [List.length_set, List.length_append, List.length_singleton]; omega
      · simp only [List.length_append, List.length_singleton]; omega
    · intro j x b hx hJ
      obtain ⟨fr, out⟩ := b
      obtain ⟨hJ1, hJ2⟩ := hJ
      simp only at hJ1 hJ2
      have hjl := (List.getElem?_eq_some_iff.1 hx).1
      simp only [lt_at hx, inR_at hx, rd_at hx, wrap_succ hx (by omega), cond_true]
      rw [iter_find (s0 := (((0 : Int), ()), (x, ()))) fr (fun i => (((i : Int), ()), (x, ()))) (fun f => decide (f ≤ x.1)) (fun i => .inl (.inr (((i : Int), ()), (fr, (x.1, x.2.1, ()), ())))) (.inr ((), ((x.1, x.2.1, ()), ()))) rfl (by omega) ?g1 ?g2]
      case g1 =>
        intro i f hf
        simp only [lt_at hf, inR_at hf, rd_at hf, wrap_succ hf (by omega), cond_true]
        cases decide (f ≤ x.1) <;> rfl
      case g2 => simp
      unfold rostStep
      simp only [Option.bind_some]
      cases hfi : fr.findIdx? (fun f => decide (f ≤ x.1)) with
      | some i =>
        have hil : i < fr.length := by
          have := List.findIdx?_eq_some_iff_findIdx_eq.1 hfi
          omega
        have e1 : decide ((i : Int) < 0) = false := by simp
        have e2 : inR (i : Int) (fr.length : Int) = true := by simp [inR]; omega
        have e3 : decide (out.length + [(i : Int)].length ≤ 4294967296) = true := by simp; omega
        simp only [Option.bind_some, e1, cond_false, e2, cond_true, e3, Int.toNat_natCast]
      | none =>
        have e1 : decide ((-1 : Int) < 0) = true := by decide
        have e3 : decide (fr.length + [(0 : Int)].length ≤ 4294967296) = true := by simp; omega
        have e2 : inR (fr.length : Int) ((fr ++ [(0 : Int)]).length : Int) = true := by simp [inR]; omega
        have e4 : decide (out.length + [(fr.length : Int)].length ≤ 4294967296) = true := by simp; omega
        simp only [Option.bind_some, e1, e3, cond_true, e2, e4, Int.toNat_natCast]
        have e5 : List.set (fr ++ [(0 : Int)]) fr.length x.2.1 = fr ++ [x.2.1] := by
          rw [List.set_append]; simp
        rw [e5]
    · intro b _
      simp
  · cases h
def s104 (l : List Wd) : Option (Int × Int × Unit) := if shiftsFault l = 0 then some (((rost l).1.length : Int), 0, ()) else some (0, shiftsFault l, ())
theorem shift_len {l : List Wd} (h : shiftsFault l = 0) : l.length ≤ 500 := by
  unfold shiftsFault at h
  split at h
  · cases h
  · omega
theorem h104 (l : List Wd) (y : Int × Int × Unit) (hw : WFs A104 (l, ())) (h : s104 l = some y) : ∃ k, f104 s152 s153 k l = some y := by
  refine ⟨0, ?_⟩
  unfold s104 at h
  unfold f104 s152
  simp only [Option.bind_some]
  split at h
  · rename_i he
    cases h
    have hl := shift_len he
    unfold s153
    rw [if_pos (by omega)]
    simp [he]
  · rename_i he
    cases h
    have : (shiftsFault l != 0) = true := by simpa using he
    rw [this]; rfl
end Go.Vm

/- Needs by halving; the law. Own work. -/
set_option linter.unusedVariables false
set_option linter.unusedSimpArgs false
namespace Go.Vm
open Go.RowKit Go.Vm.Gain
def needAt (v : Veh) (p : Plc) (lvl want : Int) : Int := need (lvl * 3600000000) (slowOf v) (1000 * powerOf v p) (500 * powerOf v p) (want * 3600000000)
/-! ### one vehicle, one place -/
theorem nz2 {a b : Int} (h : nz [a, b] = 0) : a = 0 ∧ b = 0 := by
  simp only [nz] at h
  split at h
  · rename_i ha
    split at h
    · rename_i hb; exact ⟨ha, hb⟩
    · exact ⟨ha, h⟩
  · rename_i ha; exact absurd h ha
theorem one_fault {α : Type} {kf : α → ByteArray} {φ : α → Int} {x : α} (h : chk kf φ none [x] = 0) : φ x = 0 := by
  simp only [chk] at h
  cases hk : key (kf x)
  · rw [hk] at h; cases h
  · rw [hk] at h
    simp only [Bool.not_true, cond_false] at h
    by_cases hx : φ x = 0
    · exact hx
    · have : (φ x != 0) = true := by simpa using hx
      rw [this] at h
      exact h
theorem out_false {a b c : Int} (h : s74 a b c = false) : b ≤ a ∧ a ≤ c := by
  unfold s74 at h
  simp only [Bool.or_eq_false_iff, decide_eq_false_iff_not] at h
  omega
/-! ### drivers, at one input -/
def s46 : Option (Bool × Unit) := f46 s104 20
theorem h46 (y : Bool × Unit) (hw : WFs A46 ()) (h : s46 = some y) : ∃ k, f46 s104 k = some y := ⟨20, h⟩
theorem s24_true : s46 = some (true, ()) := by kernel_rfl
end Go.Vm

/- LevelsReckoned: what is wrong with trips and charges. Own work. -/
set_option linter.unusedVariables false
set_option linter.unusedSimpArgs false
namespace Go.Vm
open Go.RowKit Go.Vm.Gain
abbrev Run := ByteArray × (Int × Int × Unit) × Int × Int × Unit
abbrev Chg := ByteArray × ByteArray × Int × Int × Int × Unit
abbrev Trn := Int × Int × Int × Unit
theorem in_not_out (a b c : Int) : (!s71 a b c) = s74 a b c := by
  unfold s71 s74
  rw [Bool.not_and]
  congr 1
  · rw [← decide_not]; congr 1; apply propext; omega
  · rw [← decide_not]; congr 1; apply propext; omega
/-! ### moments -/
/-! ### trips -/
def runBad (t : Run) : Bool := decide (t.2.1.1 < 0) || (decide (t.2.1.1 ≥ t.2.1.2.1) || (decide (t.2.1.2.1 > 345686400000) || (s74 t.2.2.1 0 1000000000 || s74 t.2.2.2.1 0 1000000)))
def runB (t : Run) (p : Option Run) : Option Run ⊕ ((Int × Unit) ⊕ (Unit × Unit)) :=
  bif !key t.1 then .inr (.inl (5, ())) else bif runBad t then .inr (.inl (1, ())) else match p with
    | none => .inl (some t)
    | some o => bif sLt t.1 o.1 then .inr (.inl (7, ())) else bif sEq t.1 o.1 then bif decide (t.2.1.1 < o.2.1.2.1) then .inr (.inl (7, ())) else .inl (some t) else .inl (some t)
def runsFault (l : List Run) : Int := if l.length > 1000 then 2 else out1 (scan (fun _ => runB) (fun _ => .inr ((), ())) l 0 none)
def s85 := runsFault
def s34 := runsFault
def RJ (xs : List Run) (j : Nat) (p : Option Run) : Prop := (j = 0 ∧ p = none) ∨ ∃ o, 0 < j ∧ xs[j - 1]? = some o ∧ p = some o ∧ o.2.1.1 < o.2.1.2.1
theorem RJ_next {xs : List Run} (j : Nat) (x : Run) (b b' : Option Run) (hx : xs[j]? = some x) (h : runB x b = .inl b') : RJ xs (j + 1) b' := by
  unfold runB at h
  cases hk : key x.1
  · rw [hk] at h; cases h
  · cases hb : runBad x
    · have hlt : x.2.1.1 < x.2.1.2.1 := by
        simp only [runBad, Bool.or_eq_false_iff, decide_eq_false_iff_not] at hb
        omega
      rw [hk, hb] at h
      right
      refine ⟨x, by omega, hx, ?_, hlt⟩
      cases b with
      | none => simp only [Bool.not_true, cond_false, Sum.inl.injEq] at h; exact h.symm
      | some o =>
        simp only [Bool.not_true, cond_false] at h
        cases h1 : sLt x.1 o.1 <;> rw [h1] at h
        · cases h2 : sEq x.1 o.1 <;> rw [h2] at h
          · simp only [cond_false, Sum.inl.injEq] at h; exact h.symm
          · simp only [cond_false, cond_true] at h
            cases h3 : decide (x.2.1.1 < o.2.1.2.1) <;> rw [h3] at h
            · simp only [cond_false, Sum.inl.injEq] at h; exact h.symm
            · simp at h
        · simp at h
    · rw [hk, hb] at h; cases h
theorem prev_of {xs : List Run} {j : Nat} {o : Run} (hl : xs.length ≤ 9223372036854775807) (h : 0 < j) (ho : xs[j - 1]? = some o) : IntKind.i64.wrap ((j : Int) - 1) = ((j - 1 : Nat) : Int) := by
  have := (List.getElem?_eq_some_iff.1 ho).1
  rw [wrap_ok (by omega) (by omega)]; omega
theorem h85 (l : List Run) (hw : WFs A85 (l, ())) : ∃ k, f85 s74 s75 k l = some (s85 l, ()) := by
  simp only [WFs, WF] at hw
  have hl := hw.1.1
  refine ⟨l.length + 1, ?_⟩
  unfold f85 s85 runsFault
  rw [show (1000 : Int) = ((1000 : Nat) : Int) from rfl, len_gt]
  by_cases hn : l.length > 1000
  · simp [hn]
  · simp only [hn, decide_false, cond_false, if_false]
    rw [iter_scanI (β := Option Run) l (fun j _ => (((j : Int), ()), ())) (fun _ => runB) (fun _ => .inr ((), ())) (RJ l) none ?hb ?hs ?hk ?hJ ?h1 ?h2]
    · exact out1_bind _
    case hb => exact .inl ⟨rfl, rfl⟩
    case hs => rfl
    case hk => exact Nat.lt_succ_self _
    · intro j x b b' hx _ h
      exact RJ_next j x b b' hx h
    · intro j x b hx hJ
      simp only [lt_at hx, inR_at hx, rd_at hx, wrap_succ hx hl, cond_true, s75]
      unfold runB runBad
      cases !key x.1
      · simp only [cond_false]
        cases h1 : decide (x.2.1.1 < 0)
        · cases h2 : decide (x.2.1.1 ≥ x.2.1.2.1)
          · cases h3 : decide (x.2.1.2.1 > 345686400000)
            · cases h4 : s74 x.2.2.1 0 1000000000
              · cases h5 : s74 x.2.2.2.1 0 1000000
                · simp only [cond_false, Bool.or_false]
                  rcases hJ with ⟨rfl, rfl⟩ | ⟨o, hj, ho, rfl, hlt⟩
                  · rfl
                  · have e0 : (((j : Nat) : Int) == 0) = false := by simp; omega
                    simp only [e0, cond_false, prev_of hl hj ho, inR_at ho, rd_at ho, cond_true]
                    cases h6 : sLt x.1 o.1
                    · cases h7 : sEq x.1 o.1
                      · rfl
                      · simp only [cond_true, cond_false]
                        cases h8 : decide (x.2.1.1 < o.2.1.2.1)
                        · have : decide (x.2.1.1 ≤ o.2.1.1) = false := by
                            have := of_decide_eq_false h8
                            exact decide_eq_false (by omega)
                          rw [this]; rfl
                        · cases decide (x.2.1.1 ≤ o.2.1.1) <;> rfl
                    · rfl
                · rfl
              · rfl
            · rfl
          · rfl
        · rfl
      · rfl
    · intro b _
      simp
theorem h34 (l : List Run) (hw : WFs A34 (l, ())) : ∃ k, f34 s36 s71 k l = some (s34 l, ()) := by
  simp only [WFs, WF] at hw
  have hl := hw.1.1
  refine ⟨l.length + 1, ?_⟩
  unfold f34 s34 runsFault
  rw [show (1000 : Int) = ((1000 : Nat) : Int) from rfl, len_gt]
  by_cases hn : l.length > 1000
  · simp [hn]
  · simp only [hn, decide_false, cond_false, if_false]
    rw [iter_scanI (β := Option Run) l (fun j _ => (((j : Int), ()), ())) (fun _ => runB) (fun _ => .inr ((), ())) (RJ l) none ?hb ?hs ?hk ?hJ ?h1 ?h2]
    · exact out1_bind _
    case hb => exact .inl ⟨rfl, rfl⟩
    case hs => rfl
    case hk => exact Nat.lt_succ_self _
    · intro j x b b' hx _ h
      exact RJ_next j x b b' hx h
    · intro j x b hx hJ
      simp only [lt_at hx, inR_at hx, rd_at hx, wrap_succ hx hl, cond_true, s36, in_not_out]
      unfold runB runBad
      cases !key x.1
      · simp only [cond_false]
        cases h1 : decide (x.2.1.1 < 0)
        · cases h2 : decide (x.2.1.1 ≥ x.2.1.2.1)
          · cases h3 : decide (x.2.1.2.1 > 345686400000)
            · cases h4 : s74 x.2.2.1 0 1000000000
              · cases h5 : s74 x.2.2.2.1 0 1000000
                · simp only [cond_false, Bool.or_false]
                  rcases hJ with ⟨rfl, rfl⟩ | ⟨o, hj, ho, rfl, hlt⟩
                  · rfl
                  · have e0 : (((j : Nat) : Int) == 0) = false := by simp; omega
                    simp only [e0, cond_false, prev_of hl hj ho, inR_at ho, rd_at ho, cond_true]
                    cases h6 : sLt x.1 o.1
                    · cases h7 : sEq x.1 o.1
                      · rfl
                      · simp only [cond_true, cond_false]
                        cases h8 : decide (x.2.1.1 < o.2.1.2.1) <;> rfl
                    · rfl
                · rfl
              · rfl
            · rfl
          · rfl
        · rfl
      · rfl
    · intro b _
      simp
/-! ### charges -/
def chgBad (c : Chg) : Bool := (!(c.2.2.1 == -1 && c.2.2.2.1 == -1) && (s74 c.2.2.1 0 c.2.2.2.1 || decide (c.2.2.2.1 > 345686400000))) || s74 c.2.2.2.2.1 0 1000000
def chgB (c : Chg) (_ : Unit) : Unit ⊕ ((Int × Unit) ⊕ (Unit × Unit)) :=
  bif !key c.1 then .inr (.inl (5, ())) else bif !key c.2.1 then .inr (.inl (5, ())) else bif chgBad c then .inr (.inl (1, ())) else .inl ()
def chgsFault (l : List Chg) : Int := if l.length > 1000 then 2 else out1 (scan (fun _ => chgB) (fun _ => .inr ((), ())) l 0 ())
end Go.Vm

/- LevelsReckoned: what happens to a level. Own work. -/
set_option linter.unusedVariables false
set_option linter.unusedSimpArgs false
namespace Go.Vm
open Go.RowKit Go.Vm.Gain
section
variable {α γ ρ : Type}
/-- A LOOP THAT COLLECTS. -/
theorem collect {f : (List γ × Int × Unit) × Unit → Option (((List γ × Int × Unit) × Unit) ⊕ (ρ ⊕ ((List γ × Unit) × Unit)))} {k : Nat} (xs : List α) (g : α → Option γ) (acc : List γ) (hk : xs.length < k) (hlen : acc.length + xs.length ≤ 4294967296)
    (h1 : ∀ (j : Nat) (x : α) (b : List γ), xs[j]? = some x → b.length < 4294967296 → f ((b, (j : Int), ()), ()) = some (.inl (((match g x with | some y => b ++ [y] | none => b), ((j + 1 : Nat) : Int), ()), ())))
    (h2 : ∀ b, f ((b, (xs.length : Int), ()), ()) = some (.inr (.inr ((b, ()), ())))) : iter k f ((acc, (0 : Int), ()), ()) = some (.inr ((acc ++ xs.filterMap g, ()), ())) := by
  rw [iter_scanI (s0 := ((acc, (0 : Int), ()), ())) (β := List γ) xs (fun j b => ((b, (j : Int), ()), ())) (fun _ x b => .inl (match g x with | some y => b ++ [y] | none => b)) (fun b => .inr ((b, ()), ())) (fun j b => b.length ≤ acc.length + j) acc (Nat.le_refl _) rfl hk ?_ ?_ ?_]
  · congr 1
    have key : ∀ (l : List α) (j : Nat) (b : List γ), scan (β := List γ) (τ := ρ ⊕ ((List γ × Unit) × Unit)) (fun _ x b => .inl (match g x with | some y => b ++ [y] | none => b)) (fun b => .inr ((b, ()), ())) l j b = .inr ((b ++ l.filterMap g, ()), ()) := by
      intro l
      induction l with
      | nil => intro j b; simp [scan]
      | cons x l ih =>
        intro j b
        simp only [scan, ih, List.filterMap_cons]
        cases g x <;> simp
    rw [key]
  · intro j x b b' hx hb h
    cases h
    cases g x with
    | none => simp only; omega
    | some y => simp only [List.length_append, List.length_singleton]; omega
  · intro j x b hx hb
    have := (List.getElem?_eq_some_iff.1 hx).1
    rw [h1 j x b hx (by omega)]
  · intro b _
    exact h2 b
end
/-! ### the order -/
def cmpB (ys : List Int) (j : Nat) (x : Int) (_ : Unit) : Unit ⊕ ((Int × Unit) ⊕ (Unit × Unit)) :=
  match ys[j]? with
  | none => .inr (.inl (1, ()))
  | some y => bif s67 x y != 0 then .inr (.inl (s67 x y, ())) else .inl ()
/-! ### the things that happen -/
def ownR (v : ByteArray) (r : Run) : Option Run := bif sEq r.1 v then some r else none
def thC (v : ByteArray) (c : Chg) : Option Trn := bif sEq c.1 v then bif decide (c.2.2.2.1 ≥ 0) then some (c.2.2.2.1, 0, c.2.2.2.2.1, ()) else none else none
def thR (v : ByteArray) (r : Run) : Option Trn := bif sEq r.1 v then some (r.2.1.2.1, 1, r.2.2.2.1, ()) else none
def things (v : ByteArray) (t : List Run) (c : List Chg) : List Trn := c.filterMap (thC v) ++ t.filterMap (thR v)
theorem things_len (v : ByteArray) (t : List Run) (c : List Chg) : (things v t c).length ≤ t.length + c.length := by
  unfold things
  have h1 := List.length_filterMap_le (thC v) c
  have h2 := List.length_filterMap_le (thR v) t
  simp only [List.length_append]; omega
/-! ### levels -/
def stp (n : Int) (t : Trn) : Int := bif t.2.1 == 0 then (if decide (t.2.2.1 > n) then t.2.2.1 else n) else IntKind.i64.wrap (n - t.2.2.1)
def lvs : Int → List Trn → List Int
  | _, [] => []
  | n, t :: l => stp n t :: lvs (stp n t) l
def brk (at_ : Int) : Int → List Trn → Int
  | n, [] => n
  | n, t :: l => bif decide (t.1 > at_) then n else brk at_ (stp n t) l
end Go.Vm

/- LevelsReckoned: levels. Own work. -/
set_option linter.unusedVariables false
set_option linter.unusedSimpArgs false
namespace Go.Vm
open Go.RowKit Go.Vm.Gain
theorem wrap_last {n : Nat} (h : n ≤ 9223372036854775807) : IntKind.i64.wrap (((n + 1 : Nat) : Int) - 1) = (n : Int) := by
  rw [wrap_ok (by omega) (by omega)]; omega
def allv (at_ : Int) : Int → Int → List Trn → Int
  | m, _, [] => m
  | m, n, t :: l => allv at_ (bif decide (t.1 ≤ at_) then stp n t else m) (stp n t) l
theorem lvs_len (n : Int) : ∀ l : List Trn, (lvs n l).length = l.length
  | [] => rfl
  | t :: l => by simp only [lvs, List.length_cons, lvs_len (stp n t) l]
theorem lvs_at : ∀ (l : List Trn) (n : Int) (ls : List Int) (at_ m : Int), ls = lvs n l → allv at_ m n l = ((l.map (·.1)).zip ls).foldl (fun m p => bif decide (p.1 ≤ at_) then p.2 else m) m
  | [], n, ls, at_, m, h => by subst h; rfl
  | t :: l, n, ls, at_, m, h => by
    subst h
    simp only [allv, lvs, List.map_cons, List.zip_cons_cons, List.foldl_cons]
    exact lvs_at l (stp n t) _ at_ _ rfl
def mn (m y : Int) : Int := if decide (y < m) then y else m
/-! ### the program's -/
def lows : Int → Int → List Trn → Int
  | _, m, [] => m
  | n, m, t :: l => bif decide (t.1 > 345686400000) then m else lows (stp n t) (mn m (stp n t)) l
end Go.Vm

/- LevelsReckoned, the law. Own work. -/
set_option linter.unusedVariables false
set_option linter.unusedSimpArgs false
namespace Go.Vm
open Go.RowKit Go.Vm.Gain
theorem allv_skip (at_ : Int) : ∀ (l : List Trn) (m n : Int), (∀ x ∈ l, x.1 > at_) → allv at_ m n l = m
  | [], _, _, _ => rfl
  | t :: l, m, n, h => by
    have h1 : decide (t.1 ≤ at_) = false := decide_eq_false (by have := h t (List.mem_cons_self ..); omega)
    simp only [allv, h1, cond_false]
    exact allv_skip at_ l m _ (fun x hx => h x (List.mem_cons_of_mem _ hx))
theorem brk_all (at_ : Int) : ∀ (l : List Trn) (n : Int), l.Pairwise (fun a b => a.1 ≤ b.1) → brk at_ n l = allv at_ n n l
  | [], _, _ => rfl
  | t :: l, n, h => by
    have h' := List.pairwise_cons.1 h
    by_cases hb : t.1 > at_
    · rw [allv_skip at_ (t :: l) n n (fun x hx => by
        rcases List.mem_cons.1 hx with rfl | hx
        · exact hb
        · have := h'.1 x hx
          omega)]
      simp only [brk, decide_eq_true hb, cond_true]
    · have h1 : decide (t.1 ≤ at_) = true := decide_eq_true (by omega)
      simp only [brk, allv, decide_eq_false hb, cond_false, h1, cond_true]
      exact brk_all at_ l _ h'.2
theorem lows_all : ∀ (l : List Trn) (n m : Int), (∀ x ∈ l, x.1 ≤ 345686400000) → lows n m l = (lvs n l).foldl mn m
  | [], _, _, _ => rfl
  | t :: l, n, m, h => by
    have h1 : decide (t.1 > 345686400000) = false := decide_eq_false (by have := h t (List.mem_cons_self ..); omega)
    simp only [lows, lvs, h1, cond_false, List.foldl_cons]
    exact lows_all l _ _ (fun x hx => h x (List.mem_cons_of_mem _ hx))
theorem runB_cases (x : Run) (p : Option Run) : (runB x p = .inl (some x) ∧ runBad x = false) ∨ ∃ e : Int, e ≠ 0 ∧ runB x p = .inr (.inl (e, ())) := by
  unfold runB
  cases key x.1
  · exact .inr ⟨5, by decide, rfl⟩
  · cases runBad x
    · cases p with
      | none => exact .inl ⟨rfl, rfl⟩
      | some o =>
        simp only
        cases sLt x.1 o.1
        · cases sEq x.1 o.1
          · exact .inl ⟨rfl, trivial⟩
          · cases decide (x.2.1.1 < o.2.1.2.1)
            · exact .inl ⟨rfl, trivial⟩
            · exact .inr ⟨7, by decide, rfl⟩
        · exact .inr ⟨7, by decide, rfl⟩
    · exact .inr ⟨1, by decide, rfl⟩
theorem runs_right : ∀ (l : List Run) (j : Nat) (p : Option Run), out1 (scan (fun _ => runB) (fun _ => .inr ((), ())) l j p) = 0 → ∀ t ∈ l, runBad t = false
  | [], _, _, _, t, ht => by cases ht
  | x :: l, j, p, h, t, ht => by
    simp only [scan] at h
    rcases runB_cases x p with ⟨e, hb⟩ | ⟨e, he, e2⟩
    · rw [e] at h
      rcases List.mem_cons.1 ht with rfl | ht
      · exact hb
      · exact runs_right l (j + 1) _ h t ht
    · rw [e2] at h
      exact absurd h he
theorem chgB_cases (x : Chg) : (chgB x () = .inl () ∧ chgBad x = false) ∨ ∃ e : Int, e ≠ 0 ∧ chgB x () = .inr (.inl (e, ())) := by
  unfold chgB
  cases key x.1
  · exact .inr ⟨5, by decide, rfl⟩
  · cases key x.2.1
    · exact .inr ⟨5, by decide, rfl⟩
    · cases chgBad x
      · exact .inl ⟨rfl, rfl⟩
      · exact .inr ⟨1, by decide, rfl⟩
theorem chgs_right : ∀ (l : List Chg) (j : Nat), out1 (scan (fun _ => chgB) (fun _ => .inr ((), ())) l j ()) = 0 → ∀ t ∈ l, chgBad t = false
  | [], _, _, t, ht => by cases ht
  | x :: l, j, h, t, ht => by
    simp only [scan] at h
    rcases chgB_cases x with ⟨e, hb⟩ | ⟨e, he, e2⟩
    · rw [e] at h
      rcases List.mem_cons.1 ht with rfl | ht
      · exact hb
      · exact chgs_right l (j + 1) h t ht
    · rw [e2] at h
      exact absurd h he
theorem nz_cons (a : Int) (l : List Int) : nz (a :: l) = 0 ↔ a = 0 ∧ nz l = 0 := by
  simp only [nz]
  by_cases h : a = 0 <;> simp [h]
theorem nz4 (a b c d : Int) : nz [a, b, c, d] = if nz [a, b, c] = 0 then d else nz [a, b, c] := by
  simp only [nz]
  by_cases ha : a = 0
  · by_cases hb : b = 0
    · by_cases hc : c = 0
      · by_cases hd : d = 0 <;> simp [ha, hb, hc, hd]
      · simp [ha, hb, hc]
    · simp [ha, hb]
  · simp [ha]
theorem nzp (a b : Int) : nz [a, b] = if a = 0 then b else a := by
  simp only [nz]
  by_cases ha : a = 0
  · by_cases hb : b = 0 <;> simp [ha, hb]
  · simp [ha]
end Go.Vm

/- ShiftsCovered: small functions; drivers and rosters. Own work. -/
set_option linter.unusedVariables false
set_option linter.unusedSimpArgs false
namespace Go.Vm
open Go.RowKit Go.Vm.Gain
/-! ### windows, rests, moments -/
def winBad (w : Wd) : Bool := s74 w.1 0 w.2.1 || decide (w.2.1 > 345686400000)
def restBad (r : Int × Int × Unit) : Bool := s74 r.1 1 86400000 || s74 r.2.1 1 86400000
theorem fold_count {α : Type} (p : α → Bool) : ∀ (l : List α) (n : Nat), l.foldl (fun n x => bif p x then n + 1 else n) n = n + l.countP p
  | [], n => rfl
  | x :: l, n => by
    simp only [List.foldl_cons, fold_count p l, List.countP_cons]
    cases p x <;> simp <;> omega
/-! ### right shifts -/
structure Shifts (l : List Wd) : Prop where
  ok : ∀ w ∈ l, 0 ≤ w.1 ∧ w.1 < w.2.1 ∧ w.2.1 ≤ 345686400000
  up : l.Pairwise fun a b => a.1 ≤ b.1
theorem s148_neg (a b : Wd) (h : ¬ s189 a b < 0) : b.1 ≤ a.1 := by
  unfold s189 at h
  simp only [nz, s67] at h
  by_cases h1 : a.1 < b.1
  · simp [h1] at h
  · omega
theorem shB_scan : ∀ (l : List Wd) (j : Nat) (p : Option Wd), out1 (scan (fun _ => shB) (fun _ => .inr ((), ())) l j p) = 0 → (∀ w ∈ l, shBad w = false) ∧ l.Pairwise (fun a b => a.1 ≤ b.1) ∧ ∀ o, p = some o → ∀ w ∈ l, o.1 ≤ w.1
  | [], j, p, _ => ⟨fun w h => (by cases h), .nil, fun o _ w h => (by cases h)⟩
  | x :: l, j, p, h => by
    simp only [scan] at h
    cases hb : shB x p with
    | inr t =>
      rw [hb] at h
      unfold shB at hb
      cases hx : shBad x <;> rw [hx] at hb
      · cases p with
        | none => cases hb
        | some o =>
          simp only [cond_false] at hb
          cases hd : decide (s189 x o < 0) <;> rw [hd] at hb <;> cases hb
          cases h
      · cases hb; cases h
    | inl p' =>
      rw [hb] at h
      obtain ⟨h1, h2, h3⟩ := shB_next hb
      subst h2
      obtain ⟨k1, k2, k3⟩ := shB_scan l (j + 1) _ h
      refine ⟨fun w hw => ?_, List.pairwise_cons.2 ⟨fun w hw => k3 x rfl w hw, k2⟩, fun o ho w hw => ?_⟩
      · rcases List.mem_cons.1 hw with rfl | hw
        · exact h1
        · exact k1 w hw
      · have := s148_neg x o (h3 o ho)
        rcases List.mem_cons.1 hw with rfl | hw
        · exact this
        · exact Int.le_trans this (k3 x rfl w hw)
theorem shifts_of {l : List Wd} (h : shiftsFault l = 0) : Shifts l ∧ l.length ≤ 500 := by
  refine ⟨?_, shift_len h⟩
  unfold shiftsFault at h
  split at h
  · cases h
  · obtain ⟨h1, h2, _⟩ := shB_scan _ _ _ h
    refine ⟨fun w hw => ?_, h2⟩
    have := h1 w hw
    simp only [shBad, Bool.or_eq_false_iff, decide_eq_false_iff_not] at this
    omega
/-! ### what the rosters are -/
theorem countP_le_mono {α : Type} {p q : α → Bool} (l : List α) (h : ∀ x ∈ l, p x = true → q x = true) : l.countP p ≤ l.countP q := by
  induction l with
  | nil => simp
  | cons x l ih =>
    have h1 := ih (fun y hy => h y (List.mem_cons_of_mem _ hy))
    simp only [List.countP_cons]
    by_cases hp : p x = true
    · rw [if_pos hp, if_pos (h x (List.mem_cons_self ..) hp)]; omega
    · rw [if_neg hp]; omega
theorem countP_eq_of {α : Type} {p q : α → Bool} (l : List α) (h : ∀ x ∈ l, p x = q x) : l.countP p = l.countP q := by
  apply Nat.le_antisymm
  · exact countP_le_mono l (fun x hx hp => by rw [← h x hx]; exact hp)
  · exact countP_le_mono l (fun x hx hp => by rw [h x hx]; exact hp)
theorem countP_set {p : Int → Bool} : ∀ (l : List Int) (k : Nat) (v x : Int), l[k]? = some x → p x = false → (l.set k v).countP p = l.countP p + (if p v then 1 else 0)
  | [], k, v, x, h, _ => by cases h
  | y :: l, 0, v, x, h, hp => by
    simp only [List.getElem?_cons_zero, Option.some.injEq] at h
    subst h
    simp [List.countP_cons, hp]
  | y :: l, k + 1, v, x, h, hp => by
    simp only [List.getElem?_cons_succ] at h
    simp only [List.set_cons_succ, List.countP_cons, countP_set l k v x h hp]
    omega
theorem findIdx_some {p : Int → Bool} {l : List Int} {k : Nat} (h : l.findIdx? p = some k) : (∃ x, l[k]? = some x ∧ p x = true) ∧ ∀ m x, m < k → l[m]? = some x → p x = false := by
  obtain ⟨h1, h2, h3⟩ := List.findIdx?_eq_some_iff_getElem.1 h
  refine ⟨⟨l[k], List.getElem?_eq_getElem h1, h2⟩, fun m x hm hx => ?_⟩
  have := h3 m hm
  obtain ⟨hl, e⟩ := List.getElem?_eq_some_iff.1 hx
  rw [← e]
  simpa using this
theorem findIdx_none {p : Int → Bool} {l : List Int} (h : l.findIdx? p = none) : ∀ x ∈ l, p x = false := by
  simpa [List.findIdx?_eq_none_iff] using h
theorem rost_snoc (pre : List Wd) (w : Wd) : rost (pre ++ [w]) = rostStep w (rost pre) := by
  unfold rost; rw [List.foldl_append]; rfl
end Go.Vm
