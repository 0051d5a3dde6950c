/- SeriesRide: the rides of a series, as the reference finds them. Own work. -/
import Derived.Test.YtjkidhjkpkcnhaaGreatDoorWChg
import Derived.Test.YtjkidhjkpkcnhaaGreatDoorWSpan
set_option maxRecDepth 100000
set_option linter.unusedVariables false
set_option linter.unusedSimpArgs false
namespace Go.Vm
open Go.RowKit
def s107 (n : Int) : Option (ByteArray × Unit) := s155 n
theorem h107 (n : Int) (y : ByteArray × Unit) (hw : WFs A107 (n, ())) (h : s107 n = some y) : ∃ k, f107 s155 k n = some y := ⟨0, by
  unfold f107
  unfold s107 at h
  rw [h]
  rfl⟩
theorem numeral_size (n : Int) (h0 : -9223372036854775808 ≤ n) (h1 : n ≤ 9223372036854775807) : 1 ≤ (numeral n).size ∧ (numeral n).size ≤ 21 := by
  have h2 := Lib.itoa_length_le n h0 h1
  have e : (numeral n).size = (Lib.itoa n).length := by show (Lib.itoa n).toArray.size = _; rw [List.size_toArray]
  rw [e]
  refine ⟨?_, Nat.le_trans h2 (by omega)⟩
  unfold Lib.itoa
  split
  · simp
  · rw [Lib.decDigits_length]; exact Lib.nDigits_pos _
def wkOff (x : Sr2) (d : Int) : Bool :=
  bif (Int.tmod (IntKind.i64.wrap ((IntKind.i64.wrap (Int.tdiv d (7 : Int))) - (IntKind.i64.wrap (Int.tdiv x.2.2.2.2.1 (7 : Int))))) x.2.2.2.2.2.2.1) != (0 : Int) then true
  else (iand .i64 (Int.fdiv x.2.2.2.2.2.2.2.1 ((2 : Int) ^ (min (Int.toNat (Int.tmod d (7 : Int))) 64))) (1 : Int)) == (0 : Int)
def tmAt (x : Sr2) (d by_ m : Int) : Int := IntKind.i64.wrap ((IntKind.i64.wrap ((IntKind.i64.wrap (d * (86400000 : Int))) + (IntKind.i64.wrap ((IntKind.i64.wrap (by_ - x.2.2.2.2.2.2.2.2.2.2.1)) * (60000 : Int))))) + (IntKind.i64.wrap (m * (60000 : Int))))
def idOf (x : Sr2) (d : Int) : ByteArray := (x.1 ++ (ByteArray.mk #[45])) ++ (ByteArray.extract (numeral (IntKind.i64.wrap ((10000 : Int) + d))) 1 (numeral (IntKind.i64.wrap ((10000 : Int) + d))).size)
def refDay (x : Sr2) (d : Int) : Option Rid :=
  let p := (chsOf x).foldl (chFold d) (0, wkOff x d)
  bif p.2 || (!s37 (tmAt x d p.1 x.2.2.2.2.2.2.2.2.1) || decide (tmAt x d p.1 x.2.2.2.2.2.2.2.2.2.1 > 345686400000)) then none
  else some (idOf x d, x.2.1, x.2.2.1, x.2.2.2.1, tmAt x d p.1 x.2.2.2.2.2.2.2.2.1, tmAt x d p.1 x.2.2.2.2.2.2.2.2.2.1, x.2.2.2.2.2.2.2.2.2.2.2.1, x.2.2.2.2.2.2.2.2.2.2.2.2.1, ())
def refStep (x : Sr2) (d : Int) (b : List Rid × List Int) : List Rid × List Int := match refDay x d with
  | none => b
  | some r => (b.1 ++ [r], b.2 ++ [d])
def refDays (x : Sr2) : List Rid × List Int := (span x.2.2.2.2.1 x.2.2.2.2.2.1).foldl (fun b d => refStep x d b) ([], [])
def dayOK (x : Sr2) : Bool := decide (x.1.size ≤ 1099511627776) && (decide ((chsOf x).length ≤ 4294967296) && (decide (x.2.2.2.2.2.2.1 ≠ 0) && (decide (0 ≤ x.2.2.2.2.1) && decide (x.2.2.2.2.2.1 ≤ 4000))))
def s77 (x : Sr2) : Option (List Rid × List Int × Unit) := if dayOK x = true then some ((refDays x).1, (refDays x).2, ()) else none
theorem h77 (x : Sr2) (y : List Rid × List Int × Unit) (hw : WFs A77 (x, ())) (h : s77 x = some y) : ∃ k, f77 s37 s107 k x = some y := by
  unfold s77 at h
  split at h
  rotate_left
  · cases h
  rename_i hn
  cases h
  clear hw
  unfold dayOK at hn
  simp only [Bool.and_eq_true, decide_eq_true_eq] at hn
  obtain ⟨hz, hc, hwk, hf, hl⟩ := hn
  refine ⟨4002 + (chsOf x).length, ?_⟩
  unfold f77
  rw [iter_span0 (s0 := (([], [], x.2.2.2.2.1, ()), ())) x.2.2.2.2.1 x.2.2.2.2.2.1 (fun d (b : List Rid × List Int) => ((b.1, b.2, d, ()), ())) (refStep x) (fun b => .inr ((b.1, b.2, ()), ())) (fun j b => b.1.length ≤ j ∧ b.2.length ≤ j) ([], []) rfl ⟨Nat.le_refl _, Nat.le_refl _⟩ (by omega) ?hJ ?h1 ?h2]
  · rfl
  case hJ =>
    intro j b hb hle
    unfold refStep
    cases refDay x (x.2.2.2.2.1 + j) with
    | none => simp only; exact ⟨by omega, by omega⟩
    | some r => simp only [List.length_append, List.length_singleton]; exact ⟨by omega, by omega⟩
  case h2 =>
    intro d b hd
    have : decide (d ≤ x.2.2.2.2.2.1) = false := decide_eq_false (by omega)
    simp only [this, cond_false]
  case h1 =>
    intro j b hle hb
    generalize hd : x.2.2.2.2.1 + (j : Int) = d at *
    have d0 : 0 ≤ d := by omega
    have e1 : decide (d ≤ x.2.2.2.2.2.1) = true := decide_eq_true hle
    have e2 : decide (x.2.2.2.2.2.2.1 = 0) = false := decide_eq_false hwk
    have e3 : decide (0 ≤ Int.tmod d 7) = true := decide_eq_true (Int.tmod_nonneg _ d0)
    have e4 : IntKind.i64.wrap (d + 1) = d + 1 := wrap_ok (by omega) (by omega)
    simp only [e1, e2, e3, cond_true, cond_false, e4]
    have first : ∀ {γ : Type}, (bif ((Int.tmod (IntKind.i64.wrap ((IntKind.i64.wrap (Int.tdiv d (7 : Int))) - (IntKind.i64.wrap (Int.tdiv x.2.2.2.2.1 (7 : Int))))) x.2.2.2.2.2.2.1) != (0 : Int)) then (some (.inr (((0 : Int), true, ()), ())) : Option (γ ⊕ (WT1 × Unit))) else some (.inr (((0 : Int), ((iand .i64 (Int.fdiv x.2.2.2.2.2.2.2.1 ((2 : Int) ^ (min (Int.toNat (Int.tmod d (7 : Int))) 64))) (1 : Int)) == (0 : Int)), ()), ()))) = some (.inr (((0 : Int), wkOff x d, ()), ())) := by
      intro γ
      unfold wkOff
      cases (Int.tmod (IntKind.i64.wrap ((IntKind.i64.wrap (Int.tdiv d (7 : Int))) - (IntKind.i64.wrap (Int.tdiv x.2.2.2.2.1 (7 : Int))))) x.2.2.2.2.2.2.1) != (0 : Int) <;> rfl
    rw [first]
    simp only [Option.bind_some]
    rw [iter_fold (s0 := (((0 : Int), wkOff x d, (0 : Int), ()), ())) (chsOf x) (fun i (b : Int × Bool) => ((b.1, b.2, (i : Int), ()), ())) (fun c b => chFold d b c) (fun b => .inr ((b.1, b.2, ()), ())) (fun _ _ => True) (0, wkOff x d) trivial rfl (by omega) (fun _ _ _ _ _ => trivial)
      (fun i c b hc2 _ => by
        simp only [lt_at hc2, inR_at hc2, rd_at hc2, wrap_succ hc2 (by omega), cond_true]
        unfold chFold
        cases c.1 == d
        · rfl
        · cases b.2 <;> rfl)
      (fun b _ => by simp)]
    simp only [Option.bind_some]
    unfold refStep refDay
    generalize (chsOf x).foldl (fun b c => chFold d b c) (0, wkOff x d) = p
    cases hp : p.2
    rotate_left
    · simp only [hp, cond_true, Bool.true_or]
    simp only [hp, cond_false, Bool.false_or]
    cases hm : !s37 (tmAt x d p.1 x.2.2.2.2.2.2.2.2.1)
    rotate_left
    · have hm' := hm
      unfold tmAt at hm'
      simp only [hm, hm', cond_true, Bool.true_or]
    cases he : decide (tmAt x d p.1 x.2.2.2.2.2.2.2.2.2.1 > 345686400000)
    rotate_left
    · have hm' := hm
      have he' := he
      unfold tmAt at hm' he'
      simp only [hm, hm', he, he', cond_true, cond_false, Bool.false_or]
    have hw10 : IntKind.i64.wrap ((10000 : Int) + d) = 10000 + d := wrap_ok (by omega) (by omega)
    have e107 : s107 (IntKind.i64.wrap ((10000 : Int) + d)) = some (numeral (IntKind.i64.wrap ((10000 : Int) + d)), ()) := by
      unfold s107 s155
      rw [hw10, if_pos (by omega)]
    have hns := numeral_size (IntKind.i64.wrap ((10000 : Int) + d)) (by rw [hw10]; omega) (by rw [hw10]; omega)
    have hz1 : (ByteArray.mk #[45]).size = 1 := rfl
    have c1 : decide (x.1.size + (ByteArray.mk #[45]).size < 4611686018427387904) = true := decide_eq_true (by rw [hz1]; omega)
    generalize hN : numeral (IntKind.i64.wrap ((10000 : Int) + d)) = N at *
    have c2 : decide ((1 : Int) ≤ (N.size : Int)) = true := decide_eq_true (by omega)
    have c3 : decide ((N.size : Int) ≤ (N.size : Int)) = true := decide_eq_true (by omega)
    have c4 : decide (ByteArray.size (x.1 ++ (ByteArray.mk #[45])) + ByteArray.size (ByteArray.extract N (Int.toNat (1 : Int)) (Int.toNat (N.size : Int))) < 4611686018427387904) = true := by
      refine decide_eq_true ?_
      rw [ByteArray.size_append, ByteArray.size_extract, hz1, Int.toNat_natCast]
      omega
    have c5 : decide (0 ≤ (1 : Int)) = true := by decide
    have c6 : ∀ r : Rid, decide (b.1.length + [r].length ≤ 4294967296) = true := fun r => decide_eq_true (by rw [List.length_singleton]; omega)
    have c7 : decide (b.2.length + [d].length ≤ 4294967296) = true := decide_eq_true (by rw [List.length_singleton]; omega)
    have hm' := hm
    have he' := he
    unfold tmAt at hm' he'
    simp only [hm, he, hm', he', cond_false, e107, Option.bind_some, c1, c2, c3, c4, c5, cond_true, Bool.and_self, Bool.true_and, Bool.or_self]
    rw [c6, c7]
    simp only [cond_true]
    unfold idOf
    rw [hN]
    rfl
end Go.Vm
