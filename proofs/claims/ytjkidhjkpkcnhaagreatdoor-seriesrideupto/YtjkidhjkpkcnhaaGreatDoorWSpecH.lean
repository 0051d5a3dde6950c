/- SeriesRide: Days. Own work. -/
import Derived.Test.YtjkidhjkpkcnhaaGreatDoorWBin
set_option maxRecDepth 100000
set_option linter.unusedVariables false
set_option linter.unusedSimpArgs false
namespace Go.Vm
open Go.RowKit
theorem one_ok {x : Sr2} (h : seriesFault [x] = 0) : srBad x = 0 := by
  unfold seriesFault at h
  rw [if_neg (by simp)] at h
  exact (oneG_ok (lstG_cons h).1).1
def s7 (x : Sr2) : Option (List Int × Int × Unit) := some (bif seriesFault [x] != 0 then ([], seriesFault [x], ()) else ((refDays x).2, 0, ()))
theorem h7 (x : Sr2) (y : List Int × Int × Unit) (hw : WFs A7 (x, ())) (h : s7 x = some y) : ∃ k, f7 s17 s73 s107 s127 s129 k x = some y := by
  unfold s7 at h
  cases h
  clear hw
  refine ⟨5000, ?_⟩
  unfold f7 s17
  by_cases hF : seriesFault [x] = 0
  rotate_left
  · have e : (seriesFault [x] != 0) = true := by simpa using hF
    rw [e]
    rfl
  have e : (seriesFault [x] != 0) = false := by simpa using hF
  rw [e]
  simp only [cond_false]
  have o := srOK_of (one_ok hF)
  have o1 := o.first; have o2 := o.last; have o3 := o.order
  rw [span_collect (s0 := (([], x.2.2.2.2.1, ()), (x, ()))) x.2.2.2.2.1 x.2.2.2.2.2.1 (fun d (b : List Int) => ((b, d, ()), (x, ()))) (fun d => (refDay x d).map fun _ => d) (fun b => .inr ((b, ()), (x, ()))) rfl (by omega) (by omega) ?h1 ?h2]
  · rw [refDays_eq]; rfl
  case h2 =>
    intro d b hd
    have : decide (d ≤ x.2.2.2.2.2.1) = false := decide_eq_false (by omega)
    simp only [this, cond_false]
  case h1 =>
    intro d b hd1 hd2 hb
    have e1 : decide (d ≤ x.2.2.2.2.2.1) = true := decide_eq_true hd2
    have e2 : decide (x.2.2.2.2.2.2.1 = 0) = false := decide_eq_false o.weeks
    have e3 : decide (0 ≤ Int.tmod d 7) = true := decide_eq_true (Int.tmod_nonneg _ (by omega))
    have e4 : IntKind.i64.wrap (d + 1) = d + 1 := wrap_ok (by omega) (by omega)
    have e5 : decide (b.length + [d].length ≤ 4294967296) = true := decide_eq_true (by rw [List.length_singleton]; omega)
    rw [← prgDay_eq o (by omega) (by omega)]
    simp only [e1, e2, e3, e4, cond_true, cond_false]
    have hdn : ((d.toNat : Nat) : Int) = d := Int.toNat_of_nonneg (by omega)
    have idq := id_eq x d.toNat (by omega)
    rw [hdn] at idq
    obtain ⟨q4, qid⟩ := idq
    have e107 : s107 d = some (numeral d, ()) := by unfold s107 s155; rw [if_pos (by omega)]
    have w4 : IntKind.i64.wrap ((4 : Int) - ((numeral d).size : Int)) = ((4 - (numeral d).size : Nat) : Int) := by rw [wrap_ok (by omega) (by omega)]; omega
    have hz1 : (ByteArray.mk #[45]).size = 1 := rfl
    have hz2 : (ByteArray.mk #[48]).size = 1 := rfl
    have e129 : s129 (ByteArray.mk #[48]) ((4 - (numeral d).size : Nat) : Int) = some (copies (ByteArray.mk #[48]) (4 - (numeral d).size), ()) := by
      unfold s129
      rw [if_pos ⟨by omega, by omega, by rw [hz2, Int.toNat_natCast]; omega⟩, Int.toNat_natCast]
    have hkl := o.keyLen
    have c1 : decide (x.1.size + (ByteArray.mk #[45]).size < 4611686018427387904) = true := decide_eq_true (by rw [hz1]; omega)
    have c2 : decide ((x.1 ++ (ByteArray.mk #[45])).size + (copies (ByteArray.mk #[48]) (4 - (numeral d).size)).size < 4611686018427387904) = true := decide_eq_true (by rw [ByteArray.size_append, copies_size, hz1, hz2]; omega)
    have c3 : decide (((x.1 ++ (ByteArray.mk #[45])) ++ copies (ByteArray.mk #[48]) (4 - (numeral d).size)).size + (numeral d).size < 4611686018427387904) = true := decide_eq_true (by rw [ByteArray.size_append, ByteArray.size_append, copies_size, hz1, hz2]; omega)
    have fin : ∀ {γ : Type} (by_ : Int), (bif s73 (prgAt x d by_ x.2.2.2.2.2.2.2.2.1) then (some (.inr ((decide (prgAt x d by_ x.2.2.2.2.2.2.2.2.2.1 ≤ 345686400000), ()), (x, ()))) : Option (γ ⊕ ((Bool × Unit) × (Sr2 × Unit)))) else some (.inr ((false, ()), (x, ())))) = some (.inr (((prgFin x d by_).isSome, ()), (x, ()))) := by
      intro γ by_
      unfold prgFin
      rw [show s37 (prgAt x d by_ x.2.2.2.2.2.2.2.2.1) = s73 (prgAt x d by_ x.2.2.2.2.2.2.2.2.1) from rfl]
      cases s73 (prgAt x d by_ x.2.2.2.2.2.2.2.2.1)
      · rfl
      · by_cases hdue : prgAt x d by_ x.2.2.2.2.2.2.2.2.2.1 ≤ 345686400000
        · rw [decide_eq_true hdue, decide_eq_false (show ¬ prgAt x d by_ x.2.2.2.2.2.2.2.2.2.1 > 345686400000 by omega)]; rfl
        · rw [decide_eq_false hdue, decide_eq_true (show prgAt x d by_ x.2.2.2.2.2.2.2.2.2.1 > 345686400000 by omega)]; rfl
    unfold prgDay wkOff
    cases hw1 : (Int.tmod (IntKind.i64.wrap ((IntKind.i64.wrap (Int.tdiv d (7 : Int))) - (IntKind.i64.wrap (Int.tdiv x.2.2.2.2.1 (7 : Int))))) x.2.2.2.2.2.2.1) != (0 : Int)
    rotate_left
    · rfl
    simp only [cond_false]
    cases hw2 : (iand .i64 (Int.fdiv x.2.2.2.2.2.2.2.1 ((2 : Int) ^ (min (Int.toNat (Int.tmod d (7 : Int))) 64))) (1 : Int)) == (0 : Int)
    rotate_left
    · rfl
    simp only [cond_false]
    generalize hR : iter (σ := HSt) 5000 _ _ = R
    obtain ⟨r, hr, hat, hRr⟩ : ∃ r : Nat, r ≤ (chsOf x).length ∧ (chAt (chsOf x) d = match (chsOf x)[r]? with | none => none | some c => if c.1 = d then some c else none) ∧ R = some (.inr (((r : Int), ()), ())) := by
      rw [← hR]
      exact (bin_search (τ := _) o.chsLen o.up d (fun y => rfl)).imp (fun r h => ⟨h.1, h.2.1, h.2.2 _ (by have := o.chsLen; omega)⟩)
    rw [hRr, hat]
    simp only [Option.bind_some]
    cases hc : (chsOf x)[r]? with
    | none =>
      have g1 : decide ((r : Int) < ((chsOf x).length : Int)) = false := decide_eq_false (by have := List.getElem?_eq_none_iff.1 hc; omega)
      simp only [g1, cond_false, Option.bind_some]
      simp only [e107, Option.bind_some, c1, w4, e129, c2, c3, cond_true]
      refine (congrArg (fun q => Option.bind q _) (fin 0)).trans ?_
      simp only [Option.bind_some]
      cases prgFin x d 0
      · rfl
      · show (bif true then (bif decide (b.length + [d].length ≤ 4294967296) then _ else none) else _) = _
        rw [e5]
        rfl
    | some c =>
      simp only [lt_at hc, inR_at hc, rd_at hc, cond_true, Option.bind_some, s127, s67_eq]
      by_cases hcd : c.1 = d
      · have g2 : (c.1 == d) = true := by simpa using hcd
        simp only [g2, cond_true, if_pos hcd]
        cases c.2.1
        · simp only [cond_false, Option.bind_some]
          simp only [e107, Option.bind_some, c1, w4, e129, c2, c3, cond_true]
          refine (congrArg (fun q => Option.bind q _) (fin c.2.2.1)).trans ?_
          simp only [Option.bind_some]
          cases prgFin x d c.2.2.1
          · rfl
          · show (bif true then (bif decide (b.length + [d].length ≤ 4294967296) then _ else none) else _) = _
            rw [e5]
            rfl
        · rfl
      · have g2 : (c.1 == d) = false := by simpa using hcd
        simp only [g2, cond_false, Option.bind_some, if_neg hcd]
        simp only [e107, Option.bind_some, c1, w4, e129, c2, c3, cond_true]
        refine (congrArg (fun q => Option.bind q _) (fin 0)).trans ?_
        simp only [Option.bind_some]
        cases prgFin x d 0
        · rfl
        · show (bif true then (bif decide (b.length + [d].length ≤ 4294967296) then _ else none) else _) = _
          rw [e5]
          rfl
end Go.Vm
