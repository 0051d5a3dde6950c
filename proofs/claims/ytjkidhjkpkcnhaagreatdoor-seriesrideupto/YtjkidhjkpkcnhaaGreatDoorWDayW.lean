/- SeriesRide: the ride of a day, as it stands inlined in Rides and Same. Own work. -/
import Derived.Test.YtjkidhjkpkcnhaaGreatDoorWSpecH
set_option maxRecDepth 100000
set_option linter.unusedVariables false
set_option linter.unusedSimpArgs false
namespace Go.Vm
open Go.RowKit
def dayW {τ : Type} (g73 : Int → (Bool)) (g107 : Int → Option (ByteArray × Unit)) (g127 : WT3 → Int → (Int)) (g129 : ByteArray → Int → Option (ByteArray × Unit)) (k : Nat) (x : Sr2) (d : Int) : Option (τ ⊕ (WT7 × (Sr2 × Unit))) :=
  bif decide (x.2.2.2.2.2.2.1 = 0) then
    none
  else
    bif ((Int.tmod (IntKind.i64.wrap ((IntKind.i64.wrap (Int.tdiv d (7 : Int))) - (IntKind.i64.wrap (Int.tdiv x.2.2.2.2.1 (7 : Int))))) x.2.2.2.2.2.2.1) != (0 : Int)) then
      some (.inr (zWT7, ((x.1, x.2.1, x.2.2.1, x.2.2.2.1, x.2.2.2.2.1, x.2.2.2.2.2.1, x.2.2.2.2.2.2.1, x.2.2.2.2.2.2.2.1, x.2.2.2.2.2.2.2.2.1, x.2.2.2.2.2.2.2.2.2.1, x.2.2.2.2.2.2.2.2.2.2.1, x.2.2.2.2.2.2.2.2.2.2.2.1, x.2.2.2.2.2.2.2.2.2.2.2.2.1, x.2.2.2.2.2.2.2.2.2.2.2.2.2.1, ()), ())))
    else
      bif decide (0 ≤ (Int.tmod d (7 : Int))) then
        bif ((iand .i64 (Int.fdiv x.2.2.2.2.2.2.2.1 ((2 : Int) ^ (min (Int.toNat (Int.tmod d (7 : Int))) 64))) (1 : Int)) == (0 : Int)) then
          some (.inr (zWT7, ((x.1, x.2.1, x.2.2.1, x.2.2.2.1, x.2.2.2.2.1, x.2.2.2.2.2.1, x.2.2.2.2.2.2.1, x.2.2.2.2.2.2.2.1, x.2.2.2.2.2.2.2.2.1, x.2.2.2.2.2.2.2.2.2.1, x.2.2.2.2.2.2.2.2.2.2.1, x.2.2.2.2.2.2.2.2.2.2.2.1, x.2.2.2.2.2.2.2.2.2.2.2.2.1, x.2.2.2.2.2.2.2.2.2.2.2.2.2.1, ()), ())))
        else
          Option.bind (α := (τ ⊕ (WT7 × (Sr2 × Unit))) ⊕ (WT1 × (Unit))) (
              Option.bind (α := ((τ ⊕ (WT7 × (Sr2 × Unit))) ⊕ (WT1 × (Unit))) ⊕ ((Int × Unit) × (Unit))) (iter (σ := WT0 × (Unit)) (τ := ((τ ⊕ (WT7 × (Sr2 × Unit))) ⊕ (WT1 × (Unit))) ⊕ ((Int × Unit) × (Unit))) k (fun y2 =>
                  bif (decide (y2.1.1 < y2.1.2.1)) then
                    bif (inR (IntKind.i64.wrap (Int.fdiv (IntKind.u64.wrap (IntKind.i64.wrap (y2.1.1 + y2.1.2.1))) (2 : Int))) ((List.length x.2.2.2.2.2.2.2.2.2.2.2.2.2.1 : Nat) : Int)) then
                      bif (decide ((g127 (rd (α := WT3) zWT3 x.2.2.2.2.2.2.2.2.2.2.2.2.2.1 (IntKind.i64.wrap (Int.fdiv (IntKind.u64.wrap (IntKind.i64.wrap (y2.1.1 + y2.1.2.1))) (2 : Int)))) d) < (0 : Int))) then
                        some (.inl (((IntKind.i64.wrap ((IntKind.i64.wrap (Int.fdiv (IntKind.u64.wrap (IntKind.i64.wrap (y2.1.1 + y2.1.2.1))) (2 : Int))) + (1 : Int))), y2.1.2.1, ()), ()))
                      else
                        some (.inl ((y2.1.1, (IntKind.i64.wrap (Int.fdiv (IntKind.u64.wrap (IntKind.i64.wrap (y2.1.1 + y2.1.2.1))) (2 : Int))), ()), ()))
                    else
                      none
                  else
                    some (.inr (.inr ((y2.1.1, ()), ())))) (((0 : Int), ((List.length x.2.2.2.2.2.2.2.2.2.2.2.2.2.1 : Nat) : Int), ()), ())) fun r => match r with
              | .inl z => some z
              | .inr z3 =>
                bif (decide (z3.1.1 < ((List.length x.2.2.2.2.2.2.2.2.2.2.2.2.2.1 : Nat) : Int))) then
                  bif (inR z3.1.1 ((List.length x.2.2.2.2.2.2.2.2.2.2.2.2.2.1 : Nat) : Int)) then
                    some (.inr ((z3.1.1, ((g127 (rd (α := WT3) zWT3 x.2.2.2.2.2.2.2.2.2.2.2.2.2.1 z3.1.1) d) == (0 : Int)), ()), ()))
                  else
                    none
                else
                  some (.inr ((z3.1.1, false, ()), ()))) fun r => match r with
          | .inl z => some z
          | .inr y4 =>
            Option.bind (α := (τ ⊕ (WT7 × (Sr2 × Unit))) ⊕ ((Unit) × (Int × Unit))) (
                bif y4.1.2.1 then
                  bif (inR y4.1.1 ((List.length x.2.2.2.2.2.2.2.2.2.2.2.2.2.1 : Nat) : Int)) then
                    bif (rd (α := WT3) zWT3 x.2.2.2.2.2.2.2.2.2.2.2.2.2.1 y4.1.1).2.1 then
                      some (.inl (.inr (zWT7, ((x.1, x.2.1, x.2.2.1, x.2.2.2.1, x.2.2.2.2.1, x.2.2.2.2.2.1, x.2.2.2.2.2.2.1, x.2.2.2.2.2.2.2.1, x.2.2.2.2.2.2.2.2.1, x.2.2.2.2.2.2.2.2.2.1, x.2.2.2.2.2.2.2.2.2.2.1, x.2.2.2.2.2.2.2.2.2.2.2.1, x.2.2.2.2.2.2.2.2.2.2.2.2.1, x.2.2.2.2.2.2.2.2.2.2.2.2.2.1, ()), ()))))
                    else
                      bif (inR y4.1.1 ((List.length x.2.2.2.2.2.2.2.2.2.2.2.2.2.1 : Nat) : Int)) then
                        some (.inr ((), ((rd (α := WT3) zWT3 x.2.2.2.2.2.2.2.2.2.2.2.2.2.1 y4.1.1).2.2.1, ())))
                      else
                        none
                  else
                    none
                else
                  some (.inr ((), ((0 : Int), ())))) fun r => match r with
            | .inl z => some z
            | .inr y5 =>
              Option.bind (g107 d) fun v6 =>
              bif decide (ByteArray.size x.1 + ByteArray.size (ByteArray.mk #[45]) < 4611686018427387904) then
                Option.bind (g129 (ByteArray.mk #[48]) (IntKind.i64.wrap ((4 : Int) - ((ByteArray.size v6.1 : Nat) : Int)))) fun v7 =>
                bif decide (ByteArray.size (x.1 ++ (ByteArray.mk #[45])) + ByteArray.size v7.1 < 4611686018427387904) then
                  bif decide (ByteArray.size ((x.1 ++ (ByteArray.mk #[45])) ++ v7.1) + ByteArray.size v6.1 < 4611686018427387904) then
                    bif (g73 (IntKind.i64.wrap ((IntKind.i64.wrap (d * (86400000 : Int))) + (IntKind.i64.wrap ((IntKind.i64.wrap ((IntKind.i64.wrap (x.2.2.2.2.2.2.2.2.1 - x.2.2.2.2.2.2.2.2.2.2.1)) + y5.2.1)) * (60000 : Int)))))) then
                      some (.inr ((((((x.1 ++ (ByteArray.mk #[45])) ++ v7.1) ++ v6.1), x.2.1, x.2.2.1, x.2.2.2.1, (IntKind.i64.wrap ((IntKind.i64.wrap (d * (86400000 : Int))) + (IntKind.i64.wrap ((IntKind.i64.wrap ((IntKind.i64.wrap (x.2.2.2.2.2.2.2.2.1 - x.2.2.2.2.2.2.2.2.2.2.1)) + y5.2.1)) * (60000 : Int))))), (IntKind.i64.wrap ((IntKind.i64.wrap (d * (86400000 : Int))) + (IntKind.i64.wrap ((IntKind.i64.wrap ((IntKind.i64.wrap (x.2.2.2.2.2.2.2.2.2.1 - x.2.2.2.2.2.2.2.2.2.2.1)) + y5.2.1)) * (60000 : Int))))), x.2.2.2.2.2.2.2.2.2.2.2.1, x.2.2.2.2.2.2.2.2.2.2.2.2.1, ()), (decide ((IntKind.i64.wrap ((IntKind.i64.wrap (d * (86400000 : Int))) + (IntKind.i64.wrap ((IntKind.i64.wrap ((IntKind.i64.wrap (x.2.2.2.2.2.2.2.2.2.1 - x.2.2.2.2.2.2.2.2.2.2.1)) + y5.2.1)) * (60000 : Int))))) ≤ (345686400000 : Int))), ()), ((x.1, x.2.1, x.2.2.1, x.2.2.2.1, x.2.2.2.2.1, x.2.2.2.2.2.1, x.2.2.2.2.2.2.1, x.2.2.2.2.2.2.2.1, x.2.2.2.2.2.2.2.2.1, x.2.2.2.2.2.2.2.2.2.1, x.2.2.2.2.2.2.2.2.2.2.1, x.2.2.2.2.2.2.2.2.2.2.2.1, x.2.2.2.2.2.2.2.2.2.2.2.2.1, x.2.2.2.2.2.2.2.2.2.2.2.2.2.1, ()), ())))
                    else
                      some (.inr ((((((x.1 ++ (ByteArray.mk #[45])) ++ v7.1) ++ v6.1), x.2.1, x.2.2.1, x.2.2.2.1, (IntKind.i64.wrap ((IntKind.i64.wrap (d * (86400000 : Int))) + (IntKind.i64.wrap ((IntKind.i64.wrap ((IntKind.i64.wrap (x.2.2.2.2.2.2.2.2.1 - x.2.2.2.2.2.2.2.2.2.2.1)) + y5.2.1)) * (60000 : Int))))), (IntKind.i64.wrap ((IntKind.i64.wrap (d * (86400000 : Int))) + (IntKind.i64.wrap ((IntKind.i64.wrap ((IntKind.i64.wrap (x.2.2.2.2.2.2.2.2.2.1 - x.2.2.2.2.2.2.2.2.2.2.1)) + y5.2.1)) * (60000 : Int))))), x.2.2.2.2.2.2.2.2.2.2.2.1, x.2.2.2.2.2.2.2.2.2.2.2.2.1, ()), false, ()), ((x.1, x.2.1, x.2.2.1, x.2.2.2.1, x.2.2.2.2.1, x.2.2.2.2.2.1, x.2.2.2.2.2.2.1, x.2.2.2.2.2.2.2.1, x.2.2.2.2.2.2.2.2.1, x.2.2.2.2.2.2.2.2.2.1, x.2.2.2.2.2.2.2.2.2.2.1, x.2.2.2.2.2.2.2.2.2.2.2.1, x.2.2.2.2.2.2.2.2.2.2.2.2.1, x.2.2.2.2.2.2.2.2.2.2.2.2.2.1, ()), ())))
                  else
                    none
                else
                  none
              else
                none
      else
        none
def ridAt (x : Sr2) (d by_ : Int) : Rid := (idOf x d, x.2.1, x.2.2.1, x.2.2.2.1, prgAt x d by_ x.2.2.2.2.2.2.2.2.1, prgAt x d by_ x.2.2.2.2.2.2.2.2.2.1, x.2.2.2.2.2.2.2.2.2.2.2.1, x.2.2.2.2.2.2.2.2.2.2.2.2.1, ())
def dayR (x : Sr2) (d : Int) : Rid := bif wkOff x d then zWT6 else match chAt (chsOf x) d with
  | none => ridAt x d 0
  | some c => bif c.2.1 then zWT6 else ridAt x d c.2.2.1
theorem prgFin_some {x : Sr2} {d by_ : Int} {q : Rid} (h : prgFin x d by_ = some q) : ridAt x d by_ = q := by
  unfold prgFin at h
  unfold ridAt
  cases hb : (!s37 (prgAt x d by_ x.2.2.2.2.2.2.2.2.1) || decide (prgAt x d by_ x.2.2.2.2.2.2.2.2.2.1 > 345686400000))
  · rw [hb] at h; exact Option.some.inj h
  · rw [hb] at h; cases h
theorem dayR_eq {x : Sr2} {d : Int} {q : Rid} (h : prgDay x d = some q) : dayR x d = q := by
  unfold prgDay at h
  unfold dayR
  cases hw : wkOff x d
  · rw [hw] at h
    simp only [cond_false] at h ⊢
    cases hc : chAt (chsOf x) d with
    | none => rw [hc] at h; exact prgFin_some h
    | some c =>
      rw [hc] at h
      simp only at h ⊢
      cases hc2 : c.2.1
      · rw [hc2] at h; exact prgFin_some h
      · rw [hc2] at h; cases h
  · rw [hw] at h; cases h
theorem fin_eq {τ : Type} (x : Sr2) (d by_ : Int) (p : ByteArray) (hp : p = idOf x d) :
    (bif s73 (prgAt x d by_ x.2.2.2.2.2.2.2.2.1) then (some (.inr (((p, x.2.1, x.2.2.1, x.2.2.2.1, prgAt x d by_ x.2.2.2.2.2.2.2.2.1, prgAt x d by_ x.2.2.2.2.2.2.2.2.2.1, x.2.2.2.2.2.2.2.2.2.2.2.1, x.2.2.2.2.2.2.2.2.2.2.2.2.1, ()), (decide (prgAt x d by_ x.2.2.2.2.2.2.2.2.2.1 ≤ 345686400000)), ()), (x, ()))) : Option (τ ⊕ (WT7 × (Sr2 × Unit))))
      else some (.inr (((p, x.2.1, x.2.2.1, x.2.2.2.1, prgAt x d by_ x.2.2.2.2.2.2.2.2.1, prgAt x d by_ x.2.2.2.2.2.2.2.2.2.1, x.2.2.2.2.2.2.2.2.2.2.2.1, x.2.2.2.2.2.2.2.2.2.2.2.2.1, ()), false, ()), (x, ())))) = some (.inr ((ridAt x d by_, (prgFin x d by_).isSome, ()), (x, ()))) := by
  subst hp
  unfold prgFin ridAt
  rw [show s37 (prgAt x d by_ x.2.2.2.2.2.2.2.2.1) = s73 (prgAt x d by_ x.2.2.2.2.2.2.2.2.1) from rfl]
  cases s73 (prgAt x d by_ x.2.2.2.2.2.2.2.2.1)
  · rfl
  · by_cases hdue : prgAt x d by_ x.2.2.2.2.2.2.2.2.2.1 ≤ 345686400000
    · rw [decide_eq_true hdue, decide_eq_false (show ¬ prgAt x d by_ x.2.2.2.2.2.2.2.2.2.1 > 345686400000 by omega)]; rfl
    · rw [decide_eq_false hdue, decide_eq_true (show prgAt x d by_ x.2.2.2.2.2.2.2.2.2.1 > 345686400000 by omega)]; rfl
theorem dayW_eq {τ : Type} {x : Sr2} (o : SrOK x) {d : Int} (h1 : 0 ≤ d) (h2 : d ≤ 4000) : dayW (τ := τ) s73 s107 s127 s129 5000 x d = some (.inr ((dayR x d, (prgDay x d).isSome, ()), (x, ()))) := by
  have e2 : decide (x.2.2.2.2.2.2.1 = 0) = false := decide_eq_false o.weeks
  have e3 : decide (0 ≤ Int.tmod d 7) = true := decide_eq_true (Int.tmod_nonneg _ h1)
  have hdn : ((d.toNat : Nat) : Int) = d := Int.toNat_of_nonneg h1
  have idq := id_eq x d.toNat (by omega)
  rw [hdn] at idq
  obtain ⟨q4, qid⟩ := idq
  have e107 : s107 d = some (numeral d, ()) := by unfold s107 s155; rw [if_pos (by omega)]
  have w4 : IntKind.i64.wrap ((4 : Int) - ((numeral d).size : Int)) = ((4 - (numeral d).size : Nat) : Int) := by rw [wrap_ok (by omega) (by omega)]; omega
  have hz1 : (ByteArray.mk #[45]).size = 1 := rfl
  have hz2 : (ByteArray.mk #[48]).size = 1 := rfl
  have e129 : s129 (ByteArray.mk #[48]) ((4 - (numeral d).size : Nat) : Int) = some (copies (ByteArray.mk #[48]) (4 - (numeral d).size), ()) := by
    unfold s129
    rw [if_pos ⟨by omega, by omega, by rw [hz2, Int.toNat_natCast]; omega⟩, Int.toNat_natCast]
  have hkl := o.keyLen
  have c1 : decide (x.1.size + (ByteArray.mk #[45]).size < 4611686018427387904) = true := decide_eq_true (by rw [hz1]; omega)
  have c2 : decide ((x.1 ++ (ByteArray.mk #[45])).size + (copies (ByteArray.mk #[48]) (4 - (numeral d).size)).size < 4611686018427387904) = true := decide_eq_true (by rw [ByteArray.size_append, copies_size, hz1, hz2]; omega)
  have c3 : decide (((x.1 ++ (ByteArray.mk #[45])) ++ copies (ByteArray.mk #[48]) (4 - (numeral d).size)).size + (numeral d).size < 4611686018427387904) = true := decide_eq_true (by rw [ByteArray.size_append, ByteArray.size_append, copies_size, hz1, hz2]; omega)
  unfold dayW prgDay dayR wkOff
  simp only [e2, e3, cond_true, cond_false]
  cases hw1 : (Int.tmod (IntKind.i64.wrap ((IntKind.i64.wrap (Int.tdiv d (7 : Int))) - (IntKind.i64.wrap (Int.tdiv x.2.2.2.2.1 (7 : Int))))) x.2.2.2.2.2.2.1) != (0 : Int)
  rotate_left
  · rfl
  simp only [cond_false]
  cases hw2 : (iand .i64 (Int.fdiv x.2.2.2.2.2.2.2.1 ((2 : Int) ^ (min (Int.toNat (Int.tmod d (7 : Int))) 64))) (1 : Int)) == (0 : Int)
  rotate_left
  · rfl
  simp only [cond_false]
  generalize hR : iter (σ := HSt) 5000 _ _ = R
  obtain ⟨r, hr, hat, hRr⟩ : ∃ r : Nat, r ≤ (chsOf x).length ∧ (chAt (chsOf x) d = match (chsOf x)[r]? with | none => none | some c => if c.1 = d then some c else none) ∧ R = some (.inr (((r : Int), ()), ())) := by
    rw [← hR]
    exact (bin_search (τ := _) o.chsLen o.up d (fun y => rfl)).imp (fun r h => ⟨h.1, h.2.1, h.2.2 _ (by have := o.chsLen; omega)⟩)
  rw [hRr, hat]
  simp only [Option.bind_some]
  cases hc : (chsOf x)[r]? with
  | none =>
    have g1 : decide ((r : Int) < ((chsOf x).length : Int)) = false := decide_eq_false (by have := List.getElem?_eq_none_iff.1 hc; omega)
    simp only [g1, cond_false, Option.bind_some]
    simp only [e107, Option.bind_some, c1, w4, e129, c2, c3, cond_true]
    exact fin_eq x d 0 _ qid
  | some c =>
    simp only [lt_at hc, inR_at hc, rd_at hc, cond_true, Option.bind_some, s127, s67_eq]
    by_cases hcd : c.1 = d
    · have g2 : (c.1 == d) = true := by simpa using hcd
      simp only [g2, cond_true, if_pos hcd]
      cases c.2.1
      · simp only [cond_false, Option.bind_some]
        simp only [e107, Option.bind_some, c1, w4, e129, c2, c3, cond_true]
        exact fin_eq x d c.2.2.1 _ qid
      · rfl
    · have g2 : (c.1 == d) = false := by simpa using hcd
      simp only [g2, cond_false, Option.bind_some, if_neg hcd]
      simp only [e107, Option.bind_some, c1, w4, e129, c2, c3, cond_true]
      exact fin_eq x d 0 _ qid
end Go.Vm
