/- SeriesRide: the reference's days, as they stand inlined in RidesIn. Own work. -/
import Derived.Test.YtjkidhjkpkcnhaaGreatDoorWSpecK
set_option maxRecDepth 100000
set_option linter.unusedVariables false
set_option linter.unusedSimpArgs false
namespace Go.Vm
open Go.RowKit
def refW {τ : Type} (g37 : Int → Bool) (g107 : Int → Option (ByteArray × Unit)) (k : Nat) (x : Sr2) (y : ((List WT6) × (List Int) × Int × Unit) × (Unit)) : Option ((((List WT6) × (List Int) × Int × Unit) × (Unit)) ⊕ (τ ⊕ (((List WT6) × (List Int) × Unit) × (Unit)))) :=
  bif (decide (y.1.2.2.1 ≤ x.2.2.2.2.2.1)) then
    Option.bind (α := ((((List WT6) × (List Int) × Int × Unit) × (Unit)) ⊕ (τ ⊕ (((List WT6) × (List Int) × Unit) × (Unit)))) ⊕ (WT1 × (Unit))) (
        bif decide (x.2.2.2.2.2.2.1 = 0) then
          none
        else
          bif ((Int.tmod (IntKind.i64.wrap ((IntKind.i64.wrap (Int.tdiv y.1.2.2.1 (7 : Int))) - (IntKind.i64.wrap (Int.tdiv x.2.2.2.2.1 (7 : Int))))) x.2.2.2.2.2.2.1) != (0 : Int)) then
            some (.inr (((0 : Int), true, ()), ()))
          else
            bif decide (0 ≤ (Int.tmod y.1.2.2.1 (7 : Int))) then
              some (.inr (((0 : Int), ((iand .i64 (Int.fdiv x.2.2.2.2.2.2.2.1 ((2 : Int) ^ (min (Int.toNat (Int.tmod y.1.2.2.1 (7 : Int))) 64))) (1 : Int)) == (0 : Int)), ()), ()))
            else
              none) fun r => match r with
    | .inl z => some z
    | .inr y2 =>
      Option.bind (α := ((((List WT6) × (List Int) × Int × Unit) × (Unit)) ⊕ (τ ⊕ (((List WT6) × (List Int) × Unit) × (Unit)))) ⊕ (WT1 × (Unit))) (iter (σ := WT3 × (Unit)) (τ := ((((List WT6) × (List Int) × Int × Unit) × (Unit)) ⊕ (τ ⊕ (((List WT6) × (List Int) × Unit) × (Unit)))) ⊕ (WT1 × (Unit))) k (fun y3 =>
          bif (decide (y3.1.2.2.1 < ((List.length x.2.2.2.2.2.2.2.2.2.2.2.2.2.1 : Nat) : Int))) then
            bif (inR y3.1.2.2.1 ((List.length x.2.2.2.2.2.2.2.2.2.2.2.2.2.1 : Nat) : Int)) then
              bif ((rd (α := WT3) zWT3 x.2.2.2.2.2.2.2.2.2.2.2.2.2.1 y3.1.2.2.1).1 == y.1.2.2.1) then
                bif y3.1.2.1 then
                  some (.inl (((rd (α := WT3) zWT3 x.2.2.2.2.2.2.2.2.2.2.2.2.2.1 y3.1.2.2.1).2.2.1, true, (IntKind.i64.wrap (y3.1.2.2.1 + (1 : Int))), ()), ()))
                else
                  some (.inl (((rd (α := WT3) zWT3 x.2.2.2.2.2.2.2.2.2.2.2.2.2.1 y3.1.2.2.1).2.2.1, (rd (α := WT3) zWT3 x.2.2.2.2.2.2.2.2.2.2.2.2.2.1 y3.1.2.2.1).2.1, (IntKind.i64.wrap (y3.1.2.2.1 + (1 : Int))), ()), ()))
              else
                some (.inl ((y3.1.1, y3.1.2.1, (IntKind.i64.wrap (y3.1.2.2.1 + (1 : Int))), ()), ()))
            else
              none
          else
            some (.inr (.inr ((y3.1.1, y3.1.2.1, ()), ())))) ((y2.1.1, y2.1.2.1, (0 : Int), ()), ())) fun r => match r with
      | .inl z => some z
      | .inr z4 =>
        bif z4.1.2.1 then
          some (.inl ((y.1.1, y.1.2.1, (IntKind.i64.wrap (y.1.2.2.1 + (1 : Int))), ()), ()))
        else
          bif (!(g37 (IntKind.i64.wrap ((IntKind.i64.wrap ((IntKind.i64.wrap (y.1.2.2.1 * (86400000 : Int))) + (IntKind.i64.wrap ((IntKind.i64.wrap (z4.1.1 - x.2.2.2.2.2.2.2.2.2.2.1)) * (60000 : Int))))) + (IntKind.i64.wrap (x.2.2.2.2.2.2.2.2.1 * (60000 : Int))))))) then
            some (.inl ((y.1.1, y.1.2.1, (IntKind.i64.wrap (y.1.2.2.1 + (1 : Int))), ()), ()))
          else
            bif (decide ((IntKind.i64.wrap ((IntKind.i64.wrap ((IntKind.i64.wrap (y.1.2.2.1 * (86400000 : Int))) + (IntKind.i64.wrap ((IntKind.i64.wrap (z4.1.1 - x.2.2.2.2.2.2.2.2.2.2.1)) * (60000 : Int))))) + (IntKind.i64.wrap (x.2.2.2.2.2.2.2.2.2.1 * (60000 : Int))))) > (345686400000 : Int))) then
              some (.inl ((y.1.1, y.1.2.1, (IntKind.i64.wrap (y.1.2.2.1 + (1 : Int))), ()), ()))
            else
              bif decide (ByteArray.size x.1 + ByteArray.size (ByteArray.mk #[45]) < 4611686018427387904) then
                Option.bind (g107 (IntKind.i64.wrap ((10000 : Int) + y.1.2.2.1))) fun v5 =>
                bif (decide (0 ≤ (1 : Int)) && (decide ((1 : Int) ≤ ((ByteArray.size v5.1 : Nat) : Int)) && decide (((ByteArray.size v5.1 : Nat) : Int) ≤ ((ByteArray.size v5.1 : Nat) : Int)))) then
                  bif decide (ByteArray.size (x.1 ++ (ByteArray.mk #[45])) + ByteArray.size (ByteArray.extract v5.1 (Int.toNat (1 : Int)) (Int.toNat ((ByteArray.size v5.1 : Nat) : Int))) < 4611686018427387904) then
                    bif decide (List.length y.1.1 + List.length ([(((x.1 ++ (ByteArray.mk #[45])) ++ (ByteArray.extract v5.1 (Int.toNat (1 : Int)) (Int.toNat ((ByteArray.size v5.1 : Nat) : Int)))), x.2.1, x.2.2.1, x.2.2.2.1, (IntKind.i64.wrap ((IntKind.i64.wrap ((IntKind.i64.wrap (y.1.2.2.1 * (86400000 : Int))) + (IntKind.i64.wrap ((IntKind.i64.wrap (z4.1.1 - x.2.2.2.2.2.2.2.2.2.2.1)) * (60000 : Int))))) + (IntKind.i64.wrap (x.2.2.2.2.2.2.2.2.1 * (60000 : Int))))), (IntKind.i64.wrap ((IntKind.i64.wrap ((IntKind.i64.wrap (y.1.2.2.1 * (86400000 : Int))) + (IntKind.i64.wrap ((IntKind.i64.wrap (z4.1.1 - x.2.2.2.2.2.2.2.2.2.2.1)) * (60000 : Int))))) + (IntKind.i64.wrap (x.2.2.2.2.2.2.2.2.2.1 * (60000 : Int))))), x.2.2.2.2.2.2.2.2.2.2.2.1, x.2.2.2.2.2.2.2.2.2.2.2.2.1, ())]) ≤ 4294967296) then
                      bif decide (List.length y.1.2.1 + List.length ([y.1.2.2.1]) ≤ 4294967296) then
                        some (.inl (((y.1.1 ++ [(((x.1 ++ (ByteArray.mk #[45])) ++ (ByteArray.extract v5.1 (Int.toNat (1 : Int)) (Int.toNat ((ByteArray.size v5.1 : Nat) : Int)))), x.2.1, x.2.2.1, x.2.2.2.1, (IntKind.i64.wrap ((IntKind.i64.wrap ((IntKind.i64.wrap (y.1.2.2.1 * (86400000 : Int))) + (IntKind.i64.wrap ((IntKind.i64.wrap (z4.1.1 - x.2.2.2.2.2.2.2.2.2.2.1)) * (60000 : Int))))) + (IntKind.i64.wrap (x.2.2.2.2.2.2.2.2.1 * (60000 : Int))))), (IntKind.i64.wrap ((IntKind.i64.wrap ((IntKind.i64.wrap (y.1.2.2.1 * (86400000 : Int))) + (IntKind.i64.wrap ((IntKind.i64.wrap (z4.1.1 - x.2.2.2.2.2.2.2.2.2.2.1)) * (60000 : Int))))) + (IntKind.i64.wrap (x.2.2.2.2.2.2.2.2.2.1 * (60000 : Int))))), x.2.2.2.2.2.2.2.2.2.2.2.1, x.2.2.2.2.2.2.2.2.2.2.2.2.1, ())]), (y.1.2.1 ++ [y.1.2.2.1]), (IntKind.i64.wrap (y.1.2.2.1 + (1 : Int))), ()), ()))
                      else
                        none
                    else
                      none
                  else
                    none
                else
                  none
              else
                none
  else
    some (.inr (.inr ((y.1.1, y.1.2.1, ()), ())))
def f21w (g37 : Int → (Bool)) (g64_81 : List WT6 → Option (List WT6)) (g80 : Int → WT0 → (Bool)) (g107 : Int → Option (ByteArray × Unit)) (k : Nat) (x0 : (ByteArray × ByteArray × ByteArray × ByteArray × Int × Int × Int × Int × Int × Int × Int × Int × Int × (List WT3) × Unit)) (x1 : WT0) : Option ((List WT6) × Unit) :=
  Option.bind (α := ((List WT6) × Unit) ⊕ (((List WT6) × (List Int) × Unit) × (Unit))) (iter (σ := ((List WT6) × (List Int) × Int × Unit) × (Unit)) (τ := ((List WT6) × Unit) ⊕ (((List WT6) × (List Int) × Unit) × (Unit))) k (refW g37 g107 k x0) (([], [], x0.2.2.2.2.1, ()), ())) fun r => match r with
  | .inl z => some z
  | .inr z6 =>
    Option.bind (α := ((List WT6) × Unit) ⊕ (((List WT6) × Unit) × WT4)) (
        Option.bind (α := (((List WT6) × Unit) ⊕ (((List WT6) × Unit) × WT4)) ⊕ ((Int × Unit) × ((List WT6) × WT0 × Unit))) (
            Option.bind (α := ((((List WT6) × Unit) ⊕ (((List WT6) × Unit) × WT4)) ⊕ ((Int × Unit) × ((List WT6) × WT0 × Unit))) ⊕ ((Unit) × WT4)) (iter (σ := (Int × Unit) × WT4) (τ := ((((List WT6) × Unit) ⊕ (((List WT6) × Unit) × WT4)) ⊕ ((Int × Unit) × ((List WT6) × WT0 × Unit))) ⊕ ((Unit) × WT4)) k (fun y7 =>
                bif (decide (y7.1.1 < ((List.length z6.1.1 : Nat) : Int))) then
                  bif (inR y7.1.1 ((List.length z6.1.1 : Nat) : Int)) then
                    bif (inR y7.1.1 ((List.length z6.1.1 : Nat) : Int)) then
                      bif (!(g80 ((rd (α := WT6) zWT6 z6.1.1 y7.1.1).2.2.2.2.1) (y7.2.1.1, y7.2.1.2.1, ()))) then
                        some (.inr (.inl (.inr ((y7.1.1, ()), (z6.1.1, (y7.2.1.1, y7.2.1.2.1, ()), ())))))
                      else
                        some (.inl (((IntKind.i64.wrap (y7.1.1 + (1 : Int))), ()), ((y7.2.1.1, y7.2.1.2.1, ()), ())))
                    else
                      none
                  else
                    none
                else
                  some (.inr (.inr ((), ((y7.2.1.1, y7.2.1.2.1, ()), ()))))) (((0 : Int), ()), (x1, ()))) fun r => match r with
            | .inl z => some z
            | .inr z8 =>
              some (.inr (((-1 : Int), ()), (z6.1.1, (z8.2.1.1, z8.2.1.2.1, ()), ())))) fun r => match r with
        | .inl z => some z
        | .inr y9 =>
          bif (y9.1.1 == (-1 : Int)) then
            some (.inr ((y9.2.1, ()), ((y9.2.2.1.1, y9.2.2.1.2.1, ()), ())))
          else
            Option.bind (α := (((List WT6) × Unit) ⊕ (((List WT6) × Unit) × WT4)) ⊕ ((Int × Unit) × ((List WT6) × WT0 × Unit))) (iter (σ := WT0 × ((List WT6) × WT0 × Unit)) (τ := (((List WT6) × Unit) ⊕ (((List WT6) × Unit) × WT4)) ⊕ ((Int × Unit) × ((List WT6) × WT0 × Unit))) k (fun y10 =>
                bif (decide (y10.1.2.1 < ((List.length y10.2.1 : Nat) : Int))) then
                  bif (inR y10.1.2.1 ((List.length y10.2.1 : Nat) : Int)) then
                    bif (inR y10.1.2.1 ((List.length y10.2.1 : Nat) : Int)) then
                      bif (!(!(g80 ((rd (α := WT6) zWT6 y10.2.1 y10.1.2.1).2.2.2.2.1) (y10.2.2.1.1, y10.2.2.1.2.1, ())))) then
                        bif (inR y10.1.1 ((List.length y10.2.1 : Nat) : Int)) then
                          bif (inR y10.1.1 ((List.length y10.2.1 : Nat) : Int)) then
                            some (.inl (((IntKind.i64.wrap (y10.1.1 + (1 : Int))), (IntKind.i64.wrap (y10.1.2.1 + (1 : Int))), ()), ((List.set y10.2.1 (Int.toNat y10.1.1) (rd (α := WT6) zWT6 y10.2.1 y10.1.2.1)), (y10.2.2.1.1, y10.2.2.1.2.1, ()), ())))
                          else
                            none
                        else
                          none
                      else
                        some (.inl ((y10.1.1, (IntKind.i64.wrap (y10.1.2.1 + (1 : Int))), ()), (y10.2.1, (y10.2.2.1.1, y10.2.2.1.2.1, ()), ())))
                    else
                      none
                  else
                    none
                else
                  some (.inr (.inr ((y10.1.1, ()), (y10.2.1, (y10.2.2.1.1, y10.2.2.1.2.1, ()), ()))))) ((y9.1.1, (IntKind.i64.wrap (y9.1.1 + (1 : Int))), ()), (y9.2.1, (y9.2.2.1.1, y9.2.2.1.2.1, ()), ()))) fun r => match r with
            | .inl z => some z
            | .inr z11 =>
              bif (decide (0 ≤ z11.1.1) && (decide (z11.1.1 ≤ ((List.length z11.2.1 : Nat) : Int)) && decide (((List.length z11.2.1 : Nat) : Int) ≤ ((List.length z11.2.1 : Nat) : Int)))) then
                bif (decide (0 ≤ (0 : Int)) && (decide ((0 : Int) ≤ z11.1.1) && decide (z11.1.1 ≤ ((List.length (List.take (Int.toNat z11.1.1) z11.2.1 ++ (List.replicate (Int.toNat (((List.length z11.2.1 : Nat) : Int) - z11.1.1)) zWT6 ++ List.drop (Int.toNat ((List.length z11.2.1 : Nat) : Int)) z11.2.1)) : Nat) : Int)))) then
                  some (.inr (((List.drop (Int.toNat (0 : Int)) (List.take (Int.toNat z11.1.1) (List.take (Int.toNat z11.1.1) z11.2.1 ++ (List.replicate (Int.toNat (((List.length z11.2.1 : Nat) : Int) - z11.1.1)) zWT6 ++ List.drop (Int.toNat ((List.length z11.2.1 : Nat) : Int)) z11.2.1)))), ()), ((z11.2.2.1.1, z11.2.2.1.2.1, ()), ())))
                else
                  none
              else
                none) fun r => match r with
    | .inl z => some z
    | .inr y12 =>
      Option.bind (g64_81 y12.1.1) fun v13 =>
      some (v13, ())
theorem f21w_eq : @f21 = @f21w := by kernel_rfl
theorem ref_loop {τ : Type} {k : Nat} (x : Sr2) (hn : dayOK x = true) (hk : 4002 + (chsOf x).length ≤ k) :
    iter k (refW (τ := τ) s37 s107 k x) (([], [], x.2.2.2.2.1, ()), ()) = some (.inr (((refDays x).1, (refDays x).2, ()), ())) := by
  unfold dayOK at hn
  simp only [Bool.and_eq_true, decide_eq_true_eq] at hn
  obtain ⟨hz, hc, hwk, hf, hl⟩ := hn
  rw [iter_span0 (s0 := (([], [], x.2.2.2.2.1, ()), ())) x.2.2.2.2.1 x.2.2.2.2.2.1 (fun d (b : List Rid × List Int) => ((b.1, b.2, d, ()), ())) (refStep x) (fun b => .inr ((b.1, b.2, ()), ())) (fun j b => b.1.length ≤ j ∧ b.2.length ≤ j) ([], []) rfl ⟨Nat.le_refl _, Nat.le_refl _⟩ (by omega) ?hJ ?h1 ?h2]
  · rfl
  case hJ =>
    intro j b hb hle
    unfold refStep
    cases refDay x (x.2.2.2.2.1 + j) with
    | none => simp only; exact ⟨by omega, by omega⟩
    | some r => simp only [List.length_append, List.length_singleton]; exact ⟨by omega, by omega⟩
  case h2 =>
    intro d b hd
    unfold refW
    have : decide (d ≤ x.2.2.2.2.2.1) = false := decide_eq_false (by omega)
    simp only [this, cond_false]
  case h1 =>
    intro j b hle hb
    unfold refW
    generalize hd : x.2.2.2.2.1 + (j : Int) = d at *
    have d0 : 0 ≤ d := by omega
    have e1 : decide (d ≤ x.2.2.2.2.2.1) = true := decide_eq_true hle
    have e2 : decide (x.2.2.2.2.2.2.1 = 0) = false := decide_eq_false hwk
    have e3 : decide (0 ≤ Int.tmod d 7) = true := decide_eq_true (Int.tmod_nonneg _ d0)
    have e4 : IntKind.i64.wrap (d + 1) = d + 1 := wrap_ok (by omega) (by omega)
    simp only [e1, e2, e3, cond_true, cond_false, e4]
    have first : ∀ {γ : Type}, (bif ((Int.tmod (IntKind.i64.wrap ((IntKind.i64.wrap (Int.tdiv d (7 : Int))) - (IntKind.i64.wrap (Int.tdiv x.2.2.2.2.1 (7 : Int))))) x.2.2.2.2.2.2.1) != (0 : Int)) then (some (.inr (((0 : Int), true, ()), ())) : Option (γ ⊕ (WT1 × Unit))) else some (.inr (((0 : Int), ((iand .i64 (Int.fdiv x.2.2.2.2.2.2.2.1 ((2 : Int) ^ (min (Int.toNat (Int.tmod d (7 : Int))) 64))) (1 : Int)) == (0 : Int)), ()), ()))) = some (.inr (((0 : Int), wkOff x d, ()), ())) := by
      intro γ
      unfold wkOff
      cases (Int.tmod (IntKind.i64.wrap ((IntKind.i64.wrap (Int.tdiv d (7 : Int))) - (IntKind.i64.wrap (Int.tdiv x.2.2.2.2.1 (7 : Int))))) x.2.2.2.2.2.2.1) != (0 : Int) <;> rfl
    rw [first]
    simp only [Option.bind_some]
    rw [iter_fold (s0 := (((0 : Int), wkOff x d, (0 : Int), ()), ())) (chsOf x) (fun i (b : Int × Bool) => ((b.1, b.2, (i : Int), ()), ())) (fun c b => chFold d b c) (fun b => .inr ((b.1, b.2, ()), ())) (fun _ _ => True) (0, wkOff x d) trivial rfl (by omega) (fun _ _ _ _ _ => trivial)
      (fun i c b hc2 _ => by
        simp only [lt_at hc2, inR_at hc2, rd_at hc2, wrap_succ hc2 (by omega), cond_true]
        unfold chFold
        cases c.1 == d
        · rfl
        · cases b.2 <;> rfl)
      (fun b _ => by simp)]
    simp only [Option.bind_some]
    unfold refStep refDay
    generalize (chsOf x).foldl (fun b c => chFold d b c) (0, wkOff x d) = p
    cases hp : p.2
    rotate_left
    · simp only [hp, cond_true, Bool.true_or]
    simp only [hp, cond_false, Bool.false_or]
    cases hm : !s37 (tmAt x d p.1 x.2.2.2.2.2.2.2.2.1)
    rotate_left
    · have hm' := hm
      unfold tmAt at hm'
      simp only [hm, hm', cond_true, Bool.true_or]
    cases he : decide (tmAt x d p.1 x.2.2.2.2.2.2.2.2.2.1 > 345686400000)
    rotate_left
    · have hm' := hm
      have he' := he
      unfold tmAt at hm' he'
      simp only [hm, hm', he, he', cond_true, cond_false, Bool.false_or]
    have hw10 : IntKind.i64.wrap ((10000 : Int) + d) = 10000 + d := wrap_ok (by omega) (by omega)
    have e107 : s107 (IntKind.i64.wrap ((10000 : Int) + d)) = some (numeral (IntKind.i64.wrap ((10000 : Int) + d)), ()) := by
      unfold s107 s155
      rw [hw10, if_pos (by omega)]
    have hns := numeral_size (IntKind.i64.wrap ((10000 : Int) + d)) (by rw [hw10]; omega) (by rw [hw10]; omega)
    have hz1 : (ByteArray.mk #[45]).size = 1 := rfl
    have c1 : decide (x.1.size + (ByteArray.mk #[45]).size < 4611686018427387904) = true := decide_eq_true (by rw [hz1]; omega)
    generalize hN : numeral (IntKind.i64.wrap ((10000 : Int) + d)) = N at *
    have c2 : decide ((1 : Int) ≤ (N.size : Int)) = true := decide_eq_true (by omega)
    have c3 : decide ((N.size : Int) ≤ (N.size : Int)) = true := decide_eq_true (by omega)
    have c4 : decide (ByteArray.size (x.1 ++ (ByteArray.mk #[45])) + ByteArray.size (ByteArray.extract N (Int.toNat (1 : Int)) (Int.toNat (N.size : Int))) < 4611686018427387904) = true := by
      refine decide_eq_true ?_
      rw [ByteArray.size_append, ByteArray.size_extract, hz1, Int.toNat_natCast]
      omega
    have c5 : decide (0 ≤ (1 : Int)) = true := by decide
    have c6 : ∀ r : Rid, decide (b.1.length + [r].length ≤ 4294967296) = true := fun r => decide_eq_true (by rw [List.length_singleton]; omega)
    have c7 : decide (b.2.length + [d].length ≤ 4294967296) = true := decide_eq_true (by rw [List.length_singleton]; omega)
    have hm' := hm
    have he' := he
    unfold tmAt at hm' he'
    simp only [hm, he, hm', he', cond_false, e107, Option.bind_some, c1, c2, c3, c4, c5, cond_true, Bool.and_self, Bool.true_and, Bool.or_self]
    rw [c6, c7]
    simp only [cond_true]
    unfold idOf
    rw [hN]
    rfl
end Go.Vm
