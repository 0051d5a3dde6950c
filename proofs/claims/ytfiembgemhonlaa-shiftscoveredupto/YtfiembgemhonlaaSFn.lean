/- The program's functions, as an own tool reads them off its form. -/
import Derived.Test.YtfiembgemhonlaaLFn
import Derived.Test.YtfiembgemhonlaaVmK
import Derived.Test.YtfiembgemhonlaaProg
set_option maxRecDepth 100000
set_option linter.unusedVariables false
namespace Go.Vm
open Go.Proofs
/-! ### slices.Clone[[]jitney/api.Window,jitney/api.Window] -/
def f46  (k : Nat) (x0 : List (Int × Int × Unit)) : Option ((List (Int × Int × Unit)) × Unit) :=
  bif Nat.ble (List.length x0) 0 then
    none
  else
    bif decide (List.length ([] : List (Int × Int × Unit)) + List.length x0 ≤ 4294967296) then
      some ((([] : List (Int × Int × Unit)) ++ x0), ())
    else
      none
def H46 : Hints where
  loop := fun n => match n with
    | _ => none
  region := fun n => match n with
    | _ => none
  cond := fun n => match n with
    | _ => none
  block := fun n => match n with
    | _ => none
def ts46 : List (Nat × TD) := [(73, (.data (.slice (.struct (.cons (.int .i64) (.cons (.int .i64) .nil))))))]
noncomputable def fs46  : List (Nat × FSem) := []
noncomputable def body46 : Code := match Try.f46.body with | some c => c | none => .skip
theorem ty46 : chkTypes Try.prog ts46 = true := by kernel_rfl
theorem ev46  (k : Nat) (x : ((.cons (.slice (.struct (.cons (.int .i64) (.cons (.int .i64) .nil)))) .nil) : Tys).den) : evFun (mkEnv ts46 (fs46 )) H46 k body46 8 [.tmp 2] (explodes (.cons (.slice (.struct (.cons (.int .i64) (.cons (.int .i64) .nil)))) .nil) x) [] (dec (.cons (.slice (.struct (.cons (.int .i64) (.cons (.int .i64) .nil)))) .nil)) = f46  k x.1 := by kernel_rfl
def s46 (l : List (Int × Int × Unit)) : Option ((List (Int × Int × Unit)) × Unit) := if l.length ≤ 4294967296 then some (l, ()) else none
/-! ### jitney/fleet.Rosters -/
def f47 (g53 : (List (Int × Int × Unit)) → Option (Int × Unit)) (g142 : (List (Int × Int × Unit)) → Option ((List Int) × Int × Unit)) (k : Nat) (x0 : List (Int × Int × Unit)) : Option ((List Int) × Int × Unit) :=
  Option.bind (g53 x0) fun v1 =>
  bif (v1.1 != (0 : Int)) then
    some ([], v1.1, ())
  else
    Option.bind (g142 x0) fun v2 =>
    some (v2.1, (0 : Int), ())
def H47 : Hints where
  loop := fun n => match n with
    | _ => none
  region := fun n => match n with
    | _ => none
  cond := fun n => match n with
    | _ => none
  block := fun n => match n with
    | _ => none
abbrev A47 : Tys := (.cons (.slice (.struct (.cons (.int .i64) (.cons (.int .i64) .nil)))) .nil)
def ts47 : List (Nat × TD) := [(28, (.data (.int .i64))), (73, (.data (.slice (.struct (.cons (.int .i64) (.cons (.int .i64) .nil)))))), (78, (.data (.slice (.int .i64))))]
noncomputable def fs47 (g53 : (List (Int × Int × Unit)) → Option (Int × Unit)) (g142 : (List (Int × Int × Unit)) → Option ((List Int) × Int × Unit)) : List (Nat × FSem) := [(53, .pfn (.cons (.slice (.struct (.cons (.int .i64) (.cons (.int .i64) .nil)))) .nil) (.cons (.int .i64) .nil) fun x => (g53 x.1)), (142, .pfn (.cons (.slice (.struct (.cons (.int .i64) (.cons (.int .i64) .nil)))) .nil) (.cons (.slice (.int .i64)) (.cons (.int .i64) .nil)) fun x => (g142 x.1))]
noncomputable def body47 : Code := match Try.f47.body with | some c => c | none => .skip
theorem ty47 : chkTypes Try.prog ts47 = true := by kernel_rfl
theorem ev47 (g53 : (List (Int × Int × Unit)) → Option (Int × Unit)) (g142 : (List (Int × Int × Unit)) → Option ((List Int) × Int × Unit)) (k : Nat) (x : ((.cons (.slice (.struct (.cons (.int .i64) (.cons (.int .i64) .nil)))) .nil) : Tys).den) : evFun (mkEnv ts47 (fs47 g53 g142)) H47 k body47 18 [.tmp 2, .tmp 3] (explodes (.cons (.slice (.struct (.cons (.int .i64) (.cons (.int .i64) .nil)))) .nil) x) [] (dec (.cons (.slice (.int .i64)) (.cons (.int .i64) .nil))) = f47 g53 g142 k x.1 := by kernel_rfl
/-! ### jitney/base.Window -/
def f143 (g114 : Int → Int → Int → (Bool)) (k : Nat) (x0 : (Int × Int × Unit)) : Option (Bool × Unit) :=
  bif (!(g114 x0.1 (0 : Int) x0.2.1)) then
    some ((decide (x0.2.1 ≤ (345686400000 : Int))), ())
  else
    some (false, ())
def H143 : Hints where
  loop := fun n => match n with
    | _ => none
  region := fun n => match n with
    | _ => none
  cond := fun n => match n with
    | _ => none
  block := fun n => match n with
    | _ => none
abbrev A143 : Tys := (.cons (.struct (.cons (.int .i64) (.cons (.int .i64) .nil))) .nil)
def ts143 : List (Nat × TD) := [(3, (.data (.int .i64))), (4, (.data .bool)), (61, (.data (.struct (.cons (.int .i64) (.cons (.int .i64) .nil)))))]
noncomputable def fs143 (g114 : Int → Int → Int → (Bool)) : List (Nat × FSem) := [(114, .fn (.cons (.int .i64) (.cons (.int .i64) (.cons (.int .i64) .nil))) (.cons .bool .nil) fun x => ((g114 x.1 x.2.1 x.2.2.1), ()))]
noncomputable def body143 : Code := match Try.f143.body with | some c => c | none => .skip
theorem ty143 : chkTypes Try.prog ts143 = true := by kernel_rfl
theorem ev143 (g114 : Int → Int → Int → (Bool)) (k : Nat) (x : ((.cons (.struct (.cons (.int .i64) (.cons (.int .i64) .nil))) .nil) : Tys).den) : evFun (mkEnv ts143 (fs143 g114)) H143 k body143 14 [.tmp 2] (explodes (.cons (.struct (.cons (.int .i64) (.cons (.int .i64) .nil))) .nil) x) [] (dec (.cons .bool .nil)) = f143 g114 k x.1 := by kernel_rfl
/-! ### slices.Compact[[]int,int] -/
def f145  (k : Nat) (x0 : List Int) : Option (List Int) :=
  bif (decide (((List.length x0 : Nat) : Int) < (2 : Int))) then
    some x0
  else
    Option.bind (α := (List Int) ⊕ ((Unit) × (Unit))) (iter (σ := (Int × Unit) × (Unit)) (τ := (List Int) ⊕ ((Unit) × (Unit))) k (fun y1 =>
        bif (decide (y1.1.1 < ((List.length x0 : Nat) : Int))) then
          bif (inR y1.1.1 ((List.length x0 : Nat) : Int)) then
            bif (inR y1.1.1 ((List.length x0 : Nat) : Int)) then
              bif (inR (IntKind.i64.wrap (y1.1.1 - (1 : Int))) ((List.length x0 : Nat) : Int)) then
                bif (inR (IntKind.i64.wrap (y1.1.1 - (1 : Int))) ((List.length x0 : Nat) : Int)) then
                  bif ((rd (α := Int) (0 : Int) x0 y1.1.1) == (rd (α := Int) (0 : Int) x0 (IntKind.i64.wrap (y1.1.1 - (1 : Int))))) then
                    bif (decide (0 ≤ y1.1.1) && (decide (y1.1.1 ≤ ((List.length x0 : Nat) : Int)) && decide (((List.length x0 : Nat) : Int) ≤ ((List.length x0 : Nat) : Int)))) then
                      Option.bind (α := (((Int × Unit) × (Unit)) ⊕ ((List Int) ⊕ ((Unit) × (Unit)))) ⊕ ((Int × Unit) × ((List Int) × Unit))) (iter (σ := (Int × Int × Unit) × ((List Int) × Unit)) (τ := (((Int × Unit) × (Unit)) ⊕ ((List Int) ⊕ ((Unit) × (Unit)))) ⊕ ((Int × Unit) × ((List Int) × Unit))) k (fun y2 =>
                          bif (decide (y2.1.2.1 < (((List.length x0 : Nat) : Int) - y1.1.1))) then
                            bif (inR y2.1.2.1 (((List.length x0 : Nat) : Int) - y1.1.1)) then
                              bif (inR (y1.1.1 + y2.1.2.1) ((List.length y2.2.1 : Nat) : Int)) then
                                bif (inR (IntKind.i64.wrap (y2.1.2.1 - (1 : Int))) (((List.length x0 : Nat) : Int) - y1.1.1)) then
                                  bif (inR (y1.1.1 + (IntKind.i64.wrap (y2.1.2.1 - (1 : Int)))) ((List.length y2.2.1 : Nat) : Int)) then
                                    bif ((rd (α := Int) (0 : Int) y2.2.1 (y1.1.1 + y2.1.2.1)) != (rd (α := Int) (0 : Int) y2.2.1 (y1.1.1 + (IntKind.i64.wrap (y2.1.2.1 - (1 : Int)))))) then
                                      bif (inR y2.1.2.1 (((List.length x0 : Nat) : Int) - y1.1.1)) then
                                        bif (inR (y1.1.1 + y2.1.2.1) ((List.length y2.2.1 : Nat) : Int)) then
                                          bif (inR y2.1.1 ((List.length y2.2.1 : Nat) : Int)) then
                                            bif (inR y2.1.1 ((List.length y2.2.1 : Nat) : Int)) then
                                              some (.inl (((IntKind.i64.wrap (y2.1.1 + (1 : Int))), (IntKind.i64.wrap (y2.1.2.1 + (1 : Int))), ()), ((List.set y2.2.1 (Int.toNat y2.1.1) (rd (α := Int) (0 : Int) y2.2.1 (y1.1.1 + y2.1.2.1))), ())))
                                            else
                                              none
                                          else
                                            none
                                        else
                                          none
                                      else
                                        none
                                    else
                                      some (.inl ((y2.1.1, (IntKind.i64.wrap (y2.1.2.1 + (1 : Int))), ()), (y2.2.1, ())))
                                  else
                                    none
                                else
                                  none
                              else
                                none
                            else
                              none
                          else
                            some (.inr (.inr ((y2.1.1, ()), (y2.2.1, ()))))) ((y1.1.1, (1 : Int), ()), (x0, ()))) fun r => match r with
                      | .inl z => some z
                      | .inr z3 =>
                        bif (decide (0 ≤ z3.1.1) && (decide (z3.1.1 ≤ ((List.length z3.2.1 : Nat) : Int)) && decide (((List.length z3.2.1 : Nat) : Int) ≤ ((List.length z3.2.1 : Nat) : Int)))) then
                          bif (decide (0 ≤ (0 : Int)) && (decide ((0 : Int) ≤ z3.1.1) && decide (z3.1.1 ≤ ((List.length (List.take (Int.toNat z3.1.1) z3.2.1 ++ (List.replicate (Int.toNat (((List.length z3.2.1 : Nat) : Int) - z3.1.1)) (0 : Int) ++ List.drop (Int.toNat ((List.length z3.2.1 : Nat) : Int)) z3.2.1)) : Nat) : Int)))) then
                            some (.inr (.inl (List.drop (Int.toNat (0 : Int)) (List.take (Int.toNat z3.1.1) (List.take (Int.toNat z3.1.1) z3.2.1 ++ (List.replicate (Int.toNat (((List.length z3.2.1 : Nat) : Int) - z3.1.1)) (0 : Int) ++ List.drop (Int.toNat ((List.length z3.2.1 : Nat) : Int)) z3.2.1))))))
                          else
                            none
                        else
                          none
                    else
                      none
                  else
                    some (.inl (((IntKind.i64.wrap (y1.1.1 + (1 : Int))), ()), ()))
                else
                  none
              else
                none
            else
              none
          else
            none
        else
          some (.inr (.inr ((), ())))) (((1 : Int), ()), ())) fun r => match r with
    | .inl z => some z
    | .inr z4 =>
      some x0
def H145 : Hints where
  loop := fun n => match n with
    | 0 => some ({ slots := [(3, (.int .i64))], objs := [], gone := [] }, 0, { slots := [], objs := [], gone := [] })
    | 2 => some ({ slots := [(3, (.int .i64)), (5, (.int .i64))], objs := [(0, (.row (.int .i64)))], gone := [] }, 2, { slots := [(3, (.int .i64))], objs := [(0, (.row (.int .i64)))], gone := [] })
    | _ => none
  region := fun n => match n with
    | _ => none
  cond := fun n => match n with
    | _ => none
  block := fun n => match n with
    | _ => none
def ts145 : List (Nat × TD) := [(3, (.data (.int .i64))), (78, (.data (.slice (.int .i64))))]
noncomputable def fs145  : List (Nat × FSem) := []
noncomputable def body145 : Code := match Try.f145.body with | some c => c | none => .skip
theorem ty145 : chkTypes Try.prog ts145 = true := by kernel_rfl
theorem ev145  (k : Nat) (xs : List Int) (a : (.nil : Tys).den) : evFun (mkEnvV ts145 (fs145 )) H145 k body145 61 [.tmp 2] (.row 0 :: explodes .nil a) [.row (.int .i64) xs] (rowRes (.int .i64)) = f145  k xs  := by kernel_rfl
/-! ### jitney/fleet.Thin -/
def f48 (g53 : (List (Int × Int × Unit)) → Option (Int × Unit)) (g114 : Int → Int → Int → (Bool)) (g143 : (Int × Int × Unit) → (Bool)) (g144 : List Int → Option (List Int)) (g145 : List Int → Option (List Int)) (k : Nat) (x0 : List (Int × Int × Unit)) (x1 : (Int × Int × Unit)) (x2 : Int) : Option ((List (Int × Int × Unit)) × Int × Unit) :=
  Option.bind (g53 x0) fun v1 =>
  bif (v1.1 != (0 : Int)) then
    some ([], v1.1, ())
  else
    bif (!(g143 x1)) then
      some ([], (1 : Int), ())
    else
      bif (g114 x2 (0 : Int) (500 : Int)) then
        some ([], (1 : Int), ())
      else
        Option.bind (α := ((List (Int × Int × Unit)) × Int × Unit) ⊕ (((List Int) × Unit) × (Unit))) (iter (σ := ((List Int) × Int × Unit) × (Unit)) (τ := ((List (Int × Int × Unit)) × Int × Unit) ⊕ (((List Int) × Unit) × (Unit))) k (fun y2 =>
            bif (decide (y2.1.2.1 < ((List.length x0 : Nat) : Int))) then
              bif (inR y2.1.2.1 ((List.length x0 : Nat) : Int)) then
                Option.bind (α := ((((List Int) × Int × Unit) × (Unit)) ⊕ (((List (Int × Int × Unit)) × Int × Unit) ⊕ (((List Int) × Unit) × (Unit)))) ⊕ (((List Int) × Unit) × (Unit))) (iter (σ := ((List Int) × Int × Unit) × (Unit)) (τ := ((((List Int) × Int × Unit) × (Unit)) ⊕ (((List (Int × Int × Unit)) × Int × Unit) ⊕ (((List Int) × Unit) × (Unit)))) ⊕ (((List Int) × Unit) × (Unit))) k (fun y3 =>
                    bif (decide (y3.1.2.1 < ((List.length ([(rd (α := (Int × Int × Unit)) ((0 : Int), (0 : Int), ()) x0 y2.1.2.1).1, (rd (α := (Int × Int × Unit)) ((0 : Int), (0 : Int), ()) x0 y2.1.2.1).2.1]) : Nat) : Int))) then
                      bif (inR y3.1.2.1 ((List.length ([(rd (α := (Int × Int × Unit)) ((0 : Int), (0 : Int), ()) x0 y2.1.2.1).1, (rd (α := (Int × Int × Unit)) ((0 : Int), (0 : Int), ()) x0 y2.1.2.1).2.1]) : Nat) : Int)) then
                        bif (inR y3.1.2.1 ((List.length ([(rd (α := (Int × Int × Unit)) ((0 : Int), (0 : Int), ()) x0 y2.1.2.1).1, (rd (α := (Int × Int × Unit)) ((0 : Int), (0 : Int), ()) x0 y2.1.2.1).2.1]) : Nat) : Int)) then
                          bif (decide ((rd (α := Int) (0 : Int) ([(rd (α := (Int × Int × Unit)) ((0 : Int), (0 : Int), ()) x0 y2.1.2.1).1, (rd (α := (Int × Int × Unit)) ((0 : Int), (0 : Int), ()) x0 y2.1.2.1).2.1]) y3.1.2.1) > x1.1)) then
                            bif (decide ((rd (α := Int) (0 : Int) ([(rd (α := (Int × Int × Unit)) ((0 : Int), (0 : Int), ()) x0 y2.1.2.1).1, (rd (α := (Int × Int × Unit)) ((0 : Int), (0 : Int), ()) x0 y2.1.2.1).2.1]) y3.1.2.1) < x1.2.1)) then
                              bif decide (List.length y3.1.1 + List.length ([(rd (α := Int) (0 : Int) ([(rd (α := (Int × Int × Unit)) ((0 : Int), (0 : Int), ()) x0 y2.1.2.1).1, (rd (α := (Int × Int × Unit)) ((0 : Int), (0 : Int), ()) x0 y2.1.2.1).2.1]) y3.1.2.1)]) ≤ 4294967296) then
                                some (.inl (((y3.1.1 ++ [(rd (α := Int) (0 : Int) ([(rd (α := (Int × Int × Unit)) ((0 : Int), (0 : Int), ()) x0 y2.1.2.1).1, (rd (α := (Int × Int × Unit)) ((0 : Int), (0 : Int), ()) x0 y2.1.2.1).2.1]) y3.1.2.1)]), (IntKind.i64.wrap (y3.1.2.1 + (1 : Int))), ()), ()))
                              else
                                none
                            else
                              some (.inl ((y3.1.1, (IntKind.i64.wrap (y3.1.2.1 + (1 : Int))), ()), ()))
                          else
                            some (.inl ((y3.1.1, (IntKind.i64.wrap (y3.1.2.1 + (1 : Int))), ()), ()))
                        else
                          none
                      else
                        none
                    else
                      some (.inr (.inr ((y3.1.1, ()), ())))) ((y2.1.1, (0 : Int), ()), ())) fun r => match r with
                | .inl z => some z
                | .inr z4 =>
                  some (.inl ((z4.1.1, (IntKind.i64.wrap (y2.1.2.1 + (1 : Int))), ()), ()))
              else
                none
            else
              some (.inr (.inr ((y2.1.1, ()), ())))) (([x1.1, x1.2.1], (0 : Int), ()), ())) fun r => match r with
        | .inl z => some z
        | .inr z5 =>
          Option.bind (g144 z5.1.1) fun v6 =>
          Option.bind (g145 v6) fun v7 =>
          Option.bind (α := ((List (Int × Int × Unit)) × Int × Unit) ⊕ (((List (Int × Int × Unit)) × Unit) × (Unit))) (iter (σ := ((List (Int × Int × Unit)) × Int × Unit) × (Unit)) (τ := ((List (Int × Int × Unit)) × Int × Unit) ⊕ (((List (Int × Int × Unit)) × Unit) × (Unit))) k (fun y8 =>
              bif (decide (y8.1.2.1 < ((List.length v7 : Nat) : Int))) then
                bif (inR (IntKind.i64.wrap (y8.1.2.1 - (1 : Int))) ((List.length v7 : Nat) : Int)) then
                  bif (inR (IntKind.i64.wrap (y8.1.2.1 - (1 : Int))) ((List.length v7 : Nat) : Int)) then
                    bif (inR y8.1.2.1 ((List.length v7 : Nat) : Int)) then
                      bif (inR y8.1.2.1 ((List.length v7 : Nat) : Int)) then
                        Option.bind (α := ((((List (Int × Int × Unit)) × Int × Unit) × (Unit)) ⊕ (((List (Int × Int × Unit)) × Int × Unit) ⊕ (((List (Int × Int × Unit)) × Unit) × (Unit)))) ⊕ ((Int × Unit) × (Unit))) (iter (σ := (Int × Int × Unit) × (Unit)) (τ := ((((List (Int × Int × Unit)) × Int × Unit) × (Unit)) ⊕ (((List (Int × Int × Unit)) × Int × Unit) ⊕ (((List (Int × Int × Unit)) × Unit) × (Unit)))) ⊕ ((Int × Unit) × (Unit))) k (fun y9 =>
                            bif (decide (y9.1.2.1 < ((List.length x0 : Nat) : Int))) then
                              bif (inR y9.1.2.1 ((List.length x0 : Nat) : Int)) then
                                bif (decide ((rd (α := (Int × Int × Unit)) ((0 : Int), (0 : Int), ()) x0 y9.1.2.1).1 ≤ (rd (α := Int) (0 : Int) v7 (IntKind.i64.wrap (y8.1.2.1 - (1 : Int)))))) then
                                  bif (decide ((rd (α := Int) (0 : Int) v7 (IntKind.i64.wrap (y8.1.2.1 - (1 : Int)))) < (rd (α := (Int × Int × Unit)) ((0 : Int), (0 : Int), ()) x0 y9.1.2.1).2.1)) then
                                    some (.inl (((IntKind.i64.wrap (y9.1.1 + (1 : Int))), (IntKind.i64.wrap (y9.1.2.1 + (1 : Int))), ()), ()))
                                  else
                                    some (.inl ((y9.1.1, (IntKind.i64.wrap (y9.1.2.1 + (1 : Int))), ()), ()))
                                else
                                  some (.inl ((y9.1.1, (IntKind.i64.wrap (y9.1.2.1 + (1 : Int))), ()), ()))
                              else
                                none
                            else
                              some (.inr (.inr ((y9.1.1, ()), ())))) (((0 : Int), (0 : Int), ()), ())) fun r => match r with
                        | .inl z => some z
                        | .inr z10 =>
                          bif (decide (z10.1.1 ≥ x2)) then
                            some (.inl ((y8.1.1, (IntKind.i64.wrap (y8.1.2.1 + (1 : Int))), ()), ()))
                          else
                            Option.bind (α := ((((List (Int × Int × Unit)) × Int × Unit) × (Unit)) ⊕ (((List (Int × Int × Unit)) × Int × Unit) ⊕ (((List (Int × Int × Unit)) × Unit) × (Unit)))) ⊕ ((Bool × Unit) × (Unit))) (
                                bif (decide ((IntKind.i64.wrap (((List.length y8.1.1 : Nat) : Int) - (1 : Int))) ≥ (0 : Int))) then
                                  bif (inR (IntKind.i64.wrap (((List.length y8.1.1 : Nat) : Int) - (1 : Int))) ((List.length y8.1.1 : Nat) : Int)) then
                                    bif (inR (IntKind.i64.wrap (((List.length y8.1.1 : Nat) : Int) - (1 : Int))) ((List.length y8.1.1 : Nat) : Int)) then
                                      some (.inr ((((rd (α := (Int × Int × Unit)) ((0 : Int), (0 : Int), ()) y8.1.1 (IntKind.i64.wrap (((List.length y8.1.1 : Nat) : Int) - (1 : Int)))).2.1 == (rd (α := Int) (0 : Int) v7 (IntKind.i64.wrap (y8.1.2.1 - (1 : Int))))), ()), ()))
                                    else
                                      none
                                  else
                                    none
                                else
                                  some (.inr ((false, ()), ()))) fun r => match r with
                            | .inl z => some z
                            | .inr y11 =>
                              bif y11.1.1 then
                                bif (inR (IntKind.i64.wrap (((List.length y8.1.1 : Nat) : Int) - (1 : Int))) ((List.length y8.1.1 : Nat) : Int)) then
                                  bif (inR (IntKind.i64.wrap (((List.length y8.1.1 : Nat) : Int) - (1 : Int))) ((List.length y8.1.1 : Nat) : Int)) then
                                    some (.inl (((List.set y8.1.1 (Int.toNat (IntKind.i64.wrap (((List.length y8.1.1 : Nat) : Int) - (1 : Int)))) ((rd (α := (Int × Int × Unit)) ((0 : Int), (0 : Int), ()) y8.1.1 (IntKind.i64.wrap (((List.length y8.1.1 : Nat) : Int) - (1 : Int)))).1, (rd (α := Int) (0 : Int) v7 y8.1.2.1), (rd (α := (Int × Int × Unit)) ((0 : Int), (0 : Int), ()) y8.1.1 (IntKind.i64.wrap (((List.length y8.1.1 : Nat) : Int) - (1 : Int)))).2.2)), (IntKind.i64.wrap (y8.1.2.1 + (1 : Int))), ()), ()))
                                  else
                                    none
                                else
                                  none
                              else
                                bif decide (List.length y8.1.1 + List.length ([((rd (α := Int) (0 : Int) v7 (IntKind.i64.wrap (y8.1.2.1 - (1 : Int)))), (rd (α := Int) (0 : Int) v7 y8.1.2.1), ())]) ≤ 4294967296) then
                                  some (.inl (((y8.1.1 ++ [((rd (α := Int) (0 : Int) v7 (IntKind.i64.wrap (y8.1.2.1 - (1 : Int)))), (rd (α := Int) (0 : Int) v7 y8.1.2.1), ())]), (IntKind.i64.wrap (y8.1.2.1 + (1 : Int))), ()), ()))
                                else
                                  none
                      else
                        none
                    else
                      none
                  else
                    none
                else
                  none
              else
                some (.inr (.inr ((y8.1.1, ()), ())))) (([], (1 : Int), ()), ())) fun r => match r with
          | .inl z => some z
          | .inr z12 =>
            some (z12.1.1, (0 : Int), ())
def H48 : Hints where
  loop := fun n => match n with
    | 0 => some ({ slots := [(9, (.row (.int .i64))), (41, (.int .i64))], objs := [], gone := [1] }, 0, { slots := [(9, (.row (.int .i64)))], objs := [], gone := [1] })
    | 2 => some ({ slots := [(9, (.row (.int .i64))), (51, (.int .i64))], objs := [], gone := [2] }, 2, { slots := [(9, (.row (.int .i64)))], objs := [], gone := [2] })
    | 4 => some ({ slots := [(14, (.row (.struct (.cons (.int .i64) (.cons (.int .i64) .nil))))), (15, (.int .i64))], objs := [], gone := [] }, 4, { slots := [(14, (.row (.struct (.cons (.int .i64) (.cons (.int .i64) .nil)))))], objs := [], gone := [] })
    | 6 => some ({ slots := [(18, (.int .i64)), (92, (.int .i64))], objs := [], gone := [] }, 6, { slots := [(18, (.int .i64))], objs := [], gone := [] })
    | _ => none
  region := fun n => match n with
    | 34 => some { slots := [(122, .bool)], objs := [], gone := [] }
    | _ => none
  cond := fun n => match n with
    | _ => none
  block := fun n => match n with
    | _ => none
abbrev A48 : Tys := (.cons (.slice (.struct (.cons (.int .i64) (.cons (.int .i64) .nil)))) (.cons (.struct (.cons (.int .i64) (.cons (.int .i64) .nil))) (.cons (.int .i64) .nil)))
def ts48 : List (Nat × TD) := [(3, (.data (.int .i64))), (28, (.data (.int .i64))), (61, (.data (.struct (.cons (.int .i64) (.cons (.int .i64) .nil))))), (73, (.data (.slice (.struct (.cons (.int .i64) (.cons (.int .i64) .nil)))))), (78, (.data (.slice (.int .i64))))]
noncomputable def fs48 (g53 : (List (Int × Int × Unit)) → Option (Int × Unit)) (g114 : Int → Int → Int → (Bool)) (g143 : (Int × Int × Unit) → (Bool)) (g144 : List Int → Option (List Int)) (g145 : List Int → Option (List Int)) : List (Nat × FSem) := [(53, .pfn (.cons (.slice (.struct (.cons (.int .i64) (.cons (.int .i64) .nil)))) .nil) (.cons (.int .i64) .nil) fun x => (g53 x.1)), (114, .fn (.cons (.int .i64) (.cons (.int .i64) (.cons (.int .i64) .nil))) (.cons .bool .nil) fun x => ((g114 x.1 x.2.1 x.2.2.1), ())), (143, .fn (.cons (.struct (.cons (.int .i64) (.cons (.int .i64) .nil))) .nil) (.cons .bool .nil) fun x => ((g143 x.1), ())), (144, .wfn (.int .i64) .nil fun xs a => g144 xs ), (145, .cfn (.int .i64) .nil fun xs a => g145 xs )]
noncomputable def body48 : Code := match Try.f48.body with | some c => c | none => .skip
theorem ty48 : chkTypes Try.prog ts48 = true := by kernel_rfl
theorem ev48 (g53 : (List (Int × Int × Unit)) → Option (Int × Unit)) (g114 : Int → Int → Int → (Bool)) (g143 : (Int × Int × Unit) → (Bool)) (g144 : List Int → Option (List Int)) (g145 : List Int → Option (List Int)) (k : Nat) (x : ((.cons (.slice (.struct (.cons (.int .i64) (.cons (.int .i64) .nil)))) (.cons (.struct (.cons (.int .i64) (.cons (.int .i64) .nil))) (.cons (.int .i64) .nil))) : Tys).den) : evFun (mkEnv ts48 (fs48 g53 g114 g143 g144 g145)) H48 k body48 140 [.tmp 6, .tmp 7] (explodes (.cons (.slice (.struct (.cons (.int .i64) (.cons (.int .i64) .nil)))) (.cons (.struct (.cons (.int .i64) (.cons (.int .i64) .nil))) (.cons (.int .i64) .nil))) x) [] (dec (.cons (.slice (.struct (.cons (.int .i64) (.cons (.int .i64) .nil)))) (.cons (.int .i64) .nil))) = f48 g53 g114 g143 g144 g145 k x.1 x.2.1 x.2.2.1 := by kernel_rfl
/-! ### jitney/fleet.Tired -/
def f49 (g113 : ByteArray → (Bool)) (g114 : Int → Int → Int → (Bool)) (g146 : (List (ByteArray × (Int × Int × Unit) × Int × Int × Unit)) → (Int)) (g147 : (List (ByteArray × (Int × Int × Unit) × Int × Int × Unit)) → ByteArray → Option ((List (ByteArray × (Int × Int × Unit) × Int × Int × Unit)) × Unit)) (k : Nat) (x0 : (Int × Int × Unit)) (x1 : List (ByteArray × (Int × Int × Unit) × Int × Int × Unit)) (x2 : ByteArray) : Option ((List Int) × Int × Unit) :=
  bif (g114 x0.1 (1 : Int) (86400000 : Int)) then
    some ([], (1 : Int), ())
  else
    bif (g114 x0.2.1 (1 : Int) (86400000 : Int)) then
      some ([], (1 : Int), ())
    else
      bif ((g146 x1) != (0 : Int)) then
        some ([], (g146 x1), ())
      else
        bif (!(g113 x2)) then
          some ([], (5 : Int), ())
        else
          Option.bind (g147 x1 x2) fun v1 =>
          Option.bind (α := ((List Int) × Int × Unit) ⊕ (((List Int) × Unit) × (Unit))) (iter (σ := ((List Int) × Int × Int × Int × Unit) × (Unit)) (τ := ((List Int) × Int × Unit) ⊕ (((List Int) × Unit) × (Unit))) k (fun y2 =>
              bif (decide (y2.1.2.2.2.1 < ((List.length v1.1 : Nat) : Int))) then
                bif (inR y2.1.2.2.2.1 ((List.length v1.1 : Nat) : Int)) then
                  Option.bind (α := ((((List Int) × Int × Int × Int × Unit) × (Unit)) ⊕ (((List Int) × Int × Unit) ⊕ (((List Int) × Unit) × (Unit)))) ⊕ ((Bool × Unit) × (Unit))) (
                      bif (decide (y2.1.2.2.2.1 > (0 : Int))) then
                        some (.inr (((decide ((IntKind.i64.wrap ((rd (α := (ByteArray × (Int × Int × Unit) × Int × Int × Unit)) (ByteArray.empty, ((0 : Int), (0 : Int), ()), (0 : Int), (0 : Int), ()) v1.1 y2.1.2.2.2.1).2.1.1 - y2.1.2.2.1)) ≥ x0.2.1)), ()), ()))
                      else
                        some (.inr ((false, ()), ()))) fun r => match r with
                  | .inl z => some z
                  | .inr y3 =>
                    Option.bind (α := ((((List Int) × Int × Int × Int × Unit) × (Unit)) ⊕ (((List Int) × Int × Unit) ⊕ (((List Int) × Unit) × (Unit)))) ⊕ ((Int × Unit) × (Unit))) (
                        bif y3.1.1 then
                          some (.inr (((0 : Int), ()), ()))
                        else
                          some (.inr ((y2.1.2.1, ()), ()))) fun r => match r with
                    | .inl z => some z
                    | .inr y4 =>
                      Option.bind (α := ((((List Int) × Int × Int × Int × Unit) × (Unit)) ⊕ (((List Int) × Int × Unit) ⊕ (((List Int) × Unit) × (Unit)))) ⊕ (((List Int) × Unit) × (Unit))) (
                          bif (decide (y4.1.1 ≥ x0.1)) then
                            bif decide (List.length y2.1.1 + List.length ([y2.1.2.2.2.1]) ≤ 4294967296) then
                              some (.inr (((y2.1.1 ++ [y2.1.2.2.2.1]), ()), ()))
                            else
                              none
                          else
                            some (.inr ((y2.1.1, ()), ()))) fun r => match r with
                      | .inl z => some z
                      | .inr y5 =>
                        some (.inl ((y5.1.1, (IntKind.i64.wrap (y4.1.1 + (IntKind.i64.wrap ((rd (α := (ByteArray × (Int × Int × Unit) × Int × Int × Unit)) (ByteArray.empty, ((0 : Int), (0 : Int), ()), (0 : Int), (0 : Int), ()) v1.1 y2.1.2.2.2.1).2.1.2.1 - (rd (α := (ByteArray × (Int × Int × Unit) × Int × Int × Unit)) (ByteArray.empty, ((0 : Int), (0 : Int), ()), (0 : Int), (0 : Int), ()) v1.1 y2.1.2.2.2.1).2.1.1)))), (rd (α := (ByteArray × (Int × Int × Unit) × Int × Int × Unit)) (ByteArray.empty, ((0 : Int), (0 : Int), ()), (0 : Int), (0 : Int), ()) v1.1 y2.1.2.2.2.1).2.1.2.1, (IntKind.i64.wrap (y2.1.2.2.2.1 + (1 : Int))), ()), ()))
                else
                  none
              else
                some (.inr (.inr ((y2.1.1, ()), ())))) (([], (0 : Int), (0 : Int), (0 : Int), ()), ())) fun r => match r with
          | .inl z => some z
          | .inr z6 =>
            some (z6.1.1, (0 : Int), ())
def H49 : Hints where
  loop := fun n => match n with
    | 0 => some ({ slots := [(9, (.row (.int .i64))), (10, (.int .i64)), (11, (.int .i64)), (34, (.int .i64))], objs := [], gone := [] }, 0, { slots := [(9, (.row (.int .i64)))], objs := [], gone := [] })
    | _ => none
  region := fun n => match n with
    | 13 => some { slots := [(50, .bool)], objs := [], gone := [] }
    | _ => none
  cond := fun n => match n with
    | 50 => some { slots := [(10, (.int .i64))], objs := [], gone := [] }
    | 54 => some { slots := [(9, (.row (.int .i64)))], objs := [], gone := [1] }
    | _ => none
  block := fun n => match n with
    | _ => none
abbrev A49 : Tys := (.cons (.struct (.cons (.int .i64) (.cons (.int .i64) .nil))) (.cons (.slice (.struct (.cons .str (.cons (.struct (.cons (.int .i64) (.cons (.int .i64) .nil))) (.cons (.int .i64) (.cons (.int .i64) .nil)))))) (.cons .str .nil)))
def ts49 : List (Nat × TD) := [(3, (.data (.int .i64))), (9, (.data .str)), (28, (.data (.int .i64))), (56, (.data (.slice (.struct (.cons .str (.cons (.struct (.cons (.int .i64) (.cons (.int .i64) .nil))) (.cons (.int .i64) (.cons (.int .i64) .nil)))))))), (61, (.data (.struct (.cons (.int .i64) (.cons (.int .i64) .nil))))), (63, (.data (.struct (.cons .str (.cons (.struct (.cons (.int .i64) (.cons (.int .i64) .nil))) (.cons (.int .i64) (.cons (.int .i64) .nil))))))), (75, (.data (.struct (.cons (.int .i64) (.cons (.int .i64) .nil))))), (78, (.data (.slice (.int .i64))))]
noncomputable def fs49 (g113 : ByteArray → (Bool)) (g114 : Int → Int → Int → (Bool)) (g146 : (List (ByteArray × (Int × Int × Unit) × Int × Int × Unit)) → (Int)) (g147 : (List (ByteArray × (Int × Int × Unit) × Int × Int × Unit)) → ByteArray → Option ((List (ByteArray × (Int × Int × Unit) × Int × Int × Unit)) × Unit)) : List (Nat × FSem) := [(113, .fn (.cons .str .nil) (.cons .bool .nil) fun x => ((g113 x.1), ())), (114, .fn (.cons (.int .i64) (.cons (.int .i64) (.cons (.int .i64) .nil))) (.cons .bool .nil) fun x => ((g114 x.1 x.2.1 x.2.2.1), ())), (146, .fn (.cons (.slice (.struct (.cons .str (.cons (.struct (.cons (.int .i64) (.cons (.int .i64) .nil))) (.cons (.int .i64) (.cons (.int .i64) .nil)))))) .nil) (.cons (.int .i64) .nil) fun x => ((g146 x.1), ())), (147, .pfn (.cons (.slice (.struct (.cons .str (.cons (.struct (.cons (.int .i64) (.cons (.int .i64) .nil))) (.cons (.int .i64) (.cons (.int .i64) .nil)))))) (.cons .str .nil)) (.cons (.slice (.struct (.cons .str (.cons (.struct (.cons (.int .i64) (.cons (.int .i64) .nil))) (.cons (.int .i64) (.cons (.int .i64) .nil)))))) .nil) fun x => (g147 x.1 x.2.1))]
noncomputable def body49 : Code := match Try.f49.body with | some c => c | none => .skip
theorem ty49 : chkTypes Try.prog ts49 = true := by kernel_rfl
theorem ev49 (g113 : ByteArray → (Bool)) (g114 : Int → Int → Int → (Bool)) (g146 : (List (ByteArray × (Int × Int × Unit) × Int × Int × Unit)) → (Int)) (g147 : (List (ByteArray × (Int × Int × Unit) × Int × Int × Unit)) → ByteArray → Option ((List (ByteArray × (Int × Int × Unit) × Int × Int × Unit)) × Unit)) (k : Nat) (x : ((.cons (.struct (.cons (.int .i64) (.cons (.int .i64) .nil))) (.cons (.slice (.struct (.cons .str (.cons (.struct (.cons (.int .i64) (.cons (.int .i64) .nil))) (.cons (.int .i64) (.cons (.int .i64) .nil)))))) (.cons .str .nil))) : Tys).den) : evFun (mkEnv ts49 (fs49 g113 g114 g146 g147)) H49 k body49 73 [.tmp 6, .tmp 7] (explodes (.cons (.struct (.cons (.int .i64) (.cons (.int .i64) .nil))) (.cons (.slice (.struct (.cons .str (.cons (.struct (.cons (.int .i64) (.cons (.int .i64) .nil))) (.cons (.int .i64) (.cons (.int .i64) .nil)))))) (.cons .str .nil))) x) [] (dec (.cons (.slice (.int .i64)) (.cons (.int .i64) .nil))) = f49 g113 g114 g146 g147 k x.1 x.2.1 x.2.2.1 := by kernel_rfl
/-! ### jitney/jitref2.ShiftsFault -/
def f50  (k : Nat) (x0 : List (Int × Int × Unit)) : Option (Int × Unit) :=
  bif (decide (((List.length x0 : Nat) : Int) > (500 : Int))) then
    some ((2 : Int), ())
  else
    Option.bind (α := (Int × Unit) ⊕ ((Unit) × (Unit))) (iter (σ := (Int × Unit) × (Unit)) (τ := (Int × Unit) ⊕ ((Unit) × (Unit))) k (fun y1 =>
        bif (decide (y1.1.1 < ((List.length x0 : Nat) : Int))) then
          bif (inR y1.1.1 ((List.length x0 : Nat) : Int)) then
            bif (decide ((rd (α := (Int × Int × Unit)) ((0 : Int), (0 : Int), ()) x0 y1.1.1).1 < (0 : Int))) then
              some (.inr (.inl ((1 : Int), ())))
            else
              bif (decide ((rd (α := (Int × Int × Unit)) ((0 : Int), (0 : Int), ()) x0 y1.1.1).1 ≥ (rd (α := (Int × Int × Unit)) ((0 : Int), (0 : Int), ()) x0 y1.1.1).2.1)) then
                some (.inr (.inl ((1 : Int), ())))
              else
                bif (decide ((rd (α := (Int × Int × Unit)) ((0 : Int), (0 : Int), ()) x0 y1.1.1).2.1 > (345686400000 : Int))) then
                  some (.inr (.inl ((1 : Int), ())))
                else
                  bif (decide (y1.1.1 > (0 : Int))) then
                    bif (inR (IntKind.i64.wrap (y1.1.1 - (1 : Int))) ((List.length x0 : Nat) : Int)) then
                      bif (decide ((rd (α := (Int × Int × Unit)) ((0 : Int), (0 : Int), ()) x0 y1.1.1).1 < (rd (α := (Int × Int × Unit)) ((0 : Int), (0 : Int), ()) x0 (IntKind.i64.wrap (y1.1.1 - (1 : Int)))).1)) then
                        some (.inr (.inl ((7 : Int), ())))
                      else
                        bif (inR (IntKind.i64.wrap (y1.1.1 - (1 : Int))) ((List.length x0 : Nat) : Int)) then
                          bif ((rd (α := (Int × Int × Unit)) ((0 : Int), (0 : Int), ()) x0 y1.1.1).1 == (rd (α := (Int × Int × Unit)) ((0 : Int), (0 : Int), ()) x0 (IntKind.i64.wrap (y1.1.1 - (1 : Int)))).1) then
                            bif (inR (IntKind.i64.wrap (y1.1.1 - (1 : Int))) ((List.length x0 : Nat) : Int)) then
                              bif (decide ((rd (α := (Int × Int × Unit)) ((0 : Int), (0 : Int), ()) x0 y1.1.1).2.1 < (rd (α := (Int × Int × Unit)) ((0 : Int), (0 : Int), ()) x0 (IntKind.i64.wrap (y1.1.1 - (1 : Int)))).2.1)) then
                                some (.inr (.inl ((7 : Int), ())))
                              else
                                some (.inl (((IntKind.i64.wrap (y1.1.1 + (1 : Int))), ()), ()))
                            else
                              none
                          else
                            some (.inl (((IntKind.i64.wrap (y1.1.1 + (1 : Int))), ()), ()))
                        else
                          none
                    else
                      none
                  else
                    some (.inl (((IntKind.i64.wrap (y1.1.1 + (1 : Int))), ()), ()))
          else
            none
        else
          some (.inr (.inr ((), ())))) (((0 : Int), ()), ())) fun r => match r with
    | .inl z => some z
    | .inr z2 =>
      some ((0 : Int), ())
def H50 : Hints where
  loop := fun n => match n with
    | 0 => some ({ slots := [(10, (.int .i64))], objs := [], gone := [] }, 0, { slots := [], objs := [], gone := [] })
    | _ => none
  region := fun n => match n with
    | _ => none
  cond := fun n => match n with
    | _ => none
  block := fun n => match n with
    | _ => none
abbrev A50 : Tys := (.cons (.slice (.struct (.cons (.int .i64) (.cons (.int .i64) .nil)))) .nil)
def ts50 : List (Nat × TD) := [(3, (.data (.int .i64))), (28, (.data (.int .i64))), (61, (.data (.struct (.cons (.int .i64) (.cons (.int .i64) .nil))))), (73, (.data (.slice (.struct (.cons (.int .i64) (.cons (.int .i64) .nil))))))]
noncomputable def fs50  : List (Nat × FSem) := []
noncomputable def body50 : Code := match Try.f50.body with | some c => c | none => .skip
theorem ty50 : chkTypes Try.prog ts50 = true := by kernel_rfl
theorem ev50  (k : Nat) (x : ((.cons (.slice (.struct (.cons (.int .i64) (.cons (.int .i64) .nil)))) .nil) : Tys).den) : evFun (mkEnv ts50 (fs50 )) H50 k body50 66 [.tmp 2] (explodes (.cons (.slice (.struct (.cons (.int .i64) (.cons (.int .i64) .nil)))) .nil) x) [] (dec (.cons (.int .i64) .nil)) = f50  k x.1 := by kernel_rfl
/-! ### jitney/jitref2.WindowFault -/
def f51 (g115 : Int → Int → Int → (Bool)) (k : Nat) (x0 : (Int × Int × Unit)) : Option (Int × Unit) :=
  bif (!(g115 x0.1 (0 : Int) x0.2.1)) then
    some ((1 : Int), ())
  else
    bif (decide (x0.2.1 > (345686400000 : Int))) then
      some ((1 : Int), ())
    else
      some ((0 : Int), ())
def H51 : Hints where
  loop := fun n => match n with
    | _ => none
  region := fun n => match n with
    | _ => none
  cond := fun n => match n with
    | _ => none
  block := fun n => match n with
    | _ => none
abbrev A51 : Tys := (.cons (.struct (.cons (.int .i64) (.cons (.int .i64) .nil))) .nil)
def ts51 : List (Nat × TD) := [(3, (.data (.int .i64))), (28, (.data (.int .i64))), (61, (.data (.struct (.cons (.int .i64) (.cons (.int .i64) .nil)))))]
noncomputable def fs51 (g115 : Int → Int → Int → (Bool)) : List (Nat × FSem) := [(115, .fn (.cons (.int .i64) (.cons (.int .i64) (.cons (.int .i64) .nil))) (.cons .bool .nil) fun x => ((g115 x.1 x.2.1 x.2.2.1), ()))]
noncomputable def body51 : Code := match Try.f51.body with | some c => c | none => .skip
theorem ty51 : chkTypes Try.prog ts51 = true := by kernel_rfl
theorem ev51 (g115 : Int → Int → Int → (Bool)) (k : Nat) (x : ((.cons (.struct (.cons (.int .i64) (.cons (.int .i64) .nil))) .nil) : Tys).den) : evFun (mkEnv ts51 (fs51 g115)) H51 k body51 14 [.tmp 2] (explodes (.cons (.struct (.cons (.int .i64) (.cons (.int .i64) .nil))) .nil) x) [] (dec (.cons (.int .i64) .nil)) = f51 g115 k x.1 := by kernel_rfl
/-! ### jitney/jitref2.RestFault -/
def f52 (g115 : Int → Int → Int → (Bool)) (k : Nat) (x0 : (Int × Int × Unit)) : Option (Int × Unit) :=
  bif (!(g115 x0.1 (1 : Int) (86400000 : Int))) then
    some ((1 : Int), ())
  else
    bif (!(g115 x0.2.1 (1 : Int) (86400000 : Int))) then
      some ((1 : Int), ())
    else
      some ((0 : Int), ())
def H52 : Hints where
  loop := fun n => match n with
    | _ => none
  region := fun n => match n with
    | _ => none
  cond := fun n => match n with
    | _ => none
  block := fun n => match n with
    | _ => none
abbrev A52 : Tys := (.cons (.struct (.cons (.int .i64) (.cons (.int .i64) .nil))) .nil)
def ts52 : List (Nat × TD) := [(3, (.data (.int .i64))), (28, (.data (.int .i64))), (75, (.data (.struct (.cons (.int .i64) (.cons (.int .i64) .nil)))))]
noncomputable def fs52 (g115 : Int → Int → Int → (Bool)) : List (Nat × FSem) := [(115, .fn (.cons (.int .i64) (.cons (.int .i64) (.cons (.int .i64) .nil))) (.cons .bool .nil) fun x => ((g115 x.1 x.2.1 x.2.2.1), ()))]
noncomputable def body52 : Code := match Try.f52.body with | some c => c | none => .skip
theorem ty52 : chkTypes Try.prog ts52 = true := by kernel_rfl
theorem ev52 (g115 : Int → Int → Int → (Bool)) (k : Nat) (x : ((.cons (.struct (.cons (.int .i64) (.cons (.int .i64) .nil))) .nil) : Tys).den) : evFun (mkEnv ts52 (fs52 g115)) H52 k body52 13 [.tmp 2] (explodes (.cons (.struct (.cons (.int .i64) (.cons (.int .i64) .nil))) .nil) x) [] (dec (.cons (.int .i64) .nil)) = f52 g115 k x.1 := by kernel_rfl
/-! ### jitney/jitref2.inside -/
def f150  (k : Nat) (x0 : Int) (x1 : (Int × Int × Unit)) : Option (Bool × Unit) :=
  bif (decide (x1.1 ≤ x0)) then
    some ((decide (x0 < x1.2.1)), ())
  else
    some (false, ())
def H150 : Hints where
  loop := fun n => match n with
    | _ => none
  region := fun n => match n with
    | _ => none
  cond := fun n => match n with
    | _ => none
  block := fun n => match n with
    | _ => none
abbrev A150 : Tys := (.cons (.int .i64) (.cons (.struct (.cons (.int .i64) (.cons (.int .i64) .nil))) .nil))
def ts150 : List (Nat × TD) := [(3, (.data (.int .i64))), (4, (.data .bool)), (61, (.data (.struct (.cons (.int .i64) (.cons (.int .i64) .nil)))))]
noncomputable def fs150  : List (Nat × FSem) := []
noncomputable def body150 : Code := match Try.f150.body with | some c => c | none => .skip
theorem ty150 : chkTypes Try.prog ts150 = true := by kernel_rfl
theorem ev150  (k : Nat) (x : ((.cons (.int .i64) (.cons (.struct (.cons (.int .i64) (.cons (.int .i64) .nil))) .nil)) : Tys).den) : evFun (mkEnv ts150 (fs150 )) H150 k body150 15 [.tmp 4] (explodes (.cons (.int .i64) (.cons (.struct (.cons (.int .i64) (.cons (.int .i64) .nil))) .nil)) x) [] (dec (.cons .bool .nil)) = f150  k x.1 x.2.1 := by kernel_rfl
/-! ### jitney/jitref2.onAt -/
def f149 (g150 : Int → (Int × Int × Unit) → (Bool)) (k : Nat) (x0 : List (Int × Int × Unit)) (x1 : Int) : Option (Int × Unit) :=
  Option.bind (α := (Int × Unit) ⊕ ((Int × Unit) × (Unit))) (iter (σ := (Int × Int × Unit) × (Unit)) (τ := (Int × Unit) ⊕ ((Int × Unit) × (Unit))) k (fun y1 =>
      bif (decide (y1.1.2.1 < ((List.length x0 : Nat) : Int))) then
        bif (inR y1.1.2.1 ((List.length x0 : Nat) : Int)) then
          bif (g150 x1 (rd (α := (Int × Int × Unit)) ((0 : Int), (0 : Int), ()) x0 y1.1.2.1)) then
            some (.inl (((IntKind.i64.wrap (y1.1.1 + (1 : Int))), (IntKind.i64.wrap (y1.1.2.1 + (1 : Int))), ()), ()))
          else
            some (.inl ((y1.1.1, (IntKind.i64.wrap (y1.1.2.1 + (1 : Int))), ()), ()))
        else
          none
      else
        some (.inr (.inr ((y1.1.1, ()), ())))) (((0 : Int), (0 : Int), ()), ())) fun r => match r with
  | .inl z => some z
  | .inr z2 =>
    some (z2.1.1, ())
def H149 : Hints where
  loop := fun n => match n with
    | 0 => some ({ slots := [(5, (.int .i64)), (10, (.int .i64))], objs := [], gone := [] }, 0, { slots := [(5, (.int .i64))], objs := [], gone := [] })
    | _ => none
  region := fun n => match n with
    | _ => none
  cond := fun n => match n with
    | _ => none
  block := fun n => match n with
    | _ => none
abbrev A149 : Tys := (.cons (.slice (.struct (.cons (.int .i64) (.cons (.int .i64) .nil)))) (.cons (.int .i64) .nil))
def ts149 : List (Nat × TD) := [(3, (.data (.int .i64))), (61, (.data (.struct (.cons (.int .i64) (.cons (.int .i64) .nil))))), (73, (.data (.slice (.struct (.cons (.int .i64) (.cons (.int .i64) .nil))))))]
noncomputable def fs149 (g150 : Int → (Int × Int × Unit) → (Bool)) : List (Nat × FSem) := [(150, .fn (.cons (.int .i64) (.cons (.struct (.cons (.int .i64) (.cons (.int .i64) .nil))) .nil)) (.cons .bool .nil) fun x => ((g150 x.1 x.2.1), ()))]
noncomputable def body149 : Code := match Try.f149.body with | some c => c | none => .skip
theorem ty149 : chkTypes Try.prog ts149 = true := by kernel_rfl
theorem ev149 (g150 : Int → (Int × Int × Unit) → (Bool)) (k : Nat) (x : ((.cons (.slice (.struct (.cons (.int .i64) (.cons (.int .i64) .nil)))) (.cons (.int .i64) .nil)) : Tys).den) : evFun (mkEnv ts149 (fs149 g150)) H149 k body149 21 [.tmp 4] (explodes (.cons (.slice (.struct (.cons (.int .i64) (.cons (.int .i64) .nil)))) (.cons (.int .i64) .nil)) x) [] (dec (.cons (.int .i64) .nil)) = f149 g150 k x.1 x.2.1 := by kernel_rfl
/-! ### jitney/jitref2.DriversOf -/
def f54 (g149 : (List (Int × Int × Unit)) → Int → (Int)) (k : Nat) (x0 : List (Int × Int × Unit)) : Option (Int × Unit) :=
  Option.bind (α := (Int × Unit) ⊕ ((Int × Unit) × (Unit))) (iter (σ := (Int × Int × Unit) × (Unit)) (τ := (Int × Unit) ⊕ ((Int × Unit) × (Unit))) k (fun y1 =>
      bif (decide (y1.1.2.1 < ((List.length x0 : Nat) : Int))) then
        bif (inR y1.1.2.1 ((List.length x0 : Nat) : Int)) then
          some (.inl (((if (decide ((g149 x0 ((rd (α := (Int × Int × Unit)) ((0 : Int), (0 : Int), ()) x0 y1.1.2.1).1)) > y1.1.1)) then (g149 x0 ((rd (α := (Int × Int × Unit)) ((0 : Int), (0 : Int), ()) x0 y1.1.2.1).1)) else y1.1.1), (IntKind.i64.wrap (y1.1.2.1 + (1 : Int))), ()), ()))
        else
          none
      else
        some (.inr (.inr ((y1.1.1, ()), ())))) (((0 : Int), (0 : Int), ()), ())) fun r => match r with
  | .inl z => some z
  | .inr z2 =>
    some (z2.1.1, ())
def H54 : Hints where
  loop := fun n => match n with
    | 0 => some ({ slots := [(3, (.int .i64)), (8, (.int .i64))], objs := [], gone := [] }, 0, { slots := [(3, (.int .i64))], objs := [], gone := [] })
    | _ => none
  region := fun n => match n with
    | _ => none
  cond := fun n => match n with
    | _ => none
  block := fun n => match n with
    | _ => none
abbrev A54 : Tys := (.cons (.slice (.struct (.cons (.int .i64) (.cons (.int .i64) .nil)))) .nil)
def ts54 : List (Nat × TD) := [(3, (.data (.int .i64))), (61, (.data (.struct (.cons (.int .i64) (.cons (.int .i64) .nil))))), (73, (.data (.slice (.struct (.cons (.int .i64) (.cons (.int .i64) .nil))))))]
noncomputable def fs54 (g149 : (List (Int × Int × Unit)) → Int → (Int)) : List (Nat × FSem) := [(149, .fn (.cons (.slice (.struct (.cons (.int .i64) (.cons (.int .i64) .nil)))) (.cons (.int .i64) .nil)) (.cons (.int .i64) .nil) fun x => ((g149 x.1 x.2.1), ()))]
noncomputable def body54 : Code := match Try.f54.body with | some c => c | none => .skip
theorem ty54 : chkTypes Try.prog ts54 = true := by kernel_rfl
theorem ev54 (g149 : (List (Int × Int × Unit)) → Int → (Int)) (k : Nat) (x : ((.cons (.slice (.struct (.cons (.int .i64) (.cons (.int .i64) .nil)))) .nil) : Tys).den) : evFun (mkEnv ts54 (fs54 g149)) H54 k body54 20 [.tmp 2] (explodes (.cons (.slice (.struct (.cons (.int .i64) (.cons (.int .i64) .nil)))) .nil) x) [] (dec (.cons (.int .i64) .nil)) = f54 g149 k x.1 := by kernel_rfl
/-! ### jitney/jitref2.RostersOf -/
def f55  (k : Nat) (x0 : List (Int × Int × Unit)) : Option ((List Int) × Unit) :=
  Option.bind (α := ((List Int) × Unit) ⊕ (((List Int) × Unit) × (Unit))) (iter (σ := ((List Int) × Int × Unit) × (Unit)) (τ := ((List Int) × Unit) ⊕ (((List Int) × Unit) × (Unit))) k (fun y1 =>
      bif (decide (y1.1.2.1 < ((List.length x0 : Nat) : Int))) then
        bif (inR y1.1.2.1 ((List.length x0 : Nat) : Int)) then
          Option.bind (α := ((((List Int) × Int × Unit) × (Unit)) ⊕ (((List Int) × Unit) ⊕ (((List Int) × Unit) × (Unit)))) ⊕ ((Int × Unit) × (Unit))) (iter (σ := (Int × Bool × Unit) × (Unit)) (τ := ((((List Int) × Int × Unit) × (Unit)) ⊕ (((List Int) × Unit) ⊕ (((List Int) × Unit) × (Unit)))) ⊕ ((Int × Unit) × (Unit))) k (fun y2 =>
              bif y2.1.2.1 then
                Option.bind (α := (((Int × Bool × Unit) × (Unit)) ⊕ (((((List Int) × Int × Unit) × (Unit)) ⊕ (((List Int) × Unit) ⊕ (((List Int) × Unit) × (Unit)))) ⊕ ((Int × Unit) × (Unit)))) ⊕ ((Bool × Unit) × (Unit))) (iter (σ := (Bool × Int × Unit) × (Unit)) (τ := (((Int × Bool × Unit) × (Unit)) ⊕ (((((List Int) × Int × Unit) × (Unit)) ⊕ (((List Int) × Unit) ⊕ (((List Int) × Unit) × (Unit)))) ⊕ ((Int × Unit) × (Unit)))) ⊕ ((Bool × Unit) × (Unit))) k (fun y3 =>
                    bif (decide (y3.1.2.1 < y1.1.2.1)) then
                      bif (inR y3.1.2.1 ((List.length y1.1.1 : Nat) : Int)) then
                        bif (inR y3.1.2.1 ((List.length y1.1.1 : Nat) : Int)) then
                          bif ((rd (α := Int) (0 : Int) y1.1.1 y3.1.2.1) == y2.1.1) then
                            bif (inR y3.1.2.1 ((List.length x0 : Nat) : Int)) then
                              bif (decide ((rd (α := (Int × Int × Unit)) ((0 : Int), (0 : Int), ()) x0 y3.1.2.1).2.1 > (rd (α := (Int × Int × Unit)) ((0 : Int), (0 : Int), ()) x0 y1.1.2.1).1)) then
                                some (.inl ((true, (IntKind.i64.wrap (y3.1.2.1 + (1 : Int))), ()), ()))
                              else
                                some (.inl ((y3.1.1, (IntKind.i64.wrap (y3.1.2.1 + (1 : Int))), ()), ()))
                            else
                              none
                          else
                            some (.inl ((y3.1.1, (IntKind.i64.wrap (y3.1.2.1 + (1 : Int))), ()), ()))
                        else
                          none
                      else
                        none
                    else
                      some (.inr (.inr ((y3.1.1, ()), ())))) ((false, (0 : Int), ()), ())) fun r => match r with
                | .inl z => some z
                | .inr z4 =>
                  bif z4.1.1 then
                    some (.inl (((IntKind.i64.wrap (y2.1.1 + (1 : Int))), z4.1.1, ()), ()))
                  else
                    some (.inl ((y2.1.1, z4.1.1, ()), ()))
              else
                some (.inr (.inr ((y2.1.1, ()), ())))) (((0 : Int), true, ()), ())) fun r => match r with
          | .inl z => some z
          | .inr z5 =>
            bif decide (List.length y1.1.1 + List.length ([z5.1.1]) ≤ 4294967296) then
              some (.inl (((y1.1.1 ++ [z5.1.1]), (IntKind.i64.wrap (y1.1.2.1 + (1 : Int))), ()), ()))
            else
              none
        else
          none
      else
        some (.inr (.inr ((y1.1.1, ()), ())))) (([], (0 : Int), ()), ())) fun r => match r with
  | .inl z => some z
  | .inr z6 =>
    some (z6.1.1, ())
def H55 : Hints where
  loop := fun n => match n with
    | 0 => some ({ slots := [(3, (.row (.int .i64))), (11, (.int .i64))], objs := [], gone := [] }, 0, { slots := [(3, (.row (.int .i64)))], objs := [], gone := [] })
    | 2 => some ({ slots := [(6, (.int .i64)), (7, .bool)], objs := [], gone := [] }, 2, { slots := [(6, (.int .i64))], objs := [], gone := [] })
    | 4 => some ({ slots := [(7, .bool), (18, (.int .i64))], objs := [], gone := [] }, 4, { slots := [(7, .bool)], objs := [], gone := [] })
    | _ => none
  region := fun n => match n with
    | _ => none
  cond := fun n => match n with
    | _ => none
  block := fun n => match n with
    | _ => none
abbrev A55 : Tys := (.cons (.slice (.struct (.cons (.int .i64) (.cons (.int .i64) .nil)))) .nil)
def ts55 : List (Nat × TD) := [(3, (.data (.int .i64))), (61, (.data (.struct (.cons (.int .i64) (.cons (.int .i64) .nil))))), (73, (.data (.slice (.struct (.cons (.int .i64) (.cons (.int .i64) .nil)))))), (78, (.data (.slice (.int .i64))))]
noncomputable def fs55  : List (Nat × FSem) := []
noncomputable def body55 : Code := match Try.f55.body with | some c => c | none => .skip
theorem ty55 : chkTypes Try.prog ts55 = true := by kernel_rfl
theorem ev55  (k : Nat) (x : ((.cons (.slice (.struct (.cons (.int .i64) (.cons (.int .i64) .nil)))) .nil) : Tys).den) : evFun (mkEnv ts55 (fs55 )) H55 k body55 47 [.tmp 2] (explodes (.cons (.slice (.struct (.cons (.int .i64) (.cons (.int .i64) .nil)))) .nil) x) [] (dec (.cons (.slice (.int .i64)) .nil)) = f55  k x.1 := by kernel_rfl
/-! ### jitney/jitref2.ThinOf -/
def f56 (g144 : List Int → Option (List Int)) (g145 : List Int → Option (List Int)) (g149 : (List (Int × Int × Unit)) → Int → (Int)) (g150 : Int → (Int × Int × Unit) → (Bool)) (k : Nat) (x0 : List (Int × Int × Unit)) (x1 : (Int × Int × Unit)) (x2 : Int) : Option ((List (Int × Int × Unit)) × Unit) :=
  Option.bind (α := ((List (Int × Int × Unit)) × Unit) ⊕ (((List Int) × Unit) × (Unit))) (iter (σ := ((List Int) × Int × Unit) × (Unit)) (τ := ((List (Int × Int × Unit)) × Unit) ⊕ (((List Int) × Unit) × (Unit))) k (fun y1 =>
      bif (decide (y1.1.2.1 < ((List.length x0 : Nat) : Int))) then
        bif (inR y1.1.2.1 ((List.length x0 : Nat) : Int)) then
          Option.bind (α := ((((List Int) × Int × Unit) × (Unit)) ⊕ (((List (Int × Int × Unit)) × Unit) ⊕ (((List Int) × Unit) × (Unit)))) ⊕ (((List Int) × Unit) × (Unit))) (iter (σ := ((List Int) × Int × Unit) × (Unit)) (τ := ((((List Int) × Int × Unit) × (Unit)) ⊕ (((List (Int × Int × Unit)) × Unit) ⊕ (((List Int) × Unit) × (Unit)))) ⊕ (((List Int) × Unit) × (Unit))) k (fun y2 =>
              bif (decide (y2.1.2.1 < ((List.length ([(rd (α := (Int × Int × Unit)) ((0 : Int), (0 : Int), ()) x0 y1.1.2.1).1, (rd (α := (Int × Int × Unit)) ((0 : Int), (0 : Int), ()) x0 y1.1.2.1).2.1]) : Nat) : Int))) then
                bif (inR y2.1.2.1 ((List.length ([(rd (α := (Int × Int × Unit)) ((0 : Int), (0 : Int), ()) x0 y1.1.2.1).1, (rd (α := (Int × Int × Unit)) ((0 : Int), (0 : Int), ()) x0 y1.1.2.1).2.1]) : Nat) : Int)) then
                  bif (inR y2.1.2.1 ((List.length ([(rd (α := (Int × Int × Unit)) ((0 : Int), (0 : Int), ()) x0 y1.1.2.1).1, (rd (α := (Int × Int × Unit)) ((0 : Int), (0 : Int), ()) x0 y1.1.2.1).2.1]) : Nat) : Int)) then
                    bif (g150 (rd (α := Int) (0 : Int) ([(rd (α := (Int × Int × Unit)) ((0 : Int), (0 : Int), ()) x0 y1.1.2.1).1, (rd (α := (Int × Int × Unit)) ((0 : Int), (0 : Int), ()) x0 y1.1.2.1).2.1]) y2.1.2.1) x1) then
                      bif decide (List.length y2.1.1 + List.length ([(rd (α := Int) (0 : Int) ([(rd (α := (Int × Int × Unit)) ((0 : Int), (0 : Int), ()) x0 y1.1.2.1).1, (rd (α := (Int × Int × Unit)) ((0 : Int), (0 : Int), ()) x0 y1.1.2.1).2.1]) y2.1.2.1)]) ≤ 4294967296) then
                        some (.inl (((y2.1.1 ++ [(rd (α := Int) (0 : Int) ([(rd (α := (Int × Int × Unit)) ((0 : Int), (0 : Int), ()) x0 y1.1.2.1).1, (rd (α := (Int × Int × Unit)) ((0 : Int), (0 : Int), ()) x0 y1.1.2.1).2.1]) y2.1.2.1)]), (IntKind.i64.wrap (y2.1.2.1 + (1 : Int))), ()), ()))
                      else
                        none
                    else
                      some (.inl ((y2.1.1, (IntKind.i64.wrap (y2.1.2.1 + (1 : Int))), ()), ()))
                  else
                    none
                else
                  none
              else
                some (.inr (.inr ((y2.1.1, ()), ())))) ((y1.1.1, (0 : Int), ()), ())) fun r => match r with
          | .inl z => some z
          | .inr z3 =>
            some (.inl ((z3.1.1, (IntKind.i64.wrap (y1.1.2.1 + (1 : Int))), ()), ()))
        else
          none
      else
        some (.inr (.inr ((y1.1.1, ()), ())))) (([x1.1, x1.2.1], (0 : Int), ()), ())) fun r => match r with
  | .inl z => some z
  | .inr z4 =>
    Option.bind (g144 z4.1.1) fun v5 =>
    Option.bind (g145 v5) fun v6 =>
    Option.bind (α := ((List (Int × Int × Unit)) × Unit) ⊕ (((List (Int × Int × Unit)) × Unit) × (Unit))) (iter (σ := ((List (Int × Int × Unit)) × Int × Unit) × (Unit)) (τ := ((List (Int × Int × Unit)) × Unit) ⊕ (((List (Int × Int × Unit)) × Unit) × (Unit))) k (fun y7 =>
        bif (decide (y7.1.2.1 < ((List.length v6 : Nat) : Int))) then
          bif (inR (IntKind.i64.wrap (y7.1.2.1 - (1 : Int))) ((List.length v6 : Nat) : Int)) then
            bif (inR (IntKind.i64.wrap (y7.1.2.1 - (1 : Int))) ((List.length v6 : Nat) : Int)) then
              bif (decide ((g149 x0 (rd (α := Int) (0 : Int) v6 (IntKind.i64.wrap (y7.1.2.1 - (1 : Int))))) ≥ x2)) then
                some (.inl ((y7.1.1, (IntKind.i64.wrap (y7.1.2.1 + (1 : Int))), ()), ()))
              else
                Option.bind (α := ((((List (Int × Int × Unit)) × Int × Unit) × (Unit)) ⊕ (((List (Int × Int × Unit)) × Unit) ⊕ (((List (Int × Int × Unit)) × Unit) × (Unit)))) ⊕ ((Bool × Unit) × (Unit))) (
                    bif (decide ((IntKind.i64.wrap (((List.length y7.1.1 : Nat) : Int) - (1 : Int))) ≥ (0 : Int))) then
                      bif (inR (IntKind.i64.wrap (((List.length y7.1.1 : Nat) : Int) - (1 : Int))) ((List.length y7.1.1 : Nat) : Int)) then
                        bif (inR (IntKind.i64.wrap (((List.length y7.1.1 : Nat) : Int) - (1 : Int))) ((List.length y7.1.1 : Nat) : Int)) then
                          bif (inR (IntKind.i64.wrap (y7.1.2.1 - (1 : Int))) ((List.length v6 : Nat) : Int)) then
                            bif (inR (IntKind.i64.wrap (y7.1.2.1 - (1 : Int))) ((List.length v6 : Nat) : Int)) then
                              some (.inr ((((rd (α := (Int × Int × Unit)) ((0 : Int), (0 : Int), ()) y7.1.1 (IntKind.i64.wrap (((List.length y7.1.1 : Nat) : Int) - (1 : Int)))).2.1 == (rd (α := Int) (0 : Int) v6 (IntKind.i64.wrap (y7.1.2.1 - (1 : Int))))), ()), ()))
                            else
                              none
                          else
                            none
                        else
                          none
                      else
                        none
                    else
                      some (.inr ((false, ()), ()))) fun r => match r with
                | .inl z => some z
                | .inr y8 =>
                  bif y8.1.1 then
                    bif (inR y7.1.2.1 ((List.length v6 : Nat) : Int)) then
                      bif (inR y7.1.2.1 ((List.length v6 : Nat) : Int)) then
                        bif (inR (IntKind.i64.wrap (((List.length y7.1.1 : Nat) : Int) - (1 : Int))) ((List.length y7.1.1 : Nat) : Int)) then
                          bif (inR (IntKind.i64.wrap (((List.length y7.1.1 : Nat) : Int) - (1 : Int))) ((List.length y7.1.1 : Nat) : Int)) then
                            some (.inl (((List.set y7.1.1 (Int.toNat (IntKind.i64.wrap (((List.length y7.1.1 : Nat) : Int) - (1 : Int)))) ((rd (α := (Int × Int × Unit)) ((0 : Int), (0 : Int), ()) y7.1.1 (IntKind.i64.wrap (((List.length y7.1.1 : Nat) : Int) - (1 : Int)))).1, (rd (α := Int) (0 : Int) v6 y7.1.2.1), (rd (α := (Int × Int × Unit)) ((0 : Int), (0 : Int), ()) y7.1.1 (IntKind.i64.wrap (((List.length y7.1.1 : Nat) : Int) - (1 : Int)))).2.2)), (IntKind.i64.wrap (y7.1.2.1 + (1 : Int))), ()), ()))
                          else
                            none
                        else
                          none
                      else
                        none
                    else
                      none
                  else
                    bif (inR (IntKind.i64.wrap (y7.1.2.1 - (1 : Int))) ((List.length v6 : Nat) : Int)) then
                      bif (inR (IntKind.i64.wrap (y7.1.2.1 - (1 : Int))) ((List.length v6 : Nat) : Int)) then
                        bif (inR y7.1.2.1 ((List.length v6 : Nat) : Int)) then
                          bif (inR y7.1.2.1 ((List.length v6 : Nat) : Int)) then
                            bif decide (List.length y7.1.1 + List.length ([((rd (α := Int) (0 : Int) v6 (IntKind.i64.wrap (y7.1.2.1 - (1 : Int)))), (rd (α := Int) (0 : Int) v6 y7.1.2.1), ())]) ≤ 4294967296) then
                              some (.inl (((y7.1.1 ++ [((rd (α := Int) (0 : Int) v6 (IntKind.i64.wrap (y7.1.2.1 - (1 : Int)))), (rd (α := Int) (0 : Int) v6 y7.1.2.1), ())]), (IntKind.i64.wrap (y7.1.2.1 + (1 : Int))), ()), ()))
                            else
                              none
                          else
                            none
                        else
                          none
                      else
                        none
                    else
                      none
            else
              none
          else
            none
        else
          some (.inr (.inr ((y7.1.1, ()), ())))) (([], (1 : Int), ()), ())) fun r => match r with
    | .inl z => some z
    | .inr z9 =>
      some (z9.1.1, ())
def H56 : Hints where
  loop := fun n => match n with
    | 0 => some ({ slots := [(7, (.row (.int .i64))), (22, (.int .i64))], objs := [], gone := [1] }, 0, { slots := [(7, (.row (.int .i64)))], objs := [], gone := [1] })
    | 2 => some ({ slots := [(7, (.row (.int .i64))), (32, (.int .i64))], objs := [], gone := [2] }, 2, { slots := [(7, (.row (.int .i64)))], objs := [], gone := [2] })
    | 4 => some ({ slots := [(12, (.row (.struct (.cons (.int .i64) (.cons (.int .i64) .nil))))), (13, (.int .i64))], objs := [], gone := [] }, 4, { slots := [(12, (.row (.struct (.cons (.int .i64) (.cons (.int .i64) .nil)))))], objs := [], gone := [] })
    | _ => none
  region := fun n => match n with
    | 20 => some { slots := [(81, .bool)], objs := [], gone := [] }
    | _ => none
  cond := fun n => match n with
    | _ => none
  block := fun n => match n with
    | _ => none
abbrev A56 : Tys := (.cons (.slice (.struct (.cons (.int .i64) (.cons (.int .i64) .nil)))) (.cons (.struct (.cons (.int .i64) (.cons (.int .i64) .nil))) (.cons (.int .i64) .nil)))
def ts56 : List (Nat × TD) := [(3, (.data (.int .i64))), (61, (.data (.struct (.cons (.int .i64) (.cons (.int .i64) .nil))))), (73, (.data (.slice (.struct (.cons (.int .i64) (.cons (.int .i64) .nil)))))), (78, (.data (.slice (.int .i64))))]
noncomputable def fs56 (g144 : List Int → Option (List Int)) (g145 : List Int → Option (List Int)) (g149 : (List (Int × Int × Unit)) → Int → (Int)) (g150 : Int → (Int × Int × Unit) → (Bool)) : List (Nat × FSem) := [(144, .wfn (.int .i64) .nil fun xs a => g144 xs ), (145, .cfn (.int .i64) .nil fun xs a => g145 xs ), (149, .fn (.cons (.slice (.struct (.cons (.int .i64) (.cons (.int .i64) .nil)))) (.cons (.int .i64) .nil)) (.cons (.int .i64) .nil) fun x => ((g149 x.1 x.2.1), ())), (150, .fn (.cons (.int .i64) (.cons (.struct (.cons (.int .i64) (.cons (.int .i64) .nil))) .nil)) (.cons .bool .nil) fun x => ((g150 x.1 x.2.1), ()))]
noncomputable def body56 : Code := match Try.f56.body with | some c => c | none => .skip
theorem ty56 : chkTypes Try.prog ts56 = true := by kernel_rfl
theorem ev56 (g144 : List Int → Option (List Int)) (g145 : List Int → Option (List Int)) (g149 : (List (Int × Int × Unit)) → Int → (Int)) (g150 : Int → (Int × Int × Unit) → (Bool)) (k : Nat) (x : ((.cons (.slice (.struct (.cons (.int .i64) (.cons (.int .i64) .nil)))) (.cons (.struct (.cons (.int .i64) (.cons (.int .i64) .nil))) (.cons (.int .i64) .nil))) : Tys).den) : evFun (mkEnv ts56 (fs56 g144 g145 g149 g150)) H56 k body56 104 [.tmp 6] (explodes (.cons (.slice (.struct (.cons (.int .i64) (.cons (.int .i64) .nil)))) (.cons (.struct (.cons (.int .i64) (.cons (.int .i64) .nil))) (.cons (.int .i64) .nil))) x) [] (dec (.cons (.slice (.struct (.cons (.int .i64) (.cons (.int .i64) .nil)))) .nil)) = f56 g144 g145 g149 g150 k x.1 x.2.1 x.2.2.1 := by kernel_rfl
def fm38 (k : Nat) (x0 : List (ByteArray × (Int × Int × Unit) × Int × Int × Unit)) : Option (List (ByteArray × (Int × Int × Unit) × Int × Int × Unit)) :=
  bif Nat.ble (List.length x0) 0 then
    none
  else
    bif decide (List.length ([] : List (ByteArray × (Int × Int × Unit) × Int × Int × Unit)) + List.length x0 ≤ 4294967296) then
      some (([] : List (ByteArray × (Int × Int × Unit) × Int × Int × Unit)) ++ x0)
    else
      none
def Hm38 : Hints where
  loop := fun n => match n with
    | _ => none
  region := fun n => match n with
    | _ => none
  cond := fun n => match n with
    | _ => none
  block := fun n => match n with
    | _ => none
def tsm38 : List (Nat × TD) := [(56, (.data (.slice (.struct (.cons .str (.cons (.struct (.cons (.int .i64) (.cons (.int .i64) .nil))) (.cons (.int .i64) (.cons (.int .i64) .nil))))))))]
noncomputable def bodym38 : Code := match Try.f38.body with | some c => c | none => .skip
theorem tym38 : chkTypes Try.prog tsm38 = true := by kernel_rfl
theorem evm38 (k : Nat) (x : ((.cons (.slice (.struct (.cons .str (.cons (.struct (.cons (.int .i64) (.cons (.int .i64) .nil))) (.cons (.int .i64) (.cons (.int .i64) .nil)))))) .nil) : Tys).den) : evFun (mkEnv tsm38 []) Hm38 k bodym38 8 [.tmp 2] (explodes (.cons (.slice (.struct (.cons .str (.cons (.struct (.cons (.int .i64) (.cons (.int .i64) .nil))) (.cons (.int .i64) (.cons (.int .i64) .nil)))))) .nil) x) [] (rowRes (.struct (.cons .str (.cons (.struct (.cons (.int .i64) (.cons (.int .i64) .nil))) (.cons (.int .i64) (.cons (.int .i64) .nil)))))) = fm38 k x.1 := by kernel_rfl
def m38 (l : List (ByteArray × (Int × Int × Unit) × Int × Int × Unit)) : Option (List (ByteArray × (Int × Int × Unit) × Int × Int × Unit)) := if l.length ≤ 4294967296 then some l else none
/-! ### jitney/jitref2.TiredOf -/
def f57 (m38 : (List (ByteArray × (Int × Int × Unit) × Int × Int × Unit)) → Option (List (ByteArray × (Int × Int × Unit) × Int × Int × Unit))) (k : Nat) (x0 : (Int × Int × Unit)) (x1 : List (ByteArray × (Int × Int × Unit) × Int × Int × Unit)) (x2 : ByteArray) : Option ((List Int) × Unit) :=
  Option.bind (α := ((List Int) × Unit) ⊕ (((List (ByteArray × (Int × Int × Unit) × Int × Int × Unit)) × Unit) × (ByteArray × Unit))) (
      Option.bind (m38 x1) fun v1 =>
      Option.bind (α := (((List Int) × Unit) ⊕ (((List (ByteArray × (Int × Int × Unit) × Int × Int × Unit)) × Unit) × (ByteArray × Unit))) ⊕ ((Int × Unit) × ((List (ByteArray × (Int × Int × Unit) × Int × Int × Unit)) × ByteArray × Unit))) (
          Option.bind (α := ((((List Int) × Unit) ⊕ (((List (ByteArray × (Int × Int × Unit) × Int × Int × Unit)) × Unit) × (ByteArray × Unit))) ⊕ ((Int × Unit) × ((List (ByteArray × (Int × Int × Unit) × Int × Int × Unit)) × ByteArray × Unit))) ⊕ ((Unit) × (ByteArray × Unit))) (iter (σ := (Int × Unit) × (ByteArray × Unit)) (τ := ((((List Int) × Unit) ⊕ (((List (ByteArray × (Int × Int × Unit) × Int × Int × Unit)) × Unit) × (ByteArray × Unit))) ⊕ ((Int × Unit) × ((List (ByteArray × (Int × Int × Unit) × Int × Int × Unit)) × ByteArray × Unit))) ⊕ ((Unit) × (ByteArray × Unit))) k (fun y2 =>
              bif (decide (y2.1.1 < ((List.length v1 : Nat) : Int))) then
                bif (inR y2.1.1 ((List.length v1 : Nat) : Int)) then
                  bif (inR y2.1.1 ((List.length v1 : Nat) : Int)) then
                    bif (!(sEq ((rd (α := (ByteArray × (Int × Int × Unit) × Int × Int × Unit)) (ByteArray.empty, ((0 : Int), (0 : Int), ()), (0 : Int), (0 : Int), ()) v1 y2.1.1).1) y2.2.1)) then
                      some (.inr (.inl (.inr ((y2.1.1, ()), (v1, y2.2.1, ())))))
                    else
                      some (.inl (((IntKind.i64.wrap (y2.1.1 + (1 : Int))), ()), (y2.2.1, ())))
                  else
                    none
                else
                  none
              else
                some (.inr (.inr ((), (y2.2.1, ()))))) (((0 : Int), ()), (x2, ()))) fun r => match r with
          | .inl z => some z
          | .inr z3 =>
            some (.inr (((-1 : Int), ()), (v1, z3.2.1, ())))) fun r => match r with
      | .inl z => some z
      | .inr y4 =>
        bif (y4.1.1 == (-1 : Int)) then
          some (.inr ((y4.2.1, ()), (y4.2.2.1, ())))
        else
          Option.bind (α := (((List Int) × Unit) ⊕ (((List (ByteArray × (Int × Int × Unit) × Int × Int × Unit)) × Unit) × (ByteArray × Unit))) ⊕ ((Int × Unit) × ((List (ByteArray × (Int × Int × Unit) × Int × Int × Unit)) × ByteArray × Unit))) (iter (σ := (Int × Int × Unit) × ((List (ByteArray × (Int × Int × Unit) × Int × Int × Unit)) × ByteArray × Unit)) (τ := (((List Int) × Unit) ⊕ (((List (ByteArray × (Int × Int × Unit) × Int × Int × Unit)) × Unit) × (ByteArray × Unit))) ⊕ ((Int × Unit) × ((List (ByteArray × (Int × Int × Unit) × Int × Int × Unit)) × ByteArray × Unit))) k (fun y5 =>
              bif (decide (y5.1.2.1 < ((List.length y5.2.1 : Nat) : Int))) then
                bif (inR y5.1.2.1 ((List.length y5.2.1 : Nat) : Int)) then
                  bif (inR y5.1.2.1 ((List.length y5.2.1 : Nat) : Int)) then
                    bif (!(!(sEq ((rd (α := (ByteArray × (Int × Int × Unit) × Int × Int × Unit)) (ByteArray.empty, ((0 : Int), (0 : Int), ()), (0 : Int), (0 : Int), ()) y5.2.1 y5.1.2.1).1) y5.2.2.1))) then
                      bif (inR y5.1.1 ((List.length y5.2.1 : Nat) : Int)) then
                        bif (inR y5.1.1 ((List.length y5.2.1 : Nat) : Int)) then
                          some (.inl (((IntKind.i64.wrap (y5.1.1 + (1 : Int))), (IntKind.i64.wrap (y5.1.2.1 + (1 : Int))), ()), ((List.set y5.2.1 (Int.toNat y5.1.1) (rd (α := (ByteArray × (Int × Int × Unit) × Int × Int × Unit)) (ByteArray.empty, ((0 : Int), (0 : Int), ()), (0 : Int), (0 : Int), ()) y5.2.1 y5.1.2.1)), y5.2.2.1, ())))
                        else
                          none
                      else
                        none
                    else
                      some (.inl ((y5.1.1, (IntKind.i64.wrap (y5.1.2.1 + (1 : Int))), ()), (y5.2.1, y5.2.2.1, ())))
                  else
                    none
                else
                  none
              else
                some (.inr (.inr ((y5.1.1, ()), (y5.2.1, y5.2.2.1, ()))))) ((y4.1.1, (IntKind.i64.wrap (y4.1.1 + (1 : Int))), ()), (y4.2.1, y4.2.2.1, ()))) fun r => match r with
          | .inl z => some z
          | .inr z6 =>
            bif (decide (0 ≤ z6.1.1) && (decide (z6.1.1 ≤ ((List.length z6.2.1 : Nat) : Int)) && decide (((List.length z6.2.1 : Nat) : Int) ≤ ((List.length z6.2.1 : Nat) : Int)))) then
              bif (decide (0 ≤ (0 : Int)) && (decide ((0 : Int) ≤ z6.1.1) && decide (z6.1.1 ≤ ((List.length (List.take (Int.toNat z6.1.1) z6.2.1 ++ (List.replicate (Int.toNat (((List.length z6.2.1 : Nat) : Int) - z6.1.1)) (ByteArray.empty, ((0 : Int), (0 : Int), ()), (0 : Int), (0 : Int), ()) ++ List.drop (Int.toNat ((List.length z6.2.1 : Nat) : Int)) z6.2.1)) : Nat) : Int)))) then
                some (.inr (((List.drop (Int.toNat (0 : Int)) (List.take (Int.toNat z6.1.1) (List.take (Int.toNat z6.1.1) z6.2.1 ++ (List.replicate (Int.toNat (((List.length z6.2.1 : Nat) : Int) - z6.1.1)) (ByteArray.empty, ((0 : Int), (0 : Int), ()), (0 : Int), (0 : Int), ()) ++ List.drop (Int.toNat ((List.length z6.2.1 : Nat) : Int)) z6.2.1)))), ()), (z6.2.2.1, ())))
              else
                none
            else
              none) fun r => match r with
  | .inl z => some z
  | .inr y7 =>
    Option.bind (α := ((List Int) × Unit) ⊕ (((List Int) × Unit) × (Unit))) (iter (σ := ((List Int) × Int × Unit) × (Unit)) (τ := ((List Int) × Unit) ⊕ (((List Int) × Unit) × (Unit))) k (fun y8 =>
        bif (decide (y8.1.2.1 < ((List.length y7.1.1 : Nat) : Int))) then
          Option.bind (α := ((((List Int) × Int × Unit) × (Unit)) ⊕ (((List Int) × Unit) ⊕ (((List Int) × Unit) × (Unit)))) ⊕ ((Int × Unit) × (Unit))) (iter (σ := (Int × Int × Unit) × (Unit)) (τ := ((((List Int) × Int × Unit) × (Unit)) ⊕ (((List Int) × Unit) ⊕ (((List Int) × Unit) × (Unit)))) ⊕ ((Int × Unit) × (Unit))) k (fun y9 =>
              bif (decide (y9.1.2.1 > (0 : Int))) then
                bif (inR y9.1.2.1 ((List.length y7.1.1 : Nat) : Int)) then
                  bif (inR y9.1.2.1 ((List.length y7.1.1 : Nat) : Int)) then
                    bif (inR (IntKind.i64.wrap (y9.1.2.1 - (1 : Int))) ((List.length y7.1.1 : Nat) : Int)) then
                      bif (inR (IntKind.i64.wrap (y9.1.2.1 - (1 : Int))) ((List.length y7.1.1 : Nat) : Int)) then
                        bif (decide ((IntKind.i64.wrap ((rd (α := (ByteArray × (Int × Int × Unit) × Int × Int × Unit)) (ByteArray.empty, ((0 : Int), (0 : Int), ()), (0 : Int), (0 : Int), ()) y7.1.1 y9.1.2.1).2.1.1 - (rd (α := (ByteArray × (Int × Int × Unit) × Int × Int × Unit)) (ByteArray.empty, ((0 : Int), (0 : Int), ()), (0 : Int), (0 : Int), ()) y7.1.1 (IntKind.i64.wrap (y9.1.2.1 - (1 : Int)))).2.1.2.1)) < x0.2.1)) then
                          bif (inR (IntKind.i64.wrap (y9.1.2.1 - (1 : Int))) ((List.length y7.1.1 : Nat) : Int)) then
                            bif (inR (IntKind.i64.wrap (y9.1.2.1 - (1 : Int))) ((List.length y7.1.1 : Nat) : Int)) then
                              bif (inR (IntKind.i64.wrap (y9.1.2.1 - (1 : Int))) ((List.length y7.1.1 : Nat) : Int)) then
                                bif (inR (IntKind.i64.wrap (y9.1.2.1 - (1 : Int))) ((List.length y7.1.1 : Nat) : Int)) then
                                  some (.inl (((IntKind.i64.wrap (y9.1.1 + (IntKind.i64.wrap ((rd (α := (ByteArray × (Int × Int × Unit) × Int × Int × Unit)) (ByteArray.empty, ((0 : Int), (0 : Int), ()), (0 : Int), (0 : Int), ()) y7.1.1 (IntKind.i64.wrap (y9.1.2.1 - (1 : Int)))).2.1.2.1 - (rd (α := (ByteArray × (Int × Int × Unit) × Int × Int × Unit)) (ByteArray.empty, ((0 : Int), (0 : Int), ()), (0 : Int), (0 : Int), ()) y7.1.1 (IntKind.i64.wrap (y9.1.2.1 - (1 : Int)))).2.1.1)))), (IntKind.i64.wrap (y9.1.2.1 - (1 : Int))), ()), ()))
                                else
                                  none
                              else
                                none
                            else
                              none
                          else
                            none
                        else
                          some (.inr (.inr ((y9.1.1, ()), ())))
                      else
                        none
                    else
                      none
                  else
                    none
                else
                  none
              else
                some (.inr (.inr ((y9.1.1, ()), ())))) (((0 : Int), y8.1.2.1, ()), ())) fun r => match r with
          | .inl z => some z
          | .inr z10 =>
            bif (decide (z10.1.1 ≥ x0.1)) then
              bif decide (List.length y8.1.1 + List.length ([y8.1.2.1]) ≤ 4294967296) then
                some (.inl (((y8.1.1 ++ [y8.1.2.1]), (IntKind.i64.wrap (y8.1.2.1 + (1 : Int))), ()), ()))
              else
                none
            else
              some (.inl ((y8.1.1, (IntKind.i64.wrap (y8.1.2.1 + (1 : Int))), ()), ()))
        else
          some (.inr (.inr ((y8.1.1, ()), ())))) (([], (0 : Int), ()), ())) fun r => match r with
    | .inl z => some z
    | .inr z11 =>
      some (z11.1.1, ())
def H57 : Hints where
  loop := fun n => match n with
    | 0 => some ({ slots := [(8, (.row (.int .i64))), (18, (.int .i64))], objs := [], gone := [] }, 0, { slots := [(8, (.row (.int .i64)))], objs := [], gone := [] })
    | 2 => some ({ slots := [(10, (.int .i64)), (11, (.int .i64))], objs := [], gone := [] }, 2, { slots := [(10, (.int .i64))], objs := [], gone := [] })
    | _ => none
  region := fun n => match n with
    | 1 => some { slots := [(7, (.row (.struct (.cons .str (.cons (.struct (.cons (.int .i64) (.cons (.int .i64) .nil))) (.cons (.int .i64) (.cons (.int .i64) .nil)))))))], objs := [(1, (.box (.data .str) .str))], gone := [] }
    | _ => none
  cond := fun n => match n with
    | _ => none
  block := fun n => match n with
    | _ => none
def Hi57_152 : Hints where
  loop := fun n => match n with
    | _ => none
  region := fun n => match n with
    | _ => none
  cond := fun n => match n with
    | _ => none
  block := fun n => match n with
    | _ => none
def tsi57_152 : List (Nat × TD) := [(9, (.data .str)), (63, (.data (.struct (.cons .str (.cons (.struct (.cons (.int .i64) (.cons (.int .i64) .nil))) (.cons (.int .i64) (.cons (.int .i64) .nil)))))))]
noncomputable def bodyi57_152 : Code := match Try.f152.body with | some c => c | none => .skip
noncomputable def fsi57_152 (m38 : (List (ByteArray × (Int × Int × Unit) × Int × Int × Unit)) → Option (List (ByteArray × (Int × Int × Unit) × Int × Int × Unit))) (k : Nat) : List (Nat × FSem) := []
theorem tyi57_152 : chkTypes Try.prog tsi57_152 = true := by kernel_rfl
def Hi57_225 : Hints where
  loop := fun n => match n with
    | 0 => some ({ slots := [(8, (.int .i64))], objs := [(1, (.box (.data .str) .str))], gone := [] }, 0, { slots := [], objs := [(1, (.box (.data .str) .str))], gone := [] })
    | _ => none
  region := fun n => match n with
    | _ => none
  cond := fun n => match n with
    | _ => none
  block := fun n => match n with
    | _ => none
def tsi57_225 : List (Nat × TD) := [(3, (.data (.int .i64))), (56, (.data (.slice (.struct (.cons .str (.cons (.struct (.cons (.int .i64) (.cons (.int .i64) .nil))) (.cons (.int .i64) (.cons (.int .i64) .nil)))))))), (63, (.data (.struct (.cons .str (.cons (.struct (.cons (.int .i64) (.cons (.int .i64) .nil))) (.cons (.int .i64) (.cons (.int .i64) .nil)))))))]
noncomputable def bodyi57_225 : Code := match Try.f225.body with | some c => c | none => .skip
noncomputable def fsi57_225 (m38 : (List (ByteArray × (Int × Int × Unit) × Int × Int × Unit)) → Option (List (ByteArray × (Int × Int × Unit) × Int × Int × Unit))) (k : Nat) : List (Nat × FSem) := [(152, .ev (mkEnv tsi57_152 (fsi57_152 m38 k)) Hi57_152 k bodyi57_152 8 [.tmp 3])]
theorem tyi57_225 : chkTypes Try.prog tsi57_225 = true := by kernel_rfl
def Hi57_151 : Hints where
  loop := fun n => match n with
    | 0 => some ({ slots := [(5, (.int .i64)), (6, (.int .i64))], objs := [(0, (.row (.struct (.cons .str (.cons (.struct (.cons (.int .i64) (.cons (.int .i64) .nil))) (.cons (.int .i64) (.cons (.int .i64) .nil))))))), (1, (.box (.data .str) .str))], gone := [] }, 0, { slots := [(5, (.int .i64))], objs := [(0, (.row (.struct (.cons .str (.cons (.struct (.cons (.int .i64) (.cons (.int .i64) .nil))) (.cons (.int .i64) (.cons (.int .i64) .nil))))))), (1, (.box (.data .str) .str))], gone := [] })
    | _ => none
  region := fun n => match n with
    | 1 => some { slots := [(5, (.int .i64))], objs := [(0, (.row (.struct (.cons .str (.cons (.struct (.cons (.int .i64) (.cons (.int .i64) .nil))) (.cons (.int .i64) (.cons (.int .i64) .nil))))))), (1, (.box (.data .str) .str))], gone := [] }
    | _ => none
  cond := fun n => match n with
    | _ => none
  block := fun n => match n with
    | _ => none
def tsi57_151 : List (Nat × TD) := [(3, (.data (.int .i64))), (56, (.data (.slice (.struct (.cons .str (.cons (.struct (.cons (.int .i64) (.cons (.int .i64) .nil))) (.cons (.int .i64) (.cons (.int .i64) .nil)))))))), (63, (.data (.struct (.cons .str (.cons (.struct (.cons (.int .i64) (.cons (.int .i64) .nil))) (.cons (.int .i64) (.cons (.int .i64) .nil)))))))]
noncomputable def bodyi57_151 : Code := match Try.f151.body with | some c => c | none => .skip
noncomputable def fsi57_151 (m38 : (List (ByteArray × (Int × Int × Unit) × Int × Int × Unit)) → Option (List (ByteArray × (Int × Int × Unit) × Int × Int × Unit))) (k : Nat) : List (Nat × FSem) := [(152, .ev (mkEnv tsi57_152 (fsi57_152 m38 k)) Hi57_152 k bodyi57_152 8 [.tmp 3]), (225, .ev (mkEnv tsi57_225 (fsi57_225 m38 k)) Hi57_225 k bodyi57_225 19 [.tmp 4])]
theorem tyi57_151 : chkTypes Try.prog tsi57_151 = true := by kernel_rfl
abbrev A57 : Tys := (.cons (.struct (.cons (.int .i64) (.cons (.int .i64) .nil))) (.cons (.slice (.struct (.cons .str (.cons (.struct (.cons (.int .i64) (.cons (.int .i64) .nil))) (.cons (.int .i64) (.cons (.int .i64) .nil)))))) (.cons .str .nil)))
def ts57 : List (Nat × TD) := [(3, (.data (.int .i64))), (9, (.data .str)), (56, (.data (.slice (.struct (.cons .str (.cons (.struct (.cons (.int .i64) (.cons (.int .i64) .nil))) (.cons (.int .i64) (.cons (.int .i64) .nil)))))))), (61, (.data (.struct (.cons (.int .i64) (.cons (.int .i64) .nil))))), (63, (.data (.struct (.cons .str (.cons (.struct (.cons (.int .i64) (.cons (.int .i64) .nil))) (.cons (.int .i64) (.cons (.int .i64) .nil))))))), (75, (.data (.struct (.cons (.int .i64) (.cons (.int .i64) .nil))))), (78, (.data (.slice (.int .i64))))]
noncomputable def fs57 (m38 : (List (ByteArray × (Int × Int × Unit) × Int × Int × Unit)) → Option (List (ByteArray × (Int × Int × Unit) × Int × Int × Unit))) (k : Nat) : List (Nat × FSem) := [(38, .mfn (.struct (.cons .str (.cons (.struct (.cons (.int .i64) (.cons (.int .i64) .nil))) (.cons (.int .i64) (.cons (.int .i64) .nil))))) (.cons (.slice (.struct (.cons .str (.cons (.struct (.cons (.int .i64) (.cons (.int .i64) .nil))) (.cons (.int .i64) (.cons (.int .i64) .nil)))))) .nil) fun x => m38 x.1), (151, .ev (mkEnvV tsi57_151 (fsi57_151 m38 k)) Hi57_151 k bodyi57_151 42 [.tmp 4])]
noncomputable def body57 : Code := match Try.f57.body with | some c => c | none => .skip
theorem ty57 : chkTypes Try.prog ts57 = true := by kernel_rfl
theorem ev57 (m38 : (List (ByteArray × (Int × Int × Unit) × Int × Int × Unit)) → Option (List (ByteArray × (Int × Int × Unit) × Int × Int × Unit))) (k : Nat) (x : ((.cons (.struct (.cons (.int .i64) (.cons (.int .i64) .nil))) (.cons (.slice (.struct (.cons .str (.cons (.struct (.cons (.int .i64) (.cons (.int .i64) .nil))) (.cons (.int .i64) (.cons (.int .i64) .nil)))))) (.cons .str .nil))) : Tys).den) : evFun (mkEnv ts57 (fs57 m38 k)) H57 k body57 72 [.tmp 6] (explodes (.cons (.struct (.cons (.int .i64) (.cons (.int .i64) .nil))) (.cons (.slice (.struct (.cons .str (.cons (.struct (.cons (.int .i64) (.cons (.int .i64) .nil))) (.cons (.int .i64) (.cons (.int .i64) .nil)))))) (.cons .str .nil))) x) [] (dec (.cons (.slice (.int .i64)) .nil)) = f57 m38 k x.1 x.2.1 x.2.2.1 := by kernel_rfl
/-! ### slices.Equal[[]int,int] -/
def f58  (k : Nat) (x0 : List Int) (x1 : List Int) : Option (Bool × Unit) :=
  bif (((List.length x0 : Nat) : Int) != ((List.length x1 : Nat) : Int)) then
    some (false, ())
  else
    Option.bind (α := (Bool × Unit) ⊕ ((Unit) × (Unit))) (iter (σ := (Int × Unit) × (Unit)) (τ := (Bool × Unit) ⊕ ((Unit) × (Unit))) k (fun y1 =>
        bif (decide (y1.1.1 < ((List.length x0 : Nat) : Int))) then
          bif (inR y1.1.1 ((List.length x0 : Nat) : Int)) then
            bif (inR y1.1.1 ((List.length x1 : Nat) : Int)) then
              bif ((rd (α := Int) (0 : Int) x0 y1.1.1) != (rd (α := Int) (0 : Int) x1 y1.1.1)) then
                some (.inr (.inl (false, ())))
              else
                some (.inl (((IntKind.i64.wrap (y1.1.1 + (1 : Int))), ()), ()))
            else
              none
          else
            none
        else
          some (.inr (.inr ((), ())))) (((0 : Int), ()), ())) fun r => match r with
    | .inl z => some z
    | .inr z2 =>
      some (true, ())
def H58 : Hints where
  loop := fun n => match n with
    | 0 => some ({ slots := [(13, (.int .i64))], objs := [], gone := [] }, 0, { slots := [], objs := [], gone := [] })
    | _ => none
  region := fun n => match n with
    | _ => none
  cond := fun n => match n with
    | _ => none
  block := fun n => match n with
    | _ => none
abbrev A58 : Tys := (.cons (.slice (.int .i64)) (.cons (.slice (.int .i64)) .nil))
def ts58 : List (Nat × TD) := [(3, (.data (.int .i64))), (4, (.data .bool)), (78, (.data (.slice (.int .i64))))]
noncomputable def fs58  : List (Nat × FSem) := []
noncomputable def body58 : Code := match Try.f58.body with | some c => c | none => .skip
theorem ty58 : chkTypes Try.prog ts58 = true := by kernel_rfl
theorem ev58  (k : Nat) (x : ((.cons (.slice (.int .i64)) (.cons (.slice (.int .i64)) .nil)) : Tys).den) : evFun (mkEnv ts58 (fs58 )) H58 k body58 26 [.tmp 4] (explodes (.cons (.slice (.int .i64)) (.cons (.slice (.int .i64)) .nil)) x) [] (dec (.cons .bool .nil)) = f58  k x.1 x.2.1 := by kernel_rfl
/-! ### slices.Equal[[]jitney/api.Window,jitney/api.Window] -/
def f59  (k : Nat) (x0 : List (Int × Int × Unit)) (x1 : List (Int × Int × Unit)) : Option (Bool × Unit) :=
  bif (((List.length x0 : Nat) : Int) != ((List.length x1 : Nat) : Int)) then
    some (false, ())
  else
    Option.bind (α := (Bool × Unit) ⊕ ((Unit) × (Unit))) (iter (σ := (Int × Unit) × (Unit)) (τ := (Bool × Unit) ⊕ ((Unit) × (Unit))) k (fun y1 =>
        bif (decide (y1.1.1 < ((List.length x0 : Nat) : Int))) then
          bif (inR y1.1.1 ((List.length x0 : Nat) : Int)) then
            bif (inR y1.1.1 ((List.length x1 : Nat) : Int)) then
              bif (!(((rd (α := (Int × Int × Unit)) ((0 : Int), (0 : Int), ()) x0 y1.1.1).1 == (rd (α := (Int × Int × Unit)) ((0 : Int), (0 : Int), ()) x1 y1.1.1).1) && (((rd (α := (Int × Int × Unit)) ((0 : Int), (0 : Int), ()) x0 y1.1.1).2.1 == (rd (α := (Int × Int × Unit)) ((0 : Int), (0 : Int), ()) x1 y1.1.1).2.1) && true))) then
                some (.inr (.inl (false, ())))
              else
                some (.inl (((IntKind.i64.wrap (y1.1.1 + (1 : Int))), ()), ()))
            else
              none
          else
            none
        else
          some (.inr (.inr ((), ())))) (((0 : Int), ()), ())) fun r => match r with
    | .inl z => some z
    | .inr z2 =>
      some (true, ())
def H59 : Hints where
  loop := fun n => match n with
    | 0 => some ({ slots := [(13, (.int .i64))], objs := [], gone := [] }, 0, { slots := [], objs := [], gone := [] })
    | _ => none
  region := fun n => match n with
    | _ => none
  cond := fun n => match n with
    | _ => none
  block := fun n => match n with
    | _ => none
abbrev A59 : Tys := (.cons (.slice (.struct (.cons (.int .i64) (.cons (.int .i64) .nil)))) (.cons (.slice (.struct (.cons (.int .i64) (.cons (.int .i64) .nil)))) .nil))
def ts59 : List (Nat × TD) := [(3, (.data (.int .i64))), (4, (.data .bool)), (61, (.data (.struct (.cons (.int .i64) (.cons (.int .i64) .nil))))), (73, (.data (.slice (.struct (.cons (.int .i64) (.cons (.int .i64) .nil))))))]
noncomputable def fs59  : List (Nat × FSem) := []
noncomputable def body59 : Code := match Try.f59.body with | some c => c | none => .skip
theorem ty59 : chkTypes Try.prog ts59 = true := by kernel_rfl
theorem ev59  (k : Nat) (x : ((.cons (.slice (.struct (.cons (.int .i64) (.cons (.int .i64) .nil)))) (.cons (.slice (.struct (.cons (.int .i64) (.cons (.int .i64) .nil)))) .nil)) : Tys).den) : evFun (mkEnv ts59 (fs59 )) H59 k body59 26 [.tmp 4] (explodes (.cons (.slice (.struct (.cons (.int .i64) (.cons (.int .i64) .nil)))) (.cons (.slice (.struct (.cons (.int .i64) (.cons (.int .i64) .nil)))) .nil)) x) [] (dec (.cons .bool .nil)) = f59  k x.1 x.2.1 := by kernel_rfl
/-! ### jitney/jitlaw2.ShiftsCovered -/
def f6 (g20 : (List Int) → (Int)) (g21 : Bool → Int → (Int)) (g24 : Option (Bool × Unit)) (g31 : ByteArray → (Bool)) (g38 : (List (ByteArray × (Int × Int × Unit) × Int × Int × Unit)) → Option ((List (ByteArray × (Int × Int × Unit) × Int × Int × Unit)) × Unit)) (g41 : (List (ByteArray × (Int × Int × Unit) × Int × Int × Unit)) → (Int)) (g45 : (List (Int × Int × Unit)) → Option (Int × Int × Unit)) (g46 : (List (Int × Int × Unit)) → Option ((List (Int × Int × Unit)) × Unit)) (g47 : (List (Int × Int × Unit)) → Option ((List Int) × Int × Unit)) (g48 : (List (Int × Int × Unit)) → (Int × Int × Unit) → Int → Option ((List (Int × Int × Unit)) × Int × Unit)) (g49 : (Int × Int × Unit) → (List (ByteArray × (Int × Int × Unit) × Int × Int × Unit)) → ByteArray → Option ((List Int) × Int × Unit)) (g50 : (List (Int × Int × Unit)) → (Int)) (g51 : (Int × Int × Unit) → (Int)) (g52 : (Int × Int × Unit) → (Int)) (g53 : (List (Int × Int × Unit)) → Option (Int × Unit)) (g54 : (List (Int × Int × Unit)) → Option (Int × Unit)) (g55 : (List (Int × Int × Unit)) → Option ((List Int) × Unit)) (g56 : (List (Int × Int × Unit)) → (Int × Int × Unit) → Int → Option ((List (Int × Int × Unit)) × Unit)) (g57 : (Int × Int × Unit) → (List (ByteArray × (Int × Int × Unit) × Int × Int × Unit)) → ByteArray → Option ((List Int) × Unit)) (g58 : (List Int) → (List Int) → (Bool)) (g59 : (List (Int × Int × Unit)) → (List (Int × Int × Unit)) → (Bool)) (k : Nat) (x0 : List (Int × Int × Unit)) (x1 : (Int × Int × Unit)) (x2 : Int) (x3 : List (ByteArray × (Int × Int × Unit) × Int × Int × Unit)) (x4 : (Int × Int × Unit)) (x5 : ByteArray) : Option (Bool × Unit) :=
  Option.bind (g46 x0) fun v1 =>
  Option.bind (g45 v1.1) fun v2 =>
  Option.bind (g46 x0) fun v3 =>
  Option.bind (g47 v3.1) fun v4 =>
  Option.bind (g46 x0) fun v5 =>
  Option.bind (g48 v5.1 x1 x2) fun v6 =>
  Option.bind (g38 x3) fun v7 =>
  Option.bind (g49 x4 v7.1 x5) fun v8 =>
  Option.bind (α := (Bool × Unit) ⊕ ((Int × Unit) × (Unit))) (
      bif (decide (x2 < (0 : Int))) then
        some (.inr (((g20 ([(g50 x0), (g51 x1), (g21 true (1 : Int))])), ()), ()))
      else
        some (.inr (((g20 ([(g50 x0), (g51 x1), (g21 (decide (x2 > (500 : Int))) (1 : Int))])), ()), ()))) fun r => match r with
  | .inl z => some z
  | .inr y9 =>
    Option.bind (g46 x0) fun v10 =>
    Option.bind (g53 v10.1) fun v11 =>
    bif (v11.1 != (g50 x0)) then
      some (false, ())
    else
      Option.bind (α := (Bool × Unit) ⊕ ((Int × (List Int) × Unit) × (Unit))) (
          bif ((g50 x0) == (0 : Int)) then
            Option.bind (g54 x0) fun v12 =>
            Option.bind (g55 x0) fun v13 =>
            some (.inr ((v12.1, v13.1, ()), ()))
          else
            some (.inr (((0 : Int), [], ()), ()))) fun r => match r with
      | .inl z => some z
      | .inr y14 =>
        Option.bind (α := (Bool × Unit) ⊕ (((List (Int × Int × Unit)) × Unit) × (Unit))) (
            bif (y9.1.1 == (0 : Int)) then
              Option.bind (g56 x0 x1 x2) fun v15 =>
              some (.inr ((v15.1, ()), ()))
            else
              some (.inr (([], ()), ()))) fun r => match r with
        | .inl z => some z
        | .inr y16 =>
          Option.bind (α := (Bool × Unit) ⊕ (((List Int) × Unit) × (Unit))) (
              bif ((g20 ([(g52 x4), (g41 x3), (g21 (!(g31 x5)) (5 : Int))])) == (0 : Int)) then
                Option.bind (g57 x4 x3 x5) fun v17 =>
                some (.inr ((v17.1, ()), ()))
              else
                some (.inr (([], ()), ()))) fun r => match r with
          | .inl z => some z
          | .inr y18 =>
            bif (v2.2.1 == (g50 x0)) then
              bif (v2.1 == y14.1.1) then
                bif (v4.2.1 == (g50 x0)) then
                  bif (g58 v4.1 y14.1.2.1) then
                    bif (v6.2.1 == y9.1.1) then
                      bif (g59 v6.1 y16.1.1) then
                        bif (v8.2.1 == (g20 ([(g52 x4), (g41 x3), (g21 (!(g31 x5)) (5 : Int))]))) then
                          bif (g58 v8.1 y18.1.1) then
                            Option.bind g24 fun v19 =>
                            some (v19.1, ())
                          else
                            some (false, ())
                        else
                          some (false, ())
                      else
                        some (false, ())
                    else
                      some (false, ())
                  else
                    some (false, ())
                else
                  some (false, ())
              else
                some (false, ())
            else
              some (false, ())
def H6 : Hints where
  loop := fun n => match n with
    | _ => none
  region := fun n => match n with
    | 6 => some { slots := [(22, (.int .i64))], objs := [], gone := [] }
    | _ => none
  cond := fun n => match n with
    | 86 => some { slots := [(24, (.int .i64)), (25, (.sl (.int .i64)))], objs := [], gone := [] }
    | 92 => some { slots := [(27, (.sl (.struct (.cons (.int .i64) (.cons (.int .i64) .nil)))))], objs := [], gone := [] }
    | 98 => some { slots := [(26, (.sl (.int .i64)))], objs := [], gone := [] }
    | _ => none
  block := fun n => match n with
    | _ => none
abbrev A6 : Tys := (.cons (.slice (.struct (.cons (.int .i64) (.cons (.int .i64) .nil)))) (.cons (.struct (.cons (.int .i64) (.cons (.int .i64) .nil))) (.cons (.int .i64) (.cons (.slice (.struct (.cons .str (.cons (.struct (.cons (.int .i64) (.cons (.int .i64) .nil))) (.cons (.int .i64) (.cons (.int .i64) .nil)))))) (.cons (.struct (.cons (.int .i64) (.cons (.int .i64) .nil))) (.cons .str .nil))))))
def ts6 : List (Nat × TD) := [(3, (.data (.int .i64))), (4, (.data .bool)), (9, (.data .str)), (28, (.data (.int .i64))), (56, (.data (.slice (.struct (.cons .str (.cons (.struct (.cons (.int .i64) (.cons (.int .i64) .nil))) (.cons (.int .i64) (.cons (.int .i64) .nil)))))))), (61, (.data (.struct (.cons (.int .i64) (.cons (.int .i64) .nil))))), (73, (.data (.slice (.struct (.cons (.int .i64) (.cons (.int .i64) .nil)))))), (75, (.data (.struct (.cons (.int .i64) (.cons (.int .i64) .nil))))), (184, (.data (.slice (.int .i64))))]
noncomputable def fs6 (g20 : (List Int) → (Int)) (g21 : Bool → Int → (Int)) (g24 : Option (Bool × Unit)) (g31 : ByteArray → (Bool)) (g38 : (List (ByteArray × (Int × Int × Unit) × Int × Int × Unit)) → Option ((List (ByteArray × (Int × Int × Unit) × Int × Int × Unit)) × Unit)) (g41 : (List (ByteArray × (Int × Int × Unit) × Int × Int × Unit)) → (Int)) (g45 : (List (Int × Int × Unit)) → Option (Int × Int × Unit)) (g46 : (List (Int × Int × Unit)) → Option ((List (Int × Int × Unit)) × Unit)) (g47 : (List (Int × Int × Unit)) → Option ((List Int) × Int × Unit)) (g48 : (List (Int × Int × Unit)) → (Int × Int × Unit) → Int → Option ((List (Int × Int × Unit)) × Int × Unit)) (g49 : (Int × Int × Unit) → (List (ByteArray × (Int × Int × Unit) × Int × Int × Unit)) → ByteArray → Option ((List Int) × Int × Unit)) (g50 : (List (Int × Int × Unit)) → (Int)) (g51 : (Int × Int × Unit) → (Int)) (g52 : (Int × Int × Unit) → (Int)) (g53 : (List (Int × Int × Unit)) → Option (Int × Unit)) (g54 : (List (Int × Int × Unit)) → Option (Int × Unit)) (g55 : (List (Int × Int × Unit)) → Option ((List Int) × Unit)) (g56 : (List (Int × Int × Unit)) → (Int × Int × Unit) → Int → Option ((List (Int × Int × Unit)) × Unit)) (g57 : (Int × Int × Unit) → (List (ByteArray × (Int × Int × Unit) × Int × Int × Unit)) → ByteArray → Option ((List Int) × Unit)) (g58 : (List Int) → (List Int) → (Bool)) (g59 : (List (Int × Int × Unit)) → (List (Int × Int × Unit)) → (Bool)) : List (Nat × FSem) := [(20, .fn (.cons (.slice (.int .i64)) .nil) (.cons (.int .i64) .nil) fun x => ((g20 x.1), ())), (21, .fn (.cons .bool (.cons (.int .i64) .nil)) (.cons (.int .i64) .nil) fun x => ((g21 x.1 x.2.1), ())), (24, .pfn .nil (.cons .bool .nil) fun x => g24), (31, .fn (.cons .str .nil) (.cons .bool .nil) fun x => ((g31 x.1), ())), (38, .pfn (.cons (.slice (.struct (.cons .str (.cons (.struct (.cons (.int .i64) (.cons (.int .i64) .nil))) (.cons (.int .i64) (.cons (.int .i64) .nil)))))) .nil) (.cons (.slice (.struct (.cons .str (.cons (.struct (.cons (.int .i64) (.cons (.int .i64) .nil))) (.cons (.int .i64) (.cons (.int .i64) .nil)))))) .nil) fun x => (g38 x.1)), (41, .fn (.cons (.slice (.struct (.cons .str (.cons (.struct (.cons (.int .i64) (.cons (.int .i64) .nil))) (.cons (.int .i64) (.cons (.int .i64) .nil)))))) .nil) (.cons (.int .i64) .nil) fun x => ((g41 x.1), ())), (45, .pfn (.cons (.slice (.struct (.cons (.int .i64) (.cons (.int .i64) .nil)))) .nil) (.cons (.int .i64) (.cons (.int .i64) .nil)) fun x => (g45 x.1)), (46, .pfn (.cons (.slice (.struct (.cons (.int .i64) (.cons (.int .i64) .nil)))) .nil) (.cons (.slice (.struct (.cons (.int .i64) (.cons (.int .i64) .nil)))) .nil) fun x => (g46 x.1)), (47, .pfn (.cons (.slice (.struct (.cons (.int .i64) (.cons (.int .i64) .nil)))) .nil) (.cons (.slice (.int .i64)) (.cons (.int .i64) .nil)) fun x => (g47 x.1)), (48, .pfn (.cons (.slice (.struct (.cons (.int .i64) (.cons (.int .i64) .nil)))) (.cons (.struct (.cons (.int .i64) (.cons (.int .i64) .nil))) (.cons (.int .i64) .nil))) (.cons (.slice (.struct (.cons (.int .i64) (.cons (.int .i64) .nil)))) (.cons (.int .i64) .nil)) fun x => (g48 x.1 x.2.1 x.2.2.1)), (49, .pfn (.cons (.struct (.cons (.int .i64) (.cons (.int .i64) .nil))) (.cons (.slice (.struct (.cons .str (.cons (.struct (.cons (.int .i64) (.cons (.int .i64) .nil))) (.cons (.int .i64) (.cons (.int .i64) .nil)))))) (.cons .str .nil))) (.cons (.slice (.int .i64)) (.cons (.int .i64) .nil)) fun x => (g49 x.1 x.2.1 x.2.2.1)), (50, .fn (.cons (.slice (.struct (.cons (.int .i64) (.cons (.int .i64) .nil)))) .nil) (.cons (.int .i64) .nil) fun x => ((g50 x.1), ())), (51, .fn (.cons (.struct (.cons (.int .i64) (.cons (.int .i64) .nil))) .nil) (.cons (.int .i64) .nil) fun x => ((g51 x.1), ())), (52, .fn (.cons (.struct (.cons (.int .i64) (.cons (.int .i64) .nil))) .nil) (.cons (.int .i64) .nil) fun x => ((g52 x.1), ())), (53, .pfn (.cons (.slice (.struct (.cons (.int .i64) (.cons (.int .i64) .nil)))) .nil) (.cons (.int .i64) .nil) fun x => (g53 x.1)), (54, .pfn (.cons (.slice (.struct (.cons (.int .i64) (.cons (.int .i64) .nil)))) .nil) (.cons (.int .i64) .nil) fun x => (g54 x.1)), (55, .pfn (.cons (.slice (.struct (.cons (.int .i64) (.cons (.int .i64) .nil)))) .nil) (.cons (.slice (.int .i64)) .nil) fun x => (g55 x.1)), (56, .pfn (.cons (.slice (.struct (.cons (.int .i64) (.cons (.int .i64) .nil)))) (.cons (.struct (.cons (.int .i64) (.cons (.int .i64) .nil))) (.cons (.int .i64) .nil))) (.cons (.slice (.struct (.cons (.int .i64) (.cons (.int .i64) .nil)))) .nil) fun x => (g56 x.1 x.2.1 x.2.2.1)), (57, .pfn (.cons (.struct (.cons (.int .i64) (.cons (.int .i64) .nil))) (.cons (.slice (.struct (.cons .str (.cons (.struct (.cons (.int .i64) (.cons (.int .i64) .nil))) (.cons (.int .i64) (.cons (.int .i64) .nil)))))) (.cons .str .nil))) (.cons (.slice (.int .i64)) .nil) fun x => (g57 x.1 x.2.1 x.2.2.1)), (58, .fn (.cons (.slice (.int .i64)) (.cons (.slice (.int .i64)) .nil)) (.cons .bool .nil) fun x => ((g58 x.1 x.2.1), ())), (59, .fn (.cons (.slice (.struct (.cons (.int .i64) (.cons (.int .i64) .nil)))) (.cons (.slice (.struct (.cons (.int .i64) (.cons (.int .i64) .nil)))) .nil)) (.cons .bool .nil) fun x => ((g59 x.1 x.2.1), ()))]
noncomputable def body6 : Code := match Try.f6.body with | some c => c | none => .skip
theorem ty6 : chkTypes Try.prog ts6 = true := by kernel_rfl
theorem ev6 (g20 : (List Int) → (Int)) (g21 : Bool → Int → (Int)) (g24 : Option (Bool × Unit)) (g31 : ByteArray → (Bool)) (g38 : (List (ByteArray × (Int × Int × Unit) × Int × Int × Unit)) → Option ((List (ByteArray × (Int × Int × Unit) × Int × Int × Unit)) × Unit)) (g41 : (List (ByteArray × (Int × Int × Unit) × Int × Int × Unit)) → (Int)) (g45 : (List (Int × Int × Unit)) → Option (Int × Int × Unit)) (g46 : (List (Int × Int × Unit)) → Option ((List (Int × Int × Unit)) × Unit)) (g47 : (List (Int × Int × Unit)) → Option ((List Int) × Int × Unit)) (g48 : (List (Int × Int × Unit)) → (Int × Int × Unit) → Int → Option ((List (Int × Int × Unit)) × Int × Unit)) (g49 : (Int × Int × Unit) → (List (ByteArray × (Int × Int × Unit) × Int × Int × Unit)) → ByteArray → Option ((List Int) × Int × Unit)) (g50 : (List (Int × Int × Unit)) → (Int)) (g51 : (Int × Int × Unit) → (Int)) (g52 : (Int × Int × Unit) → (Int)) (g53 : (List (Int × Int × Unit)) → Option (Int × Unit)) (g54 : (List (Int × Int × Unit)) → Option (Int × Unit)) (g55 : (List (Int × Int × Unit)) → Option ((List Int) × Unit)) (g56 : (List (Int × Int × Unit)) → (Int × Int × Unit) → Int → Option ((List (Int × Int × Unit)) × Unit)) (g57 : (Int × Int × Unit) → (List (ByteArray × (Int × Int × Unit) × Int × Int × Unit)) → ByteArray → Option ((List Int) × Unit)) (g58 : (List Int) → (List Int) → (Bool)) (g59 : (List (Int × Int × Unit)) → (List (Int × Int × Unit)) → (Bool)) (k : Nat) (x : ((.cons (.slice (.struct (.cons (.int .i64) (.cons (.int .i64) .nil)))) (.cons (.struct (.cons (.int .i64) (.cons (.int .i64) .nil))) (.cons (.int .i64) (.cons (.slice (.struct (.cons .str (.cons (.struct (.cons (.int .i64) (.cons (.int .i64) .nil))) (.cons (.int .i64) (.cons (.int .i64) .nil)))))) (.cons (.struct (.cons (.int .i64) (.cons (.int .i64) .nil))) (.cons .str .nil)))))) : Tys).den) : evFun (mkEnv ts6 (fs6 g20 g21 g24 g31 g38 g41 g45 g46 g47 g48 g49 g50 g51 g52 g53 g54 g55 g56 g57 g58 g59)) H6 k body6 144 [.tmp 12] (explodes (.cons (.slice (.struct (.cons (.int .i64) (.cons (.int .i64) .nil)))) (.cons (.struct (.cons (.int .i64) (.cons (.int .i64) .nil))) (.cons (.int .i64) (.cons (.slice (.struct (.cons .str (.cons (.struct (.cons (.int .i64) (.cons (.int .i64) .nil))) (.cons (.int .i64) (.cons (.int .i64) .nil)))))) (.cons (.struct (.cons (.int .i64) (.cons (.int .i64) .nil))) (.cons .str .nil)))))) x) [] (dec (.cons .bool .nil)) = f6 g20 g21 g24 g31 g38 g41 g45 g46 g47 g48 g49 g50 g51 g52 g53 g54 g55 g56 g57 g58 g59 k x.1 x.2.1 x.2.2.1 x.2.2.2.1 x.2.2.2.2.1 x.2.2.2.2.2.1 := by kernel_rfl
end Go.Vm
