/- The program's functions, as an own tool reads them off its form. -/
import Derived.Test.YtjkidhjkpkcnhaaGreatDoorVmK
import Derived.Test.YtjkidhjkpkcnhaaGreatDoorVmD
import Derived.Test.YtjkidhjkpkcnhaaGreatDoorVmQ
import Derived.Test.YtjkidhjkpkcnhaaGreatDoorProg
set_option maxRecDepth 100000
set_option linter.unusedVariables false
namespace Go.Vm
open Go.Proofs
abbrev VT0 : Type := (Int × Int × Unit)
abbrev VT1 : Type := (Int × Bool × Unit)
abbrev VT2 : Type := (ByteArray × Int × Unit)
abbrev VT3 : Type := (Int × Int × Int × Unit)
abbrev VT4 : Type := (VT0 × Unit)
abbrev VT5 : Type := (ByteArray × Int × Int × Unit)
abbrev VT6 : Type := (ByteArray × ByteArray × Unit)
abbrev VT7 : Type := (VT6 × Unit)
abbrev VT8 : Type := (ByteArray × Int × Int × Int × Int × Unit)
abbrev VT9 : Type := (ByteArray × ByteArray × Int × Int × Int × Unit)
abbrev VT10 : Type := (ByteArray × VT0 × Int × Int × Unit)
abbrev VT11 : Type := (Int × VT8 × Unit)
abbrev VT12 : Type := (VT8 × Int × Unit)
abbrev zVT1 : VT1 := ((0 : Int), false, ())
abbrev zVT0 : VT0 := ((0 : Int), (0 : Int), ())
abbrev zVT4 : VT4 := (zVT0, ())
abbrev zVT3 : VT3 := ((0 : Int), (0 : Int), (0 : Int), ())
abbrev zVT6 : VT6 := (ByteArray.empty, ByteArray.empty, ())
abbrev zVT5 : VT5 := (ByteArray.empty, (0 : Int), (0 : Int), ())
abbrev zVT8 : VT8 := (ByteArray.empty, (0 : Int), (0 : Int), (0 : Int), (0 : Int), ())
abbrev zVT10 : VT10 := (ByteArray.empty, zVT0, (0 : Int), (0 : Int), ())
abbrev zVT9 : VT9 := (ByteArray.empty, ByteArray.empty, (0 : Int), (0 : Int), (0 : Int), ())
abbrev VY0 : Ty := (.struct (.cons .str (.cons .str .nil)))
abbrev VY1 : Ty := (.struct (.cons (.int .i64) (.cons (.int .i64) .nil)))
abbrev VY2 : Ty := (.struct (.cons .str (.cons (.int .i64) (.cons (.int .i64) .nil))))
abbrev VY3 : Ty := (.struct (.cons (.int .i64) (.cons (.int .i64) (.cons (.int .i64) .nil))))
abbrev VY4 : Ty := (.struct (.cons .str (.cons .str (.cons (.int .i64) (.cons (.int .i64) (.cons (.int .i64) .nil))))))
abbrev VY5 : Ty := (.struct (.cons .str (.cons (.int .i64) (.cons (.int .i64) (.cons (.int .i64) (.cons (.int .i64) .nil))))))
abbrev VY6 : Ty := (.struct (.cons .str (.cons VY1 (.cons (.int .i64) (.cons (.int .i64) .nil)))))
theorem mixedOK : Tryz.prog.follows .mixedOrders = true := by kernel_rfl
/-! ### jitney/jitlaw2.errs -/
def f18  (k : Nat) (x0 : List Int) : Option (Int × Unit) :=
  Option.bind (α := (Int × Unit) ⊕ ((Unit) × (Unit))) (iter (σ := (Int × Unit) × (Unit)) (τ := (Int × Unit) ⊕ ((Unit) × (Unit))) k (fun y1 =>
      bif (decide (y1.1.1 < ((List.length x0 : Nat) : Int))) then
        bif (inR y1.1.1 ((List.length x0 : Nat) : Int)) then
          bif ((rd (α := Int) (0 : Int) x0 y1.1.1) != (0 : Int)) then
            some (.inr (.inl ((rd (α := Int) (0 : Int) x0 y1.1.1), ())))
          else
            some (.inl (((IntKind.i64.wrap (y1.1.1 + (1 : Int))), ()), ()))
        else
          none
      else
        some (.inr (.inr ((), ())))) (((0 : Int), ()), ())) fun r => match r with
  | .inl z => some z
  | .inr z2 =>
    some ((0 : Int), ())
def H18 : Hints where
  loop := fun n => match n with
    | 0 => some ({ slots := [(7, (.int .i64))], objs := [], gone := [] }, 0, { slots := [], objs := [], gone := [] })
    | _ => none
  region := fun n => match n with
    | _ => none
  cond := fun n => match n with
    | _ => none
  block := fun n => match n with
    | _ => none
abbrev A18 : Tys := (.cons (.slice (.int .i64)) .nil)
def ts18 : List (Nat × TD) := [(3, (.data (.int .i64))), (32, (.data (.int .i64))), (128, (.data (.slice (.int .i64))))]
noncomputable def fs18  : List (Nat × FSem) := []
noncomputable def body18 : Code := match Tryz.f18.body with | some c => c | none => .skip
theorem ty18 : chkTypes Tryz.prog ts18 = true := by kernel_rfl
theorem ev18  (k : Nat) (x : ((.cons (.slice (.int .i64)) .nil) : Tys).den) : evFun (mkEnv ts18 (fs18 )) H18 k body18 15 [.tmp 2] (explodes (.cons (.slice (.int .i64)) .nil) x) [] (dec (.cons (.int .i64) .nil)) = f18  k x.1 := by kernel_rfl
/-! ### jitney/base.First -/
def f69  (k : Nat) (x0 : List Int) : Option (Int × Unit) :=
  Option.bind (α := (Int × Unit) ⊕ ((Unit) × (Unit))) (iter (σ := (Int × Unit) × (Unit)) (τ := (Int × Unit) ⊕ ((Unit) × (Unit))) k (fun y1 =>
      bif (decide (y1.1.1 < ((List.length x0 : Nat) : Int))) then
        bif (inR y1.1.1 ((List.length x0 : Nat) : Int)) then
          bif ((rd (α := Int) (0 : Int) x0 y1.1.1) != (0 : Int)) then
            some (.inr (.inl ((rd (α := Int) (0 : Int) x0 y1.1.1), ())))
          else
            some (.inl (((IntKind.i64.wrap (y1.1.1 + (1 : Int))), ()), ()))
        else
          none
      else
        some (.inr (.inr ((), ())))) (((0 : Int), ()), ())) fun r => match r with
  | .inl z => some z
  | .inr z2 =>
    some ((0 : Int), ())
def H69 : Hints where
  loop := fun n => match n with
    | 0 => some ({ slots := [(7, (.int .i64))], objs := [], gone := [] }, 0, { slots := [], objs := [], gone := [] })
    | _ => none
  region := fun n => match n with
    | _ => none
  cond := fun n => match n with
    | _ => none
  block := fun n => match n with
    | _ => none
abbrev A69 : Tys := (.cons (.slice (.int .i64)) .nil)
def ts69 : List (Nat × TD) := [(3, (.data (.int .i64))), (32, (.data (.int .i64))), (128, (.data (.slice (.int .i64))))]
noncomputable def fs69  : List (Nat × FSem) := []
noncomputable def body69 : Code := match Tryz.f69.body with | some c => c | none => .skip
theorem ty69 : chkTypes Tryz.prog ts69 = true := by kernel_rfl
theorem ev69  (k : Nat) (x : ((.cons (.slice (.int .i64)) .nil) : Tys).den) : evFun (mkEnv ts69 (fs69 )) H69 k body69 15 [.tmp 2] (explodes (.cons (.slice (.int .i64)) .nil) x) [] (dec (.cons (.int .i64) .nil)) = f69  k x.1 := by kernel_rfl
/-! ### jitney/base.Out -/
def f74  (k : Nat) (x0 : Int) (x1 : Int) (x2 : Int) : Option (Bool × Unit) :=
  bif (decide (x0 < x1)) then
    some (true, ())
  else
    some ((decide (x0 > x2)), ())
def H74 : Hints where
  loop := fun n => match n with
    | _ => none
  region := fun n => match n with
    | _ => none
  cond := fun n => match n with
    | _ => none
  block := fun n => match n with
    | _ => none
abbrev A74 : Tys := (.cons (.int .i64) (.cons (.int .i64) (.cons (.int .i64) .nil)))
def ts74 : List (Nat × TD) := [(3, (.data (.int .i64))), (4, (.data .bool))]
noncomputable def fs74  : List (Nat × FSem) := []
noncomputable def body74 : Code := match Tryz.f74.body with | some c => c | none => .skip
theorem ty74 : chkTypes Tryz.prog ts74 = true := by kernel_rfl
theorem ev74  (k : Nat) (x : ((.cons (.int .i64) (.cons (.int .i64) (.cons (.int .i64) .nil))) : Tys).den) : evFun (mkEnv ts74 (fs74 )) H74 k body74 15 [.tmp 6] (explodes (.cons (.int .i64) (.cons (.int .i64) (.cons (.int .i64) .nil))) x) [] (dec (.cons .bool .nil)) = f74  k x.1 x.2.1 x.2.2.1 := by kernel_rfl
/-! ### jitney/base.Moment -/
def f73 (g74 : Int → Int → Int → (Bool)) (k : Nat) (x0 : Int) : Option (Bool × Unit) :=
  some ((!(g74 x0 (0 : Int) (345686399999 : Int))), ())
def H73 : Hints where
  loop := fun n => match n with
    | _ => none
  region := fun n => match n with
    | _ => none
  cond := fun n => match n with
    | _ => none
  block := fun n => match n with
    | _ => none
abbrev A73 : Tys := (.cons (.int .i64) .nil)
def ts73 : List (Nat × TD) := [(3, (.data (.int .i64))), (4, (.data .bool))]
noncomputable def fs73 (g74 : Int → Int → Int → (Bool)) : List (Nat × FSem) := [(74, .fn (.cons (.int .i64) (.cons (.int .i64) (.cons (.int .i64) .nil))) (.cons .bool .nil) fun x => ((g74 x.1 x.2.1 x.2.2.1), ()))]
noncomputable def body73 : Code := match Tryz.f73.body with | some c => c | none => .skip
theorem ty73 : chkTypes Tryz.prog ts73 = true := by kernel_rfl
theorem ev73 (g74 : Int → Int → Int → (Bool)) (k : Nat) (x : ((.cons (.int .i64) .nil) : Tys).den) : evFun (mkEnv ts73 (fs73 g74)) H73 k body73 6 [.tmp 2] (explodes (.cons (.int .i64) .nil) x) [] (dec (.cons .bool .nil)) = f73 g74 k x.1 := by kernel_rfl
/-! ### jitney/base.Key -/
def f75  (k : Nat) (x0 : ByteArray) : Option (Bool × Unit) :=
  bif (sEq x0 (ByteArray.mk #[])) then
    some (false, ())
  else
    bif (decide (((ByteArray.size x0 : Nat) : Int) > (40 : Int))) then
      some (false, ())
    else
      bif (inR (0 : Int) ((ByteArray.size x0 : Nat) : Int)) then
        bif (decide ((bt x0 (0 : Int)) < (97 : Int))) then
          some (false, ())
        else
          bif (inR (0 : Int) ((ByteArray.size x0 : Nat) : Int)) then
            bif (decide ((bt x0 (0 : Int)) > (122 : Int))) then
              some (false, ())
            else
              Option.bind (α := (Bool × Unit) ⊕ ((Unit) × (Unit))) (iter (σ := (Int × Unit) × (Unit)) (τ := (Bool × Unit) ⊕ ((Unit) × (Unit))) k (fun y1 =>
                  bif (decide (y1.1.1 < ((ByteArray.size x0 : Nat) : Int))) then
                    bif (inR y1.1.1 ((ByteArray.size x0 : Nat) : Int)) then
                      bif (decide ((bt x0 y1.1.1) ≥ (97 : Int))) then
                        bif (decide ((bt x0 y1.1.1) ≤ (122 : Int))) then
                          some (.inl (((IntKind.i64.wrap (y1.1.1 + (1 : Int))), ()), ()))
                        else
                          bif (decide ((bt x0 y1.1.1) ≥ (48 : Int))) then
                            bif (decide ((bt x0 y1.1.1) ≤ (57 : Int))) then
                              some (.inl (((IntKind.i64.wrap (y1.1.1 + (1 : Int))), ()), ()))
                            else
                              bif ((bt x0 y1.1.1) == (45 : Int)) then
                                some (.inl (((IntKind.i64.wrap (y1.1.1 + (1 : Int))), ()), ()))
                              else
                                bif (!((bt x0 y1.1.1) == (95 : Int))) then
                                  some (.inr (.inl (false, ())))
                                else
                                  some (.inl (((IntKind.i64.wrap (y1.1.1 + (1 : Int))), ()), ()))
                          else
                            bif ((bt x0 y1.1.1) == (45 : Int)) then
                              some (.inl (((IntKind.i64.wrap (y1.1.1 + (1 : Int))), ()), ()))
                            else
                              bif (!((bt x0 y1.1.1) == (95 : Int))) then
                                some (.inr (.inl (false, ())))
                              else
                                some (.inl (((IntKind.i64.wrap (y1.1.1 + (1 : Int))), ()), ()))
                      else
                        bif (decide ((bt x0 y1.1.1) ≥ (48 : Int))) then
                          bif (decide ((bt x0 y1.1.1) ≤ (57 : Int))) then
                            some (.inl (((IntKind.i64.wrap (y1.1.1 + (1 : Int))), ()), ()))
                          else
                            bif ((bt x0 y1.1.1) == (45 : Int)) then
                              some (.inl (((IntKind.i64.wrap (y1.1.1 + (1 : Int))), ()), ()))
                            else
                              bif (!((bt x0 y1.1.1) == (95 : Int))) then
                                some (.inr (.inl (false, ())))
                              else
                                some (.inl (((IntKind.i64.wrap (y1.1.1 + (1 : Int))), ()), ()))
                        else
                          bif ((bt x0 y1.1.1) == (45 : Int)) then
                            some (.inl (((IntKind.i64.wrap (y1.1.1 + (1 : Int))), ()), ()))
                          else
                            bif (!((bt x0 y1.1.1) == (95 : Int))) then
                              some (.inr (.inl (false, ())))
                            else
                              some (.inl (((IntKind.i64.wrap (y1.1.1 + (1 : Int))), ()), ()))
                    else
                      none
                  else
                    some (.inr (.inr ((), ())))) (((0 : Int), ()), ())) fun r => match r with
              | .inl z => some z
              | .inr z2 =>
                some (true, ())
          else
            none
      else
        none
def H75 : Hints where
  loop := fun n => match n with
    | 0 => some ({ slots := [(24, (.int .i64))], objs := [], gone := [] }, 0, { slots := [], objs := [], gone := [] })
    | _ => none
  region := fun n => match n with
    | _ => none
  cond := fun n => match n with
    | _ => none
  block := fun n => match n with
    | _ => none
abbrev A75 : Tys := (.cons .str .nil)
def ts75 : List (Nat × TD) := [(3, (.data (.int .i64))), (4, (.data .bool)), (5, (.data (.int .u8))), (9, (.data .str))]
noncomputable def fs75  : List (Nat × FSem) := []
noncomputable def body75 : Code := match Tryz.f75.body with | some c => c | none => .skip
theorem ty75 : chkTypes Tryz.prog ts75 = true := by kernel_rfl
theorem ev75  (k : Nat) (x : ((.cons .str .nil) : Tys).den) : evFun (mkEnv ts75 (fs75 )) H75 k body75 54 [.tmp 2] (explodes (.cons .str .nil) x) [] (dec (.cons .bool .nil)) = f75  k x.1 := by kernel_rfl
/-! ### jitney/fleet.servicesFault -/
def f84 (g74 : Int → Int → Int → (Bool)) (g75 : ByteArray → (Bool)) (k : Nat) (x0 : List VT5) : Option (Int × Unit) :=
  bif (decide (((List.length x0 : Nat) : Int) > (50 : Int))) then
    some ((2 : Int), ())
  else
    Option.bind (α := (Int × Unit) ⊕ ((Unit) × (Unit))) (iter (σ := (Int × Unit) × (Unit)) (τ := (Int × Unit) ⊕ ((Unit) × (Unit))) k (fun y1 =>
        bif (decide (y1.1.1 < ((List.length x0 : Nat) : Int))) then
          bif (inR y1.1.1 ((List.length x0 : Nat) : Int)) then
            bif (!(g75 ((rd (α := VT5) zVT5 x0 y1.1.1).1))) then
              some (.inr (.inl ((5 : Int), ())))
            else
              Option.bind (α := (((Int × Unit) × (Unit)) ⊕ ((Int × Unit) ⊕ ((Unit) × (Unit)))) ⊕ ((Bool × Unit) × (Unit))) (
                  bif (decide (y1.1.1 > (0 : Int))) then
                    bif (inR (IntKind.i64.wrap (y1.1.1 - (1 : Int))) ((List.length x0 : Nat) : Int)) then
                      some (.inr ((((sLt ((rd (α := VT5) zVT5 x0 y1.1.1).1) ((rd (α := VT5) zVT5 x0 (IntKind.i64.wrap (y1.1.1 - (1 : Int)))).1)) || (sEq ((rd (α := VT5) zVT5 x0 y1.1.1).1) ((rd (α := VT5) zVT5 x0 (IntKind.i64.wrap (y1.1.1 - (1 : Int)))).1))), ()), ()))
                    else
                      none
                  else
                    some (.inr ((false, ()), ()))) fun r => match r with
              | .inl z => some z
              | .inr y2 =>
                bif y2.1.1 then
                  some (.inr (.inl ((7 : Int), ())))
                else
                  bif (g74 ((rd (α := VT5) zVT5 x0 y1.1.1).2.1) (0 : Int) (1000000000 : Int)) then
                    some (.inr (.inl ((1 : Int), ())))
                  else
                    bif (g74 ((rd (α := VT5) zVT5 x0 y1.1.1).2.2.1) (0 : Int) (4000 : Int)) then
                      some (.inr (.inl ((1 : Int), ())))
                    else
                      bif ((rd (α := VT5) zVT5 x0 y1.1.1).2.1 == (0 : Int)) then
                        bif ((rd (α := VT5) zVT5 x0 y1.1.1).2.2.1 == (0 : Int)) then
                          some (.inr (.inl ((3 : Int), ())))
                        else
                          some (.inl (((IntKind.i64.wrap (y1.1.1 + (1 : Int))), ()), ()))
                      else
                        some (.inl (((IntKind.i64.wrap (y1.1.1 + (1 : Int))), ()), ()))
          else
            none
        else
          some (.inr (.inr ((), ())))) (((0 : Int), ()), ())) fun r => match r with
    | .inl z => some z
    | .inr z3 =>
      some ((0 : Int), ())
def H84 : Hints where
  loop := fun n => match n with
    | 0 => some ({ slots := [(10, (.int .i64))], objs := [], gone := [] }, 0, { slots := [], objs := [], gone := [] })
    | _ => none
  region := fun n => match n with
    | 8 => some { slots := [(20, .bool)], objs := [], gone := [] }
    | _ => none
  cond := fun n => match n with
    | _ => none
  block := fun n => match n with
    | _ => none
abbrev A84 : Tys := (.cons (.slice VY2) .nil)
def ts84 : List (Nat × TD) := [(3, (.data (.int .i64))), (9, (.data .str)), (32, (.data (.int .i64))), (56, (.data (.slice VY2))), (65, (.data VY2))]
noncomputable def fs84 (g74 : Int → Int → Int → (Bool)) (g75 : ByteArray → (Bool)) : List (Nat × FSem) := [(74, .fn (.cons (.int .i64) (.cons (.int .i64) (.cons (.int .i64) .nil))) (.cons .bool .nil) fun x => ((g74 x.1 x.2.1 x.2.2.1), ())), (75, .fn (.cons .str .nil) (.cons .bool .nil) fun x => ((g75 x.1), ()))]
noncomputable def body84 : Code := match Tryz.f84.body with | some c => c | none => .skip
theorem ty84 : chkTypes Tryz.prog ts84 = true := by kernel_rfl
theorem ev84 (g74 : Int → Int → Int → (Bool)) (g75 : ByteArray → (Bool)) (k : Nat) (x : ((.cons (.slice VY2) .nil) : Tys).den) : evFun (mkEnv ts84 (fs84 g74 g75)) H84 k body84 53 [.tmp 2] (explodes (.cons (.slice VY2) .nil) x) [] (dec (.cons (.int .i64) .nil)) = f84 g74 g75 k x.1 := by kernel_rfl
/-! ### jitney/fleet.CheckTrips -/
def f85 (g74 : Int → Int → Int → (Bool)) (g75 : ByteArray → (Bool)) (k : Nat) (x0 : List VT10) : Option (Int × Unit) :=
  bif (decide (((List.length x0 : Nat) : Int) > (1000 : Int))) then
    some ((2 : Int), ())
  else
    Option.bind (α := (Int × Unit) ⊕ ((Unit) × (Unit))) (iter (σ := (Int × Unit) × (Unit)) (τ := (Int × Unit) ⊕ ((Unit) × (Unit))) k (fun y1 =>
        bif (decide (y1.1.1 < ((List.length x0 : Nat) : Int))) then
          bif (inR y1.1.1 ((List.length x0 : Nat) : Int)) then
            bif (!(g75 ((rd (α := VT10) zVT10 x0 y1.1.1).1))) then
              some (.inr (.inl ((5 : Int), ())))
            else
              bif (decide ((rd (α := VT10) zVT10 x0 y1.1.1).2.1.1 < (0 : Int))) then
                some (.inr (.inl ((1 : Int), ())))
              else
                bif (decide ((rd (α := VT10) zVT10 x0 y1.1.1).2.1.1 ≥ (rd (α := VT10) zVT10 x0 y1.1.1).2.1.2.1)) then
                  some (.inr (.inl ((1 : Int), ())))
                else
                  bif (decide ((rd (α := VT10) zVT10 x0 y1.1.1).2.1.2.1 > (345686400000 : Int))) then
                    some (.inr (.inl ((1 : Int), ())))
                  else
                    bif (g74 ((rd (α := VT10) zVT10 x0 y1.1.1).2.2.1) (0 : Int) (1000000000 : Int)) then
                      some (.inr (.inl ((1 : Int), ())))
                    else
                      bif (g74 ((rd (α := VT10) zVT10 x0 y1.1.1).2.2.2.1) (0 : Int) (1000000 : Int)) then
                        some (.inr (.inl ((1 : Int), ())))
                      else
                        bif (y1.1.1 == (0 : Int)) then
                          some (.inl (((IntKind.i64.wrap (y1.1.1 + (1 : Int))), ()), ()))
                        else
                          bif (inR (IntKind.i64.wrap (y1.1.1 - (1 : Int))) ((List.length x0 : Nat) : Int)) then
                            bif (sLt ((rd (α := VT10) zVT10 x0 y1.1.1).1) ((rd (α := VT10) zVT10 x0 (IntKind.i64.wrap (y1.1.1 - (1 : Int)))).1)) then
                              some (.inr (.inl ((7 : Int), ())))
                            else
                              bif (sEq ((rd (α := VT10) zVT10 x0 y1.1.1).1) ((rd (α := VT10) zVT10 x0 (IntKind.i64.wrap (y1.1.1 - (1 : Int)))).1)) then
                                bif (decide ((rd (α := VT10) zVT10 x0 y1.1.1).2.1.1 ≤ (rd (α := VT10) zVT10 x0 (IntKind.i64.wrap (y1.1.1 - (1 : Int)))).2.1.1)) then
                                  some (.inr (.inl ((7 : Int), ())))
                                else
                                  bif (decide ((rd (α := VT10) zVT10 x0 y1.1.1).2.1.1 < (rd (α := VT10) zVT10 x0 (IntKind.i64.wrap (y1.1.1 - (1 : Int)))).2.1.2.1)) then
                                    some (.inr (.inl ((7 : Int), ())))
                                  else
                                    some (.inl (((IntKind.i64.wrap (y1.1.1 + (1 : Int))), ()), ()))
                              else
                                some (.inl (((IntKind.i64.wrap (y1.1.1 + (1 : Int))), ()), ()))
                          else
                            none
          else
            none
        else
          some (.inr (.inr ((), ())))) (((0 : Int), ()), ())) fun r => match r with
    | .inl z => some z
    | .inr z2 =>
      some ((0 : Int), ())
def H85 : Hints where
  loop := fun n => match n with
    | 0 => some ({ slots := [(11, (.int .i64))], objs := [], gone := [] }, 0, { slots := [], objs := [], gone := [] })
    | _ => none
  region := fun n => match n with
    | _ => none
  cond := fun n => match n with
    | _ => none
  block := fun n => match n with
    | _ => none
abbrev A85 : Tys := (.cons (.slice VY6) .nil)
def ts85 : List (Nat × TD) := [(3, (.data (.int .i64))), (9, (.data .str)), (30, (.data VY1)), (32, (.data (.int .i64))), (57, (.data (.slice VY6))), (68, (.data VY6))]
noncomputable def fs85 (g74 : Int → Int → Int → (Bool)) (g75 : ByteArray → (Bool)) : List (Nat × FSem) := [(74, .fn (.cons (.int .i64) (.cons (.int .i64) (.cons (.int .i64) .nil))) (.cons .bool .nil) fun x => ((g74 x.1 x.2.1 x.2.2.1), ())), (75, .fn (.cons .str .nil) (.cons .bool .nil) fun x => ((g75 x.1), ()))]
noncomputable def body85 : Code := match Tryz.f85.body with | some c => c | none => .skip
theorem ty85 : chkTypes Tryz.prog ts85 = true := by kernel_rfl
theorem ev85 (g74 : Int → Int → Int → (Bool)) (g75 : ByteArray → (Bool)) (k : Nat) (x : ((.cons (.slice VY6) .nil) : Tys).den) : evFun (mkEnv ts85 (fs85 g74 g75)) H85 k body85 89 [.tmp 2] (explodes (.cons (.slice VY6) .nil) x) [] (dec (.cons (.int .i64) .nil)) = f85 g74 g75 k x.1 := by kernel_rfl
/-! ### jitney/fleet.own -/
def f86  (k : Nat) (x0 : List VT10) (x1 : ByteArray) : Option ((List VT10) × Unit) :=
  Option.bind (α := ((List VT10) × Unit) ⊕ (((List VT10) × Unit) × (Unit))) (iter (σ := ((List VT10) × Int × Unit) × (Unit)) (τ := ((List VT10) × Unit) ⊕ (((List VT10) × Unit) × (Unit))) k (fun y1 =>
      bif (decide (y1.1.2.1 < ((List.length x0 : Nat) : Int))) then
        bif (inR y1.1.2.1 ((List.length x0 : Nat) : Int)) then
          bif (sEq ((rd (α := VT10) zVT10 x0 y1.1.2.1).1) x1) then
            bif decide (List.length y1.1.1 + List.length ([(rd (α := VT10) zVT10 x0 y1.1.2.1)]) ≤ 4294967296) then
              some (.inl (((y1.1.1 ++ [(rd (α := VT10) zVT10 x0 y1.1.2.1)]), (IntKind.i64.wrap (y1.1.2.1 + (1 : Int))), ()), ()))
            else
              none
          else
            some (.inl ((y1.1.1, (IntKind.i64.wrap (y1.1.2.1 + (1 : Int))), ()), ()))
        else
          none
      else
        some (.inr (.inr ((y1.1.1, ()), ())))) (([], (0 : Int), ()), ())) fun r => match r with
  | .inl z => some z
  | .inr z2 =>
    some (z2.1.1, ())
def H86 : Hints where
  loop := fun n => match n with
    | 0 => some ({ slots := [(5, (.row VY6)), (10, (.int .i64))], objs := [], gone := [] }, 0, { slots := [(5, (.row VY6))], objs := [], gone := [] })
    | _ => none
  region := fun n => match n with
    | _ => none
  cond := fun n => match n with
    | _ => none
  block := fun n => match n with
    | _ => none
abbrev A86 : Tys := (.cons (.slice VY6) (.cons .str .nil))
def ts86 : List (Nat × TD) := [(3, (.data (.int .i64))), (9, (.data .str)), (57, (.data (.slice VY6))), (68, (.data VY6))]
noncomputable def fs86  : List (Nat × FSem) := []
noncomputable def body86 : Code := match Tryz.f86.body with | some c => c | none => .skip
theorem ty86 : chkTypes Tryz.prog ts86 = true := by kernel_rfl
theorem ev86  (k : Nat) (x : ((.cons (.slice VY6) (.cons .str .nil)) : Tys).den) : evFun (mkEnv ts86 (fs86 )) H86 k body86 24 [.tmp 4] (explodes (.cons (.slice VY6) (.cons .str .nil)) x) [] (dec (.cons (.slice VY6) .nil)) = f86  k x.1 x.2.1 := by kernel_rfl
/-! ### jitney/fleet.Due -/
def f26 (g69 : (List Int) → (Int)) (g73 : Int → (Bool)) (g74 : Int → Int → Int → (Bool)) (g75 : ByteArray → (Bool)) (g84 : (List VT5) → (Int)) (g85 : (List VT10) → (Int)) (g86 : (List VT10) → ByteArray → Option ((List VT10) × Unit)) (k : Nat) (x0 : List VT5) (x1 : List VT10) (x2 : ByteArray) (x3 : Int) (x4 : Int) : Option ((List ByteArray) × Int × Unit) :=
  bif ((g69 ([(g84 x0), (g85 x1)])) != (0 : Int)) then
    some ([], (g69 ([(g84 x0), (g85 x1)])), ())
  else
    bif (!(g75 x2)) then
      some ([], (5 : Int), ())
    else
      bif (g74 x3 (0 : Int) x4) then
        some ([], (1 : Int), ())
      else
        bif (!(g73 x4)) then
          some ([], (1 : Int), ())
        else
          Option.bind (g86 x1 x2) fun v1 =>
          Option.bind (α := ((List ByteArray) × Int × Unit) ⊕ ((Int × Unit) × (Unit))) (iter (σ := VT0 × (Unit)) (τ := ((List ByteArray) × Int × Unit) ⊕ ((Int × Unit) × (Unit))) k (fun y2 =>
              bif (decide (y2.1.2.1 < ((List.length v1.1 : Nat) : Int))) then
                bif (inR y2.1.2.1 ((List.length v1.1 : Nat) : Int)) then
                  bif (decide ((rd (α := VT10) zVT10 v1.1 y2.1.2.1).2.1.2.1 > x3)) then
                    bif (decide ((rd (α := VT10) zVT10 v1.1 y2.1.2.1).2.1.2.1 ≤ x4)) then
                      some (.inl (((IntKind.i64.wrap (y2.1.1 + (rd (α := VT10) zVT10 v1.1 y2.1.2.1).2.2.1)), (IntKind.i64.wrap (y2.1.2.1 + (1 : Int))), ()), ()))
                    else
                      some (.inl ((y2.1.1, (IntKind.i64.wrap (y2.1.2.1 + (1 : Int))), ()), ()))
                  else
                    some (.inl ((y2.1.1, (IntKind.i64.wrap (y2.1.2.1 + (1 : Int))), ()), ()))
                else
                  none
              else
                some (.inr (.inr ((y2.1.1, ()), ())))) zVT4) fun r => match r with
          | .inl z => some z
          | .inr z3 =>
            Option.bind (α := ((List ByteArray) × Int × Unit) ⊕ (((List ByteArray) × Unit) × (Unit))) (iter (σ := ((List ByteArray) × Int × Unit) × (Unit)) (τ := ((List ByteArray) × Int × Unit) ⊕ (((List ByteArray) × Unit) × (Unit))) k (fun y4 =>
                bif (decide (y4.1.2.1 < ((List.length x0 : Nat) : Int))) then
                  bif (inR y4.1.2.1 ((List.length x0 : Nat) : Int)) then
                    Option.bind (α := ((((List ByteArray) × Int × Unit) × (Unit)) ⊕ (((List ByteArray) × Int × Unit) ⊕ (((List ByteArray) × Unit) × (Unit)))) ⊕ ((Bool × Unit) × (Unit))) (
                        bif (decide ((rd (α := VT5) zVT5 x0 y4.1.2.1).2.1 > (0 : Int))) then
                          bif (decide (z3.1.1 ≥ (rd (α := VT5) zVT5 x0 y4.1.2.1).2.1)) then
                            some (.inr ((true, ()), ()))
                          else
                            bif (decide ((rd (α := VT5) zVT5 x0 y4.1.2.1).2.2.1 > (0 : Int))) then
                              some (.inr (((decide ((IntKind.i64.wrap (x4 - x3)) ≥ (IntKind.i64.wrap ((rd (α := VT5) zVT5 x0 y4.1.2.1).2.2.1 * (86400000 : Int))))), ()), ()))
                            else
                              some (.inr ((false, ()), ()))
                        else
                          bif (decide ((rd (α := VT5) zVT5 x0 y4.1.2.1).2.2.1 > (0 : Int))) then
                            some (.inr (((decide ((IntKind.i64.wrap (x4 - x3)) ≥ (IntKind.i64.wrap ((rd (α := VT5) zVT5 x0 y4.1.2.1).2.2.1 * (86400000 : Int))))), ()), ()))
                          else
                            some (.inr ((false, ()), ()))) fun r => match r with
                    | .inl z => some z
                    | .inr y5 =>
                      bif y5.1.1 then
                        bif decide (List.length y4.1.1 + List.length ([(rd (α := VT5) zVT5 x0 y4.1.2.1).1]) ≤ 4294967296) then
                          some (.inl (((y4.1.1 ++ [(rd (α := VT5) zVT5 x0 y4.1.2.1).1]), (IntKind.i64.wrap (y4.1.2.1 + (1 : Int))), ()), ()))
                        else
                          none
                      else
                        some (.inl ((y4.1.1, (IntKind.i64.wrap (y4.1.2.1 + (1 : Int))), ()), ()))
                  else
                    none
                else
                  some (.inr (.inr ((y4.1.1, ()), ())))) (([], (0 : Int), ()), ())) fun r => match r with
            | .inl z => some z
            | .inr z6 =>
              some (z6.1.1, (0 : Int), ())
def H26 : Hints where
  loop := fun n => match n with
    | 1 => some ({ slots := [(13, (.int .i64)), (45, (.int .i64))], objs := [], gone := [] }, 1, { slots := [(13, (.int .i64))], objs := [], gone := [] })
    | 3 => some ({ slots := [(16, (.row .str)), (68, (.int .i64))], objs := [], gone := [] }, 3, { slots := [(16, (.row .str))], objs := [], gone := [] })
    | _ => none
  region := fun n => match n with
    | 19 => some { slots := [(94, .bool)], objs := [], gone := [] }
    | _ => none
  cond := fun n => match n with
    | _ => none
  block := fun n => match n with
    | _ => none
abbrev A26 : Tys := (.cons (.slice VY2) (.cons (.slice VY6) (.cons .str (.cons (.int .i64) (.cons (.int .i64) .nil)))))
def ts26 : List (Nat × TD) := [(3, (.data (.int .i64))), (9, (.data .str)), (30, (.data VY1)), (32, (.data (.int .i64))), (56, (.data (.slice VY2))), (57, (.data (.slice VY6))), (60, (.data (.slice .str))), (65, (.data VY2)), (68, (.data VY6)), (128, (.data (.slice (.int .i64))))]
noncomputable def fs26 (g69 : (List Int) → (Int)) (g73 : Int → (Bool)) (g74 : Int → Int → Int → (Bool)) (g75 : ByteArray → (Bool)) (g84 : (List VT5) → (Int)) (g85 : (List VT10) → (Int)) (g86 : (List VT10) → ByteArray → Option ((List VT10) × Unit)) : List (Nat × FSem) := [(69, .fn (.cons (.slice (.int .i64)) .nil) (.cons (.int .i64) .nil) fun x => ((g69 x.1), ())), (73, .fn (.cons (.int .i64) .nil) (.cons .bool .nil) fun x => ((g73 x.1), ())), (74, .fn (.cons (.int .i64) (.cons (.int .i64) (.cons (.int .i64) .nil))) (.cons .bool .nil) fun x => ((g74 x.1 x.2.1 x.2.2.1), ())), (75, .fn (.cons .str .nil) (.cons .bool .nil) fun x => ((g75 x.1), ())), (84, .fn (.cons (.slice VY2) .nil) (.cons (.int .i64) .nil) fun x => ((g84 x.1), ())), (85, .fn (.cons (.slice VY6) .nil) (.cons (.int .i64) .nil) fun x => ((g85 x.1), ())), (86, .pfn (.cons (.slice VY6) (.cons .str .nil)) (.cons (.slice VY6) .nil) fun x => (g86 x.1 x.2.1))]
noncomputable def body26 : Code := match Tryz.f26.body with | some c => c | none => .skip
theorem ty26 : chkTypes Tryz.prog ts26 = true := by kernel_rfl
theorem ev26 (g69 : (List Int) → (Int)) (g73 : Int → (Bool)) (g74 : Int → Int → Int → (Bool)) (g75 : ByteArray → (Bool)) (g84 : (List VT5) → (Int)) (g85 : (List VT10) → (Int)) (g86 : (List VT10) → ByteArray → Option ((List VT10) × Unit)) (k : Nat) (x : ((.cons (.slice VY2) (.cons (.slice VY6) (.cons .str (.cons (.int .i64) (.cons (.int .i64) .nil))))) : Tys).den) : evFun (mkEnv ts26 (fs26 g69 g73 g74 g75 g84 g85 g86)) H26 k body26 102 [.tmp 10, .tmp 11] (explodes (.cons (.slice VY2) (.cons (.slice VY6) (.cons .str (.cons (.int .i64) (.cons (.int .i64) .nil))))) x) [] (dec (.cons (.slice .str) (.cons (.int .i64) .nil))) = f26 g69 g73 g74 g75 g84 g85 g86 k x.1 x.2.1 x.2.2.1 x.2.2.2.1 x.2.2.2.2.1 := by kernel_rfl
/-! ### slices.Clone[[]jitney/api.Service,jitney/api.Service] -/
def f27  (k : Nat) (x0 : List VT5) : Option ((List VT5) × Unit) :=
  bif Nat.ble (List.length x0) 0 then
    none
  else
    bif decide (List.length ([] : List VT5) + List.length x0 ≤ 4294967296) then
      some ((([] : List VT5) ++ x0), ())
    else
      none
def H27 : Hints where
  loop := fun n => match n with
    | _ => none
  region := fun n => match n with
    | _ => none
  cond := fun n => match n with
    | _ => none
  block := fun n => match n with
    | _ => none
def ts27 : List (Nat × TD) := [(56, (.data (.slice VY2)))]
noncomputable def fs27  : List (Nat × FSem) := []
noncomputable def body27 : Code := match Tryz.f27.body with | some c => c | none => .skip
theorem ty27 : chkTypes Tryz.prog ts27 = true := by kernel_rfl
theorem ev27  (k : Nat) (x : ((.cons (.slice VY2) .nil) : Tys).den) : evFun (mkEnv ts27 (fs27 )) H27 k body27 8 [.tmp 2] (explodes (.cons (.slice VY2) .nil) x) [] (dec (.cons (.slice VY2) .nil)) = f27  k x.1 := by kernel_rfl
def s27 (l : List VT5) : Option ((List VT5) × Unit) := if l.length ≤ 4294967296 then some (l, ()) else none
/-! ### slices.Clone[[]jitney/api.Run,jitney/api.Run] -/
def f28  (k : Nat) (x0 : List VT10) : Option ((List VT10) × Unit) :=
  bif Nat.ble (List.length x0) 0 then
    none
  else
    bif decide (List.length ([] : List VT10) + List.length x0 ≤ 4294967296) then
      some ((([] : List VT10) ++ x0), ())
    else
      none
def H28 : Hints where
  loop := fun n => match n with
    | _ => none
  region := fun n => match n with
    | _ => none
  cond := fun n => match n with
    | _ => none
  block := fun n => match n with
    | _ => none
def ts28 : List (Nat × TD) := [(57, (.data (.slice VY6)))]
noncomputable def fs28  : List (Nat × FSem) := []
noncomputable def body28 : Code := match Tryz.f28.body with | some c => c | none => .skip
theorem ty28 : chkTypes Tryz.prog ts28 = true := by kernel_rfl
theorem ev28  (k : Nat) (x : ((.cons (.slice VY6) .nil) : Tys).den) : evFun (mkEnv ts28 (fs28 )) H28 k body28 8 [.tmp 2] (explodes (.cons (.slice VY6) .nil) x) [] (dec (.cons (.slice VY6) .nil)) = f28  k x.1 := by kernel_rfl
def s28 (l : List VT10) : Option ((List VT10) × Unit) := if l.length ≤ 4294967296 then some (l, ()) else none
/-! ### jitney/fleet.CheckVehicles -/
def f87 (g74 : Int → Int → Int → (Bool)) (g75 : ByteArray → (Bool)) (k : Nat) (x0 : List VT8) : Option (Int × Unit) :=
  bif (decide (((List.length x0 : Nat) : Int) > (200 : Int))) then
    some ((2 : Int), ())
  else
    Option.bind (α := (Int × Unit) ⊕ ((Unit) × (Unit))) (iter (σ := (Int × Unit) × (Unit)) (τ := (Int × Unit) ⊕ ((Unit) × (Unit))) k (fun y1 =>
        bif (decide (y1.1.1 < ((List.length x0 : Nat) : Int))) then
          bif (inR y1.1.1 ((List.length x0 : Nat) : Int)) then
            bif (!(g75 ((rd (α := VT8) zVT8 x0 y1.1.1).1))) then
              some (.inr (.inl ((5 : Int), ())))
            else
              Option.bind (α := (((Int × Unit) × (Unit)) ⊕ ((Int × Unit) ⊕ ((Unit) × (Unit)))) ⊕ ((Bool × Unit) × (Unit))) (
                  bif (decide (y1.1.1 > (0 : Int))) then
                    bif (inR (IntKind.i64.wrap (y1.1.1 - (1 : Int))) ((List.length x0 : Nat) : Int)) then
                      some (.inr ((((sLt ((rd (α := VT8) zVT8 x0 y1.1.1).1) ((rd (α := VT8) zVT8 x0 (IntKind.i64.wrap (y1.1.1 - (1 : Int)))).1)) || (sEq ((rd (α := VT8) zVT8 x0 y1.1.1).1) ((rd (α := VT8) zVT8 x0 (IntKind.i64.wrap (y1.1.1 - (1 : Int)))).1))), ()), ()))
                    else
                      none
                  else
                    some (.inr ((false, ()), ()))) fun r => match r with
              | .inl z => some z
              | .inr y2 =>
                bif y2.1.1 then
                  some (.inr (.inl ((7 : Int), ())))
                else
                  bif (g74 ((rd (α := VT8) zVT8 x0 y1.1.1).2.1) (1 : Int) (1000000 : Int)) then
                    some (.inr (.inl ((1 : Int), ())))
                  else
                    bif (g74 ((rd (α := VT8) zVT8 x0 y1.1.1).2.2.1) (0 : Int) ((rd (α := VT8) zVT8 x0 y1.1.1).2.1)) then
                      some (.inr (.inl ((1 : Int), ())))
                    else
                      bif (g74 ((rd (α := VT8) zVT8 x0 y1.1.1).2.2.2.1) (1 : Int) (1000000 : Int)) then
                        some (.inr (.inl ((1 : Int), ())))
                      else
                        bif (g74 ((rd (α := VT8) zVT8 x0 y1.1.1).2.2.2.2.1) (0 : Int) (1000 : Int)) then
                          some (.inr (.inl ((1 : Int), ())))
                        else
                          some (.inl (((IntKind.i64.wrap (y1.1.1 + (1 : Int))), ()), ()))
          else
            none
        else
          some (.inr (.inr ((), ())))) (((0 : Int), ()), ())) fun r => match r with
    | .inl z => some z
    | .inr z3 =>
      some ((0 : Int), ())
def H87 : Hints where
  loop := fun n => match n with
    | 0 => some ({ slots := [(10, (.int .i64))], objs := [], gone := [] }, 0, { slots := [], objs := [], gone := [] })
    | _ => none
  region := fun n => match n with
    | 8 => some { slots := [(20, .bool)], objs := [], gone := [] }
    | _ => none
  cond := fun n => match n with
    | _ => none
  block := fun n => match n with
    | _ => none
abbrev A87 : Tys := (.cons (.slice VY5) .nil)
def ts87 : List (Nat × TD) := [(3, (.data (.int .i64))), (9, (.data .str)), (32, (.data (.int .i64))), (55, (.data (.slice VY5))), (72, (.data VY5))]
noncomputable def fs87 (g74 : Int → Int → Int → (Bool)) (g75 : ByteArray → (Bool)) : List (Nat × FSem) := [(74, .fn (.cons (.int .i64) (.cons (.int .i64) (.cons (.int .i64) .nil))) (.cons .bool .nil) fun x => ((g74 x.1 x.2.1 x.2.2.1), ())), (75, .fn (.cons .str .nil) (.cons .bool .nil) fun x => ((g75 x.1), ()))]
noncomputable def body87 : Code := match Tryz.f87.body with | some c => c | none => .skip
theorem ty87 : chkTypes Tryz.prog ts87 = true := by kernel_rfl
theorem ev87 (g74 : Int → Int → Int → (Bool)) (g75 : ByteArray → (Bool)) (k : Nat) (x : ((.cons (.slice VY5) .nil) : Tys).den) : evFun (mkEnv ts87 (fs87 g74 g75)) H87 k body87 56 [.tmp 2] (explodes (.cons (.slice VY5) .nil) x) [] (dec (.cons (.int .i64) .nil)) = f87 g74 g75 k x.1 := by kernel_rfl
/-! ### jitney/fleet.chargedFault -/
def f88 (g74 : Int → Int → Int → (Bool)) (g75 : ByteArray → (Bool)) (k : Nat) (x0 : List VT9) : Option (Int × Unit) :=
  bif (decide (((List.length x0 : Nat) : Int) > (1000 : Int))) then
    some ((2 : Int), ())
  else
    Option.bind (α := (Int × Unit) ⊕ ((Unit) × (Unit))) (iter (σ := (Int × Unit) × (Unit)) (τ := (Int × Unit) ⊕ ((Unit) × (Unit))) k (fun y1 =>
        bif (decide (y1.1.1 < ((List.length x0 : Nat) : Int))) then
          bif (inR y1.1.1 ((List.length x0 : Nat) : Int)) then
            bif (!(g75 ((rd (α := VT9) zVT9 x0 y1.1.1).1))) then
              some (.inr (.inl ((5 : Int), ())))
            else
              bif (!(g75 ((rd (α := VT9) zVT9 x0 y1.1.1).2.1))) then
                some (.inr (.inl ((5 : Int), ())))
              else
                Option.bind (α := (((Int × Unit) × (Unit)) ⊕ ((Int × Unit) ⊕ ((Unit) × (Unit)))) ⊕ ((Bool × Unit) × (Unit))) (
                    bif ((rd (α := VT9) zVT9 x0 y1.1.1).2.2.1 != (-1 : Int)) then
                      bif (g74 ((rd (α := VT9) zVT9 x0 y1.1.1).2.2.1) (0 : Int) ((rd (α := VT9) zVT9 x0 y1.1.1).2.2.2.1)) then
                        some (.inr ((true, ()), ()))
                      else
                        some (.inr (((decide ((rd (α := VT9) zVT9 x0 y1.1.1).2.2.2.1 > (345686400000 : Int))), ()), ()))
                    else
                      bif ((rd (α := VT9) zVT9 x0 y1.1.1).2.2.2.1 != (-1 : Int)) then
                        bif (g74 ((rd (α := VT9) zVT9 x0 y1.1.1).2.2.1) (0 : Int) ((rd (α := VT9) zVT9 x0 y1.1.1).2.2.2.1)) then
                          some (.inr ((true, ()), ()))
                        else
                          some (.inr (((decide ((rd (α := VT9) zVT9 x0 y1.1.1).2.2.2.1 > (345686400000 : Int))), ()), ()))
                      else
                        some (.inr ((false, ()), ()))) fun r => match r with
                | .inl z => some z
                | .inr y2 =>
                  bif y2.1.1 then
                    some (.inr (.inl ((1 : Int), ())))
                  else
                    bif (g74 ((rd (α := VT9) zVT9 x0 y1.1.1).2.2.2.2.1) (0 : Int) (1000000 : Int)) then
                      some (.inr (.inl ((1 : Int), ())))
                    else
                      some (.inl (((IntKind.i64.wrap (y1.1.1 + (1 : Int))), ()), ()))
          else
            none
        else
          some (.inr (.inr ((), ())))) (((0 : Int), ()), ())) fun r => match r with
    | .inl z => some z
    | .inr z3 =>
      some ((0 : Int), ())
def H88 : Hints where
  loop := fun n => match n with
    | 0 => some ({ slots := [(10, (.int .i64))], objs := [], gone := [] }, 0, { slots := [], objs := [], gone := [] })
    | _ => none
  region := fun n => match n with
    | 8 => some { slots := [(25, .bool)], objs := [], gone := [] }
    | _ => none
  cond := fun n => match n with
    | _ => none
  block := fun n => match n with
    | _ => none
abbrev A88 : Tys := (.cons (.slice VY4) .nil)
def ts88 : List (Nat × TD) := [(3, (.data (.int .i64))), (9, (.data .str)), (32, (.data (.int .i64))), (58, (.data (.slice VY4))), (75, (.data VY4))]
noncomputable def fs88 (g74 : Int → Int → Int → (Bool)) (g75 : ByteArray → (Bool)) : List (Nat × FSem) := [(74, .fn (.cons (.int .i64) (.cons (.int .i64) (.cons (.int .i64) .nil))) (.cons .bool .nil) fun x => ((g74 x.1 x.2.1 x.2.2.1), ())), (75, .fn (.cons .str .nil) (.cons .bool .nil) fun x => ((g75 x.1), ()))]
noncomputable def body88 : Code := match Tryz.f88.body with | some c => c | none => .skip
theorem ty88 : chkTypes Tryz.prog ts88 = true := by kernel_rfl
theorem ev88 (g74 : Int → Int → Int → (Bool)) (g75 : ByteArray → (Bool)) (k : Nat) (x : ((.cons (.slice VY4) .nil) : Tys).den) : evFun (mkEnv ts88 (fs88 g74 g75)) H88 k body88 51 [.tmp 2] (explodes (.cons (.slice VY4) .nil) x) [] (dec (.cons (.int .i64) .nil)) = f88 g74 g75 k x.1 := by kernel_rfl
/-! ### jitney/fleet.busy -/
def f92  (k : Nat) (x0 : ByteArray) (x1 : List VT10) (x2 : List VT9) (x3 : Int) : Option (Bool × Unit) :=
  Option.bind (α := (Bool × Unit) ⊕ ((Unit) × VT2)) (iter (σ := (Int × Unit) × VT2) (τ := (Bool × Unit) ⊕ ((Unit) × VT2)) k (fun y1 =>
      bif (decide (y1.1.1 < ((List.length x1 : Nat) : Int))) then
        bif (inR y1.1.1 ((List.length x1 : Nat) : Int)) then
          bif (sEq ((rd (α := VT10) zVT10 x1 y1.1.1).1) y1.2.1) then
            bif (decide ((rd (α := VT10) zVT10 x1 y1.1.1).2.1.1 ≤ y1.2.2.1)) then
              bif (decide (y1.2.2.1 < (rd (α := VT10) zVT10 x1 y1.1.1).2.1.2.1)) then
                Option.map (fun z => .inr (.inl z)) (
                  bif (decide (y1.1.1 ≥ (0 : Int))) then
                    some (true, ())
                  else
                    Option.bind (α := (Bool × Unit) ⊕ ((Unit) × VT2)) (iter (σ := (Int × Unit) × VT2) (τ := (Bool × Unit) ⊕ ((Unit) × VT2)) k (fun y2 =>
                        bif (decide (y2.1.1 < ((List.length x2 : Nat) : Int))) then
                          bif (inR y2.1.1 ((List.length x2 : Nat) : Int)) then
                            bif (sEq ((rd (α := VT9) zVT9 x2 y2.1.1).1) y2.2.1) then
                              bif (decide ((rd (α := VT9) zVT9 x2 y2.1.1).2.2.1 ≤ y2.2.2.1)) then
                                bif (decide (y2.2.2.1 < (rd (α := VT9) zVT9 x2 y2.1.1).2.2.2.1)) then
                                  some (.inr (.inl ((decide (y2.1.1 ≥ (0 : Int))), ())))
                                else
                                  some (.inl (((IntKind.i64.wrap (y2.1.1 + (1 : Int))), ()), (y2.2.1, y2.2.2.1, ())))
                              else
                                some (.inl (((IntKind.i64.wrap (y2.1.1 + (1 : Int))), ()), (y2.2.1, y2.2.2.1, ())))
                            else
                              some (.inl (((IntKind.i64.wrap (y2.1.1 + (1 : Int))), ()), (y2.2.1, y2.2.2.1, ())))
                          else
                            none
                        else
                          some (.inr (.inr ((), (y2.2.1, y2.2.2.1, ()))))) (((0 : Int), ()), (y1.2.1, y1.2.2.1, ()))) fun r => match r with
                    | .inl z => some z
                    | .inr z3 =>
                      some (false, ()))
              else
                some (.inl (((IntKind.i64.wrap (y1.1.1 + (1 : Int))), ()), (y1.2.1, y1.2.2.1, ())))
            else
              some (.inl (((IntKind.i64.wrap (y1.1.1 + (1 : Int))), ()), (y1.2.1, y1.2.2.1, ())))
          else
            some (.inl (((IntKind.i64.wrap (y1.1.1 + (1 : Int))), ()), (y1.2.1, y1.2.2.1, ())))
        else
          none
      else
        some (.inr (.inr ((), (y1.2.1, y1.2.2.1, ()))))) (((0 : Int), ()), (x0, x3, ()))) fun r => match r with
  | .inl z => some z
  | .inr z4 =>
    Option.bind (α := (Bool × Unit) ⊕ ((Unit) × VT2)) (iter (σ := (Int × Unit) × VT2) (τ := (Bool × Unit) ⊕ ((Unit) × VT2)) k (fun y5 =>
        bif (decide (y5.1.1 < ((List.length x2 : Nat) : Int))) then
          bif (inR y5.1.1 ((List.length x2 : Nat) : Int)) then
            bif (sEq ((rd (α := VT9) zVT9 x2 y5.1.1).1) y5.2.1) then
              bif (decide ((rd (α := VT9) zVT9 x2 y5.1.1).2.2.1 ≤ y5.2.2.1)) then
                bif (decide (y5.2.2.1 < (rd (α := VT9) zVT9 x2 y5.1.1).2.2.2.1)) then
                  some (.inr (.inl ((decide (y5.1.1 ≥ (0 : Int))), ())))
                else
                  some (.inl (((IntKind.i64.wrap (y5.1.1 + (1 : Int))), ()), (y5.2.1, y5.2.2.1, ())))
              else
                some (.inl (((IntKind.i64.wrap (y5.1.1 + (1 : Int))), ()), (y5.2.1, y5.2.2.1, ())))
            else
              some (.inl (((IntKind.i64.wrap (y5.1.1 + (1 : Int))), ()), (y5.2.1, y5.2.2.1, ())))
          else
            none
        else
          some (.inr (.inr ((), (y5.2.1, y5.2.2.1, ()))))) (((0 : Int), ()), (z4.2.1, z4.2.2.1, ()))) fun r => match r with
    | .inl z => some z
    | .inr z6 =>
      some (false, ())
def H92 : Hints where
  loop := fun n => match n with
    | _ => none
  region := fun n => match n with
    | _ => none
  cond := fun n => match n with
    | _ => none
  block := fun n => match n with
    | _ => none
def Hi92_141 : Hints where
  loop := fun n => match n with
    | _ => none
  region := fun n => match n with
    | _ => none
  cond := fun n => match n with
    | _ => none
  block := fun n => match n with
    | _ => none
def tsi92_141 : List (Nat × TD) := [(3, (.data (.int .i64))), (9, (.data .str)), (30, (.data VY1)), (68, (.data VY6))]
noncomputable def bodyi92_141 : Code := match Tryz.f141.body with | some c => c | none => .skip
noncomputable def fsi92_141  (k : Nat) : List (Nat × FSem) := []
theorem tyi92_141 : chkTypes Tryz.prog tsi92_141 = true := by kernel_rfl
def Hi92_149 : Hints where
  loop := fun n => match n with
    | 0 => some ({ slots := [(8, (.int .i64))], objs := [(0, (.box (.data .str) .str)), (1, (.box (.data (.int .i64)) (.int .i64)))], gone := [] }, 0, { slots := [], objs := [(0, (.box (.data .str) .str)), (1, (.box (.data (.int .i64)) (.int .i64)))], gone := [] })
    | _ => none
  region := fun n => match n with
    | _ => none
  cond := fun n => match n with
    | _ => none
  block := fun n => match n with
    | _ => none
def tsi92_149 : List (Nat × TD) := [(3, (.data (.int .i64))), (57, (.data (.slice VY6))), (68, (.data VY6))]
noncomputable def bodyi92_149 : Code := match Tryz.f149.body with | some c => c | none => .skip
noncomputable def fsi92_149  (k : Nat) : List (Nat × FSem) := [(141, .ev (mkEnv tsi92_141 (fsi92_141  k)) Hi92_141 k bodyi92_141 23 [.tmp 4])]
theorem tyi92_149 : chkTypes Tryz.prog tsi92_149 = true := by kernel_rfl
def Hi92_99 : Hints where
  loop := fun n => match n with
    | _ => none
  region := fun n => match n with
    | _ => none
  cond := fun n => match n with
    | _ => none
  block := fun n => match n with
    | _ => none
def tsi92_99 : List (Nat × TD) := [(3, (.data (.int .i64)))]
noncomputable def bodyi92_99 : Code := match Tryz.f99.body with | some c => c | none => .skip
noncomputable def fsi92_99  (k : Nat) : List (Nat × FSem) := [(149, .ev (mkEnv tsi92_149 (fsi92_149  k)) Hi92_149 k bodyi92_149 19 [.tmp 4])]
theorem tyi92_99 : chkTypes Tryz.prog tsi92_99 = true := by kernel_rfl
def Hi92_142 : Hints where
  loop := fun n => match n with
    | _ => none
  region := fun n => match n with
    | _ => none
  cond := fun n => match n with
    | _ => none
  block := fun n => match n with
    | _ => none
def tsi92_142 : List (Nat × TD) := [(3, (.data (.int .i64))), (9, (.data .str)), (75, (.data VY4))]
noncomputable def bodyi92_142 : Code := match Tryz.f142.body with | some c => c | none => .skip
noncomputable def fsi92_142  (k : Nat) : List (Nat × FSem) := []
theorem tyi92_142 : chkTypes Tryz.prog tsi92_142 = true := by kernel_rfl
def Hi92_150 : Hints where
  loop := fun n => match n with
    | 0 => some ({ slots := [(8, (.int .i64))], objs := [(0, (.box (.data .str) .str)), (1, (.box (.data (.int .i64)) (.int .i64)))], gone := [] }, 0, { slots := [], objs := [(0, (.box (.data .str) .str)), (1, (.box (.data (.int .i64)) (.int .i64)))], gone := [] })
    | _ => none
  region := fun n => match n with
    | _ => none
  cond := fun n => match n with
    | _ => none
  block := fun n => match n with
    | _ => none
def tsi92_150 : List (Nat × TD) := [(3, (.data (.int .i64))), (58, (.data (.slice VY4))), (75, (.data VY4))]
noncomputable def bodyi92_150 : Code := match Tryz.f150.body with | some c => c | none => .skip
noncomputable def fsi92_150  (k : Nat) : List (Nat × FSem) := [(142, .ev (mkEnv tsi92_142 (fsi92_142  k)) Hi92_142 k bodyi92_142 21 [.tmp 4])]
theorem tyi92_150 : chkTypes Tryz.prog tsi92_150 = true := by kernel_rfl
def Hi92_101 : Hints where
  loop := fun n => match n with
    | _ => none
  region := fun n => match n with
    | _ => none
  cond := fun n => match n with
    | _ => none
  block := fun n => match n with
    | _ => none
def tsi92_101 : List (Nat × TD) := [(3, (.data (.int .i64)))]
noncomputable def bodyi92_101 : Code := match Tryz.f101.body with | some c => c | none => .skip
noncomputable def fsi92_101  (k : Nat) : List (Nat × FSem) := [(150, .ev (mkEnv tsi92_150 (fsi92_150  k)) Hi92_150 k bodyi92_150 19 [.tmp 4])]
theorem tyi92_101 : chkTypes Tryz.prog tsi92_101 = true := by kernel_rfl
abbrev A92 : Tys := (.cons .str (.cons (.slice VY6) (.cons (.slice VY4) (.cons (.int .i64) .nil))))
def ts92 : List (Nat × TD) := [(3, (.data (.int .i64))), (4, (.data .bool)), (9, (.data .str)), (57, (.data (.slice VY6))), (58, (.data (.slice VY4)))]
noncomputable def fs92  (k : Nat) : List (Nat × FSem) := [(99, .ev (mkEnv tsi92_99 (fsi92_99  k)) Hi92_99 k bodyi92_99 9 [.tmp 4]), (101, .ev (mkEnv tsi92_101 (fsi92_101  k)) Hi92_101 k bodyi92_101 9 [.tmp 4])]
noncomputable def body92 : Code := match Tryz.f92.body with | some c => c | none => .skip
theorem ty92 : chkTypes Tryz.prog ts92 = true := by kernel_rfl
theorem ev92  (k : Nat) (x : ((.cons .str (.cons (.slice VY6) (.cons (.slice VY4) (.cons (.int .i64) .nil)))) : Tys).den) : evFun (mkEnv ts92 (fs92  k)) H92 k body92 17 [.tmp 8] (explodes (.cons .str (.cons (.slice VY6) (.cons (.slice VY4) (.cons (.int .i64) .nil)))) x) [] (dec (.cons .bool .nil)) = f92  k x.1 x.2.1 x.2.2.1 x.2.2.2.1 := by kernel_rfl
/-! ### cmp.Or[int] -/
def f66  (k : Nat) (x0 : List Int) : Option (Int × Unit) :=
  Option.bind (α := (Int × Unit) ⊕ ((Unit) × (Unit))) (iter (σ := (Int × Unit) × (Unit)) (τ := (Int × Unit) ⊕ ((Unit) × (Unit))) k (fun y1 =>
      bif (decide (y1.1.1 < ((List.length x0 : Nat) : Int))) then
        bif (inR y1.1.1 ((List.length x0 : Nat) : Int)) then
          bif ((rd (α := Int) (0 : Int) x0 y1.1.1) != (0 : Int)) then
            some (.inr (.inl ((rd (α := Int) (0 : Int) x0 y1.1.1), ())))
          else
            some (.inl (((IntKind.i64.wrap (y1.1.1 + (1 : Int))), ()), ()))
        else
          none
      else
        some (.inr (.inr ((), ())))) (((0 : Int), ()), ())) fun r => match r with
  | .inl z => some z
  | .inr z2 =>
    some ((0 : Int), ())
def H66 : Hints where
  loop := fun n => match n with
    | 0 => some ({ slots := [(8, (.int .i64))], objs := [], gone := [] }, 0, { slots := [], objs := [], gone := [] })
    | _ => none
  region := fun n => match n with
    | _ => none
  cond := fun n => match n with
    | _ => none
  block := fun n => match n with
    | _ => none
abbrev A66 : Tys := (.cons (.slice (.int .i64)) .nil)
def ts66 : List (Nat × TD) := [(3, (.data (.int .i64))), (31, (.data (.slice (.int .i64))))]
noncomputable def fs66  : List (Nat × FSem) := []
noncomputable def body66 : Code := match Tryz.f66.body with | some c => c | none => .skip
theorem ty66 : chkTypes Tryz.prog ts66 = true := by kernel_rfl
theorem ev66  (k : Nat) (x : ((.cons (.slice (.int .i64)) .nil) : Tys).den) : evFun (mkEnv ts66 (fs66 )) H66 k body66 18 [.tmp 2] (explodes (.cons (.slice (.int .i64)) .nil) x) [] (dec (.cons (.int .i64) .nil)) = f66  k x.1 := by kernel_rfl
/-! ### cmp.isNaN[int] -/
def f132  (k : Nat) (x0 : Int) : Option (Bool × Unit) :=
  some ((x0 != x0), ())
def H132 : Hints where
  loop := fun n => match n with
    | _ => none
  region := fun n => match n with
    | _ => none
  cond := fun n => match n with
    | _ => none
  block := fun n => match n with
    | _ => none
abbrev A132 : Tys := (.cons (.int .i64) .nil)
def ts132 : List (Nat × TD) := [(3, (.data (.int .i64))), (4, (.data .bool))]
noncomputable def fs132  : List (Nat × FSem) := []
noncomputable def body132 : Code := match Tryz.f132.body with | some c => c | none => .skip
theorem ty132 : chkTypes Tryz.prog ts132 = true := by kernel_rfl
theorem ev132  (k : Nat) (x : ((.cons (.int .i64) .nil) : Tys).den) : evFun (mkEnv ts132 (fs132 )) H132 k body132 6 [.tmp 2] (explodes (.cons (.int .i64) .nil) x) [] (dec (.cons .bool .nil)) = f132  k x.1 := by kernel_rfl
/-! ### cmp.Compare[int] -/
def f67 (g132 : Int → (Bool)) (k : Nat) (x0 : Int) (x1 : Int) : Option (Int × Unit) :=
  bif (g132 x0) then
    bif (g132 x1) then
      some ((0 : Int), ())
    else
      some ((-1 : Int), ())
  else
    bif (g132 x1) then
      some ((1 : Int), ())
    else
      bif (decide (x0 < x1)) then
        some ((-1 : Int), ())
      else
        bif (decide (x0 > x1)) then
          some ((1 : Int), ())
        else
          some ((0 : Int), ())
def H67 : Hints where
  loop := fun n => match n with
    | _ => none
  region := fun n => match n with
    | _ => none
  cond := fun n => match n with
    | _ => none
  block := fun n => match n with
    | _ => none
abbrev A67 : Tys := (.cons (.int .i64) (.cons (.int .i64) .nil))
def ts67 : List (Nat × TD) := [(3, (.data (.int .i64)))]
noncomputable def fs67 (g132 : Int → (Bool)) : List (Nat × FSem) := [(132, .fn (.cons (.int .i64) .nil) (.cons .bool .nil) fun x => ((g132 x.1), ()))]
noncomputable def body67 : Code := match Tryz.f67.body with | some c => c | none => .skip
theorem ty67 : chkTypes Tryz.prog ts67 = true := by kernel_rfl
theorem ev67 (g132 : Int → (Bool)) (k : Nat) (x : ((.cons (.int .i64) (.cons (.int .i64) .nil)) : Tys).den) : evFun (mkEnv ts67 (fs67 g132)) H67 k body67 20 [.tmp 4] (explodes (.cons (.int .i64) (.cons (.int .i64) .nil)) x) [] (dec (.cons (.int .i64) .nil)) = f67 g132 k x.1 x.2.1 := by kernel_rfl
/-! ### jitney/fleet.turns$1 -/
def f213 (g66 : (List Int) → (Int)) (g67 : Int → Int → (Int)) (k : Nat) (x0 : VT3) (x1 : VT3) : Option (Int × Unit) :=
  some ((g66 ([(g67 x0.1 x1.1), (g67 x0.2.1 x1.2.1)])), ())
def H213 : Hints where
  loop := fun n => match n with
    | _ => none
  region := fun n => match n with
    | _ => none
  cond := fun n => match n with
    | _ => none
  block := fun n => match n with
    | _ => none
abbrev A213 : Tys := (.cons VY3 (.cons VY3 .nil))
def ts213 : List (Nat × TD) := [(3, (.data (.int .i64))), (31, (.data (.slice (.int .i64)))), (236, (.data VY3))]
noncomputable def fs213 (g66 : (List Int) → (Int)) (g67 : Int → Int → (Int)) : List (Nat × FSem) := [(66, .fn (.cons (.slice (.int .i64)) .nil) (.cons (.int .i64) .nil) fun x => ((g66 x.1), ())), (67, .fn (.cons (.int .i64) (.cons (.int .i64) .nil)) (.cons (.int .i64) .nil) fun x => ((g67 x.1 x.2.1), ()))]
noncomputable def body213 : Code := match Tryz.f213.body with | some c => c | none => .skip
theorem ty213 : chkTypes Tryz.prog ts213 = true := by kernel_rfl
theorem ev213 (g66 : (List Int) → (Int)) (g67 : Int → Int → (Int)) (k : Nat) (x : ((.cons VY3 (.cons VY3 .nil)) : Tys).den) : evFun (mkEnv ts213 (fs213 g66 g67)) H213 k body213 17 [.tmp 4] (explodes (.cons VY3 (.cons VY3 .nil)) x) [] (dec (.cons (.int .i64) .nil)) = f213 g66 g67 k x.1 x.2.1 := by kernel_rfl
/-! ### jitney/fleet.turns -/
def f181 (g86 : (List VT10) → ByteArray → Option ((List VT10) × Unit)) (g212 : List VT3 → Option (List VT3)) (k : Nat) (x0 : ByteArray) (x1 : List VT10) (x2 : List VT9) : Option ((List VT3) × Unit) :=
  Option.bind (α := ((List VT3) × Unit) ⊕ (((List VT3) × Unit) × (Unit))) (iter (σ := ((List VT3) × Int × Unit) × (Unit)) (τ := ((List VT3) × Unit) ⊕ (((List VT3) × Unit) × (Unit))) k (fun y1 =>
      bif (decide (y1.1.2.1 < ((List.length x2 : Nat) : Int))) then
        bif (inR y1.1.2.1 ((List.length x2 : Nat) : Int)) then
          bif (sEq ((rd (α := VT9) zVT9 x2 y1.1.2.1).1) x0) then
            bif (decide ((rd (α := VT9) zVT9 x2 y1.1.2.1).2.2.2.1 ≥ (0 : Int))) then
              bif decide (List.length y1.1.1 + List.length ([((rd (α := VT9) zVT9 x2 y1.1.2.1).2.2.2.1, (0 : Int), (rd (α := VT9) zVT9 x2 y1.1.2.1).2.2.2.2.1, ())]) ≤ 4294967296) then
                some (.inl (((y1.1.1 ++ [((rd (α := VT9) zVT9 x2 y1.1.2.1).2.2.2.1, (0 : Int), (rd (α := VT9) zVT9 x2 y1.1.2.1).2.2.2.2.1, ())]), (IntKind.i64.wrap (y1.1.2.1 + (1 : Int))), ()), ()))
              else
                none
            else
              some (.inl ((y1.1.1, (IntKind.i64.wrap (y1.1.2.1 + (1 : Int))), ()), ()))
          else
            some (.inl ((y1.1.1, (IntKind.i64.wrap (y1.1.2.1 + (1 : Int))), ()), ()))
        else
          none
      else
        some (.inr (.inr ((y1.1.1, ()), ())))) (([], (0 : Int), ()), ())) fun r => match r with
  | .inl z => some z
  | .inr z2 =>
    Option.bind (g86 x1 x0) fun v3 =>
    Option.bind (α := ((List VT3) × Unit) ⊕ (((List VT3) × Unit) × (Unit))) (iter (σ := ((List VT3) × Int × Unit) × (Unit)) (τ := ((List VT3) × Unit) ⊕ (((List VT3) × Unit) × (Unit))) k (fun y4 =>
        bif (decide (y4.1.2.1 < ((List.length v3.1 : Nat) : Int))) then
          bif (inR y4.1.2.1 ((List.length v3.1 : Nat) : Int)) then
            bif decide (List.length y4.1.1 + List.length ([((rd (α := VT10) zVT10 v3.1 y4.1.2.1).2.1.2.1, (1 : Int), (rd (α := VT10) zVT10 v3.1 y4.1.2.1).2.2.2.1, ())]) ≤ 4294967296) then
              some (.inl (((y4.1.1 ++ [((rd (α := VT10) zVT10 v3.1 y4.1.2.1).2.1.2.1, (1 : Int), (rd (α := VT10) zVT10 v3.1 y4.1.2.1).2.2.2.1, ())]), (IntKind.i64.wrap (y4.1.2.1 + (1 : Int))), ()), ()))
            else
              none
          else
            none
        else
          some (.inr (.inr ((y4.1.1, ()), ())))) ((z2.1.1, (0 : Int), ()), ())) fun r => match r with
    | .inl z => some z
    | .inr z5 =>
      Option.bind (g212 z5.1.1) fun v6 =>
      some (v6, ())
def H181 : Hints where
  loop := fun n => match n with
    | 0 => some ({ slots := [(7, (.row VY3)), (14, (.int .i64))], objs := [], gone := [] }, 0, { slots := [(7, (.row VY3))], objs := [], gone := [] })
    | 2 => some ({ slots := [(7, (.row VY3)), (40, (.int .i64))], objs := [], gone := [0] }, 2, { slots := [(7, (.row VY3))], objs := [], gone := [0] })
    | _ => none
  region := fun n => match n with
    | _ => none
  cond := fun n => match n with
    | _ => none
  block := fun n => match n with
    | _ => none
abbrev A181 : Tys := (.cons .str (.cons (.slice VY6) (.cons (.slice VY4) .nil)))
def ts181 : List (Nat × TD) := [(3, (.data (.int .i64))), (9, (.data .str)), (30, (.data VY1)), (57, (.data (.slice VY6))), (58, (.data (.slice VY4))), (68, (.data VY6)), (75, (.data VY4)), (233, (.data (.slice VY3))), (236, (.data VY3))]
noncomputable def fs181 (g86 : (List VT10) → ByteArray → Option ((List VT10) × Unit)) (g212 : List VT3 → Option (List VT3)) : List (Nat × FSem) := [(86, .pfn (.cons (.slice VY6) (.cons .str .nil)) (.cons (.slice VY6) .nil) fun x => (g86 x.1 x.2.1)), (212, .rfn VY3 .nil 213 fun xs a => g212 xs )]
noncomputable def body181 : Code := match Tryz.f181.body with | some c => c | none => .skip
theorem ty181 : chkTypes Tryz.prog ts181 = true := by kernel_rfl
theorem ev181 (g86 : (List VT10) → ByteArray → Option ((List VT10) × Unit)) (g212 : List VT3 → Option (List VT3)) (k : Nat) (x : ((.cons .str (.cons (.slice VY6) (.cons (.slice VY4) .nil))) : Tys).den) : evFun (mkEnv ts181 (fs181 g86 g212)) H181 k body181 57 [.tmp 6] (explodes (.cons .str (.cons (.slice VY6) (.cons (.slice VY4) .nil))) x) [] (dec (.cons (.slice VY3) .nil)) = f181 g86 g212 k x.1 x.2.1 x.2.2.1 := by kernel_rfl
/-! ### jitney/fleet.levelAt -/
def f93 (g181 : ByteArray → (List VT10) → (List VT9) → Option ((List VT3) × Unit)) (k : Nat) (x0 : ByteArray) (x1 : List VT10) (x2 : List VT9) (x3 : Int) (x4 : Int) : Option (Int × Unit) :=
  Option.bind (g181 x0 x1 x2) fun v1 =>
  Option.bind (α := (Int × Unit) ⊕ ((Unit) × (Int × Unit))) (iter (σ := VT0 × (Int × Unit)) (τ := (Int × Unit) ⊕ ((Unit) × (Int × Unit))) k (fun y2 =>
      bif (decide (y2.1.2.1 < ((List.length v1.1 : Nat) : Int))) then
        bif (inR y2.1.2.1 ((List.length v1.1 : Nat) : Int)) then
          bif (decide ((rd (α := VT3) zVT3 v1.1 y2.1.2.1).1 > x4)) then
            some (.inr (.inl (y2.2.1, ())))
          else
            Option.bind (α := ((VT0 × (Int × Unit)) ⊕ ((Int × Unit) ⊕ ((Unit) × (Int × Unit)))) ⊕ ((Int × Unit) × (Unit))) (
                bif ((rd (α := VT3) zVT3 v1.1 y2.1.2.1).2.1 == (0 : Int)) then
                  some (.inr (((if (decide ((rd (α := VT3) zVT3 v1.1 y2.1.2.1).2.2.1 > y2.1.1)) then (rd (α := VT3) zVT3 v1.1 y2.1.2.1).2.2.1 else y2.1.1), ()), ()))
                else
                  some (.inr (((IntKind.i64.wrap (y2.1.1 - (rd (α := VT3) zVT3 v1.1 y2.1.2.1).2.2.1)), ()), ()))) fun r => match r with
            | .inl z => some z
            | .inr y3 =>
              some (.inl ((y3.1.1, (IntKind.i64.wrap (y2.1.2.1 + (1 : Int))), ()), (y3.1.1, ())))
        else
          none
      else
        some (.inr (.inr ((), (y2.2.1, ()))))) ((x3, (0 : Int), ()), (x3, ()))) fun r => match r with
  | .inl z => some z
  | .inr z4 =>
    some (z4.2.1, ())
def H93 : Hints where
  loop := fun n => match n with
    | _ => none
  region := fun n => match n with
    | _ => none
  cond := fun n => match n with
    | _ => none
  block := fun n => match n with
    | _ => none
def Hi93_144 : Hints where
  loop := fun n => match n with
    | _ => none
  region := fun n => match n with
    | _ => none
  cond := fun n => match n with
    | _ => none
  block := fun n => match n with
    | _ => none
def tsi93_144 : List (Nat × TD) := [(3, (.data (.int .i64)))]
noncomputable def bodyi93_144 : Code := match Tryz.f144.body with | some c => c | none => .skip
noncomputable def fsi93_144 (g181 : ByteArray → (List VT10) → (List VT9) → Option ((List VT3) × Unit)) (k : Nat) : List (Nat × FSem) := []
theorem tyi93_144 : chkTypes Tryz.prog tsi93_144 = true := by kernel_rfl
def Hi93_143 : Hints where
  loop := fun n => match n with
    | 0 => some ({ slots := [(3, (.int .i64)), (22, (.int .i64))], objs := [(0, (.box (.data (.int .i64)) (.int .i64)))], gone := [] }, 0, { slots := [], objs := [(0, (.box (.data (.int .i64)) (.int .i64)))], gone := [] })
    | _ => none
  region := fun n => match n with
    | _ => none
  cond := fun n => match n with
    | 32 => some { slots := [(3, (.int .i64))], objs := [], gone := [] }
    | _ => none
  block := fun n => match n with
    | _ => none
def tsi93_143 : List (Nat × TD) := [(3, (.data (.int .i64))), (233, (.data (.slice VY3))), (236, (.data VY3))]
noncomputable def bodyi93_143 : Code := match Tryz.f143.body with | some c => c | none => .skip
noncomputable def fsi93_143 (g181 : ByteArray → (List VT10) → (List VT9) → Option ((List VT3) × Unit)) (k : Nat) : List (Nat × FSem) := [(144, .ev (mkEnv tsi93_144 (fsi93_144 g181 k)) Hi93_144 k bodyi93_144 4 []), (181, .pfn (.cons .str (.cons (.slice VY6) (.cons (.slice VY4) .nil))) (.cons (.slice VY3) .nil) fun x => (g181 x.1 x.2.1 x.2.2.1))]
theorem tyi93_143 : chkTypes Tryz.prog tsi93_143 = true := by kernel_rfl
abbrev A93 : Tys := (.cons .str (.cons (.slice VY6) (.cons (.slice VY4) (.cons (.int .i64) (.cons (.int .i64) .nil)))))
def ts93 : List (Nat × TD) := [(3, (.data (.int .i64))), (9, (.data .str)), (57, (.data (.slice VY6))), (58, (.data (.slice VY4)))]
noncomputable def fs93 (g181 : ByteArray → (List VT10) → (List VT9) → Option ((List VT3) × Unit)) (k : Nat) : List (Nat × FSem) := [(143, .ev (mkEnv tsi93_143 (fsi93_143 g181 k)) Hi93_143 k bodyi93_143 45 [])]
noncomputable def body93 : Code := match Tryz.f93.body with | some c => c | none => .skip
theorem ty93 : chkTypes Tryz.prog ts93 = true := by kernel_rfl
theorem ev93 (g181 : ByteArray → (List VT10) → (List VT9) → Option ((List VT3) × Unit)) (k : Nat) (x : ((.cons .str (.cons (.slice VY6) (.cons (.slice VY4) (.cons (.int .i64) (.cons (.int .i64) .nil))))) : Tys).den) : evFun (mkEnv ts93 (fs93 g181 k)) H93 k body93 20 [.tmp 10] (explodes (.cons .str (.cons (.slice VY6) (.cons (.slice VY4) (.cons (.int .i64) (.cons (.int .i64) .nil))))) x) [] (dec (.cons (.int .i64) .nil)) = f93 g181 k x.1 x.2.1 x.2.2.1 x.2.2.2.1 x.2.2.2.2.1 := by kernel_rfl
/-! ### internal/stringslite.HasPrefix -/
def f206  (k : Nat) (x0 : ByteArray) (x1 : ByteArray) : Option (Bool × Unit) :=
  bif (decide (((ByteArray.size x0 : Nat) : Int) ≥ ((ByteArray.size x1 : Nat) : Int))) then
    bif (decide (0 ≤ (0 : Int)) && (decide ((0 : Int) ≤ ((ByteArray.size x1 : Nat) : Int)) && decide (((ByteArray.size x1 : Nat) : Int) ≤ ((ByteArray.size x0 : Nat) : Int)))) then
      some ((sEq (ByteArray.extract x0 (Int.toNat (0 : Int)) (Int.toNat ((ByteArray.size x1 : Nat) : Int))) x1), ())
    else
      none
  else
    some (false, ())
def H206 : Hints where
  loop := fun n => match n with
    | _ => none
  region := fun n => match n with
    | _ => none
  cond := fun n => match n with
    | _ => none
  block := fun n => match n with
    | _ => none
abbrev A206 : Tys := (.cons .str (.cons .str .nil))
def ts206 : List (Nat × TD) := [(3, (.data (.int .i64))), (4, (.data .bool)), (9, (.data .str))]
noncomputable def fs206  : List (Nat × FSem) := []
noncomputable def body206 : Code := match Tryz.f206.body with | some c => c | none => .skip
theorem ty206 : chkTypes Tryz.prog ts206 = true := by kernel_rfl
theorem ev206  (k : Nat) (x : ((.cons .str (.cons .str .nil)) : Tys).den) : evFun (mkEnv ts206 (fs206 )) H206 k body206 18 [.tmp 4] (explodes (.cons .str (.cons .str .nil)) x) [] (dec (.cons .bool .nil)) = f206  k x.1 x.2.1 := by kernel_rfl
/-! ### internal/stringslite.TrimPrefix -/
def f183 (g206 : ByteArray → ByteArray → (Bool)) (k : Nat) (x0 : ByteArray) (x1 : ByteArray) : Option (ByteArray × Unit) :=
  bif (g206 x0 x1) then
    bif (decide (0 ≤ ((ByteArray.size x1 : Nat) : Int)) && (decide (((ByteArray.size x1 : Nat) : Int) ≤ ((ByteArray.size x0 : Nat) : Int)) && decide (((ByteArray.size x0 : Nat) : Int) ≤ ((ByteArray.size x0 : Nat) : Int)))) then
      some ((ByteArray.extract x0 (Int.toNat ((ByteArray.size x1 : Nat) : Int)) (Int.toNat ((ByteArray.size x0 : Nat) : Int))), ())
    else
      none
  else
    some (x0, ())
def H183 : Hints where
  loop := fun n => match n with
    | _ => none
  region := fun n => match n with
    | _ => none
  cond := fun n => match n with
    | _ => none
  block := fun n => match n with
    | _ => none
abbrev A183 : Tys := (.cons .str (.cons .str .nil))
def ts183 : List (Nat × TD) := [(9, (.data .str))]
noncomputable def fs183 (g206 : ByteArray → ByteArray → (Bool)) : List (Nat × FSem) := [(206, .fn (.cons .str (.cons .str .nil)) (.cons .bool .nil) fun x => ((g206 x.1 x.2.1), ()))]
noncomputable def body183 : Code := match Tryz.f183.body with | some c => c | none => .skip
theorem ty183 : chkTypes Tryz.prog ts183 = true := by kernel_rfl
theorem ev183 (g206 : ByteArray → ByteArray → (Bool)) (k : Nat) (x : ((.cons .str (.cons .str .nil)) : Tys).den) : evFun (mkEnv ts183 (fs183 g206)) H183 k body183 13 [.tmp 4] (explodes (.cons .str (.cons .str .nil)) x) [] (dec (.cons .str .nil)) = f183 g206 k x.1 x.2.1 := by kernel_rfl
/-! ### strings.TrimPrefix -/
def f146 (g183 : ByteArray → ByteArray → (ByteArray)) (k : Nat) (x0 : ByteArray) (x1 : ByteArray) : Option (ByteArray × Unit) :=
  some ((g183 x0 x1), ())
def H146 : Hints where
  loop := fun n => match n with
    | _ => none
  region := fun n => match n with
    | _ => none
  cond := fun n => match n with
    | _ => none
  block := fun n => match n with
    | _ => none
abbrev A146 : Tys := (.cons .str (.cons .str .nil))
def ts146 : List (Nat × TD) := [(9, (.data .str))]
noncomputable def fs146 (g183 : ByteArray → ByteArray → (ByteArray)) : List (Nat × FSem) := [(183, .fn (.cons .str (.cons .str .nil)) (.cons .str .nil) fun x => ((g183 x.1 x.2.1), ()))]
noncomputable def body146 : Code := match Tryz.f146.body with | some c => c | none => .skip
theorem ty146 : chkTypes Tryz.prog ts146 = true := by kernel_rfl
theorem ev146 (g183 : ByteArray → ByteArray → (ByteArray)) (k : Nat) (x : ((.cons .str (.cons .str .nil)) : Tys).den) : evFun (mkEnv ts146 (fs146 g183)) H146 k body146 8 [.tmp 4] (explodes (.cons .str (.cons .str .nil)) x) [] (dec (.cons .str .nil)) = f146 g183 k x.1 x.2.1 := by kernel_rfl
/-! ### jitney/base.Number -/
def f139 (g146 : ByteArray → ByteArray → (ByteArray)) (k : Nat) (x0 : ByteArray) (x1 : Int) : Option VT1 :=
  Option.bind (α := VT1 ⊕ ((Bool × Unit) × (Unit))) (
      bif (sEq (g146 x0 (ByteArray.mk #[45])) (ByteArray.mk #[])) then
        some (.inr ((true, ()), ()))
      else
        bif (decide (((ByteArray.size (g146 x0 (ByteArray.mk #[45])) : Nat) : Int) > x1)) then
          some (.inr ((true, ()), ()))
        else
          bif (inR (0 : Int) ((ByteArray.size (g146 x0 (ByteArray.mk #[45])) : Nat) : Int)) then
            bif ((bt (g146 x0 (ByteArray.mk #[45])) (0 : Int)) == (48 : Int)) then
              bif (decide (((ByteArray.size (g146 x0 (ByteArray.mk #[45])) : Nat) : Int) > (1 : Int))) then
                some (.inr ((true, ()), ()))
              else
                some (.inr (((decide (((ByteArray.size x0 : Nat) : Int) > ((ByteArray.size (g146 x0 (ByteArray.mk #[45])) : Nat) : Int))), ()), ()))
            else
              some (.inr ((false, ()), ()))
          else
            none) fun r => match r with
  | .inl z => some z
  | .inr y1 =>
    bif y1.1.1 then
      some zVT1
    else
      Option.bind (α := VT1 ⊕ ((Unit) × (Unit))) (iter (σ := (Int × Unit) × (Unit)) (τ := VT1 ⊕ ((Unit) × (Unit))) k (fun y2 =>
          bif (decide (y2.1.1 < ((ByteArray.size (g146 x0 (ByteArray.mk #[45])) : Nat) : Int))) then
            bif (inR y2.1.1 ((ByteArray.size (g146 x0 (ByteArray.mk #[45])) : Nat) : Int)) then
              bif (decide ((bt (g146 x0 (ByteArray.mk #[45])) y2.1.1) < (48 : Int))) then
                some (.inr (.inl zVT1))
              else
                bif (inR y2.1.1 ((ByteArray.size (g146 x0 (ByteArray.mk #[45])) : Nat) : Int)) then
                  bif (decide ((bt (g146 x0 (ByteArray.mk #[45])) y2.1.1) > (57 : Int))) then
                    some (.inr (.inl zVT1))
                  else
                    some (.inl (((IntKind.i64.wrap (y2.1.1 + (1 : Int))), ()), ()))
                else
                  none
            else
              none
          else
            some (.inr (.inr ((), ())))) (((0 : Int), ()), ())) fun r => match r with
      | .inl z => some z
      | .inr z3 =>
        bif (decide (ByteArray.size x0 ≤ 281474976710656)) then
          bif (aOk x0) then
            some ((aVal x0), true, ())
          else
            none
        else
          none
def H139 : Hints where
  loop := fun n => match n with
    | 0 => some ({ slots := [(39, (.int .i64))], objs := [], gone := [] }, 0, { slots := [], objs := [], gone := [] })
    | _ => none
  region := fun n => match n with
    | 2 => some { slots := [(36, .bool)], objs := [], gone := [] }
    | _ => none
  cond := fun n => match n with
    | _ => none
  block := fun n => match n with
    | _ => none
abbrev A139 : Tys := (.cons .str (.cons (.int .i64) .nil))
def ts139 : List (Nat × TD) := [(3, (.data (.int .i64))), (4, (.data .bool)), (5, (.data (.int .u8))), (9, (.data .str)), (162, (.cell .iface))]
noncomputable def fs139 (g146 : ByteArray → ByteArray → (ByteArray)) : List (Nat × FSem) := [(146, .fn (.cons .str (.cons .str .nil)) (.cons .str .nil) fun x => ((g146 x.1 x.2.1), ())), (147, .atoi)]
noncomputable def body139 : Code := match Tryz.f139.body with | some c => c | none => .skip
theorem ty139 : chkTypes Tryz.prog ts139 = true := by kernel_rfl
theorem ev139 (g146 : ByteArray → ByteArray → (ByteArray)) (k : Nat) (x : ((.cons .str (.cons (.int .i64) .nil)) : Tys).den) : evFun (mkEnv ts139 (fs139 g146)) H139 k body139 61 [.tmp 4, .tmp 5] (explodes (.cons .str (.cons (.int .i64) .nil)) x) [] (dec (.cons (.int .i64) (.cons .bool .nil))) = f139 g146 k x.1 x.2.1 := by kernel_rfl
/-! ### jitney/fleet.Ready -/
def f29 (g69 : (List Int) → (Int)) (g73 : Int → (Bool)) (g74 : Int → Int → Int → (Bool)) (g75 : ByteArray → (Bool)) (g85 : (List VT10) → (Int)) (g87 : (List VT8) → (Int)) (g88 : (List VT9) → (Int)) (g92 : ByteArray → (List VT10) → (List VT9) → Int → (Bool)) (g93 : ByteArray → (List VT10) → (List VT9) → Int → Int → Option (Int × Unit)) (g139 : ByteArray → Int → Option VT1) (k : Nat) (x0 : List VT8) (x1 : List VT10) (x2 : List VT9) (x3 : List VT6) (x4 : Int) (x5 : Int) : Option ((List ByteArray) × Int × Unit) :=
  bif ((g69 ([(g87 x0), (g85 x1), (g88 x2)])) != (0 : Int)) then
    some ([], (g69 ([(g87 x0), (g85 x1), (g88 x2)])), ())
  else
    bif (decide (((List.length x3 : Nat) : Int) > (200 : Int))) then
      some ([], (2 : Int), ())
    else
      Option.bind (α := ((List ByteArray) × Int × Unit) ⊕ ((Unit) × ((MapC .str (.int .i64)) × Unit))) (iter (σ := (Int × Unit) × ((MapC .str (.int .i64)) × Unit)) (τ := ((List ByteArray) × Int × Unit) ⊕ ((Unit) × ((MapC .str (.int .i64)) × Unit))) k (fun y1 =>
          bif (decide (y1.1.1 < ((List.length x3 : Nat) : Int))) then
            bif (inR y1.1.1 ((List.length x3 : Nat) : Int)) then
              Option.bind (g139 ((rd (α := VT6) zVT6 x3 y1.1.1).2.1) (10 : Int)) fun v2 =>
              bif (!(g75 ((rd (α := VT6) zVT6 x3 y1.1.1).1))) then
                some (.inr (.inl ([], (5 : Int), ())))
              else
                bif (!v2.2.1) then
                  some (.inr (.inl ([], (3 : Int), ())))
                else
                  bif (g74 v2.1 (0 : Int) (1000000 : Int)) then
                    some (.inr (.inl ([], (3 : Int), ())))
                  else
                    bif (mhas (keq .str) ((rd (α := VT6) zVT6 x3 y1.1.1).1) y1.2.1.1) then
                      some (.inr (.inl ([], (6 : Int), ())))
                    else
                      some (.inl (((IntKind.i64.wrap (y1.1.1 + (1 : Int))), ()), ((mput (keq .str) ((rd (α := VT6) zVT6 x3 y1.1.1).1) v2.1 y1.2.1), ())))
            else
              none
          else
            some (.inr (.inr ((), (y1.2.1, ()))))) (((0 : Int), ()), ((([], 0) : MapC .str (.int .i64)), ()))) fun r => match r with
      | .inl z => some z
      | .inr z3 =>
        bif (g74 x4 (0 : Int) (1000000 : Int)) then
          some ([], (1 : Int), ())
        else
          bif (!(g73 x5)) then
            some ([], (1 : Int), ())
          else
            Option.bind (α := ((List ByteArray) × Int × Unit) ⊕ ((Bool × Unit) × ((MapC .str (.int .i64)) × Unit))) (
                Option.bind (α := (((List ByteArray) × Int × Unit) ⊕ ((Bool × Unit) × ((MapC .str (.int .i64)) × Unit))) ⊕ ((Unit) × ((MapC .str (.int .i64)) × Unit))) (iter (σ := (Int × Unit) × ((MapC .str (.int .i64)) × Unit)) (τ := (((List ByteArray) × Int × Unit) ⊕ ((Bool × Unit) × ((MapC .str (.int .i64)) × Unit))) ⊕ ((Unit) × ((MapC .str (.int .i64)) × Unit))) k (fun y4 =>
                    bif (decide (y4.1.1 < ((List.length x0 : Nat) : Int))) then
                      bif (inR y4.1.1 ((List.length x0 : Nat) : Int)) then
                        bif (decide ((mget (keq .str) (0 : Int) ((rd (α := VT8) zVT8 x0 y4.1.1).1) y4.2.1.1) > (rd (α := VT8) zVT8 x0 y4.1.1).2.1)) then
                          some (.inr (.inl (.inr (((decide (y4.1.1 ≥ (0 : Int))), ()), (y4.2.1, ())))))
                        else
                          some (.inl (((IntKind.i64.wrap (y4.1.1 + (1 : Int))), ()), (y4.2.1, ())))
                      else
                        none
                    else
                      some (.inr (.inr ((), (y4.2.1, ()))))) (((0 : Int), ()), (z3.2.1, ()))) fun r => match r with
                | .inl z => some z
                | .inr z5 =>
                  some (.inr ((false, ()), (z5.2.1, ())))) fun r => match r with
            | .inl z => some z
            | .inr y6 =>
              bif y6.1.1 then
                some ([], (1 : Int), ())
              else
                Option.bind (α := ((List ByteArray) × Int × Unit) ⊕ (((List ByteArray) × Unit) × (Unit))) (iter (σ := ((List ByteArray) × Int × Unit) × (Unit)) (τ := ((List ByteArray) × Int × Unit) ⊕ (((List ByteArray) × Unit) × (Unit))) k (fun y7 =>
                    bif (decide (y7.1.2.1 < ((List.length x0 : Nat) : Int))) then
                      bif (inR y7.1.2.1 ((List.length x0 : Nat) : Int)) then
                        bif (!(g92 ((rd (α := VT8) zVT8 x0 y7.1.2.1).1) x1 x2 x5)) then
                          Option.bind (g93 ((rd (α := VT8) zVT8 x0 y7.1.2.1).1) x1 x2 (mget (keq .str) (0 : Int) ((rd (α := VT8) zVT8 x0 y7.1.2.1).1) y6.2.1.1) x5) fun v8 =>
                          bif (decide (v8.1 ≥ (IntKind.i64.wrap ((rd (α := VT8) zVT8 x0 y7.1.2.1).2.2.1 + x4)))) then
                            bif decide (List.length y7.1.1 + List.length ([(rd (α := VT8) zVT8 x0 y7.1.2.1).1]) ≤ 4294967296) then
                              some (.inl (((y7.1.1 ++ [(rd (α := VT8) zVT8 x0 y7.1.2.1).1]), (IntKind.i64.wrap (y7.1.2.1 + (1 : Int))), ()), ()))
                            else
                              none
                          else
                            some (.inl ((y7.1.1, (IntKind.i64.wrap (y7.1.2.1 + (1 : Int))), ()), ()))
                        else
                          some (.inl ((y7.1.1, (IntKind.i64.wrap (y7.1.2.1 + (1 : Int))), ()), ()))
                      else
                        none
                    else
                      some (.inr (.inr ((y7.1.1, ()), ())))) (([], (0 : Int), ()), ())) fun r => match r with
                | .inl z => some z
                | .inr z9 =>
                  some (z9.1.1, (0 : Int), ())
def H29 : Hints where
  loop := fun n => match n with
    | 1 => some ({ slots := [(17, (.row .str)), (54, (.int .i64))], objs := [], gone := [] }, 1, { slots := [(17, (.row .str))], objs := [], gone := [] })
    | _ => none
  region := fun n => match n with
    | 9 => some { slots := [(48, .bool)], objs := [(2, (.box (.map .str (.int .i64)) (.map .str (.int .i64))))], gone := [1] }
    | _ => none
  cond := fun n => match n with
    | _ => none
  block := fun n => match n with
    | _ => none
def Hi29_89 : Hints where
  loop := fun n => match n with
    | 0 => some ({ slots := [(17, (.int .i64))], objs := [(0, (.map .str (.int .i64)))], gone := [] }, 0, { slots := [], objs := [(0, (.map .str (.int .i64)))], gone := [] })
    | _ => none
  region := fun n => match n with
    | _ => none
  cond := fun n => match n with
    | _ => none
  block := fun n => match n with
    | _ => none
def tsi29_89 : List (Nat × TD) := [(3, (.data (.int .i64))), (9, (.data .str)), (59, (.data (.slice VY0))), (78, (.data VY0)), (136, (.map .str (.int .i64)))]
noncomputable def bodyi29_89 : Code := match Tryz.f89.body with | some c => c | none => .skip
noncomputable def fsi29_89 (g69 : (List Int) → (Int)) (g73 : Int → (Bool)) (g74 : Int → Int → Int → (Bool)) (g75 : ByteArray → (Bool)) (g85 : (List VT10) → (Int)) (g87 : (List VT8) → (Int)) (g88 : (List VT9) → (Int)) (g92 : ByteArray → (List VT10) → (List VT9) → Int → (Bool)) (g93 : ByteArray → (List VT10) → (List VT9) → Int → Int → Option (Int × Unit)) (g139 : ByteArray → Int → Option VT1) (k : Nat) : List (Nat × FSem) := [(74, .fn (.cons (.int .i64) (.cons (.int .i64) (.cons (.int .i64) .nil))) (.cons .bool .nil) fun x => ((g74 x.1 x.2.1 x.2.2.1), ())), (75, .fn (.cons .str .nil) (.cons .bool .nil) fun x => ((g75 x.1), ())), (139, .pfn (.cons .str (.cons (.int .i64) .nil)) (.cons (.int .i64) (.cons .bool .nil)) fun x => (g139 x.1 x.2.1))]
theorem tyi29_89 : chkTypes Tryz.prog tsi29_89 = true := by kernel_rfl
def Hi29_91 : Hints where
  loop := fun n => match n with
    | _ => none
  region := fun n => match n with
    | _ => none
  cond := fun n => match n with
    | _ => none
  block := fun n => match n with
    | _ => none
def tsi29_91 : List (Nat × TD) := [(3, (.data (.int .i64))), (9, (.data .str)), (72, (.data VY5)), (136, (.map .str (.int .i64)))]
noncomputable def bodyi29_91 : Code := match Tryz.f91.body with | some c => c | none => .skip
noncomputable def fsi29_91 (g69 : (List Int) → (Int)) (g73 : Int → (Bool)) (g74 : Int → Int → Int → (Bool)) (g75 : ByteArray → (Bool)) (g85 : (List VT10) → (Int)) (g87 : (List VT8) → (Int)) (g88 : (List VT9) → (Int)) (g92 : ByteArray → (List VT10) → (List VT9) → Int → (Bool)) (g93 : ByteArray → (List VT10) → (List VT9) → Int → Int → Option (Int × Unit)) (g139 : ByteArray → Int → Option VT1) (k : Nat) : List (Nat × FSem) := []
theorem tyi29_91 : chkTypes Tryz.prog tsi29_91 = true := by kernel_rfl
def Hi29_140 : Hints where
  loop := fun n => match n with
    | 0 => some ({ slots := [(8, (.int .i64))], objs := [(0, (.box (.map .str (.int .i64)) (.map .str (.int .i64))))], gone := [1] }, 0, { slots := [], objs := [(0, (.box (.map .str (.int .i64)) (.map .str (.int .i64))))], gone := [1] })
    | _ => none
  region := fun n => match n with
    | _ => none
  cond := fun n => match n with
    | _ => none
  block := fun n => match n with
    | _ => none
def tsi29_140 : List (Nat × TD) := [(3, (.data (.int .i64))), (55, (.data (.slice VY5))), (72, (.data VY5))]
noncomputable def bodyi29_140 : Code := match Tryz.f140.body with | some c => c | none => .skip
noncomputable def fsi29_140 (g69 : (List Int) → (Int)) (g73 : Int → (Bool)) (g74 : Int → Int → Int → (Bool)) (g75 : ByteArray → (Bool)) (g85 : (List VT10) → (Int)) (g87 : (List VT8) → (Int)) (g88 : (List VT9) → (Int)) (g92 : ByteArray → (List VT10) → (List VT9) → Int → (Bool)) (g93 : ByteArray → (List VT10) → (List VT9) → Int → Int → Option (Int × Unit)) (g139 : ByteArray → Int → Option VT1) (k : Nat) : List (Nat × FSem) := [(91, .ev (mkEnv tsi29_91 (fsi29_91 g69 g73 g74 g75 g85 g87 g88 g92 g93 g139 k)) Hi29_91 k bodyi29_91 11 [.tmp 3])]
theorem tyi29_140 : chkTypes Tryz.prog tsi29_140 = true := by kernel_rfl
def Hi29_90 : Hints where
  loop := fun n => match n with
    | _ => none
  region := fun n => match n with
    | _ => none
  cond := fun n => match n with
    | _ => none
  block := fun n => match n with
    | _ => none
def tsi29_90 : List (Nat × TD) := [(3, (.data (.int .i64)))]
noncomputable def bodyi29_90 : Code := match Tryz.f90.body with | some c => c | none => .skip
noncomputable def fsi29_90 (g69 : (List Int) → (Int)) (g73 : Int → (Bool)) (g74 : Int → Int → Int → (Bool)) (g75 : ByteArray → (Bool)) (g85 : (List VT10) → (Int)) (g87 : (List VT8) → (Int)) (g88 : (List VT9) → (Int)) (g92 : ByteArray → (List VT10) → (List VT9) → Int → (Bool)) (g93 : ByteArray → (List VT10) → (List VT9) → Int → Int → Option (Int × Unit)) (g139 : ByteArray → Int → Option VT1) (k : Nat) : List (Nat × FSem) := [(140, .ev (mkEnv tsi29_140 (fsi29_140 g69 g73 g74 g75 g85 g87 g88 g92 g93 g139 k)) Hi29_140 k bodyi29_140 19 [.tmp 4])]
theorem tyi29_90 : chkTypes Tryz.prog tsi29_90 = true := by kernel_rfl
abbrev A29 : Tys := (.cons (.slice VY5) (.cons (.slice VY6) (.cons (.slice VY4) (.cons (.slice VY0) (.cons (.int .i64) (.cons (.int .i64) .nil))))))
def ts29 : List (Nat × TD) := [(3, (.data (.int .i64))), (9, (.data .str)), (32, (.data (.int .i64))), (55, (.data (.slice VY5))), (57, (.data (.slice VY6))), (58, (.data (.slice VY4))), (59, (.data (.slice VY0))), (60, (.data (.slice .str))), (72, (.data VY5)), (128, (.data (.slice (.int .i64)))), (136, (.map .str (.int .i64)))]
noncomputable def fs29 (g69 : (List Int) → (Int)) (g73 : Int → (Bool)) (g74 : Int → Int → Int → (Bool)) (g75 : ByteArray → (Bool)) (g85 : (List VT10) → (Int)) (g87 : (List VT8) → (Int)) (g88 : (List VT9) → (Int)) (g92 : ByteArray → (List VT10) → (List VT9) → Int → (Bool)) (g93 : ByteArray → (List VT10) → (List VT9) → Int → Int → Option (Int × Unit)) (g139 : ByteArray → Int → Option VT1) (k : Nat) : List (Nat × FSem) := [(69, .fn (.cons (.slice (.int .i64)) .nil) (.cons (.int .i64) .nil) fun x => ((g69 x.1), ())), (73, .fn (.cons (.int .i64) .nil) (.cons .bool .nil) fun x => ((g73 x.1), ())), (74, .fn (.cons (.int .i64) (.cons (.int .i64) (.cons (.int .i64) .nil))) (.cons .bool .nil) fun x => ((g74 x.1 x.2.1 x.2.2.1), ())), (85, .fn (.cons (.slice VY6) .nil) (.cons (.int .i64) .nil) fun x => ((g85 x.1), ())), (87, .fn (.cons (.slice VY5) .nil) (.cons (.int .i64) .nil) fun x => ((g87 x.1), ())), (88, .fn (.cons (.slice VY4) .nil) (.cons (.int .i64) .nil) fun x => ((g88 x.1), ())), (89, .ev (mkEnv tsi29_89 (fsi29_89 g69 g73 g74 g75 g85 g87 g88 g92 g93 g139 k)) Hi29_89 k bodyi29_89 54 [.tmp 2, .tmp 3]), (90, .ev (mkEnv tsi29_90 (fsi29_90 g69 g73 g74 g75 g85 g87 g88 g92 g93 g139 k)) Hi29_90 k bodyi29_90 9 [.tmp 4]), (92, .fn (.cons .str (.cons (.slice VY6) (.cons (.slice VY4) (.cons (.int .i64) .nil)))) (.cons .bool .nil) fun x => ((g92 x.1 x.2.1 x.2.2.1 x.2.2.2.1), ())), (93, .pfn (.cons .str (.cons (.slice VY6) (.cons (.slice VY4) (.cons (.int .i64) (.cons (.int .i64) .nil))))) (.cons (.int .i64) .nil) fun x => (g93 x.1 x.2.1 x.2.2.1 x.2.2.2.1 x.2.2.2.2.1))]
noncomputable def body29 : Code := match Tryz.f29.body with | some c => c | none => .skip
theorem ty29 : chkTypes Tryz.prog ts29 = true := by kernel_rfl
theorem ev29 (g69 : (List Int) → (Int)) (g73 : Int → (Bool)) (g74 : Int → Int → Int → (Bool)) (g75 : ByteArray → (Bool)) (g85 : (List VT10) → (Int)) (g87 : (List VT8) → (Int)) (g88 : (List VT9) → (Int)) (g92 : ByteArray → (List VT10) → (List VT9) → Int → (Bool)) (g93 : ByteArray → (List VT10) → (List VT9) → Int → Int → Option (Int × Unit)) (g139 : ByteArray → Int → Option VT1) (k : Nat) (x : ((.cons (.slice VY5) (.cons (.slice VY6) (.cons (.slice VY4) (.cons (.slice VY0) (.cons (.int .i64) (.cons (.int .i64) .nil)))))) : Tys).den) : evFun (mkEnv ts29 (fs29 g69 g73 g74 g75 g85 g87 g88 g92 g93 g139 k)) H29 k body29 89 [.tmp 12, .tmp 13] (explodes (.cons (.slice VY5) (.cons (.slice VY6) (.cons (.slice VY4) (.cons (.slice VY0) (.cons (.int .i64) (.cons (.int .i64) .nil)))))) x) [] (dec (.cons (.slice .str) (.cons (.int .i64) .nil))) = f29 g69 g73 g74 g75 g85 g87 g88 g92 g93 g139 k x.1 x.2.1 x.2.2.1 x.2.2.2.1 x.2.2.2.2.1 x.2.2.2.2.2.1 := by kernel_rfl
/-! ### slices.Clone[[]jitney/api.Vehicle,jitney/api.Vehicle] -/
def f30  (k : Nat) (x0 : List VT8) : Option ((List VT8) × Unit) :=
  bif Nat.ble (List.length x0) 0 then
    none
  else
    bif decide (List.length ([] : List VT8) + List.length x0 ≤ 4294967296) then
      some ((([] : List VT8) ++ x0), ())
    else
      none
def H30 : Hints where
  loop := fun n => match n with
    | _ => none
  region := fun n => match n with
    | _ => none
  cond := fun n => match n with
    | _ => none
  block := fun n => match n with
    | _ => none
def ts30 : List (Nat × TD) := [(55, (.data (.slice VY5)))]
noncomputable def fs30  : List (Nat × FSem) := []
noncomputable def body30 : Code := match Tryz.f30.body with | some c => c | none => .skip
theorem ty30 : chkTypes Tryz.prog ts30 = true := by kernel_rfl
theorem ev30  (k : Nat) (x : ((.cons (.slice VY5) .nil) : Tys).den) : evFun (mkEnv ts30 (fs30 )) H30 k body30 8 [.tmp 2] (explodes (.cons (.slice VY5) .nil) x) [] (dec (.cons (.slice VY5) .nil)) = f30  k x.1 := by kernel_rfl
def s30 (l : List VT8) : Option ((List VT8) × Unit) := if l.length ≤ 4294967296 then some (l, ()) else none
/-! ### slices.Clone[[]jitney/api.Charged,jitney/api.Charged] -/
def f31  (k : Nat) (x0 : List VT9) : Option ((List VT9) × Unit) :=
  bif Nat.ble (List.length x0) 0 then
    none
  else
    bif decide (List.length ([] : List VT9) + List.length x0 ≤ 4294967296) then
      some ((([] : List VT9) ++ x0), ())
    else
      none
def H31 : Hints where
  loop := fun n => match n with
    | _ => none
  region := fun n => match n with
    | _ => none
  cond := fun n => match n with
    | _ => none
  block := fun n => match n with
    | _ => none
def ts31 : List (Nat × TD) := [(58, (.data (.slice VY4)))]
noncomputable def fs31  : List (Nat × FSem) := []
noncomputable def body31 : Code := match Tryz.f31.body with | some c => c | none => .skip
theorem ty31 : chkTypes Tryz.prog ts31 = true := by kernel_rfl
theorem ev31  (k : Nat) (x : ((.cons (.slice VY4) .nil) : Tys).den) : evFun (mkEnv ts31 (fs31 )) H31 k body31 8 [.tmp 2] (explodes (.cons (.slice VY4) .nil) x) [] (dec (.cons (.slice VY4) .nil)) = f31  k x.1 := by kernel_rfl
def s31 (l : List VT9) : Option ((List VT9) × Unit) := if l.length ≤ 4294967296 then some (l, ()) else none
/-! ### slices.Clone[[]jitney/api.Pair,jitney/api.Pair] -/
def f32  (k : Nat) (x0 : List VT6) : Option ((List VT6) × Unit) :=
  bif Nat.ble (List.length x0) 0 then
    none
  else
    bif decide (List.length ([] : List VT6) + List.length x0 ≤ 4294967296) then
      some ((([] : List VT6) ++ x0), ())
    else
      none
def H32 : Hints where
  loop := fun n => match n with
    | _ => none
  region := fun n => match n with
    | _ => none
  cond := fun n => match n with
    | _ => none
  block := fun n => match n with
    | _ => none
def ts32 : List (Nat × TD) := [(59, (.data (.slice VY0)))]
noncomputable def fs32  : List (Nat × FSem) := []
noncomputable def body32 : Code := match Tryz.f32.body with | some c => c | none => .skip
theorem ty32 : chkTypes Tryz.prog ts32 = true := by kernel_rfl
theorem ev32  (k : Nat) (x : ((.cons (.slice VY0) .nil) : Tys).den) : evFun (mkEnv ts32 (fs32 )) H32 k body32 8 [.tmp 2] (explodes (.cons (.slice VY0) .nil) x) [] (dec (.cons (.slice VY0) .nil)) = f32  k x.1 := by kernel_rfl
def s32 (l : List VT6) : Option ((List VT6) × Unit) := if l.length ≤ 4294967296 then some (l, ()) else none
/-! ### jitney/jitref2.in -/
def f71  (k : Nat) (x0 : Int) (x1 : Int) (x2 : Int) : Option (Bool × Unit) :=
  bif (decide (x1 ≤ x0)) then
    some ((decide (x0 ≤ x2)), ())
  else
    some (false, ())
def H71 : Hints where
  loop := fun n => match n with
    | _ => none
  region := fun n => match n with
    | _ => none
  cond := fun n => match n with
    | _ => none
  block := fun n => match n with
    | _ => none
abbrev A71 : Tys := (.cons (.int .i64) (.cons (.int .i64) (.cons (.int .i64) .nil)))
def ts71 : List (Nat × TD) := [(3, (.data (.int .i64))), (4, (.data .bool))]
noncomputable def fs71  : List (Nat × FSem) := []
noncomputable def body71 : Code := match Tryz.f71.body with | some c => c | none => .skip
theorem ty71 : chkTypes Tryz.prog ts71 = true := by kernel_rfl
theorem ev71  (k : Nat) (x : ((.cons (.int .i64) (.cons (.int .i64) (.cons (.int .i64) .nil))) : Tys).den) : evFun (mkEnv ts71 (fs71 )) H71 k body71 15 [.tmp 6] (explodes (.cons (.int .i64) (.cons (.int .i64) (.cons (.int .i64) .nil))) x) [] (dec (.cons .bool .nil)) = f71  k x.1 x.2.1 x.2.2.1 := by kernel_rfl
/-! ### strings.IndexByte -/
def f145 (g182 : ByteArray → Int → (Int)) (k : Nat) (x0 : ByteArray) (x1 : Int) : Option (Int × Unit) :=
  some ((g182 x0 x1), ())
def H145 : Hints where
  loop := fun n => match n with
    | _ => none
  region := fun n => match n with
    | _ => none
  cond := fun n => match n with
    | _ => none
  block := fun n => match n with
    | _ => none
abbrev A145 : Tys := (.cons .str (.cons (.int .u8) .nil))
def ts145 : List (Nat × TD) := [(3, (.data (.int .i64))), (5, (.data (.int .u8))), (9, (.data .str))]
noncomputable def fs145 (g182 : ByteArray → Int → (Int)) : List (Nat × FSem) := [(182, .fn (.cons .str (.cons (.int .u8) .nil)) (.cons (.int .i64) .nil) fun x => ((g182 x.1 x.2.1), ()))]
noncomputable def body145 : Code := match Tryz.f145.body with | some c => c | none => .skip
theorem ty145 : chkTypes Tryz.prog ts145 = true := by kernel_rfl
theorem ev145 (g182 : ByteArray → Int → (Int)) (k : Nat) (x : ((.cons .str (.cons (.int .u8) .nil)) : Tys).den) : evFun (mkEnv ts145 (fs145 g182)) H145 k body145 8 [.tmp 4] (explodes (.cons .str (.cons (.int .u8) .nil)) x) [] (dec (.cons (.int .i64) .nil)) = f145 g182 k x.1 x.2.1 := by kernel_rfl
/-! ### jitney/jitref2.only -/
def f94 (g145 : ByteArray → Int → (Int)) (k : Nat) (x0 : ByteArray) (x1 : ByteArray) : Option (Bool × Unit) :=
  Option.bind (α := (Bool × Unit) ⊕ ((Unit) × (Unit))) (iter (σ := (Int × Unit) × (Unit)) (τ := (Bool × Unit) ⊕ ((Unit) × (Unit))) k (fun y1 =>
      bif (decide (y1.1.1 < ((ByteArray.size x0 : Nat) : Int))) then
        bif (inR y1.1.1 ((ByteArray.size x0 : Nat) : Int)) then
          bif (decide ((g145 x1 (bt x0 y1.1.1)) < (0 : Int))) then
            some (.inr (.inl (false, ())))
          else
            some (.inl (((IntKind.i64.wrap (y1.1.1 + (1 : Int))), ()), ()))
        else
          none
      else
        some (.inr (.inr ((), ())))) (((0 : Int), ()), ())) fun r => match r with
  | .inl z => some z
  | .inr z2 =>
    some (true, ())
def H94 : Hints where
  loop := fun n => match n with
    | 0 => some ({ slots := [(8, (.int .i64))], objs := [], gone := [] }, 0, { slots := [], objs := [], gone := [] })
    | _ => none
  region := fun n => match n with
    | _ => none
  cond := fun n => match n with
    | _ => none
  block := fun n => match n with
    | _ => none
abbrev A94 : Tys := (.cons .str (.cons .str .nil))
def ts94 : List (Nat × TD) := [(3, (.data (.int .i64))), (4, (.data .bool)), (9, (.data .str))]
noncomputable def fs94 (g145 : ByteArray → Int → (Int)) : List (Nat × FSem) := [(145, .fn (.cons .str (.cons (.int .u8) .nil)) (.cons (.int .i64) .nil) fun x => ((g145 x.1 x.2.1), ()))]
noncomputable def body94 : Code := match Tryz.f94.body with | some c => c | none => .skip
theorem ty94 : chkTypes Tryz.prog ts94 = true := by kernel_rfl
theorem ev94 (g145 : ByteArray → Int → (Int)) (k : Nat) (x : ((.cons .str (.cons .str .nil)) : Tys).den) : evFun (mkEnv ts94 (fs94 g145)) H94 k body94 18 [.tmp 4] (explodes (.cons .str (.cons .str .nil)) x) [] (dec (.cons .bool .nil)) = f94 g145 k x.1 x.2.1 := by kernel_rfl
/-! ### jitney/jitref2.Key -/
def f36 (g71 : Int → Int → Int → (Bool)) (g94 : ByteArray → ByteArray → (Bool)) (k : Nat) (x0 : ByteArray) : Option (Bool × Unit) :=
  bif (g71 ((ByteArray.size x0 : Nat) : Int) (1 : Int) (40 : Int)) then
    bif (decide (0 ≤ (0 : Int)) && (decide ((0 : Int) ≤ (1 : Int)) && decide ((1 : Int) ≤ ((ByteArray.size x0 : Nat) : Int)))) then
      bif (g94 (ByteArray.extract x0 (Int.toNat (0 : Int)) (Int.toNat (1 : Int))) (ByteArray.mk #[97, 98, 99, 100, 101, 102, 103, 104, 105, 106, 107, 108, 109, 110, 111, 112, 113, 114, 115, 116, 117, 118, 119, 120, 121, 122])) then
        some ((g94 x0 (ByteArray.mk #[97, 98, 99, 100, 101, 102, 103, 104, 105, 106, 107, 108, 109, 110, 111, 112, 113, 114, 115, 116, 117, 118, 119, 120, 121, 122, 48, 49, 50, 51, 52, 53, 54, 55, 56, 57, 45, 95])), ())
      else
        some (false, ())
    else
      none
  else
    some (false, ())
def H36 : Hints where
  loop := fun n => match n with
    | _ => none
  region := fun n => match n with
    | _ => none
  cond := fun n => match n with
    | _ => none
  block := fun n => match n with
    | _ => none
abbrev A36 : Tys := (.cons .str .nil)
def ts36 : List (Nat × TD) := [(4, (.data .bool)), (9, (.data .str))]
noncomputable def fs36 (g71 : Int → Int → Int → (Bool)) (g94 : ByteArray → ByteArray → (Bool)) : List (Nat × FSem) := [(71, .fn (.cons (.int .i64) (.cons (.int .i64) (.cons (.int .i64) .nil))) (.cons .bool .nil) fun x => ((g71 x.1 x.2.1 x.2.2.1), ())), (94, .fn (.cons .str (.cons .str .nil)) (.cons .bool .nil) fun x => ((g94 x.1 x.2.1), ()))]
noncomputable def body36 : Code := match Tryz.f36.body with | some c => c | none => .skip
theorem ty36 : chkTypes Tryz.prog ts36 = true := by kernel_rfl
theorem ev36 (g71 : Int → Int → Int → (Bool)) (g94 : ByteArray → ByteArray → (Bool)) (k : Nat) (x : ((.cons .str .nil) : Tys).den) : evFun (mkEnv ts36 (fs36 g71 g94)) H36 k body36 15 [.tmp 2] (explodes (.cons .str .nil) x) [] (dec (.cons .bool .nil)) = f36 g71 g94 k x.1 := by kernel_rfl
/-! ### jitney/jitref2.ServicesFault -/
def f33 (g36 : ByteArray → (Bool)) (g71 : Int → Int → Int → (Bool)) (k : Nat) (x0 : List VT5) : Option (Int × Unit) :=
  bif (decide (((List.length x0 : Nat) : Int) > (50 : Int))) then
    some ((2 : Int), ())
  else
    Option.bind (α := (Int × Unit) ⊕ ((Unit) × (Unit))) (iter (σ := VT2 × (Unit)) (τ := (Int × Unit) ⊕ ((Unit) × (Unit))) k (fun y1 =>
        bif (decide (y1.1.2.1 < ((List.length x0 : Nat) : Int))) then
          bif (inR y1.1.2.1 ((List.length x0 : Nat) : Int)) then
            Option.bind (α := ((VT2 × (Unit)) ⊕ ((Int × Unit) ⊕ ((Unit) × (Unit)))) ⊕ ((Unit) × (Unit))) (
                bif (!(g36 ((rd (α := VT5) zVT5 x0 y1.1.2.1).1))) then
                  some (.inl (.inr (.inl ((5 : Int), ()))))
                else
                  bif ((sLt ((rd (α := VT5) zVT5 x0 y1.1.2.1).1) y1.1.1) || (sEq ((rd (α := VT5) zVT5 x0 y1.1.2.1).1) y1.1.1)) then
                    some (.inl (.inr (.inl ((7 : Int), ()))))
                  else
                    bif (!(g71 ((rd (α := VT5) zVT5 x0 y1.1.2.1).2.1) (0 : Int) (1000000000 : Int))) then
                      some (.inl (.inr (.inl ((1 : Int), ()))))
                    else
                      bif (!(g71 ((rd (α := VT5) zVT5 x0 y1.1.2.1).2.2.1) (0 : Int) (4000 : Int))) then
                        some (.inl (.inr (.inl ((1 : Int), ()))))
                      else
                        bif ((rd (α := VT5) zVT5 x0 y1.1.2.1).2.1 == (0 : Int)) then
                          bif ((rd (α := VT5) zVT5 x0 y1.1.2.1).2.2.1 == (0 : Int)) then
                            some (.inl (.inr (.inl ((3 : Int), ()))))
                          else
                            some (.inr ((), ()))
                        else
                          some (.inr ((), ()))) fun r => match r with
            | .inl z => some z
            | .inr y2 =>
              some (.inl (((rd (α := VT5) zVT5 x0 y1.1.2.1).1, (IntKind.i64.wrap (y1.1.2.1 + (1 : Int))), ()), ()))
          else
            none
        else
          some (.inr (.inr ((), ())))) (((ByteArray.mk #[]), (0 : Int), ()), ())) fun r => match r with
    | .inl z => some z
    | .inr z3 =>
      some ((0 : Int), ())
def H33 : Hints where
  loop := fun n => match n with
    | 0 => some ({ slots := [(3, .str), (11, (.int .i64))], objs := [], gone := [] }, 0, { slots := [], objs := [], gone := [] })
    | _ => none
  region := fun n => match n with
    | _ => none
  cond := fun n => match n with
    | _ => none
  block := fun n => match n with
    | 2 => some { slots := [], objs := [], gone := [] }
    | _ => none
abbrev A33 : Tys := (.cons (.slice VY2) .nil)
def ts33 : List (Nat × TD) := [(3, (.data (.int .i64))), (9, (.data .str)), (32, (.data (.int .i64))), (56, (.data (.slice VY2))), (65, (.data VY2))]
noncomputable def fs33 (g36 : ByteArray → (Bool)) (g71 : Int → Int → Int → (Bool)) : List (Nat × FSem) := [(36, .fn (.cons .str .nil) (.cons .bool .nil) fun x => ((g36 x.1), ())), (71, .fn (.cons (.int .i64) (.cons (.int .i64) (.cons (.int .i64) .nil))) (.cons .bool .nil) fun x => ((g71 x.1 x.2.1 x.2.2.1), ()))]
noncomputable def body33 : Code := match Tryz.f33.body with | some c => c | none => .skip
theorem ty33 : chkTypes Tryz.prog ts33 = true := by kernel_rfl
theorem ev33 (g36 : ByteArray → (Bool)) (g71 : Int → Int → Int → (Bool)) (k : Nat) (x : ((.cons (.slice VY2) .nil) : Tys).den) : evFun (mkEnv ts33 (fs33 g36 g71)) H33 k body33 48 [.tmp 2] (explodes (.cons (.slice VY2) .nil) x) [] (dec (.cons (.int .i64) .nil)) = f33 g36 g71 k x.1 := by kernel_rfl
/-! ### jitney/jitref2.RunsFault -/
def f34 (g36 : ByteArray → (Bool)) (g71 : Int → Int → Int → (Bool)) (k : Nat) (x0 : List VT10) : Option (Int × Unit) :=
  bif (decide (((List.length x0 : Nat) : Int) > (1000 : Int))) then
    some ((2 : Int), ())
  else
    Option.bind (α := (Int × Unit) ⊕ ((Unit) × (Unit))) (iter (σ := (Int × Unit) × (Unit)) (τ := (Int × Unit) ⊕ ((Unit) × (Unit))) k (fun y1 =>
        bif (decide (y1.1.1 < ((List.length x0 : Nat) : Int))) then
          bif (inR y1.1.1 ((List.length x0 : Nat) : Int)) then
            bif (!(g36 ((rd (α := VT10) zVT10 x0 y1.1.1).1))) then
              some (.inr (.inl ((5 : Int), ())))
            else
              bif (decide ((rd (α := VT10) zVT10 x0 y1.1.1).2.1.1 < (0 : Int))) then
                some (.inr (.inl ((1 : Int), ())))
              else
                bif (decide ((rd (α := VT10) zVT10 x0 y1.1.1).2.1.1 ≥ (rd (α := VT10) zVT10 x0 y1.1.1).2.1.2.1)) then
                  some (.inr (.inl ((1 : Int), ())))
                else
                  bif (decide ((rd (α := VT10) zVT10 x0 y1.1.1).2.1.2.1 > (345686400000 : Int))) then
                    some (.inr (.inl ((1 : Int), ())))
                  else
                    bif (!(g71 ((rd (α := VT10) zVT10 x0 y1.1.1).2.2.1) (0 : Int) (1000000000 : Int))) then
                      some (.inr (.inl ((1 : Int), ())))
                    else
                      bif (!(g71 ((rd (α := VT10) zVT10 x0 y1.1.1).2.2.2.1) (0 : Int) (1000000 : Int))) then
                        some (.inr (.inl ((1 : Int), ())))
                      else
                        bif (y1.1.1 == (0 : Int)) then
                          some (.inl (((IntKind.i64.wrap (y1.1.1 + (1 : Int))), ()), ()))
                        else
                          bif (inR (IntKind.i64.wrap (y1.1.1 - (1 : Int))) ((List.length x0 : Nat) : Int)) then
                            bif (sLt ((rd (α := VT10) zVT10 x0 y1.1.1).1) ((rd (α := VT10) zVT10 x0 (IntKind.i64.wrap (y1.1.1 - (1 : Int)))).1)) then
                              some (.inr (.inl ((7 : Int), ())))
                            else
                              bif (sEq ((rd (α := VT10) zVT10 x0 y1.1.1).1) ((rd (α := VT10) zVT10 x0 (IntKind.i64.wrap (y1.1.1 - (1 : Int)))).1)) then
                                bif (decide ((rd (α := VT10) zVT10 x0 y1.1.1).2.1.1 < (rd (α := VT10) zVT10 x0 (IntKind.i64.wrap (y1.1.1 - (1 : Int)))).2.1.2.1)) then
                                  some (.inr (.inl ((7 : Int), ())))
                                else
                                  some (.inl (((IntKind.i64.wrap (y1.1.1 + (1 : Int))), ()), ()))
                              else
                                some (.inl (((IntKind.i64.wrap (y1.1.1 + (1 : Int))), ()), ()))
                          else
                            none
          else
            none
        else
          some (.inr (.inr ((), ())))) (((0 : Int), ()), ())) fun r => match r with
    | .inl z => some z
    | .inr z2 =>
      some ((0 : Int), ())
def H34 : Hints where
  loop := fun n => match n with
    | 0 => some ({ slots := [(11, (.int .i64))], objs := [], gone := [] }, 0, { slots := [], objs := [], gone := [] })
    | _ => none
  region := fun n => match n with
    | _ => none
  cond := fun n => match n with
    | _ => none
  block := fun n => match n with
    | _ => none
abbrev A34 : Tys := (.cons (.slice VY6) .nil)
def ts34 : List (Nat × TD) := [(3, (.data (.int .i64))), (9, (.data .str)), (30, (.data VY1)), (32, (.data (.int .i64))), (57, (.data (.slice VY6))), (68, (.data VY6))]
noncomputable def fs34 (g36 : ByteArray → (Bool)) (g71 : Int → Int → Int → (Bool)) : List (Nat × FSem) := [(36, .fn (.cons .str .nil) (.cons .bool .nil) fun x => ((g36 x.1), ())), (71, .fn (.cons (.int .i64) (.cons (.int .i64) (.cons (.int .i64) .nil))) (.cons .bool .nil) fun x => ((g71 x.1 x.2.1 x.2.2.1), ()))]
noncomputable def body34 : Code := match Tryz.f34.body with | some c => c | none => .skip
theorem ty34 : chkTypes Tryz.prog ts34 = true := by kernel_rfl
theorem ev34 (g36 : ByteArray → (Bool)) (g71 : Int → Int → Int → (Bool)) (k : Nat) (x : ((.cons (.slice VY6) .nil) : Tys).den) : evFun (mkEnv ts34 (fs34 g36 g71)) H34 k body34 82 [.tmp 2] (explodes (.cons (.slice VY6) .nil) x) [] (dec (.cons (.int .i64) .nil)) = f34 g36 g71 k x.1 := by kernel_rfl
/-! ### jitney/jitlaw2.when -/
def f35  (k : Nat) (x0 : Bool) (x1 : Int) : Option (Int × Unit) :=
  bif x0 then
    some (x1, ())
  else
    some ((0 : Int), ())
def H35 : Hints where
  loop := fun n => match n with
    | _ => none
  region := fun n => match n with
    | _ => none
  cond := fun n => match n with
    | _ => none
  block := fun n => match n with
    | _ => none
abbrev A35 : Tys := (.cons .bool (.cons (.int .i64) .nil))
def ts35 : List (Nat × TD) := [(4, (.data .bool)), (32, (.data (.int .i64)))]
noncomputable def fs35  : List (Nat × FSem) := []
noncomputable def body35 : Code := match Tryz.f35.body with | some c => c | none => .skip
theorem ty35 : chkTypes Tryz.prog ts35 = true := by kernel_rfl
theorem ev35  (k : Nat) (x : ((.cons .bool (.cons (.int .i64) .nil)) : Tys).den) : evFun (mkEnv ts35 (fs35 )) H35 k body35 7 [.tmp 4] (explodes (.cons .bool (.cons (.int .i64) .nil)) x) [] (dec (.cons (.int .i64) .nil)) = f35  k x.1 x.2.1 := by kernel_rfl
/-! ### jitney/jitref2.Moment -/
def f37 (g71 : Int → Int → Int → (Bool)) (k : Nat) (x0 : Int) : Option (Bool × Unit) :=
  some ((g71 x0 (0 : Int) (345686399999 : Int)), ())
def H37 : Hints where
  loop := fun n => match n with
    | _ => none
  region := fun n => match n with
    | _ => none
  cond := fun n => match n with
    | _ => none
  block := fun n => match n with
    | _ => none
abbrev A37 : Tys := (.cons (.int .i64) .nil)
def ts37 : List (Nat × TD) := [(3, (.data (.int .i64))), (4, (.data .bool))]
noncomputable def fs37 (g71 : Int → Int → Int → (Bool)) : List (Nat × FSem) := [(71, .fn (.cons (.int .i64) (.cons (.int .i64) (.cons (.int .i64) .nil))) (.cons .bool .nil) fun x => ((g71 x.1 x.2.1 x.2.2.1), ()))]
noncomputable def body37 : Code := match Tryz.f37.body with | some c => c | none => .skip
theorem ty37 : chkTypes Tryz.prog ts37 = true := by kernel_rfl
theorem ev37 (g71 : Int → Int → Int → (Bool)) (k : Nat) (x : ((.cons (.int .i64) .nil) : Tys).den) : evFun (mkEnv ts37 (fs37 g71)) H37 k body37 5 [.tmp 2] (explodes (.cons (.int .i64) .nil) x) [] (dec (.cons .bool .nil)) = f37 g71 k x.1 := by kernel_rfl
/-! ### jitney/jitref2.VehiclesFault -/
def f38 (g36 : ByteArray → (Bool)) (g71 : Int → Int → Int → (Bool)) (k : Nat) (x0 : List VT8) : Option (Int × Unit) :=
  bif (decide (((List.length x0 : Nat) : Int) > (200 : Int))) then
    some ((2 : Int), ())
  else
    Option.bind (α := (Int × Unit) ⊕ ((Unit) × (Unit))) (iter (σ := VT2 × (Unit)) (τ := (Int × Unit) ⊕ ((Unit) × (Unit))) k (fun y1 =>
        bif (decide (y1.1.2.1 < ((List.length x0 : Nat) : Int))) then
          bif (inR y1.1.2.1 ((List.length x0 : Nat) : Int)) then
            bif (!(g36 ((rd (α := VT8) zVT8 x0 y1.1.2.1).1))) then
              some (.inr (.inl ((5 : Int), ())))
            else
              bif ((sLt ((rd (α := VT8) zVT8 x0 y1.1.2.1).1) y1.1.1) || (sEq ((rd (α := VT8) zVT8 x0 y1.1.2.1).1) y1.1.1)) then
                some (.inr (.inl ((7 : Int), ())))
              else
                bif (!(g71 ((rd (α := VT8) zVT8 x0 y1.1.2.1).2.1) (1 : Int) (1000000 : Int))) then
                  some (.inr (.inl ((1 : Int), ())))
                else
                  bif (!(g71 ((rd (α := VT8) zVT8 x0 y1.1.2.1).2.2.1) (0 : Int) ((rd (α := VT8) zVT8 x0 y1.1.2.1).2.1))) then
                    some (.inr (.inl ((1 : Int), ())))
                  else
                    bif (!(g71 ((rd (α := VT8) zVT8 x0 y1.1.2.1).2.2.2.1) (1 : Int) (1000000 : Int))) then
                      some (.inr (.inl ((1 : Int), ())))
                    else
                      bif (!(g71 ((rd (α := VT8) zVT8 x0 y1.1.2.1).2.2.2.2.1) (0 : Int) (1000 : Int))) then
                        some (.inr (.inl ((1 : Int), ())))
                      else
                        some (.inl (((rd (α := VT8) zVT8 x0 y1.1.2.1).1, (IntKind.i64.wrap (y1.1.2.1 + (1 : Int))), ()), ()))
          else
            none
        else
          some (.inr (.inr ((), ())))) (((ByteArray.mk #[]), (0 : Int), ()), ())) fun r => match r with
    | .inl z => some z
    | .inr z2 =>
      some ((0 : Int), ())
def H38 : Hints where
  loop := fun n => match n with
    | 0 => some ({ slots := [(3, .str), (11, (.int .i64))], objs := [], gone := [] }, 0, { slots := [], objs := [], gone := [] })
    | _ => none
  region := fun n => match n with
    | _ => none
  cond := fun n => match n with
    | _ => none
  block := fun n => match n with
    | _ => none
abbrev A38 : Tys := (.cons (.slice VY5) .nil)
def ts38 : List (Nat × TD) := [(3, (.data (.int .i64))), (9, (.data .str)), (32, (.data (.int .i64))), (55, (.data (.slice VY5))), (72, (.data VY5))]
noncomputable def fs38 (g36 : ByteArray → (Bool)) (g71 : Int → Int → Int → (Bool)) : List (Nat × FSem) := [(36, .fn (.cons .str .nil) (.cons .bool .nil) fun x => ((g36 x.1), ())), (71, .fn (.cons (.int .i64) (.cons (.int .i64) (.cons (.int .i64) .nil))) (.cons .bool .nil) fun x => ((g71 x.1 x.2.1 x.2.2.1), ()))]
noncomputable def body38 : Code := match Tryz.f38.body with | some c => c | none => .skip
theorem ty38 : chkTypes Tryz.prog ts38 = true := by kernel_rfl
theorem ev38 (g36 : ByteArray → (Bool)) (g71 : Int → Int → Int → (Bool)) (k : Nat) (x : ((.cons (.slice VY5) .nil) : Tys).den) : evFun (mkEnv ts38 (fs38 g36 g71)) H38 k body38 53 [.tmp 2] (explodes (.cons (.slice VY5) .nil) x) [] (dec (.cons (.int .i64) .nil)) = f38 g36 g71 k x.1 := by kernel_rfl
/-! ### jitney/jitref2.ChargedFault -/
def f39 (g36 : ByteArray → (Bool)) (g71 : Int → Int → Int → (Bool)) (k : Nat) (x0 : List VT9) : Option (Int × Unit) :=
  bif (decide (((List.length x0 : Nat) : Int) > (1000 : Int))) then
    some ((2 : Int), ())
  else
    Option.bind (α := (Int × Unit) ⊕ ((Unit) × (Unit))) (iter (σ := (Int × Unit) × (Unit)) (τ := (Int × Unit) ⊕ ((Unit) × (Unit))) k (fun y1 =>
        bif (decide (y1.1.1 < ((List.length x0 : Nat) : Int))) then
          bif (inR y1.1.1 ((List.length x0 : Nat) : Int)) then
            Option.bind (α := (((Int × Unit) × (Unit)) ⊕ ((Int × Unit) ⊕ ((Unit) × (Unit)))) ⊕ ((Bool × Unit) × (Unit))) (
                bif ((rd (α := VT9) zVT9 x0 y1.1.1).2.2.1 == (-1 : Int)) then
                  some (.inr ((((rd (α := VT9) zVT9 x0 y1.1.1).2.2.2.1 == (-1 : Int)), ()), ()))
                else
                  some (.inr ((false, ()), ()))) fun r => match r with
            | .inl z => some z
            | .inr y2 =>
              bif (!(g36 ((rd (α := VT9) zVT9 x0 y1.1.1).1))) then
                some (.inr (.inl ((5 : Int), ())))
              else
                bif (!(g36 ((rd (α := VT9) zVT9 x0 y1.1.1).2.1))) then
                  some (.inr (.inl ((5 : Int), ())))
                else
                  bif (!y2.1.1) then
                    bif (!(g71 ((rd (α := VT9) zVT9 x0 y1.1.1).2.2.1) (0 : Int) ((rd (α := VT9) zVT9 x0 y1.1.1).2.2.2.1))) then
                      some (.inr (.inl ((1 : Int), ())))
                    else
                      bif (decide ((rd (α := VT9) zVT9 x0 y1.1.1).2.2.2.1 > (345686400000 : Int))) then
                        some (.inr (.inl ((1 : Int), ())))
                      else
                        bif (!(g71 ((rd (α := VT9) zVT9 x0 y1.1.1).2.2.2.2.1) (0 : Int) (1000000 : Int))) then
                          some (.inr (.inl ((1 : Int), ())))
                        else
                          some (.inl (((IntKind.i64.wrap (y1.1.1 + (1 : Int))), ()), ()))
                  else
                    bif (!(g71 ((rd (α := VT9) zVT9 x0 y1.1.1).2.2.2.2.1) (0 : Int) (1000000 : Int))) then
                      some (.inr (.inl ((1 : Int), ())))
                    else
                      some (.inl (((IntKind.i64.wrap (y1.1.1 + (1 : Int))), ()), ()))
          else
            none
        else
          some (.inr (.inr ((), ())))) (((0 : Int), ()), ())) fun r => match r with
    | .inl z => some z
    | .inr z3 =>
      some ((0 : Int), ())
def H39 : Hints where
  loop := fun n => match n with
    | 0 => some ({ slots := [(11, (.int .i64))], objs := [], gone := [] }, 0, { slots := [], objs := [], gone := [] })
    | _ => none
  region := fun n => match n with
    | 6 => some { slots := [(5, .bool)], objs := [], gone := [] }
    | _ => none
  cond := fun n => match n with
    | _ => none
  block := fun n => match n with
    | _ => none
abbrev A39 : Tys := (.cons (.slice VY4) .nil)
def ts39 : List (Nat × TD) := [(3, (.data (.int .i64))), (9, (.data .str)), (32, (.data (.int .i64))), (58, (.data (.slice VY4))), (75, (.data VY4))]
noncomputable def fs39 (g36 : ByteArray → (Bool)) (g71 : Int → Int → Int → (Bool)) : List (Nat × FSem) := [(36, .fn (.cons .str .nil) (.cons .bool .nil) fun x => ((g36 x.1), ())), (71, .fn (.cons (.int .i64) (.cons (.int .i64) (.cons (.int .i64) .nil))) (.cons .bool .nil) fun x => ((g71 x.1 x.2.1 x.2.2.1), ()))]
noncomputable def body39 : Code := match Tryz.f39.body with | some c => c | none => .skip
theorem ty39 : chkTypes Tryz.prog ts39 = true := by kernel_rfl
theorem ev39 (g36 : ByteArray → (Bool)) (g71 : Int → Int → Int → (Bool)) (k : Nat) (x : ((.cons (.slice VY4) .nil) : Tys).den) : evFun (mkEnv ts39 (fs39 g36 g71)) H39 k body39 57 [.tmp 2] (explodes (.cons (.slice VY4) .nil) x) [] (dec (.cons (.int .i64) .nil)) = f39 g36 g71 k x.1 := by kernel_rfl
/-! ### strconv.Itoa -/
def f107 (g155 : Int → Option (ByteArray × Unit)) (k : Nat) (x0 : Int) : Option (ByteArray × Unit) :=
  Option.bind (g155 x0) fun v1 =>
  some (v1.1, ())
def H107 : Hints where
  loop := fun n => match n with
    | _ => none
  region := fun n => match n with
    | _ => none
  cond := fun n => match n with
    | _ => none
  block := fun n => match n with
    | _ => none
abbrev A107 : Tys := (.cons (.int .i64) .nil)
def ts107 : List (Nat × TD) := [(3, (.data (.int .i64))), (9, (.data .str))]
noncomputable def fs107 (g155 : Int → Option (ByteArray × Unit)) : List (Nat × FSem) := [(155, .pfn (.cons (.int .i64) .nil) (.cons .str .nil) fun x => (g155 x.1))]
noncomputable def body107 : Code := match Tryz.f107.body with | some c => c | none => .skip
theorem ty107 : chkTypes Tryz.prog ts107 = true := by kernel_rfl
theorem ev107 (g155 : Int → Option (ByteArray × Unit)) (k : Nat) (x : ((.cons (.int .i64) .nil) : Tys).den) : evFun (mkEnv ts107 (fs107 g155)) H107 k body107 5 [.tmp 2] (explodes (.cons (.int .i64) .nil) x) [] (dec (.cons .str .nil)) = f107 g155 k x.1 := by kernel_rfl
/-! ### jitney/jitref2.Number -/
def f95 (g94 : ByteArray → ByteArray → (Bool)) (g107 : Int → Option (ByteArray × Unit)) (g146 : ByteArray → ByteArray → (ByteArray)) (k : Nat) (x0 : ByteArray) (x1 : Int) : Option VT1 :=
  bif (sEq (g146 x0 (ByteArray.mk #[45])) (ByteArray.mk #[])) then
    some zVT1
  else
    bif (decide (((ByteArray.size (g146 x0 (ByteArray.mk #[45])) : Nat) : Int) > x1)) then
      some zVT1
    else
      bif (!(g94 (g146 x0 (ByteArray.mk #[45])) (ByteArray.mk #[48, 49, 50, 51, 52, 53, 54, 55, 56, 57]))) then
        some zVT1
      else
        bif (decide (ByteArray.size x0 ≤ 281474976710656)) then
          bif (aOk x0) then
            Option.bind (g107 (aVal x0)) fun v1 =>
            some ((aVal x0), (sEq v1.1 x0), ())
          else
            none
        else
          none
def H95 : Hints where
  loop := fun n => match n with
    | _ => none
  region := fun n => match n with
    | _ => none
  cond := fun n => match n with
    | _ => none
  block := fun n => match n with
    | _ => none
abbrev A95 : Tys := (.cons .str (.cons (.int .i64) .nil))
def ts95 : List (Nat × TD) := [(3, (.data (.int .i64))), (4, (.data .bool)), (9, (.data .str)), (162, (.cell .iface))]
noncomputable def fs95 (g94 : ByteArray → ByteArray → (Bool)) (g107 : Int → Option (ByteArray × Unit)) (g146 : ByteArray → ByteArray → (ByteArray)) : List (Nat × FSem) := [(94, .fn (.cons .str (.cons .str .nil)) (.cons .bool .nil) fun x => ((g94 x.1 x.2.1), ())), (107, .pfn (.cons (.int .i64) .nil) (.cons .str .nil) fun x => (g107 x.1)), (146, .fn (.cons .str (.cons .str .nil)) (.cons .str .nil) fun x => ((g146 x.1 x.2.1), ())), (147, .atoi)]
noncomputable def body95 : Code := match Tryz.f95.body with | some c => c | none => .skip
theorem ty95 : chkTypes Tryz.prog ts95 = true := by kernel_rfl
theorem ev95 (g94 : ByteArray → ByteArray → (Bool)) (g107 : Int → Option (ByteArray × Unit)) (g146 : ByteArray → ByteArray → (ByteArray)) (k : Nat) (x : ((.cons .str (.cons (.int .i64) .nil)) : Tys).den) : evFun (mkEnv ts95 (fs95 g94 g107 g146)) H95 k body95 38 [.tmp 4, .tmp 5] (explodes (.cons .str (.cons (.int .i64) .nil)) x) [] (dec (.cons (.int .i64) (.cons .bool .nil))) = f95 g94 g107 g146 k x.1 x.2.1 := by kernel_rfl
/-! ### jitney/jitref2.LevelsFault -/
def f40 (g36 : ByteArray → (Bool)) (g71 : Int → Int → Int → (Bool)) (g95 : ByteArray → Int → Option VT1) (k : Nat) (x0 : List VT6) : Option (Int × Unit) :=
  bif (decide (((List.length x0 : Nat) : Int) > (200 : Int))) then
    some ((2 : Int), ())
  else
    Option.bind (α := (Int × Unit) ⊕ ((Unit) × (Unit))) (iter (σ := (Int × Unit) × (Unit)) (τ := (Int × Unit) ⊕ ((Unit) × (Unit))) k (fun y1 =>
        bif (decide (y1.1.1 < ((List.length x0 : Nat) : Int))) then
          bif (inR y1.1.1 ((List.length x0 : Nat) : Int)) then
            Option.bind (g95 ((rd (α := VT6) zVT6 x0 y1.1.1).2.1) (15 : Int)) fun v2 =>
            bif (!(g36 ((rd (α := VT6) zVT6 x0 y1.1.1).1))) then
              some (.inr (.inl ((5 : Int), ())))
            else
              bif (!v2.2.1) then
                some (.inr (.inl ((3 : Int), ())))
              else
                bif (!(g71 v2.1 (0 : Int) (1000000 : Int))) then
                  some (.inr (.inl ((3 : Int), ())))
                else
                  bif (decide (0 ≤ (0 : Int)) && (decide ((0 : Int) ≤ y1.1.1) && decide (y1.1.1 ≤ ((List.length x0 : Nat) : Int)))) then
                    Option.bind (α := (((Int × Unit) × (Unit)) ⊕ ((Int × Unit) ⊕ ((Unit) × (Unit)))) ⊕ ((Unit) × VT7)) (iter (σ := (Int × Unit) × VT7) (τ := (((Int × Unit) × (Unit)) ⊕ ((Int × Unit) ⊕ ((Unit) × (Unit)))) ⊕ ((Unit) × VT7)) k (fun y3 =>
                        bif (decide (y3.1.1 < ((List.length (List.drop (Int.toNat (0 : Int)) (List.take (Int.toNat y1.1.1) x0)) : Nat) : Int))) then
                          bif (inR y3.1.1 ((List.length (List.drop (Int.toNat (0 : Int)) (List.take (Int.toNat y1.1.1) x0)) : Nat) : Int)) then
                            bif (sEq ((rd (α := VT6) zVT6 (List.drop (Int.toNat (0 : Int)) (List.take (Int.toNat y1.1.1) x0)) y3.1.1).1) y3.2.1.1) then
                              Option.map (fun z => .inr (.inl z)) (
                                bif (decide (y3.1.1 ≥ (0 : Int))) then
                                  some (.inr (.inl ((6 : Int), ())))
                                else
                                  some (.inl (((IntKind.i64.wrap (y1.1.1 + (1 : Int))), ()), ())))
                            else
                              some (.inl (((IntKind.i64.wrap (y3.1.1 + (1 : Int))), ()), ((y3.2.1.1, y3.2.1.2.1, ()), ())))
                          else
                            none
                        else
                          some (.inr (.inr ((), ((y3.2.1.1, y3.2.1.2.1, ()), ()))))) (((0 : Int), ()), ((rd (α := VT6) zVT6 x0 y1.1.1), ()))) fun r => match r with
                    | .inl z => some z
                    | .inr z4 =>
                      some (.inl (((IntKind.i64.wrap (y1.1.1 + (1 : Int))), ()), ()))
                  else
                    none
          else
            none
        else
          some (.inr (.inr ((), ())))) (((0 : Int), ()), ())) fun r => match r with
    | .inl z => some z
    | .inr z5 =>
      some ((0 : Int), ())
def H40 : Hints where
  loop := fun n => match n with
    | 0 => some ({ slots := [(12, (.int .i64))], objs := [], gone := [] }, 0, { slots := [], objs := [], gone := [] })
    | _ => none
  region := fun n => match n with
    | _ => none
  cond := fun n => match n with
    | _ => none
  block := fun n => match n with
    | _ => none
def Hi40_97 : Hints where
  loop := fun n => match n with
    | _ => none
  region := fun n => match n with
    | _ => none
  cond := fun n => match n with
    | _ => none
  block := fun n => match n with
    | _ => none
def tsi40_97 : List (Nat × TD) := [(9, (.data .str)), (78, (.data VY0))]
noncomputable def bodyi40_97 : Code := match Tryz.f97.body with | some c => c | none => .skip
noncomputable def fsi40_97 (g36 : ByteArray → (Bool)) (g71 : Int → Int → Int → (Bool)) (g95 : ByteArray → Int → Option VT1) (k : Nat) : List (Nat × FSem) := []
theorem tyi40_97 : chkTypes Tryz.prog tsi40_97 = true := by kernel_rfl
def Hi40_148 : Hints where
  loop := fun n => match n with
    | 0 => some ({ slots := [(8, (.int .i64))], objs := [(0, (.box (.data VY0) (.agg (.cons .str (.cons .str .nil)))))], gone := [] }, 0, { slots := [], objs := [(0, (.box (.data VY0) (.agg (.cons .str (.cons .str .nil)))))], gone := [] })
    | _ => none
  region := fun n => match n with
    | _ => none
  cond := fun n => match n with
    | _ => none
  block := fun n => match n with
    | _ => none
def tsi40_148 : List (Nat × TD) := [(3, (.data (.int .i64))), (59, (.data (.slice VY0))), (78, (.data VY0))]
noncomputable def bodyi40_148 : Code := match Tryz.f148.body with | some c => c | none => .skip
noncomputable def fsi40_148 (g36 : ByteArray → (Bool)) (g71 : Int → Int → Int → (Bool)) (g95 : ByteArray → Int → Option VT1) (k : Nat) : List (Nat × FSem) := [(97, .ev (mkEnv tsi40_97 (fsi40_97 g36 g71 g95 k)) Hi40_97 k bodyi40_97 9 [.tmp 3])]
theorem tyi40_148 : chkTypes Tryz.prog tsi40_148 = true := by kernel_rfl
def Hi40_96 : Hints where
  loop := fun n => match n with
    | _ => none
  region := fun n => match n with
    | _ => none
  cond := fun n => match n with
    | _ => none
  block := fun n => match n with
    | _ => none
def tsi40_96 : List (Nat × TD) := [(3, (.data (.int .i64)))]
noncomputable def bodyi40_96 : Code := match Tryz.f96.body with | some c => c | none => .skip
noncomputable def fsi40_96 (g36 : ByteArray → (Bool)) (g71 : Int → Int → Int → (Bool)) (g95 : ByteArray → Int → Option VT1) (k : Nat) : List (Nat × FSem) := [(148, .ev (mkEnv tsi40_148 (fsi40_148 g36 g71 g95 k)) Hi40_148 k bodyi40_148 19 [.tmp 4])]
theorem tyi40_96 : chkTypes Tryz.prog tsi40_96 = true := by kernel_rfl
abbrev A40 : Tys := (.cons (.slice VY0) .nil)
def ts40 : List (Nat × TD) := [(3, (.data (.int .i64))), (9, (.data .str)), (32, (.data (.int .i64))), (59, (.data (.slice VY0))), (78, (.data VY0))]
noncomputable def fs40 (g36 : ByteArray → (Bool)) (g71 : Int → Int → Int → (Bool)) (g95 : ByteArray → Int → Option VT1) (k : Nat) : List (Nat × FSem) := [(36, .fn (.cons .str .nil) (.cons .bool .nil) fun x => ((g36 x.1), ())), (71, .fn (.cons (.int .i64) (.cons (.int .i64) (.cons (.int .i64) .nil))) (.cons .bool .nil) fun x => ((g71 x.1 x.2.1 x.2.2.1), ())), (95, .pfn (.cons .str (.cons (.int .i64) .nil)) (.cons (.int .i64) (.cons .bool .nil)) fun x => (g95 x.1 x.2.1)), (96, .ev (mkEnv tsi40_96 (fsi40_96 g36 g71 g95 k)) Hi40_96 k bodyi40_96 9 [.tmp 4])]
noncomputable def body40 : Code := match Tryz.f40.body with | some c => c | none => .skip
theorem ty40 : chkTypes Tryz.prog ts40 = true := by kernel_rfl
theorem ev40 (g36 : ByteArray → (Bool)) (g71 : Int → Int → Int → (Bool)) (g95 : ByteArray → Int → Option VT1) (k : Nat) (x : ((.cons (.slice VY0) .nil) : Tys).den) : evFun (mkEnv ts40 (fs40 g36 g71 g95 k)) H40 k body40 43 [.tmp 2] (explodes (.cons (.slice VY0) .nil) x) [] (dec (.cons (.int .i64) .nil)) = f40 g36 g71 g95 k x.1 := by kernel_rfl
/-! ### jitney/jitlaw2.momentFault -/
def f41 (g35 : Bool → Int → (Int)) (g37 : Int → (Bool)) (k : Nat) (x0 : Int) : Option (Int × Unit) :=
  some ((g35 (!(g37 x0)) (1 : Int)), ())
def H41 : Hints where
  loop := fun n => match n with
    | _ => none
  region := fun n => match n with
    | _ => none
  cond := fun n => match n with
    | _ => none
  block := fun n => match n with
    | _ => none
abbrev A41 : Tys := (.cons (.int .i64) .nil)
def ts41 : List (Nat × TD) := [(3, (.data (.int .i64))), (32, (.data (.int .i64)))]
noncomputable def fs41 (g35 : Bool → Int → (Int)) (g37 : Int → (Bool)) : List (Nat × FSem) := [(35, .fn (.cons .bool (.cons (.int .i64) .nil)) (.cons (.int .i64) .nil) fun x => ((g35 x.1 x.2.1), ())), (37, .fn (.cons (.int .i64) .nil) (.cons .bool .nil) fun x => ((g37 x.1), ()))]
noncomputable def body41 : Code := match Tryz.f41.body with | some c => c | none => .skip
theorem ty41 : chkTypes Tryz.prog ts41 = true := by kernel_rfl
theorem ev41 (g35 : Bool → Int → (Int)) (g37 : Int → (Bool)) (k : Nat) (x : ((.cons (.int .i64) .nil) : Tys).den) : evFun (mkEnv ts41 (fs41 g35 g37)) H41 k body41 7 [.tmp 2] (explodes (.cons (.int .i64) .nil) x) [] (dec (.cons (.int .i64) .nil)) = f41 g35 g37 k x.1 := by kernel_rfl
/-! ### jitney/jitref2.levelOf -/
def f98  (k : Nat) (x0 : List VT6) (x1 : ByteArray) : Option (Int × Unit) :=
  Option.bind (α := (Int × Unit) ⊕ ((Unit) × (Unit))) (iter (σ := (Int × Unit) × (Unit)) (τ := (Int × Unit) ⊕ ((Unit) × (Unit))) k (fun y1 =>
      bif (decide (y1.1.1 < ((List.length x0 : Nat) : Int))) then
        bif (inR y1.1.1 ((List.length x0 : Nat) : Int)) then
          bif (sEq ((rd (α := VT6) zVT6 x0 y1.1.1).1) x1) then
            bif (decide (ByteArray.size ((rd (α := VT6) zVT6 x0 y1.1.1).2.1) ≤ 281474976710656)) then
              bif (aOk ((rd (α := VT6) zVT6 x0 y1.1.1).2.1)) then
                some (.inr (.inl ((aVal ((rd (α := VT6) zVT6 x0 y1.1.1).2.1)), ())))
              else
                some (.inr (.inl ((aVal ((rd (α := VT6) zVT6 x0 y1.1.1).2.1)), ())))
            else
              none
          else
            some (.inl (((IntKind.i64.wrap (y1.1.1 + (1 : Int))), ()), ()))
        else
          none
      else
        some (.inr (.inr ((), ())))) (((0 : Int), ()), ())) fun r => match r with
  | .inl z => some z
  | .inr z2 =>
    some ((0 : Int), ())
def H98 : Hints where
  loop := fun n => match n with
    | 0 => some ({ slots := [(11, (.int .i64))], objs := [], gone := [] }, 0, { slots := [], objs := [], gone := [] })
    | _ => none
  region := fun n => match n with
    | _ => none
  cond := fun n => match n with
    | _ => none
  block := fun n => match n with
    | _ => none
abbrev A98 : Tys := (.cons (.slice VY0) (.cons .str .nil))
def ts98 : List (Nat × TD) := [(3, (.data (.int .i64))), (9, (.data .str)), (59, (.data (.slice VY0))), (78, (.data VY0))]
noncomputable def fs98  : List (Nat × FSem) := [(147, .atoi)]
noncomputable def body98 : Code := match Tryz.f98.body with | some c => c | none => .skip
theorem ty98 : chkTypes Tryz.prog ts98 = true := by kernel_rfl
theorem ev98  (k : Nat) (x : ((.cons (.slice VY0) (.cons .str .nil)) : Tys).den) : evFun (mkEnv ts98 (fs98 )) H98 k body98 27 [.tmp 4] (explodes (.cons (.slice VY0) (.cons .str .nil)) x) [] (dec (.cons (.int .i64) .nil)) = f98  k x.1 x.2.1 := by kernel_rfl
/-! ### jitney/jitref2.StartFault -/
def f42 (g98 : (List VT6) → ByteArray → Option (Int × Unit)) (k : Nat) (x0 : List VT8) (x1 : List VT6) : Option (Int × Unit) :=
  Option.bind (α := (Int × Unit) ⊕ ((Unit) × (Unit))) (iter (σ := (Int × Unit) × (Unit)) (τ := (Int × Unit) ⊕ ((Unit) × (Unit))) k (fun y1 =>
      bif (decide (y1.1.1 < ((List.length x0 : Nat) : Int))) then
        bif (inR y1.1.1 ((List.length x0 : Nat) : Int)) then
          Option.bind (g98 x1 ((rd (α := VT8) zVT8 x0 y1.1.1).1)) fun v2 =>
          bif (decide (v2.1 > (rd (α := VT8) zVT8 x0 y1.1.1).2.1)) then
            some (.inr (.inl ((1 : Int), ())))
          else
            some (.inl (((IntKind.i64.wrap (y1.1.1 + (1 : Int))), ()), ()))
        else
          none
      else
        some (.inr (.inr ((), ())))) (((0 : Int), ()), ())) fun r => match r with
  | .inl z => some z
  | .inr z3 =>
    some ((0 : Int), ())
def H42 : Hints where
  loop := fun n => match n with
    | 0 => some ({ slots := [(9, (.int .i64))], objs := [], gone := [] }, 0, { slots := [], objs := [], gone := [] })
    | _ => none
  region := fun n => match n with
    | _ => none
  cond := fun n => match n with
    | _ => none
  block := fun n => match n with
    | _ => none
abbrev A42 : Tys := (.cons (.slice VY5) (.cons (.slice VY0) .nil))
def ts42 : List (Nat × TD) := [(3, (.data (.int .i64))), (9, (.data .str)), (32, (.data (.int .i64))), (55, (.data (.slice VY5))), (59, (.data (.slice VY0))), (72, (.data VY5))]
noncomputable def fs42 (g98 : (List VT6) → ByteArray → Option (Int × Unit)) : List (Nat × FSem) := [(98, .pfn (.cons (.slice VY0) (.cons .str .nil)) (.cons (.int .i64) .nil) fun x => (g98 x.1 x.2.1))]
noncomputable def body42 : Code := match Tryz.f42.body with | some c => c | none => .skip
theorem ty42 : chkTypes Tryz.prog ts42 = true := by kernel_rfl
theorem ev42 (g98 : (List VT6) → ByteArray → Option (Int × Unit)) (k : Nat) (x : ((.cons (.slice VY5) (.cons (.slice VY0) .nil)) : Tys).den) : evFun (mkEnv ts42 (fs42 g98)) H42 k body42 21 [.tmp 4] (explodes (.cons (.slice VY5) (.cons (.slice VY0) .nil)) x) [] (dec (.cons (.int .i64) .nil)) = f42 g98 k x.1 x.2.1 := by kernel_rfl
/-! ### jitney/jitref2.DueOf -/
def f43  (k : Nat) (x0 : List VT5) (x1 : List VT10) (x2 : ByteArray) (x3 : Int) (x4 : Int) : Option ((List ByteArray) × Unit) :=
  Option.bind (α := ((List ByteArray) × Unit) ⊕ ((Int × Unit) × (Unit))) (iter (σ := VT0 × (Unit)) (τ := ((List ByteArray) × Unit) ⊕ ((Int × Unit) × (Unit))) k (fun y1 =>
      bif (decide (y1.1.2.1 < ((List.length x1 : Nat) : Int))) then
        bif (inR y1.1.2.1 ((List.length x1 : Nat) : Int)) then
          bif (sEq ((rd (α := VT10) zVT10 x1 y1.1.2.1).1) x2) then
            bif (decide (x3 < (rd (α := VT10) zVT10 x1 y1.1.2.1).2.1.2.1)) then
              bif (decide ((rd (α := VT10) zVT10 x1 y1.1.2.1).2.1.2.1 ≤ x4)) then
                some (.inl (((IntKind.i64.wrap (y1.1.1 + (rd (α := VT10) zVT10 x1 y1.1.2.1).2.2.1)), (IntKind.i64.wrap (y1.1.2.1 + (1 : Int))), ()), ()))
              else
                some (.inl ((y1.1.1, (IntKind.i64.wrap (y1.1.2.1 + (1 : Int))), ()), ()))
            else
              some (.inl ((y1.1.1, (IntKind.i64.wrap (y1.1.2.1 + (1 : Int))), ()), ()))
          else
            some (.inl ((y1.1.1, (IntKind.i64.wrap (y1.1.2.1 + (1 : Int))), ()), ()))
        else
          none
      else
        some (.inr (.inr ((y1.1.1, ()), ())))) zVT4) fun r => match r with
  | .inl z => some z
  | .inr z2 =>
    Option.bind (α := ((List ByteArray) × Unit) ⊕ (((List ByteArray) × Unit) × (Unit))) (iter (σ := ((List ByteArray) × Int × Unit) × (Unit)) (τ := ((List ByteArray) × Unit) ⊕ (((List ByteArray) × Unit) × (Unit))) k (fun y3 =>
        bif (decide (y3.1.2.1 < ((List.length x0 : Nat) : Int))) then
          bif (inR y3.1.2.1 ((List.length x0 : Nat) : Int)) then
            Option.bind (α := ((((List ByteArray) × Int × Unit) × (Unit)) ⊕ (((List ByteArray) × Unit) ⊕ (((List ByteArray) × Unit) × (Unit)))) ⊕ ((Bool × Unit) × (Unit))) (
                bif (decide ((rd (α := VT5) zVT5 x0 y3.1.2.1).2.1 > (0 : Int))) then
                  bif (decide (z2.1.1 ≥ (rd (α := VT5) zVT5 x0 y3.1.2.1).2.1)) then
                    some (.inr ((true, ()), ()))
                  else
                    bif (decide ((rd (α := VT5) zVT5 x0 y3.1.2.1).2.2.1 > (0 : Int))) then
                      some (.inr (((decide ((IntKind.i64.wrap (x4 - x3)) ≥ (IntKind.i64.wrap ((rd (α := VT5) zVT5 x0 y3.1.2.1).2.2.1 * (86400000 : Int))))), ()), ()))
                    else
                      some (.inr ((false, ()), ()))
                else
                  bif (decide ((rd (α := VT5) zVT5 x0 y3.1.2.1).2.2.1 > (0 : Int))) then
                    some (.inr (((decide ((IntKind.i64.wrap (x4 - x3)) ≥ (IntKind.i64.wrap ((rd (α := VT5) zVT5 x0 y3.1.2.1).2.2.1 * (86400000 : Int))))), ()), ()))
                  else
                    some (.inr ((false, ()), ()))) fun r => match r with
            | .inl z => some z
            | .inr y4 =>
              bif y4.1.1 then
                bif decide (List.length y3.1.1 + List.length ([(rd (α := VT5) zVT5 x0 y3.1.2.1).1]) ≤ 4294967296) then
                  some (.inl (((y3.1.1 ++ [(rd (α := VT5) zVT5 x0 y3.1.2.1).1]), (IntKind.i64.wrap (y3.1.2.1 + (1 : Int))), ()), ()))
                else
                  none
              else
                some (.inl ((y3.1.1, (IntKind.i64.wrap (y3.1.2.1 + (1 : Int))), ()), ()))
          else
            none
        else
          some (.inr (.inr ((y3.1.1, ()), ())))) (([], (0 : Int), ()), ())) fun r => match r with
    | .inl z => some z
    | .inr z5 =>
      some (z5.1.1, ())
def H43 : Hints where
  loop := fun n => match n with
    | 0 => some ({ slots := [(11, (.int .i64)), (19, (.int .i64))], objs := [], gone := [] }, 0, { slots := [(11, (.int .i64))], objs := [], gone := [] })
    | 2 => some ({ slots := [(14, (.row .str)), (48, (.int .i64))], objs := [], gone := [] }, 2, { slots := [(14, (.row .str))], objs := [], gone := [] })
    | _ => none
  region := fun n => match n with
    | 12 => some { slots := [(74, .bool)], objs := [], gone := [] }
    | _ => none
  cond := fun n => match n with
    | _ => none
  block := fun n => match n with
    | _ => none
abbrev A43 : Tys := (.cons (.slice VY2) (.cons (.slice VY6) (.cons .str (.cons (.int .i64) (.cons (.int .i64) .nil)))))
def ts43 : List (Nat × TD) := [(3, (.data (.int .i64))), (9, (.data .str)), (30, (.data VY1)), (56, (.data (.slice VY2))), (57, (.data (.slice VY6))), (60, (.data (.slice .str))), (65, (.data VY2)), (68, (.data VY6))]
noncomputable def fs43  : List (Nat × FSem) := []
noncomputable def body43 : Code := match Tryz.f43.body with | some c => c | none => .skip
theorem ty43 : chkTypes Tryz.prog ts43 = true := by kernel_rfl
theorem ev43  (k : Nat) (x : ((.cons (.slice VY2) (.cons (.slice VY6) (.cons .str (.cons (.int .i64) (.cons (.int .i64) .nil))))) : Tys).den) : evFun (mkEnv ts43 (fs43 )) H43 k body43 82 [.tmp 10] (explodes (.cons (.slice VY2) (.cons (.slice VY6) (.cons .str (.cons (.int .i64) (.cons (.int .i64) .nil))))) x) [] (dec (.cons (.slice .str) .nil)) = f43  k x.1 x.2.1 x.2.2.1 x.2.2.2.1 x.2.2.2.2.1 := by kernel_rfl
/-! ### jitney/jitref2.inside -/
def f80  (k : Nat) (x0 : Int) (x1 : VT0) : Option (Bool × Unit) :=
  bif (decide (x1.1 ≤ x0)) then
    some ((decide (x0 < x1.2.1)), ())
  else
    some (false, ())
def H80 : Hints where
  loop := fun n => match n with
    | _ => none
  region := fun n => match n with
    | _ => none
  cond := fun n => match n with
    | _ => none
  block := fun n => match n with
    | _ => none
abbrev A80 : Tys := (.cons (.int .i64) (.cons VY1 .nil))
def ts80 : List (Nat × TD) := [(3, (.data (.int .i64))), (4, (.data .bool)), (30, (.data VY1))]
noncomputable def fs80  : List (Nat × FSem) := []
noncomputable def body80 : Code := match Tryz.f80.body with | some c => c | none => .skip
theorem ty80 : chkTypes Tryz.prog ts80 = true := by kernel_rfl
theorem ev80  (k : Nat) (x : ((.cons (.int .i64) (.cons VY1 .nil)) : Tys).den) : evFun (mkEnv ts80 (fs80 )) H80 k body80 15 [.tmp 4] (explodes (.cons (.int .i64) (.cons VY1 .nil)) x) [] (dec (.cons .bool .nil)) = f80  k x.1 x.2.1 := by kernel_rfl
/-! ### slices.Compare[[]int,int] -/
def f188 (g67 : Int → Int → (Int)) (k : Nat) (x0 : List Int) (x1 : List Int) : Option (Int × Unit) :=
  Option.bind (α := (Int × Unit) ⊕ ((Unit) × (Unit))) (iter (σ := (Int × Unit) × (Unit)) (τ := (Int × Unit) ⊕ ((Unit) × (Unit))) k (fun y1 =>
      bif (decide (y1.1.1 < ((List.length x0 : Nat) : Int))) then
        bif (inR y1.1.1 ((List.length x0 : Nat) : Int)) then
          bif (decide (y1.1.1 ≥ ((List.length x1 : Nat) : Int))) then
            some (.inr (.inl ((1 : Int), ())))
          else
            bif (inR y1.1.1 ((List.length x1 : Nat) : Int)) then
              bif ((g67 (rd (α := Int) (0 : Int) x0 y1.1.1) (rd (α := Int) (0 : Int) x1 y1.1.1)) != (0 : Int)) then
                some (.inr (.inl ((g67 (rd (α := Int) (0 : Int) x0 y1.1.1) (rd (α := Int) (0 : Int) x1 y1.1.1)), ())))
              else
                some (.inl (((IntKind.i64.wrap (y1.1.1 + (1 : Int))), ()), ()))
            else
              none
        else
          none
      else
        some (.inr (.inr ((), ())))) (((0 : Int), ()), ())) fun r => match r with
  | .inl z => some z
  | .inr z2 =>
    bif (decide (((List.length x0 : Nat) : Int) < ((List.length x1 : Nat) : Int))) then
      some ((-1 : Int), ())
    else
      some ((0 : Int), ())
def H188 : Hints where
  loop := fun n => match n with
    | 0 => some ({ slots := [(11, (.int .i64))], objs := [], gone := [] }, 0, { slots := [], objs := [], gone := [] })
    | _ => none
  region := fun n => match n with
    | _ => none
  cond := fun n => match n with
    | _ => none
  block := fun n => match n with
    | _ => none
abbrev A188 : Tys := (.cons (.slice (.int .i64)) (.cons (.slice (.int .i64)) .nil))
def ts188 : List (Nat × TD) := [(3, (.data (.int .i64))), (31, (.data (.slice (.int .i64))))]
noncomputable def fs188 (g67 : Int → Int → (Int)) : List (Nat × FSem) := [(67, .fn (.cons (.int .i64) (.cons (.int .i64) .nil)) (.cons (.int .i64) .nil) fun x => ((g67 x.1 x.2.1), ()))]
noncomputable def body188 : Code := match Tryz.f188.body with | some c => c | none => .skip
theorem ty188 : chkTypes Tryz.prog ts188 = true := by kernel_rfl
theorem ev188 (g67 : Int → Int → (Int)) (k : Nat) (x : ((.cons (.slice (.int .i64)) (.cons (.slice (.int .i64)) .nil)) : Tys).den) : evFun (mkEnv ts188 (fs188 g67)) H188 k body188 36 [.tmp 4] (explodes (.cons (.slice (.int .i64)) (.cons (.slice (.int .i64)) .nil)) x) [] (dec (.cons (.int .i64) .nil)) = f188 g67 k x.1 x.2.1 := by kernel_rfl
/-! ### jitney/jitref2.levelsOf$1 -/
def f187 (g188 : (List Int) → (List Int) → (Int)) (k : Nat) (x0 : VT3) (x1 : VT3) : Option (Int × Unit) :=
  some ((g188 ([x0.1, x0.2.1]) ([x1.1, x1.2.1])), ())
def H187 : Hints where
  loop := fun n => match n with
    | _ => none
  region := fun n => match n with
    | _ => none
  cond := fun n => match n with
    | _ => none
  block := fun n => match n with
    | _ => none
abbrev A187 : Tys := (.cons VY3 (.cons VY3 .nil))
def ts187 : List (Nat × TD) := [(3, (.data (.int .i64))), (31, (.data (.slice (.int .i64)))), (240, (.data VY3))]
noncomputable def fs187 (g188 : (List Int) → (List Int) → (Int)) : List (Nat × FSem) := [(188, .fn (.cons (.slice (.int .i64)) (.cons (.slice (.int .i64)) .nil)) (.cons (.int .i64) .nil) fun x => ((g188 x.1 x.2.1), ()))]
noncomputable def body187 : Code := match Tryz.f187.body with | some c => c | none => .skip
theorem ty187 : chkTypes Tryz.prog ts187 = true := by kernel_rfl
theorem ev187 (g188 : (List Int) → (List Int) → (Int)) (k : Nat) (x : ((.cons VY3 (.cons VY3 .nil)) : Tys).den) : evFun (mkEnv ts187 (fs187 g188)) H187 k body187 16 [.tmp 4] (explodes (.cons VY3 (.cons VY3 .nil)) x) [] (dec (.cons (.int .i64) .nil)) = f187 g188 k x.1 x.2.1 := by kernel_rfl
/-! ### jitney/jitref2.levelsOf -/
def f151 (g186 : List VT3 → Option (List VT3)) (k : Nat) (x0 : ByteArray) (x1 : List VT10) (x2 : List VT9) (x3 : Int) : Option ((List Int) × (List Int) × Unit) :=
  Option.bind (α := ((List Int) × (List Int) × Unit) ⊕ (((List VT3) × Unit) × (Unit))) (iter (σ := ((List VT3) × Int × Unit) × (Unit)) (τ := ((List Int) × (List Int) × Unit) ⊕ (((List VT3) × Unit) × (Unit))) k (fun y1 =>
      bif (decide (y1.1.2.1 < ((List.length x2 : Nat) : Int))) then
        bif (inR y1.1.2.1 ((List.length x2 : Nat) : Int)) then
          bif (sEq ((rd (α := VT9) zVT9 x2 y1.1.2.1).1) x0) then
            bif (decide ((rd (α := VT9) zVT9 x2 y1.1.2.1).2.2.2.1 ≥ (0 : Int))) then
              bif decide (List.length y1.1.1 + List.length ([((rd (α := VT9) zVT9 x2 y1.1.2.1).2.2.2.1, (0 : Int), (rd (α := VT9) zVT9 x2 y1.1.2.1).2.2.2.2.1, ())]) ≤ 4294967296) then
                some (.inl (((y1.1.1 ++ [((rd (α := VT9) zVT9 x2 y1.1.2.1).2.2.2.1, (0 : Int), (rd (α := VT9) zVT9 x2 y1.1.2.1).2.2.2.2.1, ())]), (IntKind.i64.wrap (y1.1.2.1 + (1 : Int))), ()), ()))
              else
                none
            else
              some (.inl ((y1.1.1, (IntKind.i64.wrap (y1.1.2.1 + (1 : Int))), ()), ()))
          else
            some (.inl ((y1.1.1, (IntKind.i64.wrap (y1.1.2.1 + (1 : Int))), ()), ()))
        else
          none
      else
        some (.inr (.inr ((y1.1.1, ()), ())))) (([], (0 : Int), ()), ())) fun r => match r with
  | .inl z => some z
  | .inr z2 =>
    Option.bind (α := ((List Int) × (List Int) × Unit) ⊕ (((List VT3) × Unit) × (Unit))) (iter (σ := ((List VT3) × Int × Unit) × (Unit)) (τ := ((List Int) × (List Int) × Unit) ⊕ (((List VT3) × Unit) × (Unit))) k (fun y3 =>
        bif (decide (y3.1.2.1 < ((List.length x1 : Nat) : Int))) then
          bif (inR y3.1.2.1 ((List.length x1 : Nat) : Int)) then
            bif (sEq ((rd (α := VT10) zVT10 x1 y3.1.2.1).1) x0) then
              bif decide (List.length y3.1.1 + List.length ([((rd (α := VT10) zVT10 x1 y3.1.2.1).2.1.2.1, (1 : Int), (rd (α := VT10) zVT10 x1 y3.1.2.1).2.2.2.1, ())]) ≤ 4294967296) then
                some (.inl (((y3.1.1 ++ [((rd (α := VT10) zVT10 x1 y3.1.2.1).2.1.2.1, (1 : Int), (rd (α := VT10) zVT10 x1 y3.1.2.1).2.2.2.1, ())]), (IntKind.i64.wrap (y3.1.2.1 + (1 : Int))), ()), ()))
              else
                none
            else
              some (.inl ((y3.1.1, (IntKind.i64.wrap (y3.1.2.1 + (1 : Int))), ()), ()))
          else
            none
        else
          some (.inr (.inr ((y3.1.1, ()), ())))) ((z2.1.1, (0 : Int), ()), ())) fun r => match r with
    | .inl z => some z
    | .inr z4 =>
      Option.bind (g186 z4.1.1) fun v5 =>
      Option.bind (α := ((List Int) × (List Int) × Unit) ⊕ (((List Int) × (List Int) × Unit) × (Unit))) (iter (σ := ((List Int) × (List Int) × Int × Unit) × (Unit)) (τ := ((List Int) × (List Int) × Unit) ⊕ (((List Int) × (List Int) × Unit) × (Unit))) k (fun y6 =>
          bif (decide (y6.1.2.2.1 < ((List.length v5 : Nat) : Int))) then
            bif (inR y6.1.2.2.1 ((List.length v5 : Nat) : Int)) then
              bif (inR y6.1.2.2.1 ((List.length v5 : Nat) : Int)) then
                bif (inR (IntKind.i64.wrap (((List.length y6.1.2.1 : Nat) : Int) - (1 : Int))) ((List.length y6.1.2.1 : Nat) : Int)) then
                  bif (inR (IntKind.i64.wrap (((List.length y6.1.2.1 : Nat) : Int) - (1 : Int))) ((List.length y6.1.2.1 : Nat) : Int)) then
                    Option.bind (α := ((((List Int) × (List Int) × Int × Unit) × (Unit)) ⊕ (((List Int) × (List Int) × Unit) ⊕ (((List Int) × (List Int) × Unit) × (Unit)))) ⊕ ((Int × Unit) × (Unit))) (
                        bif ((rd (α := VT3) zVT3 v5 y6.1.2.2.1).2.1 == (0 : Int)) then
                          some (.inr (((if (decide ((rd (α := VT3) zVT3 v5 y6.1.2.2.1).2.2.1 > (rd (α := Int) (0 : Int) y6.1.2.1 (IntKind.i64.wrap (((List.length y6.1.2.1 : Nat) : Int) - (1 : Int)))))) then (rd (α := VT3) zVT3 v5 y6.1.2.2.1).2.2.1 else (rd (α := Int) (0 : Int) y6.1.2.1 (IntKind.i64.wrap (((List.length y6.1.2.1 : Nat) : Int) - (1 : Int))))), ()), ()))
                        else
                          some (.inr (((IntKind.i64.wrap ((rd (α := Int) (0 : Int) y6.1.2.1 (IntKind.i64.wrap (((List.length y6.1.2.1 : Nat) : Int) - (1 : Int)))) - (rd (α := VT3) zVT3 v5 y6.1.2.2.1).2.2.1)), ()), ()))) fun r => match r with
                    | .inl z => some z
                    | .inr y7 =>
                      bif decide (List.length y6.1.1 + List.length ([(rd (α := VT3) zVT3 v5 y6.1.2.2.1).1]) ≤ 4294967296) then
                        bif decide (List.length y6.1.2.1 + List.length ([y7.1.1]) ≤ 4294967296) then
                          some (.inl (((y6.1.1 ++ [(rd (α := VT3) zVT3 v5 y6.1.2.2.1).1]), (y6.1.2.1 ++ [y7.1.1]), (IntKind.i64.wrap (y6.1.2.2.1 + (1 : Int))), ()), ()))
                        else
                          none
                      else
                        none
                  else
                    none
                else
                  none
              else
                none
            else
              none
          else
            some (.inr (.inr ((y6.1.1, y6.1.2.1, ()), ())))) (([(-1 : Int)], [x3], (0 : Int), ()), ())) fun r => match r with
      | .inl z => some z
      | .inr z8 =>
        some (z8.1.1, z8.1.2.1, ())
def H151 : Hints where
  loop := fun n => match n with
    | 0 => some ({ slots := [(10, (.row VY3)), (22, (.int .i64))], objs := [], gone := [] }, 0, { slots := [(10, (.row VY3))], objs := [], gone := [] })
    | 2 => some ({ slots := [(10, (.row VY3)), (46, (.int .i64))], objs := [], gone := [0] }, 2, { slots := [(10, (.row VY3))], objs := [], gone := [0] })
    | 4 => some ({ slots := [(15, (.row (.int .i64))), (16, (.row (.int .i64))), (71, (.int .i64))], objs := [], gone := [2, 3] }, 4, { slots := [(15, (.row (.int .i64))), (16, (.row (.int .i64)))], objs := [], gone := [2, 3] })
    | _ => none
  region := fun n => match n with
    | _ => none
  cond := fun n => match n with
    | 83 => some { slots := [(19, (.int .i64))], objs := [], gone := [] }
    | _ => none
  block := fun n => match n with
    | _ => none
abbrev A151 : Tys := (.cons .str (.cons (.slice VY6) (.cons (.slice VY4) (.cons (.int .i64) .nil))))
def ts151 : List (Nat × TD) := [(3, (.data (.int .i64))), (9, (.data .str)), (30, (.data VY1)), (31, (.data (.slice (.int .i64)))), (57, (.data (.slice VY6))), (58, (.data (.slice VY4))), (68, (.data VY6)), (75, (.data VY4)), (238, (.data (.slice VY3))), (240, (.data VY3))]
noncomputable def fs151 (g186 : List VT3 → Option (List VT3)) : List (Nat × FSem) := [(186, .rfn VY3 .nil 187 fun xs a => g186 xs )]
noncomputable def body151 : Code := match Tryz.f151.body with | some c => c | none => .skip
theorem ty151 : chkTypes Tryz.prog ts151 = true := by kernel_rfl
theorem ev151 (g186 : List VT3 → Option (List VT3)) (k : Nat) (x : ((.cons .str (.cons (.slice VY6) (.cons (.slice VY4) (.cons (.int .i64) .nil)))) : Tys).den) : evFun (mkEnv ts151 (fs151 g186)) H151 k body151 104 [.tmp 8, .tmp 9] (explodes (.cons .str (.cons (.slice VY6) (.cons (.slice VY4) (.cons (.int .i64) .nil)))) x) [] (dec (.cons (.slice (.int .i64)) (.cons (.slice (.int .i64)) .nil))) = f151 g186 k x.1 x.2.1 x.2.2.1 x.2.2.2.1 := by kernel_rfl
/-! ### jitney/jitref2.LevelAt -/
def f103 (g151 : ByteArray → (List VT10) → (List VT9) → Int → Option ((List Int) × (List Int) × Unit)) (k : Nat) (x0 : ByteArray) (x1 : List VT10) (x2 : List VT9) (x3 : Int) (x4 : Int) : Option (Int × Unit) :=
  Option.bind (g151 x0 x1 x2 x3) fun v1 =>
  Option.bind (α := (Int × Unit) ⊕ ((Int × Unit) × (Unit))) (iter (σ := VT0 × (Unit)) (τ := (Int × Unit) ⊕ ((Int × Unit) × (Unit))) k (fun y2 =>
      bif (decide (y2.1.2.1 < ((List.length v1.1 : Nat) : Int))) then
        bif (inR y2.1.2.1 ((List.length v1.1 : Nat) : Int)) then
          bif (decide ((rd (α := Int) (0 : Int) v1.1 y2.1.2.1) ≤ x4)) then
            bif (inR y2.1.2.1 ((List.length v1.2.1 : Nat) : Int)) then
              some (.inl (((rd (α := Int) (0 : Int) v1.2.1 y2.1.2.1), (IntKind.i64.wrap (y2.1.2.1 + (1 : Int))), ()), ()))
            else
              none
          else
            some (.inl ((y2.1.1, (IntKind.i64.wrap (y2.1.2.1 + (1 : Int))), ()), ()))
        else
          none
      else
        some (.inr (.inr ((y2.1.1, ()), ())))) ((x3, (0 : Int), ()), ())) fun r => match r with
  | .inl z => some z
  | .inr z3 =>
    some (z3.1.1, ())
def H103 : Hints where
  loop := fun n => match n with
    | 0 => some ({ slots := [(13, (.int .i64)), (27, (.int .i64))], objs := [], gone := [] }, 0, { slots := [(13, (.int .i64))], objs := [], gone := [] })
    | _ => none
  region := fun n => match n with
    | _ => none
  cond := fun n => match n with
    | _ => none
  block := fun n => match n with
    | _ => none
abbrev A103 : Tys := (.cons .str (.cons (.slice VY6) (.cons (.slice VY4) (.cons (.int .i64) (.cons (.int .i64) .nil)))))
def ts103 : List (Nat × TD) := [(3, (.data (.int .i64))), (9, (.data .str)), (31, (.data (.slice (.int .i64)))), (57, (.data (.slice VY6))), (58, (.data (.slice VY4)))]
noncomputable def fs103 (g151 : ByteArray → (List VT10) → (List VT9) → Int → Option ((List Int) × (List Int) × Unit)) : List (Nat × FSem) := [(151, .pfn (.cons .str (.cons (.slice VY6) (.cons (.slice VY4) (.cons (.int .i64) .nil)))) (.cons (.slice (.int .i64)) (.cons (.slice (.int .i64)) .nil)) fun x => (g151 x.1 x.2.1 x.2.2.1 x.2.2.2.1))]
noncomputable def body103 : Code := match Tryz.f103.body with | some c => c | none => .skip
theorem ty103 : chkTypes Tryz.prog ts103 = true := by kernel_rfl
theorem ev103 (g151 : ByteArray → (List VT10) → (List VT9) → Int → Option ((List Int) × (List Int) × Unit)) (k : Nat) (x : ((.cons .str (.cons (.slice VY6) (.cons (.slice VY4) (.cons (.int .i64) (.cons (.int .i64) .nil))))) : Tys).den) : evFun (mkEnv ts103 (fs103 g151)) H103 k body103 41 [.tmp 10] (explodes (.cons .str (.cons (.slice VY6) (.cons (.slice VY4) (.cons (.int .i64) (.cons (.int .i64) .nil))))) x) [] (dec (.cons (.int .i64) .nil)) = f103 g151 k x.1 x.2.1 x.2.2.1 x.2.2.2.1 x.2.2.2.2.1 := by kernel_rfl
/-! ### jitney/jitref2.ReadyOf -/
def f44 (g80 : Int → VT0 → (Bool)) (g98 : (List VT6) → ByteArray → Option (Int × Unit)) (g103 : ByteArray → (List VT10) → (List VT9) → Int → Int → Option (Int × Unit)) (k : Nat) (x0 : List VT8) (x1 : List VT10) (x2 : List VT9) (x3 : List VT6) (x4 : Int) (x5 : Int) : Option ((List ByteArray) × Unit) :=
  Option.bind (α := ((List ByteArray) × Unit) ⊕ (((List ByteArray) × Unit) × (Int × Unit))) (iter (σ := ((List ByteArray) × Int × Unit) × (Int × Unit)) (τ := ((List ByteArray) × Unit) ⊕ (((List ByteArray) × Unit) × (Int × Unit))) k (fun y1 =>
      bif (decide (y1.1.2.1 < ((List.length x0 : Nat) : Int))) then
        bif (inR y1.1.2.1 ((List.length x0 : Nat) : Int)) then
          Option.bind (α := ((((List ByteArray) × Int × Unit) × (Int × Unit)) ⊕ (((List ByteArray) × Unit) ⊕ (((List ByteArray) × Unit) × (Int × Unit)))) ⊕ ((Bool × Unit) × VT11)) (
              Option.bind (α := (((((List ByteArray) × Int × Unit) × (Int × Unit)) ⊕ (((List ByteArray) × Unit) ⊕ (((List ByteArray) × Unit) × (Int × Unit)))) ⊕ ((Bool × Unit) × VT11)) ⊕ ((Unit) × VT12)) (iter (σ := (Int × Unit) × VT12) (τ := (((((List ByteArray) × Int × Unit) × (Int × Unit)) ⊕ (((List ByteArray) × Unit) ⊕ (((List ByteArray) × Unit) × (Int × Unit)))) ⊕ ((Bool × Unit) × VT11)) ⊕ ((Unit) × VT12)) k (fun y2 =>
                  bif (decide (y2.1.1 < ((List.length x1 : Nat) : Int))) then
                    bif (inR y2.1.1 ((List.length x1 : Nat) : Int)) then
                      bif (sEq ((rd (α := VT10) zVT10 x1 y2.1.1).1) y2.2.1.1) then
                        bif (g80 y2.2.2.1 ((rd (α := VT10) zVT10 x1 y2.1.1).2.1)) then
                          Option.map (fun z => .inr (.inl z)) (
                            bif (decide (y2.1.1 ≥ (0 : Int))) then
                              some (.inr ((true, ()), (y2.2.2.1, (y2.2.1.1, y2.2.1.2.1, y2.2.1.2.2.1, y2.2.1.2.2.2.1, y2.2.1.2.2.2.2.1, ()), ())))
                            else
                              Option.bind (α := (((((List ByteArray) × Int × Unit) × (Int × Unit)) ⊕ (((List ByteArray) × Unit) ⊕ (((List ByteArray) × Unit) × (Int × Unit)))) ⊕ ((Bool × Unit) × VT11)) ⊕ ((Unit) × VT12)) (iter (σ := (Int × Unit) × VT12) (τ := (((((List ByteArray) × Int × Unit) × (Int × Unit)) ⊕ (((List ByteArray) × Unit) ⊕ (((List ByteArray) × Unit) × (Int × Unit)))) ⊕ ((Bool × Unit) × VT11)) ⊕ ((Unit) × VT12)) k (fun y3 =>
                                  bif (decide (y3.1.1 < ((List.length x2 : Nat) : Int))) then
                                    bif (inR y3.1.1 ((List.length x2 : Nat) : Int)) then
                                      bif (sEq ((rd (α := VT9) zVT9 x2 y3.1.1).1) y3.2.1.1) then
                                        bif (decide ((rd (α := VT9) zVT9 x2 y3.1.1).2.2.1 ≤ y3.2.2.1)) then
                                          bif (decide (y3.2.2.1 < (rd (α := VT9) zVT9 x2 y3.1.1).2.2.2.1)) then
                                            some (.inr (.inl (.inr (((decide (y3.1.1 ≥ (0 : Int))), ()), (y3.2.2.1, (y3.2.1.1, y3.2.1.2.1, y3.2.1.2.2.1, y3.2.1.2.2.2.1, y3.2.1.2.2.2.2.1, ()), ())))))
                                          else
                                            some (.inl (((IntKind.i64.wrap (y3.1.1 + (1 : Int))), ()), ((y3.2.1.1, y3.2.1.2.1, y3.2.1.2.2.1, y3.2.1.2.2.2.1, y3.2.1.2.2.2.2.1, ()), y3.2.2.1, ())))
                                        else
                                          some (.inl (((IntKind.i64.wrap (y3.1.1 + (1 : Int))), ()), ((y3.2.1.1, y3.2.1.2.1, y3.2.1.2.2.1, y3.2.1.2.2.2.1, y3.2.1.2.2.2.2.1, ()), y3.2.2.1, ())))
                                      else
                                        some (.inl (((IntKind.i64.wrap (y3.1.1 + (1 : Int))), ()), ((y3.2.1.1, y3.2.1.2.1, y3.2.1.2.2.1, y3.2.1.2.2.2.1, y3.2.1.2.2.2.2.1, ()), y3.2.2.1, ())))
                                    else
                                      none
                                  else
                                    some (.inr (.inr ((), ((y3.2.1.1, y3.2.1.2.1, y3.2.1.2.2.1, y3.2.1.2.2.2.1, y3.2.1.2.2.2.2.1, ()), y3.2.2.1, ()))))) (((0 : Int), ()), ((y2.2.1.1, y2.2.1.2.1, y2.2.1.2.2.1, y2.2.1.2.2.2.1, y2.2.1.2.2.2.2.1, ()), y2.2.2.1, ()))) fun r => match r with
                              | .inl z => some z
                              | .inr z4 =>
                                some (.inr ((false, ()), (z4.2.2.1, (z4.2.1.1, z4.2.1.2.1, z4.2.1.2.2.1, z4.2.1.2.2.2.1, z4.2.1.2.2.2.2.1, ()), ()))))
                        else
                          some (.inl (((IntKind.i64.wrap (y2.1.1 + (1 : Int))), ()), ((y2.2.1.1, y2.2.1.2.1, y2.2.1.2.2.1, y2.2.1.2.2.2.1, y2.2.1.2.2.2.2.1, ()), y2.2.2.1, ())))
                      else
                        some (.inl (((IntKind.i64.wrap (y2.1.1 + (1 : Int))), ()), ((y2.2.1.1, y2.2.1.2.1, y2.2.1.2.2.1, y2.2.1.2.2.2.1, y2.2.1.2.2.2.2.1, ()), y2.2.2.1, ())))
                    else
                      none
                  else
                    some (.inr (.inr ((), ((y2.2.1.1, y2.2.1.2.1, y2.2.1.2.2.1, y2.2.1.2.2.2.1, y2.2.1.2.2.2.2.1, ()), y2.2.2.1, ()))))) (((0 : Int), ()), ((rd (α := VT8) zVT8 x0 y1.1.2.1), y1.2.1, ()))) fun r => match r with
              | .inl z => some z
              | .inr z5 =>
                Option.bind (α := (((((List ByteArray) × Int × Unit) × (Int × Unit)) ⊕ (((List ByteArray) × Unit) ⊕ (((List ByteArray) × Unit) × (Int × Unit)))) ⊕ ((Bool × Unit) × VT11)) ⊕ ((Unit) × VT12)) (iter (σ := (Int × Unit) × VT12) (τ := (((((List ByteArray) × Int × Unit) × (Int × Unit)) ⊕ (((List ByteArray) × Unit) ⊕ (((List ByteArray) × Unit) × (Int × Unit)))) ⊕ ((Bool × Unit) × VT11)) ⊕ ((Unit) × VT12)) k (fun y6 =>
                    bif (decide (y6.1.1 < ((List.length x2 : Nat) : Int))) then
                      bif (inR y6.1.1 ((List.length x2 : Nat) : Int)) then
                        bif (sEq ((rd (α := VT9) zVT9 x2 y6.1.1).1) y6.2.1.1) then
                          bif (decide ((rd (α := VT9) zVT9 x2 y6.1.1).2.2.1 ≤ y6.2.2.1)) then
                            bif (decide (y6.2.2.1 < (rd (α := VT9) zVT9 x2 y6.1.1).2.2.2.1)) then
                              some (.inr (.inl (.inr (((decide (y6.1.1 ≥ (0 : Int))), ()), (y6.2.2.1, (y6.2.1.1, y6.2.1.2.1, y6.2.1.2.2.1, y6.2.1.2.2.2.1, y6.2.1.2.2.2.2.1, ()), ())))))
                            else
                              some (.inl (((IntKind.i64.wrap (y6.1.1 + (1 : Int))), ()), ((y6.2.1.1, y6.2.1.2.1, y6.2.1.2.2.1, y6.2.1.2.2.2.1, y6.2.1.2.2.2.2.1, ()), y6.2.2.1, ())))
                          else
                            some (.inl (((IntKind.i64.wrap (y6.1.1 + (1 : Int))), ()), ((y6.2.1.1, y6.2.1.2.1, y6.2.1.2.2.1, y6.2.1.2.2.2.1, y6.2.1.2.2.2.2.1, ()), y6.2.2.1, ())))
                        else
                          some (.inl (((IntKind.i64.wrap (y6.1.1 + (1 : Int))), ()), ((y6.2.1.1, y6.2.1.2.1, y6.2.1.2.2.1, y6.2.1.2.2.2.1, y6.2.1.2.2.2.2.1, ()), y6.2.2.1, ())))
                      else
                        none
                    else
                      some (.inr (.inr ((), ((y6.2.1.1, y6.2.1.2.1, y6.2.1.2.2.1, y6.2.1.2.2.2.1, y6.2.1.2.2.2.2.1, ()), y6.2.2.1, ()))))) (((0 : Int), ()), ((z5.2.1.1, z5.2.1.2.1, z5.2.1.2.2.1, z5.2.1.2.2.2.1, z5.2.1.2.2.2.2.1, ()), z5.2.2.1, ()))) fun r => match r with
                | .inl z => some z
                | .inr z7 =>
                  some (.inr ((false, ()), (z7.2.2.1, (z7.2.1.1, z7.2.1.2.1, z7.2.1.2.2.1, z7.2.1.2.2.2.1, z7.2.1.2.2.2.2.1, ()), ())))) fun r => match r with
          | .inl z => some z
          | .inr y8 =>
            bif (!y8.1.1) then
              Option.bind (g98 x3 y8.2.2.1.1) fun v9 =>
              Option.bind (g103 y8.2.2.1.1 x1 x2 v9.1 y8.2.1) fun v10 =>
              bif (decide (v10.1 ≥ (IntKind.i64.wrap (y8.2.2.1.2.2.1 + x4)))) then
                bif decide (List.length y1.1.1 + List.length ([y8.2.2.1.1]) ≤ 4294967296) then
                  some (.inl (((y1.1.1 ++ [y8.2.2.1.1]), (IntKind.i64.wrap (y1.1.2.1 + (1 : Int))), ()), (y8.2.1, ())))
                else
                  none
              else
                some (.inl ((y1.1.1, (IntKind.i64.wrap (y1.1.2.1 + (1 : Int))), ()), (y8.2.1, ())))
            else
              some (.inl ((y1.1.1, (IntKind.i64.wrap (y1.1.2.1 + (1 : Int))), ()), (y8.2.1, ())))
        else
          none
      else
        some (.inr (.inr ((y1.1.1, ()), (y1.2.1, ()))))) (([], (0 : Int), ()), (x5, ()))) fun r => match r with
  | .inl z => some z
  | .inr z11 =>
    some (z11.1.1, ())
def H44 : Hints where
  loop := fun n => match n with
    | 0 => some ({ slots := [(13, (.row .str)), (19, (.int .i64))], objs := [(0, (.box (.data (.int .i64)) (.int .i64)))], gone := [] }, 0, { slots := [(13, (.row .str))], objs := [(0, (.box (.data (.int .i64)) (.int .i64)))], gone := [] })
    | _ => none
  region := fun n => match n with
    | 5 => some { slots := [(16, .bool)], objs := [(0, (.box (.data (.int .i64)) (.int .i64))), (2, (.box (.data VY5) (.agg (.cons .str (.cons (.int .i64) (.cons (.int .i64) (.cons (.int .i64) (.cons (.int .i64) .nil))))))))], gone := [] }
    | _ => none
  cond := fun n => match n with
    | _ => none
  block := fun n => match n with
    | _ => none
def Hi44_100 : Hints where
  loop := fun n => match n with
    | _ => none
  region := fun n => match n with
    | _ => none
  cond := fun n => match n with
    | _ => none
  block := fun n => match n with
    | _ => none
def tsi44_100 : List (Nat × TD) := [(3, (.data (.int .i64))), (9, (.data .str)), (30, (.data VY1)), (68, (.data VY6)), (72, (.data VY5))]
noncomputable def bodyi44_100 : Code := match Tryz.f100.body with | some c => c | none => .skip
noncomputable def fsi44_100 (g80 : Int → VT0 → (Bool)) (g98 : (List VT6) → ByteArray → Option (Int × Unit)) (g103 : ByteArray → (List VT10) → (List VT9) → Int → Int → Option (Int × Unit)) (k : Nat) : List (Nat × FSem) := [(80, .fn (.cons (.int .i64) (.cons VY1 .nil)) (.cons .bool .nil) fun x => ((g80 x.1 x.2.1), ()))]
theorem tyi44_100 : chkTypes Tryz.prog tsi44_100 = true := by kernel_rfl
def Hi44_149 : Hints where
  loop := fun n => match n with
    | 0 => some ({ slots := [(8, (.int .i64))], objs := [(0, (.box (.data VY5) (.agg (.cons .str (.cons (.int .i64) (.cons (.int .i64) (.cons (.int .i64) (.cons (.int .i64) .nil)))))))), (1, (.box (.data (.int .i64)) (.int .i64)))], gone := [] }, 0, { slots := [], objs := [(0, (.box (.data VY5) (.agg (.cons .str (.cons (.int .i64) (.cons (.int .i64) (.cons (.int .i64) (.cons (.int .i64) .nil)))))))), (1, (.box (.data (.int .i64)) (.int .i64)))], gone := [] })
    | _ => none
  region := fun n => match n with
    | _ => none
  cond := fun n => match n with
    | _ => none
  block := fun n => match n with
    | _ => none
def tsi44_149 : List (Nat × TD) := [(3, (.data (.int .i64))), (57, (.data (.slice VY6))), (68, (.data VY6))]
noncomputable def bodyi44_149 : Code := match Tryz.f149.body with | some c => c | none => .skip
noncomputable def fsi44_149 (g80 : Int → VT0 → (Bool)) (g98 : (List VT6) → ByteArray → Option (Int × Unit)) (g103 : ByteArray → (List VT10) → (List VT9) → Int → Int → Option (Int × Unit)) (k : Nat) : List (Nat × FSem) := [(100, .ev (mkEnv tsi44_100 (fsi44_100 g80 g98 g103 k)) Hi44_100 k bodyi44_100 16 [.tmp 4])]
theorem tyi44_149 : chkTypes Tryz.prog tsi44_149 = true := by kernel_rfl
def Hi44_99 : Hints where
  loop := fun n => match n with
    | _ => none
  region := fun n => match n with
    | _ => none
  cond := fun n => match n with
    | _ => none
  block := fun n => match n with
    | _ => none
def tsi44_99 : List (Nat × TD) := [(3, (.data (.int .i64)))]
noncomputable def bodyi44_99 : Code := match Tryz.f99.body with | some c => c | none => .skip
noncomputable def fsi44_99 (g80 : Int → VT0 → (Bool)) (g98 : (List VT6) → ByteArray → Option (Int × Unit)) (g103 : ByteArray → (List VT10) → (List VT9) → Int → Int → Option (Int × Unit)) (k : Nat) : List (Nat × FSem) := [(149, .ev (mkEnv tsi44_149 (fsi44_149 g80 g98 g103 k)) Hi44_149 k bodyi44_149 19 [.tmp 4])]
theorem tyi44_99 : chkTypes Tryz.prog tsi44_99 = true := by kernel_rfl
def Hi44_102 : Hints where
  loop := fun n => match n with
    | _ => none
  region := fun n => match n with
    | _ => none
  cond := fun n => match n with
    | _ => none
  block := fun n => match n with
    | _ => none
def tsi44_102 : List (Nat × TD) := [(3, (.data (.int .i64))), (9, (.data .str)), (72, (.data VY5)), (75, (.data VY4))]
noncomputable def bodyi44_102 : Code := match Tryz.f102.body with | some c => c | none => .skip
noncomputable def fsi44_102 (g80 : Int → VT0 → (Bool)) (g98 : (List VT6) → ByteArray → Option (Int × Unit)) (g103 : ByteArray → (List VT10) → (List VT9) → Int → Int → Option (Int × Unit)) (k : Nat) : List (Nat × FSem) := []
theorem tyi44_102 : chkTypes Tryz.prog tsi44_102 = true := by kernel_rfl
def Hi44_150 : Hints where
  loop := fun n => match n with
    | 0 => some ({ slots := [(8, (.int .i64))], objs := [(0, (.box (.data VY5) (.agg (.cons .str (.cons (.int .i64) (.cons (.int .i64) (.cons (.int .i64) (.cons (.int .i64) .nil)))))))), (1, (.box (.data (.int .i64)) (.int .i64)))], gone := [] }, 0, { slots := [], objs := [(0, (.box (.data VY5) (.agg (.cons .str (.cons (.int .i64) (.cons (.int .i64) (.cons (.int .i64) (.cons (.int .i64) .nil)))))))), (1, (.box (.data (.int .i64)) (.int .i64)))], gone := [] })
    | _ => none
  region := fun n => match n with
    | _ => none
  cond := fun n => match n with
    | _ => none
  block := fun n => match n with
    | _ => none
def tsi44_150 : List (Nat × TD) := [(3, (.data (.int .i64))), (58, (.data (.slice VY4))), (75, (.data VY4))]
noncomputable def bodyi44_150 : Code := match Tryz.f150.body with | some c => c | none => .skip
noncomputable def fsi44_150 (g80 : Int → VT0 → (Bool)) (g98 : (List VT6) → ByteArray → Option (Int × Unit)) (g103 : ByteArray → (List VT10) → (List VT9) → Int → Int → Option (Int × Unit)) (k : Nat) : List (Nat × FSem) := [(102, .ev (mkEnv tsi44_102 (fsi44_102 g80 g98 g103 k)) Hi44_102 k bodyi44_102 22 [.tmp 4])]
theorem tyi44_150 : chkTypes Tryz.prog tsi44_150 = true := by kernel_rfl
def Hi44_101 : Hints where
  loop := fun n => match n with
    | _ => none
  region := fun n => match n with
    | _ => none
  cond := fun n => match n with
    | _ => none
  block := fun n => match n with
    | _ => none
def tsi44_101 : List (Nat × TD) := [(3, (.data (.int .i64)))]
noncomputable def bodyi44_101 : Code := match Tryz.f101.body with | some c => c | none => .skip
noncomputable def fsi44_101 (g80 : Int → VT0 → (Bool)) (g98 : (List VT6) → ByteArray → Option (Int × Unit)) (g103 : ByteArray → (List VT10) → (List VT9) → Int → Int → Option (Int × Unit)) (k : Nat) : List (Nat × FSem) := [(150, .ev (mkEnv tsi44_150 (fsi44_150 g80 g98 g103 k)) Hi44_150 k bodyi44_150 19 [.tmp 4])]
theorem tyi44_101 : chkTypes Tryz.prog tsi44_101 = true := by kernel_rfl
abbrev A44 : Tys := (.cons (.slice VY5) (.cons (.slice VY6) (.cons (.slice VY4) (.cons (.slice VY0) (.cons (.int .i64) (.cons (.int .i64) .nil))))))
def ts44 : List (Nat × TD) := [(3, (.data (.int .i64))), (9, (.data .str)), (55, (.data (.slice VY5))), (57, (.data (.slice VY6))), (58, (.data (.slice VY4))), (59, (.data (.slice VY0))), (60, (.data (.slice .str))), (72, (.data VY5))]
noncomputable def fs44 (g80 : Int → VT0 → (Bool)) (g98 : (List VT6) → ByteArray → Option (Int × Unit)) (g103 : ByteArray → (List VT10) → (List VT9) → Int → Int → Option (Int × Unit)) (k : Nat) : List (Nat × FSem) := [(98, .pfn (.cons (.slice VY0) (.cons .str .nil)) (.cons (.int .i64) .nil) fun x => (g98 x.1 x.2.1)), (99, .ev (mkEnv tsi44_99 (fsi44_99 g80 g98 g103 k)) Hi44_99 k bodyi44_99 9 [.tmp 4]), (101, .ev (mkEnv tsi44_101 (fsi44_101 g80 g98 g103 k)) Hi44_101 k bodyi44_101 9 [.tmp 4]), (103, .pfn (.cons .str (.cons (.slice VY6) (.cons (.slice VY4) (.cons (.int .i64) (.cons (.int .i64) .nil))))) (.cons (.int .i64) .nil) fun x => (g103 x.1 x.2.1 x.2.2.1 x.2.2.2.1 x.2.2.2.2.1))]
noncomputable def body44 : Code := match Tryz.f44.body with | some c => c | none => .skip
theorem ty44 : chkTypes Tryz.prog ts44 = true := by kernel_rfl
theorem ev44 (g80 : Int → VT0 → (Bool)) (g98 : (List VT6) → ByteArray → Option (Int × Unit)) (g103 : ByteArray → (List VT10) → (List VT9) → Int → Int → Option (Int × Unit)) (k : Nat) (x : ((.cons (.slice VY5) (.cons (.slice VY6) (.cons (.slice VY4) (.cons (.slice VY0) (.cons (.int .i64) (.cons (.int .i64) .nil)))))) : Tys).den) : evFun (mkEnv ts44 (fs44 g80 g98 g103 k)) H44 k body44 57 [.tmp 12] (explodes (.cons (.slice VY5) (.cons (.slice VY6) (.cons (.slice VY4) (.cons (.slice VY0) (.cons (.int .i64) (.cons (.int .i64) .nil)))))) x) [] (dec (.cons (.slice .str) .nil)) = f44 g80 g98 g103 k x.1 x.2.1 x.2.2.1 x.2.2.2.1 x.2.2.2.2.1 x.2.2.2.2.2.1 := by kernel_rfl
/-! ### slices.Equal[[]string,string] -/
def f45  (k : Nat) (x0 : List ByteArray) (x1 : List ByteArray) : Option (Bool × Unit) :=
  bif (((List.length x0 : Nat) : Int) != ((List.length x1 : Nat) : Int)) then
    some (false, ())
  else
    Option.bind (α := (Bool × Unit) ⊕ ((Unit) × (Unit))) (iter (σ := (Int × Unit) × (Unit)) (τ := (Bool × Unit) ⊕ ((Unit) × (Unit))) k (fun y1 =>
        bif (decide (y1.1.1 < ((List.length x0 : Nat) : Int))) then
          bif (inR y1.1.1 ((List.length x0 : Nat) : Int)) then
            bif (inR y1.1.1 ((List.length x1 : Nat) : Int)) then
              bif (!(sEq (rd (α := ByteArray) ByteArray.empty x0 y1.1.1) (rd (α := ByteArray) ByteArray.empty x1 y1.1.1))) then
                some (.inr (.inl (false, ())))
              else
                some (.inl (((IntKind.i64.wrap (y1.1.1 + (1 : Int))), ()), ()))
            else
              none
          else
            none
        else
          some (.inr (.inr ((), ())))) (((0 : Int), ()), ())) fun r => match r with
    | .inl z => some z
    | .inr z2 =>
      some (true, ())
def H45 : Hints where
  loop := fun n => match n with
    | 0 => some ({ slots := [(13, (.int .i64))], objs := [], gone := [] }, 0, { slots := [], objs := [], gone := [] })
    | _ => none
  region := fun n => match n with
    | _ => none
  cond := fun n => match n with
    | _ => none
  block := fun n => match n with
    | _ => none
abbrev A45 : Tys := (.cons (.slice .str) (.cons (.slice .str) .nil))
def ts45 : List (Nat × TD) := [(3, (.data (.int .i64))), (4, (.data .bool)), (9, (.data .str)), (60, (.data (.slice .str)))]
noncomputable def fs45  : List (Nat × FSem) := []
noncomputable def body45 : Code := match Tryz.f45.body with | some c => c | none => .skip
theorem ty45 : chkTypes Tryz.prog ts45 = true := by kernel_rfl
theorem ev45  (k : Nat) (x : ((.cons (.slice .str) (.cons (.slice .str) .nil)) : Tys).den) : evFun (mkEnv ts45 (fs45 )) H45 k body45 26 [.tmp 4] (explodes (.cons (.slice .str) (.cons (.slice .str) .nil)) x) [] (dec (.cons .bool .nil)) = f45  k x.1 x.2.1 := by kernel_rfl
/-! ### jitney/fleet.byShift -/
def f189 (g66 : (List Int) → (Int)) (g67 : Int → Int → (Int)) (k : Nat) (x0 : VT0) (x1 : VT0) : Option (Int × Unit) :=
  some ((g66 ([(g67 x0.1 x1.1), (g67 x0.2.1 x1.2.1)])), ())
def H189 : Hints where
  loop := fun n => match n with
    | _ => none
  region := fun n => match n with
    | _ => none
  cond := fun n => match n with
    | _ => none
  block := fun n => match n with
    | _ => none
abbrev A189 : Tys := (.cons VY1 (.cons VY1 .nil))
def ts189 : List (Nat × TD) := [(3, (.data (.int .i64))), (30, (.data VY1)), (31, (.data (.slice (.int .i64))))]
noncomputable def fs189 (g66 : (List Int) → (Int)) (g67 : Int → Int → (Int)) : List (Nat × FSem) := [(66, .fn (.cons (.slice (.int .i64)) .nil) (.cons (.int .i64) .nil) fun x => ((g66 x.1), ())), (67, .fn (.cons (.int .i64) (.cons (.int .i64) .nil)) (.cons (.int .i64) .nil) fun x => ((g67 x.1 x.2.1), ()))]
noncomputable def body189 : Code := match Tryz.f189.body with | some c => c | none => .skip
theorem ty189 : chkTypes Tryz.prog ts189 = true := by kernel_rfl
theorem ev189 (g66 : (List Int) → (Int)) (g67 : Int → Int → (Int)) (k : Nat) (x : ((.cons VY1 (.cons VY1 .nil)) : Tys).den) : evFun (mkEnv ts189 (fs189 g66 g67)) H189 k body189 17 [.tmp 4] (explodes (.cons VY1 (.cons VY1 .nil)) x) [] (dec (.cons (.int .i64) .nil)) = f189 g66 g67 k x.1 x.2.1 := by kernel_rfl
/-! ### jitney/fleet.CheckShifts -/
def f152 (g189 : VT0 → VT0 → (Int)) (k : Nat) (x0 : List VT0) : Option (Int × Unit) :=
  bif (decide (((List.length x0 : Nat) : Int) > (500 : Int))) then
    some ((2 : Int), ())
  else
    Option.bind (α := (Int × Unit) ⊕ ((Unit) × (Unit))) (iter (σ := (Int × Unit) × (Unit)) (τ := (Int × Unit) ⊕ ((Unit) × (Unit))) k (fun y1 =>
        bif (decide (y1.1.1 < ((List.length x0 : Nat) : Int))) then
          bif (inR y1.1.1 ((List.length x0 : Nat) : Int)) then
            bif (decide ((rd (α := VT0) zVT0 x0 y1.1.1).1 < (0 : Int))) then
              some (.inr (.inl ((1 : Int), ())))
            else
              bif (decide ((rd (α := VT0) zVT0 x0 y1.1.1).1 ≥ (rd (α := VT0) zVT0 x0 y1.1.1).2.1)) then
                some (.inr (.inl ((1 : Int), ())))
              else
                bif (decide ((rd (α := VT0) zVT0 x0 y1.1.1).2.1 > (345686400000 : Int))) then
                  some (.inr (.inl ((1 : Int), ())))
                else
                  bif (decide (y1.1.1 > (0 : Int))) then
                    bif (inR (IntKind.i64.wrap (y1.1.1 - (1 : Int))) ((List.length x0 : Nat) : Int)) then
                      bif (decide ((g189 (rd (α := VT0) zVT0 x0 y1.1.1) (rd (α := VT0) zVT0 x0 (IntKind.i64.wrap (y1.1.1 - (1 : Int))))) < (0 : Int))) then
                        some (.inr (.inl ((7 : Int), ())))
                      else
                        some (.inl (((IntKind.i64.wrap (y1.1.1 + (1 : Int))), ()), ()))
                    else
                      none
                  else
                    some (.inl (((IntKind.i64.wrap (y1.1.1 + (1 : Int))), ()), ()))
          else
            none
        else
          some (.inr (.inr ((), ())))) (((0 : Int), ()), ())) fun r => match r with
    | .inl z => some z
    | .inr z2 =>
      some ((0 : Int), ())
def H152 : Hints where
  loop := fun n => match n with
    | 0 => some ({ slots := [(10, (.int .i64))], objs := [], gone := [] }, 0, { slots := [], objs := [], gone := [] })
    | _ => none
  region := fun n => match n with
    | _ => none
  cond := fun n => match n with
    | _ => none
  block := fun n => match n with
    | _ => none
abbrev A152 : Tys := (.cons (.slice VY1) .nil)
def ts152 : List (Nat × TD) := [(3, (.data (.int .i64))), (30, (.data VY1)), (32, (.data (.int .i64))), (155, (.data (.slice VY1)))]
noncomputable def fs152 (g189 : VT0 → VT0 → (Int)) : List (Nat × FSem) := [(189, .fn (.cons VY1 (.cons VY1 .nil)) (.cons (.int .i64) .nil) fun x => ((g189 x.1 x.2.1), ()))]
noncomputable def body152 : Code := match Tryz.f152.body with | some c => c | none => .skip
theorem ty152 : chkTypes Tryz.prog ts152 = true := by kernel_rfl
theorem ev152 (g189 : VT0 → VT0 → (Int)) (k : Nat) (x : ((.cons (.slice VY1) .nil) : Tys).den) : evFun (mkEnv ts152 (fs152 g189)) H152 k body152 43 [.tmp 2] (explodes (.cons (.slice VY1) .nil) x) [] (dec (.cons (.int .i64) .nil)) = f152 g189 k x.1 := by kernel_rfl
/-! ### jitney/fleet.rosters -/
def f153  (k : Nat) (x0 : List VT0) : Option ((List Int) × Int × Unit) :=
  Option.bind (α := ((List Int) × Int × Unit) ⊕ (((List Int) × (List Int) × Unit) × (Unit))) (iter (σ := ((List Int) × (List Int) × Int × Unit) × (Unit)) (τ := ((List Int) × Int × Unit) ⊕ (((List Int) × (List Int) × Unit) × (Unit))) k (fun y1 =>
      bif (decide (y1.1.2.2.1 < ((List.length x0 : Nat) : Int))) then
        bif (inR y1.1.2.2.1 ((List.length x0 : Nat) : Int)) then
          Option.bind (α := ((((List Int) × (List Int) × Int × Unit) × (Unit)) ⊕ (((List Int) × Int × Unit) ⊕ (((List Int) × (List Int) × Unit) × (Unit)))) ⊕ ((Int × Unit) × ((List Int) × VT0 × Unit))) (
              Option.bind (α := (((((List Int) × (List Int) × Int × Unit) × (Unit)) ⊕ (((List Int) × Int × Unit) ⊕ (((List Int) × (List Int) × Unit) × (Unit)))) ⊕ ((Int × Unit) × ((List Int) × VT0 × Unit))) ⊕ ((Unit) × VT4)) (iter (σ := (Int × Unit) × VT4) (τ := (((((List Int) × (List Int) × Int × Unit) × (Unit)) ⊕ (((List Int) × Int × Unit) ⊕ (((List Int) × (List Int) × Unit) × (Unit)))) ⊕ ((Int × Unit) × ((List Int) × VT0 × Unit))) ⊕ ((Unit) × VT4)) k (fun y2 =>
                  bif (decide (y2.1.1 < ((List.length y1.1.1 : Nat) : Int))) then
                    bif (inR y2.1.1 ((List.length y1.1.1 : Nat) : Int)) then
                      bif (inR y2.1.1 ((List.length y1.1.1 : Nat) : Int)) then
                        bif (decide ((rd (α := Int) (0 : Int) y1.1.1 y2.1.1) ≤ y2.2.1.1)) then
                          some (.inr (.inl (.inr ((y2.1.1, ()), (y1.1.1, (y2.2.1.1, y2.2.1.2.1, ()), ())))))
                        else
                          some (.inl (((IntKind.i64.wrap (y2.1.1 + (1 : Int))), ()), ((y2.2.1.1, y2.2.1.2.1, ()), ())))
                      else
                        none
                    else
                      none
                  else
                    some (.inr (.inr ((), ((y2.2.1.1, y2.2.1.2.1, ()), ()))))) (((0 : Int), ()), ((rd (α := VT0) zVT0 x0 y1.1.2.2.1), ()))) fun r => match r with
              | .inl z => some z
              | .inr z3 =>
                some (.inr (((-1 : Int), ()), (y1.1.1, (z3.2.1.1, z3.2.1.2.1, ()), ())))) fun r => match r with
          | .inl z => some z
          | .inr y4 =>
            Option.bind (α := ((((List Int) × (List Int) × Int × Unit) × (Unit)) ⊕ (((List Int) × Int × Unit) ⊕ (((List Int) × (List Int) × Unit) × (Unit)))) ⊕ (((List Int) × Int × Unit) × (Unit))) (
                bif (decide (y4.1.1 < (0 : Int))) then
                  bif decide (List.length y4.2.1 + List.length ([(0 : Int)]) ≤ 4294967296) then
                    some (.inr (((y4.2.1 ++ [(0 : Int)]), ((List.length y4.2.1 : Nat) : Int), ()), ()))
                  else
                    none
                else
                  some (.inr ((y4.2.1, y4.1.1, ()), ()))) fun r => match r with
            | .inl z => some z
            | .inr y5 =>
              bif (inR y5.1.2.1 ((List.length y5.1.1 : Nat) : Int)) then
                bif (inR y5.1.2.1 ((List.length y5.1.1 : Nat) : Int)) then
                  bif decide (List.length y1.1.2.1 + List.length ([y5.1.2.1]) ≤ 4294967296) then
                    some (.inl (((List.set y5.1.1 (Int.toNat y5.1.2.1) y4.2.2.1.2.1), (y1.1.2.1 ++ [y5.1.2.1]), (IntKind.i64.wrap (y1.1.2.2.1 + (1 : Int))), ()), ()))
                  else
                    none
                else
                  none
              else
                none
        else
          none
      else
        some (.inr (.inr ((y1.1.1, y1.1.2.1, ()), ())))) (([], [], (0 : Int), ()), ())) fun r => match r with
  | .inl z => some z
  | .inr z6 =>
    some (z6.1.2.1, ((List.length z6.1.1 : Nat) : Int), ())
def H153 : Hints where
  loop := fun n => match n with
    | 0 => some ({ slots := [(4, (.row (.int .i64))), (5, (.row (.int .i64))), (11, (.int .i64))], objs := [], gone := [] }, 0, { slots := [(4, (.row (.int .i64))), (5, (.row (.int .i64)))], objs := [], gone := [] })
    | _ => none
  region := fun n => match n with
    | 5 => some { slots := [(8, (.int .i64))], objs := [(0, (.row (.int .i64))), (2, (.box (.data VY1) (.agg (.cons (.int .i64) (.cons (.int .i64) .nil)))))], gone := [] }
    | _ => none
  cond := fun n => match n with
    | 19 => some { slots := [(4, (.row (.int .i64))), (8, (.int .i64))], objs := [], gone := [0] }
    | _ => none
  block := fun n => match n with
    | _ => none
def Hi153_191 : Hints where
  loop := fun n => match n with
    | _ => none
  region := fun n => match n with
    | _ => none
  cond := fun n => match n with
    | _ => none
  block := fun n => match n with
    | _ => none
def tsi153_191 : List (Nat × TD) := [(3, (.data (.int .i64))), (30, (.data VY1))]
noncomputable def bodyi153_191 : Code := match Tryz.f191.body with | some c => c | none => .skip
noncomputable def fsi153_191  (k : Nat) : List (Nat × FSem) := []
theorem tyi153_191 : chkTypes Tryz.prog tsi153_191 = true := by kernel_rfl
def Hi153_190 : Hints where
  loop := fun n => match n with
    | 0 => some ({ slots := [(8, (.int .i64))], objs := [(1, (.box (.data VY1) (.agg (.cons (.int .i64) (.cons (.int .i64) .nil)))))], gone := [] }, 0, { slots := [], objs := [(1, (.box (.data VY1) (.agg (.cons (.int .i64) (.cons (.int .i64) .nil)))))], gone := [] })
    | _ => none
  region := fun n => match n with
    | _ => none
  cond := fun n => match n with
    | _ => none
  block := fun n => match n with
    | _ => none
def tsi153_190 : List (Nat × TD) := [(3, (.data (.int .i64))), (31, (.data (.slice (.int .i64))))]
noncomputable def bodyi153_190 : Code := match Tryz.f190.body with | some c => c | none => .skip
noncomputable def fsi153_190  (k : Nat) : List (Nat × FSem) := [(191, .ev (mkEnv tsi153_191 (fsi153_191  k)) Hi153_191 k bodyi153_191 8 [.tmp 3])]
theorem tyi153_190 : chkTypes Tryz.prog tsi153_190 = true := by kernel_rfl
abbrev A153 : Tys := (.cons (.slice VY1) .nil)
def ts153 : List (Nat × TD) := [(3, (.data (.int .i64))), (30, (.data VY1)), (31, (.data (.slice (.int .i64)))), (155, (.data (.slice VY1)))]
noncomputable def fs153  (k : Nat) : List (Nat × FSem) := [(190, .ev (mkEnv tsi153_190 (fsi153_190  k)) Hi153_190 k bodyi153_190 19 [.tmp 4])]
noncomputable def body153 : Code := match Tryz.f153.body with | some c => c | none => .skip
theorem ty153 : chkTypes Tryz.prog ts153 = true := by kernel_rfl
theorem ev153  (k : Nat) (x : ((.cons (.slice VY1) .nil) : Tys).den) : evFun (mkEnv ts153 (fs153  k)) H153 k body153 38 [.tmp 2, .tmp 3] (explodes (.cons (.slice VY1) .nil) x) [] (dec (.cons (.slice (.int .i64)) (.cons (.int .i64) .nil))) = f153  k x.1 := by kernel_rfl
/-! ### jitney/fleet.Drivers -/
def f104 (g152 : (List VT0) → Option (Int × Unit)) (g153 : (List VT0) → Option ((List Int) × Int × Unit)) (k : Nat) (x0 : List VT0) : Option VT0 :=
  Option.bind (g152 x0) fun v1 =>
  bif (v1.1 != (0 : Int)) then
    some ((0 : Int), v1.1, ())
  else
    Option.bind (g153 x0) fun v2 =>
    some (v2.2.1, (0 : Int), ())
def H104 : Hints where
  loop := fun n => match n with
    | _ => none
  region := fun n => match n with
    | _ => none
  cond := fun n => match n with
    | _ => none
  block := fun n => match n with
    | _ => none
abbrev A104 : Tys := (.cons (.slice VY1) .nil)
def ts104 : List (Nat × TD) := [(3, (.data (.int .i64))), (32, (.data (.int .i64))), (155, (.data (.slice VY1)))]
noncomputable def fs104 (g152 : (List VT0) → Option (Int × Unit)) (g153 : (List VT0) → Option ((List Int) × Int × Unit)) : List (Nat × FSem) := [(152, .pfn (.cons (.slice VY1) .nil) (.cons (.int .i64) .nil) fun x => (g152 x.1)), (153, .pfn (.cons (.slice VY1) .nil) (.cons (.slice (.int .i64)) (.cons (.int .i64) .nil)) fun x => (g153 x.1))]
noncomputable def body104 : Code := match Tryz.f104.body with | some c => c | none => .skip
theorem ty104 : chkTypes Tryz.prog ts104 = true := by kernel_rfl
theorem ev104 (g152 : (List VT0) → Option (Int × Unit)) (g153 : (List VT0) → Option ((List Int) × Int × Unit)) (k : Nat) (x : ((.cons (.slice VY1) .nil) : Tys).den) : evFun (mkEnv ts104 (fs104 g152 g153)) H104 k body104 18 [.tmp 2, .tmp 3] (explodes (.cons (.slice VY1) .nil) x) [] (dec (.cons (.int .i64) (.cons (.int .i64) .nil))) = f104 g152 g153 k x.1 := by kernel_rfl
/-! ### jitney/jitlaw2.driven -/
def f46 (g104 : (List VT0) → Option VT0) (k : Nat)  : Option (Bool × Unit) :=
  Option.bind (g104 ([((0 : Int), (5 : Int), ()), ((3 : Int), (9 : Int), ())])) fun v1 =>
  bif (v1.2.1 == (0 : Int)) then
    some ((v1.1 == (2 : Int)), ())
  else
    some (false, ())
def H46 : Hints where
  loop := fun n => match n with
    | _ => none
  region := fun n => match n with
    | _ => none
  cond := fun n => match n with
    | _ => none
  block := fun n => match n with
    | _ => none
abbrev A46 : Tys := .nil
def ts46 : List (Nat × TD) := [(3, (.data (.int .i64))), (4, (.data .bool)), (30, (.data VY1)), (32, (.data (.int .i64))), (155, (.data (.slice VY1)))]
noncomputable def fs46 (g104 : (List VT0) → Option VT0) : List (Nat × FSem) := [(104, .pfn (.cons (.slice VY1) .nil) (.cons (.int .i64) (.cons (.int .i64) .nil)) fun x => (g104 x.1))]
noncomputable def body46 : Code := match Tryz.f46.body with | some c => c | none => .skip
theorem ty46 : chkTypes Tryz.prog ts46 = true := by kernel_rfl
theorem ev46 (g104 : (List VT0) → Option VT0) (k : Nat) (x : (.nil : Tys).den) : evFun (mkEnv ts46 (fs46 g104)) H46 k body46 16 [.tmp 0] (explodes .nil x) [] (dec (.cons .bool .nil)) = f46 g104 k  := by kernel_rfl
/-! ### jitney/jitlaw2.VehiclesReady -/
def f4 (g18 : (List Int) → (Int)) (g26 : (List VT5) → (List VT10) → ByteArray → Int → Int → Option ((List ByteArray) × Int × Unit)) (g27 : (List VT5) → Option ((List VT5) × Unit)) (g28 : (List VT10) → Option ((List VT10) × Unit)) (g29 : (List VT8) → (List VT10) → (List VT9) → (List VT6) → Int → Int → Option ((List ByteArray) × Int × Unit)) (g30 : (List VT8) → Option ((List VT8) × Unit)) (g31 : (List VT9) → Option ((List VT9) × Unit)) (g32 : (List VT6) → Option ((List VT6) × Unit)) (g33 : (List VT5) → (Int)) (g34 : (List VT10) → (Int)) (g35 : Bool → Int → (Int)) (g36 : ByteArray → (Bool)) (g37 : Int → (Bool)) (g38 : (List VT8) → (Int)) (g39 : (List VT9) → (Int)) (g40 : (List VT6) → Option (Int × Unit)) (g41 : Int → (Int)) (g42 : (List VT8) → (List VT6) → Option (Int × Unit)) (g43 : (List VT5) → (List VT10) → ByteArray → Int → Int → Option ((List ByteArray) × Unit)) (g44 : (List VT8) → (List VT10) → (List VT9) → (List VT6) → Int → Int → Option ((List ByteArray) × Unit)) (g45 : (List ByteArray) → (List ByteArray) → (Bool)) (g46 : Option (Bool × Unit)) (k : Nat) (x0 : List VT8) (x1 : List VT5) (x2 : List VT10) (x3 : List VT9) (x4 : ByteArray) (x5 : Int) (x6 : Int) (x7 : Int) (x8 : List VT6) : Option (Bool × Unit) :=
  Option.bind (g27 x1) fun v1 =>
  Option.bind (g28 x2) fun v2 =>
  Option.bind (g26 v1.1 v2.1 x4 x5 x6) fun v3 =>
  Option.bind (g30 x0) fun v4 =>
  Option.bind (g28 x2) fun v5 =>
  Option.bind (g31 x3) fun v6 =>
  Option.bind (g32 x8) fun v7 =>
  Option.bind (g29 v4.1 v5.1 v6.1 v7.1 x7 x6) fun v8 =>
  Option.bind (α := (Bool × Unit) ⊕ ((Int × Unit) × (Unit))) (
      bif (decide (x5 < (0 : Int))) then
        some (.inr (((g18 ([(g33 x1), (g34 x2), (g35 (!(g36 x4)) (5 : Int)), (g35 true (1 : Int))])), ()), ()))
      else
        bif (decide (x5 > x6)) then
          some (.inr (((g18 ([(g33 x1), (g34 x2), (g35 (!(g36 x4)) (5 : Int)), (g35 true (1 : Int))])), ()), ()))
        else
          some (.inr (((g18 ([(g33 x1), (g34 x2), (g35 (!(g36 x4)) (5 : Int)), (g35 (!(g37 x6)) (1 : Int))])), ()), ()))) fun r => match r with
  | .inl z => some z
  | .inr y9 =>
    Option.bind (α := (Bool × Unit) ⊕ ((Int × Unit) × (Unit))) (
        Option.bind (g40 x8) fun v10 =>
        bif (decide (x7 < (0 : Int))) then
          some (.inr (((g18 ([(g38 x0), (g34 x2), (g39 x3), v10.1, (g35 true (1 : Int)), (g41 x6)])), ()), ()))
        else
          some (.inr (((g18 ([(g38 x0), (g34 x2), (g39 x3), v10.1, (g35 (decide (x7 > (1000000 : Int))) (1 : Int)), (g41 x6)])), ()), ()))) fun r => match r with
    | .inl z => some z
    | .inr y11 =>
      Option.bind (g42 x0 x8) fun v12 =>
      Option.bind (α := (Bool × Unit) ⊕ (((List ByteArray) × Unit) × (Unit))) (
          bif (y9.1.1 == (0 : Int)) then
            Option.bind (g43 x1 x2 x4 x5 x6) fun v13 =>
            some (.inr ((v13.1, ()), ()))
          else
            some (.inr (([], ()), ()))) fun r => match r with
      | .inl z => some z
      | .inr y14 =>
        Option.bind (α := (Bool × Unit) ⊕ (((List ByteArray) × Unit) × (Unit))) (
            bif ((g18 ([y11.1.1, v12.1])) == (0 : Int)) then
              Option.bind (g44 x0 x2 x3 x8 x7 x6) fun v15 =>
              some (.inr ((v15.1, ()), ()))
            else
              some (.inr (([], ()), ()))) fun r => match r with
        | .inl z => some z
        | .inr y16 =>
          bif (v3.2.1 == y9.1.1) then
            bif (g45 v3.1 y14.1.1) then
              bif (v8.2.1 == (g18 ([y11.1.1, v12.1]))) then
                bif (g45 v8.1 y16.1.1) then
                  Option.bind g46 fun v17 =>
                  some (v17.1, ())
                else
                  some (false, ())
              else
                some (false, ())
            else
              some (false, ())
          else
            some (false, ())
def H4 : Hints where
  loop := fun n => match n with
    | _ => none
  region := fun n => match n with
    | 3 => some { slots := [(23, (.int .i64))], objs := [], gone := [] }
    | 4 => some { slots := [(24, (.int .i64))], objs := [], gone := [] }
    | _ => none
  cond := fun n => match n with
    | 101 => some { slots := [(25, (.sl .str))], objs := [], gone := [] }
    | 109 => some { slots := [(26, (.sl .str))], objs := [], gone := [] }
    | _ => none
  block := fun n => match n with
    | _ => none
abbrev A4 : Tys := (.cons (.slice VY5) (.cons (.slice VY2) (.cons (.slice VY6) (.cons (.slice VY4) (.cons .str (.cons (.int .i64) (.cons (.int .i64) (.cons (.int .i64) (.cons (.slice VY0) .nil)))))))))
def ts4 : List (Nat × TD) := [(3, (.data (.int .i64))), (4, (.data .bool)), (9, (.data .str)), (32, (.data (.int .i64))), (55, (.data (.slice VY5))), (56, (.data (.slice VY2))), (57, (.data (.slice VY6))), (58, (.data (.slice VY4))), (59, (.data (.slice VY0))), (128, (.data (.slice (.int .i64))))]
noncomputable def fs4 (g18 : (List Int) → (Int)) (g26 : (List VT5) → (List VT10) → ByteArray → Int → Int → Option ((List ByteArray) × Int × Unit)) (g27 : (List VT5) → Option ((List VT5) × Unit)) (g28 : (List VT10) → Option ((List VT10) × Unit)) (g29 : (List VT8) → (List VT10) → (List VT9) → (List VT6) → Int → Int → Option ((List ByteArray) × Int × Unit)) (g30 : (List VT8) → Option ((List VT8) × Unit)) (g31 : (List VT9) → Option ((List VT9) × Unit)) (g32 : (List VT6) → Option ((List VT6) × Unit)) (g33 : (List VT5) → (Int)) (g34 : (List VT10) → (Int)) (g35 : Bool → Int → (Int)) (g36 : ByteArray → (Bool)) (g37 : Int → (Bool)) (g38 : (List VT8) → (Int)) (g39 : (List VT9) → (Int)) (g40 : (List VT6) → Option (Int × Unit)) (g41 : Int → (Int)) (g42 : (List VT8) → (List VT6) → Option (Int × Unit)) (g43 : (List VT5) → (List VT10) → ByteArray → Int → Int → Option ((List ByteArray) × Unit)) (g44 : (List VT8) → (List VT10) → (List VT9) → (List VT6) → Int → Int → Option ((List ByteArray) × Unit)) (g45 : (List ByteArray) → (List ByteArray) → (Bool)) (g46 : Option (Bool × Unit)) : List (Nat × FSem) := [(18, .fn (.cons (.slice (.int .i64)) .nil) (.cons (.int .i64) .nil) fun x => ((g18 x.1), ())), (26, .pfn (.cons (.slice VY2) (.cons (.slice VY6) (.cons .str (.cons (.int .i64) (.cons (.int .i64) .nil))))) (.cons (.slice .str) (.cons (.int .i64) .nil)) fun x => (g26 x.1 x.2.1 x.2.2.1 x.2.2.2.1 x.2.2.2.2.1)), (27, .pfn (.cons (.slice VY2) .nil) (.cons (.slice VY2) .nil) fun x => (g27 x.1)), (28, .pfn (.cons (.slice VY6) .nil) (.cons (.slice VY6) .nil) fun x => (g28 x.1)), (29, .pfn (.cons (.slice VY5) (.cons (.slice VY6) (.cons (.slice VY4) (.cons (.slice VY0) (.cons (.int .i64) (.cons (.int .i64) .nil)))))) (.cons (.slice .str) (.cons (.int .i64) .nil)) fun x => (g29 x.1 x.2.1 x.2.2.1 x.2.2.2.1 x.2.2.2.2.1 x.2.2.2.2.2.1)), (30, .pfn (.cons (.slice VY5) .nil) (.cons (.slice VY5) .nil) fun x => (g30 x.1)), (31, .pfn (.cons (.slice VY4) .nil) (.cons (.slice VY4) .nil) fun x => (g31 x.1)), (32, .pfn (.cons (.slice VY0) .nil) (.cons (.slice VY0) .nil) fun x => (g32 x.1)), (33, .fn (.cons (.slice VY2) .nil) (.cons (.int .i64) .nil) fun x => ((g33 x.1), ())), (34, .fn (.cons (.slice VY6) .nil) (.cons (.int .i64) .nil) fun x => ((g34 x.1), ())), (35, .fn (.cons .bool (.cons (.int .i64) .nil)) (.cons (.int .i64) .nil) fun x => ((g35 x.1 x.2.1), ())), (36, .fn (.cons .str .nil) (.cons .bool .nil) fun x => ((g36 x.1), ())), (37, .fn (.cons (.int .i64) .nil) (.cons .bool .nil) fun x => ((g37 x.1), ())), (38, .fn (.cons (.slice VY5) .nil) (.cons (.int .i64) .nil) fun x => ((g38 x.1), ())), (39, .fn (.cons (.slice VY4) .nil) (.cons (.int .i64) .nil) fun x => ((g39 x.1), ())), (40, .pfn (.cons (.slice VY0) .nil) (.cons (.int .i64) .nil) fun x => (g40 x.1)), (41, .fn (.cons (.int .i64) .nil) (.cons (.int .i64) .nil) fun x => ((g41 x.1), ())), (42, .pfn (.cons (.slice VY5) (.cons (.slice VY0) .nil)) (.cons (.int .i64) .nil) fun x => (g42 x.1 x.2.1)), (43, .pfn (.cons (.slice VY2) (.cons (.slice VY6) (.cons .str (.cons (.int .i64) (.cons (.int .i64) .nil))))) (.cons (.slice .str) .nil) fun x => (g43 x.1 x.2.1 x.2.2.1 x.2.2.2.1 x.2.2.2.2.1)), (44, .pfn (.cons (.slice VY5) (.cons (.slice VY6) (.cons (.slice VY4) (.cons (.slice VY0) (.cons (.int .i64) (.cons (.int .i64) .nil)))))) (.cons (.slice .str) .nil) fun x => (g44 x.1 x.2.1 x.2.2.1 x.2.2.2.1 x.2.2.2.2.1 x.2.2.2.2.2.1)), (45, .fn (.cons (.slice .str) (.cons (.slice .str) .nil)) (.cons .bool .nil) fun x => ((g45 x.1 x.2.1), ())), (46, .pfn .nil (.cons .bool .nil) fun x => g46)]
noncomputable def body4 : Code := match Tryz.f4.body with | some c => c | none => .skip
theorem ty4 : chkTypes Tryz.prog ts4 = true := by kernel_rfl
theorem ev4 (g18 : (List Int) → (Int)) (g26 : (List VT5) → (List VT10) → ByteArray → Int → Int → Option ((List ByteArray) × Int × Unit)) (g27 : (List VT5) → Option ((List VT5) × Unit)) (g28 : (List VT10) → Option ((List VT10) × Unit)) (g29 : (List VT8) → (List VT10) → (List VT9) → (List VT6) → Int → Int → Option ((List ByteArray) × Int × Unit)) (g30 : (List VT8) → Option ((List VT8) × Unit)) (g31 : (List VT9) → Option ((List VT9) × Unit)) (g32 : (List VT6) → Option ((List VT6) × Unit)) (g33 : (List VT5) → (Int)) (g34 : (List VT10) → (Int)) (g35 : Bool → Int → (Int)) (g36 : ByteArray → (Bool)) (g37 : Int → (Bool)) (g38 : (List VT8) → (Int)) (g39 : (List VT9) → (Int)) (g40 : (List VT6) → Option (Int × Unit)) (g41 : Int → (Int)) (g42 : (List VT8) → (List VT6) → Option (Int × Unit)) (g43 : (List VT5) → (List VT10) → ByteArray → Int → Int → Option ((List ByteArray) × Unit)) (g44 : (List VT8) → (List VT10) → (List VT9) → (List VT6) → Int → Int → Option ((List ByteArray) × Unit)) (g45 : (List ByteArray) → (List ByteArray) → (Bool)) (g46 : Option (Bool × Unit)) (k : Nat) (x : ((.cons (.slice VY5) (.cons (.slice VY2) (.cons (.slice VY6) (.cons (.slice VY4) (.cons .str (.cons (.int .i64) (.cons (.int .i64) (.cons (.int .i64) (.cons (.slice VY0) .nil))))))))) : Tys).den) : evFun (mkEnv ts4 (fs4 g18 g26 g27 g28 g29 g30 g31 g32 g33 g34 g35 g36 g37 g38 g39 g40 g41 g42 g43 g44 g45 g46)) H4 k body4 138 [.tmp 18] (explodes (.cons (.slice VY5) (.cons (.slice VY2) (.cons (.slice VY6) (.cons (.slice VY4) (.cons .str (.cons (.int .i64) (.cons (.int .i64) (.cons (.int .i64) (.cons (.slice VY0) .nil))))))))) x) [] (dec (.cons .bool .nil)) = f4 g18 g26 g27 g28 g29 g30 g31 g32 g33 g34 g35 g36 g37 g38 g39 g40 g41 g42 g43 g44 g45 g46 k x.1 x.2.1 x.2.2.1 x.2.2.2.1 x.2.2.2.2.1 x.2.2.2.2.2.1 x.2.2.2.2.2.2.1 x.2.2.2.2.2.2.2.1 x.2.2.2.2.2.2.2.2.1 := by kernel_rfl
end Go.Vm
