/- The program's functions, as an own tool reads them off its form. -/
import Derived.Test.YtjkidhjkpkcnhaaGreatDoorVmK
import Derived.Test.YtjkidhjkpkcnhaaGreatDoorVmD
import Derived.Test.YtjkidhjkpkcnhaaGreatDoorVmQ
import Derived.Test.YtjkidhjkpkcnhaaGreatDoorProg
set_option maxRecDepth 100000
set_option linter.unusedVariables false
namespace Go.Vm
open Go.Proofs
abbrev WT0 : Type := (Int × Int × Unit)
abbrev WT1 : Type := (Int × Bool × Unit)
abbrev WT2 : Type := (ByteArray × Int × Unit)
abbrev WT3 : Type := (Int × Bool × Int × Unit)
abbrev WT4 : Type := (WT0 × Unit)
abbrev WT5 : Type := (ByteArray × Int × Int × Unit)
abbrev WT6 : Type := (ByteArray × ByteArray × ByteArray × ByteArray × Int × Int × Int × Int × Unit)
abbrev WT7 : Type := (WT6 × Bool × Unit)
abbrev zWT3 : WT3 := ((0 : Int), false, (0 : Int), ())
abbrev zWT5 : WT5 := (ByteArray.empty, (0 : Int), (0 : Int), ())
abbrev zWT6 : WT6 := (ByteArray.empty, ByteArray.empty, ByteArray.empty, ByteArray.empty, (0 : Int), (0 : Int), (0 : Int), (0 : Int), ())
abbrev zWT7 : WT7 := (zWT6, false, ())
abbrev WY0 : Ty := (.struct (.cons (.int .i64) (.cons (.int .i64) .nil)))
abbrev WY1 : Ty := (.struct (.cons .str (.cons (.int .i64) (.cons (.int .i64) .nil))))
abbrev WY2 : Ty := (.struct (.cons (.int .i64) (.cons .bool (.cons (.int .i64) .nil))))
abbrev WY3 : Ty := (.struct (.cons .str (.cons .str (.cons .str (.cons .str (.cons (.int .i64) (.cons (.int .i64) (.cons (.int .i64) (.cons (.int .i64) .nil)))))))))
abbrev WY4 : Ty := (.struct (.cons .str (.cons .str (.cons .str (.cons .str (.cons (.int .i64) (.cons (.int .i64) (.cons (.int .i64) (.cons (.int .i64) (.cons (.int .i64) (.cons (.int .i64) (.cons (.int .i64) (.cons (.int .i64) (.cons (.int .i64) (.cons (.slice WY2) .nil)))))))))))))))
theorem mixedOK : Tryz.prog.follows .mixedOrders = true := by kernel_rfl
/-! ### jitney/base.Key -/
def f75  (k : Nat) (x0 : ByteArray) : Option (Bool × Unit) :=
  bif (sEq x0 (ByteArray.mk #[])) then
    some (false, ())
  else
    bif (decide (((ByteArray.size x0 : Nat) : Int) > (40 : Int))) then
      some (false, ())
    else
      bif (inR (0 : Int) ((ByteArray.size x0 : Nat) : Int)) then
        bif (decide ((bt x0 (0 : Int)) < (97 : Int))) then
          some (false, ())
        else
          bif (inR (0 : Int) ((ByteArray.size x0 : Nat) : Int)) then
            bif (decide ((bt x0 (0 : Int)) > (122 : Int))) then
              some (false, ())
            else
              Option.bind (α := (Bool × Unit) ⊕ ((Unit) × (Unit))) (iter (σ := (Int × Unit) × (Unit)) (τ := (Bool × Unit) ⊕ ((Unit) × (Unit))) k (fun y1 =>
                  bif (decide (y1.1.1 < ((ByteArray.size x0 : Nat) : Int))) then
                    bif (inR y1.1.1 ((ByteArray.size x0 : Nat) : Int)) then
                      bif (decide ((bt x0 y1.1.1) ≥ (97 : Int))) then
                        bif (decide ((bt x0 y1.1.1) ≤ (122 : Int))) then
                          some (.inl (((IntKind.i64.wrap (y1.1.1 + (1 : Int))), ()), ()))
                        else
                          bif (decide ((bt x0 y1.1.1) ≥ (48 : Int))) then
                            bif (decide ((bt x0 y1.1.1) ≤ (57 : Int))) then
                              some (.inl (((IntKind.i64.wrap (y1.1.1 + (1 : Int))), ()), ()))
                            else
                              bif ((bt x0 y1.1.1) == (45 : Int)) then
                                some (.inl (((IntKind.i64.wrap (y1.1.1 + (1 : Int))), ()), ()))
                              else
                                bif (!((bt x0 y1.1.1) == (95 : Int))) then
                                  some (.inr (.inl (false, ())))
                                else
                                  some (.inl (((IntKind.i64.wrap (y1.1.1 + (1 : Int))), ()), ()))
                          else
                            bif ((bt x0 y1.1.1) == (45 : Int)) then
                              some (.inl (((IntKind.i64.wrap (y1.1.1 + (1 : Int))), ()), ()))
                            else
                              bif (!((bt x0 y1.1.1) == (95 : Int))) then
                                some (.inr (.inl (false, ())))
                              else
                                some (.inl (((IntKind.i64.wrap (y1.1.1 + (1 : Int))), ()), ()))
                      else
                        bif (decide ((bt x0 y1.1.1) ≥ (48 : Int))) then
                          bif (decide ((bt x0 y1.1.1) ≤ (57 : Int))) then
                            some (.inl (((IntKind.i64.wrap (y1.1.1 + (1 : Int))), ()), ()))
                          else
                            bif ((bt x0 y1.1.1) == (45 : Int)) then
                              some (.inl (((IntKind.i64.wrap (y1.1.1 + (1 : Int))), ()), ()))
                            else
                              bif (!((bt x0 y1.1.1) == (95 : Int))) then
                                some (.inr (.inl (false, ())))
                              else
                                some (.inl (((IntKind.i64.wrap (y1.1.1 + (1 : Int))), ()), ()))
                        else
                          bif ((bt x0 y1.1.1) == (45 : Int)) then
                            some (.inl (((IntKind.i64.wrap (y1.1.1 + (1 : Int))), ()), ()))
                          else
                            bif (!((bt x0 y1.1.1) == (95 : Int))) then
                              some (.inr (.inl (false, ())))
                            else
                              some (.inl (((IntKind.i64.wrap (y1.1.1 + (1 : Int))), ()), ()))
                    else
                      none
                  else
                    some (.inr (.inr ((), ())))) (((0 : Int), ()), ())) fun r => match r with
              | .inl z => some z
              | .inr z2 =>
                some (true, ())
          else
            none
      else
        none
def H75 : Hints where
  loop := fun n => match n with
    | 0 => some ({ slots := [(24, (.int .i64))], objs := [], gone := [] }, 0, { slots := [], objs := [], gone := [] })
    | _ => none
  region := fun n => match n with
    | _ => none
  cond := fun n => match n with
    | _ => none
  block := fun n => match n with
    | _ => none
abbrev A75 : Tys := (.cons .str .nil)
def ts75 : List (Nat × TD) := [(3, (.data (.int .i64))), (4, (.data .bool)), (5, (.data (.int .u8))), (9, (.data .str))]
noncomputable def fs75  : List (Nat × FSem) := []
noncomputable def body75 : Code := match Tryz.f75.body with | some c => c | none => .skip
theorem ty75 : chkTypes Tryz.prog ts75 = true := by kernel_rfl
theorem ev75  (k : Nat) (x : ((.cons .str .nil) : Tys).den) : evFun (mkEnv ts75 (fs75 )) H75 k body75 54 [.tmp 2] (explodes (.cons .str .nil) x) [] (dec (.cons .bool .nil)) = f75  k x.1 := by kernel_rfl
/-! ### jitney/request.allKeys$1 -/
def f135 (g75 : ByteArray → (Bool)) (k : Nat) (x0 : ByteArray) : Option (Bool × Unit) :=
  some ((!(g75 x0)), ())
def H135 : Hints where
  loop := fun n => match n with
    | _ => none
  region := fun n => match n with
    | _ => none
  cond := fun n => match n with
    | _ => none
  block := fun n => match n with
    | _ => none
abbrev A135 : Tys := (.cons .str .nil)
def ts135 : List (Nat × TD) := [(4, (.data .bool)), (9, (.data .str))]
noncomputable def fs135 (g75 : ByteArray → (Bool)) : List (Nat × FSem) := [(75, .fn (.cons .str .nil) (.cons .bool .nil) fun x => ((g75 x.1), ()))]
noncomputable def body135 : Code := match Tryz.f135.body with | some c => c | none => .skip
theorem ty135 : chkTypes Tryz.prog ts135 = true := by kernel_rfl
theorem ev135 (g75 : ByteArray → (Bool)) (k : Nat) (x : ((.cons .str .nil) : Tys).den) : evFun (mkEnv ts135 (fs135 g75)) H135 k body135 6 [.tmp 2] (explodes (.cons .str .nil) x) [] (dec (.cons .bool .nil)) = f135 g75 k x.1 := by kernel_rfl
/-! ### jitney/request.allKeys -/
def f72 (g135 : ByteArray → (Bool)) (k : Nat) (x0 : List ByteArray) : Option (Bool × Unit) :=
  Option.bind (α := (Bool × Unit) ⊕ ((Unit) × (Unit))) (iter (σ := (Int × Unit) × (Unit)) (τ := (Bool × Unit) ⊕ ((Unit) × (Unit))) k (fun y1 =>
      bif (decide (y1.1.1 < ((List.length x0 : Nat) : Int))) then
        bif (inR y1.1.1 ((List.length x0 : Nat) : Int)) then
          bif (g135 (rd (α := ByteArray) ByteArray.empty x0 y1.1.1)) then
            some (.inr (.inl ((!(decide (y1.1.1 ≥ (0 : Int)))), ())))
          else
            some (.inl (((IntKind.i64.wrap (y1.1.1 + (1 : Int))), ()), ()))
        else
          none
      else
        some (.inr (.inr ((), ())))) (((0 : Int), ()), ())) fun r => match r with
  | .inl z => some z
  | .inr z2 =>
    some (true, ())
def H72 : Hints where
  loop := fun n => match n with
    | _ => none
  region := fun n => match n with
    | _ => none
  cond := fun n => match n with
    | _ => none
  block := fun n => match n with
    | _ => none
def Hi72_180 : Hints where
  loop := fun n => match n with
    | 0 => some ({ slots := [(8, (.int .i64))], objs := [], gone := [] }, 0, { slots := [], objs := [], gone := [] })
    | _ => none
  region := fun n => match n with
    | _ => none
  cond := fun n => match n with
    | _ => none
  block := fun n => match n with
    | _ => none
def tsi72_180 : List (Nat × TD) := [(3, (.data (.int .i64))), (9, (.data .str)), (60, (.data (.slice .str)))]
noncomputable def bodyi72_180 : Code := match Tryz.f180.body with | some c => c | none => .skip
noncomputable def fsi72_180 (g135 : ByteArray → (Bool)) (k : Nat) : List (Nat × FSem) := [(135, .fn (.cons .str .nil) (.cons .bool .nil) fun x => ((g135 x.1), ()))]
theorem tyi72_180 : chkTypes Tryz.prog tsi72_180 = true := by kernel_rfl
def Hi72_134 : Hints where
  loop := fun n => match n with
    | _ => none
  region := fun n => match n with
    | _ => none
  cond := fun n => match n with
    | _ => none
  block := fun n => match n with
    | _ => none
def tsi72_134 : List (Nat × TD) := [(3, (.data (.int .i64)))]
noncomputable def bodyi72_134 : Code := match Tryz.f134.body with | some c => c | none => .skip
noncomputable def fsi72_134 (g135 : ByteArray → (Bool)) (k : Nat) : List (Nat × FSem) := [(180, .ev (mkEnv tsi72_180 (fsi72_180 g135 k)) Hi72_180 k bodyi72_180 19 [.tmp 4])]
theorem tyi72_134 : chkTypes Tryz.prog tsi72_134 = true := by kernel_rfl
abbrev A72 : Tys := (.cons (.slice .str) .nil)
def ts72 : List (Nat × TD) := [(4, (.data .bool)), (60, (.data (.slice .str)))]
noncomputable def fs72 (g135 : ByteArray → (Bool)) (k : Nat) : List (Nat × FSem) := [(134, .ev (mkEnv tsi72_134 (fsi72_134 g135 k)) Hi72_134 k bodyi72_134 9 [.tmp 4])]
noncomputable def body72 : Code := match Tryz.f72.body with | some c => c | none => .skip
theorem ty72 : chkTypes Tryz.prog ts72 = true := by kernel_rfl
theorem ev72 (g135 : ByteArray → (Bool)) (k : Nat) (x : ((.cons (.slice .str) .nil) : Tys).den) : evFun (mkEnv ts72 (fs72 g135 k)) H72 k body72 6 [.tmp 2] (explodes (.cons (.slice .str) .nil) x) [] (dec (.cons .bool .nil)) = f72 g135 k x.1 := by kernel_rfl
/-! ### jitney/base.Out -/
def f74  (k : Nat) (x0 : Int) (x1 : Int) (x2 : Int) : Option (Bool × Unit) :=
  bif (decide (x0 < x1)) then
    some (true, ())
  else
    some ((decide (x0 > x2)), ())
def H74 : Hints where
  loop := fun n => match n with
    | _ => none
  region := fun n => match n with
    | _ => none
  cond := fun n => match n with
    | _ => none
  block := fun n => match n with
    | _ => none
abbrev A74 : Tys := (.cons (.int .i64) (.cons (.int .i64) (.cons (.int .i64) .nil)))
def ts74 : List (Nat × TD) := [(3, (.data (.int .i64))), (4, (.data .bool))]
noncomputable def fs74  : List (Nat × FSem) := []
noncomputable def body74 : Code := match Tryz.f74.body with | some c => c | none => .skip
theorem ty74 : chkTypes Tryz.prog ts74 = true := by kernel_rfl
theorem ev74  (k : Nat) (x : ((.cons (.int .i64) (.cons (.int .i64) (.cons (.int .i64) .nil))) : Tys).den) : evFun (mkEnv ts74 (fs74 )) H74 k body74 15 [.tmp 6] (explodes (.cons (.int .i64) (.cons (.int .i64) (.cons (.int .i64) .nil))) x) [] (dec (.cons .bool .nil)) = f74  k x.1 x.2.1 x.2.2.1 := by kernel_rfl
/-! ### jitney/request.changesFault -/
def f136 (g74 : Int → Int → Int → (Bool)) (k : Nat) (x0 : List WT3) : Option (Int × Unit) :=
  bif (decide (((List.length x0 : Nat) : Int) > (200 : Int))) then
    some ((2 : Int), ())
  else
    Option.bind (α := (Int × Unit) ⊕ ((Unit) × (Unit))) (iter (σ := (Int × Unit) × (Unit)) (τ := (Int × Unit) ⊕ ((Unit) × (Unit))) k (fun y1 =>
        bif (decide (y1.1.1 < ((List.length x0 : Nat) : Int))) then
          bif (inR y1.1.1 ((List.length x0 : Nat) : Int)) then
            bif (g74 ((rd (α := WT3) zWT3 x0 y1.1.1).1) (0 : Int) (4000 : Int)) then
              some (.inr (.inl ((1 : Int), ())))
            else
              bif (g74 ((rd (α := WT3) zWT3 x0 y1.1.1).2.2.1) (-1440 : Int) (1440 : Int)) then
                some (.inr (.inl ((1 : Int), ())))
              else
                bif (!((rd (α := WT3) zWT3 x0 y1.1.1).2.1 == ((rd (α := WT3) zWT3 x0 y1.1.1).2.2.1 == (0 : Int)))) then
                  some (.inr (.inl ((3 : Int), ())))
                else
                  bif (decide (y1.1.1 > (0 : Int))) then
                    bif (inR (IntKind.i64.wrap (y1.1.1 - (1 : Int))) ((List.length x0 : Nat) : Int)) then
                      bif (decide ((rd (α := WT3) zWT3 x0 y1.1.1).1 ≤ (rd (α := WT3) zWT3 x0 (IntKind.i64.wrap (y1.1.1 - (1 : Int)))).1)) then
                        some (.inr (.inl ((7 : Int), ())))
                      else
                        some (.inl (((IntKind.i64.wrap (y1.1.1 + (1 : Int))), ()), ()))
                    else
                      none
                  else
                    some (.inl (((IntKind.i64.wrap (y1.1.1 + (1 : Int))), ()), ()))
          else
            none
        else
          some (.inr (.inr ((), ())))) (((0 : Int), ()), ())) fun r => match r with
    | .inl z => some z
    | .inr z2 =>
      some ((0 : Int), ())
def H136 : Hints where
  loop := fun n => match n with
    | 0 => some ({ slots := [(10, (.int .i64))], objs := [], gone := [] }, 0, { slots := [], objs := [], gone := [] })
    | _ => none
  region := fun n => match n with
    | _ => none
  cond := fun n => match n with
    | _ => none
  block := fun n => match n with
    | _ => none
abbrev A136 : Tys := (.cons (.slice WY2) .nil)
def ts136 : List (Nat × TD) := [(3, (.data (.int .i64))), (4, (.data .bool)), (26, (.data (.slice WY2))), (32, (.data (.int .i64))), (117, (.data WY2))]
noncomputable def fs136 (g74 : Int → Int → Int → (Bool)) : List (Nat × FSem) := [(74, .fn (.cons (.int .i64) (.cons (.int .i64) (.cons (.int .i64) .nil))) (.cons .bool .nil) fun x => ((g74 x.1 x.2.1 x.2.2.1), ()))]
noncomputable def body136 : Code := match Tryz.f136.body with | some c => c | none => .skip
theorem ty136 : chkTypes Tryz.prog ts136 = true := by kernel_rfl
theorem ev136 (g74 : Int → Int → Int → (Bool)) (k : Nat) (x : ((.cons (.slice WY2) .nil) : Tys).den) : evFun (mkEnv ts136 (fs136 g74)) H136 k body136 46 [.tmp 2] (explodes (.cons (.slice WY2) .nil) x) [] (dec (.cons (.int .i64) .nil)) = f136 g74 k x.1 := by kernel_rfl
/-! ### jitney/request.seriesFault -/
def f76 (g72 : (List ByteArray) → (Bool)) (g74 : Int → Int → Int → (Bool)) (g136 : (List WT3) → (Int)) (k : Nat) (x0 : (ByteArray × ByteArray × ByteArray × ByteArray × Int × Int × Int × Int × Int × Int × Int × Int × Int × (List WT3) × Unit)) : Option (Int × Unit) :=
  bif (!(g72 ([x0.1, x0.2.1, x0.2.2.1, x0.2.2.2.1]))) then
    some ((5 : Int), ())
  else
    bif (decide (((ByteArray.size x0.1 : Nat) : Int) > (30 : Int))) then
      some ((2 : Int), ())
    else
      bif (sEq x0.2.2.1 x0.2.2.2.1) then
        some ((6 : Int), ())
      else
        bif (g74 x0.2.2.2.2.1 (0 : Int) x0.2.2.2.2.2.1) then
          some ((1 : Int), ())
        else
          bif (decide (x0.2.2.2.2.2.1 > (4000 : Int))) then
            some ((1 : Int), ())
          else
            bif (g74 x0.2.2.2.2.2.2.1 (1 : Int) (52 : Int)) then
              some ((1 : Int), ())
            else
              bif (g74 x0.2.2.2.2.2.2.2.1 (1 : Int) (127 : Int)) then
                some ((1 : Int), ())
              else
                bif (g74 x0.2.2.2.2.2.2.2.2.1 (0 : Int) (1439 : Int)) then
                  some ((1 : Int), ())
                else
                  bif (g74 x0.2.2.2.2.2.2.2.2.2.1 (IntKind.i64.wrap (x0.2.2.2.2.2.2.2.2.1 + (1 : Int))) (2880 : Int)) then
                    some ((1 : Int), ())
                  else
                    bif (g74 x0.2.2.2.2.2.2.2.2.2.2.1 (-1440 : Int) (1440 : Int)) then
                      some ((1 : Int), ())
                    else
                      bif (g74 x0.2.2.2.2.2.2.2.2.2.2.2.1 (0 : Int) (60 : Int)) then
                        some ((1 : Int), ())
                      else
                        bif (g74 x0.2.2.2.2.2.2.2.2.2.2.2.2.1 (0 : Int) (60 : Int)) then
                          some ((1 : Int), ())
                        else
                          bif ((IntKind.i64.wrap (x0.2.2.2.2.2.2.2.2.2.2.2.1 + x0.2.2.2.2.2.2.2.2.2.2.2.2.1)) == (0 : Int)) then
                            some ((3 : Int), ())
                          else
                            some ((g136 x0.2.2.2.2.2.2.2.2.2.2.2.2.2.1), ())
def H76 : Hints where
  loop := fun n => match n with
    | _ => none
  region := fun n => match n with
    | _ => none
  cond := fun n => match n with
    | _ => none
  block := fun n => match n with
    | _ => none
abbrev A76 : Tys := (.cons WY4 .nil)
def ts76 : List (Nat × TD) := [(3, (.data (.int .i64))), (9, (.data .str)), (26, (.data (.slice WY2))), (28, (.data WY4)), (32, (.data (.int .i64))), (60, (.data (.slice .str)))]
noncomputable def fs76 (g72 : (List ByteArray) → (Bool)) (g74 : Int → Int → Int → (Bool)) (g136 : (List WT3) → (Int)) : List (Nat × FSem) := [(72, .fn (.cons (.slice .str) .nil) (.cons .bool .nil) fun x => ((g72 x.1), ())), (74, .fn (.cons (.int .i64) (.cons (.int .i64) (.cons (.int .i64) .nil))) (.cons .bool .nil) fun x => ((g74 x.1 x.2.1 x.2.2.1), ())), (136, .fn (.cons (.slice WY2) .nil) (.cons (.int .i64) .nil) fun x => ((g136 x.1), ()))]
noncomputable def body76 : Code := match Tryz.f76.body with | some c => c | none => .skip
theorem ty76 : chkTypes Tryz.prog ts76 = true := by kernel_rfl
theorem ev76 (g72 : (List ByteArray) → (Bool)) (g74 : Int → Int → Int → (Bool)) (g136 : (List WT3) → (Int)) (k : Nat) (x : ((.cons WY4 .nil) : Tys).den) : evFun (mkEnv ts76 (fs76 g72 g74 g136)) H76 k body76 83 [.tmp 2] (explodes (.cons WY4 .nil) x) [] (dec (.cons (.int .i64) .nil)) = f76 g72 g74 g136 k x.1 := by kernel_rfl
/-! ### jitney/request.CheckSeries -/
def f17 (g76 : (ByteArray × ByteArray × ByteArray × ByteArray × Int × Int × Int × Int × Int × Int × Int × Int × Int × (List WT3) × Unit) → (Int)) (k : Nat) (x0 : List (ByteArray × ByteArray × ByteArray × ByteArray × Int × Int × Int × Int × Int × Int × Int × Int × Int × (List WT3) × Unit)) : Option (Int × Unit) :=
  bif (decide (((List.length x0 : Nat) : Int) > (100 : Int))) then
    some ((2 : Int), ())
  else
    Option.bind (α := (Int × Unit) ⊕ ((Unit) × (Unit))) (iter (σ := (Int × Unit) × (Unit)) (τ := (Int × Unit) ⊕ ((Unit) × (Unit))) k (fun y1 =>
        bif (decide (y1.1.1 < ((List.length x0 : Nat) : Int))) then
          bif (inR y1.1.1 ((List.length x0 : Nat) : Int)) then
            bif ((g76 (rd (α := (ByteArray × ByteArray × ByteArray × ByteArray × Int × Int × Int × Int × Int × Int × Int × Int × Int × (List WT3) × Unit)) (ByteArray.empty, ByteArray.empty, ByteArray.empty, ByteArray.empty, (0 : Int), (0 : Int), (0 : Int), (0 : Int), (0 : Int), (0 : Int), (0 : Int), (0 : Int), (0 : Int), ([] : List WT3), ()) x0 y1.1.1)) != (0 : Int)) then
              some (.inr (.inl ((g76 (rd (α := (ByteArray × ByteArray × ByteArray × ByteArray × Int × Int × Int × Int × Int × Int × Int × Int × Int × (List WT3) × Unit)) (ByteArray.empty, ByteArray.empty, ByteArray.empty, ByteArray.empty, (0 : Int), (0 : Int), (0 : Int), (0 : Int), (0 : Int), (0 : Int), (0 : Int), (0 : Int), (0 : Int), ([] : List WT3), ()) x0 y1.1.1)), ())))
            else
              bif (decide (y1.1.1 > (0 : Int))) then
                bif (inR (IntKind.i64.wrap (y1.1.1 - (1 : Int))) ((List.length x0 : Nat) : Int)) then
                  bif ((sLt ((rd (α := (ByteArray × ByteArray × ByteArray × ByteArray × Int × Int × Int × Int × Int × Int × Int × Int × Int × (List WT3) × Unit)) (ByteArray.empty, ByteArray.empty, ByteArray.empty, ByteArray.empty, (0 : Int), (0 : Int), (0 : Int), (0 : Int), (0 : Int), (0 : Int), (0 : Int), (0 : Int), (0 : Int), ([] : List WT3), ()) x0 y1.1.1).1) ((rd (α := (ByteArray × ByteArray × ByteArray × ByteArray × Int × Int × Int × Int × Int × Int × Int × Int × Int × (List WT3) × Unit)) (ByteArray.empty, ByteArray.empty, ByteArray.empty, ByteArray.empty, (0 : Int), (0 : Int), (0 : Int), (0 : Int), (0 : Int), (0 : Int), (0 : Int), (0 : Int), (0 : Int), ([] : List WT3), ()) x0 (IntKind.i64.wrap (y1.1.1 - (1 : Int)))).1)) || (sEq ((rd (α := (ByteArray × ByteArray × ByteArray × ByteArray × Int × Int × Int × Int × Int × Int × Int × Int × Int × (List WT3) × Unit)) (ByteArray.empty, ByteArray.empty, ByteArray.empty, ByteArray.empty, (0 : Int), (0 : Int), (0 : Int), (0 : Int), (0 : Int), (0 : Int), (0 : Int), (0 : Int), (0 : Int), ([] : List WT3), ()) x0 y1.1.1).1) ((rd (α := (ByteArray × ByteArray × ByteArray × ByteArray × Int × Int × Int × Int × Int × Int × Int × Int × Int × (List WT3) × Unit)) (ByteArray.empty, ByteArray.empty, ByteArray.empty, ByteArray.empty, (0 : Int), (0 : Int), (0 : Int), (0 : Int), (0 : Int), (0 : Int), (0 : Int), (0 : Int), (0 : Int), ([] : List WT3), ()) x0 (IntKind.i64.wrap (y1.1.1 - (1 : Int)))).1))) then
                    some (.inr (.inl ((7 : Int), ())))
                  else
                    some (.inl (((IntKind.i64.wrap (y1.1.1 + (1 : Int))), ()), ()))
                else
                  none
              else
                some (.inl (((IntKind.i64.wrap (y1.1.1 + (1 : Int))), ()), ()))
          else
            none
        else
          some (.inr (.inr ((), ())))) (((0 : Int), ()), ())) fun r => match r with
    | .inl z => some z
    | .inr z2 =>
      some ((0 : Int), ())
def H17 : Hints where
  loop := fun n => match n with
    | 0 => some ({ slots := [(11, (.int .i64))], objs := [], gone := [] }, 0, { slots := [], objs := [], gone := [] })
    | _ => none
  region := fun n => match n with
    | _ => none
  cond := fun n => match n with
    | _ => none
  block := fun n => match n with
    | _ => none
abbrev A17 : Tys := (.cons (.slice WY4) .nil)
def ts17 : List (Nat × TD) := [(3, (.data (.int .i64))), (9, (.data .str)), (25, (.data (.slice WY4))), (28, (.data WY4)), (32, (.data (.int .i64)))]
noncomputable def fs17 (g76 : (ByteArray × ByteArray × ByteArray × ByteArray × Int × Int × Int × Int × Int × Int × Int × Int × Int × (List WT3) × Unit) → (Int)) : List (Nat × FSem) := [(76, .fn (.cons WY4 .nil) (.cons (.int .i64) .nil) fun x => ((g76 x.1), ()))]
noncomputable def body17 : Code := match Tryz.f17.body with | some c => c | none => .skip
theorem ty17 : chkTypes Tryz.prog ts17 = true := by kernel_rfl
theorem ev17 (g76 : (ByteArray × ByteArray × ByteArray × ByteArray × Int × Int × Int × Int × Int × Int × Int × Int × Int × (List WT3) × Unit) → (Int)) (k : Nat) (x : ((.cons (.slice WY4) .nil) : Tys).den) : evFun (mkEnv ts17 (fs17 g76)) H17 k body17 35 [.tmp 2] (explodes (.cons (.slice WY4) .nil) x) [] (dec (.cons (.int .i64) .nil)) = f17 g76 k x.1 := by kernel_rfl
/-! ### jitney/base.Moment -/
def f73 (g74 : Int → Int → Int → (Bool)) (k : Nat) (x0 : Int) : Option (Bool × Unit) :=
  some ((!(g74 x0 (0 : Int) (345686399999 : Int))), ())
def H73 : Hints where
  loop := fun n => match n with
    | _ => none
  region := fun n => match n with
    | _ => none
  cond := fun n => match n with
    | _ => none
  block := fun n => match n with
    | _ => none
abbrev A73 : Tys := (.cons (.int .i64) .nil)
def ts73 : List (Nat × TD) := [(3, (.data (.int .i64))), (4, (.data .bool))]
noncomputable def fs73 (g74 : Int → Int → Int → (Bool)) : List (Nat × FSem) := [(74, .fn (.cons (.int .i64) (.cons (.int .i64) (.cons (.int .i64) .nil))) (.cons .bool .nil) fun x => ((g74 x.1 x.2.1 x.2.2.1), ()))]
noncomputable def body73 : Code := match Tryz.f73.body with | some c => c | none => .skip
theorem ty73 : chkTypes Tryz.prog ts73 = true := by kernel_rfl
theorem ev73 (g74 : Int → Int → Int → (Bool)) (k : Nat) (x : ((.cons (.int .i64) .nil) : Tys).den) : evFun (mkEnv ts73 (fs73 g74)) H73 k body73 6 [.tmp 2] (explodes (.cons (.int .i64) .nil) x) [] (dec (.cons .bool .nil)) = f73 g74 k x.1 := by kernel_rfl
/-! ### strconv.Itoa -/
def f107 (g155 : Int → Option (ByteArray × Unit)) (k : Nat) (x0 : Int) : Option (ByteArray × Unit) :=
  Option.bind (g155 x0) fun v1 =>
  some (v1.1, ())
def H107 : Hints where
  loop := fun n => match n with
    | _ => none
  region := fun n => match n with
    | _ => none
  cond := fun n => match n with
    | _ => none
  block := fun n => match n with
    | _ => none
abbrev A107 : Tys := (.cons (.int .i64) .nil)
def ts107 : List (Nat × TD) := [(3, (.data (.int .i64))), (9, (.data .str))]
noncomputable def fs107 (g155 : Int → Option (ByteArray × Unit)) : List (Nat × FSem) := [(155, .pfn (.cons (.int .i64) .nil) (.cons .str .nil) fun x => (g155 x.1))]
noncomputable def body107 : Code := match Tryz.f107.body with | some c => c | none => .skip
theorem ty107 : chkTypes Tryz.prog ts107 = true := by kernel_rfl
theorem ev107 (g155 : Int → Option (ByteArray × Unit)) (k : Nat) (x : ((.cons (.int .i64) .nil) : Tys).den) : evFun (mkEnv ts107 (fs107 g155)) H107 k body107 5 [.tmp 2] (explodes (.cons (.int .i64) .nil) x) [] (dec (.cons .str .nil)) = f107 g155 k x.1 := by kernel_rfl
/-! ### cmp.isNaN[int] -/
def f132  (k : Nat) (x0 : Int) : Option (Bool × Unit) :=
  some ((x0 != x0), ())
def H132 : Hints where
  loop := fun n => match n with
    | _ => none
  region := fun n => match n with
    | _ => none
  cond := fun n => match n with
    | _ => none
  block := fun n => match n with
    | _ => none
abbrev A132 : Tys := (.cons (.int .i64) .nil)
def ts132 : List (Nat × TD) := [(3, (.data (.int .i64))), (4, (.data .bool))]
noncomputable def fs132  : List (Nat × FSem) := []
noncomputable def body132 : Code := match Tryz.f132.body with | some c => c | none => .skip
theorem ty132 : chkTypes Tryz.prog ts132 = true := by kernel_rfl
theorem ev132  (k : Nat) (x : ((.cons (.int .i64) .nil) : Tys).den) : evFun (mkEnv ts132 (fs132 )) H132 k body132 6 [.tmp 2] (explodes (.cons (.int .i64) .nil) x) [] (dec (.cons .bool .nil)) = f132  k x.1 := by kernel_rfl
/-! ### cmp.Compare[int] -/
def f67 (g132 : Int → (Bool)) (k : Nat) (x0 : Int) (x1 : Int) : Option (Int × Unit) :=
  bif (g132 x0) then
    bif (g132 x1) then
      some ((0 : Int), ())
    else
      some ((-1 : Int), ())
  else
    bif (g132 x1) then
      some ((1 : Int), ())
    else
      bif (decide (x0 < x1)) then
        some ((-1 : Int), ())
      else
        bif (decide (x0 > x1)) then
          some ((1 : Int), ())
        else
          some ((0 : Int), ())
def H67 : Hints where
  loop := fun n => match n with
    | _ => none
  region := fun n => match n with
    | _ => none
  cond := fun n => match n with
    | _ => none
  block := fun n => match n with
    | _ => none
abbrev A67 : Tys := (.cons (.int .i64) (.cons (.int .i64) .nil))
def ts67 : List (Nat × TD) := [(3, (.data (.int .i64)))]
noncomputable def fs67 (g132 : Int → (Bool)) : List (Nat × FSem) := [(132, .fn (.cons (.int .i64) .nil) (.cons .bool .nil) fun x => ((g132 x.1), ()))]
noncomputable def body67 : Code := match Tryz.f67.body with | some c => c | none => .skip
theorem ty67 : chkTypes Tryz.prog ts67 = true := by kernel_rfl
theorem ev67 (g132 : Int → (Bool)) (k : Nat) (x : ((.cons (.int .i64) (.cons (.int .i64) .nil)) : Tys).den) : evFun (mkEnv ts67 (fs67 g132)) H67 k body67 20 [.tmp 4] (explodes (.cons (.int .i64) (.cons (.int .i64) .nil)) x) [] (dec (.cons (.int .i64) .nil)) = f67 g132 k x.1 x.2.1 := by kernel_rfl
/-! ### jitney/request.dayRide$1 -/
def f127 (g67 : Int → Int → (Int)) (k : Nat) (x0 : WT3) (x1 : Int) : Option (Int × Unit) :=
  some ((g67 x0.1 x1), ())
def H127 : Hints where
  loop := fun n => match n with
    | _ => none
  region := fun n => match n with
    | _ => none
  cond := fun n => match n with
    | _ => none
  block := fun n => match n with
    | _ => none
abbrev A127 : Tys := (.cons WY2 (.cons (.int .i64) .nil))
def ts127 : List (Nat × TD) := [(3, (.data (.int .i64))), (117, (.data WY2))]
noncomputable def fs127 (g67 : Int → Int → (Int)) : List (Nat × FSem) := [(67, .fn (.cons (.int .i64) (.cons (.int .i64) .nil)) (.cons (.int .i64) .nil) fun x => ((g67 x.1 x.2.1), ()))]
noncomputable def body127 : Code := match Tryz.f127.body with | some c => c | none => .skip
theorem ty127 : chkTypes Tryz.prog ts127 = true := by kernel_rfl
theorem ev127 (g67 : Int → Int → (Int)) (k : Nat) (x : ((.cons WY2 (.cons (.int .i64) .nil)) : Tys).den) : evFun (mkEnv ts127 (fs127 g67)) H127 k body127 9 [.tmp 4] (explodes (.cons WY2 (.cons (.int .i64) .nil)) x) [] (dec (.cons (.int .i64) .nil)) = f127 g67 k x.1 x.2.1 := by kernel_rfl
/-! ### jitney/request.Days -/
noncomputable def mkEnvX7_61 (ts : List (Nat × TD)) (fs : List (Nat × FSem)) : Env := mkEnvF ts fs [(92, 128), (98, 128)]
theorem mkEnvX7_61_ok {P : Program} {ts : List (Nat × TD)} {fs : List (Nat × FSem)} (h1 : chkTypes P ts = true) (h2 : ∀ p ∈ fs, SoundF P p.1 p.2) : EnvOK P (mkEnvX7_61 ts fs) := mkEnvF_ok h1 h2
def f7 (g17 : (List (ByteArray × ByteArray × ByteArray × ByteArray × Int × Int × Int × Int × Int × Int × Int × Int × Int × (List WT3) × Unit)) → (Int)) (g73 : Int → (Bool)) (g107 : Int → Option (ByteArray × Unit)) (g127 : WT3 → Int → (Int)) (g129 : ByteArray → Int → Option (ByteArray × Unit)) (k : Nat) (x0 : (ByteArray × ByteArray × ByteArray × ByteArray × Int × Int × Int × Int × Int × Int × Int × Int × Int × (List WT3) × Unit)) : Option ((List Int) × Int × Unit) :=
  bif ((g17 ([x0])) != (0 : Int)) then
    some ([], (g17 ([x0])), ())
  else
    Option.bind (α := ((List Int) × Int × Unit) ⊕ (((List Int) × Unit) × ((ByteArray × ByteArray × ByteArray × ByteArray × Int × Int × Int × Int × Int × Int × Int × Int × Int × (List WT3) × Unit) × Unit))) (iter (σ := ((List Int) × Int × Unit) × ((ByteArray × ByteArray × ByteArray × ByteArray × Int × Int × Int × Int × Int × Int × Int × Int × Int × (List WT3) × Unit) × Unit)) (τ := ((List Int) × Int × Unit) ⊕ (((List Int) × Unit) × ((ByteArray × ByteArray × ByteArray × ByteArray × Int × Int × Int × Int × Int × Int × Int × Int × Int × (List WT3) × Unit) × Unit))) k (fun y1 =>
        bif (decide (y1.1.2.1 ≤ y1.2.1.2.2.2.2.2.1)) then
          Option.bind (α := ((((List Int) × Int × Unit) × ((ByteArray × ByteArray × ByteArray × ByteArray × Int × Int × Int × Int × Int × Int × Int × Int × Int × (List WT3) × Unit) × Unit)) ⊕ (((List Int) × Int × Unit) ⊕ (((List Int) × Unit) × ((ByteArray × ByteArray × ByteArray × ByteArray × Int × Int × Int × Int × Int × Int × Int × Int × Int × (List WT3) × Unit) × Unit)))) ⊕ ((Bool × Unit) × ((ByteArray × ByteArray × ByteArray × ByteArray × Int × Int × Int × Int × Int × Int × Int × Int × Int × (List WT3) × Unit) × Unit))) (
              bif decide (y1.2.1.2.2.2.2.2.2.1 = 0) then
                none
              else
                bif ((Int.tmod (IntKind.i64.wrap ((IntKind.i64.wrap (Int.tdiv y1.1.2.1 (7 : Int))) - (IntKind.i64.wrap (Int.tdiv y1.2.1.2.2.2.2.1 (7 : Int))))) y1.2.1.2.2.2.2.2.2.1) != (0 : Int)) then
                  some (.inr ((false, ()), ((y1.2.1.1, y1.2.1.2.1, y1.2.1.2.2.1, y1.2.1.2.2.2.1, y1.2.1.2.2.2.2.1, y1.2.1.2.2.2.2.2.1, y1.2.1.2.2.2.2.2.2.1, y1.2.1.2.2.2.2.2.2.2.1, y1.2.1.2.2.2.2.2.2.2.2.1, y1.2.1.2.2.2.2.2.2.2.2.2.1, y1.2.1.2.2.2.2.2.2.2.2.2.2.1, y1.2.1.2.2.2.2.2.2.2.2.2.2.2.1, y1.2.1.2.2.2.2.2.2.2.2.2.2.2.2.1, y1.2.1.2.2.2.2.2.2.2.2.2.2.2.2.2.1, ()), ())))
                else
                  bif decide (0 ≤ (Int.tmod y1.1.2.1 (7 : Int))) then
                    bif ((iand .i64 (Int.fdiv y1.2.1.2.2.2.2.2.2.2.1 ((2 : Int) ^ (min (Int.toNat (Int.tmod y1.1.2.1 (7 : Int))) 64))) (1 : Int)) == (0 : Int)) then
                      some (.inr ((false, ()), ((y1.2.1.1, y1.2.1.2.1, y1.2.1.2.2.1, y1.2.1.2.2.2.1, y1.2.1.2.2.2.2.1, y1.2.1.2.2.2.2.2.1, y1.2.1.2.2.2.2.2.2.1, y1.2.1.2.2.2.2.2.2.2.1, y1.2.1.2.2.2.2.2.2.2.2.1, y1.2.1.2.2.2.2.2.2.2.2.2.1, y1.2.1.2.2.2.2.2.2.2.2.2.2.1, y1.2.1.2.2.2.2.2.2.2.2.2.2.2.1, y1.2.1.2.2.2.2.2.2.2.2.2.2.2.2.1, y1.2.1.2.2.2.2.2.2.2.2.2.2.2.2.2.1, ()), ())))
                    else
                      Option.bind (α := (((((List Int) × Int × Unit) × ((ByteArray × ByteArray × ByteArray × ByteArray × Int × Int × Int × Int × Int × Int × Int × Int × Int × (List WT3) × Unit) × Unit)) ⊕ (((List Int) × Int × Unit) ⊕ (((List Int) × Unit) × ((ByteArray × ByteArray × ByteArray × ByteArray × Int × Int × Int × Int × Int × Int × Int × Int × Int × (List WT3) × Unit) × Unit)))) ⊕ ((Bool × Unit) × ((ByteArray × ByteArray × ByteArray × ByteArray × Int × Int × Int × Int × Int × Int × Int × Int × Int × (List WT3) × Unit) × Unit))) ⊕ (WT1 × (Unit))) (
                          Option.bind (α := ((((((List Int) × Int × Unit) × ((ByteArray × ByteArray × ByteArray × ByteArray × Int × Int × Int × Int × Int × Int × Int × Int × Int × (List WT3) × Unit) × Unit)) ⊕ (((List Int) × Int × Unit) ⊕ (((List Int) × Unit) × ((ByteArray × ByteArray × ByteArray × ByteArray × Int × Int × Int × Int × Int × Int × Int × Int × Int × (List WT3) × Unit) × Unit)))) ⊕ ((Bool × Unit) × ((ByteArray × ByteArray × ByteArray × ByteArray × Int × Int × Int × Int × Int × Int × Int × Int × Int × (List WT3) × Unit) × Unit))) ⊕ (WT1 × (Unit))) ⊕ ((Int × Unit) × (Unit))) (iter (σ := WT0 × (Unit)) (τ := ((((((List Int) × Int × Unit) × ((ByteArray × ByteArray × ByteArray × ByteArray × Int × Int × Int × Int × Int × Int × Int × Int × Int × (List WT3) × Unit) × Unit)) ⊕ (((List Int) × Int × Unit) ⊕ (((List Int) × Unit) × ((ByteArray × ByteArray × ByteArray × ByteArray × Int × Int × Int × Int × Int × Int × Int × Int × Int × (List WT3) × Unit) × Unit)))) ⊕ ((Bool × Unit) × ((ByteArray × ByteArray × ByteArray × ByteArray × Int × Int × Int × Int × Int × Int × Int × Int × Int × (List WT3) × Unit) × Unit))) ⊕ (WT1 × (Unit))) ⊕ ((Int × Unit) × (Unit))) k (fun y2 =>
                              bif (decide (y2.1.1 < y2.1.2.1)) then
                                bif (inR (IntKind.i64.wrap (Int.fdiv (IntKind.u64.wrap (IntKind.i64.wrap (y2.1.1 + y2.1.2.1))) (2 : Int))) ((List.length y1.2.1.2.2.2.2.2.2.2.2.2.2.2.2.2.1 : Nat) : Int)) then
                                  bif (decide ((g127 (rd (α := WT3) zWT3 y1.2.1.2.2.2.2.2.2.2.2.2.2.2.2.2.1 (IntKind.i64.wrap (Int.fdiv (IntKind.u64.wrap (IntKind.i64.wrap (y2.1.1 + y2.1.2.1))) (2 : Int)))) y1.1.2.1) < (0 : Int))) then
                                    some (.inl (((IntKind.i64.wrap ((IntKind.i64.wrap (Int.fdiv (IntKind.u64.wrap (IntKind.i64.wrap (y2.1.1 + y2.1.2.1))) (2 : Int))) + (1 : Int))), y2.1.2.1, ()), ()))
                                  else
                                    some (.inl ((y2.1.1, (IntKind.i64.wrap (Int.fdiv (IntKind.u64.wrap (IntKind.i64.wrap (y2.1.1 + y2.1.2.1))) (2 : Int))), ()), ()))
                                else
                                  none
                              else
                                some (.inr (.inr ((y2.1.1, ()), ())))) (((0 : Int), ((List.length y1.2.1.2.2.2.2.2.2.2.2.2.2.2.2.2.1 : Nat) : Int), ()), ())) fun r => match r with
                          | .inl z => some z
                          | .inr z3 =>
                            bif (decide (z3.1.1 < ((List.length y1.2.1.2.2.2.2.2.2.2.2.2.2.2.2.2.1 : Nat) : Int))) then
                              bif (inR z3.1.1 ((List.length y1.2.1.2.2.2.2.2.2.2.2.2.2.2.2.2.1 : Nat) : Int)) then
                                some (.inr ((z3.1.1, ((g127 (rd (α := WT3) zWT3 y1.2.1.2.2.2.2.2.2.2.2.2.2.2.2.2.1 z3.1.1) y1.1.2.1) == (0 : Int)), ()), ()))
                              else
                                none
                            else
                              some (.inr ((z3.1.1, false, ()), ()))) fun r => match r with
                      | .inl z => some z
                      | .inr y4 =>
                        Option.bind (α := (((((List Int) × Int × Unit) × ((ByteArray × ByteArray × ByteArray × ByteArray × Int × Int × Int × Int × Int × Int × Int × Int × Int × (List WT3) × Unit) × Unit)) ⊕ (((List Int) × Int × Unit) ⊕ (((List Int) × Unit) × ((ByteArray × ByteArray × ByteArray × ByteArray × Int × Int × Int × Int × Int × Int × Int × Int × Int × (List WT3) × Unit) × Unit)))) ⊕ ((Bool × Unit) × ((ByteArray × ByteArray × ByteArray × ByteArray × Int × Int × Int × Int × Int × Int × Int × Int × Int × (List WT3) × Unit) × Unit))) ⊕ ((Unit) × (Int × Unit))) (
                            bif y4.1.2.1 then
                              bif (inR y4.1.1 ((List.length y1.2.1.2.2.2.2.2.2.2.2.2.2.2.2.2.1 : Nat) : Int)) then
                                bif (rd (α := WT3) zWT3 y1.2.1.2.2.2.2.2.2.2.2.2.2.2.2.2.1 y4.1.1).2.1 then
                                  some (.inl (.inr ((false, ()), ((y1.2.1.1, y1.2.1.2.1, y1.2.1.2.2.1, y1.2.1.2.2.2.1, y1.2.1.2.2.2.2.1, y1.2.1.2.2.2.2.2.1, y1.2.1.2.2.2.2.2.2.1, y1.2.1.2.2.2.2.2.2.2.1, y1.2.1.2.2.2.2.2.2.2.2.1, y1.2.1.2.2.2.2.2.2.2.2.2.1, y1.2.1.2.2.2.2.2.2.2.2.2.2.1, y1.2.1.2.2.2.2.2.2.2.2.2.2.2.1, y1.2.1.2.2.2.2.2.2.2.2.2.2.2.2.1, y1.2.1.2.2.2.2.2.2.2.2.2.2.2.2.2.1, ()), ()))))
                                else
                                  bif (inR y4.1.1 ((List.length y1.2.1.2.2.2.2.2.2.2.2.2.2.2.2.2.1 : Nat) : Int)) then
                                    some (.inr ((), ((rd (α := WT3) zWT3 y1.2.1.2.2.2.2.2.2.2.2.2.2.2.2.2.1 y4.1.1).2.2.1, ())))
                                  else
                                    none
                              else
                                none
                            else
                              some (.inr ((), ((0 : Int), ())))) fun r => match r with
                        | .inl z => some z
                        | .inr y5 =>
                          Option.bind (g107 y1.1.2.1) fun v6 =>
                          bif decide (ByteArray.size y1.2.1.1 + ByteArray.size (ByteArray.mk #[45]) < 4611686018427387904) then
                            Option.bind (g129 (ByteArray.mk #[48]) (IntKind.i64.wrap ((4 : Int) - ((ByteArray.size v6.1 : Nat) : Int)))) fun v7 =>
                            bif decide (ByteArray.size (y1.2.1.1 ++ (ByteArray.mk #[45])) + ByteArray.size v7.1 < 4611686018427387904) then
                              bif decide (ByteArray.size ((y1.2.1.1 ++ (ByteArray.mk #[45])) ++ v7.1) + ByteArray.size v6.1 < 4611686018427387904) then
                                bif (g73 (IntKind.i64.wrap ((IntKind.i64.wrap (y1.1.2.1 * (86400000 : Int))) + (IntKind.i64.wrap ((IntKind.i64.wrap ((IntKind.i64.wrap (y1.2.1.2.2.2.2.2.2.2.2.1 - y1.2.1.2.2.2.2.2.2.2.2.2.2.1)) + y5.2.1)) * (60000 : Int)))))) then
                                  some (.inr (((decide ((IntKind.i64.wrap ((IntKind.i64.wrap (y1.1.2.1 * (86400000 : Int))) + (IntKind.i64.wrap ((IntKind.i64.wrap ((IntKind.i64.wrap (y1.2.1.2.2.2.2.2.2.2.2.2.1 - y1.2.1.2.2.2.2.2.2.2.2.2.2.1)) + y5.2.1)) * (60000 : Int))))) ≤ (345686400000 : Int))), ()), ((y1.2.1.1, y1.2.1.2.1, y1.2.1.2.2.1, y1.2.1.2.2.2.1, y1.2.1.2.2.2.2.1, y1.2.1.2.2.2.2.2.1, y1.2.1.2.2.2.2.2.2.1, y1.2.1.2.2.2.2.2.2.2.1, y1.2.1.2.2.2.2.2.2.2.2.1, y1.2.1.2.2.2.2.2.2.2.2.2.1, y1.2.1.2.2.2.2.2.2.2.2.2.2.1, y1.2.1.2.2.2.2.2.2.2.2.2.2.2.1, y1.2.1.2.2.2.2.2.2.2.2.2.2.2.2.1, y1.2.1.2.2.2.2.2.2.2.2.2.2.2.2.2.1, ()), ())))
                                else
                                  some (.inr ((false, ()), ((y1.2.1.1, y1.2.1.2.1, y1.2.1.2.2.1, y1.2.1.2.2.2.1, y1.2.1.2.2.2.2.1, y1.2.1.2.2.2.2.2.1, y1.2.1.2.2.2.2.2.2.1, y1.2.1.2.2.2.2.2.2.2.1, y1.2.1.2.2.2.2.2.2.2.2.1, y1.2.1.2.2.2.2.2.2.2.2.2.1, y1.2.1.2.2.2.2.2.2.2.2.2.2.1, y1.2.1.2.2.2.2.2.2.2.2.2.2.2.1, y1.2.1.2.2.2.2.2.2.2.2.2.2.2.2.1, y1.2.1.2.2.2.2.2.2.2.2.2.2.2.2.2.1, ()), ())))
                              else
                                none
                            else
                              none
                          else
                            none
                  else
                    none) fun r => match r with
          | .inl z => some z
          | .inr y8 =>
            bif y8.1.1 then
              bif decide (List.length y1.1.1 + List.length ([y1.1.2.1]) ≤ 4294967296) then
                some (.inl (((y1.1.1 ++ [y1.1.2.1]), (IntKind.i64.wrap (y1.1.2.1 + (1 : Int))), ()), ((y8.2.1.1, y8.2.1.2.1, y8.2.1.2.2.1, y8.2.1.2.2.2.1, y8.2.1.2.2.2.2.1, y8.2.1.2.2.2.2.2.1, y8.2.1.2.2.2.2.2.2.1, y8.2.1.2.2.2.2.2.2.2.1, y8.2.1.2.2.2.2.2.2.2.2.1, y8.2.1.2.2.2.2.2.2.2.2.2.1, y8.2.1.2.2.2.2.2.2.2.2.2.2.1, y8.2.1.2.2.2.2.2.2.2.2.2.2.2.1, y8.2.1.2.2.2.2.2.2.2.2.2.2.2.2.1, y8.2.1.2.2.2.2.2.2.2.2.2.2.2.2.2.1, ()), ())))
              else
                none
            else
              some (.inl ((y1.1.1, (IntKind.i64.wrap (y1.1.2.1 + (1 : Int))), ()), ((y8.2.1.1, y8.2.1.2.1, y8.2.1.2.2.1, y8.2.1.2.2.2.1, y8.2.1.2.2.2.2.1, y8.2.1.2.2.2.2.2.1, y8.2.1.2.2.2.2.2.2.1, y8.2.1.2.2.2.2.2.2.2.1, y8.2.1.2.2.2.2.2.2.2.2.1, y8.2.1.2.2.2.2.2.2.2.2.2.1, y8.2.1.2.2.2.2.2.2.2.2.2.2.1, y8.2.1.2.2.2.2.2.2.2.2.2.2.2.1, y8.2.1.2.2.2.2.2.2.2.2.2.2.2.2.1, y8.2.1.2.2.2.2.2.2.2.2.2.2.2.2.2.1, ()), ())))
        else
          some (.inr (.inr ((y1.1.1, ()), ((y1.2.1.1, y1.2.1.2.1, y1.2.1.2.2.1, y1.2.1.2.2.2.1, y1.2.1.2.2.2.2.1, y1.2.1.2.2.2.2.2.1, y1.2.1.2.2.2.2.2.2.1, y1.2.1.2.2.2.2.2.2.2.1, y1.2.1.2.2.2.2.2.2.2.2.1, y1.2.1.2.2.2.2.2.2.2.2.2.1, y1.2.1.2.2.2.2.2.2.2.2.2.2.1, y1.2.1.2.2.2.2.2.2.2.2.2.2.2.1, y1.2.1.2.2.2.2.2.2.2.2.2.2.2.2.1, y1.2.1.2.2.2.2.2.2.2.2.2.2.2.2.2.1, ()), ()))))) (([], x0.2.2.2.2.1, ()), (x0, ()))) fun r => match r with
    | .inl z => some z
    | .inr z9 =>
      some (z9.1.1, (0 : Int), ())
def H7 : Hints where
  loop := fun n => match n with
    | 0 => some ({ slots := [(5, (.row (.int .i64))), (6, (.int .i64))], objs := [(0, (.box (.data WY4) (.agg (.cons .str (.cons .str (.cons .str (.cons .str (.cons (.int .i64) (.cons (.int .i64) (.cons (.int .i64) (.cons (.int .i64) (.cons (.int .i64) (.cons (.int .i64) (.cons (.int .i64) (.cons (.int .i64) (.cons (.int .i64) (.cons (.sl WY2) .nil)))))))))))))))))], gone := [] }, 0, { slots := [(5, (.row (.int .i64)))], objs := [(0, (.box (.data WY4) (.agg (.cons .str (.cons .str (.cons .str (.cons .str (.cons (.int .i64) (.cons (.int .i64) (.cons (.int .i64) (.cons (.int .i64) (.cons (.int .i64) (.cons (.int .i64) (.cons (.int .i64) (.cons (.int .i64) (.cons (.int .i64) (.cons (.sl WY2) .nil)))))))))))))))))], gone := [] })
    | _ => none
  region := fun n => match n with
    | 8 => some { slots := [(8, .bool)], objs := [(0, (.box (.data WY4) (.agg (.cons .str (.cons .str (.cons .str (.cons .str (.cons (.int .i64) (.cons (.int .i64) (.cons (.int .i64) (.cons (.int .i64) (.cons (.int .i64) (.cons (.int .i64) (.cons (.int .i64) (.cons (.int .i64) (.cons (.int .i64) (.cons (.sl WY2) .nil)))))))))))))))))], gone := [] }
    | _ => none
  cond := fun n => match n with
    | _ => none
  block := fun n => match n with
    | _ => none
def Hi7_126 : Hints where
  loop := fun n => match n with
    | 0 => some ({ slots := [(9, (.int .i64)), (10, (.int .i64))], objs := [], gone := [] }, 0, { slots := [(9, (.int .i64))], objs := [], gone := [] })
    | _ => none
  region := fun n => match n with
    | _ => none
  cond := fun n => match n with
    | _ => none
  block := fun n => match n with
    | _ => none
def tsi7_126 : List (Nat × TD) := [(3, (.data (.int .i64))), (26, (.data (.slice WY2))), (117, (.data WY2)), (190, (.data (.int .u64)))]
noncomputable def bodyi7_126 : Code := match Tryz.f126.body with | some c => c | none => .skip
noncomputable def fsi7_126 (g17 : (List (ByteArray × ByteArray × ByteArray × ByteArray × Int × Int × Int × Int × Int × Int × Int × Int × Int × (List WT3) × Unit)) → (Int)) (g73 : Int → (Bool)) (g107 : Int → Option (ByteArray × Unit)) (g127 : WT3 → Int → (Int)) (g129 : ByteArray → Int → Option (ByteArray × Unit)) (k : Nat) : List (Nat × FSem) := [(127, .fn (.cons WY2 (.cons (.int .i64) .nil)) (.cons (.int .i64) .nil) fun x => ((g127 x.1 x.2.1), ()))]
theorem tyi7_126 : chkTypes Tryz.prog tsi7_126 = true := by kernel_rfl
def Hi7_128 : Hints where
  loop := fun n => match n with
    | _ => none
  region := fun n => match n with
    | _ => none
  cond := fun n => match n with
    | _ => none
  block := fun n => match n with
    | _ => none
def tsi7_128 : List (Nat × TD) := [(3, (.data (.int .i64))), (28, (.data WY4)), (114, (.cell .ptr))]
noncomputable def bodyi7_128 : Code := match Tryz.f128.body with | some c => c | none => .skip
noncomputable def fsi7_128 (g17 : (List (ByteArray × ByteArray × ByteArray × ByteArray × Int × Int × Int × Int × Int × Int × Int × Int × Int × (List WT3) × Unit)) → (Int)) (g73 : Int → (Bool)) (g107 : Int → Option (ByteArray × Unit)) (g127 : WT3 → Int → (Int)) (g129 : ByteArray → Int → Option (ByteArray × Unit)) (k : Nat) : List (Nat × FSem) := []
theorem tyi7_128 : chkTypes Tryz.prog tsi7_128 = true := by kernel_rfl
def Hi7_61 : Hints where
  loop := fun n => match n with
    | _ => none
  region := fun n => match n with
    | 4 => some { slots := [(7, (.int .i64)), (8, .bool)], objs := [], gone := [] }
    | _ => none
  cond := fun n => match n with
    | 47 => some { slots := [], objs := [(29, (.box (.data (.int .i64)) (.int .i64)))], gone := [] }
    | _ => none
  block := fun n => match n with
    | _ => none
def tsi7_61 : List (Nat × TD) := [(3, (.data (.int .i64))), (4, (.data .bool)), (9, (.data .str)), (23, (.data WY3)), (26, (.data (.slice WY2))), (28, (.data WY4)), (114, (.cell .ptr)), (117, (.data WY2))]
noncomputable def bodyi7_61 : Code := match Tryz.f61.body with | some c => c | none => .skip
noncomputable def fsi7_61 (g17 : (List (ByteArray × ByteArray × ByteArray × ByteArray × Int × Int × Int × Int × Int × Int × Int × Int × Int × (List WT3) × Unit)) → (Int)) (g73 : Int → (Bool)) (g107 : Int → Option (ByteArray × Unit)) (g127 : WT3 → Int → (Int)) (g129 : ByteArray → Int → Option (ByteArray × Unit)) (k : Nat) : List (Nat × FSem) := [(73, .fn (.cons (.int .i64) .nil) (.cons .bool .nil) fun x => ((g73 x.1), ())), (107, .pfn (.cons (.int .i64) .nil) (.cons .str .nil) fun x => (g107 x.1)), (126, .ev (mkEnv tsi7_126 (fsi7_126 g17 g73 g107 g127 g129 k)) Hi7_126 k bodyi7_126 49 [.tmp 6, .tmp 7]), (128, .evr (mkEnv tsi7_128 (fsi7_128 g17 g73 g107 g127 g129 k)) Hi7_128 k bodyi7_128 18 [.tmp 5]), (129, .pfn (.cons .str (.cons (.int .i64) .nil)) (.cons .str .nil) fun x => (g129 x.1 x.2.1))]
theorem tyi7_61 : chkTypes Tryz.prog tsi7_61 = true := by kernel_rfl
abbrev A7 : Tys := (.cons WY4 .nil)
def ts7 : List (Nat × TD) := [(3, (.data (.int .i64))), (23, (.data WY3)), (25, (.data (.slice WY4))), (28, (.data WY4)), (31, (.data (.slice (.int .i64)))), (32, (.data (.int .i64)))]
noncomputable def fs7 (g17 : (List (ByteArray × ByteArray × ByteArray × ByteArray × Int × Int × Int × Int × Int × Int × Int × Int × Int × (List WT3) × Unit)) → (Int)) (g73 : Int → (Bool)) (g107 : Int → Option (ByteArray × Unit)) (g127 : WT3 → Int → (Int)) (g129 : ByteArray → Int → Option (ByteArray × Unit)) (k : Nat) : List (Nat × FSem) := [(17, .fn (.cons (.slice WY4) .nil) (.cons (.int .i64) .nil) fun x => ((g17 x.1), ())), (61, .ev (mkEnvX7_61 tsi7_61 (fsi7_61 g17 g73 g107 g127 g129 k)) Hi7_61 k bodyi7_61 122 [.cell 4 23, .tmp 5])]
noncomputable def body7 : Code := match Tryz.f7.body with | some c => c | none => .skip
theorem ty7 : chkTypes Tryz.prog ts7 = true := by kernel_rfl
theorem ev7 (g17 : (List (ByteArray × ByteArray × ByteArray × ByteArray × Int × Int × Int × Int × Int × Int × Int × Int × Int × (List WT3) × Unit)) → (Int)) (g73 : Int → (Bool)) (g107 : Int → Option (ByteArray × Unit)) (g127 : WT3 → Int → (Int)) (g129 : ByteArray → Int → Option (ByteArray × Unit)) (k : Nat) (x : ((.cons WY4 .nil) : Tys).den) : evFun (mkEnv ts7 (fs7 g17 g73 g107 g127 g129 k)) H7 k body7 34 [.tmp 2, .tmp 3] (explodes (.cons WY4 .nil) x) [] (dec (.cons (.slice (.int .i64)) (.cons (.int .i64) .nil))) = f7 g17 g73 g107 g127 g129 k x.1 := by kernel_rfl
/-! ### slices.Clone[[]jitney/api.Change,jitney/api.Change] -/
def f62  (k : Nat) (x0 : List WT3) : Option ((List WT3) × Unit) :=
  bif Nat.ble (List.length x0) 0 then
    none
  else
    bif decide (List.length ([] : List WT3) + List.length x0 ≤ 4294967296) then
      some ((([] : List WT3) ++ x0), ())
    else
      none
def H62 : Hints where
  loop := fun n => match n with
    | _ => none
  region := fun n => match n with
    | _ => none
  cond := fun n => match n with
    | _ => none
  block := fun n => match n with
    | _ => none
def ts62 : List (Nat × TD) := [(26, (.data (.slice WY2)))]
noncomputable def fs62  : List (Nat × FSem) := []
noncomputable def body62 : Code := match Tryz.f62.body with | some c => c | none => .skip
theorem ty62 : chkTypes Tryz.prog ts62 = true := by kernel_rfl
theorem ev62  (k : Nat) (x : ((.cons (.slice WY2) .nil) : Tys).den) : evFun (mkEnv ts62 (fs62 )) H62 k body62 8 [.tmp 2] (explodes (.cons (.slice WY2) .nil) x) [] (dec (.cons (.slice WY2) .nil)) = f62  k x.1 := by kernel_rfl
def s62 (l : List WT3) : Option ((List WT3) × Unit) := if l.length ≤ 4294967296 then some (l, ()) else none
/-! ### jitney/jitlaw2.ownSeries -/
def f8 (g62 : (List WT3) → Option ((List WT3) × Unit)) (k : Nat) (x0 : List (ByteArray × ByteArray × ByteArray × ByteArray × Int × Int × Int × Int × Int × Int × Int × Int × Int × (List WT3) × Unit)) : Option ((List (ByteArray × ByteArray × ByteArray × ByteArray × Int × Int × Int × Int × Int × Int × Int × Int × Int × (List WT3) × Unit)) × Unit) :=
  Option.bind (α := ((List (ByteArray × ByteArray × ByteArray × ByteArray × Int × Int × Int × Int × Int × Int × Int × Int × Int × (List WT3) × Unit)) × Unit) ⊕ (((List (ByteArray × ByteArray × ByteArray × ByteArray × Int × Int × Int × Int × Int × Int × Int × Int × Int × (List WT3) × Unit)) × Unit) × (Unit))) (iter (σ := ((List (ByteArray × ByteArray × ByteArray × ByteArray × Int × Int × Int × Int × Int × Int × Int × Int × Int × (List WT3) × Unit)) × Int × Unit) × (Unit)) (τ := ((List (ByteArray × ByteArray × ByteArray × ByteArray × Int × Int × Int × Int × Int × Int × Int × Int × Int × (List WT3) × Unit)) × Unit) ⊕ (((List (ByteArray × ByteArray × ByteArray × ByteArray × Int × Int × Int × Int × Int × Int × Int × Int × Int × (List WT3) × Unit)) × Unit) × (Unit))) k (fun y1 =>
      bif (decide (y1.1.2.1 < ((List.length x0 : Nat) : Int))) then
        bif (inR y1.1.2.1 ((List.length x0 : Nat) : Int)) then
          Option.bind (g62 ((rd (α := (ByteArray × ByteArray × ByteArray × ByteArray × Int × Int × Int × Int × Int × Int × Int × Int × Int × (List WT3) × Unit)) (ByteArray.empty, ByteArray.empty, ByteArray.empty, ByteArray.empty, (0 : Int), (0 : Int), (0 : Int), (0 : Int), (0 : Int), (0 : Int), (0 : Int), (0 : Int), (0 : Int), ([] : List WT3), ()) x0 y1.1.2.1).2.2.2.2.2.2.2.2.2.2.2.2.2.1)) fun v2 =>
          bif decide (List.length y1.1.1 + List.length ([((rd (α := (ByteArray × ByteArray × ByteArray × ByteArray × Int × Int × Int × Int × Int × Int × Int × Int × Int × (List WT3) × Unit)) (ByteArray.empty, ByteArray.empty, ByteArray.empty, ByteArray.empty, (0 : Int), (0 : Int), (0 : Int), (0 : Int), (0 : Int), (0 : Int), (0 : Int), (0 : Int), (0 : Int), ([] : List WT3), ()) x0 y1.1.2.1).1, (rd (α := (ByteArray × ByteArray × ByteArray × ByteArray × Int × Int × Int × Int × Int × Int × Int × Int × Int × (List WT3) × Unit)) (ByteArray.empty, ByteArray.empty, ByteArray.empty, ByteArray.empty, (0 : Int), (0 : Int), (0 : Int), (0 : Int), (0 : Int), (0 : Int), (0 : Int), (0 : Int), (0 : Int), ([] : List WT3), ()) x0 y1.1.2.1).2.1, (rd (α := (ByteArray × ByteArray × ByteArray × ByteArray × Int × Int × Int × Int × Int × Int × Int × Int × Int × (List WT3) × Unit)) (ByteArray.empty, ByteArray.empty, ByteArray.empty, ByteArray.empty, (0 : Int), (0 : Int), (0 : Int), (0 : Int), (0 : Int), (0 : Int), (0 : Int), (0 : Int), (0 : Int), ([] : List WT3), ()) x0 y1.1.2.1).2.2.1, (rd (α := (ByteArray × ByteArray × ByteArray × ByteArray × Int × Int × Int × Int × Int × Int × Int × Int × Int × (List WT3) × Unit)) (ByteArray.empty, ByteArray.empty, ByteArray.empty, ByteArray.empty, (0 : Int), (0 : Int), (0 : Int), (0 : Int), (0 : Int), (0 : Int), (0 : Int), (0 : Int), (0 : Int), ([] : List WT3), ()) x0 y1.1.2.1).2.2.2.1, (rd (α := (ByteArray × ByteArray × ByteArray × ByteArray × Int × Int × Int × Int × Int × Int × Int × Int × Int × (List WT3) × Unit)) (ByteArray.empty, ByteArray.empty, ByteArray.empty, ByteArray.empty, (0 : Int), (0 : Int), (0 : Int), (0 : Int), (0 : Int), (0 : Int), (0 : Int), (0 : Int), (0 : Int), ([] : List WT3), ()) x0 y1.1.2.1).2.2.2.2.1, (rd (α := (ByteArray × ByteArray × ByteArray × ByteArray × Int × Int × Int × Int × Int × Int × Int × Int × Int × (List WT3) × Unit)) (ByteArray.empty, ByteArray.empty, ByteArray.empty, ByteArray.empty, (0 : Int), (0 : Int), (0 : Int), (0 : Int), (0 : Int), (0 : Int), (0 : Int), (0 : Int), (0 : Int), ([] : List WT3), ()) x0 y1.1.2.1).2.2.2.2.2.1, (rd (α := (ByteArray × ByteArray × ByteArray × ByteArray × Int × Int × Int × Int × Int × Int × Int × Int × Int × (List WT3) × Unit)) (ByteArray.empty, ByteArray.empty, ByteArray.empty, ByteArray.empty, (0 : Int), (0 : Int), (0 : Int), (0 : Int), (0 : Int), (0 : Int), (0 : Int), (0 : Int), (0 : Int), ([] : List WT3), ()) x0 y1.1.2.1).2.2.2.2.2.2.1, (rd (α := (ByteArray × ByteArray × ByteArray × ByteArray × Int × Int × Int × Int × Int × Int × Int × Int × Int × (List WT3) × Unit)) (ByteArray.empty, ByteArray.empty, ByteArray.empty, ByteArray.empty, (0 : Int), (0 : Int), (0 : Int), (0 : Int), (0 : Int), (0 : Int), (0 : Int), (0 : Int), (0 : Int), ([] : List WT3), ()) x0 y1.1.2.1).2.2.2.2.2.2.2.1, (rd (α := (ByteArray × ByteArray × ByteArray × ByteArray × Int × Int × Int × Int × Int × Int × Int × Int × Int × (List WT3) × Unit)) (ByteArray.empty, ByteArray.empty, ByteArray.empty, ByteArray.empty, (0 : Int), (0 : Int), (0 : Int), (0 : Int), (0 : Int), (0 : Int), (0 : Int), (0 : Int), (0 : Int), ([] : List WT3), ()) x0 y1.1.2.1).2.2.2.2.2.2.2.2.1, (rd (α := (ByteArray × ByteArray × ByteArray × ByteArray × Int × Int × Int × Int × Int × Int × Int × Int × Int × (List WT3) × Unit)) (ByteArray.empty, ByteArray.empty, ByteArray.empty, ByteArray.empty, (0 : Int), (0 : Int), (0 : Int), (0 : Int), (0 : Int), (0 : Int), (0 : Int), (0 : Int), (0 : Int), ([] : List WT3), ()) x0 y1.1.2.1).2.2.2.2.2.2.2.2.2.1, (rd (α := (ByteArray × ByteArray × ByteArray × ByteArray × Int × Int × Int × Int × Int × Int × Int × Int × Int × (List WT3) × Unit)) (ByteArray.empty, ByteArray.empty, ByteArray.empty, ByteArray.empty, (0 : Int), (0 : Int), (0 : Int), (0 : Int), (0 : Int), (0 : Int), (0 : Int), (0 : Int), (0 : Int), ([] : List WT3), ()) x0 y1.1.2.1).2.2.2.2.2.2.2.2.2.2.1, (rd (α := (ByteArray × ByteArray × ByteArray × ByteArray × Int × Int × Int × Int × Int × Int × Int × Int × Int × (List WT3) × Unit)) (ByteArray.empty, ByteArray.empty, ByteArray.empty, ByteArray.empty, (0 : Int), (0 : Int), (0 : Int), (0 : Int), (0 : Int), (0 : Int), (0 : Int), (0 : Int), (0 : Int), ([] : List WT3), ()) x0 y1.1.2.1).2.2.2.2.2.2.2.2.2.2.2.1, (rd (α := (ByteArray × ByteArray × ByteArray × ByteArray × Int × Int × Int × Int × Int × Int × Int × Int × Int × (List WT3) × Unit)) (ByteArray.empty, ByteArray.empty, ByteArray.empty, ByteArray.empty, (0 : Int), (0 : Int), (0 : Int), (0 : Int), (0 : Int), (0 : Int), (0 : Int), (0 : Int), (0 : Int), ([] : List WT3), ()) x0 y1.1.2.1).2.2.2.2.2.2.2.2.2.2.2.2.1, v2.1, ())]) ≤ 4294967296) then
            some (.inl (((y1.1.1 ++ [((rd (α := (ByteArray × ByteArray × ByteArray × ByteArray × Int × Int × Int × Int × Int × Int × Int × Int × Int × (List WT3) × Unit)) (ByteArray.empty, ByteArray.empty, ByteArray.empty, ByteArray.empty, (0 : Int), (0 : Int), (0 : Int), (0 : Int), (0 : Int), (0 : Int), (0 : Int), (0 : Int), (0 : Int), ([] : List WT3), ()) x0 y1.1.2.1).1, (rd (α := (ByteArray × ByteArray × ByteArray × ByteArray × Int × Int × Int × Int × Int × Int × Int × Int × Int × (List WT3) × Unit)) (ByteArray.empty, ByteArray.empty, ByteArray.empty, ByteArray.empty, (0 : Int), (0 : Int), (0 : Int), (0 : Int), (0 : Int), (0 : Int), (0 : Int), (0 : Int), (0 : Int), ([] : List WT3), ()) x0 y1.1.2.1).2.1, (rd (α := (ByteArray × ByteArray × ByteArray × ByteArray × Int × Int × Int × Int × Int × Int × Int × Int × Int × (List WT3) × Unit)) (ByteArray.empty, ByteArray.empty, ByteArray.empty, ByteArray.empty, (0 : Int), (0 : Int), (0 : Int), (0 : Int), (0 : Int), (0 : Int), (0 : Int), (0 : Int), (0 : Int), ([] : List WT3), ()) x0 y1.1.2.1).2.2.1, (rd (α := (ByteArray × ByteArray × ByteArray × ByteArray × Int × Int × Int × Int × Int × Int × Int × Int × Int × (List WT3) × Unit)) (ByteArray.empty, ByteArray.empty, ByteArray.empty, ByteArray.empty, (0 : Int), (0 : Int), (0 : Int), (0 : Int), (0 : Int), (0 : Int), (0 : Int), (0 : Int), (0 : Int), ([] : List WT3), ()) x0 y1.1.2.1).2.2.2.1, (rd (α := (ByteArray × ByteArray × ByteArray × ByteArray × Int × Int × Int × Int × Int × Int × Int × Int × Int × (List WT3) × Unit)) (ByteArray.empty, ByteArray.empty, ByteArray.empty, ByteArray.empty, (0 : Int), (0 : Int), (0 : Int), (0 : Int), (0 : Int), (0 : Int), (0 : Int), (0 : Int), (0 : Int), ([] : List WT3), ()) x0 y1.1.2.1).2.2.2.2.1, (rd (α := (ByteArray × ByteArray × ByteArray × ByteArray × Int × Int × Int × Int × Int × Int × Int × Int × Int × (List WT3) × Unit)) (ByteArray.empty, ByteArray.empty, ByteArray.empty, ByteArray.empty, (0 : Int), (0 : Int), (0 : Int), (0 : Int), (0 : Int), (0 : Int), (0 : Int), (0 : Int), (0 : Int), ([] : List WT3), ()) x0 y1.1.2.1).2.2.2.2.2.1, (rd (α := (ByteArray × ByteArray × ByteArray × ByteArray × Int × Int × Int × Int × Int × Int × Int × Int × Int × (List WT3) × Unit)) (ByteArray.empty, ByteArray.empty, ByteArray.empty, ByteArray.empty, (0 : Int), (0 : Int), (0 : Int), (0 : Int), (0 : Int), (0 : Int), (0 : Int), (0 : Int), (0 : Int), ([] : List WT3), ()) x0 y1.1.2.1).2.2.2.2.2.2.1, (rd (α := (ByteArray × ByteArray × ByteArray × ByteArray × Int × Int × Int × Int × Int × Int × Int × Int × Int × (List WT3) × Unit)) (ByteArray.empty, ByteArray.empty, ByteArray.empty, ByteArray.empty, (0 : Int), (0 : Int), (0 : Int), (0 : Int), (0 : Int), (0 : Int), (0 : Int), (0 : Int), (0 : Int), ([] : List WT3), ()) x0 y1.1.2.1).2.2.2.2.2.2.2.1, (rd (α := (ByteArray × ByteArray × ByteArray × ByteArray × Int × Int × Int × Int × Int × Int × Int × Int × Int × (List WT3) × Unit)) (ByteArray.empty, ByteArray.empty, ByteArray.empty, ByteArray.empty, (0 : Int), (0 : Int), (0 : Int), (0 : Int), (0 : Int), (0 : Int), (0 : Int), (0 : Int), (0 : Int), ([] : List WT3), ()) x0 y1.1.2.1).2.2.2.2.2.2.2.2.1, (rd (α := (ByteArray × ByteArray × ByteArray × ByteArray × Int × Int × Int × Int × Int × Int × Int × Int × Int × (List WT3) × Unit)) (ByteArray.empty, ByteArray.empty, ByteArray.empty, ByteArray.empty, (0 : Int), (0 : Int), (0 : Int), (0 : Int), (0 : Int), (0 : Int), (0 : Int), (0 : Int), (0 : Int), ([] : List WT3), ()) x0 y1.1.2.1).2.2.2.2.2.2.2.2.2.1, (rd (α := (ByteArray × ByteArray × ByteArray × ByteArray × Int × Int × Int × Int × Int × Int × Int × Int × Int × (List WT3) × Unit)) (ByteArray.empty, ByteArray.empty, ByteArray.empty, ByteArray.empty, (0 : Int), (0 : Int), (0 : Int), (0 : Int), (0 : Int), (0 : Int), (0 : Int), (0 : Int), (0 : Int), ([] : List WT3), ()) x0 y1.1.2.1).2.2.2.2.2.2.2.2.2.2.1, (rd (α := (ByteArray × ByteArray × ByteArray × ByteArray × Int × Int × Int × Int × Int × Int × Int × Int × Int × (List WT3) × Unit)) (ByteArray.empty, ByteArray.empty, ByteArray.empty, ByteArray.empty, (0 : Int), (0 : Int), (0 : Int), (0 : Int), (0 : Int), (0 : Int), (0 : Int), (0 : Int), (0 : Int), ([] : List WT3), ()) x0 y1.1.2.1).2.2.2.2.2.2.2.2.2.2.2.1, (rd (α := (ByteArray × ByteArray × ByteArray × ByteArray × Int × Int × Int × Int × Int × Int × Int × Int × Int × (List WT3) × Unit)) (ByteArray.empty, ByteArray.empty, ByteArray.empty, ByteArray.empty, (0 : Int), (0 : Int), (0 : Int), (0 : Int), (0 : Int), (0 : Int), (0 : Int), (0 : Int), (0 : Int), ([] : List WT3), ()) x0 y1.1.2.1).2.2.2.2.2.2.2.2.2.2.2.2.1, v2.1, ())]), (IntKind.i64.wrap (y1.1.2.1 + (1 : Int))), ()), ()))
          else
            none
        else
          none
      else
        some (.inr (.inr ((y1.1.1, ()), ())))) (([], (0 : Int), ()), ())) fun r => match r with
  | .inl z => some z
  | .inr z3 =>
    some (z3.1.1, ())
def H8 : Hints where
  loop := fun n => match n with
    | 0 => some ({ slots := [(3, (.row WY4)), (8, (.int .i64))], objs := [], gone := [] }, 0, { slots := [(3, (.row WY4))], objs := [], gone := [] })
    | _ => none
  region := fun n => match n with
    | _ => none
  cond := fun n => match n with
    | _ => none
  block := fun n => match n with
    | _ => none
abbrev A8 : Tys := (.cons (.slice WY4) .nil)
def ts8 : List (Nat × TD) := [(3, (.data (.int .i64))), (25, (.data (.slice WY4))), (26, (.data (.slice WY2))), (28, (.data WY4))]
noncomputable def fs8 (g62 : (List WT3) → Option ((List WT3) × Unit)) : List (Nat × FSem) := [(62, .pfn (.cons (.slice WY2) .nil) (.cons (.slice WY2) .nil) fun x => (g62 x.1))]
noncomputable def body8 : Code := match Tryz.f8.body with | some c => c | none => .skip
theorem ty8 : chkTypes Tryz.prog ts8 = true := by kernel_rfl
theorem ev8 (g62 : (List WT3) → Option ((List WT3) × Unit)) (k : Nat) (x : ((.cons (.slice WY4) .nil) : Tys).den) : evFun (mkEnv ts8 (fs8 g62)) H8 k body8 22 [.tmp 2] (explodes (.cons (.slice WY4) .nil) x) [] (dec (.cons (.slice WY4) .nil)) = f8 g62 k x.1 := by kernel_rfl
/-! ### jitney/base.Window -/
def f63 (g74 : Int → Int → Int → (Bool)) (k : Nat) (x0 : WT0) : Option (Bool × Unit) :=
  bif (!(g74 x0.1 (0 : Int) x0.2.1)) then
    some ((decide (x0.2.1 ≤ (345686400000 : Int))), ())
  else
    some (false, ())
def H63 : Hints where
  loop := fun n => match n with
    | _ => none
  region := fun n => match n with
    | _ => none
  cond := fun n => match n with
    | _ => none
  block := fun n => match n with
    | _ => none
abbrev A63 : Tys := (.cons WY0 .nil)
def ts63 : List (Nat × TD) := [(3, (.data (.int .i64))), (4, (.data .bool)), (30, (.data WY0))]
noncomputable def fs63 (g74 : Int → Int → Int → (Bool)) : List (Nat × FSem) := [(74, .fn (.cons (.int .i64) (.cons (.int .i64) (.cons (.int .i64) .nil))) (.cons .bool .nil) fun x => ((g74 x.1 x.2.1 x.2.2.1), ()))]
noncomputable def body63 : Code := match Tryz.f63.body with | some c => c | none => .skip
theorem ty63 : chkTypes Tryz.prog ts63 = true := by kernel_rfl
theorem ev63 (g74 : Int → Int → Int → (Bool)) (k : Nat) (x : ((.cons WY0 .nil) : Tys).den) : evFun (mkEnv ts63 (fs63 g74)) H63 k body63 14 [.tmp 2] (explodes (.cons WY0 .nil) x) [] (dec (.cons .bool .nil)) = f63 g74 k x.1 := by kernel_rfl
/-! ### cmp.Or[int] -/
def f66  (k : Nat) (x0 : List Int) : Option (Int × Unit) :=
  Option.bind (α := (Int × Unit) ⊕ ((Unit) × (Unit))) (iter (σ := (Int × Unit) × (Unit)) (τ := (Int × Unit) ⊕ ((Unit) × (Unit))) k (fun y1 =>
      bif (decide (y1.1.1 < ((List.length x0 : Nat) : Int))) then
        bif (inR y1.1.1 ((List.length x0 : Nat) : Int)) then
          bif ((rd (α := Int) (0 : Int) x0 y1.1.1) != (0 : Int)) then
            some (.inr (.inl ((rd (α := Int) (0 : Int) x0 y1.1.1), ())))
          else
            some (.inl (((IntKind.i64.wrap (y1.1.1 + (1 : Int))), ()), ()))
        else
          none
      else
        some (.inr (.inr ((), ())))) (((0 : Int), ()), ())) fun r => match r with
  | .inl z => some z
  | .inr z2 =>
    some ((0 : Int), ())
def H66 : Hints where
  loop := fun n => match n with
    | 0 => some ({ slots := [(8, (.int .i64))], objs := [], gone := [] }, 0, { slots := [], objs := [], gone := [] })
    | _ => none
  region := fun n => match n with
    | _ => none
  cond := fun n => match n with
    | _ => none
  block := fun n => match n with
    | _ => none
abbrev A66 : Tys := (.cons (.slice (.int .i64)) .nil)
def ts66 : List (Nat × TD) := [(3, (.data (.int .i64))), (31, (.data (.slice (.int .i64))))]
noncomputable def fs66  : List (Nat × FSem) := []
noncomputable def body66 : Code := match Tryz.f66.body with | some c => c | none => .skip
theorem ty66 : chkTypes Tryz.prog ts66 = true := by kernel_rfl
theorem ev66  (k : Nat) (x : ((.cons (.slice (.int .i64)) .nil) : Tys).den) : evFun (mkEnv ts66 (fs66 )) H66 k body66 18 [.tmp 2] (explodes (.cons (.slice (.int .i64)) .nil) x) [] (dec (.cons (.int .i64) .nil)) = f66  k x.1 := by kernel_rfl
/-! ### strings.Compare -/
def f68 (g133 : ByteArray → ByteArray → (Int)) (k : Nat) (x0 : ByteArray) (x1 : ByteArray) : Option (Int × Unit) :=
  some ((g133 x0 x1), ())
def H68 : Hints where
  loop := fun n => match n with
    | _ => none
  region := fun n => match n with
    | _ => none
  cond := fun n => match n with
    | _ => none
  block := fun n => match n with
    | _ => none
abbrev A68 : Tys := (.cons .str (.cons .str .nil))
def ts68 : List (Nat × TD) := [(3, (.data (.int .i64))), (9, (.data .str))]
noncomputable def fs68 (g133 : ByteArray → ByteArray → (Int)) : List (Nat × FSem) := [(133, .fn (.cons .str (.cons .str .nil)) (.cons (.int .i64) .nil) fun x => ((g133 x.1 x.2.1), ()))]
noncomputable def body68 : Code := match Tryz.f68.body with | some c => c | none => .skip
theorem ty68 : chkTypes Tryz.prog ts68 = true := by kernel_rfl
theorem ev68 (g133 : ByteArray → ByteArray → (Int)) (k : Nat) (x : ((.cons .str (.cons .str .nil)) : Tys).den) : evFun (mkEnv ts68 (fs68 g133)) H68 k body68 8 [.tmp 4] (explodes (.cons .str (.cons .str .nil)) x) [] (dec (.cons (.int .i64) .nil)) = f68 g133 k x.1 x.2.1 := by kernel_rfl
/-! ### jitney/request.Rides$1 -/
def f65 (g66 : (List Int) → (Int)) (g67 : Int → Int → (Int)) (g68 : ByteArray → ByteArray → (Int)) (k : Nat) (x0 : WT6) (x1 : WT6) : Option (Int × Unit) :=
  some ((g66 ([(g67 x0.2.2.2.2.1 x1.2.2.2.2.1), (g68 x0.1 x1.1)])), ())
def H65 : Hints where
  loop := fun n => match n with
    | _ => none
  region := fun n => match n with
    | _ => none
  cond := fun n => match n with
    | _ => none
  block := fun n => match n with
    | _ => none
abbrev A65 : Tys := (.cons WY3 (.cons WY3 .nil))
def ts65 : List (Nat × TD) := [(3, (.data (.int .i64))), (9, (.data .str)), (23, (.data WY3)), (31, (.data (.slice (.int .i64))))]
noncomputable def fs65 (g66 : (List Int) → (Int)) (g67 : Int → Int → (Int)) (g68 : ByteArray → ByteArray → (Int)) : List (Nat × FSem) := [(66, .fn (.cons (.slice (.int .i64)) .nil) (.cons (.int .i64) .nil) fun x => ((g66 x.1), ())), (67, .fn (.cons (.int .i64) (.cons (.int .i64) .nil)) (.cons (.int .i64) .nil) fun x => ((g67 x.1 x.2.1), ())), (68, .fn (.cons .str (.cons .str .nil)) (.cons (.int .i64) .nil) fun x => ((g68 x.1 x.2.1), ()))]
noncomputable def body65 : Code := match Tryz.f65.body with | some c => c | none => .skip
theorem ty65 : chkTypes Tryz.prog ts65 = true := by kernel_rfl
theorem ev65 (g66 : (List Int) → (Int)) (g67 : Int → Int → (Int)) (g68 : ByteArray → ByteArray → (Int)) (k : Nat) (x : ((.cons WY3 (.cons WY3 .nil)) : Tys).den) : evFun (mkEnv ts65 (fs65 g66 g67 g68)) H65 k body65 17 [.tmp 4] (explodes (.cons WY3 (.cons WY3 .nil)) x) [] (dec (.cons (.int .i64) .nil)) = f65 g66 g67 g68 k x.1 x.2.1 := by kernel_rfl
/-! ### jitney/request.Rides -/
noncomputable def mkEnvX9_61 (ts : List (Nat × TD)) (fs : List (Nat × FSem)) : Env := mkEnvF ts fs [(92, 128), (98, 128)]
theorem mkEnvX9_61_ok {P : Program} {ts : List (Nat × TD)} {fs : List (Nat × FSem)} (h1 : chkTypes P ts = true) (h2 : ∀ p ∈ fs, SoundF P p.1 p.2) : EnvOK P (mkEnvX9_61 ts fs) := mkEnvF_ok h1 h2
def f9 (g17 : (List (ByteArray × ByteArray × ByteArray × ByteArray × Int × Int × Int × Int × Int × Int × Int × Int × Int × (List WT3) × Unit)) → (Int)) (g63 : WT0 → (Bool)) (g64 : List WT6 → Option (List WT6)) (g73 : Int → (Bool)) (g107 : Int → Option (ByteArray × Unit)) (g127 : WT3 → Int → (Int)) (g129 : ByteArray → Int → Option (ByteArray × Unit)) (k : Nat) (x0 : (ByteArray × ByteArray × ByteArray × ByteArray × Int × Int × Int × Int × Int × Int × Int × Int × Int × (List WT3) × Unit)) (x1 : WT0) : Option ((List WT6) × Int × Unit) :=
  bif ((g17 ([x0])) != (0 : Int)) then
    some ([], (g17 ([x0])), ())
  else
    bif (!(g63 x1)) then
      some ([], (1 : Int), ())
    else
      Option.bind (α := ((List WT6) × Int × Unit) ⊕ (((List WT6) × Unit) × ((ByteArray × ByteArray × ByteArray × ByteArray × Int × Int × Int × Int × Int × Int × Int × Int × Int × (List WT3) × Unit) × Unit))) (iter (σ := ((List WT6) × Int × Unit) × ((ByteArray × ByteArray × ByteArray × ByteArray × Int × Int × Int × Int × Int × Int × Int × Int × Int × (List WT3) × Unit) × Unit)) (τ := ((List WT6) × Int × Unit) ⊕ (((List WT6) × Unit) × ((ByteArray × ByteArray × ByteArray × ByteArray × Int × Int × Int × Int × Int × Int × Int × Int × Int × (List WT3) × Unit) × Unit))) k (fun y1 =>
          bif (decide (y1.1.2.1 ≤ y1.2.1.2.2.2.2.2.1)) then
            Option.bind (α := ((((List WT6) × Int × Unit) × ((ByteArray × ByteArray × ByteArray × ByteArray × Int × Int × Int × Int × Int × Int × Int × Int × Int × (List WT3) × Unit) × Unit)) ⊕ (((List WT6) × Int × Unit) ⊕ (((List WT6) × Unit) × ((ByteArray × ByteArray × ByteArray × ByteArray × Int × Int × Int × Int × Int × Int × Int × Int × Int × (List WT3) × Unit) × Unit)))) ⊕ (WT7 × ((ByteArray × ByteArray × ByteArray × ByteArray × Int × Int × Int × Int × Int × Int × Int × Int × Int × (List WT3) × Unit) × Unit))) (
                bif decide (y1.2.1.2.2.2.2.2.2.1 = 0) then
                  none
                else
                  bif ((Int.tmod (IntKind.i64.wrap ((IntKind.i64.wrap (Int.tdiv y1.1.2.1 (7 : Int))) - (IntKind.i64.wrap (Int.tdiv y1.2.1.2.2.2.2.1 (7 : Int))))) y1.2.1.2.2.2.2.2.2.1) != (0 : Int)) then
                    some (.inr (zWT7, ((y1.2.1.1, y1.2.1.2.1, y1.2.1.2.2.1, y1.2.1.2.2.2.1, y1.2.1.2.2.2.2.1, y1.2.1.2.2.2.2.2.1, y1.2.1.2.2.2.2.2.2.1, y1.2.1.2.2.2.2.2.2.2.1, y1.2.1.2.2.2.2.2.2.2.2.1, y1.2.1.2.2.2.2.2.2.2.2.2.1, y1.2.1.2.2.2.2.2.2.2.2.2.2.1, y1.2.1.2.2.2.2.2.2.2.2.2.2.2.1, y1.2.1.2.2.2.2.2.2.2.2.2.2.2.2.1, y1.2.1.2.2.2.2.2.2.2.2.2.2.2.2.2.1, ()), ())))
                  else
                    bif decide (0 ≤ (Int.tmod y1.1.2.1 (7 : Int))) then
                      bif ((iand .i64 (Int.fdiv y1.2.1.2.2.2.2.2.2.2.1 ((2 : Int) ^ (min (Int.toNat (Int.tmod y1.1.2.1 (7 : Int))) 64))) (1 : Int)) == (0 : Int)) then
                        some (.inr (zWT7, ((y1.2.1.1, y1.2.1.2.1, y1.2.1.2.2.1, y1.2.1.2.2.2.1, y1.2.1.2.2.2.2.1, y1.2.1.2.2.2.2.2.1, y1.2.1.2.2.2.2.2.2.1, y1.2.1.2.2.2.2.2.2.2.1, y1.2.1.2.2.2.2.2.2.2.2.1, y1.2.1.2.2.2.2.2.2.2.2.2.1, y1.2.1.2.2.2.2.2.2.2.2.2.2.1, y1.2.1.2.2.2.2.2.2.2.2.2.2.2.1, y1.2.1.2.2.2.2.2.2.2.2.2.2.2.2.1, y1.2.1.2.2.2.2.2.2.2.2.2.2.2.2.2.1, ()), ())))
                      else
                        Option.bind (α := (((((List WT6) × Int × Unit) × ((ByteArray × ByteArray × ByteArray × ByteArray × Int × Int × Int × Int × Int × Int × Int × Int × Int × (List WT3) × Unit) × Unit)) ⊕ (((List WT6) × Int × Unit) ⊕ (((List WT6) × Unit) × ((ByteArray × ByteArray × ByteArray × ByteArray × Int × Int × Int × Int × Int × Int × Int × Int × Int × (List WT3) × Unit) × Unit)))) ⊕ (WT7 × ((ByteArray × ByteArray × ByteArray × ByteArray × Int × Int × Int × Int × Int × Int × Int × Int × Int × (List WT3) × Unit) × Unit))) ⊕ (WT1 × (Unit))) (
                            Option.bind (α := ((((((List WT6) × Int × Unit) × ((ByteArray × ByteArray × ByteArray × ByteArray × Int × Int × Int × Int × Int × Int × Int × Int × Int × (List WT3) × Unit) × Unit)) ⊕ (((List WT6) × Int × Unit) ⊕ (((List WT6) × Unit) × ((ByteArray × ByteArray × ByteArray × ByteArray × Int × Int × Int × Int × Int × Int × Int × Int × Int × (List WT3) × Unit) × Unit)))) ⊕ (WT7 × ((ByteArray × ByteArray × ByteArray × ByteArray × Int × Int × Int × Int × Int × Int × Int × Int × Int × (List WT3) × Unit) × Unit))) ⊕ (WT1 × (Unit))) ⊕ ((Int × Unit) × (Unit))) (iter (σ := WT0 × (Unit)) (τ := ((((((List WT6) × Int × Unit) × ((ByteArray × ByteArray × ByteArray × ByteArray × Int × Int × Int × Int × Int × Int × Int × Int × Int × (List WT3) × Unit) × Unit)) ⊕ (((List WT6) × Int × Unit) ⊕ (((List WT6) × Unit) × ((ByteArray × ByteArray × ByteArray × ByteArray × Int × Int × Int × Int × Int × Int × Int × Int × Int × (List WT3) × Unit) × Unit)))) ⊕ (WT7 × ((ByteArray × ByteArray × ByteArray × ByteArray × Int × Int × Int × Int × Int × Int × Int × Int × Int × (List WT3) × Unit) × Unit))) ⊕ (WT1 × (Unit))) ⊕ ((Int × Unit) × (Unit))) k (fun y2 =>
                                bif (decide (y2.1.1 < y2.1.2.1)) then
                                  bif (inR (IntKind.i64.wrap (Int.fdiv (IntKind.u64.wrap (IntKind.i64.wrap (y2.1.1 + y2.1.2.1))) (2 : Int))) ((List.length y1.2.1.2.2.2.2.2.2.2.2.2.2.2.2.2.1 : Nat) : Int)) then
                                    bif (decide ((g127 (rd (α := WT3) zWT3 y1.2.1.2.2.2.2.2.2.2.2.2.2.2.2.2.1 (IntKind.i64.wrap (Int.fdiv (IntKind.u64.wrap (IntKind.i64.wrap (y2.1.1 + y2.1.2.1))) (2 : Int)))) y1.1.2.1) < (0 : Int))) then
                                      some (.inl (((IntKind.i64.wrap ((IntKind.i64.wrap (Int.fdiv (IntKind.u64.wrap (IntKind.i64.wrap (y2.1.1 + y2.1.2.1))) (2 : Int))) + (1 : Int))), y2.1.2.1, ()), ()))
                                    else
                                      some (.inl ((y2.1.1, (IntKind.i64.wrap (Int.fdiv (IntKind.u64.wrap (IntKind.i64.wrap (y2.1.1 + y2.1.2.1))) (2 : Int))), ()), ()))
                                  else
                                    none
                                else
                                  some (.inr (.inr ((y2.1.1, ()), ())))) (((0 : Int), ((List.length y1.2.1.2.2.2.2.2.2.2.2.2.2.2.2.2.1 : Nat) : Int), ()), ())) fun r => match r with
                            | .inl z => some z
                            | .inr z3 =>
                              bif (decide (z3.1.1 < ((List.length y1.2.1.2.2.2.2.2.2.2.2.2.2.2.2.2.1 : Nat) : Int))) then
                                bif (inR z3.1.1 ((List.length y1.2.1.2.2.2.2.2.2.2.2.2.2.2.2.2.1 : Nat) : Int)) then
                                  some (.inr ((z3.1.1, ((g127 (rd (α := WT3) zWT3 y1.2.1.2.2.2.2.2.2.2.2.2.2.2.2.2.1 z3.1.1) y1.1.2.1) == (0 : Int)), ()), ()))
                                else
                                  none
                              else
                                some (.inr ((z3.1.1, false, ()), ()))) fun r => match r with
                        | .inl z => some z
                        | .inr y4 =>
                          Option.bind (α := (((((List WT6) × Int × Unit) × ((ByteArray × ByteArray × ByteArray × ByteArray × Int × Int × Int × Int × Int × Int × Int × Int × Int × (List WT3) × Unit) × Unit)) ⊕ (((List WT6) × Int × Unit) ⊕ (((List WT6) × Unit) × ((ByteArray × ByteArray × ByteArray × ByteArray × Int × Int × Int × Int × Int × Int × Int × Int × Int × (List WT3) × Unit) × Unit)))) ⊕ (WT7 × ((ByteArray × ByteArray × ByteArray × ByteArray × Int × Int × Int × Int × Int × Int × Int × Int × Int × (List WT3) × Unit) × Unit))) ⊕ ((Unit) × (Int × Unit))) (
                              bif y4.1.2.1 then
                                bif (inR y4.1.1 ((List.length y1.2.1.2.2.2.2.2.2.2.2.2.2.2.2.2.1 : Nat) : Int)) then
                                  bif (rd (α := WT3) zWT3 y1.2.1.2.2.2.2.2.2.2.2.2.2.2.2.2.1 y4.1.1).2.1 then
                                    some (.inl (.inr (zWT7, ((y1.2.1.1, y1.2.1.2.1, y1.2.1.2.2.1, y1.2.1.2.2.2.1, y1.2.1.2.2.2.2.1, y1.2.1.2.2.2.2.2.1, y1.2.1.2.2.2.2.2.2.1, y1.2.1.2.2.2.2.2.2.2.1, y1.2.1.2.2.2.2.2.2.2.2.1, y1.2.1.2.2.2.2.2.2.2.2.2.1, y1.2.1.2.2.2.2.2.2.2.2.2.2.1, y1.2.1.2.2.2.2.2.2.2.2.2.2.2.1, y1.2.1.2.2.2.2.2.2.2.2.2.2.2.2.1, y1.2.1.2.2.2.2.2.2.2.2.2.2.2.2.2.1, ()), ()))))
                                  else
                                    bif (inR y4.1.1 ((List.length y1.2.1.2.2.2.2.2.2.2.2.2.2.2.2.2.1 : Nat) : Int)) then
                                      some (.inr ((), ((rd (α := WT3) zWT3 y1.2.1.2.2.2.2.2.2.2.2.2.2.2.2.2.1 y4.1.1).2.2.1, ())))
                                    else
                                      none
                                else
                                  none
                              else
                                some (.inr ((), ((0 : Int), ())))) fun r => match r with
                          | .inl z => some z
                          | .inr y5 =>
                            Option.bind (g107 y1.1.2.1) fun v6 =>
                            bif decide (ByteArray.size y1.2.1.1 + ByteArray.size (ByteArray.mk #[45]) < 4611686018427387904) then
                              Option.bind (g129 (ByteArray.mk #[48]) (IntKind.i64.wrap ((4 : Int) - ((ByteArray.size v6.1 : Nat) : Int)))) fun v7 =>
                              bif decide (ByteArray.size (y1.2.1.1 ++ (ByteArray.mk #[45])) + ByteArray.size v7.1 < 4611686018427387904) then
                                bif decide (ByteArray.size ((y1.2.1.1 ++ (ByteArray.mk #[45])) ++ v7.1) + ByteArray.size v6.1 < 4611686018427387904) then
                                  bif (g73 (IntKind.i64.wrap ((IntKind.i64.wrap (y1.1.2.1 * (86400000 : Int))) + (IntKind.i64.wrap ((IntKind.i64.wrap ((IntKind.i64.wrap (y1.2.1.2.2.2.2.2.2.2.2.1 - y1.2.1.2.2.2.2.2.2.2.2.2.2.1)) + y5.2.1)) * (60000 : Int)))))) then
                                    some (.inr ((((((y1.2.1.1 ++ (ByteArray.mk #[45])) ++ v7.1) ++ v6.1), y1.2.1.2.1, y1.2.1.2.2.1, y1.2.1.2.2.2.1, (IntKind.i64.wrap ((IntKind.i64.wrap (y1.1.2.1 * (86400000 : Int))) + (IntKind.i64.wrap ((IntKind.i64.wrap ((IntKind.i64.wrap (y1.2.1.2.2.2.2.2.2.2.2.1 - y1.2.1.2.2.2.2.2.2.2.2.2.2.1)) + y5.2.1)) * (60000 : Int))))), (IntKind.i64.wrap ((IntKind.i64.wrap (y1.1.2.1 * (86400000 : Int))) + (IntKind.i64.wrap ((IntKind.i64.wrap ((IntKind.i64.wrap (y1.2.1.2.2.2.2.2.2.2.2.2.1 - y1.2.1.2.2.2.2.2.2.2.2.2.2.1)) + y5.2.1)) * (60000 : Int))))), y1.2.1.2.2.2.2.2.2.2.2.2.2.2.1, y1.2.1.2.2.2.2.2.2.2.2.2.2.2.2.1, ()), (decide ((IntKind.i64.wrap ((IntKind.i64.wrap (y1.1.2.1 * (86400000 : Int))) + (IntKind.i64.wrap ((IntKind.i64.wrap ((IntKind.i64.wrap (y1.2.1.2.2.2.2.2.2.2.2.2.1 - y1.2.1.2.2.2.2.2.2.2.2.2.2.1)) + y5.2.1)) * (60000 : Int))))) ≤ (345686400000 : Int))), ()), ((y1.2.1.1, y1.2.1.2.1, y1.2.1.2.2.1, y1.2.1.2.2.2.1, y1.2.1.2.2.2.2.1, y1.2.1.2.2.2.2.2.1, y1.2.1.2.2.2.2.2.2.1, y1.2.1.2.2.2.2.2.2.2.1, y1.2.1.2.2.2.2.2.2.2.2.1, y1.2.1.2.2.2.2.2.2.2.2.2.1, y1.2.1.2.2.2.2.2.2.2.2.2.2.1, y1.2.1.2.2.2.2.2.2.2.2.2.2.2.1, y1.2.1.2.2.2.2.2.2.2.2.2.2.2.2.1, y1.2.1.2.2.2.2.2.2.2.2.2.2.2.2.2.1, ()), ())))
                                  else
                                    some (.inr ((((((y1.2.1.1 ++ (ByteArray.mk #[45])) ++ v7.1) ++ v6.1), y1.2.1.2.1, y1.2.1.2.2.1, y1.2.1.2.2.2.1, (IntKind.i64.wrap ((IntKind.i64.wrap (y1.1.2.1 * (86400000 : Int))) + (IntKind.i64.wrap ((IntKind.i64.wrap ((IntKind.i64.wrap (y1.2.1.2.2.2.2.2.2.2.2.1 - y1.2.1.2.2.2.2.2.2.2.2.2.2.1)) + y5.2.1)) * (60000 : Int))))), (IntKind.i64.wrap ((IntKind.i64.wrap (y1.1.2.1 * (86400000 : Int))) + (IntKind.i64.wrap ((IntKind.i64.wrap ((IntKind.i64.wrap (y1.2.1.2.2.2.2.2.2.2.2.2.1 - y1.2.1.2.2.2.2.2.2.2.2.2.2.1)) + y5.2.1)) * (60000 : Int))))), y1.2.1.2.2.2.2.2.2.2.2.2.2.2.1, y1.2.1.2.2.2.2.2.2.2.2.2.2.2.2.1, ()), false, ()), ((y1.2.1.1, y1.2.1.2.1, y1.2.1.2.2.1, y1.2.1.2.2.2.1, y1.2.1.2.2.2.2.1, y1.2.1.2.2.2.2.2.1, y1.2.1.2.2.2.2.2.2.1, y1.2.1.2.2.2.2.2.2.2.1, y1.2.1.2.2.2.2.2.2.2.2.1, y1.2.1.2.2.2.2.2.2.2.2.2.1, y1.2.1.2.2.2.2.2.2.2.2.2.2.1, y1.2.1.2.2.2.2.2.2.2.2.2.2.2.1, y1.2.1.2.2.2.2.2.2.2.2.2.2.2.2.1, y1.2.1.2.2.2.2.2.2.2.2.2.2.2.2.2.1, ()), ())))
                                else
                                  none
                              else
                                none
                            else
                              none
                    else
                      none) fun r => match r with
            | .inl z => some z
            | .inr y8 =>
              Option.bind (α := ((((List WT6) × Int × Unit) × ((ByteArray × ByteArray × ByteArray × ByteArray × Int × Int × Int × Int × Int × Int × Int × Int × Int × (List WT3) × Unit) × Unit)) ⊕ (((List WT6) × Int × Unit) ⊕ (((List WT6) × Unit) × ((ByteArray × ByteArray × ByteArray × ByteArray × Int × Int × Int × Int × Int × Int × Int × Int × Int × (List WT3) × Unit) × Unit)))) ⊕ ((Bool × Unit) × (Unit))) (
                  bif y8.1.2.1 then
                    bif (decide (y8.1.1.2.2.2.2.1 ≥ x1.1)) then
                      some (.inr (((decide (y8.1.1.2.2.2.2.1 < x1.2.1)), ()), ()))
                    else
                      some (.inr ((false, ()), ()))
                  else
                    some (.inr ((false, ()), ()))) fun r => match r with
              | .inl z => some z
              | .inr y9 =>
                bif y9.1.1 then
                  bif decide (List.length y1.1.1 + List.length ([(y8.1.1.1, y8.1.1.2.1, y8.1.1.2.2.1, y8.1.1.2.2.2.1, y8.1.1.2.2.2.2.1, y8.1.1.2.2.2.2.2.1, y8.1.1.2.2.2.2.2.2.1, y8.1.1.2.2.2.2.2.2.2.1, ())]) ≤ 4294967296) then
                    some (.inl (((y1.1.1 ++ [(y8.1.1.1, y8.1.1.2.1, y8.1.1.2.2.1, y8.1.1.2.2.2.1, y8.1.1.2.2.2.2.1, y8.1.1.2.2.2.2.2.1, y8.1.1.2.2.2.2.2.2.1, y8.1.1.2.2.2.2.2.2.2.1, ())]), (IntKind.i64.wrap (y1.1.2.1 + (1 : Int))), ()), ((y8.2.1.1, y8.2.1.2.1, y8.2.1.2.2.1, y8.2.1.2.2.2.1, y8.2.1.2.2.2.2.1, y8.2.1.2.2.2.2.2.1, y8.2.1.2.2.2.2.2.2.1, y8.2.1.2.2.2.2.2.2.2.1, y8.2.1.2.2.2.2.2.2.2.2.1, y8.2.1.2.2.2.2.2.2.2.2.2.1, y8.2.1.2.2.2.2.2.2.2.2.2.2.1, y8.2.1.2.2.2.2.2.2.2.2.2.2.2.1, y8.2.1.2.2.2.2.2.2.2.2.2.2.2.2.1, y8.2.1.2.2.2.2.2.2.2.2.2.2.2.2.2.1, ()), ())))
                  else
                    none
                else
                  some (.inl ((y1.1.1, (IntKind.i64.wrap (y1.1.2.1 + (1 : Int))), ()), ((y8.2.1.1, y8.2.1.2.1, y8.2.1.2.2.1, y8.2.1.2.2.2.1, y8.2.1.2.2.2.2.1, y8.2.1.2.2.2.2.2.1, y8.2.1.2.2.2.2.2.2.1, y8.2.1.2.2.2.2.2.2.2.1, y8.2.1.2.2.2.2.2.2.2.2.1, y8.2.1.2.2.2.2.2.2.2.2.2.1, y8.2.1.2.2.2.2.2.2.2.2.2.2.1, y8.2.1.2.2.2.2.2.2.2.2.2.2.2.1, y8.2.1.2.2.2.2.2.2.2.2.2.2.2.2.1, y8.2.1.2.2.2.2.2.2.2.2.2.2.2.2.2.1, ()), ())))
          else
            some (.inr (.inr ((y1.1.1, ()), ((y1.2.1.1, y1.2.1.2.1, y1.2.1.2.2.1, y1.2.1.2.2.2.1, y1.2.1.2.2.2.2.1, y1.2.1.2.2.2.2.2.1, y1.2.1.2.2.2.2.2.2.1, y1.2.1.2.2.2.2.2.2.2.1, y1.2.1.2.2.2.2.2.2.2.2.1, y1.2.1.2.2.2.2.2.2.2.2.2.1, y1.2.1.2.2.2.2.2.2.2.2.2.2.1, y1.2.1.2.2.2.2.2.2.2.2.2.2.2.1, y1.2.1.2.2.2.2.2.2.2.2.2.2.2.2.1, y1.2.1.2.2.2.2.2.2.2.2.2.2.2.2.2.1, ()), ()))))) (([], x0.2.2.2.2.1, ()), (x0, ()))) fun r => match r with
      | .inl z => some z
      | .inr z10 =>
        Option.bind (g64 z10.1.1) fun v11 =>
        some (v11, (0 : Int), ())
def H9 : Hints where
  loop := fun n => match n with
    | 0 => some ({ slots := [(7, (.row WY3)), (8, (.int .i64))], objs := [(0, (.box (.data WY4) (.agg (.cons .str (.cons .str (.cons .str (.cons .str (.cons (.int .i64) (.cons (.int .i64) (.cons (.int .i64) (.cons (.int .i64) (.cons (.int .i64) (.cons (.int .i64) (.cons (.int .i64) (.cons (.int .i64) (.cons (.int .i64) (.cons (.sl WY2) .nil)))))))))))))))))], gone := [] }, 0, { slots := [(7, (.row WY3))], objs := [(0, (.box (.data WY4) (.agg (.cons .str (.cons .str (.cons .str (.cons .str (.cons (.int .i64) (.cons (.int .i64) (.cons (.int .i64) (.cons (.int .i64) (.cons (.int .i64) (.cons (.int .i64) (.cons (.int .i64) (.cons (.int .i64) (.cons (.int .i64) (.cons (.sl WY2) .nil)))))))))))))))))], gone := [] })
    | _ => none
  region := fun n => match n with
    | 10 => some { slots := [(9, (.box (.data WY3) (.agg (.cons .str (.cons .str (.cons .str (.cons .str (.cons (.int .i64) (.cons (.int .i64) (.cons (.int .i64) (.cons (.int .i64) .nil))))))))))), (10, .bool)], objs := [(0, (.box (.data WY4) (.agg (.cons .str (.cons .str (.cons .str (.cons .str (.cons (.int .i64) (.cons (.int .i64) (.cons (.int .i64) (.cons (.int .i64) (.cons (.int .i64) (.cons (.int .i64) (.cons (.int .i64) (.cons (.int .i64) (.cons (.int .i64) (.cons (.sl WY2) .nil)))))))))))))))))], gone := [] }
    | 11 => some { slots := [(47, .bool)], objs := [], gone := [] }
    | _ => none
  cond := fun n => match n with
    | _ => none
  block := fun n => match n with
    | _ => none
def Hi9_126 : Hints where
  loop := fun n => match n with
    | 0 => some ({ slots := [(9, (.int .i64)), (10, (.int .i64))], objs := [], gone := [] }, 0, { slots := [(9, (.int .i64))], objs := [], gone := [] })
    | _ => none
  region := fun n => match n with
    | _ => none
  cond := fun n => match n with
    | _ => none
  block := fun n => match n with
    | _ => none
def tsi9_126 : List (Nat × TD) := [(3, (.data (.int .i64))), (26, (.data (.slice WY2))), (117, (.data WY2)), (190, (.data (.int .u64)))]
noncomputable def bodyi9_126 : Code := match Tryz.f126.body with | some c => c | none => .skip
noncomputable def fsi9_126 (g17 : (List (ByteArray × ByteArray × ByteArray × ByteArray × Int × Int × Int × Int × Int × Int × Int × Int × Int × (List WT3) × Unit)) → (Int)) (g63 : WT0 → (Bool)) (g64 : List WT6 → Option (List WT6)) (g73 : Int → (Bool)) (g107 : Int → Option (ByteArray × Unit)) (g127 : WT3 → Int → (Int)) (g129 : ByteArray → Int → Option (ByteArray × Unit)) (k : Nat) : List (Nat × FSem) := [(127, .fn (.cons WY2 (.cons (.int .i64) .nil)) (.cons (.int .i64) .nil) fun x => ((g127 x.1 x.2.1), ()))]
theorem tyi9_126 : chkTypes Tryz.prog tsi9_126 = true := by kernel_rfl
def Hi9_128 : Hints where
  loop := fun n => match n with
    | _ => none
  region := fun n => match n with
    | _ => none
  cond := fun n => match n with
    | _ => none
  block := fun n => match n with
    | _ => none
def tsi9_128 : List (Nat × TD) := [(3, (.data (.int .i64))), (28, (.data WY4)), (114, (.cell .ptr))]
noncomputable def bodyi9_128 : Code := match Tryz.f128.body with | some c => c | none => .skip
noncomputable def fsi9_128 (g17 : (List (ByteArray × ByteArray × ByteArray × ByteArray × Int × Int × Int × Int × Int × Int × Int × Int × Int × (List WT3) × Unit)) → (Int)) (g63 : WT0 → (Bool)) (g64 : List WT6 → Option (List WT6)) (g73 : Int → (Bool)) (g107 : Int → Option (ByteArray × Unit)) (g127 : WT3 → Int → (Int)) (g129 : ByteArray → Int → Option (ByteArray × Unit)) (k : Nat) : List (Nat × FSem) := []
theorem tyi9_128 : chkTypes Tryz.prog tsi9_128 = true := by kernel_rfl
def Hi9_61 : Hints where
  loop := fun n => match n with
    | _ => none
  region := fun n => match n with
    | 4 => some { slots := [(7, (.int .i64)), (8, .bool)], objs := [], gone := [] }
    | _ => none
  cond := fun n => match n with
    | 47 => some { slots := [], objs := [(29, (.box (.data (.int .i64)) (.int .i64)))], gone := [] }
    | _ => none
  block := fun n => match n with
    | _ => none
def tsi9_61 : List (Nat × TD) := [(3, (.data (.int .i64))), (4, (.data .bool)), (9, (.data .str)), (23, (.data WY3)), (26, (.data (.slice WY2))), (28, (.data WY4)), (114, (.cell .ptr)), (117, (.data WY2))]
noncomputable def bodyi9_61 : Code := match Tryz.f61.body with | some c => c | none => .skip
noncomputable def fsi9_61 (g17 : (List (ByteArray × ByteArray × ByteArray × ByteArray × Int × Int × Int × Int × Int × Int × Int × Int × Int × (List WT3) × Unit)) → (Int)) (g63 : WT0 → (Bool)) (g64 : List WT6 → Option (List WT6)) (g73 : Int → (Bool)) (g107 : Int → Option (ByteArray × Unit)) (g127 : WT3 → Int → (Int)) (g129 : ByteArray → Int → Option (ByteArray × Unit)) (k : Nat) : List (Nat × FSem) := [(73, .fn (.cons (.int .i64) .nil) (.cons .bool .nil) fun x => ((g73 x.1), ())), (107, .pfn (.cons (.int .i64) .nil) (.cons .str .nil) fun x => (g107 x.1)), (126, .ev (mkEnv tsi9_126 (fsi9_126 g17 g63 g64 g73 g107 g127 g129 k)) Hi9_126 k bodyi9_126 49 [.tmp 6, .tmp 7]), (128, .evr (mkEnv tsi9_128 (fsi9_128 g17 g63 g64 g73 g107 g127 g129 k)) Hi9_128 k bodyi9_128 18 [.tmp 5]), (129, .pfn (.cons .str (.cons (.int .i64) .nil)) (.cons .str .nil) fun x => (g129 x.1 x.2.1))]
theorem tyi9_61 : chkTypes Tryz.prog tsi9_61 = true := by kernel_rfl
abbrev A9 : Tys := (.cons WY4 (.cons WY0 .nil))
def ts9 : List (Nat × TD) := [(3, (.data (.int .i64))), (23, (.data WY3)), (25, (.data (.slice WY4))), (28, (.data WY4)), (30, (.data WY0)), (32, (.data (.int .i64))), (36, (.data (.slice WY3)))]
noncomputable def fs9 (g17 : (List (ByteArray × ByteArray × ByteArray × ByteArray × Int × Int × Int × Int × Int × Int × Int × Int × Int × (List WT3) × Unit)) → (Int)) (g63 : WT0 → (Bool)) (g64 : List WT6 → Option (List WT6)) (g73 : Int → (Bool)) (g107 : Int → Option (ByteArray × Unit)) (g127 : WT3 → Int → (Int)) (g129 : ByteArray → Int → Option (ByteArray × Unit)) (k : Nat) : List (Nat × FSem) := [(17, .fn (.cons (.slice WY4) .nil) (.cons (.int .i64) .nil) fun x => ((g17 x.1), ())), (61, .ev (mkEnvX9_61 tsi9_61 (fsi9_61 g17 g63 g64 g73 g107 g127 g129 k)) Hi9_61 k bodyi9_61 122 [.cell 4 23, .tmp 5]), (63, .fn (.cons WY0 .nil) (.cons .bool .nil) fun x => ((g63 x.1), ())), (64, .rfn WY3 .nil 65 fun xs a => g64 xs )]
noncomputable def body9 : Code := match Tryz.f9.body with | some c => c | none => .skip
theorem ty9 : chkTypes Tryz.prog ts9 = true := by kernel_rfl
theorem ev9 (g17 : (List (ByteArray × ByteArray × ByteArray × ByteArray × Int × Int × Int × Int × Int × Int × Int × Int × Int × (List WT3) × Unit)) → (Int)) (g63 : WT0 → (Bool)) (g64 : List WT6 → Option (List WT6)) (g73 : Int → (Bool)) (g107 : Int → Option (ByteArray × Unit)) (g127 : WT3 → Int → (Int)) (g129 : ByteArray → Int → Option (ByteArray × Unit)) (k : Nat) (x : ((.cons WY4 (.cons WY0 .nil)) : Tys).den) : evFun (mkEnv ts9 (fs9 g17 g63 g64 g73 g107 g127 g129 k)) H9 k body9 55 [.tmp 4, .tmp 5] (explodes (.cons WY4 (.cons WY0 .nil)) x) [] (dec (.cons (.slice WY3) (.cons (.int .i64) .nil))) = f9 g17 g63 g64 g73 g107 g127 g129 k x.1 x.2.1 := by kernel_rfl
/-! ### jitney/base.First -/
def f69  (k : Nat) (x0 : List Int) : Option (Int × Unit) :=
  Option.bind (α := (Int × Unit) ⊕ ((Unit) × (Unit))) (iter (σ := (Int × Unit) × (Unit)) (τ := (Int × Unit) ⊕ ((Unit) × (Unit))) k (fun y1 =>
      bif (decide (y1.1.1 < ((List.length x0 : Nat) : Int))) then
        bif (inR y1.1.1 ((List.length x0 : Nat) : Int)) then
          bif ((rd (α := Int) (0 : Int) x0 y1.1.1) != (0 : Int)) then
            some (.inr (.inl ((rd (α := Int) (0 : Int) x0 y1.1.1), ())))
          else
            some (.inl (((IntKind.i64.wrap (y1.1.1 + (1 : Int))), ()), ()))
        else
          none
      else
        some (.inr (.inr ((), ())))) (((0 : Int), ()), ())) fun r => match r with
  | .inl z => some z
  | .inr z2 =>
    some ((0 : Int), ())
def H69 : Hints where
  loop := fun n => match n with
    | 0 => some ({ slots := [(7, (.int .i64))], objs := [], gone := [] }, 0, { slots := [], objs := [], gone := [] })
    | _ => none
  region := fun n => match n with
    | _ => none
  cond := fun n => match n with
    | _ => none
  block := fun n => match n with
    | _ => none
abbrev A69 : Tys := (.cons (.slice (.int .i64)) .nil)
def ts69 : List (Nat × TD) := [(3, (.data (.int .i64))), (32, (.data (.int .i64))), (128, (.data (.slice (.int .i64))))]
noncomputable def fs69  : List (Nat × FSem) := []
noncomputable def body69 : Code := match Tryz.f69.body with | some c => c | none => .skip
theorem ty69 : chkTypes Tryz.prog ts69 = true := by kernel_rfl
theorem ev69  (k : Nat) (x : ((.cons (.slice (.int .i64)) .nil) : Tys).den) : evFun (mkEnv ts69 (fs69 )) H69 k body69 15 [.tmp 2] (explodes (.cons (.slice (.int .i64)) .nil) x) [] (dec (.cons (.int .i64) .nil)) = f69  k x.1 := by kernel_rfl
/-! ### jitney/request.meet -/
def f70  (k : Nat) (x0 : WT6) (x1 : WT6) : Option (Bool × Unit) :=
  some ((decide ((if (decide (x1.2.2.2.2.1 > x0.2.2.2.2.1)) then x1.2.2.2.2.1 else x0.2.2.2.2.1) < (if (decide (x1.2.2.2.2.2.1 < x0.2.2.2.2.2.1)) then x1.2.2.2.2.2.1 else x0.2.2.2.2.2.1))), ())
def H70 : Hints where
  loop := fun n => match n with
    | _ => none
  region := fun n => match n with
    | _ => none
  cond := fun n => match n with
    | _ => none
  block := fun n => match n with
    | _ => none
abbrev A70 : Tys := (.cons WY3 (.cons WY3 .nil))
def ts70 : List (Nat × TD) := [(3, (.data (.int .i64))), (4, (.data .bool)), (23, (.data WY3))]
noncomputable def fs70  : List (Nat × FSem) := []
noncomputable def body70 : Code := match Tryz.f70.body with | some c => c | none => .skip
theorem ty70 : chkTypes Tryz.prog ts70 = true := by kernel_rfl
theorem ev70  (k : Nat) (x : ((.cons WY3 (.cons WY3 .nil)) : Tys).den) : evFun (mkEnv ts70 (fs70 )) H70 k body70 16 [.tmp 4] (explodes (.cons WY3 (.cons WY3 .nil)) x) [] (dec (.cons .bool .nil)) = f70  k x.1 x.2.1 := by kernel_rfl
/-! ### jitney/request.Same -/
noncomputable def mkEnvX10_61 (ts : List (Nat × TD)) (fs : List (Nat × FSem)) : Env := mkEnvF ts fs [(92, 128), (98, 128)]
theorem mkEnvX10_61_ok {P : Program} {ts : List (Nat × TD)} {fs : List (Nat × FSem)} (h1 : chkTypes P ts = true) (h2 : ∀ p ∈ fs, SoundF P p.1 p.2) : EnvOK P (mkEnvX10_61 ts fs) := mkEnvF_ok h1 h2
def f10 (g17 : (List (ByteArray × ByteArray × ByteArray × ByteArray × Int × Int × Int × Int × Int × Int × Int × Int × Int × (List WT3) × Unit)) → (Int)) (g69 : (List Int) → (Int)) (g70 : WT6 → WT6 → (Bool)) (g73 : Int → (Bool)) (g107 : Int → Option (ByteArray × Unit)) (g127 : WT3 → Int → (Int)) (g129 : ByteArray → Int → Option (ByteArray × Unit)) (k : Nat) (x0 : (ByteArray × ByteArray × ByteArray × ByteArray × Int × Int × Int × Int × Int × Int × Int × Int × Int × (List WT3) × Unit)) (x1 : (ByteArray × ByteArray × ByteArray × ByteArray × Int × Int × Int × Int × Int × Int × Int × Int × Int × (List WT3) × Unit)) : Option ((List Int) × Int × Unit) :=
  bif ((g69 ([(g17 ([x0])), (g17 ([x1]))])) != (0 : Int)) then
    some ([], (g69 ([(g17 ([x0])), (g17 ([x1]))])), ())
  else
    bif (!(sEq x0.2.1 x1.2.1)) then
      some ([], (0 : Int), ())
    else
      bif (!(sEq x0.2.2.1 x1.2.2.1)) then
        some ([], (0 : Int), ())
      else
        bif (!(sEq x0.2.2.2.1 x1.2.2.2.1)) then
          some ([], (0 : Int), ())
        else
          Option.bind (α := ((List Int) × Int × Unit) ⊕ (((List Int) × Unit) × ((ByteArray × ByteArray × ByteArray × ByteArray × Int × Int × Int × Int × Int × Int × Int × Int × Int × (List WT3) × Unit) × (ByteArray × ByteArray × ByteArray × ByteArray × Int × Int × Int × Int × Int × Int × Int × Int × Int × (List WT3) × Unit) × Unit))) (iter (σ := ((List Int) × Int × Unit) × ((ByteArray × ByteArray × ByteArray × ByteArray × Int × Int × Int × Int × Int × Int × Int × Int × Int × (List WT3) × Unit) × (ByteArray × ByteArray × ByteArray × ByteArray × Int × Int × Int × Int × Int × Int × Int × Int × Int × (List WT3) × Unit) × Unit)) (τ := ((List Int) × Int × Unit) ⊕ (((List Int) × Unit) × ((ByteArray × ByteArray × ByteArray × ByteArray × Int × Int × Int × Int × Int × Int × Int × Int × Int × (List WT3) × Unit) × (ByteArray × ByteArray × ByteArray × ByteArray × Int × Int × Int × Int × Int × Int × Int × Int × Int × (List WT3) × Unit) × Unit))) k (fun y1 =>
              bif (decide (y1.1.2.1 ≤ (if (decide (y1.2.2.1.2.2.2.2.2.1 < y1.2.1.2.2.2.2.2.1)) then y1.2.2.1.2.2.2.2.2.1 else y1.2.1.2.2.2.2.2.1))) then
                Option.bind (α := ((((List Int) × Int × Unit) × ((ByteArray × ByteArray × ByteArray × ByteArray × Int × Int × Int × Int × Int × Int × Int × Int × Int × (List WT3) × Unit) × (ByteArray × ByteArray × ByteArray × ByteArray × Int × Int × Int × Int × Int × Int × Int × Int × Int × (List WT3) × Unit) × Unit)) ⊕ (((List Int) × Int × Unit) ⊕ (((List Int) × Unit) × ((ByteArray × ByteArray × ByteArray × ByteArray × Int × Int × Int × Int × Int × Int × Int × Int × Int × (List WT3) × Unit) × (ByteArray × ByteArray × ByteArray × ByteArray × Int × Int × Int × Int × Int × Int × Int × Int × Int × (List WT3) × Unit) × Unit)))) ⊕ (WT7 × ((ByteArray × ByteArray × ByteArray × ByteArray × Int × Int × Int × Int × Int × Int × Int × Int × Int × (List WT3) × Unit) × Unit))) (
                    bif decide (y1.2.1.2.2.2.2.2.2.1 = 0) then
                      none
                    else
                      bif ((Int.tmod (IntKind.i64.wrap ((IntKind.i64.wrap (Int.tdiv y1.1.2.1 (7 : Int))) - (IntKind.i64.wrap (Int.tdiv y1.2.1.2.2.2.2.1 (7 : Int))))) y1.2.1.2.2.2.2.2.2.1) != (0 : Int)) then
                        some (.inr (zWT7, ((y1.2.1.1, y1.2.1.2.1, y1.2.1.2.2.1, y1.2.1.2.2.2.1, y1.2.1.2.2.2.2.1, y1.2.1.2.2.2.2.2.1, y1.2.1.2.2.2.2.2.2.1, y1.2.1.2.2.2.2.2.2.2.1, y1.2.1.2.2.2.2.2.2.2.2.1, y1.2.1.2.2.2.2.2.2.2.2.2.1, y1.2.1.2.2.2.2.2.2.2.2.2.2.1, y1.2.1.2.2.2.2.2.2.2.2.2.2.2.1, y1.2.1.2.2.2.2.2.2.2.2.2.2.2.2.1, y1.2.1.2.2.2.2.2.2.2.2.2.2.2.2.2.1, ()), ())))
                      else
                        bif decide (0 ≤ (Int.tmod y1.1.2.1 (7 : Int))) then
                          bif ((iand .i64 (Int.fdiv y1.2.1.2.2.2.2.2.2.2.1 ((2 : Int) ^ (min (Int.toNat (Int.tmod y1.1.2.1 (7 : Int))) 64))) (1 : Int)) == (0 : Int)) then
                            some (.inr (zWT7, ((y1.2.1.1, y1.2.1.2.1, y1.2.1.2.2.1, y1.2.1.2.2.2.1, y1.2.1.2.2.2.2.1, y1.2.1.2.2.2.2.2.1, y1.2.1.2.2.2.2.2.2.1, y1.2.1.2.2.2.2.2.2.2.1, y1.2.1.2.2.2.2.2.2.2.2.1, y1.2.1.2.2.2.2.2.2.2.2.2.1, y1.2.1.2.2.2.2.2.2.2.2.2.2.1, y1.2.1.2.2.2.2.2.2.2.2.2.2.2.1, y1.2.1.2.2.2.2.2.2.2.2.2.2.2.2.1, y1.2.1.2.2.2.2.2.2.2.2.2.2.2.2.2.1, ()), ())))
                          else
                            Option.bind (α := (((((List Int) × Int × Unit) × ((ByteArray × ByteArray × ByteArray × ByteArray × Int × Int × Int × Int × Int × Int × Int × Int × Int × (List WT3) × Unit) × (ByteArray × ByteArray × ByteArray × ByteArray × Int × Int × Int × Int × Int × Int × Int × Int × Int × (List WT3) × Unit) × Unit)) ⊕ (((List Int) × Int × Unit) ⊕ (((List Int) × Unit) × ((ByteArray × ByteArray × ByteArray × ByteArray × Int × Int × Int × Int × Int × Int × Int × Int × Int × (List WT3) × Unit) × (ByteArray × ByteArray × ByteArray × ByteArray × Int × Int × Int × Int × Int × Int × Int × Int × Int × (List WT3) × Unit) × Unit)))) ⊕ (WT7 × ((ByteArray × ByteArray × ByteArray × ByteArray × Int × Int × Int × Int × Int × Int × Int × Int × Int × (List WT3) × Unit) × Unit))) ⊕ (WT1 × (Unit))) (
                                Option.bind (α := ((((((List Int) × Int × Unit) × ((ByteArray × ByteArray × ByteArray × ByteArray × Int × Int × Int × Int × Int × Int × Int × Int × Int × (List WT3) × Unit) × (ByteArray × ByteArray × ByteArray × ByteArray × Int × Int × Int × Int × Int × Int × Int × Int × Int × (List WT3) × Unit) × Unit)) ⊕ (((List Int) × Int × Unit) ⊕ (((List Int) × Unit) × ((ByteArray × ByteArray × ByteArray × ByteArray × Int × Int × Int × Int × Int × Int × Int × Int × Int × (List WT3) × Unit) × (ByteArray × ByteArray × ByteArray × ByteArray × Int × Int × Int × Int × Int × Int × Int × Int × Int × (List WT3) × Unit) × Unit)))) ⊕ (WT7 × ((ByteArray × ByteArray × ByteArray × ByteArray × Int × Int × Int × Int × Int × Int × Int × Int × Int × (List WT3) × Unit) × Unit))) ⊕ (WT1 × (Unit))) ⊕ ((Int × Unit) × (Unit))) (iter (σ := WT0 × (Unit)) (τ := ((((((List Int) × Int × Unit) × ((ByteArray × ByteArray × ByteArray × ByteArray × Int × Int × Int × Int × Int × Int × Int × Int × Int × (List WT3) × Unit) × (ByteArray × ByteArray × ByteArray × ByteArray × Int × Int × Int × Int × Int × Int × Int × Int × Int × (List WT3) × Unit) × Unit)) ⊕ (((List Int) × Int × Unit) ⊕ (((List Int) × Unit) × ((ByteArray × ByteArray × ByteArray × ByteArray × Int × Int × Int × Int × Int × Int × Int × Int × Int × (List WT3) × Unit) × (ByteArray × ByteArray × ByteArray × ByteArray × Int × Int × Int × Int × Int × Int × Int × Int × Int × (List WT3) × Unit) × Unit)))) ⊕ (WT7 × ((ByteArray × ByteArray × ByteArray × ByteArray × Int × Int × Int × Int × Int × Int × Int × Int × Int × (List WT3) × Unit) × Unit))) ⊕ (WT1 × (Unit))) ⊕ ((Int × Unit) × (Unit))) k (fun y2 =>
                                    bif (decide (y2.1.1 < y2.1.2.1)) then
                                      bif (inR (IntKind.i64.wrap (Int.fdiv (IntKind.u64.wrap (IntKind.i64.wrap (y2.1.1 + y2.1.2.1))) (2 : Int))) ((List.length y1.2.1.2.2.2.2.2.2.2.2.2.2.2.2.2.1 : Nat) : Int)) then
                                        bif (decide ((g127 (rd (α := WT3) zWT3 y1.2.1.2.2.2.2.2.2.2.2.2.2.2.2.2.1 (IntKind.i64.wrap (Int.fdiv (IntKind.u64.wrap (IntKind.i64.wrap (y2.1.1 + y2.1.2.1))) (2 : Int)))) y1.1.2.1) < (0 : Int))) then
                                          some (.inl (((IntKind.i64.wrap ((IntKind.i64.wrap (Int.fdiv (IntKind.u64.wrap (IntKind.i64.wrap (y2.1.1 + y2.1.2.1))) (2 : Int))) + (1 : Int))), y2.1.2.1, ()), ()))
                                        else
                                          some (.inl ((y2.1.1, (IntKind.i64.wrap (Int.fdiv (IntKind.u64.wrap (IntKind.i64.wrap (y2.1.1 + y2.1.2.1))) (2 : Int))), ()), ()))
                                      else
                                        none
                                    else
                                      some (.inr (.inr ((y2.1.1, ()), ())))) (((0 : Int), ((List.length y1.2.1.2.2.2.2.2.2.2.2.2.2.2.2.2.1 : Nat) : Int), ()), ())) fun r => match r with
                                | .inl z => some z
                                | .inr z3 =>
                                  bif (decide (z3.1.1 < ((List.length y1.2.1.2.2.2.2.2.2.2.2.2.2.2.2.2.1 : Nat) : Int))) then
                                    bif (inR z3.1.1 ((List.length y1.2.1.2.2.2.2.2.2.2.2.2.2.2.2.2.1 : Nat) : Int)) then
                                      some (.inr ((z3.1.1, ((g127 (rd (α := WT3) zWT3 y1.2.1.2.2.2.2.2.2.2.2.2.2.2.2.2.1 z3.1.1) y1.1.2.1) == (0 : Int)), ()), ()))
                                    else
                                      none
                                  else
                                    some (.inr ((z3.1.1, false, ()), ()))) fun r => match r with
                            | .inl z => some z
                            | .inr y4 =>
                              Option.bind (α := (((((List Int) × Int × Unit) × ((ByteArray × ByteArray × ByteArray × ByteArray × Int × Int × Int × Int × Int × Int × Int × Int × Int × (List WT3) × Unit) × (ByteArray × ByteArray × ByteArray × ByteArray × Int × Int × Int × Int × Int × Int × Int × Int × Int × (List WT3) × Unit) × Unit)) ⊕ (((List Int) × Int × Unit) ⊕ (((List Int) × Unit) × ((ByteArray × ByteArray × ByteArray × ByteArray × Int × Int × Int × Int × Int × Int × Int × Int × Int × (List WT3) × Unit) × (ByteArray × ByteArray × ByteArray × ByteArray × Int × Int × Int × Int × Int × Int × Int × Int × Int × (List WT3) × Unit) × Unit)))) ⊕ (WT7 × ((ByteArray × ByteArray × ByteArray × ByteArray × Int × Int × Int × Int × Int × Int × Int × Int × Int × (List WT3) × Unit) × Unit))) ⊕ ((Unit) × (Int × Unit))) (
                                  bif y4.1.2.1 then
                                    bif (inR y4.1.1 ((List.length y1.2.1.2.2.2.2.2.2.2.2.2.2.2.2.2.1 : Nat) : Int)) then
                                      bif (rd (α := WT3) zWT3 y1.2.1.2.2.2.2.2.2.2.2.2.2.2.2.2.1 y4.1.1).2.1 then
                                        some (.inl (.inr (zWT7, ((y1.2.1.1, y1.2.1.2.1, y1.2.1.2.2.1, y1.2.1.2.2.2.1, y1.2.1.2.2.2.2.1, y1.2.1.2.2.2.2.2.1, y1.2.1.2.2.2.2.2.2.1, y1.2.1.2.2.2.2.2.2.2.1, y1.2.1.2.2.2.2.2.2.2.2.1, y1.2.1.2.2.2.2.2.2.2.2.2.1, y1.2.1.2.2.2.2.2.2.2.2.2.2.1, y1.2.1.2.2.2.2.2.2.2.2.2.2.2.1, y1.2.1.2.2.2.2.2.2.2.2.2.2.2.2.1, y1.2.1.2.2.2.2.2.2.2.2.2.2.2.2.2.1, ()), ()))))
                                      else
                                        bif (inR y4.1.1 ((List.length y1.2.1.2.2.2.2.2.2.2.2.2.2.2.2.2.1 : Nat) : Int)) then
                                          some (.inr ((), ((rd (α := WT3) zWT3 y1.2.1.2.2.2.2.2.2.2.2.2.2.2.2.2.1 y4.1.1).2.2.1, ())))
                                        else
                                          none
                                    else
                                      none
                                  else
                                    some (.inr ((), ((0 : Int), ())))) fun r => match r with
                              | .inl z => some z
                              | .inr y5 =>
                                Option.bind (g107 y1.1.2.1) fun v6 =>
                                bif decide (ByteArray.size y1.2.1.1 + ByteArray.size (ByteArray.mk #[45]) < 4611686018427387904) then
                                  Option.bind (g129 (ByteArray.mk #[48]) (IntKind.i64.wrap ((4 : Int) - ((ByteArray.size v6.1 : Nat) : Int)))) fun v7 =>
                                  bif decide (ByteArray.size (y1.2.1.1 ++ (ByteArray.mk #[45])) + ByteArray.size v7.1 < 4611686018427387904) then
                                    bif decide (ByteArray.size ((y1.2.1.1 ++ (ByteArray.mk #[45])) ++ v7.1) + ByteArray.size v6.1 < 4611686018427387904) then
                                      bif (g73 (IntKind.i64.wrap ((IntKind.i64.wrap (y1.1.2.1 * (86400000 : Int))) + (IntKind.i64.wrap ((IntKind.i64.wrap ((IntKind.i64.wrap (y1.2.1.2.2.2.2.2.2.2.2.1 - y1.2.1.2.2.2.2.2.2.2.2.2.2.1)) + y5.2.1)) * (60000 : Int)))))) then
                                        some (.inr ((((((y1.2.1.1 ++ (ByteArray.mk #[45])) ++ v7.1) ++ v6.1), y1.2.1.2.1, y1.2.1.2.2.1, y1.2.1.2.2.2.1, (IntKind.i64.wrap ((IntKind.i64.wrap (y1.1.2.1 * (86400000 : Int))) + (IntKind.i64.wrap ((IntKind.i64.wrap ((IntKind.i64.wrap (y1.2.1.2.2.2.2.2.2.2.2.1 - y1.2.1.2.2.2.2.2.2.2.2.2.2.1)) + y5.2.1)) * (60000 : Int))))), (IntKind.i64.wrap ((IntKind.i64.wrap (y1.1.2.1 * (86400000 : Int))) + (IntKind.i64.wrap ((IntKind.i64.wrap ((IntKind.i64.wrap (y1.2.1.2.2.2.2.2.2.2.2.2.1 - y1.2.1.2.2.2.2.2.2.2.2.2.2.1)) + y5.2.1)) * (60000 : Int))))), y1.2.1.2.2.2.2.2.2.2.2.2.2.2.1, y1.2.1.2.2.2.2.2.2.2.2.2.2.2.2.1, ()), (decide ((IntKind.i64.wrap ((IntKind.i64.wrap (y1.1.2.1 * (86400000 : Int))) + (IntKind.i64.wrap ((IntKind.i64.wrap ((IntKind.i64.wrap (y1.2.1.2.2.2.2.2.2.2.2.2.1 - y1.2.1.2.2.2.2.2.2.2.2.2.2.1)) + y5.2.1)) * (60000 : Int))))) ≤ (345686400000 : Int))), ()), ((y1.2.1.1, y1.2.1.2.1, y1.2.1.2.2.1, y1.2.1.2.2.2.1, y1.2.1.2.2.2.2.1, y1.2.1.2.2.2.2.2.1, y1.2.1.2.2.2.2.2.2.1, y1.2.1.2.2.2.2.2.2.2.1, y1.2.1.2.2.2.2.2.2.2.2.1, y1.2.1.2.2.2.2.2.2.2.2.2.1, y1.2.1.2.2.2.2.2.2.2.2.2.2.1, y1.2.1.2.2.2.2.2.2.2.2.2.2.2.1, y1.2.1.2.2.2.2.2.2.2.2.2.2.2.2.1, y1.2.1.2.2.2.2.2.2.2.2.2.2.2.2.2.1, ()), ())))
                                      else
                                        some (.inr ((((((y1.2.1.1 ++ (ByteArray.mk #[45])) ++ v7.1) ++ v6.1), y1.2.1.2.1, y1.2.1.2.2.1, y1.2.1.2.2.2.1, (IntKind.i64.wrap ((IntKind.i64.wrap (y1.1.2.1 * (86400000 : Int))) + (IntKind.i64.wrap ((IntKind.i64.wrap ((IntKind.i64.wrap (y1.2.1.2.2.2.2.2.2.2.2.1 - y1.2.1.2.2.2.2.2.2.2.2.2.2.1)) + y5.2.1)) * (60000 : Int))))), (IntKind.i64.wrap ((IntKind.i64.wrap (y1.1.2.1 * (86400000 : Int))) + (IntKind.i64.wrap ((IntKind.i64.wrap ((IntKind.i64.wrap (y1.2.1.2.2.2.2.2.2.2.2.2.1 - y1.2.1.2.2.2.2.2.2.2.2.2.2.1)) + y5.2.1)) * (60000 : Int))))), y1.2.1.2.2.2.2.2.2.2.2.2.2.2.1, y1.2.1.2.2.2.2.2.2.2.2.2.2.2.2.1, ()), false, ()), ((y1.2.1.1, y1.2.1.2.1, y1.2.1.2.2.1, y1.2.1.2.2.2.1, y1.2.1.2.2.2.2.1, y1.2.1.2.2.2.2.2.1, y1.2.1.2.2.2.2.2.2.1, y1.2.1.2.2.2.2.2.2.2.1, y1.2.1.2.2.2.2.2.2.2.2.1, y1.2.1.2.2.2.2.2.2.2.2.2.1, y1.2.1.2.2.2.2.2.2.2.2.2.2.1, y1.2.1.2.2.2.2.2.2.2.2.2.2.2.1, y1.2.1.2.2.2.2.2.2.2.2.2.2.2.2.1, y1.2.1.2.2.2.2.2.2.2.2.2.2.2.2.2.1, ()), ())))
                                    else
                                      none
                                  else
                                    none
                                else
                                  none
                        else
                          none) fun r => match r with
                | .inl z => some z
                | .inr y8 =>
                  Option.bind (α := ((((List Int) × Int × Unit) × ((ByteArray × ByteArray × ByteArray × ByteArray × Int × Int × Int × Int × Int × Int × Int × Int × Int × (List WT3) × Unit) × (ByteArray × ByteArray × ByteArray × ByteArray × Int × Int × Int × Int × Int × Int × Int × Int × Int × (List WT3) × Unit) × Unit)) ⊕ (((List Int) × Int × Unit) ⊕ (((List Int) × Unit) × ((ByteArray × ByteArray × ByteArray × ByteArray × Int × Int × Int × Int × Int × Int × Int × Int × Int × (List WT3) × Unit) × (ByteArray × ByteArray × ByteArray × ByteArray × Int × Int × Int × Int × Int × Int × Int × Int × Int × (List WT3) × Unit) × Unit)))) ⊕ (WT7 × ((ByteArray × ByteArray × ByteArray × ByteArray × Int × Int × Int × Int × Int × Int × Int × Int × Int × (List WT3) × Unit) × Unit))) (
                      bif decide (y1.2.2.1.2.2.2.2.2.2.1 = 0) then
                        none
                      else
                        bif ((Int.tmod (IntKind.i64.wrap ((IntKind.i64.wrap (Int.tdiv y1.1.2.1 (7 : Int))) - (IntKind.i64.wrap (Int.tdiv y1.2.2.1.2.2.2.2.1 (7 : Int))))) y1.2.2.1.2.2.2.2.2.2.1) != (0 : Int)) then
                          some (.inr (zWT7, ((y1.2.2.1.1, y1.2.2.1.2.1, y1.2.2.1.2.2.1, y1.2.2.1.2.2.2.1, y1.2.2.1.2.2.2.2.1, y1.2.2.1.2.2.2.2.2.1, y1.2.2.1.2.2.2.2.2.2.1, y1.2.2.1.2.2.2.2.2.2.2.1, y1.2.2.1.2.2.2.2.2.2.2.2.1, y1.2.2.1.2.2.2.2.2.2.2.2.2.1, y1.2.2.1.2.2.2.2.2.2.2.2.2.2.1, y1.2.2.1.2.2.2.2.2.2.2.2.2.2.2.1, y1.2.2.1.2.2.2.2.2.2.2.2.2.2.2.2.1, y1.2.2.1.2.2.2.2.2.2.2.2.2.2.2.2.2.1, ()), ())))
                        else
                          bif decide (0 ≤ (Int.tmod y1.1.2.1 (7 : Int))) then
                            bif ((iand .i64 (Int.fdiv y1.2.2.1.2.2.2.2.2.2.2.1 ((2 : Int) ^ (min (Int.toNat (Int.tmod y1.1.2.1 (7 : Int))) 64))) (1 : Int)) == (0 : Int)) then
                              some (.inr (zWT7, ((y1.2.2.1.1, y1.2.2.1.2.1, y1.2.2.1.2.2.1, y1.2.2.1.2.2.2.1, y1.2.2.1.2.2.2.2.1, y1.2.2.1.2.2.2.2.2.1, y1.2.2.1.2.2.2.2.2.2.1, y1.2.2.1.2.2.2.2.2.2.2.1, y1.2.2.1.2.2.2.2.2.2.2.2.1, y1.2.2.1.2.2.2.2.2.2.2.2.2.1, y1.2.2.1.2.2.2.2.2.2.2.2.2.2.1, y1.2.2.1.2.2.2.2.2.2.2.2.2.2.2.1, y1.2.2.1.2.2.2.2.2.2.2.2.2.2.2.2.1, y1.2.2.1.2.2.2.2.2.2.2.2.2.2.2.2.2.1, ()), ())))
                            else
                              Option.bind (α := (((((List Int) × Int × Unit) × ((ByteArray × ByteArray × ByteArray × ByteArray × Int × Int × Int × Int × Int × Int × Int × Int × Int × (List WT3) × Unit) × (ByteArray × ByteArray × ByteArray × ByteArray × Int × Int × Int × Int × Int × Int × Int × Int × Int × (List WT3) × Unit) × Unit)) ⊕ (((List Int) × Int × Unit) ⊕ (((List Int) × Unit) × ((ByteArray × ByteArray × ByteArray × ByteArray × Int × Int × Int × Int × Int × Int × Int × Int × Int × (List WT3) × Unit) × (ByteArray × ByteArray × ByteArray × ByteArray × Int × Int × Int × Int × Int × Int × Int × Int × Int × (List WT3) × Unit) × Unit)))) ⊕ (WT7 × ((ByteArray × ByteArray × ByteArray × ByteArray × Int × Int × Int × Int × Int × Int × Int × Int × Int × (List WT3) × Unit) × Unit))) ⊕ (WT1 × (Unit))) (
                                  Option.bind (α := ((((((List Int) × Int × Unit) × ((ByteArray × ByteArray × ByteArray × ByteArray × Int × Int × Int × Int × Int × Int × Int × Int × Int × (List WT3) × Unit) × (ByteArray × ByteArray × ByteArray × ByteArray × Int × Int × Int × Int × Int × Int × Int × Int × Int × (List WT3) × Unit) × Unit)) ⊕ (((List Int) × Int × Unit) ⊕ (((List Int) × Unit) × ((ByteArray × ByteArray × ByteArray × ByteArray × Int × Int × Int × Int × Int × Int × Int × Int × Int × (List WT3) × Unit) × (ByteArray × ByteArray × ByteArray × ByteArray × Int × Int × Int × Int × Int × Int × Int × Int × Int × (List WT3) × Unit) × Unit)))) ⊕ (WT7 × ((ByteArray × ByteArray × ByteArray × ByteArray × Int × Int × Int × Int × Int × Int × Int × Int × Int × (List WT3) × Unit) × Unit))) ⊕ (WT1 × (Unit))) ⊕ ((Int × Unit) × (Unit))) (iter (σ := WT0 × (Unit)) (τ := ((((((List Int) × Int × Unit) × ((ByteArray × ByteArray × ByteArray × ByteArray × Int × Int × Int × Int × Int × Int × Int × Int × Int × (List WT3) × Unit) × (ByteArray × ByteArray × ByteArray × ByteArray × Int × Int × Int × Int × Int × Int × Int × Int × Int × (List WT3) × Unit) × Unit)) ⊕ (((List Int) × Int × Unit) ⊕ (((List Int) × Unit) × ((ByteArray × ByteArray × ByteArray × ByteArray × Int × Int × Int × Int × Int × Int × Int × Int × Int × (List WT3) × Unit) × (ByteArray × ByteArray × ByteArray × ByteArray × Int × Int × Int × Int × Int × Int × Int × Int × Int × (List WT3) × Unit) × Unit)))) ⊕ (WT7 × ((ByteArray × ByteArray × ByteArray × ByteArray × Int × Int × Int × Int × Int × Int × Int × Int × Int × (List WT3) × Unit) × Unit))) ⊕ (WT1 × (Unit))) ⊕ ((Int × Unit) × (Unit))) k (fun y9 =>
                                      bif (decide (y9.1.1 < y9.1.2.1)) then
                                        bif (inR (IntKind.i64.wrap (Int.fdiv (IntKind.u64.wrap (IntKind.i64.wrap (y9.1.1 + y9.1.2.1))) (2 : Int))) ((List.length y1.2.2.1.2.2.2.2.2.2.2.2.2.2.2.2.2.1 : Nat) : Int)) then
                                          bif (decide ((g127 (rd (α := WT3) zWT3 y1.2.2.1.2.2.2.2.2.2.2.2.2.2.2.2.2.1 (IntKind.i64.wrap (Int.fdiv (IntKind.u64.wrap (IntKind.i64.wrap (y9.1.1 + y9.1.2.1))) (2 : Int)))) y1.1.2.1) < (0 : Int))) then
                                            some (.inl (((IntKind.i64.wrap ((IntKind.i64.wrap (Int.fdiv (IntKind.u64.wrap (IntKind.i64.wrap (y9.1.1 + y9.1.2.1))) (2 : Int))) + (1 : Int))), y9.1.2.1, ()), ()))
                                          else
                                            some (.inl ((y9.1.1, (IntKind.i64.wrap (Int.fdiv (IntKind.u64.wrap (IntKind.i64.wrap (y9.1.1 + y9.1.2.1))) (2 : Int))), ()), ()))
                                        else
                                          none
                                      else
                                        some (.inr (.inr ((y9.1.1, ()), ())))) (((0 : Int), ((List.length y1.2.2.1.2.2.2.2.2.2.2.2.2.2.2.2.2.1 : Nat) : Int), ()), ())) fun r => match r with
                                  | .inl z => some z
                                  | .inr z10 =>
                                    bif (decide (z10.1.1 < ((List.length y1.2.2.1.2.2.2.2.2.2.2.2.2.2.2.2.2.1 : Nat) : Int))) then
                                      bif (inR z10.1.1 ((List.length y1.2.2.1.2.2.2.2.2.2.2.2.2.2.2.2.2.1 : Nat) : Int)) then
                                        some (.inr ((z10.1.1, ((g127 (rd (α := WT3) zWT3 y1.2.2.1.2.2.2.2.2.2.2.2.2.2.2.2.2.1 z10.1.1) y1.1.2.1) == (0 : Int)), ()), ()))
                                      else
                                        none
                                    else
                                      some (.inr ((z10.1.1, false, ()), ()))) fun r => match r with
                              | .inl z => some z
                              | .inr y11 =>
                                Option.bind (α := (((((List Int) × Int × Unit) × ((ByteArray × ByteArray × ByteArray × ByteArray × Int × Int × Int × Int × Int × Int × Int × Int × Int × (List WT3) × Unit) × (ByteArray × ByteArray × ByteArray × ByteArray × Int × Int × Int × Int × Int × Int × Int × Int × Int × (List WT3) × Unit) × Unit)) ⊕ (((List Int) × Int × Unit) ⊕ (((List Int) × Unit) × ((ByteArray × ByteArray × ByteArray × ByteArray × Int × Int × Int × Int × Int × Int × Int × Int × Int × (List WT3) × Unit) × (ByteArray × ByteArray × ByteArray × ByteArray × Int × Int × Int × Int × Int × Int × Int × Int × Int × (List WT3) × Unit) × Unit)))) ⊕ (WT7 × ((ByteArray × ByteArray × ByteArray × ByteArray × Int × Int × Int × Int × Int × Int × Int × Int × Int × (List WT3) × Unit) × Unit))) ⊕ ((Unit) × (Int × Unit))) (
                                    bif y11.1.2.1 then
                                      bif (inR y11.1.1 ((List.length y1.2.2.1.2.2.2.2.2.2.2.2.2.2.2.2.2.1 : Nat) : Int)) then
                                        bif (rd (α := WT3) zWT3 y1.2.2.1.2.2.2.2.2.2.2.2.2.2.2.2.2.1 y11.1.1).2.1 then
                                          some (.inl (.inr (zWT7, ((y1.2.2.1.1, y1.2.2.1.2.1, y1.2.2.1.2.2.1, y1.2.2.1.2.2.2.1, y1.2.2.1.2.2.2.2.1, y1.2.2.1.2.2.2.2.2.1, y1.2.2.1.2.2.2.2.2.2.1, y1.2.2.1.2.2.2.2.2.2.2.1, y1.2.2.1.2.2.2.2.2.2.2.2.1, y1.2.2.1.2.2.2.2.2.2.2.2.2.1, y1.2.2.1.2.2.2.2.2.2.2.2.2.2.1, y1.2.2.1.2.2.2.2.2.2.2.2.2.2.2.1, y1.2.2.1.2.2.2.2.2.2.2.2.2.2.2.2.1, y1.2.2.1.2.2.2.2.2.2.2.2.2.2.2.2.2.1, ()), ()))))
                                        else
                                          bif (inR y11.1.1 ((List.length y1.2.2.1.2.2.2.2.2.2.2.2.2.2.2.2.2.1 : Nat) : Int)) then
                                            some (.inr ((), ((rd (α := WT3) zWT3 y1.2.2.1.2.2.2.2.2.2.2.2.2.2.2.2.2.1 y11.1.1).2.2.1, ())))
                                          else
                                            none
                                      else
                                        none
                                    else
                                      some (.inr ((), ((0 : Int), ())))) fun r => match r with
                                | .inl z => some z
                                | .inr y12 =>
                                  Option.bind (g107 y1.1.2.1) fun v13 =>
                                  bif decide (ByteArray.size y1.2.2.1.1 + ByteArray.size (ByteArray.mk #[45]) < 4611686018427387904) then
                                    Option.bind (g129 (ByteArray.mk #[48]) (IntKind.i64.wrap ((4 : Int) - ((ByteArray.size v13.1 : Nat) : Int)))) fun v14 =>
                                    bif decide (ByteArray.size (y1.2.2.1.1 ++ (ByteArray.mk #[45])) + ByteArray.size v14.1 < 4611686018427387904) then
                                      bif decide (ByteArray.size ((y1.2.2.1.1 ++ (ByteArray.mk #[45])) ++ v14.1) + ByteArray.size v13.1 < 4611686018427387904) then
                                        bif (g73 (IntKind.i64.wrap ((IntKind.i64.wrap (y1.1.2.1 * (86400000 : Int))) + (IntKind.i64.wrap ((IntKind.i64.wrap ((IntKind.i64.wrap (y1.2.2.1.2.2.2.2.2.2.2.2.1 - y1.2.2.1.2.2.2.2.2.2.2.2.2.2.1)) + y12.2.1)) * (60000 : Int)))))) then
                                          some (.inr ((((((y1.2.2.1.1 ++ (ByteArray.mk #[45])) ++ v14.1) ++ v13.1), y1.2.2.1.2.1, y1.2.2.1.2.2.1, y1.2.2.1.2.2.2.1, (IntKind.i64.wrap ((IntKind.i64.wrap (y1.1.2.1 * (86400000 : Int))) + (IntKind.i64.wrap ((IntKind.i64.wrap ((IntKind.i64.wrap (y1.2.2.1.2.2.2.2.2.2.2.2.1 - y1.2.2.1.2.2.2.2.2.2.2.2.2.2.1)) + y12.2.1)) * (60000 : Int))))), (IntKind.i64.wrap ((IntKind.i64.wrap (y1.1.2.1 * (86400000 : Int))) + (IntKind.i64.wrap ((IntKind.i64.wrap ((IntKind.i64.wrap (y1.2.2.1.2.2.2.2.2.2.2.2.2.1 - y1.2.2.1.2.2.2.2.2.2.2.2.2.2.1)) + y12.2.1)) * (60000 : Int))))), y1.2.2.1.2.2.2.2.2.2.2.2.2.2.2.1, y1.2.2.1.2.2.2.2.2.2.2.2.2.2.2.2.1, ()), (decide ((IntKind.i64.wrap ((IntKind.i64.wrap (y1.1.2.1 * (86400000 : Int))) + (IntKind.i64.wrap ((IntKind.i64.wrap ((IntKind.i64.wrap (y1.2.2.1.2.2.2.2.2.2.2.2.2.1 - y1.2.2.1.2.2.2.2.2.2.2.2.2.2.1)) + y12.2.1)) * (60000 : Int))))) ≤ (345686400000 : Int))), ()), ((y1.2.2.1.1, y1.2.2.1.2.1, y1.2.2.1.2.2.1, y1.2.2.1.2.2.2.1, y1.2.2.1.2.2.2.2.1, y1.2.2.1.2.2.2.2.2.1, y1.2.2.1.2.2.2.2.2.2.1, y1.2.2.1.2.2.2.2.2.2.2.1, y1.2.2.1.2.2.2.2.2.2.2.2.1, y1.2.2.1.2.2.2.2.2.2.2.2.2.1, y1.2.2.1.2.2.2.2.2.2.2.2.2.2.1, y1.2.2.1.2.2.2.2.2.2.2.2.2.2.2.1, y1.2.2.1.2.2.2.2.2.2.2.2.2.2.2.2.1, y1.2.2.1.2.2.2.2.2.2.2.2.2.2.2.2.2.1, ()), ())))
                                        else
                                          some (.inr ((((((y1.2.2.1.1 ++ (ByteArray.mk #[45])) ++ v14.1) ++ v13.1), y1.2.2.1.2.1, y1.2.2.1.2.2.1, y1.2.2.1.2.2.2.1, (IntKind.i64.wrap ((IntKind.i64.wrap (y1.1.2.1 * (86400000 : Int))) + (IntKind.i64.wrap ((IntKind.i64.wrap ((IntKind.i64.wrap (y1.2.2.1.2.2.2.2.2.2.2.2.1 - y1.2.2.1.2.2.2.2.2.2.2.2.2.2.1)) + y12.2.1)) * (60000 : Int))))), (IntKind.i64.wrap ((IntKind.i64.wrap (y1.1.2.1 * (86400000 : Int))) + (IntKind.i64.wrap ((IntKind.i64.wrap ((IntKind.i64.wrap (y1.2.2.1.2.2.2.2.2.2.2.2.2.1 - y1.2.2.1.2.2.2.2.2.2.2.2.2.2.1)) + y12.2.1)) * (60000 : Int))))), y1.2.2.1.2.2.2.2.2.2.2.2.2.2.2.1, y1.2.2.1.2.2.2.2.2.2.2.2.2.2.2.2.1, ()), false, ()), ((y1.2.2.1.1, y1.2.2.1.2.1, y1.2.2.1.2.2.1, y1.2.2.1.2.2.2.1, y1.2.2.1.2.2.2.2.1, y1.2.2.1.2.2.2.2.2.1, y1.2.2.1.2.2.2.2.2.2.1, y1.2.2.1.2.2.2.2.2.2.2.1, y1.2.2.1.2.2.2.2.2.2.2.2.1, y1.2.2.1.2.2.2.2.2.2.2.2.2.1, y1.2.2.1.2.2.2.2.2.2.2.2.2.2.1, y1.2.2.1.2.2.2.2.2.2.2.2.2.2.2.1, y1.2.2.1.2.2.2.2.2.2.2.2.2.2.2.2.1, y1.2.2.1.2.2.2.2.2.2.2.2.2.2.2.2.2.1, ()), ())))
                                      else
                                        none
                                    else
                                      none
                                  else
                                    none
                          else
                            none) fun r => match r with
                  | .inl z => some z
                  | .inr y15 =>
                    Option.bind (α := ((((List Int) × Int × Unit) × ((ByteArray × ByteArray × ByteArray × ByteArray × Int × Int × Int × Int × Int × Int × Int × Int × Int × (List WT3) × Unit) × (ByteArray × ByteArray × ByteArray × ByteArray × Int × Int × Int × Int × Int × Int × Int × Int × Int × (List WT3) × Unit) × Unit)) ⊕ (((List Int) × Int × Unit) ⊕ (((List Int) × Unit) × ((ByteArray × ByteArray × ByteArray × ByteArray × Int × Int × Int × Int × Int × Int × Int × Int × Int × (List WT3) × Unit) × (ByteArray × ByteArray × ByteArray × ByteArray × Int × Int × Int × Int × Int × Int × Int × Int × Int × (List WT3) × Unit) × Unit)))) ⊕ ((Bool × Unit) × (Unit))) (
                        bif y8.1.2.1 then
                          bif y15.1.2.1 then
                            some (.inr (((g70 (y8.1.1.1, y8.1.1.2.1, y8.1.1.2.2.1, y8.1.1.2.2.2.1, y8.1.1.2.2.2.2.1, y8.1.1.2.2.2.2.2.1, y8.1.1.2.2.2.2.2.2.1, y8.1.1.2.2.2.2.2.2.2.1, ()) (y15.1.1.1, y15.1.1.2.1, y15.1.1.2.2.1, y15.1.1.2.2.2.1, y15.1.1.2.2.2.2.1, y15.1.1.2.2.2.2.2.1, y15.1.1.2.2.2.2.2.2.1, y15.1.1.2.2.2.2.2.2.2.1, ())), ()), ()))
                          else
                            some (.inr ((false, ()), ()))
                        else
                          some (.inr ((false, ()), ()))) fun r => match r with
                    | .inl z => some z
                    | .inr y16 =>
                      bif y16.1.1 then
                        bif decide (List.length y1.1.1 + List.length ([y1.1.2.1]) ≤ 4294967296) then
                          some (.inl (((y1.1.1 ++ [y1.1.2.1]), (IntKind.i64.wrap (y1.1.2.1 + (1 : Int))), ()), ((y8.2.1.1, y8.2.1.2.1, y8.2.1.2.2.1, y8.2.1.2.2.2.1, y8.2.1.2.2.2.2.1, y8.2.1.2.2.2.2.2.1, y8.2.1.2.2.2.2.2.2.1, y8.2.1.2.2.2.2.2.2.2.1, y8.2.1.2.2.2.2.2.2.2.2.1, y8.2.1.2.2.2.2.2.2.2.2.2.1, y8.2.1.2.2.2.2.2.2.2.2.2.2.1, y8.2.1.2.2.2.2.2.2.2.2.2.2.2.1, y8.2.1.2.2.2.2.2.2.2.2.2.2.2.2.1, y8.2.1.2.2.2.2.2.2.2.2.2.2.2.2.2.1, ()), (y15.2.1.1, y15.2.1.2.1, y15.2.1.2.2.1, y15.2.1.2.2.2.1, y15.2.1.2.2.2.2.1, y15.2.1.2.2.2.2.2.1, y15.2.1.2.2.2.2.2.2.1, y15.2.1.2.2.2.2.2.2.2.1, y15.2.1.2.2.2.2.2.2.2.2.1, y15.2.1.2.2.2.2.2.2.2.2.2.1, y15.2.1.2.2.2.2.2.2.2.2.2.2.1, y15.2.1.2.2.2.2.2.2.2.2.2.2.2.1, y15.2.1.2.2.2.2.2.2.2.2.2.2.2.2.1, y15.2.1.2.2.2.2.2.2.2.2.2.2.2.2.2.1, ()), ())))
                        else
                          none
                      else
                        some (.inl ((y1.1.1, (IntKind.i64.wrap (y1.1.2.1 + (1 : Int))), ()), ((y8.2.1.1, y8.2.1.2.1, y8.2.1.2.2.1, y8.2.1.2.2.2.1, y8.2.1.2.2.2.2.1, y8.2.1.2.2.2.2.2.1, y8.2.1.2.2.2.2.2.2.1, y8.2.1.2.2.2.2.2.2.2.1, y8.2.1.2.2.2.2.2.2.2.2.1, y8.2.1.2.2.2.2.2.2.2.2.2.1, y8.2.1.2.2.2.2.2.2.2.2.2.2.1, y8.2.1.2.2.2.2.2.2.2.2.2.2.2.1, y8.2.1.2.2.2.2.2.2.2.2.2.2.2.2.1, y8.2.1.2.2.2.2.2.2.2.2.2.2.2.2.2.1, ()), (y15.2.1.1, y15.2.1.2.1, y15.2.1.2.2.1, y15.2.1.2.2.2.1, y15.2.1.2.2.2.2.1, y15.2.1.2.2.2.2.2.1, y15.2.1.2.2.2.2.2.2.1, y15.2.1.2.2.2.2.2.2.2.1, y15.2.1.2.2.2.2.2.2.2.2.1, y15.2.1.2.2.2.2.2.2.2.2.2.1, y15.2.1.2.2.2.2.2.2.2.2.2.2.1, y15.2.1.2.2.2.2.2.2.2.2.2.2.2.1, y15.2.1.2.2.2.2.2.2.2.2.2.2.2.2.1, y15.2.1.2.2.2.2.2.2.2.2.2.2.2.2.2.1, ()), ())))
              else
                some (.inr (.inr ((y1.1.1, ()), ((y1.2.1.1, y1.2.1.2.1, y1.2.1.2.2.1, y1.2.1.2.2.2.1, y1.2.1.2.2.2.2.1, y1.2.1.2.2.2.2.2.1, y1.2.1.2.2.2.2.2.2.1, y1.2.1.2.2.2.2.2.2.2.1, y1.2.1.2.2.2.2.2.2.2.2.1, y1.2.1.2.2.2.2.2.2.2.2.2.1, y1.2.1.2.2.2.2.2.2.2.2.2.2.1, y1.2.1.2.2.2.2.2.2.2.2.2.2.2.1, y1.2.1.2.2.2.2.2.2.2.2.2.2.2.2.1, y1.2.1.2.2.2.2.2.2.2.2.2.2.2.2.2.1, ()), (y1.2.2.1.1, y1.2.2.1.2.1, y1.2.2.1.2.2.1, y1.2.2.1.2.2.2.1, y1.2.2.1.2.2.2.2.1, y1.2.2.1.2.2.2.2.2.1, y1.2.2.1.2.2.2.2.2.2.1, y1.2.2.1.2.2.2.2.2.2.2.1, y1.2.2.1.2.2.2.2.2.2.2.2.1, y1.2.2.1.2.2.2.2.2.2.2.2.2.1, y1.2.2.1.2.2.2.2.2.2.2.2.2.2.1, y1.2.2.1.2.2.2.2.2.2.2.2.2.2.2.1, y1.2.2.1.2.2.2.2.2.2.2.2.2.2.2.2.1, y1.2.2.1.2.2.2.2.2.2.2.2.2.2.2.2.2.1, ()), ()))))) (([], (if (decide (x1.2.2.2.2.1 > x0.2.2.2.2.1)) then x1.2.2.2.2.1 else x0.2.2.2.2.1), ()), (x0, x1, ()))) fun r => match r with
          | .inl z => some z
          | .inr z17 =>
            some (z17.1.1, (0 : Int), ())
def H10 : Hints where
  loop := fun n => match n with
    | 0 => some ({ slots := [(7, (.row (.int .i64))), (8, (.int .i64))], objs := [(0, (.box (.data WY4) (.agg (.cons .str (.cons .str (.cons .str (.cons .str (.cons (.int .i64) (.cons (.int .i64) (.cons (.int .i64) (.cons (.int .i64) (.cons (.int .i64) (.cons (.int .i64) (.cons (.int .i64) (.cons (.int .i64) (.cons (.int .i64) (.cons (.sl WY2) .nil))))))))))))))))), (1, (.box (.data WY4) (.agg (.cons .str (.cons .str (.cons .str (.cons .str (.cons (.int .i64) (.cons (.int .i64) (.cons (.int .i64) (.cons (.int .i64) (.cons (.int .i64) (.cons (.int .i64) (.cons (.int .i64) (.cons (.int .i64) (.cons (.int .i64) (.cons (.sl WY2) .nil)))))))))))))))))], gone := [] }, 0, { slots := [(7, (.row (.int .i64)))], objs := [(0, (.box (.data WY4) (.agg (.cons .str (.cons .str (.cons .str (.cons .str (.cons (.int .i64) (.cons (.int .i64) (.cons (.int .i64) (.cons (.int .i64) (.cons (.int .i64) (.cons (.int .i64) (.cons (.int .i64) (.cons (.int .i64) (.cons (.int .i64) (.cons (.sl WY2) .nil))))))))))))))))), (1, (.box (.data WY4) (.agg (.cons .str (.cons .str (.cons .str (.cons .str (.cons (.int .i64) (.cons (.int .i64) (.cons (.int .i64) (.cons (.int .i64) (.cons (.int .i64) (.cons (.int .i64) (.cons (.int .i64) (.cons (.int .i64) (.cons (.int .i64) (.cons (.sl WY2) .nil)))))))))))))))))], gone := [] })
    | _ => none
  region := fun n => match n with
    | 10 => some { slots := [(9, (.box (.data WY3) (.agg (.cons .str (.cons .str (.cons .str (.cons .str (.cons (.int .i64) (.cons (.int .i64) (.cons (.int .i64) (.cons (.int .i64) .nil))))))))))), (10, .bool)], objs := [(0, (.box (.data WY4) (.agg (.cons .str (.cons .str (.cons .str (.cons .str (.cons (.int .i64) (.cons (.int .i64) (.cons (.int .i64) (.cons (.int .i64) (.cons (.int .i64) (.cons (.int .i64) (.cons (.int .i64) (.cons (.int .i64) (.cons (.int .i64) (.cons (.sl WY2) .nil)))))))))))))))))], gone := [] }
    | 11 => some { slots := [(11, (.box (.data WY3) (.agg (.cons .str (.cons .str (.cons .str (.cons .str (.cons (.int .i64) (.cons (.int .i64) (.cons (.int .i64) (.cons (.int .i64) .nil))))))))))), (12, .bool)], objs := [(1, (.box (.data WY4) (.agg (.cons .str (.cons .str (.cons .str (.cons .str (.cons (.int .i64) (.cons (.int .i64) (.cons (.int .i64) (.cons (.int .i64) (.cons (.int .i64) (.cons (.int .i64) (.cons (.int .i64) (.cons (.int .i64) (.cons (.int .i64) (.cons (.sl WY2) .nil)))))))))))))))))], gone := [] }
    | 12 => some { slots := [(75, .bool)], objs := [], gone := [] }
    | _ => none
  cond := fun n => match n with
    | _ => none
  block := fun n => match n with
    | _ => none
def Hi10_126 : Hints where
  loop := fun n => match n with
    | 0 => some ({ slots := [(9, (.int .i64)), (10, (.int .i64))], objs := [], gone := [] }, 0, { slots := [(9, (.int .i64))], objs := [], gone := [] })
    | _ => none
  region := fun n => match n with
    | _ => none
  cond := fun n => match n with
    | _ => none
  block := fun n => match n with
    | _ => none
def tsi10_126 : List (Nat × TD) := [(3, (.data (.int .i64))), (26, (.data (.slice WY2))), (117, (.data WY2)), (190, (.data (.int .u64)))]
noncomputable def bodyi10_126 : Code := match Tryz.f126.body with | some c => c | none => .skip
noncomputable def fsi10_126 (g17 : (List (ByteArray × ByteArray × ByteArray × ByteArray × Int × Int × Int × Int × Int × Int × Int × Int × Int × (List WT3) × Unit)) → (Int)) (g69 : (List Int) → (Int)) (g70 : WT6 → WT6 → (Bool)) (g73 : Int → (Bool)) (g107 : Int → Option (ByteArray × Unit)) (g127 : WT3 → Int → (Int)) (g129 : ByteArray → Int → Option (ByteArray × Unit)) (k : Nat) : List (Nat × FSem) := [(127, .fn (.cons WY2 (.cons (.int .i64) .nil)) (.cons (.int .i64) .nil) fun x => ((g127 x.1 x.2.1), ()))]
theorem tyi10_126 : chkTypes Tryz.prog tsi10_126 = true := by kernel_rfl
def Hi10_128 : Hints where
  loop := fun n => match n with
    | _ => none
  region := fun n => match n with
    | _ => none
  cond := fun n => match n with
    | _ => none
  block := fun n => match n with
    | _ => none
def tsi10_128 : List (Nat × TD) := [(3, (.data (.int .i64))), (28, (.data WY4)), (114, (.cell .ptr))]
noncomputable def bodyi10_128 : Code := match Tryz.f128.body with | some c => c | none => .skip
noncomputable def fsi10_128 (g17 : (List (ByteArray × ByteArray × ByteArray × ByteArray × Int × Int × Int × Int × Int × Int × Int × Int × Int × (List WT3) × Unit)) → (Int)) (g69 : (List Int) → (Int)) (g70 : WT6 → WT6 → (Bool)) (g73 : Int → (Bool)) (g107 : Int → Option (ByteArray × Unit)) (g127 : WT3 → Int → (Int)) (g129 : ByteArray → Int → Option (ByteArray × Unit)) (k : Nat) : List (Nat × FSem) := []
theorem tyi10_128 : chkTypes Tryz.prog tsi10_128 = true := by kernel_rfl
def Hi10_61 : Hints where
  loop := fun n => match n with
    | _ => none
  region := fun n => match n with
    | 4 => some { slots := [(7, (.int .i64)), (8, .bool)], objs := [], gone := [] }
    | _ => none
  cond := fun n => match n with
    | 47 => some { slots := [], objs := [(29, (.box (.data (.int .i64)) (.int .i64)))], gone := [] }
    | _ => none
  block := fun n => match n with
    | _ => none
def tsi10_61 : List (Nat × TD) := [(3, (.data (.int .i64))), (4, (.data .bool)), (9, (.data .str)), (23, (.data WY3)), (26, (.data (.slice WY2))), (28, (.data WY4)), (114, (.cell .ptr)), (117, (.data WY2))]
noncomputable def bodyi10_61 : Code := match Tryz.f61.body with | some c => c | none => .skip
noncomputable def fsi10_61 (g17 : (List (ByteArray × ByteArray × ByteArray × ByteArray × Int × Int × Int × Int × Int × Int × Int × Int × Int × (List WT3) × Unit)) → (Int)) (g69 : (List Int) → (Int)) (g70 : WT6 → WT6 → (Bool)) (g73 : Int → (Bool)) (g107 : Int → Option (ByteArray × Unit)) (g127 : WT3 → Int → (Int)) (g129 : ByteArray → Int → Option (ByteArray × Unit)) (k : Nat) : List (Nat × FSem) := [(73, .fn (.cons (.int .i64) .nil) (.cons .bool .nil) fun x => ((g73 x.1), ())), (107, .pfn (.cons (.int .i64) .nil) (.cons .str .nil) fun x => (g107 x.1)), (126, .ev (mkEnv tsi10_126 (fsi10_126 g17 g69 g70 g73 g107 g127 g129 k)) Hi10_126 k bodyi10_126 49 [.tmp 6, .tmp 7]), (128, .evr (mkEnv tsi10_128 (fsi10_128 g17 g69 g70 g73 g107 g127 g129 k)) Hi10_128 k bodyi10_128 18 [.tmp 5]), (129, .pfn (.cons .str (.cons (.int .i64) .nil)) (.cons .str .nil) fun x => (g129 x.1 x.2.1))]
theorem tyi10_61 : chkTypes Tryz.prog tsi10_61 = true := by kernel_rfl
abbrev A10 : Tys := (.cons WY4 (.cons WY4 .nil))
def ts10 : List (Nat × TD) := [(3, (.data (.int .i64))), (9, (.data .str)), (23, (.data WY3)), (25, (.data (.slice WY4))), (28, (.data WY4)), (31, (.data (.slice (.int .i64)))), (32, (.data (.int .i64))), (128, (.data (.slice (.int .i64))))]
noncomputable def fs10 (g17 : (List (ByteArray × ByteArray × ByteArray × ByteArray × Int × Int × Int × Int × Int × Int × Int × Int × Int × (List WT3) × Unit)) → (Int)) (g69 : (List Int) → (Int)) (g70 : WT6 → WT6 → (Bool)) (g73 : Int → (Bool)) (g107 : Int → Option (ByteArray × Unit)) (g127 : WT3 → Int → (Int)) (g129 : ByteArray → Int → Option (ByteArray × Unit)) (k : Nat) : List (Nat × FSem) := [(17, .fn (.cons (.slice WY4) .nil) (.cons (.int .i64) .nil) fun x => ((g17 x.1), ())), (61, .ev (mkEnvX10_61 tsi10_61 (fsi10_61 g17 g69 g70 g73 g107 g127 g129 k)) Hi10_61 k bodyi10_61 122 [.cell 4 23, .tmp 5]), (69, .fn (.cons (.slice (.int .i64)) .nil) (.cons (.int .i64) .nil) fun x => ((g69 x.1), ())), (70, .fn (.cons WY3 (.cons WY3 .nil)) (.cons .bool .nil) fun x => ((g70 x.1 x.2.1), ()))]
noncomputable def body10 : Code := match Tryz.f10.body with | some c => c | none => .skip
theorem ty10 : chkTypes Tryz.prog ts10 = true := by kernel_rfl
theorem ev10 (g17 : (List (ByteArray × ByteArray × ByteArray × ByteArray × Int × Int × Int × Int × Int × Int × Int × Int × Int × (List WT3) × Unit)) → (Int)) (g69 : (List Int) → (Int)) (g70 : WT6 → WT6 → (Bool)) (g73 : Int → (Bool)) (g107 : Int → Option (ByteArray × Unit)) (g127 : WT3 → Int → (Int)) (g129 : ByteArray → Int → Option (ByteArray × Unit)) (k : Nat) (x : ((.cons WY4 (.cons WY4 .nil)) : Tys).den) : evFun (mkEnv ts10 (fs10 g17 g69 g70 g73 g107 g127 g129 k)) H10 k body10 81 [.tmp 4, .tmp 5] (explodes (.cons WY4 (.cons WY4 .nil)) x) [] (dec (.cons (.slice (.int .i64)) (.cons (.int .i64) .nil))) = f10 g17 g69 g70 g73 g107 g127 g129 k x.1 x.2.1 := by kernel_rfl
/-! ### jitney/jitref2.in -/
def f71  (k : Nat) (x0 : Int) (x1 : Int) (x2 : Int) : Option (Bool × Unit) :=
  bif (decide (x1 ≤ x0)) then
    some ((decide (x0 ≤ x2)), ())
  else
    some (false, ())
def H71 : Hints where
  loop := fun n => match n with
    | _ => none
  region := fun n => match n with
    | _ => none
  cond := fun n => match n with
    | _ => none
  block := fun n => match n with
    | _ => none
abbrev A71 : Tys := (.cons (.int .i64) (.cons (.int .i64) (.cons (.int .i64) .nil)))
def ts71 : List (Nat × TD) := [(3, (.data (.int .i64))), (4, (.data .bool))]
noncomputable def fs71  : List (Nat × FSem) := []
noncomputable def body71 : Code := match Tryz.f71.body with | some c => c | none => .skip
theorem ty71 : chkTypes Tryz.prog ts71 = true := by kernel_rfl
theorem ev71  (k : Nat) (x : ((.cons (.int .i64) (.cons (.int .i64) (.cons (.int .i64) .nil))) : Tys).den) : evFun (mkEnv ts71 (fs71 )) H71 k body71 15 [.tmp 6] (explodes (.cons (.int .i64) (.cons (.int .i64) (.cons (.int .i64) .nil))) x) [] (dec (.cons .bool .nil)) = f71  k x.1 x.2.1 x.2.2.1 := by kernel_rfl
/-! ### strings.IndexByte -/
def f145 (g182 : ByteArray → Int → (Int)) (k : Nat) (x0 : ByteArray) (x1 : Int) : Option (Int × Unit) :=
  some ((g182 x0 x1), ())
def H145 : Hints where
  loop := fun n => match n with
    | _ => none
  region := fun n => match n with
    | _ => none
  cond := fun n => match n with
    | _ => none
  block := fun n => match n with
    | _ => none
abbrev A145 : Tys := (.cons .str (.cons (.int .u8) .nil))
def ts145 : List (Nat × TD) := [(3, (.data (.int .i64))), (5, (.data (.int .u8))), (9, (.data .str))]
noncomputable def fs145 (g182 : ByteArray → Int → (Int)) : List (Nat × FSem) := [(182, .fn (.cons .str (.cons (.int .u8) .nil)) (.cons (.int .i64) .nil) fun x => ((g182 x.1 x.2.1), ()))]
noncomputable def body145 : Code := match Tryz.f145.body with | some c => c | none => .skip
theorem ty145 : chkTypes Tryz.prog ts145 = true := by kernel_rfl
theorem ev145 (g182 : ByteArray → Int → (Int)) (k : Nat) (x : ((.cons .str (.cons (.int .u8) .nil)) : Tys).den) : evFun (mkEnv ts145 (fs145 g182)) H145 k body145 8 [.tmp 4] (explodes (.cons .str (.cons (.int .u8) .nil)) x) [] (dec (.cons (.int .i64) .nil)) = f145 g182 k x.1 x.2.1 := by kernel_rfl
/-! ### jitney/jitref2.only -/
def f94 (g145 : ByteArray → Int → (Int)) (k : Nat) (x0 : ByteArray) (x1 : ByteArray) : Option (Bool × Unit) :=
  Option.bind (α := (Bool × Unit) ⊕ ((Unit) × (Unit))) (iter (σ := (Int × Unit) × (Unit)) (τ := (Bool × Unit) ⊕ ((Unit) × (Unit))) k (fun y1 =>
      bif (decide (y1.1.1 < ((ByteArray.size x0 : Nat) : Int))) then
        bif (inR y1.1.1 ((ByteArray.size x0 : Nat) : Int)) then
          bif (decide ((g145 x1 (bt x0 y1.1.1)) < (0 : Int))) then
            some (.inr (.inl (false, ())))
          else
            some (.inl (((IntKind.i64.wrap (y1.1.1 + (1 : Int))), ()), ()))
        else
          none
      else
        some (.inr (.inr ((), ())))) (((0 : Int), ()), ())) fun r => match r with
  | .inl z => some z
  | .inr z2 =>
    some (true, ())
def H94 : Hints where
  loop := fun n => match n with
    | 0 => some ({ slots := [(8, (.int .i64))], objs := [], gone := [] }, 0, { slots := [], objs := [], gone := [] })
    | _ => none
  region := fun n => match n with
    | _ => none
  cond := fun n => match n with
    | _ => none
  block := fun n => match n with
    | _ => none
abbrev A94 : Tys := (.cons .str (.cons .str .nil))
def ts94 : List (Nat × TD) := [(3, (.data (.int .i64))), (4, (.data .bool)), (9, (.data .str))]
noncomputable def fs94 (g145 : ByteArray → Int → (Int)) : List (Nat × FSem) := [(145, .fn (.cons .str (.cons (.int .u8) .nil)) (.cons (.int .i64) .nil) fun x => ((g145 x.1 x.2.1), ()))]
noncomputable def body94 : Code := match Tryz.f94.body with | some c => c | none => .skip
theorem ty94 : chkTypes Tryz.prog ts94 = true := by kernel_rfl
theorem ev94 (g145 : ByteArray → Int → (Int)) (k : Nat) (x : ((.cons .str (.cons .str .nil)) : Tys).den) : evFun (mkEnv ts94 (fs94 g145)) H94 k body94 18 [.tmp 4] (explodes (.cons .str (.cons .str .nil)) x) [] (dec (.cons .bool .nil)) = f94 g145 k x.1 x.2.1 := by kernel_rfl
/-! ### jitney/jitref2.Key -/
def f36 (g71 : Int → Int → Int → (Bool)) (g94 : ByteArray → ByteArray → (Bool)) (k : Nat) (x0 : ByteArray) : Option (Bool × Unit) :=
  bif (g71 ((ByteArray.size x0 : Nat) : Int) (1 : Int) (40 : Int)) then
    bif (decide (0 ≤ (0 : Int)) && (decide ((0 : Int) ≤ (1 : Int)) && decide ((1 : Int) ≤ ((ByteArray.size x0 : Nat) : Int)))) then
      bif (g94 (ByteArray.extract x0 (Int.toNat (0 : Int)) (Int.toNat (1 : Int))) (ByteArray.mk #[97, 98, 99, 100, 101, 102, 103, 104, 105, 106, 107, 108, 109, 110, 111, 112, 113, 114, 115, 116, 117, 118, 119, 120, 121, 122])) then
        some ((g94 x0 (ByteArray.mk #[97, 98, 99, 100, 101, 102, 103, 104, 105, 106, 107, 108, 109, 110, 111, 112, 113, 114, 115, 116, 117, 118, 119, 120, 121, 122, 48, 49, 50, 51, 52, 53, 54, 55, 56, 57, 45, 95])), ())
      else
        some (false, ())
    else
      none
  else
    some (false, ())
def H36 : Hints where
  loop := fun n => match n with
    | _ => none
  region := fun n => match n with
    | _ => none
  cond := fun n => match n with
    | _ => none
  block := fun n => match n with
    | _ => none
abbrev A36 : Tys := (.cons .str .nil)
def ts36 : List (Nat × TD) := [(4, (.data .bool)), (9, (.data .str))]
noncomputable def fs36 (g71 : Int → Int → Int → (Bool)) (g94 : ByteArray → ByteArray → (Bool)) : List (Nat × FSem) := [(71, .fn (.cons (.int .i64) (.cons (.int .i64) (.cons (.int .i64) .nil))) (.cons .bool .nil) fun x => ((g71 x.1 x.2.1 x.2.2.1), ())), (94, .fn (.cons .str (.cons .str .nil)) (.cons .bool .nil) fun x => ((g94 x.1 x.2.1), ()))]
noncomputable def body36 : Code := match Tryz.f36.body with | some c => c | none => .skip
theorem ty36 : chkTypes Tryz.prog ts36 = true := by kernel_rfl
theorem ev36 (g71 : Int → Int → Int → (Bool)) (g94 : ByteArray → ByteArray → (Bool)) (k : Nat) (x : ((.cons .str .nil) : Tys).den) : evFun (mkEnv ts36 (fs36 g71 g94)) H36 k body36 15 [.tmp 2] (explodes (.cons .str .nil) x) [] (dec (.cons .bool .nil)) = f36 g71 g94 k x.1 := by kernel_rfl
/-! ### jitney/jitref2.SeriesFault -/
def f11 (g36 : ByteArray → (Bool)) (g71 : Int → Int → Int → (Bool)) (k : Nat) (x0 : List (ByteArray × ByteArray × ByteArray × ByteArray × Int × Int × Int × Int × Int × Int × Int × Int × Int × (List WT3) × Unit)) : Option (Int × Unit) :=
  bif (decide (((List.length x0 : Nat) : Int) > (100 : Int))) then
    some ((2 : Int), ())
  else
    Option.bind (α := (Int × Unit) ⊕ ((Unit) × (Unit))) (iter (σ := WT2 × (Unit)) (τ := (Int × Unit) ⊕ ((Unit) × (Unit))) k (fun y1 =>
        bif (decide (y1.1.2.1 < ((List.length x0 : Nat) : Int))) then
          bif (inR y1.1.2.1 ((List.length x0 : Nat) : Int)) then
            bif (!(g36 ((rd (α := (ByteArray × ByteArray × ByteArray × ByteArray × Int × Int × Int × Int × Int × Int × Int × Int × Int × (List WT3) × Unit)) (ByteArray.empty, ByteArray.empty, ByteArray.empty, ByteArray.empty, (0 : Int), (0 : Int), (0 : Int), (0 : Int), (0 : Int), (0 : Int), (0 : Int), (0 : Int), (0 : Int), ([] : List WT3), ()) x0 y1.1.2.1).1))) then
              some (.inr (.inl ((5 : Int), ())))
            else
              bif (!(g36 ((rd (α := (ByteArray × ByteArray × ByteArray × ByteArray × Int × Int × Int × Int × Int × Int × Int × Int × Int × (List WT3) × Unit)) (ByteArray.empty, ByteArray.empty, ByteArray.empty, ByteArray.empty, (0 : Int), (0 : Int), (0 : Int), (0 : Int), (0 : Int), (0 : Int), (0 : Int), (0 : Int), (0 : Int), ([] : List WT3), ()) x0 y1.1.2.1).2.1))) then
                some (.inr (.inl ((5 : Int), ())))
              else
                bif (!(g36 ((rd (α := (ByteArray × ByteArray × ByteArray × ByteArray × Int × Int × Int × Int × Int × Int × Int × Int × Int × (List WT3) × Unit)) (ByteArray.empty, ByteArray.empty, ByteArray.empty, ByteArray.empty, (0 : Int), (0 : Int), (0 : Int), (0 : Int), (0 : Int), (0 : Int), (0 : Int), (0 : Int), (0 : Int), ([] : List WT3), ()) x0 y1.1.2.1).2.2.1))) then
                  some (.inr (.inl ((5 : Int), ())))
                else
                  bif (!(g36 ((rd (α := (ByteArray × ByteArray × ByteArray × ByteArray × Int × Int × Int × Int × Int × Int × Int × Int × Int × (List WT3) × Unit)) (ByteArray.empty, ByteArray.empty, ByteArray.empty, ByteArray.empty, (0 : Int), (0 : Int), (0 : Int), (0 : Int), (0 : Int), (0 : Int), (0 : Int), (0 : Int), (0 : Int), ([] : List WT3), ()) x0 y1.1.2.1).2.2.2.1))) then
                    some (.inr (.inl ((5 : Int), ())))
                  else
                    bif (decide (((ByteArray.size ((rd (α := (ByteArray × ByteArray × ByteArray × ByteArray × Int × Int × Int × Int × Int × Int × Int × Int × Int × (List WT3) × Unit)) (ByteArray.empty, ByteArray.empty, ByteArray.empty, ByteArray.empty, (0 : Int), (0 : Int), (0 : Int), (0 : Int), (0 : Int), (0 : Int), (0 : Int), (0 : Int), (0 : Int), ([] : List WT3), ()) x0 y1.1.2.1).1) : Nat) : Int) > (30 : Int))) then
                      some (.inr (.inl ((2 : Int), ())))
                    else
                      bif (sEq ((rd (α := (ByteArray × ByteArray × ByteArray × ByteArray × Int × Int × Int × Int × Int × Int × Int × Int × Int × (List WT3) × Unit)) (ByteArray.empty, ByteArray.empty, ByteArray.empty, ByteArray.empty, (0 : Int), (0 : Int), (0 : Int), (0 : Int), (0 : Int), (0 : Int), (0 : Int), (0 : Int), (0 : Int), ([] : List WT3), ()) x0 y1.1.2.1).2.2.1) ((rd (α := (ByteArray × ByteArray × ByteArray × ByteArray × Int × Int × Int × Int × Int × Int × Int × Int × Int × (List WT3) × Unit)) (ByteArray.empty, ByteArray.empty, ByteArray.empty, ByteArray.empty, (0 : Int), (0 : Int), (0 : Int), (0 : Int), (0 : Int), (0 : Int), (0 : Int), (0 : Int), (0 : Int), ([] : List WT3), ()) x0 y1.1.2.1).2.2.2.1)) then
                        some (.inr (.inl ((6 : Int), ())))
                      else
                        bif (!(g71 ((rd (α := (ByteArray × ByteArray × ByteArray × ByteArray × Int × Int × Int × Int × Int × Int × Int × Int × Int × (List WT3) × Unit)) (ByteArray.empty, ByteArray.empty, ByteArray.empty, ByteArray.empty, (0 : Int), (0 : Int), (0 : Int), (0 : Int), (0 : Int), (0 : Int), (0 : Int), (0 : Int), (0 : Int), ([] : List WT3), ()) x0 y1.1.2.1).2.2.2.2.1) (0 : Int) ((rd (α := (ByteArray × ByteArray × ByteArray × ByteArray × Int × Int × Int × Int × Int × Int × Int × Int × Int × (List WT3) × Unit)) (ByteArray.empty, ByteArray.empty, ByteArray.empty, ByteArray.empty, (0 : Int), (0 : Int), (0 : Int), (0 : Int), (0 : Int), (0 : Int), (0 : Int), (0 : Int), (0 : Int), ([] : List WT3), ()) x0 y1.1.2.1).2.2.2.2.2.1))) then
                          some (.inr (.inl ((1 : Int), ())))
                        else
                          bif (decide ((rd (α := (ByteArray × ByteArray × ByteArray × ByteArray × Int × Int × Int × Int × Int × Int × Int × Int × Int × (List WT3) × Unit)) (ByteArray.empty, ByteArray.empty, ByteArray.empty, ByteArray.empty, (0 : Int), (0 : Int), (0 : Int), (0 : Int), (0 : Int), (0 : Int), (0 : Int), (0 : Int), (0 : Int), ([] : List WT3), ()) x0 y1.1.2.1).2.2.2.2.2.1 > (4000 : Int))) then
                            some (.inr (.inl ((1 : Int), ())))
                          else
                            bif (!(g71 ((rd (α := (ByteArray × ByteArray × ByteArray × ByteArray × Int × Int × Int × Int × Int × Int × Int × Int × Int × (List WT3) × Unit)) (ByteArray.empty, ByteArray.empty, ByteArray.empty, ByteArray.empty, (0 : Int), (0 : Int), (0 : Int), (0 : Int), (0 : Int), (0 : Int), (0 : Int), (0 : Int), (0 : Int), ([] : List WT3), ()) x0 y1.1.2.1).2.2.2.2.2.2.1) (1 : Int) (52 : Int))) then
                              some (.inr (.inl ((1 : Int), ())))
                            else
                              bif (!(g71 ((rd (α := (ByteArray × ByteArray × ByteArray × ByteArray × Int × Int × Int × Int × Int × Int × Int × Int × Int × (List WT3) × Unit)) (ByteArray.empty, ByteArray.empty, ByteArray.empty, ByteArray.empty, (0 : Int), (0 : Int), (0 : Int), (0 : Int), (0 : Int), (0 : Int), (0 : Int), (0 : Int), (0 : Int), ([] : List WT3), ()) x0 y1.1.2.1).2.2.2.2.2.2.2.1) (1 : Int) (127 : Int))) then
                                some (.inr (.inl ((1 : Int), ())))
                              else
                                bif (!(g71 ((rd (α := (ByteArray × ByteArray × ByteArray × ByteArray × Int × Int × Int × Int × Int × Int × Int × Int × Int × (List WT3) × Unit)) (ByteArray.empty, ByteArray.empty, ByteArray.empty, ByteArray.empty, (0 : Int), (0 : Int), (0 : Int), (0 : Int), (0 : Int), (0 : Int), (0 : Int), (0 : Int), (0 : Int), ([] : List WT3), ()) x0 y1.1.2.1).2.2.2.2.2.2.2.2.1) (0 : Int) (1439 : Int))) then
                                  some (.inr (.inl ((1 : Int), ())))
                                else
                                  bif (!(g71 ((rd (α := (ByteArray × ByteArray × ByteArray × ByteArray × Int × Int × Int × Int × Int × Int × Int × Int × Int × (List WT3) × Unit)) (ByteArray.empty, ByteArray.empty, ByteArray.empty, ByteArray.empty, (0 : Int), (0 : Int), (0 : Int), (0 : Int), (0 : Int), (0 : Int), (0 : Int), (0 : Int), (0 : Int), ([] : List WT3), ()) x0 y1.1.2.1).2.2.2.2.2.2.2.2.2.1) (IntKind.i64.wrap ((rd (α := (ByteArray × ByteArray × ByteArray × ByteArray × Int × Int × Int × Int × Int × Int × Int × Int × Int × (List WT3) × Unit)) (ByteArray.empty, ByteArray.empty, ByteArray.empty, ByteArray.empty, (0 : Int), (0 : Int), (0 : Int), (0 : Int), (0 : Int), (0 : Int), (0 : Int), (0 : Int), (0 : Int), ([] : List WT3), ()) x0 y1.1.2.1).2.2.2.2.2.2.2.2.1 + (1 : Int))) (2880 : Int))) then
                                    some (.inr (.inl ((1 : Int), ())))
                                  else
                                    bif (!(g71 ((rd (α := (ByteArray × ByteArray × ByteArray × ByteArray × Int × Int × Int × Int × Int × Int × Int × Int × Int × (List WT3) × Unit)) (ByteArray.empty, ByteArray.empty, ByteArray.empty, ByteArray.empty, (0 : Int), (0 : Int), (0 : Int), (0 : Int), (0 : Int), (0 : Int), (0 : Int), (0 : Int), (0 : Int), ([] : List WT3), ()) x0 y1.1.2.1).2.2.2.2.2.2.2.2.2.2.1) (-1440 : Int) (1440 : Int))) then
                                      some (.inr (.inl ((1 : Int), ())))
                                    else
                                      bif (!(g71 ((rd (α := (ByteArray × ByteArray × ByteArray × ByteArray × Int × Int × Int × Int × Int × Int × Int × Int × Int × (List WT3) × Unit)) (ByteArray.empty, ByteArray.empty, ByteArray.empty, ByteArray.empty, (0 : Int), (0 : Int), (0 : Int), (0 : Int), (0 : Int), (0 : Int), (0 : Int), (0 : Int), (0 : Int), ([] : List WT3), ()) x0 y1.1.2.1).2.2.2.2.2.2.2.2.2.2.2.1) (0 : Int) (60 : Int))) then
                                        some (.inr (.inl ((1 : Int), ())))
                                      else
                                        bif (!(g71 ((rd (α := (ByteArray × ByteArray × ByteArray × ByteArray × Int × Int × Int × Int × Int × Int × Int × Int × Int × (List WT3) × Unit)) (ByteArray.empty, ByteArray.empty, ByteArray.empty, ByteArray.empty, (0 : Int), (0 : Int), (0 : Int), (0 : Int), (0 : Int), (0 : Int), (0 : Int), (0 : Int), (0 : Int), ([] : List WT3), ()) x0 y1.1.2.1).2.2.2.2.2.2.2.2.2.2.2.2.1) (0 : Int) (60 : Int))) then
                                          some (.inr (.inl ((1 : Int), ())))
                                        else
                                          bif ((IntKind.i64.wrap ((rd (α := (ByteArray × ByteArray × ByteArray × ByteArray × Int × Int × Int × Int × Int × Int × Int × Int × Int × (List WT3) × Unit)) (ByteArray.empty, ByteArray.empty, ByteArray.empty, ByteArray.empty, (0 : Int), (0 : Int), (0 : Int), (0 : Int), (0 : Int), (0 : Int), (0 : Int), (0 : Int), (0 : Int), ([] : List WT3), ()) x0 y1.1.2.1).2.2.2.2.2.2.2.2.2.2.2.1 + (rd (α := (ByteArray × ByteArray × ByteArray × ByteArray × Int × Int × Int × Int × Int × Int × Int × Int × Int × (List WT3) × Unit)) (ByteArray.empty, ByteArray.empty, ByteArray.empty, ByteArray.empty, (0 : Int), (0 : Int), (0 : Int), (0 : Int), (0 : Int), (0 : Int), (0 : Int), (0 : Int), (0 : Int), ([] : List WT3), ()) x0 y1.1.2.1).2.2.2.2.2.2.2.2.2.2.2.2.1)) == (0 : Int)) then
                                            some (.inr (.inl ((3 : Int), ())))
                                          else
                                            bif (decide (((List.length ((rd (α := (ByteArray × ByteArray × ByteArray × ByteArray × Int × Int × Int × Int × Int × Int × Int × Int × Int × (List WT3) × Unit)) (ByteArray.empty, ByteArray.empty, ByteArray.empty, ByteArray.empty, (0 : Int), (0 : Int), (0 : Int), (0 : Int), (0 : Int), (0 : Int), (0 : Int), (0 : Int), (0 : Int), ([] : List WT3), ()) x0 y1.1.2.1).2.2.2.2.2.2.2.2.2.2.2.2.2.1) : Nat) : Int) > (200 : Int))) then
                                              some (.inr (.inl ((2 : Int), ())))
                                            else
                                              Option.bind (α := ((WT2 × (Unit)) ⊕ ((Int × Unit) ⊕ ((Unit) × (Unit)))) ⊕ ((Unit) × (Unit))) (iter (σ := (Int × Unit) × (Unit)) (τ := ((WT2 × (Unit)) ⊕ ((Int × Unit) ⊕ ((Unit) × (Unit)))) ⊕ ((Unit) × (Unit))) k (fun y2 =>
                                                  bif (decide (y2.1.1 < ((List.length ((rd (α := (ByteArray × ByteArray × ByteArray × ByteArray × Int × Int × Int × Int × Int × Int × Int × Int × Int × (List WT3) × Unit)) (ByteArray.empty, ByteArray.empty, ByteArray.empty, ByteArray.empty, (0 : Int), (0 : Int), (0 : Int), (0 : Int), (0 : Int), (0 : Int), (0 : Int), (0 : Int), (0 : Int), ([] : List WT3), ()) x0 y1.1.2.1).2.2.2.2.2.2.2.2.2.2.2.2.2.1) : Nat) : Int))) then
                                                    bif (inR y2.1.1 ((List.length ((rd (α := (ByteArray × ByteArray × ByteArray × ByteArray × Int × Int × Int × Int × Int × Int × Int × Int × Int × (List WT3) × Unit)) (ByteArray.empty, ByteArray.empty, ByteArray.empty, ByteArray.empty, (0 : Int), (0 : Int), (0 : Int), (0 : Int), (0 : Int), (0 : Int), (0 : Int), (0 : Int), (0 : Int), ([] : List WT3), ()) x0 y1.1.2.1).2.2.2.2.2.2.2.2.2.2.2.2.2.1) : Nat) : Int)) then
                                                      bif (!(g71 ((rd (α := WT3) zWT3 ((rd (α := (ByteArray × ByteArray × ByteArray × ByteArray × Int × Int × Int × Int × Int × Int × Int × Int × Int × (List WT3) × Unit)) (ByteArray.empty, ByteArray.empty, ByteArray.empty, ByteArray.empty, (0 : Int), (0 : Int), (0 : Int), (0 : Int), (0 : Int), (0 : Int), (0 : Int), (0 : Int), (0 : Int), ([] : List WT3), ()) x0 y1.1.2.1).2.2.2.2.2.2.2.2.2.2.2.2.2.1) y2.1.1).1) (0 : Int) (4000 : Int))) then
                                                        some (.inr (.inl (.inr (.inl ((1 : Int), ())))))
                                                      else
                                                        bif (!(g71 ((rd (α := WT3) zWT3 ((rd (α := (ByteArray × ByteArray × ByteArray × ByteArray × Int × Int × Int × Int × Int × Int × Int × Int × Int × (List WT3) × Unit)) (ByteArray.empty, ByteArray.empty, ByteArray.empty, ByteArray.empty, (0 : Int), (0 : Int), (0 : Int), (0 : Int), (0 : Int), (0 : Int), (0 : Int), (0 : Int), (0 : Int), ([] : List WT3), ()) x0 y1.1.2.1).2.2.2.2.2.2.2.2.2.2.2.2.2.1) y2.1.1).2.2.1) (-1440 : Int) (1440 : Int))) then
                                                          some (.inr (.inl (.inr (.inl ((1 : Int), ())))))
                                                        else
                                                          bif ((rd (α := WT3) zWT3 ((rd (α := (ByteArray × ByteArray × ByteArray × ByteArray × Int × Int × Int × Int × Int × Int × Int × Int × Int × (List WT3) × Unit)) (ByteArray.empty, ByteArray.empty, ByteArray.empty, ByteArray.empty, (0 : Int), (0 : Int), (0 : Int), (0 : Int), (0 : Int), (0 : Int), (0 : Int), (0 : Int), (0 : Int), ([] : List WT3), ()) x0 y1.1.2.1).2.2.2.2.2.2.2.2.2.2.2.2.2.1) y2.1.1).2.1 == ((rd (α := WT3) zWT3 ((rd (α := (ByteArray × ByteArray × ByteArray × ByteArray × Int × Int × Int × Int × Int × Int × Int × Int × Int × (List WT3) × Unit)) (ByteArray.empty, ByteArray.empty, ByteArray.empty, ByteArray.empty, (0 : Int), (0 : Int), (0 : Int), (0 : Int), (0 : Int), (0 : Int), (0 : Int), (0 : Int), (0 : Int), ([] : List WT3), ()) x0 y1.1.2.1).2.2.2.2.2.2.2.2.2.2.2.2.2.1) y2.1.1).2.2.1 != (0 : Int))) then
                                                            some (.inr (.inl (.inr (.inl ((3 : Int), ())))))
                                                          else
                                                            bif (decide (y2.1.1 > (0 : Int))) then
                                                              bif (inR (IntKind.i64.wrap (y2.1.1 - (1 : Int))) ((List.length ((rd (α := (ByteArray × ByteArray × ByteArray × ByteArray × Int × Int × Int × Int × Int × Int × Int × Int × Int × (List WT3) × Unit)) (ByteArray.empty, ByteArray.empty, ByteArray.empty, ByteArray.empty, (0 : Int), (0 : Int), (0 : Int), (0 : Int), (0 : Int), (0 : Int), (0 : Int), (0 : Int), (0 : Int), ([] : List WT3), ()) x0 y1.1.2.1).2.2.2.2.2.2.2.2.2.2.2.2.2.1) : Nat) : Int)) then
                                                                bif (decide ((rd (α := WT3) zWT3 ((rd (α := (ByteArray × ByteArray × ByteArray × ByteArray × Int × Int × Int × Int × Int × Int × Int × Int × Int × (List WT3) × Unit)) (ByteArray.empty, ByteArray.empty, ByteArray.empty, ByteArray.empty, (0 : Int), (0 : Int), (0 : Int), (0 : Int), (0 : Int), (0 : Int), (0 : Int), (0 : Int), (0 : Int), ([] : List WT3), ()) x0 y1.1.2.1).2.2.2.2.2.2.2.2.2.2.2.2.2.1) y2.1.1).1 ≤ (rd (α := WT3) zWT3 ((rd (α := (ByteArray × ByteArray × ByteArray × ByteArray × Int × Int × Int × Int × Int × Int × Int × Int × Int × (List WT3) × Unit)) (ByteArray.empty, ByteArray.empty, ByteArray.empty, ByteArray.empty, (0 : Int), (0 : Int), (0 : Int), (0 : Int), (0 : Int), (0 : Int), (0 : Int), (0 : Int), (0 : Int), ([] : List WT3), ()) x0 y1.1.2.1).2.2.2.2.2.2.2.2.2.2.2.2.2.1) (IntKind.i64.wrap (y2.1.1 - (1 : Int)))).1)) then
                                                                  some (.inr (.inl (.inr (.inl ((7 : Int), ())))))
                                                                else
                                                                  some (.inl (((IntKind.i64.wrap (y2.1.1 + (1 : Int))), ()), ()))
                                                              else
                                                                none
                                                            else
                                                              some (.inl (((IntKind.i64.wrap (y2.1.1 + (1 : Int))), ()), ()))
                                                    else
                                                      none
                                                  else
                                                    some (.inr (.inr ((), ())))) (((0 : Int), ()), ())) fun r => match r with
                                              | .inl z => some z
                                              | .inr z3 =>
                                                bif ((sLt ((rd (α := (ByteArray × ByteArray × ByteArray × ByteArray × Int × Int × Int × Int × Int × Int × Int × Int × Int × (List WT3) × Unit)) (ByteArray.empty, ByteArray.empty, ByteArray.empty, ByteArray.empty, (0 : Int), (0 : Int), (0 : Int), (0 : Int), (0 : Int), (0 : Int), (0 : Int), (0 : Int), (0 : Int), ([] : List WT3), ()) x0 y1.1.2.1).1) y1.1.1) || (sEq ((rd (α := (ByteArray × ByteArray × ByteArray × ByteArray × Int × Int × Int × Int × Int × Int × Int × Int × Int × (List WT3) × Unit)) (ByteArray.empty, ByteArray.empty, ByteArray.empty, ByteArray.empty, (0 : Int), (0 : Int), (0 : Int), (0 : Int), (0 : Int), (0 : Int), (0 : Int), (0 : Int), (0 : Int), ([] : List WT3), ()) x0 y1.1.2.1).1) y1.1.1)) then
                                                  some (.inr (.inl ((7 : Int), ())))
                                                else
                                                  some (.inl (((rd (α := (ByteArray × ByteArray × ByteArray × ByteArray × Int × Int × Int × Int × Int × Int × Int × Int × Int × (List WT3) × Unit)) (ByteArray.empty, ByteArray.empty, ByteArray.empty, ByteArray.empty, (0 : Int), (0 : Int), (0 : Int), (0 : Int), (0 : Int), (0 : Int), (0 : Int), (0 : Int), (0 : Int), ([] : List WT3), ()) x0 y1.1.2.1).1, (IntKind.i64.wrap (y1.1.2.1 + (1 : Int))), ()), ()))
          else
            none
        else
          some (.inr (.inr ((), ())))) (((ByteArray.mk #[]), (0 : Int), ()), ())) fun r => match r with
    | .inl z => some z
    | .inr z4 =>
      some ((0 : Int), ())
def H11 : Hints where
  loop := fun n => match n with
    | 0 => some ({ slots := [(3, .str), (13, (.int .i64))], objs := [], gone := [] }, 0, { slots := [], objs := [], gone := [] })
    | 3 => some ({ slots := [(122, (.int .i64))], objs := [], gone := [] }, 3, { slots := [], objs := [], gone := [] })
    | _ => none
  region := fun n => match n with
    | _ => none
  cond := fun n => match n with
    | _ => none
  block := fun n => match n with
    | _ => none
abbrev A11 : Tys := (.cons (.slice WY4) .nil)
def ts11 : List (Nat × TD) := [(3, (.data (.int .i64))), (4, (.data .bool)), (9, (.data .str)), (25, (.data (.slice WY4))), (26, (.data (.slice WY2))), (28, (.data WY4)), (32, (.data (.int .i64))), (117, (.data WY2))]
noncomputable def fs11 (g36 : ByteArray → (Bool)) (g71 : Int → Int → Int → (Bool)) : List (Nat × FSem) := [(36, .fn (.cons .str .nil) (.cons .bool .nil) fun x => ((g36 x.1), ())), (71, .fn (.cons (.int .i64) (.cons (.int .i64) (.cons (.int .i64) .nil))) (.cons .bool .nil) fun x => ((g71 x.1 x.2.1 x.2.2.1), ()))]
noncomputable def body11 : Code := match Tryz.f11.body with | some c => c | none => .skip
theorem ty11 : chkTypes Tryz.prog ts11 = true := by kernel_rfl
theorem ev11 (g36 : ByteArray → (Bool)) (g71 : Int → Int → Int → (Bool)) (k : Nat) (x : ((.cons (.slice WY4) .nil) : Tys).den) : evFun (mkEnv ts11 (fs11 g36 g71)) H11 k body11 168 [.tmp 2] (explodes (.cons (.slice WY4) .nil) x) [] (dec (.cons (.int .i64) .nil)) = f11 g36 g71 k x.1 := by kernel_rfl
/-! ### jitney/request.CheckRide -/
def f12 (g72 : (List ByteArray) → (Bool)) (g73 : Int → (Bool)) (g74 : Int → Int → Int → (Bool)) (k : Nat) (x0 : WT6) : Option (Int × Unit) :=
  bif (!(g72 ([x0.1, x0.2.1, x0.2.2.1, x0.2.2.2.1]))) then
    some ((5 : Int), ())
  else
    bif (sEq x0.2.2.1 x0.2.2.2.1) then
      some ((6 : Int), ())
    else
      bif (!(g73 x0.2.2.2.2.1)) then
        some ((1 : Int), ())
      else
        bif (g74 x0.2.2.2.2.2.1 (IntKind.i64.wrap (x0.2.2.2.2.1 + (1 : Int))) (345686400000 : Int)) then
          some ((1 : Int), ())
        else
          bif (g74 x0.2.2.2.2.2.2.1 (0 : Int) (60 : Int)) then
            some ((1 : Int), ())
          else
            bif (g74 x0.2.2.2.2.2.2.2.1 (0 : Int) (60 : Int)) then
              some ((1 : Int), ())
            else
              bif ((IntKind.i64.wrap (x0.2.2.2.2.2.2.1 + x0.2.2.2.2.2.2.2.1)) == (0 : Int)) then
                some ((3 : Int), ())
              else
                some ((0 : Int), ())
def H12 : Hints where
  loop := fun n => match n with
    | _ => none
  region := fun n => match n with
    | _ => none
  cond := fun n => match n with
    | _ => none
  block := fun n => match n with
    | _ => none
abbrev A12 : Tys := (.cons WY3 .nil)
def ts12 : List (Nat × TD) := [(3, (.data (.int .i64))), (9, (.data .str)), (23, (.data WY3)), (32, (.data (.int .i64))), (60, (.data (.slice .str)))]
noncomputable def fs12 (g72 : (List ByteArray) → (Bool)) (g73 : Int → (Bool)) (g74 : Int → Int → Int → (Bool)) : List (Nat × FSem) := [(72, .fn (.cons (.slice .str) .nil) (.cons .bool .nil) fun x => ((g72 x.1), ())), (73, .fn (.cons (.int .i64) .nil) (.cons .bool .nil) fun x => ((g73 x.1), ())), (74, .fn (.cons (.int .i64) (.cons (.int .i64) (.cons (.int .i64) .nil))) (.cons .bool .nil) fun x => ((g74 x.1 x.2.1 x.2.2.1), ()))]
noncomputable def body12 : Code := match Tryz.f12.body with | some c => c | none => .skip
theorem ty12 : chkTypes Tryz.prog ts12 = true := by kernel_rfl
theorem ev12 (g72 : (List ByteArray) → (Bool)) (g73 : Int → (Bool)) (g74 : Int → Int → Int → (Bool)) (k : Nat) (x : ((.cons WY3 .nil) : Tys).den) : evFun (mkEnv ts12 (fs12 g72 g73 g74)) H12 k body12 51 [.tmp 2] (explodes (.cons WY3 .nil) x) [] (dec (.cons (.int .i64) .nil)) = f12 g72 g73 g74 k x.1 := by kernel_rfl
/-! ### jitney/jitref2.Moment -/
def f37 (g71 : Int → Int → Int → (Bool)) (k : Nat) (x0 : Int) : Option (Bool × Unit) :=
  some ((g71 x0 (0 : Int) (345686399999 : Int)), ())
def H37 : Hints where
  loop := fun n => match n with
    | _ => none
  region := fun n => match n with
    | _ => none
  cond := fun n => match n with
    | _ => none
  block := fun n => match n with
    | _ => none
abbrev A37 : Tys := (.cons (.int .i64) .nil)
def ts37 : List (Nat × TD) := [(3, (.data (.int .i64))), (4, (.data .bool))]
noncomputable def fs37 (g71 : Int → Int → Int → (Bool)) : List (Nat × FSem) := [(71, .fn (.cons (.int .i64) (.cons (.int .i64) (.cons (.int .i64) .nil))) (.cons .bool .nil) fun x => ((g71 x.1 x.2.1 x.2.2.1), ()))]
noncomputable def body37 : Code := match Tryz.f37.body with | some c => c | none => .skip
theorem ty37 : chkTypes Tryz.prog ts37 = true := by kernel_rfl
theorem ev37 (g71 : Int → Int → Int → (Bool)) (k : Nat) (x : ((.cons (.int .i64) .nil) : Tys).den) : evFun (mkEnv ts37 (fs37 g71)) H37 k body37 5 [.tmp 2] (explodes (.cons (.int .i64) .nil) x) [] (dec (.cons .bool .nil)) = f37 g71 k x.1 := by kernel_rfl
/-! ### jitney/jitref2.RideFault -/
def f13 (g36 : ByteArray → (Bool)) (g37 : Int → (Bool)) (g71 : Int → Int → Int → (Bool)) (k : Nat) (x0 : WT6) : Option (Int × Unit) :=
  bif (!(g36 x0.1)) then
    some ((5 : Int), ())
  else
    bif (!(g36 x0.2.1)) then
      some ((5 : Int), ())
    else
      bif (!(g36 x0.2.2.1)) then
        some ((5 : Int), ())
      else
        bif (!(g36 x0.2.2.2.1)) then
          some ((5 : Int), ())
        else
          bif (sEq x0.2.2.1 x0.2.2.2.1) then
            some ((6 : Int), ())
          else
            bif (!(g37 x0.2.2.2.2.1)) then
              some ((1 : Int), ())
            else
              bif (!(g71 x0.2.2.2.2.2.1 (IntKind.i64.wrap (x0.2.2.2.2.1 + (1 : Int))) (345686400000 : Int))) then
                some ((1 : Int), ())
              else
                bif (!(g71 x0.2.2.2.2.2.2.1 (0 : Int) (60 : Int))) then
                  some ((1 : Int), ())
                else
                  bif (!(g71 x0.2.2.2.2.2.2.2.1 (0 : Int) (60 : Int))) then
                    some ((1 : Int), ())
                  else
                    bif ((IntKind.i64.wrap (x0.2.2.2.2.2.2.1 + x0.2.2.2.2.2.2.2.1)) == (0 : Int)) then
                      some ((3 : Int), ())
                    else
                      some ((0 : Int), ())
def H13 : Hints where
  loop := fun n => match n with
    | _ => none
  region := fun n => match n with
    | _ => none
  cond := fun n => match n with
    | _ => none
  block := fun n => match n with
    | _ => none
abbrev A13 : Tys := (.cons WY3 .nil)
def ts13 : List (Nat × TD) := [(3, (.data (.int .i64))), (9, (.data .str)), (23, (.data WY3)), (32, (.data (.int .i64)))]
noncomputable def fs13 (g36 : ByteArray → (Bool)) (g37 : Int → (Bool)) (g71 : Int → Int → Int → (Bool)) : List (Nat × FSem) := [(36, .fn (.cons .str .nil) (.cons .bool .nil) fun x => ((g36 x.1), ())), (37, .fn (.cons (.int .i64) .nil) (.cons .bool .nil) fun x => ((g37 x.1), ())), (71, .fn (.cons (.int .i64) (.cons (.int .i64) (.cons (.int .i64) .nil))) (.cons .bool .nil) fun x => ((g71 x.1 x.2.1 x.2.2.1), ()))]
noncomputable def body13 : Code := match Tryz.f13.body with | some c => c | none => .skip
theorem ty13 : chkTypes Tryz.prog ts13 = true := by kernel_rfl
theorem ev13 (g36 : ByteArray → (Bool)) (g37 : Int → (Bool)) (g71 : Int → Int → Int → (Bool)) (k : Nat) (x : ((.cons WY3 .nil) : Tys).den) : evFun (mkEnv ts13 (fs13 g36 g37 g71)) H13 k body13 65 [.tmp 2] (explodes (.cons WY3 .nil) x) [] (dec (.cons (.int .i64) .nil)) = f13 g36 g37 g71 k x.1 := by kernel_rfl
/-! ### jitney/request.CheckRiders -/
def f14 (g74 : Int → Int → Int → (Bool)) (g75 : ByteArray → (Bool)) (k : Nat) (x0 : List WT5) : Option (Int × Unit) :=
  bif (decide (((List.length x0 : Nat) : Int) > (500 : Int))) then
    some ((2 : Int), ())
  else
    Option.bind (α := (Int × Unit) ⊕ ((Unit) × (Unit))) (iter (σ := (Int × Unit) × (Unit)) (τ := (Int × Unit) ⊕ ((Unit) × (Unit))) k (fun y1 =>
        bif (decide (y1.1.1 < ((List.length x0 : Nat) : Int))) then
          bif (inR y1.1.1 ((List.length x0 : Nat) : Int)) then
            bif (!(g75 ((rd (α := WT5) zWT5 x0 y1.1.1).1))) then
              some (.inr (.inl ((5 : Int), ())))
            else
              Option.bind (α := (((Int × Unit) × (Unit)) ⊕ ((Int × Unit) ⊕ ((Unit) × (Unit)))) ⊕ ((Bool × Unit) × (Unit))) (
                  bif (decide (y1.1.1 > (0 : Int))) then
                    bif (inR (IntKind.i64.wrap (y1.1.1 - (1 : Int))) ((List.length x0 : Nat) : Int)) then
                      some (.inr ((((sLt ((rd (α := WT5) zWT5 x0 y1.1.1).1) ((rd (α := WT5) zWT5 x0 (IntKind.i64.wrap (y1.1.1 - (1 : Int)))).1)) || (sEq ((rd (α := WT5) zWT5 x0 y1.1.1).1) ((rd (α := WT5) zWT5 x0 (IntKind.i64.wrap (y1.1.1 - (1 : Int)))).1))), ()), ()))
                    else
                      none
                  else
                    some (.inr ((false, ()), ()))) fun r => match r with
              | .inl z => some z
              | .inr y2 =>
                bif y2.1.1 then
                  some (.inr (.inl ((7 : Int), ())))
                else
                  bif (g74 ((rd (α := WT5) zWT5 x0 y1.1.1).2.1) (0 : Int) (1000 : Int)) then
                    some (.inr (.inl ((1 : Int), ())))
                  else
                    bif (g74 ((rd (α := WT5) zWT5 x0 y1.1.1).2.2.1) (0 : Int) (120 : Int)) then
                      some (.inr (.inl ((1 : Int), ())))
                    else
                      some (.inl (((IntKind.i64.wrap (y1.1.1 + (1 : Int))), ()), ()))
          else
            none
        else
          some (.inr (.inr ((), ())))) (((0 : Int), ()), ())) fun r => match r with
    | .inl z => some z
    | .inr z3 =>
      some ((0 : Int), ())
def H14 : Hints where
  loop := fun n => match n with
    | 0 => some ({ slots := [(10, (.int .i64))], objs := [], gone := [] }, 0, { slots := [], objs := [], gone := [] })
    | _ => none
  region := fun n => match n with
    | 8 => some { slots := [(20, .bool)], objs := [], gone := [] }
    | _ => none
  cond := fun n => match n with
    | _ => none
  block := fun n => match n with
    | _ => none
abbrev A14 : Tys := (.cons (.slice WY1) .nil)
def ts14 : List (Nat × TD) := [(3, (.data (.int .i64))), (9, (.data .str)), (24, (.data (.slice WY1))), (32, (.data (.int .i64))), (45, (.data WY1))]
noncomputable def fs14 (g74 : Int → Int → Int → (Bool)) (g75 : ByteArray → (Bool)) : List (Nat × FSem) := [(74, .fn (.cons (.int .i64) (.cons (.int .i64) (.cons (.int .i64) .nil))) (.cons .bool .nil) fun x => ((g74 x.1 x.2.1 x.2.2.1), ())), (75, .fn (.cons .str .nil) (.cons .bool .nil) fun x => ((g75 x.1), ()))]
noncomputable def body14 : Code := match Tryz.f14.body with | some c => c | none => .skip
theorem ty14 : chkTypes Tryz.prog ts14 = true := by kernel_rfl
theorem ev14 (g74 : Int → Int → Int → (Bool)) (g75 : ByteArray → (Bool)) (k : Nat) (x : ((.cons (.slice WY1) .nil) : Tys).den) : evFun (mkEnv ts14 (fs14 g74 g75)) H14 k body14 44 [.tmp 2] (explodes (.cons (.slice WY1) .nil) x) [] (dec (.cons (.int .i64) .nil)) = f14 g74 g75 k x.1 := by kernel_rfl
/-! ### slices.Clone[[]jitney/api.Rider,jitney/api.Rider] -/
def f15  (k : Nat) (x0 : List WT5) : Option ((List WT5) × Unit) :=
  bif Nat.ble (List.length x0) 0 then
    none
  else
    bif decide (List.length ([] : List WT5) + List.length x0 ≤ 4294967296) then
      some ((([] : List WT5) ++ x0), ())
    else
      none
def H15 : Hints where
  loop := fun n => match n with
    | _ => none
  region := fun n => match n with
    | _ => none
  cond := fun n => match n with
    | _ => none
  block := fun n => match n with
    | _ => none
def ts15 : List (Nat × TD) := [(24, (.data (.slice WY1)))]
noncomputable def fs15  : List (Nat × FSem) := []
noncomputable def body15 : Code := match Tryz.f15.body with | some c => c | none => .skip
theorem ty15 : chkTypes Tryz.prog ts15 = true := by kernel_rfl
theorem ev15  (k : Nat) (x : ((.cons (.slice WY1) .nil) : Tys).den) : evFun (mkEnv ts15 (fs15 )) H15 k body15 8 [.tmp 2] (explodes (.cons (.slice WY1) .nil) x) [] (dec (.cons (.slice WY1) .nil)) = f15  k x.1 := by kernel_rfl
def s15 (l : List WT5) : Option ((List WT5) × Unit) := if l.length ≤ 4294967296 then some (l, ()) else none
/-! ### jitney/jitref2.RidersFault -/
def f16 (g36 : ByteArray → (Bool)) (g71 : Int → Int → Int → (Bool)) (k : Nat) (x0 : List WT5) : Option (Int × Unit) :=
  bif (decide (((List.length x0 : Nat) : Int) > (500 : Int))) then
    some ((2 : Int), ())
  else
    Option.bind (α := (Int × Unit) ⊕ ((Unit) × (Unit))) (iter (σ := WT2 × (Unit)) (τ := (Int × Unit) ⊕ ((Unit) × (Unit))) k (fun y1 =>
        bif (decide (y1.1.2.1 < ((List.length x0 : Nat) : Int))) then
          bif (inR y1.1.2.1 ((List.length x0 : Nat) : Int)) then
            bif (!(g36 ((rd (α := WT5) zWT5 x0 y1.1.2.1).1))) then
              some (.inr (.inl ((5 : Int), ())))
            else
              bif ((sLt ((rd (α := WT5) zWT5 x0 y1.1.2.1).1) y1.1.1) || (sEq ((rd (α := WT5) zWT5 x0 y1.1.2.1).1) y1.1.1)) then
                some (.inr (.inl ((7 : Int), ())))
              else
                bif (!(g71 ((rd (α := WT5) zWT5 x0 y1.1.2.1).2.1) (0 : Int) (1000 : Int))) then
                  some (.inr (.inl ((1 : Int), ())))
                else
                  bif (!(g71 ((rd (α := WT5) zWT5 x0 y1.1.2.1).2.2.1) (0 : Int) (120 : Int))) then
                    some (.inr (.inl ((1 : Int), ())))
                  else
                    some (.inl (((rd (α := WT5) zWT5 x0 y1.1.2.1).1, (IntKind.i64.wrap (y1.1.2.1 + (1 : Int))), ()), ()))
          else
            none
        else
          some (.inr (.inr ((), ())))) (((ByteArray.mk #[]), (0 : Int), ()), ())) fun r => match r with
    | .inl z => some z
    | .inr z2 =>
      some ((0 : Int), ())
def H16 : Hints where
  loop := fun n => match n with
    | 0 => some ({ slots := [(3, .str), (11, (.int .i64))], objs := [], gone := [] }, 0, { slots := [], objs := [], gone := [] })
    | _ => none
  region := fun n => match n with
    | _ => none
  cond := fun n => match n with
    | _ => none
  block := fun n => match n with
    | _ => none
abbrev A16 : Tys := (.cons (.slice WY1) .nil)
def ts16 : List (Nat × TD) := [(3, (.data (.int .i64))), (9, (.data .str)), (24, (.data (.slice WY1))), (32, (.data (.int .i64))), (45, (.data WY1))]
noncomputable def fs16 (g36 : ByteArray → (Bool)) (g71 : Int → Int → Int → (Bool)) : List (Nat × FSem) := [(36, .fn (.cons .str .nil) (.cons .bool .nil) fun x => ((g36 x.1), ())), (71, .fn (.cons (.int .i64) (.cons (.int .i64) (.cons (.int .i64) .nil))) (.cons .bool .nil) fun x => ((g71 x.1 x.2.1 x.2.2.1), ()))]
noncomputable def body16 : Code := match Tryz.f16.body with | some c => c | none => .skip
theorem ty16 : chkTypes Tryz.prog ts16 = true := by kernel_rfl
theorem ev16 (g36 : ByteArray → (Bool)) (g71 : Int → Int → Int → (Bool)) (k : Nat) (x : ((.cons (.slice WY1) .nil) : Tys).den) : evFun (mkEnv ts16 (fs16 g36 g71)) H16 k body16 39 [.tmp 2] (explodes (.cons (.slice WY1) .nil) x) [] (dec (.cons (.int .i64) .nil)) = f16 g36 g71 k x.1 := by kernel_rfl
/-! ### jitney/jitlaw2.errs -/
def f18  (k : Nat) (x0 : List Int) : Option (Int × Unit) :=
  Option.bind (α := (Int × Unit) ⊕ ((Unit) × (Unit))) (iter (σ := (Int × Unit) × (Unit)) (τ := (Int × Unit) ⊕ ((Unit) × (Unit))) k (fun y1 =>
      bif (decide (y1.1.1 < ((List.length x0 : Nat) : Int))) then
        bif (inR y1.1.1 ((List.length x0 : Nat) : Int)) then
          bif ((rd (α := Int) (0 : Int) x0 y1.1.1) != (0 : Int)) then
            some (.inr (.inl ((rd (α := Int) (0 : Int) x0 y1.1.1), ())))
          else
            some (.inl (((IntKind.i64.wrap (y1.1.1 + (1 : Int))), ()), ()))
        else
          none
      else
        some (.inr (.inr ((), ())))) (((0 : Int), ()), ())) fun r => match r with
  | .inl z => some z
  | .inr z2 =>
    some ((0 : Int), ())
def H18 : Hints where
  loop := fun n => match n with
    | 0 => some ({ slots := [(7, (.int .i64))], objs := [], gone := [] }, 0, { slots := [], objs := [], gone := [] })
    | _ => none
  region := fun n => match n with
    | _ => none
  cond := fun n => match n with
    | _ => none
  block := fun n => match n with
    | _ => none
abbrev A18 : Tys := (.cons (.slice (.int .i64)) .nil)
def ts18 : List (Nat × TD) := [(3, (.data (.int .i64))), (32, (.data (.int .i64))), (128, (.data (.slice (.int .i64))))]
noncomputable def fs18  : List (Nat × FSem) := []
noncomputable def body18 : Code := match Tryz.f18.body with | some c => c | none => .skip
theorem ty18 : chkTypes Tryz.prog ts18 = true := by kernel_rfl
theorem ev18  (k : Nat) (x : ((.cons (.slice (.int .i64)) .nil) : Tys).den) : evFun (mkEnv ts18 (fs18 )) H18 k body18 15 [.tmp 2] (explodes (.cons (.slice (.int .i64)) .nil) x) [] (dec (.cons (.int .i64) .nil)) = f18  k x.1 := by kernel_rfl
/-! ### jitney/jitref2.WindowFault -/
def f19 (g71 : Int → Int → Int → (Bool)) (k : Nat) (x0 : WT0) : Option (Int × Unit) :=
  bif (!(g71 x0.1 (0 : Int) x0.2.1)) then
    some ((1 : Int), ())
  else
    bif (decide (x0.2.1 > (345686400000 : Int))) then
      some ((1 : Int), ())
    else
      some ((0 : Int), ())
def H19 : Hints where
  loop := fun n => match n with
    | _ => none
  region := fun n => match n with
    | _ => none
  cond := fun n => match n with
    | _ => none
  block := fun n => match n with
    | _ => none
abbrev A19 : Tys := (.cons WY0 .nil)
def ts19 : List (Nat × TD) := [(3, (.data (.int .i64))), (30, (.data WY0)), (32, (.data (.int .i64)))]
noncomputable def fs19 (g71 : Int → Int → Int → (Bool)) : List (Nat × FSem) := [(71, .fn (.cons (.int .i64) (.cons (.int .i64) (.cons (.int .i64) .nil))) (.cons .bool .nil) fun x => ((g71 x.1 x.2.1 x.2.2.1), ()))]
noncomputable def body19 : Code := match Tryz.f19.body with | some c => c | none => .skip
theorem ty19 : chkTypes Tryz.prog ts19 = true := by kernel_rfl
theorem ev19 (g71 : Int → Int → Int → (Bool)) (k : Nat) (x : ((.cons WY0 .nil) : Tys).den) : evFun (mkEnv ts19 (fs19 g71)) H19 k body19 14 [.tmp 2] (explodes (.cons WY0 .nil) x) [] (dec (.cons (.int .i64) .nil)) = f19 g71 k x.1 := by kernel_rfl
/-! ### jitney/jitref2.ridesOf -/
def f77 (g37 : Int → (Bool)) (g107 : Int → Option (ByteArray × Unit)) (k : Nat) (x0 : (ByteArray × ByteArray × ByteArray × ByteArray × Int × Int × Int × Int × Int × Int × Int × Int × Int × (List WT3) × Unit)) : Option ((List WT6) × (List Int) × Unit) :=
  Option.bind (α := ((List WT6) × (List Int) × Unit) ⊕ (((List WT6) × (List Int) × Unit) × (Unit))) (iter (σ := ((List WT6) × (List Int) × Int × Unit) × (Unit)) (τ := ((List WT6) × (List Int) × Unit) ⊕ (((List WT6) × (List Int) × Unit) × (Unit))) k (fun y1 =>
      bif (decide (y1.1.2.2.1 ≤ x0.2.2.2.2.2.1)) then
        Option.bind (α := ((((List WT6) × (List Int) × Int × Unit) × (Unit)) ⊕ (((List WT6) × (List Int) × Unit) ⊕ (((List WT6) × (List Int) × Unit) × (Unit)))) ⊕ (WT1 × (Unit))) (
            bif decide (x0.2.2.2.2.2.2.1 = 0) then
              none
            else
              bif ((Int.tmod (IntKind.i64.wrap ((IntKind.i64.wrap (Int.tdiv y1.1.2.2.1 (7 : Int))) - (IntKind.i64.wrap (Int.tdiv x0.2.2.2.2.1 (7 : Int))))) x0.2.2.2.2.2.2.1) != (0 : Int)) then
                some (.inr (((0 : Int), true, ()), ()))
              else
                bif decide (0 ≤ (Int.tmod y1.1.2.2.1 (7 : Int))) then
                  some (.inr (((0 : Int), ((iand .i64 (Int.fdiv x0.2.2.2.2.2.2.2.1 ((2 : Int) ^ (min (Int.toNat (Int.tmod y1.1.2.2.1 (7 : Int))) 64))) (1 : Int)) == (0 : Int)), ()), ()))
                else
                  none) fun r => match r with
        | .inl z => some z
        | .inr y2 =>
          Option.bind (α := ((((List WT6) × (List Int) × Int × Unit) × (Unit)) ⊕ (((List WT6) × (List Int) × Unit) ⊕ (((List WT6) × (List Int) × Unit) × (Unit)))) ⊕ (WT1 × (Unit))) (iter (σ := WT3 × (Unit)) (τ := ((((List WT6) × (List Int) × Int × Unit) × (Unit)) ⊕ (((List WT6) × (List Int) × Unit) ⊕ (((List WT6) × (List Int) × Unit) × (Unit)))) ⊕ (WT1 × (Unit))) k (fun y3 =>
              bif (decide (y3.1.2.2.1 < ((List.length x0.2.2.2.2.2.2.2.2.2.2.2.2.2.1 : Nat) : Int))) then
                bif (inR y3.1.2.2.1 ((List.length x0.2.2.2.2.2.2.2.2.2.2.2.2.2.1 : Nat) : Int)) then
                  bif ((rd (α := WT3) zWT3 x0.2.2.2.2.2.2.2.2.2.2.2.2.2.1 y3.1.2.2.1).1 == y1.1.2.2.1) then
                    bif y3.1.2.1 then
                      some (.inl (((rd (α := WT3) zWT3 x0.2.2.2.2.2.2.2.2.2.2.2.2.2.1 y3.1.2.2.1).2.2.1, true, (IntKind.i64.wrap (y3.1.2.2.1 + (1 : Int))), ()), ()))
                    else
                      some (.inl (((rd (α := WT3) zWT3 x0.2.2.2.2.2.2.2.2.2.2.2.2.2.1 y3.1.2.2.1).2.2.1, (rd (α := WT3) zWT3 x0.2.2.2.2.2.2.2.2.2.2.2.2.2.1 y3.1.2.2.1).2.1, (IntKind.i64.wrap (y3.1.2.2.1 + (1 : Int))), ()), ()))
                  else
                    some (.inl ((y3.1.1, y3.1.2.1, (IntKind.i64.wrap (y3.1.2.2.1 + (1 : Int))), ()), ()))
                else
                  none
              else
                some (.inr (.inr ((y3.1.1, y3.1.2.1, ()), ())))) ((y2.1.1, y2.1.2.1, (0 : Int), ()), ())) fun r => match r with
          | .inl z => some z
          | .inr z4 =>
            bif z4.1.2.1 then
              some (.inl ((y1.1.1, y1.1.2.1, (IntKind.i64.wrap (y1.1.2.2.1 + (1 : Int))), ()), ()))
            else
              bif (!(g37 (IntKind.i64.wrap ((IntKind.i64.wrap ((IntKind.i64.wrap (y1.1.2.2.1 * (86400000 : Int))) + (IntKind.i64.wrap ((IntKind.i64.wrap (z4.1.1 - x0.2.2.2.2.2.2.2.2.2.2.1)) * (60000 : Int))))) + (IntKind.i64.wrap (x0.2.2.2.2.2.2.2.2.1 * (60000 : Int))))))) then
                some (.inl ((y1.1.1, y1.1.2.1, (IntKind.i64.wrap (y1.1.2.2.1 + (1 : Int))), ()), ()))
              else
                bif (decide ((IntKind.i64.wrap ((IntKind.i64.wrap ((IntKind.i64.wrap (y1.1.2.2.1 * (86400000 : Int))) + (IntKind.i64.wrap ((IntKind.i64.wrap (z4.1.1 - x0.2.2.2.2.2.2.2.2.2.2.1)) * (60000 : Int))))) + (IntKind.i64.wrap (x0.2.2.2.2.2.2.2.2.2.1 * (60000 : Int))))) > (345686400000 : Int))) then
                  some (.inl ((y1.1.1, y1.1.2.1, (IntKind.i64.wrap (y1.1.2.2.1 + (1 : Int))), ()), ()))
                else
                  bif decide (ByteArray.size x0.1 + ByteArray.size (ByteArray.mk #[45]) < 4611686018427387904) then
                    Option.bind (g107 (IntKind.i64.wrap ((10000 : Int) + y1.1.2.2.1))) fun v5 =>
                    bif (decide (0 ≤ (1 : Int)) && (decide ((1 : Int) ≤ ((ByteArray.size v5.1 : Nat) : Int)) && decide (((ByteArray.size v5.1 : Nat) : Int) ≤ ((ByteArray.size v5.1 : Nat) : Int)))) then
                      bif decide (ByteArray.size (x0.1 ++ (ByteArray.mk #[45])) + ByteArray.size (ByteArray.extract v5.1 (Int.toNat (1 : Int)) (Int.toNat ((ByteArray.size v5.1 : Nat) : Int))) < 4611686018427387904) then
                        bif decide (List.length y1.1.1 + List.length ([(((x0.1 ++ (ByteArray.mk #[45])) ++ (ByteArray.extract v5.1 (Int.toNat (1 : Int)) (Int.toNat ((ByteArray.size v5.1 : Nat) : Int)))), x0.2.1, x0.2.2.1, x0.2.2.2.1, (IntKind.i64.wrap ((IntKind.i64.wrap ((IntKind.i64.wrap (y1.1.2.2.1 * (86400000 : Int))) + (IntKind.i64.wrap ((IntKind.i64.wrap (z4.1.1 - x0.2.2.2.2.2.2.2.2.2.2.1)) * (60000 : Int))))) + (IntKind.i64.wrap (x0.2.2.2.2.2.2.2.2.1 * (60000 : Int))))), (IntKind.i64.wrap ((IntKind.i64.wrap ((IntKind.i64.wrap (y1.1.2.2.1 * (86400000 : Int))) + (IntKind.i64.wrap ((IntKind.i64.wrap (z4.1.1 - x0.2.2.2.2.2.2.2.2.2.2.1)) * (60000 : Int))))) + (IntKind.i64.wrap (x0.2.2.2.2.2.2.2.2.2.1 * (60000 : Int))))), x0.2.2.2.2.2.2.2.2.2.2.2.1, x0.2.2.2.2.2.2.2.2.2.2.2.2.1, ())]) ≤ 4294967296) then
                          bif decide (List.length y1.1.2.1 + List.length ([y1.1.2.2.1]) ≤ 4294967296) then
                            some (.inl (((y1.1.1 ++ [(((x0.1 ++ (ByteArray.mk #[45])) ++ (ByteArray.extract v5.1 (Int.toNat (1 : Int)) (Int.toNat ((ByteArray.size v5.1 : Nat) : Int)))), x0.2.1, x0.2.2.1, x0.2.2.2.1, (IntKind.i64.wrap ((IntKind.i64.wrap ((IntKind.i64.wrap (y1.1.2.2.1 * (86400000 : Int))) + (IntKind.i64.wrap ((IntKind.i64.wrap (z4.1.1 - x0.2.2.2.2.2.2.2.2.2.2.1)) * (60000 : Int))))) + (IntKind.i64.wrap (x0.2.2.2.2.2.2.2.2.1 * (60000 : Int))))), (IntKind.i64.wrap ((IntKind.i64.wrap ((IntKind.i64.wrap (y1.1.2.2.1 * (86400000 : Int))) + (IntKind.i64.wrap ((IntKind.i64.wrap (z4.1.1 - x0.2.2.2.2.2.2.2.2.2.2.1)) * (60000 : Int))))) + (IntKind.i64.wrap (x0.2.2.2.2.2.2.2.2.2.1 * (60000 : Int))))), x0.2.2.2.2.2.2.2.2.2.2.2.1, x0.2.2.2.2.2.2.2.2.2.2.2.2.1, ())]), (y1.1.2.1 ++ [y1.1.2.2.1]), (IntKind.i64.wrap (y1.1.2.2.1 + (1 : Int))), ()), ()))
                          else
                            none
                        else
                          none
                      else
                        none
                    else
                      none
                  else
                    none
      else
        some (.inr (.inr ((y1.1.1, y1.1.2.1, ()), ())))) (([], [], x0.2.2.2.2.1, ()), ())) fun r => match r with
  | .inl z => some z
  | .inr z6 =>
    some (z6.1.1, z6.1.2.1, ())
def H77 : Hints where
  loop := fun n => match n with
    | 0 => some ({ slots := [(4, (.row WY3)), (5, (.row (.int .i64))), (6, (.int .i64))], objs := [], gone := [] }, 0, { slots := [(4, (.row WY3)), (5, (.row (.int .i64)))], objs := [], gone := [] })
    | 2 => some ({ slots := [(7, (.int .i64)), (8, .bool), (43, (.int .i64))], objs := [], gone := [] }, 2, { slots := [(7, (.int .i64)), (8, .bool)], objs := [], gone := [] })
    | _ => none
  region := fun n => match n with
    | 6 => some { slots := [(7, (.int .i64)), (8, .bool)], objs := [], gone := [] }
    | _ => none
  cond := fun n => match n with
    | _ => none
  block := fun n => match n with
    | _ => none
abbrev A77 : Tys := (.cons WY4 .nil)
def ts77 : List (Nat × TD) := [(3, (.data (.int .i64))), (4, (.data .bool)), (9, (.data .str)), (23, (.data WY3)), (26, (.data (.slice WY2))), (28, (.data WY4)), (31, (.data (.slice (.int .i64)))), (36, (.data (.slice WY3))), (117, (.data WY2))]
noncomputable def fs77 (g37 : Int → (Bool)) (g107 : Int → Option (ByteArray × Unit)) : List (Nat × FSem) := [(37, .fn (.cons (.int .i64) .nil) (.cons .bool .nil) fun x => ((g37 x.1), ())), (107, .pfn (.cons (.int .i64) .nil) (.cons .str .nil) fun x => (g107 x.1))]
noncomputable def body77 : Code := match Tryz.f77.body with | some c => c | none => .skip
theorem ty77 : chkTypes Tryz.prog ts77 = true := by kernel_rfl
theorem ev77 (g37 : Int → (Bool)) (g107 : Int → Option (ByteArray × Unit)) (k : Nat) (x : ((.cons WY4 .nil) : Tys).den) : evFun (mkEnv ts77 (fs77 g37 g107)) H77 k body77 119 [.tmp 2, .tmp 3] (explodes (.cons WY4 .nil) x) [] (dec (.cons (.slice WY3) (.cons (.slice (.int .i64)) .nil))) = f77 g37 g107 k x.1 := by kernel_rfl
/-! ### jitney/jitref2.DaysOf -/
def f20 (g77 : (ByteArray × ByteArray × ByteArray × ByteArray × Int × Int × Int × Int × Int × Int × Int × Int × Int × (List WT3) × Unit) → Option ((List WT6) × (List Int) × Unit)) (k : Nat) (x0 : (ByteArray × ByteArray × ByteArray × ByteArray × Int × Int × Int × Int × Int × Int × Int × Int × Int × (List WT3) × Unit)) : Option ((List Int) × Unit) :=
  Option.bind (g77 x0) fun v1 =>
  some (v1.2.1, ())
def H20 : Hints where
  loop := fun n => match n with
    | _ => none
  region := fun n => match n with
    | _ => none
  cond := fun n => match n with
    | _ => none
  block := fun n => match n with
    | _ => none
abbrev A20 : Tys := (.cons WY4 .nil)
def ts20 : List (Nat × TD) := [(28, (.data WY4)), (31, (.data (.slice (.int .i64))))]
noncomputable def fs20 (g77 : (ByteArray × ByteArray × ByteArray × ByteArray × Int × Int × Int × Int × Int × Int × Int × Int × Int × (List WT3) × Unit) → Option ((List WT6) × (List Int) × Unit)) : List (Nat × FSem) := [(77, .pfn (.cons WY4 .nil) (.cons (.slice WY3) (.cons (.slice (.int .i64)) .nil)) fun x => (g77 x.1))]
noncomputable def body20 : Code := match Tryz.f20.body with | some c => c | none => .skip
theorem ty20 : chkTypes Tryz.prog ts20 = true := by kernel_rfl
theorem ev20 (g77 : (ByteArray × ByteArray × ByteArray × ByteArray × Int × Int × Int × Int × Int × Int × Int × Int × Int × (List WT3) × Unit) → Option ((List WT6) × (List Int) × Unit)) (k : Nat) (x : ((.cons WY4 .nil) : Tys).den) : evFun (mkEnv ts20 (fs20 g77)) H20 k body20 11 [.tmp 2] (explodes (.cons WY4 .nil) x) [] (dec (.cons (.slice (.int .i64)) .nil)) = f20 g77 k x.1 := by kernel_rfl
/-! ### jitney/jitref2.sign -/
def f138  (k : Nat) (x0 : Int) : Option (Int × Unit) :=
  bif (decide (x0 < (0 : Int))) then
    some ((-1 : Int), ())
  else
    bif (decide (x0 > (0 : Int))) then
      some ((1 : Int), ())
    else
      some ((0 : Int), ())
def H138 : Hints where
  loop := fun n => match n with
    | _ => none
  region := fun n => match n with
    | _ => none
  cond := fun n => match n with
    | _ => none
  block := fun n => match n with
    | _ => none
abbrev A138 : Tys := (.cons (.int .i64) .nil)
def ts138 : List (Nat × TD) := [(3, (.data (.int .i64)))]
noncomputable def fs138  : List (Nat × FSem) := []
noncomputable def body138 : Code := match Tryz.f138.body with | some c => c | none => .skip
theorem ty138 : chkTypes Tryz.prog ts138 = true := by kernel_rfl
theorem ev138  (k : Nat) (x : ((.cons (.int .i64) .nil) : Tys).den) : evFun (mkEnv ts138 (fs138 )) H138 k body138 9 [.tmp 2] (explodes (.cons (.int .i64) .nil) x) [] (dec (.cons (.int .i64) .nil)) = f138  k x.1 := by kernel_rfl
/-! ### jitney/jitref2.RideOrder -/
def f81 (g68 : ByteArray → ByteArray → (Int)) (g138 : Int → (Int)) (k : Nat) (x0 : WT6) (x1 : WT6) : Option (Int × Unit) :=
  bif (x0.2.2.2.2.1 != x1.2.2.2.2.1) then
    some ((g138 (IntKind.i64.wrap (x0.2.2.2.2.1 - x1.2.2.2.2.1))), ())
  else
    some ((g68 x0.1 x1.1), ())
def H81 : Hints where
  loop := fun n => match n with
    | _ => none
  region := fun n => match n with
    | _ => none
  cond := fun n => match n with
    | _ => none
  block := fun n => match n with
    | _ => none
abbrev A81 : Tys := (.cons WY3 (.cons WY3 .nil))
def ts81 : List (Nat × TD) := [(3, (.data (.int .i64))), (9, (.data .str)), (23, (.data WY3))]
noncomputable def fs81 (g68 : ByteArray → ByteArray → (Int)) (g138 : Int → (Int)) : List (Nat × FSem) := [(68, .fn (.cons .str (.cons .str .nil)) (.cons (.int .i64) .nil) fun x => ((g68 x.1 x.2.1), ())), (138, .fn (.cons (.int .i64) .nil) (.cons (.int .i64) .nil) fun x => ((g138 x.1), ()))]
noncomputable def body81 : Code := match Tryz.f81.body with | some c => c | none => .skip
theorem ty81 : chkTypes Tryz.prog ts81 = true := by kernel_rfl
theorem ev81 (g68 : ByteArray → ByteArray → (Int)) (g138 : Int → (Int)) (k : Nat) (x : ((.cons WY3 (.cons WY3 .nil)) : Tys).den) : evFun (mkEnv ts81 (fs81 g68 g138)) H81 k body81 21 [.tmp 4] (explodes (.cons WY3 (.cons WY3 .nil)) x) [] (dec (.cons (.int .i64) .nil)) = f81 g68 g138 k x.1 x.2.1 := by kernel_rfl
/-! ### jitney/jitref2.inside -/
def f80  (k : Nat) (x0 : Int) (x1 : WT0) : Option (Bool × Unit) :=
  bif (decide (x1.1 ≤ x0)) then
    some ((decide (x0 < x1.2.1)), ())
  else
    some (false, ())
def H80 : Hints where
  loop := fun n => match n with
    | _ => none
  region := fun n => match n with
    | _ => none
  cond := fun n => match n with
    | _ => none
  block := fun n => match n with
    | _ => none
abbrev A80 : Tys := (.cons (.int .i64) (.cons WY0 .nil))
def ts80 : List (Nat × TD) := [(3, (.data (.int .i64))), (4, (.data .bool)), (30, (.data WY0))]
noncomputable def fs80  : List (Nat × FSem) := []
noncomputable def body80 : Code := match Tryz.f80.body with | some c => c | none => .skip
theorem ty80 : chkTypes Tryz.prog ts80 = true := by kernel_rfl
theorem ev80  (k : Nat) (x : ((.cons (.int .i64) (.cons WY0 .nil)) : Tys).den) : evFun (mkEnv ts80 (fs80 )) H80 k body80 15 [.tmp 4] (explodes (.cons (.int .i64) (.cons WY0 .nil)) x) [] (dec (.cons .bool .nil)) = f80  k x.1 x.2.1 := by kernel_rfl
/-! ### jitney/jitref2.RidesIn -/
def f21 (g37 : Int → (Bool)) (g64_81 : List WT6 → Option (List WT6)) (g80 : Int → WT0 → (Bool)) (g107 : Int → Option (ByteArray × Unit)) (k : Nat) (x0 : (ByteArray × ByteArray × ByteArray × ByteArray × Int × Int × Int × Int × Int × Int × Int × Int × Int × (List WT3) × Unit)) (x1 : WT0) : Option ((List WT6) × Unit) :=
  Option.bind (α := ((List WT6) × Unit) ⊕ (((List WT6) × (List Int) × Unit) × (Unit))) (iter (σ := ((List WT6) × (List Int) × Int × Unit) × (Unit)) (τ := ((List WT6) × Unit) ⊕ (((List WT6) × (List Int) × Unit) × (Unit))) k (fun y1 =>
      bif (decide (y1.1.2.2.1 ≤ x0.2.2.2.2.2.1)) then
        Option.bind (α := ((((List WT6) × (List Int) × Int × Unit) × (Unit)) ⊕ (((List WT6) × Unit) ⊕ (((List WT6) × (List Int) × Unit) × (Unit)))) ⊕ (WT1 × (Unit))) (
            bif decide (x0.2.2.2.2.2.2.1 = 0) then
              none
            else
              bif ((Int.tmod (IntKind.i64.wrap ((IntKind.i64.wrap (Int.tdiv y1.1.2.2.1 (7 : Int))) - (IntKind.i64.wrap (Int.tdiv x0.2.2.2.2.1 (7 : Int))))) x0.2.2.2.2.2.2.1) != (0 : Int)) then
                some (.inr (((0 : Int), true, ()), ()))
              else
                bif decide (0 ≤ (Int.tmod y1.1.2.2.1 (7 : Int))) then
                  some (.inr (((0 : Int), ((iand .i64 (Int.fdiv x0.2.2.2.2.2.2.2.1 ((2 : Int) ^ (min (Int.toNat (Int.tmod y1.1.2.2.1 (7 : Int))) 64))) (1 : Int)) == (0 : Int)), ()), ()))
                else
                  none) fun r => match r with
        | .inl z => some z
        | .inr y2 =>
          Option.bind (α := ((((List WT6) × (List Int) × Int × Unit) × (Unit)) ⊕ (((List WT6) × Unit) ⊕ (((List WT6) × (List Int) × Unit) × (Unit)))) ⊕ (WT1 × (Unit))) (iter (σ := WT3 × (Unit)) (τ := ((((List WT6) × (List Int) × Int × Unit) × (Unit)) ⊕ (((List WT6) × Unit) ⊕ (((List WT6) × (List Int) × Unit) × (Unit)))) ⊕ (WT1 × (Unit))) k (fun y3 =>
              bif (decide (y3.1.2.2.1 < ((List.length x0.2.2.2.2.2.2.2.2.2.2.2.2.2.1 : Nat) : Int))) then
                bif (inR y3.1.2.2.1 ((List.length x0.2.2.2.2.2.2.2.2.2.2.2.2.2.1 : Nat) : Int)) then
                  bif ((rd (α := WT3) zWT3 x0.2.2.2.2.2.2.2.2.2.2.2.2.2.1 y3.1.2.2.1).1 == y1.1.2.2.1) then
                    bif y3.1.2.1 then
                      some (.inl (((rd (α := WT3) zWT3 x0.2.2.2.2.2.2.2.2.2.2.2.2.2.1 y3.1.2.2.1).2.2.1, true, (IntKind.i64.wrap (y3.1.2.2.1 + (1 : Int))), ()), ()))
                    else
                      some (.inl (((rd (α := WT3) zWT3 x0.2.2.2.2.2.2.2.2.2.2.2.2.2.1 y3.1.2.2.1).2.2.1, (rd (α := WT3) zWT3 x0.2.2.2.2.2.2.2.2.2.2.2.2.2.1 y3.1.2.2.1).2.1, (IntKind.i64.wrap (y3.1.2.2.1 + (1 : Int))), ()), ()))
                  else
                    some (.inl ((y3.1.1, y3.1.2.1, (IntKind.i64.wrap (y3.1.2.2.1 + (1 : Int))), ()), ()))
                else
                  none
              else
                some (.inr (.inr ((y3.1.1, y3.1.2.1, ()), ())))) ((y2.1.1, y2.1.2.1, (0 : Int), ()), ())) fun r => match r with
          | .inl z => some z
          | .inr z4 =>
            bif z4.1.2.1 then
              some (.inl ((y1.1.1, y1.1.2.1, (IntKind.i64.wrap (y1.1.2.2.1 + (1 : Int))), ()), ()))
            else
              bif (!(g37 (IntKind.i64.wrap ((IntKind.i64.wrap ((IntKind.i64.wrap (y1.1.2.2.1 * (86400000 : Int))) + (IntKind.i64.wrap ((IntKind.i64.wrap (z4.1.1 - x0.2.2.2.2.2.2.2.2.2.2.1)) * (60000 : Int))))) + (IntKind.i64.wrap (x0.2.2.2.2.2.2.2.2.1 * (60000 : Int))))))) then
                some (.inl ((y1.1.1, y1.1.2.1, (IntKind.i64.wrap (y1.1.2.2.1 + (1 : Int))), ()), ()))
              else
                bif (decide ((IntKind.i64.wrap ((IntKind.i64.wrap ((IntKind.i64.wrap (y1.1.2.2.1 * (86400000 : Int))) + (IntKind.i64.wrap ((IntKind.i64.wrap (z4.1.1 - x0.2.2.2.2.2.2.2.2.2.2.1)) * (60000 : Int))))) + (IntKind.i64.wrap (x0.2.2.2.2.2.2.2.2.2.1 * (60000 : Int))))) > (345686400000 : Int))) then
                  some (.inl ((y1.1.1, y1.1.2.1, (IntKind.i64.wrap (y1.1.2.2.1 + (1 : Int))), ()), ()))
                else
                  bif decide (ByteArray.size x0.1 + ByteArray.size (ByteArray.mk #[45]) < 4611686018427387904) then
                    Option.bind (g107 (IntKind.i64.wrap ((10000 : Int) + y1.1.2.2.1))) fun v5 =>
                    bif (decide (0 ≤ (1 : Int)) && (decide ((1 : Int) ≤ ((ByteArray.size v5.1 : Nat) : Int)) && decide (((ByteArray.size v5.1 : Nat) : Int) ≤ ((ByteArray.size v5.1 : Nat) : Int)))) then
                      bif decide (ByteArray.size (x0.1 ++ (ByteArray.mk #[45])) + ByteArray.size (ByteArray.extract v5.1 (Int.toNat (1 : Int)) (Int.toNat ((ByteArray.size v5.1 : Nat) : Int))) < 4611686018427387904) then
                        bif decide (List.length y1.1.1 + List.length ([(((x0.1 ++ (ByteArray.mk #[45])) ++ (ByteArray.extract v5.1 (Int.toNat (1 : Int)) (Int.toNat ((ByteArray.size v5.1 : Nat) : Int)))), x0.2.1, x0.2.2.1, x0.2.2.2.1, (IntKind.i64.wrap ((IntKind.i64.wrap ((IntKind.i64.wrap (y1.1.2.2.1 * (86400000 : Int))) + (IntKind.i64.wrap ((IntKind.i64.wrap (z4.1.1 - x0.2.2.2.2.2.2.2.2.2.2.1)) * (60000 : Int))))) + (IntKind.i64.wrap (x0.2.2.2.2.2.2.2.2.1 * (60000 : Int))))), (IntKind.i64.wrap ((IntKind.i64.wrap ((IntKind.i64.wrap (y1.1.2.2.1 * (86400000 : Int))) + (IntKind.i64.wrap ((IntKind.i64.wrap (z4.1.1 - x0.2.2.2.2.2.2.2.2.2.2.1)) * (60000 : Int))))) + (IntKind.i64.wrap (x0.2.2.2.2.2.2.2.2.2.1 * (60000 : Int))))), x0.2.2.2.2.2.2.2.2.2.2.2.1, x0.2.2.2.2.2.2.2.2.2.2.2.2.1, ())]) ≤ 4294967296) then
                          bif decide (List.length y1.1.2.1 + List.length ([y1.1.2.2.1]) ≤ 4294967296) then
                            some (.inl (((y1.1.1 ++ [(((x0.1 ++ (ByteArray.mk #[45])) ++ (ByteArray.extract v5.1 (Int.toNat (1 : Int)) (Int.toNat ((ByteArray.size v5.1 : Nat) : Int)))), x0.2.1, x0.2.2.1, x0.2.2.2.1, (IntKind.i64.wrap ((IntKind.i64.wrap ((IntKind.i64.wrap (y1.1.2.2.1 * (86400000 : Int))) + (IntKind.i64.wrap ((IntKind.i64.wrap (z4.1.1 - x0.2.2.2.2.2.2.2.2.2.2.1)) * (60000 : Int))))) + (IntKind.i64.wrap (x0.2.2.2.2.2.2.2.2.1 * (60000 : Int))))), (IntKind.i64.wrap ((IntKind.i64.wrap ((IntKind.i64.wrap (y1.1.2.2.1 * (86400000 : Int))) + (IntKind.i64.wrap ((IntKind.i64.wrap (z4.1.1 - x0.2.2.2.2.2.2.2.2.2.2.1)) * (60000 : Int))))) + (IntKind.i64.wrap (x0.2.2.2.2.2.2.2.2.2.1 * (60000 : Int))))), x0.2.2.2.2.2.2.2.2.2.2.2.1, x0.2.2.2.2.2.2.2.2.2.2.2.2.1, ())]), (y1.1.2.1 ++ [y1.1.2.2.1]), (IntKind.i64.wrap (y1.1.2.2.1 + (1 : Int))), ()), ()))
                          else
                            none
                        else
                          none
                      else
                        none
                    else
                      none
                  else
                    none
      else
        some (.inr (.inr ((y1.1.1, y1.1.2.1, ()), ())))) (([], [], x0.2.2.2.2.1, ()), ())) fun r => match r with
  | .inl z => some z
  | .inr z6 =>
    Option.bind (α := ((List WT6) × Unit) ⊕ (((List WT6) × Unit) × WT4)) (
        Option.bind (α := (((List WT6) × Unit) ⊕ (((List WT6) × Unit) × WT4)) ⊕ ((Int × Unit) × ((List WT6) × WT0 × Unit))) (
            Option.bind (α := ((((List WT6) × Unit) ⊕ (((List WT6) × Unit) × WT4)) ⊕ ((Int × Unit) × ((List WT6) × WT0 × Unit))) ⊕ ((Unit) × WT4)) (iter (σ := (Int × Unit) × WT4) (τ := ((((List WT6) × Unit) ⊕ (((List WT6) × Unit) × WT4)) ⊕ ((Int × Unit) × ((List WT6) × WT0 × Unit))) ⊕ ((Unit) × WT4)) k (fun y7 =>
                bif (decide (y7.1.1 < ((List.length z6.1.1 : Nat) : Int))) then
                  bif (inR y7.1.1 ((List.length z6.1.1 : Nat) : Int)) then
                    bif (inR y7.1.1 ((List.length z6.1.1 : Nat) : Int)) then
                      bif (!(g80 ((rd (α := WT6) zWT6 z6.1.1 y7.1.1).2.2.2.2.1) (y7.2.1.1, y7.2.1.2.1, ()))) then
                        some (.inr (.inl (.inr ((y7.1.1, ()), (z6.1.1, (y7.2.1.1, y7.2.1.2.1, ()), ())))))
                      else
                        some (.inl (((IntKind.i64.wrap (y7.1.1 + (1 : Int))), ()), ((y7.2.1.1, y7.2.1.2.1, ()), ())))
                    else
                      none
                  else
                    none
                else
                  some (.inr (.inr ((), ((y7.2.1.1, y7.2.1.2.1, ()), ()))))) (((0 : Int), ()), (x1, ()))) fun r => match r with
            | .inl z => some z
            | .inr z8 =>
              some (.inr (((-1 : Int), ()), (z6.1.1, (z8.2.1.1, z8.2.1.2.1, ()), ())))) fun r => match r with
        | .inl z => some z
        | .inr y9 =>
          bif (y9.1.1 == (-1 : Int)) then
            some (.inr ((y9.2.1, ()), ((y9.2.2.1.1, y9.2.2.1.2.1, ()), ())))
          else
            Option.bind (α := (((List WT6) × Unit) ⊕ (((List WT6) × Unit) × WT4)) ⊕ ((Int × Unit) × ((List WT6) × WT0 × Unit))) (iter (σ := WT0 × ((List WT6) × WT0 × Unit)) (τ := (((List WT6) × Unit) ⊕ (((List WT6) × Unit) × WT4)) ⊕ ((Int × Unit) × ((List WT6) × WT0 × Unit))) k (fun y10 =>
                bif (decide (y10.1.2.1 < ((List.length y10.2.1 : Nat) : Int))) then
                  bif (inR y10.1.2.1 ((List.length y10.2.1 : Nat) : Int)) then
                    bif (inR y10.1.2.1 ((List.length y10.2.1 : Nat) : Int)) then
                      bif (!(!(g80 ((rd (α := WT6) zWT6 y10.2.1 y10.1.2.1).2.2.2.2.1) (y10.2.2.1.1, y10.2.2.1.2.1, ())))) then
                        bif (inR y10.1.1 ((List.length y10.2.1 : Nat) : Int)) then
                          bif (inR y10.1.1 ((List.length y10.2.1 : Nat) : Int)) then
                            some (.inl (((IntKind.i64.wrap (y10.1.1 + (1 : Int))), (IntKind.i64.wrap (y10.1.2.1 + (1 : Int))), ()), ((List.set y10.2.1 (Int.toNat y10.1.1) (rd (α := WT6) zWT6 y10.2.1 y10.1.2.1)), (y10.2.2.1.1, y10.2.2.1.2.1, ()), ())))
                          else
                            none
                        else
                          none
                      else
                        some (.inl ((y10.1.1, (IntKind.i64.wrap (y10.1.2.1 + (1 : Int))), ()), (y10.2.1, (y10.2.2.1.1, y10.2.2.1.2.1, ()), ())))
                    else
                      none
                  else
                    none
                else
                  some (.inr (.inr ((y10.1.1, ()), (y10.2.1, (y10.2.2.1.1, y10.2.2.1.2.1, ()), ()))))) ((y9.1.1, (IntKind.i64.wrap (y9.1.1 + (1 : Int))), ()), (y9.2.1, (y9.2.2.1.1, y9.2.2.1.2.1, ()), ()))) fun r => match r with
            | .inl z => some z
            | .inr z11 =>
              bif (decide (0 ≤ z11.1.1) && (decide (z11.1.1 ≤ ((List.length z11.2.1 : Nat) : Int)) && decide (((List.length z11.2.1 : Nat) : Int) ≤ ((List.length z11.2.1 : Nat) : Int)))) then
                bif (decide (0 ≤ (0 : Int)) && (decide ((0 : Int) ≤ z11.1.1) && decide (z11.1.1 ≤ ((List.length (List.take (Int.toNat z11.1.1) z11.2.1 ++ (List.replicate (Int.toNat (((List.length z11.2.1 : Nat) : Int) - z11.1.1)) zWT6 ++ List.drop (Int.toNat ((List.length z11.2.1 : Nat) : Int)) z11.2.1)) : Nat) : Int)))) then
                  some (.inr (((List.drop (Int.toNat (0 : Int)) (List.take (Int.toNat z11.1.1) (List.take (Int.toNat z11.1.1) z11.2.1 ++ (List.replicate (Int.toNat (((List.length z11.2.1 : Nat) : Int) - z11.1.1)) zWT6 ++ List.drop (Int.toNat ((List.length z11.2.1 : Nat) : Int)) z11.2.1)))), ()), ((z11.2.2.1.1, z11.2.2.1.2.1, ()), ())))
                else
                  none
              else
                none) fun r => match r with
    | .inl z => some z
    | .inr y12 =>
      Option.bind (g64_81 y12.1.1) fun v13 =>
      some (v13, ())
def H21 : Hints where
  loop := fun n => match n with
    | _ => none
  region := fun n => match n with
    | 2 => some { slots := [(5, (.row WY3))], objs := [(1, (.box (.data WY0) (.agg (.cons (.int .i64) (.cons (.int .i64) .nil)))))], gone := [3] }
    | _ => none
  cond := fun n => match n with
    | _ => none
  block := fun n => match n with
    | _ => none
def Hi21_77 : Hints where
  loop := fun n => match n with
    | 0 => some ({ slots := [(4, (.row WY3)), (5, (.row (.int .i64))), (6, (.int .i64))], objs := [], gone := [] }, 0, { slots := [(4, (.row WY3)), (5, (.row (.int .i64)))], objs := [], gone := [] })
    | 2 => some ({ slots := [(7, (.int .i64)), (8, .bool), (43, (.int .i64))], objs := [], gone := [] }, 2, { slots := [(7, (.int .i64)), (8, .bool)], objs := [], gone := [] })
    | _ => none
  region := fun n => match n with
    | 6 => some { slots := [(7, (.int .i64)), (8, .bool)], objs := [], gone := [] }
    | _ => none
  cond := fun n => match n with
    | _ => none
  block := fun n => match n with
    | _ => none
def tsi21_77 : List (Nat × TD) := [(3, (.data (.int .i64))), (4, (.data .bool)), (9, (.data .str)), (23, (.data WY3)), (26, (.data (.slice WY2))), (28, (.data WY4)), (31, (.data (.slice (.int .i64)))), (36, (.data (.slice WY3))), (117, (.data WY2))]
noncomputable def bodyi21_77 : Code := match Tryz.f77.body with | some c => c | none => .skip
noncomputable def fsi21_77 (g37 : Int → (Bool)) (g64_81 : List WT6 → Option (List WT6)) (g80 : Int → WT0 → (Bool)) (g107 : Int → Option (ByteArray × Unit)) (k : Nat) : List (Nat × FSem) := [(37, .fn (.cons (.int .i64) .nil) (.cons .bool .nil) fun x => ((g37 x.1), ())), (107, .pfn (.cons (.int .i64) .nil) (.cons .str .nil) fun x => (g107 x.1))]
theorem tyi21_77 : chkTypes Tryz.prog tsi21_77 = true := by kernel_rfl
def Hi21_79 : Hints where
  loop := fun n => match n with
    | _ => none
  region := fun n => match n with
    | _ => none
  cond := fun n => match n with
    | _ => none
  block := fun n => match n with
    | _ => none
def tsi21_79 : List (Nat × TD) := [(3, (.data (.int .i64))), (23, (.data WY3)), (30, (.data WY0))]
noncomputable def bodyi21_79 : Code := match Tryz.f79.body with | some c => c | none => .skip
noncomputable def fsi21_79 (g37 : Int → (Bool)) (g64_81 : List WT6 → Option (List WT6)) (g80 : Int → WT0 → (Bool)) (g107 : Int → Option (ByteArray × Unit)) (k : Nat) : List (Nat × FSem) := [(80, .fn (.cons (.int .i64) (.cons WY0 .nil)) (.cons .bool .nil) fun x => ((g80 x.1 x.2.1), ()))]
theorem tyi21_79 : chkTypes Tryz.prog tsi21_79 = true := by kernel_rfl
def Hi21_137 : Hints where
  loop := fun n => match n with
    | 0 => some ({ slots := [(8, (.int .i64))], objs := [(1, (.box (.data WY0) (.agg (.cons (.int .i64) (.cons (.int .i64) .nil)))))], gone := [] }, 0, { slots := [], objs := [(1, (.box (.data WY0) (.agg (.cons (.int .i64) (.cons (.int .i64) .nil)))))], gone := [] })
    | _ => none
  region := fun n => match n with
    | _ => none
  cond := fun n => match n with
    | _ => none
  block := fun n => match n with
    | _ => none
def tsi21_137 : List (Nat × TD) := [(3, (.data (.int .i64))), (23, (.data WY3)), (36, (.data (.slice WY3)))]
noncomputable def bodyi21_137 : Code := match Tryz.f137.body with | some c => c | none => .skip
noncomputable def fsi21_137 (g37 : Int → (Bool)) (g64_81 : List WT6 → Option (List WT6)) (g80 : Int → WT0 → (Bool)) (g107 : Int → Option (ByteArray × Unit)) (k : Nat) : List (Nat × FSem) := [(79, .ev (mkEnv tsi21_79 (fsi21_79 g37 g64_81 g80 g107 k)) Hi21_79 k bodyi21_79 9 [.tmp 3])]
theorem tyi21_137 : chkTypes Tryz.prog tsi21_137 = true := by kernel_rfl
def Hi21_78 : Hints where
  loop := fun n => match n with
    | 0 => some ({ slots := [(5, (.int .i64)), (6, (.int .i64))], objs := [(0, (.row WY3)), (1, (.box (.data WY0) (.agg (.cons (.int .i64) (.cons (.int .i64) .nil)))))], gone := [] }, 0, { slots := [(5, (.int .i64))], objs := [(0, (.row WY3)), (1, (.box (.data WY0) (.agg (.cons (.int .i64) (.cons (.int .i64) .nil)))))], gone := [] })
    | _ => none
  region := fun n => match n with
    | 1 => some { slots := [(5, (.int .i64))], objs := [(0, (.row WY3)), (1, (.box (.data WY0) (.agg (.cons (.int .i64) (.cons (.int .i64) .nil)))))], gone := [] }
    | _ => none
  cond := fun n => match n with
    | _ => none
  block := fun n => match n with
    | _ => none
def tsi21_78 : List (Nat × TD) := [(3, (.data (.int .i64))), (23, (.data WY3)), (36, (.data (.slice WY3)))]
noncomputable def bodyi21_78 : Code := match Tryz.f78.body with | some c => c | none => .skip
noncomputable def fsi21_78 (g37 : Int → (Bool)) (g64_81 : List WT6 → Option (List WT6)) (g80 : Int → WT0 → (Bool)) (g107 : Int → Option (ByteArray × Unit)) (k : Nat) : List (Nat × FSem) := [(79, .ev (mkEnv tsi21_79 (fsi21_79 g37 g64_81 g80 g107 k)) Hi21_79 k bodyi21_79 9 [.tmp 3]), (137, .ev (mkEnv tsi21_137 (fsi21_137 g37 g64_81 g80 g107 k)) Hi21_137 k bodyi21_137 19 [.tmp 4])]
theorem tyi21_78 : chkTypes Tryz.prog tsi21_78 = true := by kernel_rfl
abbrev A21 : Tys := (.cons WY4 (.cons WY0 .nil))
def ts21 : List (Nat × TD) := [(28, (.data WY4)), (30, (.data WY0)), (36, (.data (.slice WY3)))]
noncomputable def fs21 (g37 : Int → (Bool)) (g64_81 : List WT6 → Option (List WT6)) (g80 : Int → WT0 → (Bool)) (g107 : Int → Option (ByteArray × Unit)) (k : Nat) : List (Nat × FSem) := [(64, .rfn WY3 .nil 81 fun xs a => g64_81 xs ), (77, .ev (mkEnv tsi21_77 (fsi21_77 g37 g64_81 g80 g107 k)) Hi21_77 k bodyi21_77 119 [.tmp 2, .tmp 3]), (78, .ev (mkEnvV tsi21_78 (fsi21_78 g37 g64_81 g80 g107 k)) Hi21_78 k bodyi21_78 42 [.tmp 4])]
noncomputable def body21 : Code := match Tryz.f21.body with | some c => c | none => .skip
theorem ty21 : chkTypes Tryz.prog ts21 = true := by kernel_rfl
theorem ev21 (g37 : Int → (Bool)) (g64_81 : List WT6 → Option (List WT6)) (g80 : Int → WT0 → (Bool)) (g107 : Int → Option (ByteArray × Unit)) (k : Nat) (x : ((.cons WY4 (.cons WY0 .nil)) : Tys).den) : evFun (mkEnv ts21 (fs21 g37 g64_81 g80 g107 k)) H21 k body21 18 [.tmp 4] (explodes (.cons WY4 (.cons WY0 .nil)) x) [] (dec (.cons (.slice WY3) .nil)) = f21 g37 g64_81 g80 g107 k x.1 x.2.1 := by kernel_rfl
/-! ### slices.Index[[]int,int] -/
def f82  (k : Nat) (x0 : List Int) (x1 : Int) : Option (Int × Unit) :=
  Option.bind (α := (Int × Unit) ⊕ ((Unit) × (Unit))) (iter (σ := (Int × Unit) × (Unit)) (τ := (Int × Unit) ⊕ ((Unit) × (Unit))) k (fun y1 =>
      bif (decide (y1.1.1 < ((List.length x0 : Nat) : Int))) then
        bif (inR y1.1.1 ((List.length x0 : Nat) : Int)) then
          bif (x1 == (rd (α := Int) (0 : Int) x0 y1.1.1)) then
            some (.inr (.inl (y1.1.1, ())))
          else
            some (.inl (((IntKind.i64.wrap (y1.1.1 + (1 : Int))), ()), ()))
        else
          none
      else
        some (.inr (.inr ((), ())))) (((0 : Int), ()), ())) fun r => match r with
  | .inl z => some z
  | .inr z2 =>
    some ((-1 : Int), ())
def H82 : Hints where
  loop := fun n => match n with
    | 0 => some ({ slots := [(8, (.int .i64))], objs := [], gone := [] }, 0, { slots := [], objs := [], gone := [] })
    | _ => none
  region := fun n => match n with
    | _ => none
  cond := fun n => match n with
    | _ => none
  block := fun n => match n with
    | _ => none
abbrev A82 : Tys := (.cons (.slice (.int .i64)) (.cons (.int .i64) .nil))
def ts82 : List (Nat × TD) := [(3, (.data (.int .i64))), (31, (.data (.slice (.int .i64))))]
noncomputable def fs82  : List (Nat × FSem) := []
noncomputable def body82 : Code := match Tryz.f82.body with | some c => c | none => .skip
theorem ty82 : chkTypes Tryz.prog ts82 = true := by kernel_rfl
theorem ev82  (k : Nat) (x : ((.cons (.slice (.int .i64)) (.cons (.int .i64) .nil)) : Tys).den) : evFun (mkEnv ts82 (fs82 )) H82 k body82 19 [.tmp 4] (explodes (.cons (.slice (.int .i64)) (.cons (.int .i64) .nil)) x) [] (dec (.cons (.int .i64) .nil)) = f82  k x.1 x.2.1 := by kernel_rfl
/-! ### jitney/jitref2.meet -/
def f83  (k : Nat) (x0 : WT6) (x1 : WT6) : Option (Bool × Unit) :=
  some ((decide ((if (decide (x1.2.2.2.2.1 > x0.2.2.2.2.1)) then x1.2.2.2.2.1 else x0.2.2.2.2.1) < (if (decide (x1.2.2.2.2.2.1 < x0.2.2.2.2.2.1)) then x1.2.2.2.2.2.1 else x0.2.2.2.2.2.1))), ())
def H83 : Hints where
  loop := fun n => match n with
    | _ => none
  region := fun n => match n with
    | _ => none
  cond := fun n => match n with
    | _ => none
  block := fun n => match n with
    | _ => none
abbrev A83 : Tys := (.cons WY3 (.cons WY3 .nil))
def ts83 : List (Nat × TD) := [(3, (.data (.int .i64))), (4, (.data .bool)), (23, (.data WY3))]
noncomputable def fs83  : List (Nat × FSem) := []
noncomputable def body83 : Code := match Tryz.f83.body with | some c => c | none => .skip
theorem ty83 : chkTypes Tryz.prog ts83 = true := by kernel_rfl
theorem ev83  (k : Nat) (x : ((.cons WY3 (.cons WY3 .nil)) : Tys).den) : evFun (mkEnv ts83 (fs83 )) H83 k body83 16 [.tmp 4] (explodes (.cons WY3 (.cons WY3 .nil)) x) [] (dec (.cons .bool .nil)) = f83  k x.1 x.2.1 := by kernel_rfl
/-! ### jitney/jitref2.SameOf -/
def f22 (g77 : (ByteArray × ByteArray × ByteArray × ByteArray × Int × Int × Int × Int × Int × Int × Int × Int × Int × (List WT3) × Unit) → Option ((List WT6) × (List Int) × Unit)) (g82 : (List Int) → Int → (Int)) (g83 : WT6 → WT6 → (Bool)) (k : Nat) (x0 : (ByteArray × ByteArray × ByteArray × ByteArray × Int × Int × Int × Int × Int × Int × Int × Int × Int × (List WT3) × Unit)) (x1 : (ByteArray × ByteArray × ByteArray × ByteArray × Int × Int × Int × Int × Int × Int × Int × Int × Int × (List WT3) × Unit)) : Option ((List Int) × Unit) :=
  Option.bind (g77 x0) fun v1 =>
  Option.bind (g77 x1) fun v2 =>
  Option.bind (α := ((List Int) × Unit) ⊕ (((List Int) × Unit) × (Unit))) (iter (σ := ((List Int) × Int × Unit) × (Unit)) (τ := ((List Int) × Unit) ⊕ (((List Int) × Unit) × (Unit))) k (fun y3 =>
      bif (decide (y3.1.2.1 < ((List.length v1.2.1 : Nat) : Int))) then
        bif (inR y3.1.2.1 ((List.length v1.2.1 : Nat) : Int)) then
          bif (decide ((g82 v2.2.1 (rd (α := Int) (0 : Int) v1.2.1 y3.1.2.1)) ≥ (0 : Int))) then
            bif (inR y3.1.2.1 ((List.length v1.1 : Nat) : Int)) then
              bif (inR (g82 v2.2.1 (rd (α := Int) (0 : Int) v1.2.1 y3.1.2.1)) ((List.length v2.1 : Nat) : Int)) then
                bif (sEq ((rd (α := WT6) zWT6 v1.1 y3.1.2.1).2.1) ((rd (α := WT6) zWT6 v2.1 (g82 v2.2.1 (rd (α := Int) (0 : Int) v1.2.1 y3.1.2.1))).2.1)) then
                  bif (inR y3.1.2.1 ((List.length v1.1 : Nat) : Int)) then
                    bif (inR (g82 v2.2.1 (rd (α := Int) (0 : Int) v1.2.1 y3.1.2.1)) ((List.length v2.1 : Nat) : Int)) then
                      bif (sEq ((rd (α := WT6) zWT6 v1.1 y3.1.2.1).2.2.1) ((rd (α := WT6) zWT6 v2.1 (g82 v2.2.1 (rd (α := Int) (0 : Int) v1.2.1 y3.1.2.1))).2.2.1)) then
                        bif (inR y3.1.2.1 ((List.length v1.1 : Nat) : Int)) then
                          bif (inR (g82 v2.2.1 (rd (α := Int) (0 : Int) v1.2.1 y3.1.2.1)) ((List.length v2.1 : Nat) : Int)) then
                            bif (sEq ((rd (α := WT6) zWT6 v1.1 y3.1.2.1).2.2.2.1) ((rd (α := WT6) zWT6 v2.1 (g82 v2.2.1 (rd (α := Int) (0 : Int) v1.2.1 y3.1.2.1))).2.2.2.1)) then
                              bif (inR y3.1.2.1 ((List.length v1.1 : Nat) : Int)) then
                                bif (inR (g82 v2.2.1 (rd (α := Int) (0 : Int) v1.2.1 y3.1.2.1)) ((List.length v2.1 : Nat) : Int)) then
                                  bif (g83 (rd (α := WT6) zWT6 v1.1 y3.1.2.1) (rd (α := WT6) zWT6 v2.1 (g82 v2.2.1 (rd (α := Int) (0 : Int) v1.2.1 y3.1.2.1)))) then
                                    bif decide (List.length y3.1.1 + List.length ([(rd (α := Int) (0 : Int) v1.2.1 y3.1.2.1)]) ≤ 4294967296) then
                                      some (.inl (((y3.1.1 ++ [(rd (α := Int) (0 : Int) v1.2.1 y3.1.2.1)]), (IntKind.i64.wrap (y3.1.2.1 + (1 : Int))), ()), ()))
                                    else
                                      none
                                  else
                                    some (.inl ((y3.1.1, (IntKind.i64.wrap (y3.1.2.1 + (1 : Int))), ()), ()))
                                else
                                  none
                              else
                                none
                            else
                              some (.inl ((y3.1.1, (IntKind.i64.wrap (y3.1.2.1 + (1 : Int))), ()), ()))
                          else
                            none
                        else
                          none
                      else
                        some (.inl ((y3.1.1, (IntKind.i64.wrap (y3.1.2.1 + (1 : Int))), ()), ()))
                    else
                      none
                  else
                    none
                else
                  some (.inl ((y3.1.1, (IntKind.i64.wrap (y3.1.2.1 + (1 : Int))), ()), ()))
              else
                none
            else
              none
          else
            some (.inl ((y3.1.1, (IntKind.i64.wrap (y3.1.2.1 + (1 : Int))), ()), ()))
        else
          none
      else
        some (.inr (.inr ((y3.1.1, ()), ())))) (([], (0 : Int), ()), ())) fun r => match r with
  | .inl z => some z
  | .inr z4 =>
    some (z4.1.1, ())
def H22 : Hints where
  loop := fun n => match n with
    | 0 => some ({ slots := [(9, (.row (.int .i64))), (25, (.int .i64))], objs := [], gone := [] }, 0, { slots := [(9, (.row (.int .i64)))], objs := [], gone := [] })
    | _ => none
  region := fun n => match n with
    | _ => none
  cond := fun n => match n with
    | _ => none
  block := fun n => match n with
    | _ => none
abbrev A22 : Tys := (.cons WY4 (.cons WY4 .nil))
def ts22 : List (Nat × TD) := [(3, (.data (.int .i64))), (9, (.data .str)), (23, (.data WY3)), (28, (.data WY4)), (31, (.data (.slice (.int .i64)))), (36, (.data (.slice WY3)))]
noncomputable def fs22 (g77 : (ByteArray × ByteArray × ByteArray × ByteArray × Int × Int × Int × Int × Int × Int × Int × Int × Int × (List WT3) × Unit) → Option ((List WT6) × (List Int) × Unit)) (g82 : (List Int) → Int → (Int)) (g83 : WT6 → WT6 → (Bool)) : List (Nat × FSem) := [(77, .pfn (.cons WY4 .nil) (.cons (.slice WY3) (.cons (.slice (.int .i64)) .nil)) fun x => (g77 x.1)), (82, .fn (.cons (.slice (.int .i64)) (.cons (.int .i64) .nil)) (.cons (.int .i64) .nil) fun x => ((g82 x.1 x.2.1), ())), (83, .fn (.cons WY3 (.cons WY3 .nil)) (.cons .bool .nil) fun x => ((g83 x.1 x.2.1), ()))]
noncomputable def body22 : Code := match Tryz.f22.body with | some c => c | none => .skip
theorem ty22 : chkTypes Tryz.prog ts22 = true := by kernel_rfl
theorem ev22 (g77 : (ByteArray × ByteArray × ByteArray × ByteArray × Int × Int × Int × Int × Int × Int × Int × Int × Int × (List WT3) × Unit) → Option ((List WT6) × (List Int) × Unit)) (g82 : (List Int) → Int → (Int)) (g83 : WT6 → WT6 → (Bool)) (k : Nat) (x : ((.cons WY4 (.cons WY4 .nil)) : Tys).den) : evFun (mkEnv ts22 (fs22 g77 g82 g83)) H22 k body22 91 [.tmp 4] (explodes (.cons WY4 (.cons WY4 .nil)) x) [] (dec (.cons (.slice (.int .i64)) .nil)) = f22 g77 g82 g83 k x.1 x.2.1 := by kernel_rfl
/-! ### slices.Equal[[]int,int] -/
def f23  (k : Nat) (x0 : List Int) (x1 : List Int) : Option (Bool × Unit) :=
  bif (((List.length x0 : Nat) : Int) != ((List.length x1 : Nat) : Int)) then
    some (false, ())
  else
    Option.bind (α := (Bool × Unit) ⊕ ((Unit) × (Unit))) (iter (σ := (Int × Unit) × (Unit)) (τ := (Bool × Unit) ⊕ ((Unit) × (Unit))) k (fun y1 =>
        bif (decide (y1.1.1 < ((List.length x0 : Nat) : Int))) then
          bif (inR y1.1.1 ((List.length x0 : Nat) : Int)) then
            bif (inR y1.1.1 ((List.length x1 : Nat) : Int)) then
              bif ((rd (α := Int) (0 : Int) x0 y1.1.1) != (rd (α := Int) (0 : Int) x1 y1.1.1)) then
                some (.inr (.inl (false, ())))
              else
                some (.inl (((IntKind.i64.wrap (y1.1.1 + (1 : Int))), ()), ()))
            else
              none
          else
            none
        else
          some (.inr (.inr ((), ())))) (((0 : Int), ()), ())) fun r => match r with
    | .inl z => some z
    | .inr z2 =>
      some (true, ())
def H23 : Hints where
  loop := fun n => match n with
    | 0 => some ({ slots := [(13, (.int .i64))], objs := [], gone := [] }, 0, { slots := [], objs := [], gone := [] })
    | _ => none
  region := fun n => match n with
    | _ => none
  cond := fun n => match n with
    | _ => none
  block := fun n => match n with
    | _ => none
abbrev A23 : Tys := (.cons (.slice (.int .i64)) (.cons (.slice (.int .i64)) .nil))
def ts23 : List (Nat × TD) := [(3, (.data (.int .i64))), (4, (.data .bool)), (31, (.data (.slice (.int .i64))))]
noncomputable def fs23  : List (Nat × FSem) := []
noncomputable def body23 : Code := match Tryz.f23.body with | some c => c | none => .skip
theorem ty23 : chkTypes Tryz.prog ts23 = true := by kernel_rfl
theorem ev23  (k : Nat) (x : ((.cons (.slice (.int .i64)) (.cons (.slice (.int .i64)) .nil)) : Tys).den) : evFun (mkEnv ts23 (fs23 )) H23 k body23 26 [.tmp 4] (explodes (.cons (.slice (.int .i64)) (.cons (.slice (.int .i64)) .nil)) x) [] (dec (.cons .bool .nil)) = f23  k x.1 x.2.1 := by kernel_rfl
/-! ### slices.Equal[[]jitney/api.Ride,jitney/api.Ride] -/
def f24  (k : Nat) (x0 : List WT6) (x1 : List WT6) : Option (Bool × Unit) :=
  bif (((List.length x0 : Nat) : Int) != ((List.length x1 : Nat) : Int)) then
    some (false, ())
  else
    Option.bind (α := (Bool × Unit) ⊕ ((Unit) × (Unit))) (iter (σ := (Int × Unit) × (Unit)) (τ := (Bool × Unit) ⊕ ((Unit) × (Unit))) k (fun y1 =>
        bif (decide (y1.1.1 < ((List.length x0 : Nat) : Int))) then
          bif (inR y1.1.1 ((List.length x0 : Nat) : Int)) then
            bif (inR y1.1.1 ((List.length x1 : Nat) : Int)) then
              bif (!((sEq ((rd (α := WT6) zWT6 x0 y1.1.1).1) ((rd (α := WT6) zWT6 x1 y1.1.1).1)) && ((sEq ((rd (α := WT6) zWT6 x0 y1.1.1).2.1) ((rd (α := WT6) zWT6 x1 y1.1.1).2.1)) && ((sEq ((rd (α := WT6) zWT6 x0 y1.1.1).2.2.1) ((rd (α := WT6) zWT6 x1 y1.1.1).2.2.1)) && ((sEq ((rd (α := WT6) zWT6 x0 y1.1.1).2.2.2.1) ((rd (α := WT6) zWT6 x1 y1.1.1).2.2.2.1)) && (((rd (α := WT6) zWT6 x0 y1.1.1).2.2.2.2.1 == (rd (α := WT6) zWT6 x1 y1.1.1).2.2.2.2.1) && (((rd (α := WT6) zWT6 x0 y1.1.1).2.2.2.2.2.1 == (rd (α := WT6) zWT6 x1 y1.1.1).2.2.2.2.2.1) && (((rd (α := WT6) zWT6 x0 y1.1.1).2.2.2.2.2.2.1 == (rd (α := WT6) zWT6 x1 y1.1.1).2.2.2.2.2.2.1) && (((rd (α := WT6) zWT6 x0 y1.1.1).2.2.2.2.2.2.2.1 == (rd (α := WT6) zWT6 x1 y1.1.1).2.2.2.2.2.2.2.1) && true))))))))) then
                some (.inr (.inl (false, ())))
              else
                some (.inl (((IntKind.i64.wrap (y1.1.1 + (1 : Int))), ()), ()))
            else
              none
          else
            none
        else
          some (.inr (.inr ((), ())))) (((0 : Int), ()), ())) fun r => match r with
    | .inl z => some z
    | .inr z2 =>
      some (true, ())
def H24 : Hints where
  loop := fun n => match n with
    | 0 => some ({ slots := [(13, (.int .i64))], objs := [], gone := [] }, 0, { slots := [], objs := [], gone := [] })
    | _ => none
  region := fun n => match n with
    | _ => none
  cond := fun n => match n with
    | _ => none
  block := fun n => match n with
    | _ => none
abbrev A24 : Tys := (.cons (.slice WY3) (.cons (.slice WY3) .nil))
def ts24 : List (Nat × TD) := [(3, (.data (.int .i64))), (4, (.data .bool)), (23, (.data WY3)), (36, (.data (.slice WY3)))]
noncomputable def fs24  : List (Nat × FSem) := []
noncomputable def body24 : Code := match Tryz.f24.body with | some c => c | none => .skip
theorem ty24 : chkTypes Tryz.prog ts24 = true := by kernel_rfl
theorem ev24  (k : Nat) (x : ((.cons (.slice WY3) (.cons (.slice WY3) .nil)) : Tys).den) : evFun (mkEnv ts24 (fs24 )) H24 k body24 26 [.tmp 4] (explodes (.cons (.slice WY3) (.cons (.slice WY3) .nil)) x) [] (dec (.cons .bool .nil)) = f24  k x.1 x.2.1 := by kernel_rfl
/-! ### jitney/jitlaw2.asked -/
def f25 (g7 : (ByteArray × ByteArray × ByteArray × ByteArray × Int × Int × Int × Int × Int × Int × Int × Int × Int × (List WT3) × Unit) → Option ((List Int) × Int × Unit)) (g23 : (List Int) → (List Int) → (Bool)) (k : Nat)  : Option (Bool × Unit) :=
  Option.bind (g7 ((ByteArray.mk #[115]), (ByteArray.mk #[97]), (ByteArray.mk #[98]), (ByteArray.mk #[99]), (0 : Int), (8 : Int), (1 : Int), (1 : Int), (0 : Int), (5 : Int), (0 : Int), (1 : Int), (0 : Int), [], ())) fun v1 =>
  bif (v1.2.1 == (0 : Int)) then
    some ((g23 v1.1 ([(0 : Int), (7 : Int)])), ())
  else
    some (false, ())
def H25 : Hints where
  loop := fun n => match n with
    | _ => none
  region := fun n => match n with
    | _ => none
  cond := fun n => match n with
    | _ => none
  block := fun n => match n with
    | _ => none
abbrev A25 : Tys := .nil
def ts25 : List (Nat × TD) := [(4, (.data .bool)), (28, (.data WY4)), (31, (.data (.slice (.int .i64)))), (32, (.data (.int .i64)))]
noncomputable def fs25 (g7 : (ByteArray × ByteArray × ByteArray × ByteArray × Int × Int × Int × Int × Int × Int × Int × Int × Int × (List WT3) × Unit) → Option ((List Int) × Int × Unit)) (g23 : (List Int) → (List Int) → (Bool)) : List (Nat × FSem) := [(7, .pfn (.cons WY4 .nil) (.cons (.slice (.int .i64)) (.cons (.int .i64) .nil)) fun x => (g7 x.1)), (23, .fn (.cons (.slice (.int .i64)) (.cons (.slice (.int .i64)) .nil)) (.cons .bool .nil) fun x => ((g23 x.1 x.2.1), ()))]
noncomputable def body25 : Code := match Tryz.f25.body with | some c => c | none => .skip
theorem ty25 : chkTypes Tryz.prog ts25 = true := by kernel_rfl
theorem ev25 (g7 : (ByteArray × ByteArray × ByteArray × ByteArray × Int × Int × Int × Int × Int × Int × Int × Int × Int × (List WT3) × Unit) → Option ((List Int) × Int × Unit)) (g23 : (List Int) → (List Int) → (Bool)) (k : Nat) (x : (.nil : Tys).den) : evFun (mkEnv ts25 (fs25 g7 g23)) H25 k body25 15 [.tmp 0] (explodes .nil x) [] (dec (.cons .bool .nil)) = f25 g7 g23 k  := by kernel_rfl
/-! ### jitney/jitlaw2.SeriesRide -/
def f3 (g7 : (ByteArray × ByteArray × ByteArray × ByteArray × Int × Int × Int × Int × Int × Int × Int × Int × Int × (List WT3) × Unit) → Option ((List Int) × Int × Unit)) (g8 : (List (ByteArray × ByteArray × ByteArray × ByteArray × Int × Int × Int × Int × Int × Int × Int × Int × Int × (List WT3) × Unit)) → Option ((List (ByteArray × ByteArray × ByteArray × ByteArray × Int × Int × Int × Int × Int × Int × Int × Int × Int × (List WT3) × Unit)) × Unit)) (g9 : (ByteArray × ByteArray × ByteArray × ByteArray × Int × Int × Int × Int × Int × Int × Int × Int × Int × (List WT3) × Unit) → WT0 → Option ((List WT6) × Int × Unit)) (g10 : (ByteArray × ByteArray × ByteArray × ByteArray × Int × Int × Int × Int × Int × Int × Int × Int × Int × (List WT3) × Unit) → (ByteArray × ByteArray × ByteArray × ByteArray × Int × Int × Int × Int × Int × Int × Int × Int × Int × (List WT3) × Unit) → Option ((List Int) × Int × Unit)) (g11 : (List (ByteArray × ByteArray × ByteArray × ByteArray × Int × Int × Int × Int × Int × Int × Int × Int × Int × (List WT3) × Unit)) → (Int)) (g12 : WT6 → (Int)) (g13 : WT6 → (Int)) (g14 : (List WT5) → (Int)) (g15 : (List WT5) → Option ((List WT5) × Unit)) (g16 : (List WT5) → (Int)) (g17 : (List (ByteArray × ByteArray × ByteArray × ByteArray × Int × Int × Int × Int × Int × Int × Int × Int × Int × (List WT3) × Unit)) → (Int)) (g18 : (List Int) → (Int)) (g19 : WT0 → (Int)) (g20 : (ByteArray × ByteArray × ByteArray × ByteArray × Int × Int × Int × Int × Int × Int × Int × Int × Int × (List WT3) × Unit) → Option ((List Int) × Unit)) (g21 : (ByteArray × ByteArray × ByteArray × ByteArray × Int × Int × Int × Int × Int × Int × Int × Int × Int × (List WT3) × Unit) → WT0 → Option ((List WT6) × Unit)) (g22 : (ByteArray × ByteArray × ByteArray × ByteArray × Int × Int × Int × Int × Int × Int × Int × Int × Int × (List WT3) × Unit) → (ByteArray × ByteArray × ByteArray × ByteArray × Int × Int × Int × Int × Int × Int × Int × Int × Int × (List WT3) × Unit) → Option ((List Int) × Unit)) (g23 : (List Int) → (List Int) → (Bool)) (g24 : (List WT6) → (List WT6) → (Bool)) (g25 : Option (Bool × Unit)) (k : Nat) (x0 : WT6) (x1 : List WT5) (x2 : List (ByteArray × ByteArray × ByteArray × ByteArray × Int × Int × Int × Int × Int × Int × Int × Int × Int × (List WT3) × Unit)) (x3 : (ByteArray × ByteArray × ByteArray × ByteArray × Int × Int × Int × Int × Int × Int × Int × Int × Int × (List WT3) × Unit)) (x4 : (ByteArray × ByteArray × ByteArray × ByteArray × Int × Int × Int × Int × Int × Int × Int × Int × Int × (List WT3) × Unit)) (x5 : WT0) : Option (Bool × Unit) :=
  Option.bind (g8 ([x3] : List (ByteArray × ByteArray × ByteArray × ByteArray × Int × Int × Int × Int × Int × Int × Int × Int × Int × (List WT3) × Unit))) fun v1 =>
  bif (inR (0 : Int) ((List.length v1.1 : Nat) : Int)) then
    Option.bind (g7 (rd (α := (ByteArray × ByteArray × ByteArray × ByteArray × Int × Int × Int × Int × Int × Int × Int × Int × Int × (List WT3) × Unit)) (ByteArray.empty, ByteArray.empty, ByteArray.empty, ByteArray.empty, (0 : Int), (0 : Int), (0 : Int), (0 : Int), (0 : Int), (0 : Int), (0 : Int), (0 : Int), (0 : Int), ([] : List WT3), ()) v1.1 (0 : Int))) fun v2 =>
    Option.bind (g8 ([x3] : List (ByteArray × ByteArray × ByteArray × ByteArray × Int × Int × Int × Int × Int × Int × Int × Int × Int × (List WT3) × Unit))) fun v3 =>
    bif (inR (0 : Int) ((List.length v3.1 : Nat) : Int)) then
      Option.bind (g9 (rd (α := (ByteArray × ByteArray × ByteArray × ByteArray × Int × Int × Int × Int × Int × Int × Int × Int × Int × (List WT3) × Unit)) (ByteArray.empty, ByteArray.empty, ByteArray.empty, ByteArray.empty, (0 : Int), (0 : Int), (0 : Int), (0 : Int), (0 : Int), (0 : Int), (0 : Int), (0 : Int), (0 : Int), ([] : List WT3), ()) v3.1 (0 : Int)) x5) fun v4 =>
      Option.bind (g8 ([x3] : List (ByteArray × ByteArray × ByteArray × ByteArray × Int × Int × Int × Int × Int × Int × Int × Int × Int × (List WT3) × Unit))) fun v5 =>
      bif (inR (0 : Int) ((List.length v5.1 : Nat) : Int)) then
        Option.bind (g8 ([x4] : List (ByteArray × ByteArray × ByteArray × ByteArray × Int × Int × Int × Int × Int × Int × Int × Int × Int × (List WT3) × Unit))) fun v6 =>
        bif (inR (0 : Int) ((List.length v6.1 : Nat) : Int)) then
          Option.bind (g10 (rd (α := (ByteArray × ByteArray × ByteArray × ByteArray × Int × Int × Int × Int × Int × Int × Int × Int × Int × (List WT3) × Unit)) (ByteArray.empty, ByteArray.empty, ByteArray.empty, ByteArray.empty, (0 : Int), (0 : Int), (0 : Int), (0 : Int), (0 : Int), (0 : Int), (0 : Int), (0 : Int), (0 : Int), ([] : List WT3), ()) v5.1 (0 : Int)) (rd (α := (ByteArray × ByteArray × ByteArray × ByteArray × Int × Int × Int × Int × Int × Int × Int × Int × Int × (List WT3) × Unit)) (ByteArray.empty, ByteArray.empty, ByteArray.empty, ByteArray.empty, (0 : Int), (0 : Int), (0 : Int), (0 : Int), (0 : Int), (0 : Int), (0 : Int), (0 : Int), (0 : Int), ([] : List WT3), ()) v6.1 (0 : Int))) fun v7 =>
          bif ((g12 x0) != (g13 x0)) then
            some (false, ())
          else
            Option.bind (g15 x1) fun v8 =>
            bif ((g14 v8.1) != (g16 x1)) then
              some (false, ())
            else
              Option.bind (g8 x2) fun v9 =>
              bif ((g17 v9.1) != (g11 x2)) then
                some (false, ())
              else
                Option.bind (α := (Bool × Unit) ⊕ (((List Int) × Unit) × (Unit))) (
                    bif ((g11 ([x3] : List (ByteArray × ByteArray × ByteArray × ByteArray × Int × Int × Int × Int × Int × Int × Int × Int × Int × (List WT3) × Unit))) == (0 : Int)) then
                      Option.bind (g20 x3) fun v10 =>
                      some (.inr ((v10.1, ()), ()))
                    else
                      some (.inr (([], ()), ()))) fun r => match r with
                | .inl z => some z
                | .inr y11 =>
                  Option.bind (α := (Bool × Unit) ⊕ (((List WT6) × Unit) × (Unit))) (
                      bif ((g18 ([(g11 ([x3] : List (ByteArray × ByteArray × ByteArray × ByteArray × Int × Int × Int × Int × Int × Int × Int × Int × Int × (List WT3) × Unit))), (g19 x5)] : List Int)) == (0 : Int)) then
                        Option.bind (g21 x3 x5) fun v12 =>
                        some (.inr ((v12.1, ()), ()))
                      else
                        some (.inr (([], ()), ()))) fun r => match r with
                  | .inl z => some z
                  | .inr y13 =>
                    Option.bind (α := (Bool × Unit) ⊕ (((List Int) × Unit) × (Unit))) (
                        bif ((g18 ([(g11 ([x3] : List (ByteArray × ByteArray × ByteArray × ByteArray × Int × Int × Int × Int × Int × Int × Int × Int × Int × (List WT3) × Unit))), (g11 ([x4] : List (ByteArray × ByteArray × ByteArray × ByteArray × Int × Int × Int × Int × Int × Int × Int × Int × Int × (List WT3) × Unit)))] : List Int)) == (0 : Int)) then
                          Option.bind (g22 x3 x4) fun v14 =>
                          some (.inr ((v14.1, ()), ()))
                        else
                          some (.inr (([], ()), ()))) fun r => match r with
                    | .inl z => some z
                    | .inr y15 =>
                      bif (v2.2.1 == (g11 ([x3] : List (ByteArray × ByteArray × ByteArray × ByteArray × Int × Int × Int × Int × Int × Int × Int × Int × Int × (List WT3) × Unit)))) then
                        bif (g23 v2.1 y11.1.1) then
                          bif (v4.2.1 == (g18 ([(g11 ([x3] : List (ByteArray × ByteArray × ByteArray × ByteArray × Int × Int × Int × Int × Int × Int × Int × Int × Int × (List WT3) × Unit))), (g19 x5)] : List Int))) then
                            bif (g24 v4.1 y13.1.1) then
                              bif (v7.2.1 == (g18 ([(g11 ([x3] : List (ByteArray × ByteArray × ByteArray × ByteArray × Int × Int × Int × Int × Int × Int × Int × Int × Int × (List WT3) × Unit))), (g11 ([x4] : List (ByteArray × ByteArray × ByteArray × ByteArray × Int × Int × Int × Int × Int × Int × Int × Int × Int × (List WT3) × Unit)))] : List Int))) then
                                bif (g23 v7.1 y15.1.1) then
                                  Option.bind g25 fun v16 =>
                                  some (v16.1, ())
                                else
                                  some (false, ())
                              else
                                some (false, ())
                            else
                              some (false, ())
                          else
                            some (false, ())
                        else
                          some (false, ())
                      else
                        some (false, ())
        else
          none
      else
        none
    else
      none
  else
    none
def H3 : Hints where
  loop := fun n => match n with
    | _ => none
  region := fun n => match n with
    | _ => none
  cond := fun n => match n with
    | 94 => some { slots := [(22, (.sl (.int .i64)))], objs := [], gone := [] }
    | 98 => some { slots := [(24, (.sl WY3))], objs := [], gone := [] }
    | 103 => some { slots := [(23, (.sl (.int .i64)))], objs := [], gone := [] }
    | _ => none
  block := fun n => match n with
    | _ => none
abbrev A3 : Tys := (.cons WY3 (.cons (.slice WY1) (.cons (.slice WY4) (.cons WY4 (.cons WY4 (.cons WY0 .nil))))))
def ts3 : List (Nat × TD) := [(4, (.data .bool)), (23, (.data WY3)), (24, (.data (.slice WY1))), (25, (.data (.slice WY4))), (28, (.data WY4)), (30, (.data WY0)), (32, (.data (.int .i64))), (128, (.data (.slice (.int .i64))))]
noncomputable def fs3 (g7 : (ByteArray × ByteArray × ByteArray × ByteArray × Int × Int × Int × Int × Int × Int × Int × Int × Int × (List WT3) × Unit) → Option ((List Int) × Int × Unit)) (g8 : (List (ByteArray × ByteArray × ByteArray × ByteArray × Int × Int × Int × Int × Int × Int × Int × Int × Int × (List WT3) × Unit)) → Option ((List (ByteArray × ByteArray × ByteArray × ByteArray × Int × Int × Int × Int × Int × Int × Int × Int × Int × (List WT3) × Unit)) × Unit)) (g9 : (ByteArray × ByteArray × ByteArray × ByteArray × Int × Int × Int × Int × Int × Int × Int × Int × Int × (List WT3) × Unit) → WT0 → Option ((List WT6) × Int × Unit)) (g10 : (ByteArray × ByteArray × ByteArray × ByteArray × Int × Int × Int × Int × Int × Int × Int × Int × Int × (List WT3) × Unit) → (ByteArray × ByteArray × ByteArray × ByteArray × Int × Int × Int × Int × Int × Int × Int × Int × Int × (List WT3) × Unit) → Option ((List Int) × Int × Unit)) (g11 : (List (ByteArray × ByteArray × ByteArray × ByteArray × Int × Int × Int × Int × Int × Int × Int × Int × Int × (List WT3) × Unit)) → (Int)) (g12 : WT6 → (Int)) (g13 : WT6 → (Int)) (g14 : (List WT5) → (Int)) (g15 : (List WT5) → Option ((List WT5) × Unit)) (g16 : (List WT5) → (Int)) (g17 : (List (ByteArray × ByteArray × ByteArray × ByteArray × Int × Int × Int × Int × Int × Int × Int × Int × Int × (List WT3) × Unit)) → (Int)) (g18 : (List Int) → (Int)) (g19 : WT0 → (Int)) (g20 : (ByteArray × ByteArray × ByteArray × ByteArray × Int × Int × Int × Int × Int × Int × Int × Int × Int × (List WT3) × Unit) → Option ((List Int) × Unit)) (g21 : (ByteArray × ByteArray × ByteArray × ByteArray × Int × Int × Int × Int × Int × Int × Int × Int × Int × (List WT3) × Unit) → WT0 → Option ((List WT6) × Unit)) (g22 : (ByteArray × ByteArray × ByteArray × ByteArray × Int × Int × Int × Int × Int × Int × Int × Int × Int × (List WT3) × Unit) → (ByteArray × ByteArray × ByteArray × ByteArray × Int × Int × Int × Int × Int × Int × Int × Int × Int × (List WT3) × Unit) → Option ((List Int) × Unit)) (g23 : (List Int) → (List Int) → (Bool)) (g24 : (List WT6) → (List WT6) → (Bool)) (g25 : Option (Bool × Unit)) : List (Nat × FSem) := [(7, .pfn (.cons WY4 .nil) (.cons (.slice (.int .i64)) (.cons (.int .i64) .nil)) fun x => (g7 x.1)), (8, .pfn (.cons (.slice WY4) .nil) (.cons (.slice WY4) .nil) fun x => (g8 x.1)), (9, .pfn (.cons WY4 (.cons WY0 .nil)) (.cons (.slice WY3) (.cons (.int .i64) .nil)) fun x => (g9 x.1 x.2.1)), (10, .pfn (.cons WY4 (.cons WY4 .nil)) (.cons (.slice (.int .i64)) (.cons (.int .i64) .nil)) fun x => (g10 x.1 x.2.1)), (11, .fn (.cons (.slice WY4) .nil) (.cons (.int .i64) .nil) fun x => ((g11 x.1), ())), (12, .fn (.cons WY3 .nil) (.cons (.int .i64) .nil) fun x => ((g12 x.1), ())), (13, .fn (.cons WY3 .nil) (.cons (.int .i64) .nil) fun x => ((g13 x.1), ())), (14, .fn (.cons (.slice WY1) .nil) (.cons (.int .i64) .nil) fun x => ((g14 x.1), ())), (15, .pfn (.cons (.slice WY1) .nil) (.cons (.slice WY1) .nil) fun x => (g15 x.1)), (16, .fn (.cons (.slice WY1) .nil) (.cons (.int .i64) .nil) fun x => ((g16 x.1), ())), (17, .fn (.cons (.slice WY4) .nil) (.cons (.int .i64) .nil) fun x => ((g17 x.1), ())), (18, .fn (.cons (.slice (.int .i64)) .nil) (.cons (.int .i64) .nil) fun x => ((g18 x.1), ())), (19, .fn (.cons WY0 .nil) (.cons (.int .i64) .nil) fun x => ((g19 x.1), ())), (20, .pfn (.cons WY4 .nil) (.cons (.slice (.int .i64)) .nil) fun x => (g20 x.1)), (21, .pfn (.cons WY4 (.cons WY0 .nil)) (.cons (.slice WY3) .nil) fun x => (g21 x.1 x.2.1)), (22, .pfn (.cons WY4 (.cons WY4 .nil)) (.cons (.slice (.int .i64)) .nil) fun x => (g22 x.1 x.2.1)), (23, .fn (.cons (.slice (.int .i64)) (.cons (.slice (.int .i64)) .nil)) (.cons .bool .nil) fun x => ((g23 x.1 x.2.1), ())), (24, .fn (.cons (.slice WY3) (.cons (.slice WY3) .nil)) (.cons .bool .nil) fun x => ((g24 x.1 x.2.1), ())), (25, .pfn .nil (.cons .bool .nil) fun x => g25)]
noncomputable def body3 : Code := match Tryz.f3.body with | some c => c | none => .skip
theorem ty3 : chkTypes Tryz.prog ts3 = true := by kernel_rfl
theorem ev3 (g7 : (ByteArray × ByteArray × ByteArray × ByteArray × Int × Int × Int × Int × Int × Int × Int × Int × Int × (List WT3) × Unit) → Option ((List Int) × Int × Unit)) (g8 : (List (ByteArray × ByteArray × ByteArray × ByteArray × Int × Int × Int × Int × Int × Int × Int × Int × Int × (List WT3) × Unit)) → Option ((List (ByteArray × ByteArray × ByteArray × ByteArray × Int × Int × Int × Int × Int × Int × Int × Int × Int × (List WT3) × Unit)) × Unit)) (g9 : (ByteArray × ByteArray × ByteArray × ByteArray × Int × Int × Int × Int × Int × Int × Int × Int × Int × (List WT3) × Unit) → WT0 → Option ((List WT6) × Int × Unit)) (g10 : (ByteArray × ByteArray × ByteArray × ByteArray × Int × Int × Int × Int × Int × Int × Int × Int × Int × (List WT3) × Unit) → (ByteArray × ByteArray × ByteArray × ByteArray × Int × Int × Int × Int × Int × Int × Int × Int × Int × (List WT3) × Unit) → Option ((List Int) × Int × Unit)) (g11 : (List (ByteArray × ByteArray × ByteArray × ByteArray × Int × Int × Int × Int × Int × Int × Int × Int × Int × (List WT3) × Unit)) → (Int)) (g12 : WT6 → (Int)) (g13 : WT6 → (Int)) (g14 : (List WT5) → (Int)) (g15 : (List WT5) → Option ((List WT5) × Unit)) (g16 : (List WT5) → (Int)) (g17 : (List (ByteArray × ByteArray × ByteArray × ByteArray × Int × Int × Int × Int × Int × Int × Int × Int × Int × (List WT3) × Unit)) → (Int)) (g18 : (List Int) → (Int)) (g19 : WT0 → (Int)) (g20 : (ByteArray × ByteArray × ByteArray × ByteArray × Int × Int × Int × Int × Int × Int × Int × Int × Int × (List WT3) × Unit) → Option ((List Int) × Unit)) (g21 : (ByteArray × ByteArray × ByteArray × ByteArray × Int × Int × Int × Int × Int × Int × Int × Int × Int × (List WT3) × Unit) → WT0 → Option ((List WT6) × Unit)) (g22 : (ByteArray × ByteArray × ByteArray × ByteArray × Int × Int × Int × Int × Int × Int × Int × Int × Int × (List WT3) × Unit) → (ByteArray × ByteArray × ByteArray × ByteArray × Int × Int × Int × Int × Int × Int × Int × Int × Int × (List WT3) × Unit) → Option ((List Int) × Unit)) (g23 : (List Int) → (List Int) → (Bool)) (g24 : (List WT6) → (List WT6) → (Bool)) (g25 : Option (Bool × Unit)) (k : Nat) (x : ((.cons WY3 (.cons (.slice WY1) (.cons (.slice WY4) (.cons WY4 (.cons WY4 (.cons WY0 .nil)))))) : Tys).den) : evFun (mkEnvL ts3 (fs3 g7 g8 g9 g10 g11 g12 g13 g14 g15 g16 g17 g18 g19 g20 g21 g22 g23 g24 g25)) H3 k body3 138 [.tmp 12] (explodes (.cons WY3 (.cons (.slice WY1) (.cons (.slice WY4) (.cons WY4 (.cons WY4 (.cons WY0 .nil)))))) x) [] (dec (.cons .bool .nil)) = f3 g7 g8 g9 g10 g11 g12 g13 g14 g15 g16 g17 g18 g19 g20 g21 g22 g23 g24 g25 k x.1 x.2.1 x.2.2.1 x.2.2.2.1 x.2.2.2.2.1 x.2.2.2.2.2.1 := by kernel_rfl
end Go.Vm
