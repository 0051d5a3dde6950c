/- The program's functions, as an own tool reads them off its form. -/
import Derived.Test.YtfiembgemhonlaaDoorVmK
import Derived.Test.YtfiembgemhonlaaDoorVmD
import Derived.Test.YtfiembgemhonlaaDoorVmQ
import Derived.Test.YtfiembgemhonlaaDoorProg
set_option maxRecDepth 100000
set_option linter.unusedVariables false
namespace Go.Vm
open Go.Proofs
abbrev UT0 : Type := (Int × Int × Unit)
abbrev UT1 : Type := (ByteArray × Int × Unit)
abbrev UT2 : Type := (Int × Int × Int × Unit)
abbrev UT3 : Type := (UT0 × Unit)
abbrev UT4 : Type := (ByteArray × ByteArray × Unit)
abbrev UT5 : Type := (UT0 × Int × Unit)
abbrev UT6 : Type := (UT0 × Bool × Unit)
abbrev UT7 : Type := (ByteArray × ByteArray × Int × Bool × Unit)
abbrev UT8 : Type := (ByteArray × ByteArray × ByteArray × Int × Int × Unit)
abbrev UT9 : Type := (ByteArray × UT0 × Int × Int × Int × Unit)
abbrev zUT0 : UT0 := ((0 : Int), (0 : Int), ())
abbrev zUT3 : UT3 := (zUT0, ())
abbrev zUT4 : UT4 := (ByteArray.empty, ByteArray.empty, ())
abbrev zUT6 : UT6 := (zUT0, false, ())
abbrev zUT7 : UT7 := (ByteArray.empty, ByteArray.empty, (0 : Int), false, ())
abbrev zUT8 : UT8 := (ByteArray.empty, ByteArray.empty, ByteArray.empty, (0 : Int), (0 : Int), ())
abbrev zUT9 : UT9 := (ByteArray.empty, zUT0, (0 : Int), (0 : Int), (0 : Int), ())
abbrev UY0 : Ty := (.struct (.cons .str (.cons .str .nil)))
abbrev UY1 : Ty := (.struct (.cons (.int .i64) (.cons (.int .i64) .nil)))
abbrev UY2 : Ty := (.struct (.cons .str (.cons .str (.cons (.int .i64) (.cons .bool .nil)))))
abbrev UY3 : Ty := (.struct (.cons (.int .i64) (.cons (.int .i64) (.cons (.int .i64) .nil))))
abbrev UY4 : Ty := (.struct (.cons .str (.cons .str (.cons .str (.cons (.int .i64) (.cons (.int .i64) .nil))))))
abbrev UY5 : Ty := (.struct (.cons .str (.cons UY1 (.cons (.int .i64) (.cons (.int .i64) (.cons (.int .i64) .nil))))))
theorem mixedOK : Tryd.prog.follows .mixedOrders = true := by kernel_rfl
/-! ### cmp.Or[int] -/
def f38  (k : Nat) (x0 : List Int) : Option (Int × Unit) :=
  Option.bind (α := (Int × Unit) ⊕ ((Unit) × (Unit))) (iter (σ := (Int × Unit) × (Unit)) (τ := (Int × Unit) ⊕ ((Unit) × (Unit))) k (fun y1 =>
      bif (decide (y1.1.1 < ((List.length x0 : Nat) : Int))) then
        bif (inR y1.1.1 ((List.length x0 : Nat) : Int)) then
          bif ((rd (α := Int) (0 : Int) x0 y1.1.1) != (0 : Int)) then
            some (.inr (.inl ((rd (α := Int) (0 : Int) x0 y1.1.1), ())))
          else
            some (.inl (((IntKind.i64.wrap (y1.1.1 + (1 : Int))), ()), ()))
        else
          none
      else
        some (.inr (.inr ((), ())))) (((0 : Int), ()), ())) fun r => match r with
  | .inl z => some z
  | .inr z2 =>
    some ((0 : Int), ())
def H38 : Hints where
  loop := fun n => match n with
    | 0 => some ({ slots := [(8, (.int .i64))], objs := [], gone := [] }, 0, { slots := [], objs := [], gone := [] })
    | _ => none
  region := fun n => match n with
    | _ => none
  cond := fun n => match n with
    | _ => none
  block := fun n => match n with
    | _ => none
abbrev A38 : Tys := (.cons (.slice (.int .i64)) .nil)
def ts38 : List (Nat × TD) := [(3, (.data (.int .i64))), (85, (.data (.slice (.int .i64))))]
noncomputable def fs38  : List (Nat × FSem) := []
noncomputable def body38 : Code := match Tryd.f38.body with | some c => c | none => .skip
theorem ty38 : chkTypes Tryd.prog ts38 = true := by kernel_rfl
theorem ev38  (k : Nat) (x : ((.cons (.slice (.int .i64)) .nil) : Tys).den) : evFun (mkEnv ts38 (fs38 )) H38 k body38 18 [.tmp 2] (explodes (.cons (.slice (.int .i64)) .nil) x) [] (dec (.cons (.int .i64) .nil)) = f38  k x.1 := by kernel_rfl
/-! ### strings.Compare -/
def f48 (g60 : ByteArray → ByteArray → (Int)) (k : Nat) (x0 : ByteArray) (x1 : ByteArray) : Option (Int × Unit) :=
  some ((g60 x0 x1), ())
def H48 : Hints where
  loop := fun n => match n with
    | _ => none
  region := fun n => match n with
    | _ => none
  cond := fun n => match n with
    | _ => none
  block := fun n => match n with
    | _ => none
abbrev A48 : Tys := (.cons .str (.cons .str .nil))
def ts48 : List (Nat × TD) := [(3, (.data (.int .i64))), (9, (.data .str))]
noncomputable def fs48 (g60 : ByteArray → ByteArray → (Int)) : List (Nat × FSem) := [(60, .fn (.cons .str (.cons .str .nil)) (.cons (.int .i64) .nil) fun x => ((g60 x.1 x.2.1), ()))]
noncomputable def body48 : Code := match Tryd.f48.body with | some c => c | none => .skip
theorem ty48 : chkTypes Tryd.prog ts48 = true := by kernel_rfl
theorem ev48 (g60 : ByteArray → ByteArray → (Int)) (k : Nat) (x : ((.cons .str (.cons .str .nil)) : Tys).den) : evFun (mkEnv ts48 (fs48 g60)) H48 k body48 8 [.tmp 4] (explodes (.cons .str (.cons .str .nil)) x) [] (dec (.cons (.int .i64) .nil)) = f48 g60 k x.1 x.2.1 := by kernel_rfl
/-! ### jitney/trust.sameDrive -/
def f29 (g38 : (List Int) → (Int)) (g48 : ByteArray → ByteArray → (Int)) (k : Nat) (x0 : UT7) (x1 : UT7) : Option (Int × Unit) :=
  some ((g38 ([(g48 x0.1 x1.1), (g48 x0.2.1 x1.2.1)])), ())
def H29 : Hints where
  loop := fun n => match n with
    | _ => none
  region := fun n => match n with
    | _ => none
  cond := fun n => match n with
    | _ => none
  block := fun n => match n with
    | _ => none
abbrev A29 : Tys := (.cons UY2 (.cons UY2 .nil))
def ts29 : List (Nat × TD) := [(3, (.data (.int .i64))), (9, (.data .str)), (35, (.data UY2)), (85, (.data (.slice (.int .i64))))]
noncomputable def fs29 (g38 : (List Int) → (Int)) (g48 : ByteArray → ByteArray → (Int)) : List (Nat × FSem) := [(38, .fn (.cons (.slice (.int .i64)) .nil) (.cons (.int .i64) .nil) fun x => ((g38 x.1), ())), (48, .fn (.cons .str (.cons .str .nil)) (.cons (.int .i64) .nil) fun x => ((g48 x.1 x.2.1), ()))]
noncomputable def body29 : Code := match Tryd.f29.body with | some c => c | none => .skip
theorem ty29 : chkTypes Tryd.prog ts29 = true := by kernel_rfl
theorem ev29 (g38 : (List Int) → (Int)) (g48 : ByteArray → ByteArray → (Int)) (k : Nat) (x : ((.cons UY2 (.cons UY2 .nil)) : Tys).den) : evFun (mkEnv ts29 (fs29 g38 g48)) H29 k body29 17 [.tmp 4] (explodes (.cons UY2 (.cons UY2 .nil)) x) [] (dec (.cons (.int .i64) .nil)) = f29 g38 g48 k x.1 x.2.1 := by kernel_rfl
/-! ### jitney/base.Key -/
def f36  (k : Nat) (x0 : ByteArray) : Option (Bool × Unit) :=
  bif (sEq x0 (ByteArray.mk #[])) then
    some (false, ())
  else
    bif (decide (((ByteArray.size x0 : Nat) : Int) > (40 : Int))) then
      some (false, ())
    else
      bif (inR (0 : Int) ((ByteArray.size x0 : Nat) : Int)) then
        bif (decide ((bt x0 (0 : Int)) < (97 : Int))) then
          some (false, ())
        else
          bif (inR (0 : Int) ((ByteArray.size x0 : Nat) : Int)) then
            bif (decide ((bt x0 (0 : Int)) > (122 : Int))) then
              some (false, ())
            else
              Option.bind (α := (Bool × Unit) ⊕ ((Unit) × (Unit))) (iter (σ := (Int × Unit) × (Unit)) (τ := (Bool × Unit) ⊕ ((Unit) × (Unit))) k (fun y1 =>
                  bif (decide (y1.1.1 < ((ByteArray.size x0 : Nat) : Int))) then
                    bif (inR y1.1.1 ((ByteArray.size x0 : Nat) : Int)) then
                      bif (decide ((bt x0 y1.1.1) ≥ (97 : Int))) then
                        bif (decide ((bt x0 y1.1.1) ≤ (122 : Int))) then
                          some (.inl (((IntKind.i64.wrap (y1.1.1 + (1 : Int))), ()), ()))
                        else
                          bif (decide ((bt x0 y1.1.1) ≥ (48 : Int))) then
                            bif (decide ((bt x0 y1.1.1) ≤ (57 : Int))) then
                              some (.inl (((IntKind.i64.wrap (y1.1.1 + (1 : Int))), ()), ()))
                            else
                              bif ((bt x0 y1.1.1) == (45 : Int)) then
                                some (.inl (((IntKind.i64.wrap (y1.1.1 + (1 : Int))), ()), ()))
                              else
                                bif (!((bt x0 y1.1.1) == (95 : Int))) then
                                  some (.inr (.inl (false, ())))
                                else
                                  some (.inl (((IntKind.i64.wrap (y1.1.1 + (1 : Int))), ()), ()))
                          else
                            bif ((bt x0 y1.1.1) == (45 : Int)) then
                              some (.inl (((IntKind.i64.wrap (y1.1.1 + (1 : Int))), ()), ()))
                            else
                              bif (!((bt x0 y1.1.1) == (95 : Int))) then
                                some (.inr (.inl (false, ())))
                              else
                                some (.inl (((IntKind.i64.wrap (y1.1.1 + (1 : Int))), ()), ()))
                      else
                        bif (decide ((bt x0 y1.1.1) ≥ (48 : Int))) then
                          bif (decide ((bt x0 y1.1.1) ≤ (57 : Int))) then
                            some (.inl (((IntKind.i64.wrap (y1.1.1 + (1 : Int))), ()), ()))
                          else
                            bif ((bt x0 y1.1.1) == (45 : Int)) then
                              some (.inl (((IntKind.i64.wrap (y1.1.1 + (1 : Int))), ()), ()))
                            else
                              bif (!((bt x0 y1.1.1) == (95 : Int))) then
                                some (.inr (.inl (false, ())))
                              else
                                some (.inl (((IntKind.i64.wrap (y1.1.1 + (1 : Int))), ()), ()))
                        else
                          bif ((bt x0 y1.1.1) == (45 : Int)) then
                            some (.inl (((IntKind.i64.wrap (y1.1.1 + (1 : Int))), ()), ()))
                          else
                            bif (!((bt x0 y1.1.1) == (95 : Int))) then
                              some (.inr (.inl (false, ())))
                            else
                              some (.inl (((IntKind.i64.wrap (y1.1.1 + (1 : Int))), ()), ()))
                    else
                      none
                  else
                    some (.inr (.inr ((), ())))) (((0 : Int), ()), ())) fun r => match r with
              | .inl z => some z
              | .inr z2 =>
                some (true, ())
          else
            none
      else
        none
def H36 : Hints where
  loop := fun n => match n with
    | 0 => some ({ slots := [(24, (.int .i64))], objs := [], gone := [] }, 0, { slots := [], objs := [], gone := [] })
    | _ => none
  region := fun n => match n with
    | _ => none
  cond := fun n => match n with
    | _ => none
  block := fun n => match n with
    | _ => none
abbrev A36 : Tys := (.cons .str .nil)
def ts36 : List (Nat × TD) := [(3, (.data (.int .i64))), (4, (.data .bool)), (5, (.data (.int .u8))), (9, (.data .str))]
noncomputable def fs36  : List (Nat × FSem) := []
noncomputable def body36 : Code := match Tryd.f36.body with | some c => c | none => .skip
theorem ty36 : chkTypes Tryd.prog ts36 = true := by kernel_rfl
theorem ev36  (k : Nat) (x : ((.cons .str .nil) : Tys).den) : evFun (mkEnv ts36 (fs36 )) H36 k body36 54 [.tmp 2] (explodes (.cons .str .nil) x) [] (dec (.cons .bool .nil)) = f36  k x.1 := by kernel_rfl
/-! ### jitney/base.Out -/
def f40  (k : Nat) (x0 : Int) (x1 : Int) (x2 : Int) : Option (Bool × Unit) :=
  bif (decide (x0 < x1)) then
    some (true, ())
  else
    some ((decide (x0 > x2)), ())
def H40 : Hints where
  loop := fun n => match n with
    | _ => none
  region := fun n => match n with
    | _ => none
  cond := fun n => match n with
    | _ => none
  block := fun n => match n with
    | _ => none
abbrev A40 : Tys := (.cons (.int .i64) (.cons (.int .i64) (.cons (.int .i64) .nil)))
def ts40 : List (Nat × TD) := [(3, (.data (.int .i64))), (4, (.data .bool))]
noncomputable def fs40  : List (Nat × FSem) := []
noncomputable def body40 : Code := match Tryd.f40.body with | some c => c | none => .skip
theorem ty40 : chkTypes Tryd.prog ts40 = true := by kernel_rfl
theorem ev40  (k : Nat) (x : ((.cons (.int .i64) (.cons (.int .i64) (.cons (.int .i64) .nil))) : Tys).den) : evFun (mkEnv ts40 (fs40 )) H40 k body40 15 [.tmp 6] (explodes (.cons (.int .i64) (.cons (.int .i64) (.cons (.int .i64) .nil))) x) [] (dec (.cons .bool .nil)) = f40  k x.1 x.2.1 x.2.2.1 := by kernel_rfl
/-! ### jitney/base.Moment -/
def f37 (g40 : Int → Int → Int → (Bool)) (k : Nat) (x0 : Int) : Option (Bool × Unit) :=
  some ((!(g40 x0 (0 : Int) (345686399999 : Int))), ())
def H37 : Hints where
  loop := fun n => match n with
    | _ => none
  region := fun n => match n with
    | _ => none
  cond := fun n => match n with
    | _ => none
  block := fun n => match n with
    | _ => none
abbrev A37 : Tys := (.cons (.int .i64) .nil)
def ts37 : List (Nat × TD) := [(3, (.data (.int .i64))), (4, (.data .bool))]
noncomputable def fs37 (g40 : Int → Int → Int → (Bool)) : List (Nat × FSem) := [(40, .fn (.cons (.int .i64) (.cons (.int .i64) (.cons (.int .i64) .nil))) (.cons .bool .nil) fun x => ((g40 x.1 x.2.1 x.2.2.1), ()))]
noncomputable def body37 : Code := match Tryd.f37.body with | some c => c | none => .skip
theorem ty37 : chkTypes Tryd.prog ts37 = true := by kernel_rfl
theorem ev37 (g40 : Int → Int → Int → (Bool)) (k : Nat) (x : ((.cons (.int .i64) .nil) : Tys).den) : evFun (mkEnv ts37 (fs37 g40)) H37 k body37 6 [.tmp 2] (explodes (.cons (.int .i64) .nil) x) [] (dec (.cons .bool .nil)) = f37 g40 k x.1 := by kernel_rfl
/-! ### cmp.isNaN[int] -/
def f52  (k : Nat) (x0 : Int) : Option (Bool × Unit) :=
  some ((x0 != x0), ())
def H52 : Hints where
  loop := fun n => match n with
    | _ => none
  region := fun n => match n with
    | _ => none
  cond := fun n => match n with
    | _ => none
  block := fun n => match n with
    | _ => none
abbrev A52 : Tys := (.cons (.int .i64) .nil)
def ts52 : List (Nat × TD) := [(3, (.data (.int .i64))), (4, (.data .bool))]
noncomputable def fs52  : List (Nat × FSem) := []
noncomputable def body52 : Code := match Tryd.f52.body with | some c => c | none => .skip
theorem ty52 : chkTypes Tryd.prog ts52 = true := by kernel_rfl
theorem ev52  (k : Nat) (x : ((.cons (.int .i64) .nil) : Tys).den) : evFun (mkEnv ts52 (fs52 )) H52 k body52 6 [.tmp 2] (explodes (.cons (.int .i64) .nil) x) [] (dec (.cons .bool .nil)) = f52  k x.1 := by kernel_rfl
/-! ### cmp.Compare[int] -/
def f39 (g52 : Int → (Bool)) (k : Nat) (x0 : Int) (x1 : Int) : Option (Int × Unit) :=
  bif (g52 x0) then
    bif (g52 x1) then
      some ((0 : Int), ())
    else
      some ((-1 : Int), ())
  else
    bif (g52 x1) then
      some ((1 : Int), ())
    else
      bif (decide (x0 < x1)) then
        some ((-1 : Int), ())
      else
        bif (decide (x0 > x1)) then
          some ((1 : Int), ())
        else
          some ((0 : Int), ())
def H39 : Hints where
  loop := fun n => match n with
    | _ => none
  region := fun n => match n with
    | _ => none
  cond := fun n => match n with
    | _ => none
  block := fun n => match n with
    | _ => none
abbrev A39 : Tys := (.cons (.int .i64) (.cons (.int .i64) .nil))
def ts39 : List (Nat × TD) := [(3, (.data (.int .i64)))]
noncomputable def fs39 (g52 : Int → (Bool)) : List (Nat × FSem) := [(52, .fn (.cons (.int .i64) .nil) (.cons .bool .nil) fun x => ((g52 x.1), ()))]
noncomputable def body39 : Code := match Tryd.f39.body with | some c => c | none => .skip
theorem ty39 : chkTypes Tryd.prog ts39 = true := by kernel_rfl
theorem ev39 (g52 : Int → (Bool)) (k : Nat) (x : ((.cons (.int .i64) (.cons (.int .i64) .nil)) : Tys).den) : evFun (mkEnv ts39 (fs39 g52)) H39 k body39 20 [.tmp 4] (explodes (.cons (.int .i64) (.cons (.int .i64) .nil)) x) [] (dec (.cons (.int .i64) .nil)) = f39 g52 k x.1 x.2.1 := by kernel_rfl
/-! ### jitney/trust.CheckDone -/
def f15 (g29 : UT7 → UT7 → (Int)) (g36 : ByteArray → (Bool)) (g37 : Int → (Bool)) (g38 : (List Int) → (Int)) (g39 : Int → Int → (Int)) (k : Nat) (x0 : List UT7) : Option (Int × Unit) :=
  bif (decide (((List.length x0 : Nat) : Int) > (3000 : Int))) then
    some ((2 : Int), ())
  else
    Option.bind (α := (Int × Unit) ⊕ ((Unit) × (Unit))) (iter (σ := (Int × Unit) × (Unit)) (τ := (Int × Unit) ⊕ ((Unit) × (Unit))) k (fun y1 =>
        bif (decide (y1.1.1 < ((List.length x0 : Nat) : Int))) then
          bif (inR y1.1.1 ((List.length x0 : Nat) : Int)) then
            bif (!(g36 ((rd (α := UT7) zUT7 x0 y1.1.1).1))) then
              some (.inr (.inl ((5 : Int), ())))
            else
              bif (!(g36 ((rd (α := UT7) zUT7 x0 y1.1.1).2.1))) then
                some (.inr (.inl ((5 : Int), ())))
              else
                bif (!(g37 ((rd (α := UT7) zUT7 x0 y1.1.1).2.2.1))) then
                  some (.inr (.inl ((1 : Int), ())))
                else
                  bif (decide (y1.1.1 > (0 : Int))) then
                    bif (inR (IntKind.i64.wrap (y1.1.1 - (1 : Int))) ((List.length x0 : Nat) : Int)) then
                      bif (inR (IntKind.i64.wrap (y1.1.1 - (1 : Int))) ((List.length x0 : Nat) : Int)) then
                        bif (decide ((g38 ([(g29 (rd (α := UT7) zUT7 x0 y1.1.1) (rd (α := UT7) zUT7 x0 (IntKind.i64.wrap (y1.1.1 - (1 : Int))))), (g39 ((rd (α := UT7) zUT7 x0 y1.1.1).2.2.1) ((rd (α := UT7) zUT7 x0 (IntKind.i64.wrap (y1.1.1 - (1 : Int)))).2.2.1))])) ≤ (0 : Int))) then
                          some (.inr (.inl ((7 : Int), ())))
                        else
                          some (.inl (((IntKind.i64.wrap (y1.1.1 + (1 : Int))), ()), ()))
                      else
                        none
                    else
                      none
                  else
                    some (.inl (((IntKind.i64.wrap (y1.1.1 + (1 : Int))), ()), ()))
          else
            none
        else
          some (.inr (.inr ((), ())))) (((0 : Int), ()), ())) fun r => match r with
    | .inl z => some z
    | .inr z2 =>
      some ((0 : Int), ())
def H15 : Hints where
  loop := fun n => match n with
    | 0 => some ({ slots := [(10, (.int .i64))], objs := [], gone := [] }, 0, { slots := [], objs := [], gone := [] })
    | _ => none
  region := fun n => match n with
    | _ => none
  cond := fun n => match n with
    | _ => none
  block := fun n => match n with
    | _ => none
abbrev A15 : Tys := (.cons (.slice UY2) .nil)
def ts15 : List (Nat × TD) := [(3, (.data (.int .i64))), (9, (.data .str)), (23, (.data (.slice UY2))), (25, (.data (.int .i64))), (35, (.data UY2)), (85, (.data (.slice (.int .i64))))]
noncomputable def fs15 (g29 : UT7 → UT7 → (Int)) (g36 : ByteArray → (Bool)) (g37 : Int → (Bool)) (g38 : (List Int) → (Int)) (g39 : Int → Int → (Int)) : List (Nat × FSem) := [(29, .fn (.cons UY2 (.cons UY2 .nil)) (.cons (.int .i64) .nil) fun x => ((g29 x.1 x.2.1), ())), (36, .fn (.cons .str .nil) (.cons .bool .nil) fun x => ((g36 x.1), ())), (37, .fn (.cons (.int .i64) .nil) (.cons .bool .nil) fun x => ((g37 x.1), ())), (38, .fn (.cons (.slice (.int .i64)) .nil) (.cons (.int .i64) .nil) fun x => ((g38 x.1), ())), (39, .fn (.cons (.int .i64) (.cons (.int .i64) .nil)) (.cons (.int .i64) .nil) fun x => ((g39 x.1 x.2.1), ()))]
noncomputable def body15 : Code := match Tryd.f15.body with | some c => c | none => .skip
theorem ty15 : chkTypes Tryd.prog ts15 = true := by kernel_rfl
theorem ev15 (g29 : UT7 → UT7 → (Int)) (g36 : ByteArray → (Bool)) (g37 : Int → (Bool)) (g38 : (List Int) → (Int)) (g39 : Int → Int → (Int)) (k : Nat) (x : ((.cons (.slice UY2) .nil) : Tys).den) : evFun (mkEnv ts15 (fs15 g29 g36 g37 g38 g39)) H15 k body15 56 [.tmp 2] (explodes (.cons (.slice UY2) .nil) x) [] (dec (.cons (.int .i64) .nil)) = f15 g29 g36 g37 g38 g39 k x.1 := by kernel_rfl
/-! ### jitney/trust.CheckQuests -/
def f16 (g36 : ByteArray → (Bool)) (g40 : Int → Int → Int → (Bool)) (k : Nat) (x0 : List UT9) : Option (Int × Unit) :=
  bif (decide (((List.length x0 : Nat) : Int) > (50 : Int))) then
    some ((2 : Int), ())
  else
    Option.bind (α := (Int × Unit) ⊕ ((Unit) × (Unit))) (iter (σ := (Int × Unit) × (Unit)) (τ := (Int × Unit) ⊕ ((Unit) × (Unit))) k (fun y1 =>
        bif (decide (y1.1.1 < ((List.length x0 : Nat) : Int))) then
          bif (inR y1.1.1 ((List.length x0 : Nat) : Int)) then
            bif (!(g36 ((rd (α := UT9) zUT9 x0 y1.1.1).1))) then
              some (.inr (.inl ((5 : Int), ())))
            else
              Option.bind (α := (((Int × Unit) × (Unit)) ⊕ ((Int × Unit) ⊕ ((Unit) × (Unit)))) ⊕ ((Bool × Unit) × (Unit))) (
                  bif (decide (y1.1.1 > (0 : Int))) then
                    bif (inR (IntKind.i64.wrap (y1.1.1 - (1 : Int))) ((List.length x0 : Nat) : Int)) then
                      some (.inr ((((sLt ((rd (α := UT9) zUT9 x0 y1.1.1).1) ((rd (α := UT9) zUT9 x0 (IntKind.i64.wrap (y1.1.1 - (1 : Int)))).1)) || (sEq ((rd (α := UT9) zUT9 x0 y1.1.1).1) ((rd (α := UT9) zUT9 x0 (IntKind.i64.wrap (y1.1.1 - (1 : Int)))).1))), ()), ()))
                    else
                      none
                  else
                    some (.inr ((false, ()), ()))) fun r => match r with
              | .inl z => some z
              | .inr y2 =>
                bif y2.1.1 then
                  some (.inr (.inl ((7 : Int), ())))
                else
                  bif (decide ((rd (α := UT9) zUT9 x0 y1.1.1).2.1.1 < (0 : Int))) then
                    some (.inr (.inl ((1 : Int), ())))
                  else
                    bif (decide ((rd (α := UT9) zUT9 x0 y1.1.1).2.1.1 ≥ (rd (α := UT9) zUT9 x0 y1.1.1).2.1.2.1)) then
                      some (.inr (.inl ((1 : Int), ())))
                    else
                      bif (decide ((rd (α := UT9) zUT9 x0 y1.1.1).2.1.2.1 > (345686400000 : Int))) then
                        some (.inr (.inl ((1 : Int), ())))
                      else
                        bif (g40 ((rd (α := UT9) zUT9 x0 y1.1.1).2.2.1) (1 : Int) (3000 : Int)) then
                          some (.inr (.inl ((1 : Int), ())))
                        else
                          bif (g40 ((rd (α := UT9) zUT9 x0 y1.1.1).2.2.2.1) (0 : Int) (1000000000 : Int)) then
                            some (.inr (.inl ((1 : Int), ())))
                          else
                            bif (g40 ((rd (α := UT9) zUT9 x0 y1.1.1).2.2.2.2.1) (1 : Int) (1000 : Int)) then
                              some (.inr (.inl ((1 : Int), ())))
                            else
                              some (.inl (((IntKind.i64.wrap (y1.1.1 + (1 : Int))), ()), ()))
          else
            none
        else
          some (.inr (.inr ((), ())))) (((0 : Int), ()), ())) fun r => match r with
    | .inl z => some z
    | .inr z3 =>
      some ((0 : Int), ())
def H16 : Hints where
  loop := fun n => match n with
    | 0 => some ({ slots := [(10, (.int .i64))], objs := [], gone := [] }, 0, { slots := [], objs := [], gone := [] })
    | _ => none
  region := fun n => match n with
    | 8 => some { slots := [(20, .bool)], objs := [], gone := [] }
    | _ => none
  cond := fun n => match n with
    | _ => none
  block := fun n => match n with
    | _ => none
abbrev A16 : Tys := (.cons (.slice UY5) .nil)
def ts16 : List (Nat × TD) := [(3, (.data (.int .i64))), (9, (.data .str)), (22, (.data (.slice UY5))), (25, (.data (.int .i64))), (30, (.data UY1)), (32, (.data UY5))]
noncomputable def fs16 (g36 : ByteArray → (Bool)) (g40 : Int → Int → Int → (Bool)) : List (Nat × FSem) := [(36, .fn (.cons .str .nil) (.cons .bool .nil) fun x => ((g36 x.1), ())), (40, .fn (.cons (.int .i64) (.cons (.int .i64) (.cons (.int .i64) .nil))) (.cons .bool .nil) fun x => ((g40 x.1 x.2.1 x.2.2.1), ()))]
noncomputable def body16 : Code := match Tryd.f16.body with | some c => c | none => .skip
theorem ty16 : chkTypes Tryd.prog ts16 = true := by kernel_rfl
theorem ev16 (g36 : ByteArray → (Bool)) (g40 : Int → Int → Int → (Bool)) (k : Nat) (x : ((.cons (.slice UY5) .nil) : Tys).den) : evFun (mkEnv ts16 (fs16 g36 g40)) H16 k body16 70 [.tmp 2] (explodes (.cons (.slice UY5) .nil) x) [] (dec (.cons (.int .i64) .nil)) = f16 g36 g40 k x.1 := by kernel_rfl
/-! ### jitney/base.First -/
def f27  (k : Nat) (x0 : List Int) : Option (Int × Unit) :=
  Option.bind (α := (Int × Unit) ⊕ ((Unit) × (Unit))) (iter (σ := (Int × Unit) × (Unit)) (τ := (Int × Unit) ⊕ ((Unit) × (Unit))) k (fun y1 =>
      bif (decide (y1.1.1 < ((List.length x0 : Nat) : Int))) then
        bif (inR y1.1.1 ((List.length x0 : Nat) : Int)) then
          bif ((rd (α := Int) (0 : Int) x0 y1.1.1) != (0 : Int)) then
            some (.inr (.inl ((rd (α := Int) (0 : Int) x0 y1.1.1), ())))
          else
            some (.inl (((IntKind.i64.wrap (y1.1.1 + (1 : Int))), ()), ()))
        else
          none
      else
        some (.inr (.inr ((), ())))) (((0 : Int), ()), ())) fun r => match r with
  | .inl z => some z
  | .inr z2 =>
    some ((0 : Int), ())
def H27 : Hints where
  loop := fun n => match n with
    | 0 => some ({ slots := [(7, (.int .i64))], objs := [], gone := [] }, 0, { slots := [], objs := [], gone := [] })
    | _ => none
  region := fun n => match n with
    | _ => none
  cond := fun n => match n with
    | _ => none
  block := fun n => match n with
    | _ => none
abbrev A27 : Tys := (.cons (.slice (.int .i64)) .nil)
def ts27 : List (Nat × TD) := [(3, (.data (.int .i64))), (25, (.data (.int .i64))), (64, (.data (.slice (.int .i64))))]
noncomputable def fs27  : List (Nat × FSem) := []
noncomputable def body27 : Code := match Tryd.f27.body with | some c => c | none => .skip
theorem ty27 : chkTypes Tryd.prog ts27 = true := by kernel_rfl
theorem ev27  (k : Nat) (x : ((.cons (.slice (.int .i64)) .nil) : Tys).den) : evFun (mkEnv ts27 (fs27 )) H27 k body27 15 [.tmp 2] (explodes (.cons (.slice (.int .i64)) .nil) x) [] (dec (.cons (.int .i64) .nil)) = f27  k x.1 := by kernel_rfl
/-! ### jitney/trust.whoFault -/
def f28 (g36 : ByteArray → (Bool)) (g37 : Int → (Bool)) (k : Nat) (x0 : ByteArray) (x1 : Int) : Option (Int × Unit) :=
  bif (!(g36 x0)) then
    some ((5 : Int), ())
  else
    bif (!(g37 x1)) then
      some ((1 : Int), ())
    else
      some ((0 : Int), ())
def H28 : Hints where
  loop := fun n => match n with
    | _ => none
  region := fun n => match n with
    | _ => none
  cond := fun n => match n with
    | _ => none
  block := fun n => match n with
    | _ => none
abbrev A28 : Tys := (.cons .str (.cons (.int .i64) .nil))
def ts28 : List (Nat × TD) := [(3, (.data (.int .i64))), (9, (.data .str)), (25, (.data (.int .i64)))]
noncomputable def fs28 (g36 : ByteArray → (Bool)) (g37 : Int → (Bool)) : List (Nat × FSem) := [(36, .fn (.cons .str .nil) (.cons .bool .nil) fun x => ((g36 x.1), ())), (37, .fn (.cons (.int .i64) .nil) (.cons .bool .nil) fun x => ((g37 x.1), ()))]
noncomputable def body28 : Code := match Tryd.f28.body with | some c => c | none => .skip
theorem ty28 : chkTypes Tryd.prog ts28 = true := by kernel_rfl
theorem ev28 (g36 : ByteArray → (Bool)) (g37 : Int → (Bool)) (k : Nat) (x : ((.cons .str (.cons (.int .i64) .nil)) : Tys).den) : evFun (mkEnv ts28 (fs28 g36 g37)) H28 k body28 13 [.tmp 4] (explodes (.cons .str (.cons (.int .i64) .nil)) x) [] (dec (.cons (.int .i64) .nil)) = f28 g36 g37 k x.1 x.2.1 := by kernel_rfl
/-! ### strconv.Itoa -/
def f30 (g49 : Int → Option (ByteArray × Unit)) (k : Nat) (x0 : Int) : Option (ByteArray × Unit) :=
  Option.bind (g49 x0) fun v1 =>
  some (v1.1, ())
def H30 : Hints where
  loop := fun n => match n with
    | _ => none
  region := fun n => match n with
    | _ => none
  cond := fun n => match n with
    | _ => none
  block := fun n => match n with
    | _ => none
abbrev A30 : Tys := (.cons (.int .i64) .nil)
def ts30 : List (Nat × TD) := [(3, (.data (.int .i64))), (9, (.data .str))]
noncomputable def fs30 (g49 : Int → Option (ByteArray × Unit)) : List (Nat × FSem) := [(49, .pfn (.cons (.int .i64) .nil) (.cons .str .nil) fun x => (g49 x.1))]
noncomputable def body30 : Code := match Tryd.f30.body with | some c => c | none => .skip
theorem ty30 : chkTypes Tryd.prog ts30 = true := by kernel_rfl
theorem ev30 (g49 : Int → Option (ByteArray × Unit)) (k : Nat) (x : ((.cons (.int .i64) .nil) : Tys).den) : evFun (mkEnv ts30 (fs30 g49)) H30 k body30 5 [.tmp 2] (explodes (.cons (.int .i64) .nil) x) [] (dec (.cons .str .nil)) = f30 g49 k x.1 := by kernel_rfl
/-! ### jitney/trust.Bonus -/
def f5 (g15 : (List UT7) → (Int)) (g16 : (List UT9) → (Int)) (g27 : (List Int) → (Int)) (g28 : ByteArray → Int → (Int)) (g29 : UT7 → UT7 → (Int)) (g30 : Int → Option (ByteArray × Unit)) (k : Nat) (x0 : List UT9) (x1 : List UT7) (x2 : ByteArray) (x3 : Int) : Option ((List UT4) × Int × Unit) :=
  bif ((g27 ([(g16 x0), (g15 x1), (g28 x2 x3)])) != (0 : Int)) then
    some ([], (g27 ([(g16 x0), (g15 x1), (g28 x2 x3)])), ())
  else
    Option.bind (α := ((List UT4) × Int × Unit) ⊕ (((List UT7) × Unit) × (Unit))) (iter (σ := ((List UT7) × Int × Unit) × (Unit)) (τ := ((List UT4) × Int × Unit) ⊕ (((List UT7) × Unit) × (Unit))) k (fun y1 =>
        bif (decide (y1.1.2.1 < ((List.length x1 : Nat) : Int))) then
          bif (inR y1.1.2.1 ((List.length x1 : Nat) : Int)) then
            bif (!(sEq ((rd (α := UT7) zUT7 x1 y1.1.2.1).1) x2)) then
              some (.inl ((y1.1.1, (IntKind.i64.wrap (y1.1.2.1 + (1 : Int))), ()), ()))
            else
              bif (decide ((rd (α := UT7) zUT7 x1 y1.1.2.1).2.2.1 > x3)) then
                some (.inl ((y1.1.1, (IntKind.i64.wrap (y1.1.2.1 + (1 : Int))), ()), ()))
              else
                Option.bind (α := ((((List UT7) × Int × Unit) × (Unit)) ⊕ (((List UT4) × Int × Unit) ⊕ (((List UT7) × Unit) × (Unit)))) ⊕ ((Bool × Unit) × (Unit))) (
                    bif (decide ((IntKind.i64.wrap (((List.length y1.1.1 : Nat) : Int) - (1 : Int))) ≥ (0 : Int))) then
                      bif (inR (IntKind.i64.wrap (((List.length y1.1.1 : Nat) : Int) - (1 : Int))) ((List.length y1.1.1 : Nat) : Int)) then
                        bif (inR (IntKind.i64.wrap (((List.length y1.1.1 : Nat) : Int) - (1 : Int))) ((List.length y1.1.1 : Nat) : Int)) then
                          some (.inr ((((g29 (rd (α := UT7) zUT7 y1.1.1 (IntKind.i64.wrap (((List.length y1.1.1 : Nat) : Int) - (1 : Int)))) (rd (α := UT7) zUT7 x1 y1.1.2.1)) == (0 : Int)), ()), ()))
                        else
                          none
                      else
                        none
                    else
                      some (.inr ((false, ()), ()))) fun r => match r with
                | .inl z => some z
                | .inr y2 =>
                  bif y2.1.1 then
                    bif (inR (IntKind.i64.wrap (((List.length y1.1.1 : Nat) : Int) - (1 : Int))) ((List.length y1.1.1 : Nat) : Int)) then
                      bif (inR (IntKind.i64.wrap (((List.length y1.1.1 : Nat) : Int) - (1 : Int))) ((List.length y1.1.1 : Nat) : Int)) then
                        some (.inl (((List.set y1.1.1 (Int.toNat (IntKind.i64.wrap (((List.length y1.1.1 : Nat) : Int) - (1 : Int)))) (rd (α := UT7) zUT7 x1 y1.1.2.1)), (IntKind.i64.wrap (y1.1.2.1 + (1 : Int))), ()), ()))
                      else
                        none
                    else
                      none
                  else
                    bif decide (List.length y1.1.1 + List.length ([(rd (α := UT7) zUT7 x1 y1.1.2.1)]) ≤ 4294967296) then
                      some (.inl (((y1.1.1 ++ [(rd (α := UT7) zUT7 x1 y1.1.2.1)]), (IntKind.i64.wrap (y1.1.2.1 + (1 : Int))), ()), ()))
                    else
                      none
          else
            none
        else
          some (.inr (.inr ((y1.1.1, ()), ())))) (([], (0 : Int), ()), ())) fun r => match r with
    | .inl z => some z
    | .inr z3 =>
      Option.bind (α := ((List UT4) × Int × Unit) ⊕ (((List UT4) × Unit) × (Unit))) (iter (σ := ((List UT4) × Int × Unit) × (Unit)) (τ := ((List UT4) × Int × Unit) ⊕ (((List UT4) × Unit) × (Unit))) k (fun y4 =>
          bif (decide (y4.1.2.1 < ((List.length x0 : Nat) : Int))) then
            bif (inR y4.1.2.1 ((List.length x0 : Nat) : Int)) then
              Option.bind (α := ((((List UT4) × Int × Unit) × (Unit)) ⊕ (((List UT4) × Int × Unit) ⊕ (((List UT4) × Unit) × (Unit)))) ⊕ ((Int × Unit) × (Unit))) (iter (σ := UT0 × (Unit)) (τ := ((((List UT4) × Int × Unit) × (Unit)) ⊕ (((List UT4) × Int × Unit) ⊕ (((List UT4) × Unit) × (Unit)))) ⊕ ((Int × Unit) × (Unit))) k (fun y5 =>
                  bif (decide (y5.1.2.1 < ((List.length z3.1.1 : Nat) : Int))) then
                    bif (inR y5.1.2.1 ((List.length z3.1.1 : Nat) : Int)) then
                      bif (inR y5.1.2.1 ((List.length z3.1.1 : Nat) : Int)) then
                        bif (!(rd (α := UT7) zUT7 z3.1.1 y5.1.2.1).2.2.2.1) then
                          bif (decide ((rd (α := UT7) zUT7 z3.1.1 y5.1.2.1).2.2.1 ≥ (rd (α := UT9) zUT9 x0 y4.1.2.1).2.1.1)) then
                            bif (decide ((rd (α := UT7) zUT7 z3.1.1 y5.1.2.1).2.2.1 < (rd (α := UT9) zUT9 x0 y4.1.2.1).2.1.2.1)) then
                              some (.inl (((IntKind.i64.wrap (y5.1.1 + (1 : Int))), (IntKind.i64.wrap (y5.1.2.1 + (1 : Int))), ()), ()))
                            else
                              some (.inl ((y5.1.1, (IntKind.i64.wrap (y5.1.2.1 + (1 : Int))), ()), ()))
                          else
                            some (.inl ((y5.1.1, (IntKind.i64.wrap (y5.1.2.1 + (1 : Int))), ()), ()))
                        else
                          some (.inl ((y5.1.1, (IntKind.i64.wrap (y5.1.2.1 + (1 : Int))), ()), ()))
                      else
                        none
                    else
                      none
                  else
                    some (.inr (.inr ((y5.1.1, ()), ())))) zUT3) fun r => match r with
              | .inl z => some z
              | .inr z6 =>
                bif decide ((rd (α := UT9) zUT9 x0 y4.1.2.1).2.2.1 = 0) then
                  none
                else
                  bif (decide ((IntKind.i64.wrap ((if (decide ((rd (α := UT9) zUT9 x0 y4.1.2.1).2.2.2.2.1 < (IntKind.i64.wrap (Int.tdiv z6.1.1 (rd (α := UT9) zUT9 x0 y4.1.2.1).2.2.1)))) then (rd (α := UT9) zUT9 x0 y4.1.2.1).2.2.2.2.1 else (IntKind.i64.wrap (Int.tdiv z6.1.1 (rd (α := UT9) zUT9 x0 y4.1.2.1).2.2.1))) * (rd (α := UT9) zUT9 x0 y4.1.2.1).2.2.2.1)) > (0 : Int))) then
                    Option.bind (g30 (IntKind.i64.wrap ((if (decide ((rd (α := UT9) zUT9 x0 y4.1.2.1).2.2.2.2.1 < (IntKind.i64.wrap (Int.tdiv z6.1.1 (rd (α := UT9) zUT9 x0 y4.1.2.1).2.2.1)))) then (rd (α := UT9) zUT9 x0 y4.1.2.1).2.2.2.2.1 else (IntKind.i64.wrap (Int.tdiv z6.1.1 (rd (α := UT9) zUT9 x0 y4.1.2.1).2.2.1))) * (rd (α := UT9) zUT9 x0 y4.1.2.1).2.2.2.1))) fun v7 =>
                    bif decide (List.length y4.1.1 + List.length ([((rd (α := UT9) zUT9 x0 y4.1.2.1).1, v7.1, ())]) ≤ 4294967296) then
                      some (.inl (((y4.1.1 ++ [((rd (α := UT9) zUT9 x0 y4.1.2.1).1, v7.1, ())]), (IntKind.i64.wrap (y4.1.2.1 + (1 : Int))), ()), ()))
                    else
                      none
                  else
                    some (.inl ((y4.1.1, (IntKind.i64.wrap (y4.1.2.1 + (1 : Int))), ()), ()))
            else
              none
          else
            some (.inr (.inr ((y4.1.1, ()), ())))) (([], (0 : Int), ()), ())) fun r => match r with
      | .inl z => some z
      | .inr z8 =>
        some (z8.1.1, (0 : Int), ())
def H5 : Hints where
  loop := fun n => match n with
    | 0 => some ({ slots := [(11, (.row UY2)), (36, (.int .i64))], objs := [], gone := [] }, 0, { slots := [(11, (.row UY2))], objs := [], gone := [] })
    | 3 => some ({ slots := [(15, (.row UY0)), (77, (.int .i64))], objs := [], gone := [] }, 3, { slots := [(15, (.row UY0))], objs := [], gone := [] })
    | 5 => some ({ slots := [(18, (.int .i64)), (83, (.int .i64))], objs := [], gone := [] }, 5, { slots := [(18, (.int .i64))], objs := [], gone := [] })
    | _ => none
  region := fun n => match n with
    | 11 => some { slots := [(58, .bool)], objs := [], gone := [] }
    | _ => none
  cond := fun n => match n with
    | _ => none
  block := fun n => match n with
    | _ => none
abbrev A5 : Tys := (.cons (.slice UY5) (.cons (.slice UY2) (.cons .str (.cons (.int .i64) .nil))))
def ts5 : List (Nat × TD) := [(3, (.data (.int .i64))), (4, (.data .bool)), (9, (.data .str)), (22, (.data (.slice UY5))), (23, (.data (.slice UY2))), (24, (.data (.slice UY0))), (25, (.data (.int .i64))), (30, (.data UY1)), (32, (.data UY5)), (35, (.data UY2)), (45, (.data UY0)), (64, (.data (.slice (.int .i64))))]
noncomputable def fs5 (g15 : (List UT7) → (Int)) (g16 : (List UT9) → (Int)) (g27 : (List Int) → (Int)) (g28 : ByteArray → Int → (Int)) (g29 : UT7 → UT7 → (Int)) (g30 : Int → Option (ByteArray × Unit)) : List (Nat × FSem) := [(15, .fn (.cons (.slice UY2) .nil) (.cons (.int .i64) .nil) fun x => ((g15 x.1), ())), (16, .fn (.cons (.slice UY5) .nil) (.cons (.int .i64) .nil) fun x => ((g16 x.1), ())), (27, .fn (.cons (.slice (.int .i64)) .nil) (.cons (.int .i64) .nil) fun x => ((g27 x.1), ())), (28, .fn (.cons .str (.cons (.int .i64) .nil)) (.cons (.int .i64) .nil) fun x => ((g28 x.1 x.2.1), ())), (29, .fn (.cons UY2 (.cons UY2 .nil)) (.cons (.int .i64) .nil) fun x => ((g29 x.1 x.2.1), ())), (30, .pfn (.cons (.int .i64) .nil) (.cons .str .nil) fun x => (g30 x.1))]
noncomputable def body5 : Code := match Tryd.f5.body with | some c => c | none => .skip
theorem ty5 : chkTypes Tryd.prog ts5 = true := by kernel_rfl
theorem ev5 (g15 : (List UT7) → (Int)) (g16 : (List UT9) → (Int)) (g27 : (List Int) → (Int)) (g28 : ByteArray → Int → (Int)) (g29 : UT7 → UT7 → (Int)) (g30 : Int → Option (ByteArray × Unit)) (k : Nat) (x : ((.cons (.slice UY5) (.cons (.slice UY2) (.cons .str (.cons (.int .i64) .nil)))) : Tys).den) : evFun (mkEnv ts5 (fs5 g15 g16 g27 g28 g29 g30)) H5 k body5 131 [.tmp 8, .tmp 9] (explodes (.cons (.slice UY5) (.cons (.slice UY2) (.cons .str (.cons (.int .i64) .nil)))) x) [] (dec (.cons (.slice UY0) (.cons (.int .i64) .nil))) = f5 g15 g16 g27 g28 g29 g30 k x.1 x.2.1 x.2.2.1 x.2.2.2.1 := by kernel_rfl
/-! ### slices.Clone[[]jitney/api.Quest,jitney/api.Quest] -/
def f6  (k : Nat) (x0 : List UT9) : Option ((List UT9) × Unit) :=
  bif Nat.ble (List.length x0) 0 then
    none
  else
    bif decide (List.length ([] : List UT9) + List.length x0 ≤ 4294967296) then
      some ((([] : List UT9) ++ x0), ())
    else
      none
def H6 : Hints where
  loop := fun n => match n with
    | _ => none
  region := fun n => match n with
    | _ => none
  cond := fun n => match n with
    | _ => none
  block := fun n => match n with
    | _ => none
abbrev A6 : Tys := (.cons (.slice UY5) .nil)
def ts6 : List (Nat × TD) := [(22, (.data (.slice UY5)))]
noncomputable def fs6  : List (Nat × FSem) := []
noncomputable def body6 : Code := match Tryd.f6.body with | some c => c | none => .skip
theorem ty6 : chkTypes Tryd.prog ts6 = true := by kernel_rfl
theorem ev6  (k : Nat) (x : ((.cons (.slice UY5) .nil) : Tys).den) : evFun (mkEnv ts6 (fs6 )) H6 k body6 8 [.tmp 2] (explodes (.cons (.slice UY5) .nil) x) [] (dec (.cons (.slice UY5) .nil)) = f6  k x.1 := by kernel_rfl
def s6 (l : List UT9) : Option ((List UT9) × Unit) := if l.length ≤ 4294967296 then some (l, ()) else none
/-! ### slices.Clone[[]jitney/api.Done,jitney/api.Done] -/
def f7  (k : Nat) (x0 : List UT7) : Option ((List UT7) × Unit) :=
  bif Nat.ble (List.length x0) 0 then
    none
  else
    bif decide (List.length ([] : List UT7) + List.length x0 ≤ 4294967296) then
      some ((([] : List UT7) ++ x0), ())
    else
      none
def H7 : Hints where
  loop := fun n => match n with
    | _ => none
  region := fun n => match n with
    | _ => none
  cond := fun n => match n with
    | _ => none
  block := fun n => match n with
    | _ => none
abbrev A7 : Tys := (.cons (.slice UY2) .nil)
def ts7 : List (Nat × TD) := [(23, (.data (.slice UY2)))]
noncomputable def fs7  : List (Nat × FSem) := []
noncomputable def body7 : Code := match Tryd.f7.body with | some c => c | none => .skip
theorem ty7 : chkTypes Tryd.prog ts7 = true := by kernel_rfl
theorem ev7  (k : Nat) (x : ((.cons (.slice UY2) .nil) : Tys).den) : evFun (mkEnv ts7 (fs7 )) H7 k body7 8 [.tmp 2] (explodes (.cons (.slice UY2) .nil) x) [] (dec (.cons (.slice UY2) .nil)) = f7  k x.1 := by kernel_rfl
def s7 (l : List UT7) : Option ((List UT7) × Unit) := if l.length ≤ 4294967296 then some (l, ()) else none
/-! ### jitney/jitlaw2.errs -/
def f8  (k : Nat) (x0 : List Int) : Option (Int × Unit) :=
  Option.bind (α := (Int × Unit) ⊕ ((Unit) × (Unit))) (iter (σ := (Int × Unit) × (Unit)) (τ := (Int × Unit) ⊕ ((Unit) × (Unit))) k (fun y1 =>
      bif (decide (y1.1.1 < ((List.length x0 : Nat) : Int))) then
        bif (inR y1.1.1 ((List.length x0 : Nat) : Int)) then
          bif ((rd (α := Int) (0 : Int) x0 y1.1.1) != (0 : Int)) then
            some (.inr (.inl ((rd (α := Int) (0 : Int) x0 y1.1.1), ())))
          else
            some (.inl (((IntKind.i64.wrap (y1.1.1 + (1 : Int))), ()), ()))
        else
          none
      else
        some (.inr (.inr ((), ())))) (((0 : Int), ()), ())) fun r => match r with
  | .inl z => some z
  | .inr z2 =>
    some ((0 : Int), ())
def H8 : Hints where
  loop := fun n => match n with
    | 0 => some ({ slots := [(7, (.int .i64))], objs := [], gone := [] }, 0, { slots := [], objs := [], gone := [] })
    | _ => none
  region := fun n => match n with
    | _ => none
  cond := fun n => match n with
    | _ => none
  block := fun n => match n with
    | _ => none
abbrev A8 : Tys := (.cons (.slice (.int .i64)) .nil)
def ts8 : List (Nat × TD) := [(3, (.data (.int .i64))), (25, (.data (.int .i64))), (64, (.data (.slice (.int .i64))))]
noncomputable def fs8  : List (Nat × FSem) := []
noncomputable def body8 : Code := match Tryd.f8.body with | some c => c | none => .skip
theorem ty8 : chkTypes Tryd.prog ts8 = true := by kernel_rfl
theorem ev8  (k : Nat) (x : ((.cons (.slice (.int .i64)) .nil) : Tys).den) : evFun (mkEnv ts8 (fs8 )) H8 k body8 15 [.tmp 2] (explodes (.cons (.slice (.int .i64)) .nil) x) [] (dec (.cons (.int .i64) .nil)) = f8  k x.1 := by kernel_rfl
/-! ### jitney/jitref2.in -/
def f31  (k : Nat) (x0 : Int) (x1 : Int) (x2 : Int) : Option (Bool × Unit) :=
  bif (decide (x1 ≤ x0)) then
    some ((decide (x0 ≤ x2)), ())
  else
    some (false, ())
def H31 : Hints where
  loop := fun n => match n with
    | _ => none
  region := fun n => match n with
    | _ => none
  cond := fun n => match n with
    | _ => none
  block := fun n => match n with
    | _ => none
abbrev A31 : Tys := (.cons (.int .i64) (.cons (.int .i64) (.cons (.int .i64) .nil)))
def ts31 : List (Nat × TD) := [(3, (.data (.int .i64))), (4, (.data .bool))]
noncomputable def fs31  : List (Nat × FSem) := []
noncomputable def body31 : Code := match Tryd.f31.body with | some c => c | none => .skip
theorem ty31 : chkTypes Tryd.prog ts31 = true := by kernel_rfl
theorem ev31  (k : Nat) (x : ((.cons (.int .i64) (.cons (.int .i64) (.cons (.int .i64) .nil))) : Tys).den) : evFun (mkEnv ts31 (fs31 )) H31 k body31 15 [.tmp 6] (explodes (.cons (.int .i64) (.cons (.int .i64) (.cons (.int .i64) .nil))) x) [] (dec (.cons .bool .nil)) = f31  k x.1 x.2.1 x.2.2.1 := by kernel_rfl
/-! ### strings.IndexByte -/
def f51 (g63 : ByteArray → Int → (Int)) (k : Nat) (x0 : ByteArray) (x1 : Int) : Option (Int × Unit) :=
  some ((g63 x0 x1), ())
def H51 : Hints where
  loop := fun n => match n with
    | _ => none
  region := fun n => match n with
    | _ => none
  cond := fun n => match n with
    | _ => none
  block := fun n => match n with
    | _ => none
abbrev A51 : Tys := (.cons .str (.cons (.int .u8) .nil))
def ts51 : List (Nat × TD) := [(3, (.data (.int .i64))), (5, (.data (.int .u8))), (9, (.data .str))]
noncomputable def fs51 (g63 : ByteArray → Int → (Int)) : List (Nat × FSem) := [(63, .fn (.cons .str (.cons (.int .u8) .nil)) (.cons (.int .i64) .nil) fun x => ((g63 x.1 x.2.1), ()))]
noncomputable def body51 : Code := match Tryd.f51.body with | some c => c | none => .skip
theorem ty51 : chkTypes Tryd.prog ts51 = true := by kernel_rfl
theorem ev51 (g63 : ByteArray → Int → (Int)) (k : Nat) (x : ((.cons .str (.cons (.int .u8) .nil)) : Tys).den) : evFun (mkEnv ts51 (fs51 g63)) H51 k body51 8 [.tmp 4] (explodes (.cons .str (.cons (.int .u8) .nil)) x) [] (dec (.cons (.int .i64) .nil)) = f51 g63 k x.1 x.2.1 := by kernel_rfl
/-! ### jitney/jitref2.only -/
def f34 (g51 : ByteArray → Int → (Int)) (k : Nat) (x0 : ByteArray) (x1 : ByteArray) : Option (Bool × Unit) :=
  Option.bind (α := (Bool × Unit) ⊕ ((Unit) × (Unit))) (iter (σ := (Int × Unit) × (Unit)) (τ := (Bool × Unit) ⊕ ((Unit) × (Unit))) k (fun y1 =>
      bif (decide (y1.1.1 < ((ByteArray.size x0 : Nat) : Int))) then
        bif (inR y1.1.1 ((ByteArray.size x0 : Nat) : Int)) then
          bif (decide ((g51 x1 (bt x0 y1.1.1)) < (0 : Int))) then
            some (.inr (.inl (false, ())))
          else
            some (.inl (((IntKind.i64.wrap (y1.1.1 + (1 : Int))), ()), ()))
        else
          none
      else
        some (.inr (.inr ((), ())))) (((0 : Int), ()), ())) fun r => match r with
  | .inl z => some z
  | .inr z2 =>
    some (true, ())
def H34 : Hints where
  loop := fun n => match n with
    | 0 => some ({ slots := [(8, (.int .i64))], objs := [], gone := [] }, 0, { slots := [], objs := [], gone := [] })
    | _ => none
  region := fun n => match n with
    | _ => none
  cond := fun n => match n with
    | _ => none
  block := fun n => match n with
    | _ => none
abbrev A34 : Tys := (.cons .str (.cons .str .nil))
def ts34 : List (Nat × TD) := [(3, (.data (.int .i64))), (4, (.data .bool)), (9, (.data .str))]
noncomputable def fs34 (g51 : ByteArray → Int → (Int)) : List (Nat × FSem) := [(51, .fn (.cons .str (.cons (.int .u8) .nil)) (.cons (.int .i64) .nil) fun x => ((g51 x.1 x.2.1), ()))]
noncomputable def body34 : Code := match Tryd.f34.body with | some c => c | none => .skip
theorem ty34 : chkTypes Tryd.prog ts34 = true := by kernel_rfl
theorem ev34 (g51 : ByteArray → Int → (Int)) (k : Nat) (x : ((.cons .str (.cons .str .nil)) : Tys).den) : evFun (mkEnv ts34 (fs34 g51)) H34 k body34 18 [.tmp 4] (explodes (.cons .str (.cons .str .nil)) x) [] (dec (.cons .bool .nil)) = f34 g51 k x.1 x.2.1 := by kernel_rfl
/-! ### jitney/jitref2.Key -/
def f12 (g31 : Int → Int → Int → (Bool)) (g34 : ByteArray → ByteArray → (Bool)) (k : Nat) (x0 : ByteArray) : Option (Bool × Unit) :=
  bif (g31 ((ByteArray.size x0 : Nat) : Int) (1 : Int) (40 : Int)) then
    bif (decide (0 ≤ (0 : Int)) && (decide ((0 : Int) ≤ (1 : Int)) && decide ((1 : Int) ≤ ((ByteArray.size x0 : Nat) : Int)))) then
      bif (g34 (ByteArray.extract x0 (Int.toNat (0 : Int)) (Int.toNat (1 : Int))) (ByteArray.mk #[97, 98, 99, 100, 101, 102, 103, 104, 105, 106, 107, 108, 109, 110, 111, 112, 113, 114, 115, 116, 117, 118, 119, 120, 121, 122])) then
        some ((g34 x0 (ByteArray.mk #[97, 98, 99, 100, 101, 102, 103, 104, 105, 106, 107, 108, 109, 110, 111, 112, 113, 114, 115, 116, 117, 118, 119, 120, 121, 122, 48, 49, 50, 51, 52, 53, 54, 55, 56, 57, 45, 95])), ())
      else
        some (false, ())
    else
      none
  else
    some (false, ())
def H12 : Hints where
  loop := fun n => match n with
    | _ => none
  region := fun n => match n with
    | _ => none
  cond := fun n => match n with
    | _ => none
  block := fun n => match n with
    | _ => none
abbrev A12 : Tys := (.cons .str .nil)
def ts12 : List (Nat × TD) := [(4, (.data .bool)), (9, (.data .str))]
noncomputable def fs12 (g31 : Int → Int → Int → (Bool)) (g34 : ByteArray → ByteArray → (Bool)) : List (Nat × FSem) := [(31, .fn (.cons (.int .i64) (.cons (.int .i64) (.cons (.int .i64) .nil))) (.cons .bool .nil) fun x => ((g31 x.1 x.2.1 x.2.2.1), ())), (34, .fn (.cons .str (.cons .str .nil)) (.cons .bool .nil) fun x => ((g34 x.1 x.2.1), ()))]
noncomputable def body12 : Code := match Tryd.f12.body with | some c => c | none => .skip
theorem ty12 : chkTypes Tryd.prog ts12 = true := by kernel_rfl
theorem ev12 (g31 : Int → Int → Int → (Bool)) (g34 : ByteArray → ByteArray → (Bool)) (k : Nat) (x : ((.cons .str .nil) : Tys).den) : evFun (mkEnv ts12 (fs12 g31 g34)) H12 k body12 15 [.tmp 2] (explodes (.cons .str .nil) x) [] (dec (.cons .bool .nil)) = f12 g31 g34 k x.1 := by kernel_rfl
/-! ### jitney/jitref2.QuestsFault -/
def f9 (g12 : ByteArray → (Bool)) (g31 : Int → Int → Int → (Bool)) (k : Nat) (x0 : List UT9) : Option (Int × Unit) :=
  bif (decide (((List.length x0 : Nat) : Int) > (50 : Int))) then
    some ((2 : Int), ())
  else
    Option.bind (α := (Int × Unit) ⊕ ((Unit) × (Unit))) (iter (σ := UT1 × (Unit)) (τ := (Int × Unit) ⊕ ((Unit) × (Unit))) k (fun y1 =>
        bif (decide (y1.1.2.1 < ((List.length x0 : Nat) : Int))) then
          bif (inR y1.1.2.1 ((List.length x0 : Nat) : Int)) then
            bif (!(g12 ((rd (α := UT9) zUT9 x0 y1.1.2.1).1))) then
              some (.inr (.inl ((5 : Int), ())))
            else
              bif ((sLt ((rd (α := UT9) zUT9 x0 y1.1.2.1).1) y1.1.1) || (sEq ((rd (α := UT9) zUT9 x0 y1.1.2.1).1) y1.1.1)) then
                some (.inr (.inl ((7 : Int), ())))
              else
                bif (decide ((rd (α := UT9) zUT9 x0 y1.1.2.1).2.1.1 < (0 : Int))) then
                  some (.inr (.inl ((1 : Int), ())))
                else
                  bif (decide ((rd (α := UT9) zUT9 x0 y1.1.2.1).2.1.1 ≥ (rd (α := UT9) zUT9 x0 y1.1.2.1).2.1.2.1)) then
                    some (.inr (.inl ((1 : Int), ())))
                  else
                    bif (decide ((rd (α := UT9) zUT9 x0 y1.1.2.1).2.1.2.1 > (345686400000 : Int))) then
                      some (.inr (.inl ((1 : Int), ())))
                    else
                      bif (!(g31 ((rd (α := UT9) zUT9 x0 y1.1.2.1).2.2.1) (1 : Int) (3000 : Int))) then
                        some (.inr (.inl ((1 : Int), ())))
                      else
                        bif (!(g31 ((rd (α := UT9) zUT9 x0 y1.1.2.1).2.2.2.1) (0 : Int) (1000000000 : Int))) then
                          some (.inr (.inl ((1 : Int), ())))
                        else
                          bif (!(g31 ((rd (α := UT9) zUT9 x0 y1.1.2.1).2.2.2.2.1) (1 : Int) (1000 : Int))) then
                            some (.inr (.inl ((1 : Int), ())))
                          else
                            some (.inl (((rd (α := UT9) zUT9 x0 y1.1.2.1).1, (IntKind.i64.wrap (y1.1.2.1 + (1 : Int))), ()), ()))
          else
            none
        else
          some (.inr (.inr ((), ())))) (((ByteArray.mk #[]), (0 : Int), ()), ())) fun r => match r with
    | .inl z => some z
    | .inr z2 =>
      some ((0 : Int), ())
def H9 : Hints where
  loop := fun n => match n with
    | 0 => some ({ slots := [(3, .str), (11, (.int .i64))], objs := [], gone := [] }, 0, { slots := [], objs := [], gone := [] })
    | _ => none
  region := fun n => match n with
    | _ => none
  cond := fun n => match n with
    | _ => none
  block := fun n => match n with
    | _ => none
abbrev A9 : Tys := (.cons (.slice UY5) .nil)
def ts9 : List (Nat × TD) := [(3, (.data (.int .i64))), (9, (.data .str)), (22, (.data (.slice UY5))), (25, (.data (.int .i64))), (30, (.data UY1)), (32, (.data UY5))]
noncomputable def fs9 (g12 : ByteArray → (Bool)) (g31 : Int → Int → Int → (Bool)) : List (Nat × FSem) := [(12, .fn (.cons .str .nil) (.cons .bool .nil) fun x => ((g12 x.1), ())), (31, .fn (.cons (.int .i64) (.cons (.int .i64) (.cons (.int .i64) .nil))) (.cons .bool .nil) fun x => ((g31 x.1 x.2.1 x.2.2.1), ()))]
noncomputable def body9 : Code := match Tryd.f9.body with | some c => c | none => .skip
theorem ty9 : chkTypes Tryd.prog ts9 = true := by kernel_rfl
theorem ev9 (g12 : ByteArray → (Bool)) (g31 : Int → Int → Int → (Bool)) (k : Nat) (x : ((.cons (.slice UY5) .nil) : Tys).den) : evFun (mkEnv ts9 (fs9 g12 g31)) H9 k body9 66 [.tmp 2] (explodes (.cons (.slice UY5) .nil) x) [] (dec (.cons (.int .i64) .nil)) = f9 g12 g31 k x.1 := by kernel_rfl
/-! ### jitney/jitref2.Moment -/
def f32 (g31 : Int → Int → Int → (Bool)) (k : Nat) (x0 : Int) : Option (Bool × Unit) :=
  some ((g31 x0 (0 : Int) (345686399999 : Int)), ())
def H32 : Hints where
  loop := fun n => match n with
    | _ => none
  region := fun n => match n with
    | _ => none
  cond := fun n => match n with
    | _ => none
  block := fun n => match n with
    | _ => none
abbrev A32 : Tys := (.cons (.int .i64) .nil)
def ts32 : List (Nat × TD) := [(3, (.data (.int .i64))), (4, (.data .bool))]
noncomputable def fs32 (g31 : Int → Int → Int → (Bool)) : List (Nat × FSem) := [(31, .fn (.cons (.int .i64) (.cons (.int .i64) (.cons (.int .i64) .nil))) (.cons .bool .nil) fun x => ((g31 x.1 x.2.1 x.2.2.1), ()))]
noncomputable def body32 : Code := match Tryd.f32.body with | some c => c | none => .skip
theorem ty32 : chkTypes Tryd.prog ts32 = true := by kernel_rfl
theorem ev32 (g31 : Int → Int → Int → (Bool)) (k : Nat) (x : ((.cons (.int .i64) .nil) : Tys).den) : evFun (mkEnv ts32 (fs32 g31)) H32 k body32 5 [.tmp 2] (explodes (.cons (.int .i64) .nil) x) [] (dec (.cons .bool .nil)) = f32 g31 k x.1 := by kernel_rfl
/-! ### cmp.isNaN[string] -/
def f62  (k : Nat) (x0 : ByteArray) : Option (Bool × Unit) :=
  some ((!(sEq x0 x0)), ())
def H62 : Hints where
  loop := fun n => match n with
    | _ => none
  region := fun n => match n with
    | _ => none
  cond := fun n => match n with
    | _ => none
  block := fun n => match n with
    | _ => none
abbrev A62 : Tys := (.cons .str .nil)
def ts62 : List (Nat × TD) := [(4, (.data .bool)), (9, (.data .str))]
noncomputable def fs62  : List (Nat × FSem) := []
noncomputable def body62 : Code := match Tryd.f62.body with | some c => c | none => .skip
theorem ty62 : chkTypes Tryd.prog ts62 = true := by kernel_rfl
theorem ev62  (k : Nat) (x : ((.cons .str .nil) : Tys).den) : evFun (mkEnv ts62 (fs62 )) H62 k body62 6 [.tmp 2] (explodes (.cons .str .nil) x) [] (dec (.cons .bool .nil)) = f62  k x.1 := by kernel_rfl
/-! ### cmp.Compare[string] -/
def f50 (g62 : ByteArray → (Bool)) (k : Nat) (x0 : ByteArray) (x1 : ByteArray) : Option (Int × Unit) :=
  bif (g62 x0) then
    bif (g62 x1) then
      some ((0 : Int), ())
    else
      some ((-1 : Int), ())
  else
    bif (g62 x1) then
      some ((1 : Int), ())
    else
      bif (sLt x0 x1) then
        some ((-1 : Int), ())
      else
        bif (!((sLt x0 x1) || (sEq x0 x1))) then
          some ((1 : Int), ())
        else
          some ((0 : Int), ())
def H50 : Hints where
  loop := fun n => match n with
    | _ => none
  region := fun n => match n with
    | _ => none
  cond := fun n => match n with
    | _ => none
  block := fun n => match n with
    | _ => none
abbrev A50 : Tys := (.cons .str (.cons .str .nil))
def ts50 : List (Nat × TD) := [(3, (.data (.int .i64))), (9, (.data .str))]
noncomputable def fs50 (g62 : ByteArray → (Bool)) : List (Nat × FSem) := [(62, .fn (.cons .str .nil) (.cons .bool .nil) fun x => ((g62 x.1), ()))]
noncomputable def body50 : Code := match Tryd.f50.body with | some c => c | none => .skip
theorem ty50 : chkTypes Tryd.prog ts50 = true := by kernel_rfl
theorem ev50 (g62 : ByteArray → (Bool)) (k : Nat) (x : ((.cons .str (.cons .str .nil)) : Tys).den) : evFun (mkEnv ts50 (fs50 g62)) H50 k body50 20 [.tmp 4] (explodes (.cons .str (.cons .str .nil)) x) [] (dec (.cons (.int .i64) .nil)) = f50 g62 k x.1 x.2.1 := by kernel_rfl
/-! ### slices.Compare[[]string,string] -/
def f33 (g50 : ByteArray → ByteArray → (Int)) (k : Nat) (x0 : List ByteArray) (x1 : List ByteArray) : Option (Int × Unit) :=
  Option.bind (α := (Int × Unit) ⊕ ((Unit) × (Unit))) (iter (σ := (Int × Unit) × (Unit)) (τ := (Int × Unit) ⊕ ((Unit) × (Unit))) k (fun y1 =>
      bif (decide (y1.1.1 < ((List.length x0 : Nat) : Int))) then
        bif (inR y1.1.1 ((List.length x0 : Nat) : Int)) then
          bif (decide (y1.1.1 ≥ ((List.length x1 : Nat) : Int))) then
            some (.inr (.inl ((1 : Int), ())))
          else
            bif (inR y1.1.1 ((List.length x1 : Nat) : Int)) then
              bif ((g50 (rd (α := ByteArray) ByteArray.empty x0 y1.1.1) (rd (α := ByteArray) ByteArray.empty x1 y1.1.1)) != (0 : Int)) then
                some (.inr (.inl ((g50 (rd (α := ByteArray) ByteArray.empty x0 y1.1.1) (rd (α := ByteArray) ByteArray.empty x1 y1.1.1)), ())))
              else
                some (.inl (((IntKind.i64.wrap (y1.1.1 + (1 : Int))), ()), ()))
            else
              none
        else
          none
      else
        some (.inr (.inr ((), ())))) (((0 : Int), ()), ())) fun r => match r with
  | .inl z => some z
  | .inr z2 =>
    bif (decide (((List.length x0 : Nat) : Int) < ((List.length x1 : Nat) : Int))) then
      some ((-1 : Int), ())
    else
      some ((0 : Int), ())
def H33 : Hints where
  loop := fun n => match n with
    | 0 => some ({ slots := [(11, (.int .i64))], objs := [], gone := [] }, 0, { slots := [], objs := [], gone := [] })
    | _ => none
  region := fun n => match n with
    | _ => none
  cond := fun n => match n with
    | _ => none
  block := fun n => match n with
    | _ => none
abbrev A33 : Tys := (.cons (.slice .str) (.cons (.slice .str) .nil))
def ts33 : List (Nat × TD) := [(3, (.data (.int .i64))), (9, (.data .str)), (68, (.data (.slice .str)))]
noncomputable def fs33 (g50 : ByteArray → ByteArray → (Int)) : List (Nat × FSem) := [(50, .fn (.cons .str (.cons .str .nil)) (.cons (.int .i64) .nil) fun x => ((g50 x.1 x.2.1), ()))]
noncomputable def body33 : Code := match Tryd.f33.body with | some c => c | none => .skip
theorem ty33 : chkTypes Tryd.prog ts33 = true := by kernel_rfl
theorem ev33 (g50 : ByteArray → ByteArray → (Int)) (k : Nat) (x : ((.cons (.slice .str) (.cons (.slice .str) .nil)) : Tys).den) : evFun (mkEnv ts33 (fs33 g50)) H33 k body33 36 [.tmp 4] (explodes (.cons (.slice .str) (.cons (.slice .str) .nil)) x) [] (dec (.cons (.int .i64) .nil)) = f33 g50 k x.1 x.2.1 := by kernel_rfl
/-! ### jitney/jitref2.DoneFault -/
def f10 (g12 : ByteArray → (Bool)) (g32 : Int → (Bool)) (g33 : (List ByteArray) → (List ByteArray) → (Int)) (k : Nat) (x0 : List UT7) : Option (Int × Unit) :=
  bif (decide (((List.length x0 : Nat) : Int) > (3000 : Int))) then
    some ((2 : Int), ())
  else
    Option.bind (α := (Int × Unit) ⊕ ((Unit) × (Unit))) (iter (σ := (Int × Unit) × (Unit)) (τ := (Int × Unit) ⊕ ((Unit) × (Unit))) k (fun y1 =>
        bif (decide (y1.1.1 < ((List.length x0 : Nat) : Int))) then
          bif (inR y1.1.1 ((List.length x0 : Nat) : Int)) then
            bif (!(g12 ((rd (α := UT7) zUT7 x0 y1.1.1).1))) then
              some (.inr (.inl ((5 : Int), ())))
            else
              bif (!(g12 ((rd (α := UT7) zUT7 x0 y1.1.1).2.1))) then
                some (.inr (.inl ((5 : Int), ())))
              else
                bif (!(g32 ((rd (α := UT7) zUT7 x0 y1.1.1).2.2.1))) then
                  some (.inr (.inl ((1 : Int), ())))
                else
                  bif (y1.1.1 == (0 : Int)) then
                    some (.inl (((IntKind.i64.wrap (y1.1.1 + (1 : Int))), ()), ()))
                  else
                    bif (inR (IntKind.i64.wrap (y1.1.1 - (1 : Int))) ((List.length x0 : Nat) : Int)) then
                      bif (decide ((g33 ([(rd (α := UT7) zUT7 x0 (IntKind.i64.wrap (y1.1.1 - (1 : Int)))).1, (rd (α := UT7) zUT7 x0 (IntKind.i64.wrap (y1.1.1 - (1 : Int)))).2.1]) ([(rd (α := UT7) zUT7 x0 y1.1.1).1, (rd (α := UT7) zUT7 x0 y1.1.1).2.1])) > (0 : Int))) then
                        some (.inr (.inl ((7 : Int), ())))
                      else
                        bif ((g33 ([(rd (α := UT7) zUT7 x0 (IntKind.i64.wrap (y1.1.1 - (1 : Int)))).1, (rd (α := UT7) zUT7 x0 (IntKind.i64.wrap (y1.1.1 - (1 : Int)))).2.1]) ([(rd (α := UT7) zUT7 x0 y1.1.1).1, (rd (α := UT7) zUT7 x0 y1.1.1).2.1])) == (0 : Int)) then
                          bif (decide ((rd (α := UT7) zUT7 x0 y1.1.1).2.2.1 ≤ (rd (α := UT7) zUT7 x0 (IntKind.i64.wrap (y1.1.1 - (1 : Int)))).2.2.1)) then
                            some (.inr (.inl ((7 : Int), ())))
                          else
                            some (.inl (((IntKind.i64.wrap (y1.1.1 + (1 : Int))), ()), ()))
                        else
                          some (.inl (((IntKind.i64.wrap (y1.1.1 + (1 : Int))), ()), ()))
                    else
                      none
          else
            none
        else
          some (.inr (.inr ((), ())))) (((0 : Int), ()), ())) fun r => match r with
    | .inl z => some z
    | .inr z2 =>
      some ((0 : Int), ())
def H10 : Hints where
  loop := fun n => match n with
    | 0 => some ({ slots := [(12, (.int .i64))], objs := [], gone := [] }, 0, { slots := [], objs := [], gone := [] })
    | _ => none
  region := fun n => match n with
    | _ => none
  cond := fun n => match n with
    | _ => none
  block := fun n => match n with
    | _ => none
abbrev A10 : Tys := (.cons (.slice UY2) .nil)
def ts10 : List (Nat × TD) := [(3, (.data (.int .i64))), (9, (.data .str)), (23, (.data (.slice UY2))), (25, (.data (.int .i64))), (35, (.data UY2)), (68, (.data (.slice .str)))]
noncomputable def fs10 (g12 : ByteArray → (Bool)) (g32 : Int → (Bool)) (g33 : (List ByteArray) → (List ByteArray) → (Int)) : List (Nat × FSem) := [(12, .fn (.cons .str .nil) (.cons .bool .nil) fun x => ((g12 x.1), ())), (32, .fn (.cons (.int .i64) .nil) (.cons .bool .nil) fun x => ((g32 x.1), ())), (33, .fn (.cons (.slice .str) (.cons (.slice .str) .nil)) (.cons (.int .i64) .nil) fun x => ((g33 x.1 x.2.1), ()))]
noncomputable def body10 : Code := match Tryd.f10.body with | some c => c | none => .skip
theorem ty10 : chkTypes Tryd.prog ts10 = true := by kernel_rfl
theorem ev10 (g12 : ByteArray → (Bool)) (g32 : Int → (Bool)) (g33 : (List ByteArray) → (List ByteArray) → (Int)) (k : Nat) (x : ((.cons (.slice UY2) .nil) : Tys).den) : evFun (mkEnv ts10 (fs10 g12 g32 g33)) H10 k body10 65 [.tmp 2] (explodes (.cons (.slice UY2) .nil) x) [] (dec (.cons (.int .i64) .nil)) = f10 g12 g32 g33 k x.1 := by kernel_rfl
/-! ### jitney/jitlaw2.when -/
def f11  (k : Nat) (x0 : Bool) (x1 : Int) : Option (Int × Unit) :=
  bif x0 then
    some (x1, ())
  else
    some ((0 : Int), ())
def H11 : Hints where
  loop := fun n => match n with
    | _ => none
  region := fun n => match n with
    | _ => none
  cond := fun n => match n with
    | _ => none
  block := fun n => match n with
    | _ => none
abbrev A11 : Tys := (.cons .bool (.cons (.int .i64) .nil))
def ts11 : List (Nat × TD) := [(4, (.data .bool)), (25, (.data (.int .i64)))]
noncomputable def fs11  : List (Nat × FSem) := []
noncomputable def body11 : Code := match Tryd.f11.body with | some c => c | none => .skip
theorem ty11 : chkTypes Tryd.prog ts11 = true := by kernel_rfl
theorem ev11  (k : Nat) (x : ((.cons .bool (.cons (.int .i64) .nil)) : Tys).den) : evFun (mkEnv ts11 (fs11 )) H11 k body11 7 [.tmp 4] (explodes (.cons .bool (.cons (.int .i64) .nil)) x) [] (dec (.cons (.int .i64) .nil)) = f11  k x.1 x.2.1 := by kernel_rfl
/-! ### jitney/jitlaw2.momentFault -/
def f13 (g11 : Bool → Int → (Int)) (g32 : Int → (Bool)) (k : Nat) (x0 : Int) : Option (Int × Unit) :=
  some ((g11 (!(g32 x0)) (1 : Int)), ())
def H13 : Hints where
  loop := fun n => match n with
    | _ => none
  region := fun n => match n with
    | _ => none
  cond := fun n => match n with
    | _ => none
  block := fun n => match n with
    | _ => none
abbrev A13 : Tys := (.cons (.int .i64) .nil)
def ts13 : List (Nat × TD) := [(3, (.data (.int .i64))), (25, (.data (.int .i64)))]
noncomputable def fs13 (g11 : Bool → Int → (Int)) (g32 : Int → (Bool)) : List (Nat × FSem) := [(11, .fn (.cons .bool (.cons (.int .i64) .nil)) (.cons (.int .i64) .nil) fun x => ((g11 x.1 x.2.1), ())), (32, .fn (.cons (.int .i64) .nil) (.cons .bool .nil) fun x => ((g32 x.1), ()))]
noncomputable def body13 : Code := match Tryd.f13.body with | some c => c | none => .skip
theorem ty13 : chkTypes Tryd.prog ts13 = true := by kernel_rfl
theorem ev13 (g11 : Bool → Int → (Int)) (g32 : Int → (Bool)) (k : Nat) (x : ((.cons (.int .i64) .nil) : Tys).den) : evFun (mkEnv ts13 (fs13 g11 g32)) H13 k body13 7 [.tmp 2] (explodes (.cons (.int .i64) .nil) x) [] (dec (.cons (.int .i64) .nil)) = f13 g11 g32 k x.1 := by kernel_rfl
/-! ### jitney/jitref2.inside -/
def f35  (k : Nat) (x0 : Int) (x1 : UT0) : Option (Bool × Unit) :=
  bif (decide (x1.1 ≤ x0)) then
    some ((decide (x0 < x1.2.1)), ())
  else
    some (false, ())
def H35 : Hints where
  loop := fun n => match n with
    | _ => none
  region := fun n => match n with
    | _ => none
  cond := fun n => match n with
    | _ => none
  block := fun n => match n with
    | _ => none
abbrev A35 : Tys := (.cons (.int .i64) (.cons UY1 .nil))
def ts35 : List (Nat × TD) := [(3, (.data (.int .i64))), (4, (.data .bool)), (30, (.data UY1))]
noncomputable def fs35  : List (Nat × FSem) := []
noncomputable def body35 : Code := match Tryd.f35.body with | some c => c | none => .skip
theorem ty35 : chkTypes Tryd.prog ts35 = true := by kernel_rfl
theorem ev35  (k : Nat) (x : ((.cons (.int .i64) (.cons UY1 .nil)) : Tys).den) : evFun (mkEnv ts35 (fs35 )) H35 k body35 15 [.tmp 4] (explodes (.cons (.int .i64) (.cons UY1 .nil)) x) [] (dec (.cons .bool .nil)) = f35  k x.1 x.2.1 := by kernel_rfl
/-! ### jitney/jitref2.BonusOf -/
noncomputable def f14 (g30 : Int → Option (ByteArray × Unit)) (g35 : Int → UT0 → (Bool)) (k : Nat) (x0 : List UT9) (x1 : List UT7) (x2 : ByteArray) (x3 : Int) : Option ((List UT4) × Unit) :=
  Option.bind (α := ((List UT4) × Unit) ⊕ ((Unit) × ((MapC .str UY2) × Unit))) (iter (σ := (Int × Unit) × ((MapC .str UY2) × Unit)) (τ := ((List UT4) × Unit) ⊕ ((Unit) × ((MapC .str UY2) × Unit))) k (fun y1 =>
      bif (decide (y1.1.1 < ((List.length x1 : Nat) : Int))) then
        bif (inR y1.1.1 ((List.length x1 : Nat) : Int)) then
          bif (sEq ((rd (α := UT7) zUT7 x1 y1.1.1).1) x2) then
            bif (decide ((rd (α := UT7) zUT7 x1 y1.1.1).2.2.1 ≤ x3)) then
              some (.inl (((IntKind.i64.wrap (y1.1.1 + (1 : Int))), ()), ((mput (keq .str) ((rd (α := UT7) zUT7 x1 y1.1.1).2.1) (rd (α := UT7) zUT7 x1 y1.1.1) y1.2.1), ())))
            else
              some (.inl (((IntKind.i64.wrap (y1.1.1 + (1 : Int))), ()), (y1.2.1, ())))
          else
            some (.inl (((IntKind.i64.wrap (y1.1.1 + (1 : Int))), ()), (y1.2.1, ())))
        else
          none
      else
        some (.inr (.inr ((), (y1.2.1, ()))))) (((0 : Int), ()), ((([], 0) : MapC .str UY2), ()))) fun r => match r with
  | .inl z => some z
  | .inr z2 =>
    Option.bind (α := ((List UT4) × Unit) ⊕ (((List UT4) × Unit) × (Unit))) (iter (σ := ((List UT4) × Int × Unit) × (Unit)) (τ := ((List UT4) × Unit) ⊕ (((List UT4) × Unit) × (Unit))) k (fun y3 =>
        bif (decide (y3.1.2.1 < ((List.length x0 : Nat) : Int))) then
          bif (inR y3.1.2.1 ((List.length x0 : Nat) : Int)) then
            Option.bind (α := (Int × Unit) × (Unit)) (anyOrder z2.2.1.1 fun l8 => rangeM (α := (ByteArray × UT7 × Nat)) (Y := (Int × Unit) × (Unit)) (T := (Int × Unit) × (Unit)) (fun D e5 y4 =>
                bif (!e5.2.1.2.2.2.1) then
                  bif (g35 e5.2.1.2.2.1 ((rd (α := UT9) zUT9 x0 y3.1.2.1).2.1)) then
                    some (.inl (((IntKind.i64.wrap (y4.1.1 + (1 : Int))), ()), ()))
                  else
                    some (.inl ((y4.1.1, ()), ()))
                else
                  some (.inl ((y4.1.1, ()), ()))) (fun D y4 =>
                some (.inr ((y4.1.1, ()), ()))) l8 [] (((0 : Int), ()), ())) fun z6 =>
              bif decide ((rd (α := UT9) zUT9 x0 y3.1.2.1).2.2.1 = 0) then
                none
              else
                bif (decide ((IntKind.i64.wrap ((if (decide ((rd (α := UT9) zUT9 x0 y3.1.2.1).2.2.2.2.1 < (IntKind.i64.wrap (Int.tdiv z6.1.1 (rd (α := UT9) zUT9 x0 y3.1.2.1).2.2.1)))) then (rd (α := UT9) zUT9 x0 y3.1.2.1).2.2.2.2.1 else (IntKind.i64.wrap (Int.tdiv z6.1.1 (rd (α := UT9) zUT9 x0 y3.1.2.1).2.2.1))) * (rd (α := UT9) zUT9 x0 y3.1.2.1).2.2.2.1)) > (0 : Int))) then
                  Option.bind (g30 (IntKind.i64.wrap ((if (decide ((rd (α := UT9) zUT9 x0 y3.1.2.1).2.2.2.2.1 < (IntKind.i64.wrap (Int.tdiv z6.1.1 (rd (α := UT9) zUT9 x0 y3.1.2.1).2.2.1)))) then (rd (α := UT9) zUT9 x0 y3.1.2.1).2.2.2.2.1 else (IntKind.i64.wrap (Int.tdiv z6.1.1 (rd (α := UT9) zUT9 x0 y3.1.2.1).2.2.1))) * (rd (α := UT9) zUT9 x0 y3.1.2.1).2.2.2.1))) fun v7 =>
                  bif decide (List.length y3.1.1 + List.length ([((rd (α := UT9) zUT9 x0 y3.1.2.1).1, v7.1, ())]) ≤ 4294967296) then
                    some (.inl (((y3.1.1 ++ [((rd (α := UT9) zUT9 x0 y3.1.2.1).1, v7.1, ())]), (IntKind.i64.wrap (y3.1.2.1 + (1 : Int))), ()), ()))
                  else
                    none
                else
                  some (.inl ((y3.1.1, (IntKind.i64.wrap (y3.1.2.1 + (1 : Int))), ()), ()))
          else
            none
        else
          some (.inr (.inr ((y3.1.1, ()), ())))) (([], (0 : Int), ()), ())) fun r => match r with
    | .inl z => some z
    | .inr z9 =>
      some (z9.1.1, ())
def H14 : Hints where
  loop := fun n => match n with
    | 0 => some ({ slots := [(22, (.int .i64))], objs := [(0, (.map .str UY2))], gone := [] }, 0, { slots := [], objs := [(0, (.map .str UY2))], gone := [] })
    | 2 => some ({ slots := [(12, (.row UY0)), (43, (.int .i64))], objs := [], gone := [] }, 2, { slots := [(12, (.row UY0))], objs := [], gone := [] })
    | 4 => some ({ slots := [(15, (.int .i64))], objs := [], gone := [] }, 4, { slots := [(15, (.int .i64))], objs := [], gone := [] })
    | _ => none
  region := fun n => match n with
    | _ => none
  cond := fun n => match n with
    | _ => none
  block := fun n => match n with
    | _ => none
abbrev A14 : Tys := (.cons (.slice UY5) (.cons (.slice UY2) (.cons .str (.cons (.int .i64) .nil))))
def ts14 : List (Nat × TD) := [(3, (.data (.int .i64))), (4, (.data .bool)), (9, (.data .str)), (22, (.data (.slice UY5))), (23, (.data (.slice UY2))), (24, (.data (.slice UY0))), (30, (.data UY1)), (32, (.data UY5)), (35, (.data UY2)), (45, (.data UY0)), (70, (.map .str UY2))]
noncomputable def fs14 (g30 : Int → Option (ByteArray × Unit)) (g35 : Int → UT0 → (Bool)) : List (Nat × FSem) := [(30, .pfn (.cons (.int .i64) .nil) (.cons .str .nil) fun x => (g30 x.1)), (35, .fn (.cons (.int .i64) (.cons UY1 .nil)) (.cons .bool .nil) fun x => ((g35 x.1 x.2.1), ()))]
noncomputable def body14 : Code := match Tryd.f14.body with | some c => c | none => .skip
theorem ty14 : chkTypes Tryd.prog ts14 = true := by kernel_rfl
theorem ev14 (g30 : Int → Option (ByteArray × Unit)) (g35 : Int → UT0 → (Bool)) (k : Nat) (x : ((.cons (.slice UY5) (.cons (.slice UY2) (.cons .str (.cons (.int .i64) .nil)))) : Tys).den) : evFun (mkEnv ts14 (fs14 g30 g35)) H14 k body14 87 [.tmp 8] (explodes (.cons (.slice UY5) (.cons (.slice UY2) (.cons .str (.cons (.int .i64) .nil)))) x) [] (dec (.cons (.slice UY0) .nil)) = f14 g30 g35 k x.1 x.2.1 x.2.2.1 x.2.2.2.1 := by kernel_rfl
/-! ### slices.Equal[[]jitney/api.Pair,jitney/api.Pair] -/
def f17  (k : Nat) (x0 : List UT4) (x1 : List UT4) : Option (Bool × Unit) :=
  bif (((List.length x0 : Nat) : Int) != ((List.length x1 : Nat) : Int)) then
    some (false, ())
  else
    Option.bind (α := (Bool × Unit) ⊕ ((Unit) × (Unit))) (iter (σ := (Int × Unit) × (Unit)) (τ := (Bool × Unit) ⊕ ((Unit) × (Unit))) k (fun y1 =>
        bif (decide (y1.1.1 < ((List.length x0 : Nat) : Int))) then
          bif (inR y1.1.1 ((List.length x0 : Nat) : Int)) then
            bif (inR y1.1.1 ((List.length x1 : Nat) : Int)) then
              bif (!((sEq ((rd (α := UT4) zUT4 x0 y1.1.1).1) ((rd (α := UT4) zUT4 x1 y1.1.1).1)) && ((sEq ((rd (α := UT4) zUT4 x0 y1.1.1).2.1) ((rd (α := UT4) zUT4 x1 y1.1.1).2.1)) && true))) then
                some (.inr (.inl (false, ())))
              else
                some (.inl (((IntKind.i64.wrap (y1.1.1 + (1 : Int))), ()), ()))
            else
              none
          else
            none
        else
          some (.inr (.inr ((), ())))) (((0 : Int), ()), ())) fun r => match r with
    | .inl z => some z
    | .inr z2 =>
      some (true, ())
def H17 : Hints where
  loop := fun n => match n with
    | 0 => some ({ slots := [(13, (.int .i64))], objs := [], gone := [] }, 0, { slots := [], objs := [], gone := [] })
    | _ => none
  region := fun n => match n with
    | _ => none
  cond := fun n => match n with
    | _ => none
  block := fun n => match n with
    | _ => none
abbrev A17 : Tys := (.cons (.slice UY0) (.cons (.slice UY0) .nil))
def ts17 : List (Nat × TD) := [(3, (.data (.int .i64))), (4, (.data .bool)), (24, (.data (.slice UY0))), (45, (.data UY0))]
noncomputable def fs17  : List (Nat × FSem) := []
noncomputable def body17 : Code := match Tryd.f17.body with | some c => c | none => .skip
theorem ty17 : chkTypes Tryd.prog ts17 = true := by kernel_rfl
theorem ev17  (k : Nat) (x : ((.cons (.slice UY0) (.cons (.slice UY0) .nil)) : Tys).den) : evFun (mkEnv ts17 (fs17 )) H17 k body17 26 [.tmp 4] (explodes (.cons (.slice UY0) (.cons (.slice UY0) .nil)) x) [] (dec (.cons .bool .nil)) = f17  k x.1 x.2.1 := by kernel_rfl
/-! ### jitney/trust.sameWords -/
def f80 (g38 : (List Int) → (Int)) (g48 : ByteArray → ByteArray → (Int)) (k : Nat) (x0 : UT8) (x1 : UT8) : Option (Int × Unit) :=
  some ((g38 ([(g48 x0.2.2.1 x1.2.2.1), (g48 x0.1 x1.1), (g48 x0.2.1 x1.2.1)])), ())
def H80 : Hints where
  loop := fun n => match n with
    | _ => none
  region := fun n => match n with
    | _ => none
  cond := fun n => match n with
    | _ => none
  block := fun n => match n with
    | _ => none
abbrev A80 : Tys := (.cons UY4 (.cons UY4 .nil))
def ts80 : List (Nat × TD) := [(3, (.data (.int .i64))), (9, (.data .str)), (81, (.data UY4)), (85, (.data (.slice (.int .i64))))]
noncomputable def fs80 (g38 : (List Int) → (Int)) (g48 : ByteArray → ByteArray → (Int)) : List (Nat × FSem) := [(38, .fn (.cons (.slice (.int .i64)) .nil) (.cons (.int .i64) .nil) fun x => ((g38 x.1), ())), (48, .fn (.cons .str (.cons .str .nil)) (.cons (.int .i64) .nil) fun x => ((g48 x.1 x.2.1), ()))]
noncomputable def body80 : Code := match Tryd.f80.body with | some c => c | none => .skip
theorem ty80 : chkTypes Tryd.prog ts80 = true := by kernel_rfl
theorem ev80 (g38 : (List Int) → (Int)) (g48 : ByteArray → ByteArray → (Int)) (k : Nat) (x : ((.cons UY4 (.cons UY4 .nil)) : Tys).den) : evFun (mkEnv ts80 (fs80 g38 g48)) H80 k body80 22 [.tmp 4] (explodes (.cons UY4 (.cons UY4 .nil)) x) [] (dec (.cons (.int .i64) .nil)) = f80 g38 g48 k x.1 x.2.1 := by kernel_rfl
/-! ### jitney/trust.byRating -/
def f64 (g38 : (List Int) → (Int)) (g39 : Int → Int → (Int)) (g80 : UT8 → UT8 → (Int)) (k : Nat) (x0 : UT8) (x1 : UT8) : Option (Int × Unit) :=
  some ((g38 ([(g80 x0 x1), (g39 x0.2.2.2.2.1 x1.2.2.2.2.1)])), ())
def H64 : Hints where
  loop := fun n => match n with
    | _ => none
  region := fun n => match n with
    | _ => none
  cond := fun n => match n with
    | _ => none
  block := fun n => match n with
    | _ => none
abbrev A64 : Tys := (.cons UY4 (.cons UY4 .nil))
def ts64 : List (Nat × TD) := [(3, (.data (.int .i64))), (81, (.data UY4)), (85, (.data (.slice (.int .i64))))]
noncomputable def fs64 (g38 : (List Int) → (Int)) (g39 : Int → Int → (Int)) (g80 : UT8 → UT8 → (Int)) : List (Nat × FSem) := [(38, .fn (.cons (.slice (.int .i64)) .nil) (.cons (.int .i64) .nil) fun x => ((g38 x.1), ())), (39, .fn (.cons (.int .i64) (.cons (.int .i64) .nil)) (.cons (.int .i64) .nil) fun x => ((g39 x.1 x.2.1), ())), (80, .fn (.cons UY4 (.cons UY4 .nil)) (.cons (.int .i64) .nil) fun x => ((g80 x.1 x.2.1), ()))]
noncomputable def body64 : Code := match Tryd.f64.body with | some c => c | none => .skip
theorem ty64 : chkTypes Tryd.prog ts64 = true := by kernel_rfl
theorem ev64 (g38 : (List Int) → (Int)) (g39 : Int → Int → (Int)) (g80 : UT8 → UT8 → (Int)) (k : Nat) (x : ((.cons UY4 (.cons UY4 .nil)) : Tys).den) : evFun (mkEnv ts64 (fs64 g38 g39 g80)) H64 k body64 15 [.tmp 4] (explodes (.cons UY4 (.cons UY4 .nil)) x) [] (dec (.cons (.int .i64) .nil)) = f64 g38 g39 g80 k x.1 x.2.1 := by kernel_rfl
/-! ### jitney/trust.CheckRatings -/
def f53 (g36 : ByteArray → (Bool)) (g37 : Int → (Bool)) (g40 : Int → Int → Int → (Bool)) (g64 : UT8 → UT8 → (Int)) (k : Nat) (x0 : List UT8) : Option (Int × Unit) :=
  bif (decide (((List.length x0 : Nat) : Int) > (3000 : Int))) then
    some ((2 : Int), ())
  else
    Option.bind (α := (Int × Unit) ⊕ ((Unit) × (Unit))) (iter (σ := (Int × Unit) × (Unit)) (τ := (Int × Unit) ⊕ ((Unit) × (Unit))) k (fun y1 =>
        bif (decide (y1.1.1 < ((List.length x0 : Nat) : Int))) then
          bif (inR y1.1.1 ((List.length x0 : Nat) : Int)) then
            bif (!(g36 ((rd (α := UT8) zUT8 x0 y1.1.1).1))) then
              some (.inr (.inl ((5 : Int), ())))
            else
              bif (!(g36 ((rd (α := UT8) zUT8 x0 y1.1.1).2.1))) then
                some (.inr (.inl ((5 : Int), ())))
              else
                bif (!(g36 ((rd (α := UT8) zUT8 x0 y1.1.1).2.2.1))) then
                  some (.inr (.inl ((5 : Int), ())))
                else
                  bif (sEq ((rd (α := UT8) zUT8 x0 y1.1.1).1) ((rd (α := UT8) zUT8 x0 y1.1.1).2.1)) then
                    some (.inr (.inl ((6 : Int), ())))
                  else
                    bif (g40 ((rd (α := UT8) zUT8 x0 y1.1.1).2.2.2.1) (1 : Int) (5 : Int)) then
                      some (.inr (.inl ((1 : Int), ())))
                    else
                      bif (!(g37 ((rd (α := UT8) zUT8 x0 y1.1.1).2.2.2.2.1))) then
                        some (.inr (.inl ((1 : Int), ())))
                      else
                        bif (decide (y1.1.1 > (0 : Int))) then
                          bif (inR (IntKind.i64.wrap (y1.1.1 - (1 : Int))) ((List.length x0 : Nat) : Int)) then
                            bif (decide ((g64 (rd (α := UT8) zUT8 x0 y1.1.1) (rd (α := UT8) zUT8 x0 (IntKind.i64.wrap (y1.1.1 - (1 : Int))))) ≤ (0 : Int))) then
                              some (.inr (.inl ((7 : Int), ())))
                            else
                              some (.inl (((IntKind.i64.wrap (y1.1.1 + (1 : Int))), ()), ()))
                          else
                            none
                        else
                          some (.inl (((IntKind.i64.wrap (y1.1.1 + (1 : Int))), ()), ()))
          else
            none
        else
          some (.inr (.inr ((), ())))) (((0 : Int), ()), ())) fun r => match r with
    | .inl z => some z
    | .inr z2 =>
      some ((0 : Int), ())
def H53 : Hints where
  loop := fun n => match n with
    | 0 => some ({ slots := [(10, (.int .i64))], objs := [], gone := [] }, 0, { slots := [], objs := [], gone := [] })
    | _ => none
  region := fun n => match n with
    | _ => none
  cond := fun n => match n with
    | _ => none
  block := fun n => match n with
    | _ => none
abbrev A53 : Tys := (.cons (.slice UY4) .nil)
def ts53 : List (Nat × TD) := [(3, (.data (.int .i64))), (9, (.data .str)), (25, (.data (.int .i64))), (81, (.data UY4)), (82, (.data (.slice UY4)))]
noncomputable def fs53 (g36 : ByteArray → (Bool)) (g37 : Int → (Bool)) (g40 : Int → Int → Int → (Bool)) (g64 : UT8 → UT8 → (Int)) : List (Nat × FSem) := [(36, .fn (.cons .str .nil) (.cons .bool .nil) fun x => ((g36 x.1), ())), (37, .fn (.cons (.int .i64) .nil) (.cons .bool .nil) fun x => ((g37 x.1), ())), (40, .fn (.cons (.int .i64) (.cons (.int .i64) (.cons (.int .i64) .nil))) (.cons .bool .nil) fun x => ((g40 x.1 x.2.1 x.2.2.1), ())), (64, .fn (.cons UY4 (.cons UY4 .nil)) (.cons (.int .i64) .nil) fun x => ((g64 x.1 x.2.1), ()))]
noncomputable def body53 : Code := match Tryd.f53.body with | some c => c | none => .skip
theorem ty53 : chkTypes Tryd.prog ts53 = true := by kernel_rfl
theorem ev53 (g36 : ByteArray → (Bool)) (g37 : Int → (Bool)) (g40 : Int → Int → Int → (Bool)) (g64 : UT8 → UT8 → (Int)) (k : Nat) (x : ((.cons (.slice UY4) .nil) : Tys).den) : evFun (mkEnv ts53 (fs53 g36 g37 g40 g64)) H53 k body53 62 [.tmp 2] (explodes (.cons (.slice UY4) .nil) x) [] (dec (.cons (.int .i64) .nil)) = f53 g36 g37 g40 g64 k x.1 := by kernel_rfl
/-! ### jitney/trust.faithFault -/
def f54 (g40 : Int → Int → Int → (Bool)) (k : Nat) (x0 : UT2) : Option (Int × Unit) :=
  bif (g40 x0.1 (0 : Int) (1000 : Int)) then
    some ((1 : Int), ())
  else
    bif (g40 x0.2.1 (1000 : Int) (5000 : Int)) then
      some ((1 : Int), ())
    else
      bif (g40 x0.2.2.1 (0 : Int) (345686400000 : Int)) then
        some ((1 : Int), ())
      else
        some ((0 : Int), ())
def H54 : Hints where
  loop := fun n => match n with
    | _ => none
  region := fun n => match n with
    | _ => none
  cond := fun n => match n with
    | _ => none
  block := fun n => match n with
    | _ => none
abbrev A54 : Tys := (.cons UY3 .nil)
def ts54 : List (Nat × TD) := [(3, (.data (.int .i64))), (25, (.data (.int .i64))), (79, (.data UY3))]
noncomputable def fs54 (g40 : Int → Int → Int → (Bool)) : List (Nat × FSem) := [(40, .fn (.cons (.int .i64) (.cons (.int .i64) (.cons (.int .i64) .nil))) (.cons .bool .nil) fun x => ((g40 x.1 x.2.1 x.2.2.1), ()))]
noncomputable def body54 : Code := match Tryd.f54.body with | some c => c | none => .skip
theorem ty54 : chkTypes Tryd.prog ts54 = true := by kernel_rfl
theorem ev54 (g40 : Int → Int → Int → (Bool)) (k : Nat) (x : ((.cons UY3 .nil) : Tys).den) : evFun (mkEnv ts54 (fs54 g40)) H54 k body54 16 [.tmp 2] (explodes (.cons UY3 .nil) x) [] (dec (.cons (.int .i64) .nil)) = f54 g40 k x.1 := by kernel_rfl
/-! ### jitney/trust.counting -/
def f65 (g80 : UT8 → UT8 → (Int)) (k : Nat) (x0 : List UT8) (x1 : Int) : Option ((List UT8) × Unit) :=
  Option.bind (α := ((List UT8) × Unit) ⊕ (((List UT8) × Unit) × (Unit))) (iter (σ := ((List UT8) × Int × Unit) × (Unit)) (τ := ((List UT8) × Unit) ⊕ (((List UT8) × Unit) × (Unit))) k (fun y1 =>
      bif (decide (y1.1.2.1 < ((List.length x0 : Nat) : Int))) then
        bif (inR y1.1.2.1 ((List.length x0 : Nat) : Int)) then
          bif (decide ((rd (α := UT8) zUT8 x0 y1.1.2.1).2.2.2.2.1 > x1)) then
            some (.inl ((y1.1.1, (IntKind.i64.wrap (y1.1.2.1 + (1 : Int))), ()), ()))
          else
            Option.bind (α := ((((List UT8) × Int × Unit) × (Unit)) ⊕ (((List UT8) × Unit) ⊕ (((List UT8) × Unit) × (Unit)))) ⊕ ((Bool × Unit) × (Unit))) (
                bif (decide ((IntKind.i64.wrap (((List.length y1.1.1 : Nat) : Int) - (1 : Int))) ≥ (0 : Int))) then
                  bif (inR (IntKind.i64.wrap (((List.length y1.1.1 : Nat) : Int) - (1 : Int))) ((List.length y1.1.1 : Nat) : Int)) then
                    bif (inR (IntKind.i64.wrap (((List.length y1.1.1 : Nat) : Int) - (1 : Int))) ((List.length y1.1.1 : Nat) : Int)) then
                      some (.inr ((((g80 (rd (α := UT8) zUT8 y1.1.1 (IntKind.i64.wrap (((List.length y1.1.1 : Nat) : Int) - (1 : Int)))) (rd (α := UT8) zUT8 x0 y1.1.2.1)) == (0 : Int)), ()), ()))
                    else
                      none
                  else
                    none
                else
                  some (.inr ((false, ()), ()))) fun r => match r with
            | .inl z => some z
            | .inr y2 =>
              bif y2.1.1 then
                bif (inR (IntKind.i64.wrap (((List.length y1.1.1 : Nat) : Int) - (1 : Int))) ((List.length y1.1.1 : Nat) : Int)) then
                  bif (inR (IntKind.i64.wrap (((List.length y1.1.1 : Nat) : Int) - (1 : Int))) ((List.length y1.1.1 : Nat) : Int)) then
                    some (.inl (((List.set y1.1.1 (Int.toNat (IntKind.i64.wrap (((List.length y1.1.1 : Nat) : Int) - (1 : Int)))) (rd (α := UT8) zUT8 x0 y1.1.2.1)), (IntKind.i64.wrap (y1.1.2.1 + (1 : Int))), ()), ()))
                  else
                    none
                else
                  none
              else
                bif decide (List.length y1.1.1 + List.length ([(rd (α := UT8) zUT8 x0 y1.1.2.1)]) ≤ 4294967296) then
                  some (.inl (((y1.1.1 ++ [(rd (α := UT8) zUT8 x0 y1.1.2.1)]), (IntKind.i64.wrap (y1.1.2.1 + (1 : Int))), ()), ()))
                else
                  none
        else
          none
      else
        some (.inr (.inr ((y1.1.1, ()), ())))) (([], (0 : Int), ()), ())) fun r => match r with
  | .inl z => some z
  | .inr z3 =>
    some (z3.1.1, ())
def H65 : Hints where
  loop := fun n => match n with
    | 0 => some ({ slots := [(5, (.row UY4)), (11, (.int .i64))], objs := [], gone := [] }, 0, { slots := [(5, (.row UY4))], objs := [], gone := [] })
    | _ => none
  region := fun n => match n with
    | 8 => some { slots := [(27, .bool)], objs := [], gone := [] }
    | _ => none
  cond := fun n => match n with
    | _ => none
  block := fun n => match n with
    | _ => none
abbrev A65 : Tys := (.cons (.slice UY4) (.cons (.int .i64) .nil))
def ts65 : List (Nat × TD) := [(3, (.data (.int .i64))), (81, (.data UY4)), (82, (.data (.slice UY4)))]
noncomputable def fs65 (g80 : UT8 → UT8 → (Int)) : List (Nat × FSem) := [(80, .fn (.cons UY4 (.cons UY4 .nil)) (.cons (.int .i64) .nil) fun x => ((g80 x.1 x.2.1), ()))]
noncomputable def body65 : Code := match Tryd.f65.body with | some c => c | none => .skip
theorem ty65 : chkTypes Tryd.prog ts65 = true := by kernel_rfl
theorem ev65 (g80 : UT8 → UT8 → (Int)) (k : Nat) (x : ((.cons (.slice UY4) (.cons (.int .i64) .nil)) : Tys).den) : evFun (mkEnv ts65 (fs65 g80)) H65 k body65 45 [.tmp 4] (explodes (.cons (.slice UY4) (.cons (.int .i64) .nil)) x) [] (dec (.cons (.slice UY4) .nil)) = f65 g80 k x.1 x.2.1 := by kernel_rfl
/-! ### jitney/base.Gcd -/
def f81  (k : Nat) (x0 : Int) (x1 : Int) : Option (Int × Unit) :=
  Option.bind (α := (Int × Unit) ⊕ ((Int × Unit) × (Unit))) (iter (σ := UT0 × (Unit)) (τ := (Int × Unit) ⊕ ((Int × Unit) × (Unit))) k (fun y1 =>
      bif (y1.1.2.1 != (0 : Int)) then
        bif decide (y1.1.2.1 = 0) then
          none
        else
          some (.inl ((y1.1.2.1, (Int.tmod y1.1.1 y1.1.2.1), ()), ()))
      else
        some (.inr (.inr ((y1.1.1, ()), ())))) ((x0, x1, ()), ())) fun r => match r with
  | .inl z => some z
  | .inr z2 =>
    some (z2.1.1, ())
def H81 : Hints where
  loop := fun n => match n with
    | 0 => some ({ slots := [(0, (.int .i64)), (1, (.int .i64))], objs := [], gone := [] }, 0, { slots := [(0, (.int .i64))], objs := [], gone := [] })
    | _ => none
  region := fun n => match n with
    | _ => none
  cond := fun n => match n with
    | _ => none
  block := fun n => match n with
    | _ => none
abbrev A81 : Tys := (.cons (.int .i64) (.cons (.int .i64) .nil))
def ts81 : List (Nat × TD) := [(3, (.data (.int .i64)))]
noncomputable def fs81  : List (Nat × FSem) := []
noncomputable def body81 : Code := match Tryd.f81.body with | some c => c | none => .skip
theorem ty81 : chkTypes Tryd.prog ts81 = true := by kernel_rfl
theorem ev81  (k : Nat) (x : ((.cons (.int .i64) (.cons (.int .i64) .nil)) : Tys).den) : evFun (mkEnv ts81 (fs81 )) H81 k body81 12 [.tmp 4] (explodes (.cons (.int .i64) (.cons (.int .i64) .nil)) x) [] (dec (.cons (.int .i64) .nil)) = f81  k x.1 x.2.1 := by kernel_rfl
/-! ### jitney/base.Fraction -/
def f66 (g81 : Int → Int → Option (Int × Unit)) (k : Nat) (x0 : Int) (x1 : Int) : Option UT3 :=
  Option.bind (g81 (if (decide ((IntKind.i64.wrap (-x0)) > x0)) then (IntKind.i64.wrap (-x0)) else x0) x1) fun v1 =>
  bif decide (v1.1 = 0) then
    none
  else
    bif decide (v1.1 = 0) then
      none
    else
      some (((IntKind.i64.wrap (Int.tdiv x0 v1.1)), (IntKind.i64.wrap (Int.tdiv x1 v1.1)), ()), ())
def H66 : Hints where
  loop := fun n => match n with
    | _ => none
  region := fun n => match n with
    | _ => none
  cond := fun n => match n with
    | _ => none
  block := fun n => match n with
    | _ => none
abbrev A66 : Tys := (.cons (.int .i64) (.cons (.int .i64) .nil))
def ts66 : List (Nat × TD) := [(3, (.data (.int .i64))), (75, (.data UY1))]
noncomputable def fs66 (g81 : Int → Int → Option (Int × Unit)) : List (Nat × FSem) := [(81, .pfn (.cons (.int .i64) (.cons (.int .i64) .nil)) (.cons (.int .i64) .nil) fun x => (g81 x.1 x.2.1))]
noncomputable def body66 : Code := match Tryd.f66.body with | some c => c | none => .skip
theorem ty66 : chkTypes Tryd.prog ts66 = true := by kernel_rfl
theorem ev66 (g81 : Int → Int → Option (Int × Unit)) (k : Nat) (x : ((.cons (.int .i64) (.cons (.int .i64) .nil)) : Tys).den) : evFun (mkEnv ts66 (fs66 g81)) H66 k body66 19 [.cell 4 75] (explodes (.cons (.int .i64) (.cons (.int .i64) .nil)) x) [] (dec (.cons UY1 .nil)) = f66 g81 k x.1 x.2.1 := by kernel_rfl
/-! ### jitney/trust.Score -/
def f41 (g27 : (List Int) → (Int)) (g36 : ByteArray → (Bool)) (g37 : Int → (Bool)) (g53 : (List UT8) → (Int)) (g54 : UT2 → (Int)) (g65 : (List UT8) → Int → Option ((List UT8) × Unit)) (g66 : Int → Int → Option UT3) (k : Nat) (x0 : UT2) (x1 : List UT8) (x2 : ByteArray) (x3 : Int) : Option UT5 :=
  bif ((g27 ([(g53 x1), (g54 x0)])) != (0 : Int)) then
    some (zUT0, (g27 ([(g53 x1), (g54 x0)])), ())
  else
    bif (!(g36 x2)) then
      some (zUT0, (5 : Int), ())
    else
      bif (!(g37 x3)) then
        some (zUT0, (1 : Int), ())
      else
        Option.bind (α := UT5 ⊕ (UT6 × (Unit))) (
            Option.bind (g65 x1 x3) fun v1 =>
            Option.bind (α := (UT5 ⊕ (UT6 × (Unit))) ⊕ ((Unit) × ((MapC .str (.int .i64)) × (MapC .str (.int .i64)) × Unit))) (iter (σ := (Int × Unit) × ((MapC .str (.int .i64)) × (MapC .str (.int .i64)) × Unit)) (τ := (UT5 ⊕ (UT6 × (Unit))) ⊕ ((Unit) × ((MapC .str (.int .i64)) × (MapC .str (.int .i64)) × Unit))) k (fun y2 =>
                bif (decide (y2.1.1 < ((List.length v1.1 : Nat) : Int))) then
                  bif (inR y2.1.1 ((List.length v1.1 : Nat) : Int)) then
                    Option.bind (α := (((Int × Unit) × ((MapC .str (.int .i64)) × (MapC .str (.int .i64)) × Unit)) ⊕ ((UT5 ⊕ (UT6 × (Unit))) ⊕ ((Unit) × ((MapC .str (.int .i64)) × (MapC .str (.int .i64)) × Unit)))) ⊕ ((Int × Unit) × (Unit))) (
                        bif (decide (x0.2.2.1 > (0 : Int))) then
                          bif decide (x0.2.2.1 = 0) then
                            none
                          else
                            bif decide (0 ≤ (if (decide ((IntKind.i64.wrap (Int.tdiv (IntKind.i64.wrap (x3 - (rd (α := UT8) zUT8 v1.1 y2.1.1).2.2.2.2.1)) x0.2.2.1)) < (10 : Int))) then (IntKind.i64.wrap (Int.tdiv (IntKind.i64.wrap (x3 - (rd (α := UT8) zUT8 v1.1 y2.1.1).2.2.2.2.1)) x0.2.2.1)) else (10 : Int))) then
                              some (.inr (((Int.fdiv (1024 : Int) ((2 : Int) ^ (min (Int.toNat (if (decide ((IntKind.i64.wrap (Int.tdiv (IntKind.i64.wrap (x3 - (rd (α := UT8) zUT8 v1.1 y2.1.1).2.2.2.2.1)) x0.2.2.1)) < (10 : Int))) then (IntKind.i64.wrap (Int.tdiv (IntKind.i64.wrap (x3 - (rd (α := UT8) zUT8 v1.1 y2.1.1).2.2.2.2.1)) x0.2.2.1)) else (10 : Int))) 64))), ()), ()))
                            else
                              none
                        else
                          some (.inr (((1024 : Int), ()), ()))) fun r => match r with
                    | .inl z => some z
                    | .inr y3 =>
                      some (.inl (((IntKind.i64.wrap (y2.1.1 + (1 : Int))), ()), ((mput (keq .str) ((rd (α := UT8) zUT8 v1.1 y2.1.1).2.1) (IntKind.i64.wrap ((mget (keq .str) (0 : Int) ((rd (α := UT8) zUT8 v1.1 y2.1.1).2.1) y2.2.1.1) + (IntKind.i64.wrap ((IntKind.i64.wrap ((1000 : Int) * y3.1.1)) * (rd (α := UT8) zUT8 v1.1 y2.1.1).2.2.2.1)))) y2.2.1), (mput (keq .str) ((rd (α := UT8) zUT8 v1.1 y2.1.1).2.1) (IntKind.i64.wrap ((mget (keq .str) (0 : Int) ((rd (α := UT8) zUT8 v1.1 y2.1.1).2.1) y2.2.2.1.1) + (IntKind.i64.wrap ((1000 : Int) * y3.1.1)))) y2.2.2.1), ())))
                  else
                    none
                else
                  some (.inr (.inr ((), (y2.2.1, y2.2.2.1, ()))))) (((0 : Int), ()), ((([], 0) : MapC .str (.int .i64)), (([], 0) : MapC .str (.int .i64)), ()))) fun r => match r with
            | .inl z => some z
            | .inr z4 =>
              bif ((IntKind.i64.wrap ((mget (keq .str) (0 : Int) x2 z4.2.2.1.1) + (IntKind.i64.wrap ((1024000 : Int) * x0.1)))) == (0 : Int)) then
                some (.inr (zUT6, ()))
              else
                Option.bind (g66 (IntKind.i64.wrap ((mget (keq .str) (0 : Int) x2 z4.2.1.1) + (IntKind.i64.wrap ((IntKind.i64.wrap ((1024 : Int) * x0.1)) * x0.2.1)))) (IntKind.i64.wrap ((mget (keq .str) (0 : Int) x2 z4.2.2.1.1) + (IntKind.i64.wrap ((1024000 : Int) * x0.1))))) fun v5 =>
                some (.inr ((v5.1, true, ()), ()))) fun r => match r with
        | .inl z => some z
        | .inr y6 =>
          bif (!y6.1.2.1) then
            some (zUT0, (8 : Int), ())
          else
            some ((y6.1.1.1, y6.1.1.2.1, ()), (0 : Int), ())
def H41 : Hints where
  loop := fun n => match n with
    | _ => none
  region := fun n => match n with
    | 8 => some { slots := [(11, (.box (.data UY1) (.agg (.cons (.int .i64) (.cons (.int .i64) .nil))))), (12, .bool)], objs := [], gone := [] }
    | _ => none
  cond := fun n => match n with
    | _ => none
  block := fun n => match n with
    | _ => none
def Hi41_55 : Hints where
  loop := fun n => match n with
    | 0 => some ({ slots := [(19, (.int .i64))], objs := [(1, (.map .str (.int .i64))), (2, (.map .str (.int .i64)))], gone := [] }, 0, { slots := [], objs := [(1, (.map .str (.int .i64))), (2, (.map .str (.int .i64)))], gone := [] })
    | _ => none
  region := fun n => match n with
    | _ => none
  cond := fun n => match n with
    | 25 => some { slots := [(10, (.int .i64))], objs := [], gone := [] }
    | _ => none
  block := fun n => match n with
    | _ => none
def tsi41_55 : List (Nat × TD) := [(3, (.data (.int .i64))), (9, (.data .str)), (79, (.data UY3)), (81, (.data UY4)), (82, (.data (.slice UY4))), (108, (.map .str (.int .i64))), (110, (.agg (.cons (.map .str (.int .i64)) (.cons (.map .str (.int .i64)) .nil))))]
noncomputable def bodyi41_55 : Code := match Tryd.f55.body with | some c => c | none => .skip
noncomputable def fsi41_55 (g27 : (List Int) → (Int)) (g36 : ByteArray → (Bool)) (g37 : Int → (Bool)) (g53 : (List UT8) → (Int)) (g54 : UT2 → (Int)) (g65 : (List UT8) → Int → Option ((List UT8) × Unit)) (g66 : Int → Int → Option UT3) (k : Nat) : List (Nat × FSem) := [(65, .pfn (.cons (.slice UY4) (.cons (.int .i64) .nil)) (.cons (.slice UY4) .nil) fun x => (g65 x.1 x.2.1))]
theorem tyi41_55 : chkTypes Tryd.prog tsi41_55 = true := by kernel_rfl
def Hi41_56 : Hints where
  loop := fun n => match n with
    | _ => none
  region := fun n => match n with
    | _ => none
  cond := fun n => match n with
    | _ => none
  block := fun n => match n with
    | _ => none
def tsi41_56 : List (Nat × TD) := [(3, (.data (.int .i64))), (75, (.data UY1)), (79, (.data UY3)), (108, (.map .str (.int .i64))), (110, (.agg (.cons (.map .str (.int .i64)) (.cons (.map .str (.int .i64)) .nil))))]
noncomputable def bodyi41_56 : Code := match Tryd.f56.body with | some c => c | none => .skip
noncomputable def fsi41_56 (g27 : (List Int) → (Int)) (g36 : ByteArray → (Bool)) (g37 : Int → (Bool)) (g53 : (List UT8) → (Int)) (g54 : UT2 → (Int)) (g65 : (List UT8) → Int → Option ((List UT8) × Unit)) (g66 : Int → Int → Option UT3) (k : Nat) : List (Nat × FSem) := [(66, .pfn (.cons (.int .i64) (.cons (.int .i64) .nil)) (.cons UY1 .nil) fun x => (g66 x.1 x.2.1))]
theorem tyi41_56 : chkTypes Tryd.prog tsi41_56 = true := by kernel_rfl
abbrev A41 : Tys := (.cons UY3 (.cons (.slice UY4) (.cons .str (.cons (.int .i64) .nil))))
def ts41 : List (Nat × TD) := [(3, (.data (.int .i64))), (9, (.data .str)), (25, (.data (.int .i64))), (64, (.data (.slice (.int .i64)))), (75, (.data UY1)), (79, (.data UY3)), (82, (.data (.slice UY4)))]
noncomputable def fs41 (g27 : (List Int) → (Int)) (g36 : ByteArray → (Bool)) (g37 : Int → (Bool)) (g53 : (List UT8) → (Int)) (g54 : UT2 → (Int)) (g65 : (List UT8) → Int → Option ((List UT8) × Unit)) (g66 : Int → Int → Option UT3) (k : Nat) : List (Nat × FSem) := [(27, .fn (.cons (.slice (.int .i64)) .nil) (.cons (.int .i64) .nil) fun x => ((g27 x.1), ())), (36, .fn (.cons .str .nil) (.cons .bool .nil) fun x => ((g36 x.1), ())), (37, .fn (.cons (.int .i64) .nil) (.cons .bool .nil) fun x => ((g37 x.1), ())), (53, .fn (.cons (.slice UY4) .nil) (.cons (.int .i64) .nil) fun x => ((g53 x.1), ())), (54, .fn (.cons UY3 .nil) (.cons (.int .i64) .nil) fun x => ((g54 x.1), ())), (55, .ev (mkEnv tsi41_55 (fsi41_55 g27 g36 g37 g53 g54 g65 g66 k)) Hi41_55 k bodyi41_55 61 [.tmp 6]), (56, .evr (mkEnv tsi41_56 (fsi41_56 g27 g36 g37 g53 g54 g65 g66 k)) Hi41_56 k bodyi41_56 37 [.cell 6 75, .tmp 7])]
noncomputable def body41 : Code := match Tryd.f41.body with | some c => c | none => .skip
theorem ty41 : chkTypes Tryd.prog ts41 = true := by kernel_rfl
theorem ev41 (g27 : (List Int) → (Int)) (g36 : ByteArray → (Bool)) (g37 : Int → (Bool)) (g53 : (List UT8) → (Int)) (g54 : UT2 → (Int)) (g65 : (List UT8) → Int → Option ((List UT8) × Unit)) (g66 : Int → Int → Option UT3) (k : Nat) (x : ((.cons UY3 (.cons (.slice UY4) (.cons .str (.cons (.int .i64) .nil)))) : Tys).den) : evFun (mkEnv ts41 (fs41 g27 g36 g37 g53 g54 g65 g66 k)) H41 k body41 47 [.cell 8 75, .tmp 9] (explodes (.cons UY3 (.cons (.slice UY4) (.cons .str (.cons (.int .i64) .nil)))) x) [] (dec (.cons UY1 (.cons (.int .i64) .nil))) = f41 g27 g36 g37 g53 g54 g65 g66 k x.1 x.2.1 x.2.2.1 x.2.2.2.1 := by kernel_rfl
/-! ### jitney/jitlaw2.trusted -/
def f18 (g41 : UT2 → (List UT8) → ByteArray → Int → Option UT5) (k : Nat)  : Option (Bool × Unit) :=
  Option.bind (g41 ((2 : Int), (3000 : Int), (0 : Int), ()) ([((ByteArray.mk #[97]), (ByteArray.mk #[98]), (ByteArray.mk #[114]), (5 : Int), (0 : Int), ())]) (ByteArray.mk #[98]) (0 : Int)) fun v1 =>
  bif (v1.2.1 == (0 : Int)) then
    bif (v1.1.1 == (11 : Int)) then
      some ((v1.1.2.1 == (3 : Int)), ())
    else
      some (false, ())
  else
    some (false, ())
def H18 : Hints where
  loop := fun n => match n with
    | _ => none
  region := fun n => match n with
    | _ => none
  cond := fun n => match n with
    | _ => none
  block := fun n => match n with
    | _ => none
abbrev A18 : Tys := .nil
def ts18 : List (Nat × TD) := [(3, (.data (.int .i64))), (4, (.data .bool)), (25, (.data (.int .i64))), (75, (.data UY1)), (79, (.data UY3)), (81, (.data UY4)), (82, (.data (.slice UY4)))]
noncomputable def fs18 (g41 : UT2 → (List UT8) → ByteArray → Int → Option UT5) : List (Nat × FSem) := [(41, .pfn (.cons UY3 (.cons (.slice UY4) (.cons .str (.cons (.int .i64) .nil)))) (.cons UY1 (.cons (.int .i64) .nil)) fun x => (g41 x.1 x.2.1 x.2.2.1 x.2.2.2.1))]
noncomputable def body18 : Code := match Tryd.f18.body with | some c => c | none => .skip
theorem ty18 : chkTypes Tryd.prog ts18 = true := by kernel_rfl
theorem ev18 (g41 : UT2 → (List UT8) → ByteArray → Int → Option UT5) (k : Nat) (x : (.nil : Tys).den) : evFun (mkEnv ts18 (fs18 g41)) H18 k body18 22 [.tmp 0] (explodes .nil x) [] (dec (.cons .bool .nil)) = f18 g41 k  := by kernel_rfl
/-! ### jitney/jitlaw2.BonusesPaid -/
def f3 (g5 : (List UT9) → (List UT7) → ByteArray → Int → Option ((List UT4) × Int × Unit)) (g6 : (List UT9) → Option ((List UT9) × Unit)) (g7 : (List UT7) → Option ((List UT7) × Unit)) (g8 : (List Int) → (Int)) (g9 : (List UT9) → (Int)) (g10 : (List UT7) → (Int)) (g11 : Bool → Int → (Int)) (g12 : ByteArray → (Bool)) (g13 : Int → (Int)) (g14 : (List UT9) → (List UT7) → ByteArray → Int → Option ((List UT4) × Unit)) (g15 : (List UT7) → (Int)) (g16 : (List UT9) → (Int)) (g17 : (List UT4) → (List UT4) → (Bool)) (g18 : Option (Bool × Unit)) (k : Nat) (x0 : List UT9) (x1 : List UT7) (x2 : ByteArray) (x3 : Int) : Option (Bool × Unit) :=
  Option.bind (g6 x0) fun v1 =>
  Option.bind (g7 x1) fun v2 =>
  Option.bind (g5 v1.1 v2.1 x2 x3) fun v3 =>
  Option.bind (α := (Bool × Unit) ⊕ (((List UT4) × Unit) × (Unit))) (
      bif ((g8 ([(g9 x0), (g10 x1), (g11 (!(g12 x2)) (5 : Int)), (g13 x3)])) == (0 : Int)) then
        Option.bind (g14 x0 x1 x2 x3) fun v4 =>
        some (.inr ((v4.1, ()), ()))
      else
        some (.inr (([], ()), ()))) fun r => match r with
  | .inl z => some z
  | .inr y5 =>
    Option.bind (g7 x1) fun v6 =>
    bif ((g15 v6.1) == (g10 x1)) then
      Option.bind (g6 x0) fun v7 =>
      bif ((g16 v7.1) == (g9 x0)) then
        bif (v3.2.1 == (g8 ([(g9 x0), (g10 x1), (g11 (!(g12 x2)) (5 : Int)), (g13 x3)]))) then
          bif (g17 v3.1 y5.1.1) then
            Option.bind g18 fun v8 =>
            some (v8.1, ())
          else
            some (false, ())
        else
          some (false, ())
      else
        some (false, ())
    else
      some (false, ())
def H3 : Hints where
  loop := fun n => match n with
    | _ => none
  region := fun n => match n with
    | _ => none
  cond := fun n => match n with
    | 36 => some { slots := [(12, (.sl UY0))], objs := [], gone := [] }
    | _ => none
  block := fun n => match n with
    | _ => none
abbrev A3 : Tys := (.cons (.slice UY5) (.cons (.slice UY2) (.cons .str (.cons (.int .i64) .nil))))
def ts3 : List (Nat × TD) := [(3, (.data (.int .i64))), (4, (.data .bool)), (9, (.data .str)), (22, (.data (.slice UY5))), (23, (.data (.slice UY2))), (25, (.data (.int .i64))), (64, (.data (.slice (.int .i64))))]
noncomputable def fs3 (g5 : (List UT9) → (List UT7) → ByteArray → Int → Option ((List UT4) × Int × Unit)) (g6 : (List UT9) → Option ((List UT9) × Unit)) (g7 : (List UT7) → Option ((List UT7) × Unit)) (g8 : (List Int) → (Int)) (g9 : (List UT9) → (Int)) (g10 : (List UT7) → (Int)) (g11 : Bool → Int → (Int)) (g12 : ByteArray → (Bool)) (g13 : Int → (Int)) (g14 : (List UT9) → (List UT7) → ByteArray → Int → Option ((List UT4) × Unit)) (g15 : (List UT7) → (Int)) (g16 : (List UT9) → (Int)) (g17 : (List UT4) → (List UT4) → (Bool)) (g18 : Option (Bool × Unit)) : List (Nat × FSem) := [(5, .pfn (.cons (.slice UY5) (.cons (.slice UY2) (.cons .str (.cons (.int .i64) .nil)))) (.cons (.slice UY0) (.cons (.int .i64) .nil)) fun x => (g5 x.1 x.2.1 x.2.2.1 x.2.2.2.1)), (6, .pfn (.cons (.slice UY5) .nil) (.cons (.slice UY5) .nil) fun x => (g6 x.1)), (7, .pfn (.cons (.slice UY2) .nil) (.cons (.slice UY2) .nil) fun x => (g7 x.1)), (8, .fn (.cons (.slice (.int .i64)) .nil) (.cons (.int .i64) .nil) fun x => ((g8 x.1), ())), (9, .fn (.cons (.slice UY5) .nil) (.cons (.int .i64) .nil) fun x => ((g9 x.1), ())), (10, .fn (.cons (.slice UY2) .nil) (.cons (.int .i64) .nil) fun x => ((g10 x.1), ())), (11, .fn (.cons .bool (.cons (.int .i64) .nil)) (.cons (.int .i64) .nil) fun x => ((g11 x.1 x.2.1), ())), (12, .fn (.cons .str .nil) (.cons .bool .nil) fun x => ((g12 x.1), ())), (13, .fn (.cons (.int .i64) .nil) (.cons (.int .i64) .nil) fun x => ((g13 x.1), ())), (14, .pfn (.cons (.slice UY5) (.cons (.slice UY2) (.cons .str (.cons (.int .i64) .nil)))) (.cons (.slice UY0) .nil) fun x => (g14 x.1 x.2.1 x.2.2.1 x.2.2.2.1)), (15, .fn (.cons (.slice UY2) .nil) (.cons (.int .i64) .nil) fun x => ((g15 x.1), ())), (16, .fn (.cons (.slice UY5) .nil) (.cons (.int .i64) .nil) fun x => ((g16 x.1), ())), (17, .fn (.cons (.slice UY0) (.cons (.slice UY0) .nil)) (.cons .bool .nil) fun x => ((g17 x.1 x.2.1), ())), (18, .pfn .nil (.cons .bool .nil) fun x => g18)]
noncomputable def body3 : Code := match Tryd.f3.body with | some c => c | none => .skip
theorem ty3 : chkTypes Tryd.prog ts3 = true := by kernel_rfl
theorem ev3 (g5 : (List UT9) → (List UT7) → ByteArray → Int → Option ((List UT4) × Int × Unit)) (g6 : (List UT9) → Option ((List UT9) × Unit)) (g7 : (List UT7) → Option ((List UT7) × Unit)) (g8 : (List Int) → (Int)) (g9 : (List UT9) → (Int)) (g10 : (List UT7) → (Int)) (g11 : Bool → Int → (Int)) (g12 : ByteArray → (Bool)) (g13 : Int → (Int)) (g14 : (List UT9) → (List UT7) → ByteArray → Int → Option ((List UT4) × Unit)) (g15 : (List UT7) → (Int)) (g16 : (List UT9) → (Int)) (g17 : (List UT4) → (List UT4) → (Bool)) (g18 : Option (Bool × Unit)) (k : Nat) (x : ((.cons (.slice UY5) (.cons (.slice UY2) (.cons .str (.cons (.int .i64) .nil)))) : Tys).den) : evFun (mkEnv ts3 (fs3 g5 g6 g7 g8 g9 g10 g11 g12 g13 g14 g15 g16 g17 g18)) H3 k body3 69 [.tmp 8] (explodes (.cons (.slice UY5) (.cons (.slice UY2) (.cons .str (.cons (.int .i64) .nil)))) x) [] (dec (.cons .bool .nil)) = f3 g5 g6 g7 g8 g9 g10 g11 g12 g13 g14 g15 g16 g17 g18 k x.1 x.2.1 x.2.2.1 x.2.2.2.1 := by kernel_rfl
end Go.Vm
