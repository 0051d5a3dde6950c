/- The program's functions, as an own tool reads them off its form. -/
import Derived.Test.YtbjpkdbneopgkaaGreatDoorVmK
import Derived.Test.YtbjpkdbneopgkaaGreatDoorVmD
import Derived.Test.YtbjpkdbneopgkaaGreatDoorVmQ
import Derived.Test.YtbjpkdbneopgkaaGreatDoorProg
set_option maxRecDepth 100000
set_option linter.unusedVariables false
namespace Go.Vm
open Go.Proofs
abbrev AT0 : Type := (Int × Bool × Unit)
abbrev AT1 : Type := (ByteArray × Int × Unit)
abbrev AT2 : Type := (ByteArray × Bool × Unit)
abbrev AT3 : Type := ((ByteArray × Unit) × Unit)
abbrev AT4 : Type := (ByteArray × ByteArray × Bool × Unit)
abbrev AT5 : Type := (ByteArray × ByteArray × ByteArray × ByteArray × Int × Int × Int × Int × Unit)
abbrev AT6 : Type := (Int × Int × AT5 × Unit)
abbrev AT7 : Type := (AT6 × Bool × Unit)
abbrev zAT0 : AT0 := ((0 : Int), false, ())
abbrev zAT3 : AT3 := ((ByteArray.empty, ()), ())
abbrev zAT5 : AT5 := (ByteArray.empty, ByteArray.empty, ByteArray.empty, ByteArray.empty, (0 : Int), (0 : Int), (0 : Int), (0 : Int), ())
abbrev zAT6 : AT6 := ((0 : Int), (0 : Int), zAT5, ())
abbrev zAT7 : AT7 := (zAT6, false, ())
abbrev AY0 : Ty := (.struct (.cons .str (.cons .str (.cons .str (.cons .str (.cons (.int .i64) (.cons (.int .i64) (.cons (.int .i64) (.cons (.int .i64) .nil)))))))))
abbrev AY1 : Ty := (.struct (.cons (.int .i64) (.cons (.int .i64) (.cons AY0 .nil))))
theorem mixedOK : Tryz.prog.follows .mixedOrders = true := by kernel_rfl
/-! ### jitney/jitref2.in -/
def f32  (k : Nat) (x0 : Int) (x1 : Int) (x2 : Int) : Option (Bool × Unit) :=
  bif (decide (x1 ≤ x0)) then
    some ((decide (x0 ≤ x2)), ())
  else
    some (false, ())
def H32 : Hints where
  loop := fun n => match n with
    | _ => none
  region := fun n => match n with
    | _ => none
  cond := fun n => match n with
    | _ => none
  block := fun n => match n with
    | _ => none
abbrev A32 : Tys := (.cons (.int .i64) (.cons (.int .i64) (.cons (.int .i64) .nil)))
def ts32 : List (Nat × TD) := [(3, (.data (.int .i64))), (4, (.data .bool))]
noncomputable def fs32  : List (Nat × FSem) := []
noncomputable def body32 : Code := match Tryz.f32.body with | some c => c | none => .skip
theorem ty32 : chkTypes Tryz.prog ts32 = true := by kernel_rfl
theorem ev32  (k : Nat) (x : ((.cons (.int .i64) (.cons (.int .i64) (.cons (.int .i64) .nil))) : Tys).den) : evFun (mkEnv ts32 (fs32 )) H32 k body32 15 [.tmp 6] (explodes (.cons (.int .i64) (.cons (.int .i64) (.cons (.int .i64) .nil))) x) [] (dec (.cons .bool .nil)) = f32  k x.1 x.2.1 x.2.2.1 := by kernel_rfl
/-! ### jitney/jitref2.Moment -/
def f31 (g32 : Int → Int → Int → (Bool)) (k : Nat) (x0 : Int) : Option (Bool × Unit) :=
  some ((g32 x0 (0 : Int) (345686399999 : Int)), ())
def H31 : Hints where
  loop := fun n => match n with
    | _ => none
  region := fun n => match n with
    | _ => none
  cond := fun n => match n with
    | _ => none
  block := fun n => match n with
    | _ => none
abbrev A31 : Tys := (.cons (.int .i64) .nil)
def ts31 : List (Nat × TD) := [(3, (.data (.int .i64))), (4, (.data .bool))]
noncomputable def fs31 (g32 : Int → Int → Int → (Bool)) : List (Nat × FSem) := [(32, .fn (.cons (.int .i64) (.cons (.int .i64) (.cons (.int .i64) .nil))) (.cons .bool .nil) fun x => ((g32 x.1 x.2.1 x.2.2.1), ()))]
noncomputable def body31 : Code := match Tryz.f31.body with | some c => c | none => .skip
theorem ty31 : chkTypes Tryz.prog ts31 = true := by kernel_rfl
theorem ev31 (g32 : Int → Int → Int → (Bool)) (k : Nat) (x : ((.cons (.int .i64) .nil) : Tys).den) : evFun (mkEnv ts31 (fs31 g32)) H31 k body31 5 [.tmp 2] (explodes (.cons (.int .i64) .nil) x) [] (dec (.cons .bool .nil)) = f31 g32 k x.1 := by kernel_rfl
/-! ### strings.IndexByte -/
def f103 (g135 : ByteArray → Int → (Int)) (k : Nat) (x0 : ByteArray) (x1 : Int) : Option (Int × Unit) :=
  some ((g135 x0 x1), ())
def H103 : Hints where
  loop := fun n => match n with
    | _ => none
  region := fun n => match n with
    | _ => none
  cond := fun n => match n with
    | _ => none
  block := fun n => match n with
    | _ => none
abbrev A103 : Tys := (.cons .str (.cons (.int .u8) .nil))
def ts103 : List (Nat × TD) := [(3, (.data (.int .i64))), (5, (.data (.int .u8))), (9, (.data .str))]
noncomputable def fs103 (g135 : ByteArray → Int → (Int)) : List (Nat × FSem) := [(135, .fn (.cons .str (.cons (.int .u8) .nil)) (.cons (.int .i64) .nil) fun x => ((g135 x.1 x.2.1), ()))]
noncomputable def body103 : Code := match Tryz.f103.body with | some c => c | none => .skip
theorem ty103 : chkTypes Tryz.prog ts103 = true := by kernel_rfl
theorem ev103 (g135 : ByteArray → Int → (Int)) (k : Nat) (x : ((.cons .str (.cons (.int .u8) .nil)) : Tys).den) : evFun (mkEnv ts103 (fs103 g135)) H103 k body103 8 [.tmp 4] (explodes (.cons .str (.cons (.int .u8) .nil)) x) [] (dec (.cons (.int .i64) .nil)) = f103 g135 k x.1 x.2.1 := by kernel_rfl
/-! ### jitney/jitref2.only -/
def f74 (g103 : ByteArray → Int → (Int)) (k : Nat) (x0 : ByteArray) (x1 : ByteArray) : Option (Bool × Unit) :=
  Option.bind (α := (Bool × Unit) ⊕ ((Unit) × (Unit))) (iter (σ := (Int × Unit) × (Unit)) (τ := (Bool × Unit) ⊕ ((Unit) × (Unit))) k (fun y1 =>
      bif (decide (y1.1.1 < ((ByteArray.size x0 : Nat) : Int))) then
        bif (inR y1.1.1 ((ByteArray.size x0 : Nat) : Int)) then
          bif (decide ((g103 x1 (bt x0 y1.1.1)) < (0 : Int))) then
            some (.inr (.inl (false, ())))
          else
            some (.inl (((IntKind.i64.wrap (y1.1.1 + (1 : Int))), ()), ()))
        else
          none
      else
        some (.inr (.inr ((), ())))) (((0 : Int), ()), ())) fun r => match r with
  | .inl z => some z
  | .inr z2 =>
    some (true, ())
def H74 : Hints where
  loop := fun n => match n with
    | 0 => some ({ slots := [(8, (.int .i64))], objs := [], gone := [] }, 0, { slots := [], objs := [], gone := [] })
    | _ => none
  region := fun n => match n with
    | _ => none
  cond := fun n => match n with
    | _ => none
  block := fun n => match n with
    | _ => none
abbrev A74 : Tys := (.cons .str (.cons .str .nil))
def ts74 : List (Nat × TD) := [(3, (.data (.int .i64))), (4, (.data .bool)), (9, (.data .str))]
noncomputable def fs74 (g103 : ByteArray → Int → (Int)) : List (Nat × FSem) := [(103, .fn (.cons .str (.cons (.int .u8) .nil)) (.cons (.int .i64) .nil) fun x => ((g103 x.1 x.2.1), ()))]
noncomputable def body74 : Code := match Tryz.f74.body with | some c => c | none => .skip
theorem ty74 : chkTypes Tryz.prog ts74 = true := by kernel_rfl
theorem ev74 (g103 : ByteArray → Int → (Int)) (k : Nat) (x : ((.cons .str (.cons .str .nil)) : Tys).den) : evFun (mkEnv ts74 (fs74 g103)) H74 k body74 18 [.tmp 4] (explodes (.cons .str (.cons .str .nil)) x) [] (dec (.cons .bool .nil)) = f74 g103 k x.1 x.2.1 := by kernel_rfl
/-! ### jitney/jitref2.Key -/
def f34 (g32 : Int → Int → Int → (Bool)) (g74 : ByteArray → ByteArray → (Bool)) (k : Nat) (x0 : ByteArray) : Option (Bool × Unit) :=
  bif (g32 ((ByteArray.size x0 : Nat) : Int) (1 : Int) (40 : Int)) then
    bif (decide (0 ≤ (0 : Int)) && (decide ((0 : Int) ≤ (1 : Int)) && decide ((1 : Int) ≤ ((ByteArray.size x0 : Nat) : Int)))) then
      bif (g74 (ByteArray.extract x0 (Int.toNat (0 : Int)) (Int.toNat (1 : Int))) (ByteArray.mk #[97, 98, 99, 100, 101, 102, 103, 104, 105, 106, 107, 108, 109, 110, 111, 112, 113, 114, 115, 116, 117, 118, 119, 120, 121, 122])) then
        some ((g74 x0 (ByteArray.mk #[97, 98, 99, 100, 101, 102, 103, 104, 105, 106, 107, 108, 109, 110, 111, 112, 113, 114, 115, 116, 117, 118, 119, 120, 121, 122, 48, 49, 50, 51, 52, 53, 54, 55, 56, 57, 45, 95])), ())
      else
        some (false, ())
    else
      none
  else
    some (false, ())
def H34 : Hints where
  loop := fun n => match n with
    | _ => none
  region := fun n => match n with
    | _ => none
  cond := fun n => match n with
    | _ => none
  block := fun n => match n with
    | _ => none
abbrev A34 : Tys := (.cons .str .nil)
def ts34 : List (Nat × TD) := [(4, (.data .bool)), (9, (.data .str))]
noncomputable def fs34 (g32 : Int → Int → Int → (Bool)) (g74 : ByteArray → ByteArray → (Bool)) : List (Nat × FSem) := [(32, .fn (.cons (.int .i64) (.cons (.int .i64) (.cons (.int .i64) .nil))) (.cons .bool .nil) fun x => ((g32 x.1 x.2.1 x.2.2.1), ())), (74, .fn (.cons .str (.cons .str .nil)) (.cons .bool .nil) fun x => ((g74 x.1 x.2.1), ()))]
noncomputable def body34 : Code := match Tryz.f34.body with | some c => c | none => .skip
theorem ty34 : chkTypes Tryz.prog ts34 = true := by kernel_rfl
theorem ev34 (g32 : Int → Int → Int → (Bool)) (g74 : ByteArray → ByteArray → (Bool)) (k : Nat) (x : ((.cons .str .nil) : Tys).den) : evFun (mkEnv ts34 (fs34 g32 g74)) H34 k body34 15 [.tmp 2] (explodes (.cons .str .nil) x) [] (dec (.cons .bool .nil)) = f34 g32 g74 k x.1 := by kernel_rfl
/-! ### jitney/jitref2.RideFault -/
def f33 (g31 : Int → (Bool)) (g32 : Int → Int → Int → (Bool)) (g34 : ByteArray → (Bool)) (k : Nat) (x0 : AT5) : Option (Int × Unit) :=
  bif (!(g34 x0.1)) then
    some ((5 : Int), ())
  else
    bif (!(g34 x0.2.1)) then
      some ((5 : Int), ())
    else
      bif (!(g34 x0.2.2.1)) then
        some ((5 : Int), ())
      else
        bif (!(g34 x0.2.2.2.1)) then
          some ((5 : Int), ())
        else
          bif (sEq x0.2.2.1 x0.2.2.2.1) then
            some ((6 : Int), ())
          else
            bif (!(g31 x0.2.2.2.2.1)) then
              some ((1 : Int), ())
            else
              bif (!(g32 x0.2.2.2.2.2.1 (IntKind.i64.wrap (x0.2.2.2.2.1 + (1 : Int))) (345686400000 : Int))) then
                some ((1 : Int), ())
              else
                bif (!(g32 x0.2.2.2.2.2.2.1 (0 : Int) (60 : Int))) then
                  some ((1 : Int), ())
                else
                  bif (!(g32 x0.2.2.2.2.2.2.2.1 (0 : Int) (60 : Int))) then
                    some ((1 : Int), ())
                  else
                    bif ((IntKind.i64.wrap (x0.2.2.2.2.2.2.1 + x0.2.2.2.2.2.2.2.1)) == (0 : Int)) then
                      some ((3 : Int), ())
                    else
                      some ((0 : Int), ())
def H33 : Hints where
  loop := fun n => match n with
    | _ => none
  region := fun n => match n with
    | _ => none
  cond := fun n => match n with
    | _ => none
  block := fun n => match n with
    | _ => none
abbrev A33 : Tys := (.cons AY0 .nil)
def ts33 : List (Nat × TD) := [(3, (.data (.int .i64))), (9, (.data .str)), (23, (.data (.int .i64))), (31, (.data AY0))]
noncomputable def fs33 (g31 : Int → (Bool)) (g32 : Int → Int → Int → (Bool)) (g34 : ByteArray → (Bool)) : List (Nat × FSem) := [(31, .fn (.cons (.int .i64) .nil) (.cons .bool .nil) fun x => ((g31 x.1), ())), (32, .fn (.cons (.int .i64) (.cons (.int .i64) (.cons (.int .i64) .nil))) (.cons .bool .nil) fun x => ((g32 x.1 x.2.1 x.2.2.1), ())), (34, .fn (.cons .str .nil) (.cons .bool .nil) fun x => ((g34 x.1), ()))]
noncomputable def body33 : Code := match Tryz.f33.body with | some c => c | none => .skip
theorem ty33 : chkTypes Tryz.prog ts33 = true := by kernel_rfl
theorem ev33 (g31 : Int → (Bool)) (g32 : Int → Int → Int → (Bool)) (g34 : ByteArray → (Bool)) (k : Nat) (x : ((.cons AY0 .nil) : Tys).den) : evFun (mkEnv ts33 (fs33 g31 g32 g34)) H33 k body33 65 [.tmp 2] (explodes (.cons AY0 .nil) x) [] (dec (.cons (.int .i64) .nil)) = f33 g31 g32 g34 k x.1 := by kernel_rfl
/-! ### jitney/jitref2.sign -/
def f75  (k : Nat) (x0 : Int) : Option (Int × Unit) :=
  bif (decide (x0 < (0 : Int))) then
    some ((-1 : Int), ())
  else
    bif (decide (x0 > (0 : Int))) then
      some ((1 : Int), ())
    else
      some ((0 : Int), ())
def H75 : Hints where
  loop := fun n => match n with
    | _ => none
  region := fun n => match n with
    | _ => none
  cond := fun n => match n with
    | _ => none
  block := fun n => match n with
    | _ => none
abbrev A75 : Tys := (.cons (.int .i64) .nil)
def ts75 : List (Nat × TD) := [(3, (.data (.int .i64)))]
noncomputable def fs75  : List (Nat × FSem) := []
noncomputable def body75 : Code := match Tryz.f75.body with | some c => c | none => .skip
theorem ty75 : chkTypes Tryz.prog ts75 = true := by kernel_rfl
theorem ev75  (k : Nat) (x : ((.cons (.int .i64) .nil) : Tys).den) : evFun (mkEnv ts75 (fs75 )) H75 k body75 9 [.tmp 2] (explodes (.cons (.int .i64) .nil) x) [] (dec (.cons (.int .i64) .nil)) = f75  k x.1 := by kernel_rfl
/-! ### strings.Compare -/
def f76 (g104 : ByteArray → ByteArray → (Int)) (k : Nat) (x0 : ByteArray) (x1 : ByteArray) : Option (Int × Unit) :=
  some ((g104 x0 x1), ())
def H76 : Hints where
  loop := fun n => match n with
    | _ => none
  region := fun n => match n with
    | _ => none
  cond := fun n => match n with
    | _ => none
  block := fun n => match n with
    | _ => none
abbrev A76 : Tys := (.cons .str (.cons .str .nil))
def ts76 : List (Nat × TD) := [(3, (.data (.int .i64))), (9, (.data .str))]
noncomputable def fs76 (g104 : ByteArray → ByteArray → (Int)) : List (Nat × FSem) := [(104, .fn (.cons .str (.cons .str .nil)) (.cons (.int .i64) .nil) fun x => ((g104 x.1 x.2.1), ()))]
noncomputable def body76 : Code := match Tryz.f76.body with | some c => c | none => .skip
theorem ty76 : chkTypes Tryz.prog ts76 = true := by kernel_rfl
theorem ev76 (g104 : ByteArray → ByteArray → (Int)) (k : Nat) (x : ((.cons .str (.cons .str .nil)) : Tys).den) : evFun (mkEnv ts76 (fs76 g104)) H76 k body76 8 [.tmp 4] (explodes (.cons .str (.cons .str .nil)) x) [] (dec (.cons (.int .i64) .nil)) = f76 g104 k x.1 x.2.1 := by kernel_rfl
/-! ### jitney/jitref2.AskOrder -/
def f35 (g75 : Int → (Int)) (g76 : ByteArray → ByteArray → (Int)) (k : Nat) (x0 : AT6) (x1 : AT6) : Option (Int × Unit) :=
  bif (x0.1 != x1.1) then
    some ((g75 (IntKind.i64.wrap (x0.1 - x1.1))), ())
  else
    bif (!(sEq x0.2.2.1.1 x1.2.2.1.1)) then
      some ((g76 x0.2.2.1.1 x1.2.2.1.1), ())
    else
      some ((g75 (IntKind.i64.wrap (x0.2.1 - x1.2.1))), ())
def H35 : Hints where
  loop := fun n => match n with
    | _ => none
  region := fun n => match n with
    | _ => none
  cond := fun n => match n with
    | _ => none
  block := fun n => match n with
    | _ => none
abbrev A35 : Tys := (.cons AY1 (.cons AY1 .nil))
def ts35 : List (Nat × TD) := [(3, (.data (.int .i64))), (9, (.data .str)), (31, (.data AY0)), (33, (.data AY1))]
noncomputable def fs35 (g75 : Int → (Int)) (g76 : ByteArray → ByteArray → (Int)) : List (Nat × FSem) := [(75, .fn (.cons (.int .i64) .nil) (.cons (.int .i64) .nil) fun x => ((g75 x.1), ())), (76, .fn (.cons .str (.cons .str .nil)) (.cons (.int .i64) .nil) fun x => ((g76 x.1 x.2.1), ()))]
noncomputable def body35 : Code := match Tryz.f35.body with | some c => c | none => .skip
theorem ty35 : chkTypes Tryz.prog ts35 = true := by kernel_rfl
theorem ev35 (g75 : Int → (Int)) (g76 : ByteArray → ByteArray → (Int)) (k : Nat) (x : ((.cons AY1 (.cons AY1 .nil)) : Tys).den) : evFun (mkEnv ts35 (fs35 g75 g76)) H35 k body35 38 [.tmp 4] (explodes (.cons AY1 (.cons AY1 .nil)) x) [] (dec (.cons (.int .i64) .nil)) = f35 g75 g76 k x.1 x.2.1 := by kernel_rfl
/-! ### jitney/jitref2.AsksFault -/
def f6 (g31 : Int → (Bool)) (g32 : Int → Int → Int → (Bool)) (g33 : AT5 → (Int)) (g34 : ByteArray → (Bool)) (g35 : AT6 → AT6 → (Int)) (k : Nat) (x0 : List AT6) : Option (Int × Unit) :=
  bif (decide (((List.length x0 : Nat) : Int) > (2000 : Int))) then
    some ((2 : Int), ())
  else
    Option.bind (α := (Int × Unit) ⊕ ((Unit) × (Unit))) (iter (σ := (Int × Unit) × (Unit)) (τ := (Int × Unit) ⊕ ((Unit) × (Unit))) k (fun y1 =>
        bif (decide (y1.1.1 < ((List.length x0 : Nat) : Int))) then
          bif (inR y1.1.1 ((List.length x0 : Nat) : Int)) then
            bif (!(g31 ((rd (α := AT6) zAT6 x0 y1.1.1).1))) then
              some (.inr (.inl ((1 : Int), ())))
            else
              bif (!(g32 ((rd (α := AT6) zAT6 x0 y1.1.1).2.1) (1 : Int) (4 : Int))) then
                some (.inr (.inl ((4 : Int), ())))
              else
                Option.bind (α := (((Int × Unit) × (Unit)) ⊕ ((Int × Unit) ⊕ ((Unit) × (Unit)))) ⊕ ((Bool × Unit) × (Unit))) (
                    bif ((rd (α := AT6) zAT6 x0 y1.1.1).2.1 == (1 : Int)) then
                      some (.inr ((true, ()), ()))
                    else
                      some (.inr ((((rd (α := AT6) zAT6 x0 y1.1.1).2.1 == (2 : Int)), ()), ()))) fun r => match r with
                | .inl z => some z
                | .inr y2 =>
                  Option.bind (α := (((Int × Unit) × (Unit)) ⊕ ((Int × Unit) ⊕ ((Unit) × (Unit)))) ⊕ ((Unit) × (Unit))) (
                      bif y2.1.1 then
                        bif ((g33 ((rd (α := AT6) zAT6 x0 y1.1.1).2.2.1)) != (0 : Int)) then
                          some (.inl (.inr (.inl ((g33 ((rd (α := AT6) zAT6 x0 y1.1.1).2.2.1)), ()))))
                        else
                          some (.inr ((), ()))
                      else
                        bif (!(g34 ((rd (α := AT6) zAT6 x0 y1.1.1).2.2.1.1))) then
                          some (.inl (.inr (.inl ((5 : Int), ()))))
                        else
                          bif (!(g34 ((rd (α := AT6) zAT6 x0 y1.1.1).2.2.1.2.1))) then
                            some (.inl (.inr (.inl ((5 : Int), ()))))
                          else
                            bif (!((sEq ((rd (α := AT6) zAT6 x0 y1.1.1).2.2.1.1) ((rd (α := AT6) zAT6 x0 y1.1.1).2.2.1.1)) && ((sEq ((rd (α := AT6) zAT6 x0 y1.1.1).2.2.1.2.1) ((rd (α := AT6) zAT6 x0 y1.1.1).2.2.1.2.1)) && ((sEq ((rd (α := AT6) zAT6 x0 y1.1.1).2.2.1.2.2.1) ByteArray.empty) && ((sEq ((rd (α := AT6) zAT6 x0 y1.1.1).2.2.1.2.2.2.1) ByteArray.empty) && (((rd (α := AT6) zAT6 x0 y1.1.1).2.2.1.2.2.2.2.1 == (0 : Int)) && (((rd (α := AT6) zAT6 x0 y1.1.1).2.2.1.2.2.2.2.2.1 == (0 : Int)) && (((rd (α := AT6) zAT6 x0 y1.1.1).2.2.1.2.2.2.2.2.2.1 == (0 : Int)) && (((rd (α := AT6) zAT6 x0 y1.1.1).2.2.1.2.2.2.2.2.2.2.1 == (0 : Int)) && true))))))))) then
                              some (.inl (.inr (.inl ((3 : Int), ()))))
                            else
                              some (.inr ((), ()))) fun r => match r with
                  | .inl z => some z
                  | .inr y3 =>
                    bif (decide (y1.1.1 > (0 : Int))) then
                      bif (inR (IntKind.i64.wrap (y1.1.1 - (1 : Int))) ((List.length x0 : Nat) : Int)) then
                        bif (decide ((g35 (rd (α := AT6) zAT6 x0 (IntKind.i64.wrap (y1.1.1 - (1 : Int)))) (rd (α := AT6) zAT6 x0 y1.1.1)) ≥ (0 : Int))) then
                          some (.inr (.inl ((7 : Int), ())))
                        else
                          some (.inl (((IntKind.i64.wrap (y1.1.1 + (1 : Int))), ()), ()))
                      else
                        none
                    else
                      some (.inl (((IntKind.i64.wrap (y1.1.1 + (1 : Int))), ()), ()))
          else
            none
        else
          some (.inr (.inr ((), ())))) (((0 : Int), ()), ())) fun r => match r with
    | .inl z => some z
    | .inr z4 =>
      some ((0 : Int), ())
def H6 : Hints where
  loop := fun n => match n with
    | 0 => some ({ slots := [(11, (.int .i64))], objs := [], gone := [] }, 0, { slots := [], objs := [], gone := [] })
    | _ => none
  region := fun n => match n with
    | 10 => some { slots := [(33, .bool)], objs := [], gone := [] }
    | _ => none
  cond := fun n => match n with
    | 33 => some { slots := [], objs := [], gone := [] }
    | _ => none
  block := fun n => match n with
    | _ => none
abbrev A6 : Tys := (.cons (.slice AY1) .nil)
def ts6 : List (Nat × TD) := [(3, (.data (.int .i64))), (9, (.data .str)), (22, (.data (.slice AY1))), (23, (.data (.int .i64))), (31, (.data AY0)), (33, (.data AY1))]
noncomputable def fs6 (g31 : Int → (Bool)) (g32 : Int → Int → Int → (Bool)) (g33 : AT5 → (Int)) (g34 : ByteArray → (Bool)) (g35 : AT6 → AT6 → (Int)) : List (Nat × FSem) := [(31, .fn (.cons (.int .i64) .nil) (.cons .bool .nil) fun x => ((g31 x.1), ())), (32, .fn (.cons (.int .i64) (.cons (.int .i64) (.cons (.int .i64) .nil))) (.cons .bool .nil) fun x => ((g32 x.1 x.2.1 x.2.2.1), ())), (33, .fn (.cons AY0 .nil) (.cons (.int .i64) .nil) fun x => ((g33 x.1), ())), (34, .fn (.cons .str .nil) (.cons .bool .nil) fun x => ((g34 x.1), ())), (35, .fn (.cons AY1 (.cons AY1 .nil)) (.cons (.int .i64) .nil) fun x => ((g35 x.1 x.2.1), ()))]
noncomputable def body6 : Code := match Tryz.f6.body with | some c => c | none => .skip
theorem ty6 : chkTypes Tryz.prog ts6 = true := by kernel_rfl
theorem ev6 (g31 : Int → (Bool)) (g32 : Int → Int → Int → (Bool)) (g33 : AT5 → (Int)) (g34 : ByteArray → (Bool)) (g35 : AT6 → AT6 → (Int)) (k : Nat) (x : ((.cons (.slice AY1) .nil) : Tys).den) : evFun (mkEnv ts6 (fs6 g31 g32 g33 g34 g35)) H6 k body6 75 [.tmp 2] (explodes (.cons (.slice AY1) .nil) x) [] (dec (.cons (.int .i64) .nil)) = f6 g31 g32 g33 g34 g35 k x.1 := by kernel_rfl
/-! ### strconv.Itoa -/
def f39 (g79 : Int → Option (ByteArray × Unit)) (k : Nat) (x0 : Int) : Option (ByteArray × Unit) :=
  Option.bind (g79 x0) fun v1 =>
  some (v1.1, ())
def H39 : Hints where
  loop := fun n => match n with
    | _ => none
  region := fun n => match n with
    | _ => none
  cond := fun n => match n with
    | _ => none
  block := fun n => match n with
    | _ => none
abbrev A39 : Tys := (.cons (.int .i64) .nil)
def ts39 : List (Nat × TD) := [(3, (.data (.int .i64))), (9, (.data .str))]
noncomputable def fs39 (g79 : Int → Option (ByteArray × Unit)) : List (Nat × FSem) := [(79, .pfn (.cons (.int .i64) .nil) (.cons .str .nil) fun x => (g79 x.1))]
noncomputable def body39 : Code := match Tryz.f39.body with | some c => c | none => .skip
theorem ty39 : chkTypes Tryz.prog ts39 = true := by kernel_rfl
theorem ev39 (g79 : Int → Option (ByteArray × Unit)) (k : Nat) (x : ((.cons (.int .i64) .nil) : Tys).den) : evFun (mkEnv ts39 (fs39 g79)) H39 k body39 5 [.tmp 2] (explodes (.cons (.int .i64) .nil) x) [] (dec (.cons .str .nil)) = f39 g79 k x.1 := by kernel_rfl
/-! ### jitney/jitref2.numbers -/
def f36 (g39 : Int → Option (ByteArray × Unit)) (g42 : (List ByteArray) → ByteArray → Option (ByteArray × Unit)) (k : Nat) (x0 : List Int) : Option (ByteArray × Unit) :=
  Option.bind (α := (ByteArray × Unit) ⊕ (((List ByteArray) × Unit) × (Unit))) (iter (σ := ((List ByteArray) × Int × Unit) × (Unit)) (τ := (ByteArray × Unit) ⊕ (((List ByteArray) × Unit) × (Unit))) k (fun y1 =>
      bif (decide (y1.1.2.1 < ((List.length x0 : Nat) : Int))) then
        bif (inR y1.1.2.1 ((List.length x0 : Nat) : Int)) then
          Option.bind (g39 (rd (α := Int) (0 : Int) x0 y1.1.2.1)) fun v2 =>
          bif decide (List.length y1.1.1 + List.length ([v2.1]) ≤ 4294967296) then
            some (.inl (((y1.1.1 ++ [v2.1]), (IntKind.i64.wrap (y1.1.2.1 + (1 : Int))), ()), ()))
          else
            none
        else
          none
      else
        some (.inr (.inr ((y1.1.1, ()), ())))) (([], (0 : Int), ()), ())) fun r => match r with
  | .inl z => some z
  | .inr z3 =>
    Option.bind (g42 z3.1.1 (ByteArray.mk #[32])) fun v4 =>
    some (v4.1, ())
def H36 : Hints where
  loop := fun n => match n with
    | 0 => some ({ slots := [(3, (.row .str)), (8, (.int .i64))], objs := [], gone := [] }, 0, { slots := [(3, (.row .str))], objs := [], gone := [] })
    | _ => none
  region := fun n => match n with
    | _ => none
  cond := fun n => match n with
    | _ => none
  block := fun n => match n with
    | _ => none
abbrev A36 : Tys := (.cons (.slice (.int .i64)) .nil)
def ts36 : List (Nat × TD) := [(3, (.data (.int .i64))), (9, (.data .str)), (69, (.data (.slice .str))), (91, (.data (.slice (.int .i64))))]
noncomputable def fs36 (g39 : Int → Option (ByteArray × Unit)) (g42 : (List ByteArray) → ByteArray → Option (ByteArray × Unit)) : List (Nat × FSem) := [(39, .pfn (.cons (.int .i64) .nil) (.cons .str .nil) fun x => (g39 x.1)), (42, .pfn (.cons (.slice .str) (.cons .str .nil)) (.cons .str .nil) fun x => (g42 x.1 x.2.1))]
noncomputable def body36 : Code := match Tryz.f36.body with | some c => c | none => .skip
theorem ty36 : chkTypes Tryz.prog ts36 = true := by kernel_rfl
theorem ev36 (g39 : Int → Option (ByteArray × Unit)) (g42 : (List ByteArray) → ByteArray → Option (ByteArray × Unit)) (k : Nat) (x : ((.cons (.slice (.int .i64)) .nil) : Tys).den) : evFun (mkEnv ts36 (fs36 g39 g42)) H36 k body36 20 [.tmp 2] (explodes (.cons (.slice (.int .i64)) .nil) x) [] (dec (.cons .str .nil)) = f36 g39 g42 k x.1 := by kernel_rfl
/-! ### jitney/jitref2.askWords -/
def f37  (k : Nat)  : Option ((List ByteArray) × Unit) :=
  some ([(ByteArray.mk #[]), (ByteArray.mk #[110, 101, 119]), (ByteArray.mk #[99, 104, 97, 110, 103, 101]), (ByteArray.mk #[99, 97, 110, 99, 101, 108]), (ByteArray.mk #[109, 105, 115, 115, 101, 100])], ())
def H37 : Hints where
  loop := fun n => match n with
    | _ => none
  region := fun n => match n with
    | _ => none
  cond := fun n => match n with
    | _ => none
  block := fun n => match n with
    | _ => none
abbrev A37 : Tys := .nil
def ts37 : List (Nat × TD) := [(69, (.data (.slice .str)))]
noncomputable def fs37  : List (Nat × FSem) := []
noncomputable def body37 : Code := match Tryz.f37.body with | some c => c | none => .skip
theorem ty37 : chkTypes Tryz.prog ts37 = true := by kernel_rfl
theorem ev37  (k : Nat) (x : (.nil : Tys).den) : evFun (mkEnv ts37 (fs37 )) H37 k body37 2 [.tmp 0] (explodes .nil x) [] (dec (.cons (.slice .str) .nil)) = f37  k  := by kernel_rfl
/-! ### jitney/jitref2.AskLines -/
def f7 (g36 : (List Int) → Option (ByteArray × Unit)) (g37 : (List ByteArray)) (k : Nat) (x0 : List AT6) : Option (ByteArray × Unit) :=
  Option.bind (α := (ByteArray × Unit) ⊕ ((ByteArray × Unit) × (Unit))) (iter (σ := AT1 × (Unit)) (τ := (ByteArray × Unit) ⊕ ((ByteArray × Unit) × (Unit))) k (fun y1 =>
      bif (decide (y1.1.2.1 < ((List.length x0 : Nat) : Int))) then
        bif (inR y1.1.2.1 ((List.length x0 : Nat) : Int)) then
          Option.bind (g36 ([(rd (α := AT6) zAT6 x0 y1.1.2.1).1])) fun v2 =>
          bif decide (ByteArray.size v2.1 + ByteArray.size (ByteArray.mk #[32]) < 4611686018427387904) then
            bif (inR (rd (α := AT6) zAT6 x0 y1.1.2.1).2.1 ((List.length g37 : Nat) : Int)) then
              bif decide (ByteArray.size (v2.1 ++ (ByteArray.mk #[32])) + ByteArray.size (rd (α := ByteArray) ByteArray.empty g37 (rd (α := AT6) zAT6 x0 y1.1.2.1).2.1) < 4611686018427387904) then
                bif decide (ByteArray.size ((v2.1 ++ (ByteArray.mk #[32])) ++ (rd (α := ByteArray) ByteArray.empty g37 (rd (α := AT6) zAT6 x0 y1.1.2.1).2.1)) + ByteArray.size (ByteArray.mk #[32]) < 4611686018427387904) then
                  bif decide (ByteArray.size (((v2.1 ++ (ByteArray.mk #[32])) ++ (rd (α := ByteArray) ByteArray.empty g37 (rd (α := AT6) zAT6 x0 y1.1.2.1).2.1)) ++ (ByteArray.mk #[32])) + ByteArray.size ((rd (α := AT6) zAT6 x0 y1.1.2.1).2.2.1.1) < 4611686018427387904) then
                    bif decide (ByteArray.size ((((v2.1 ++ (ByteArray.mk #[32])) ++ (rd (α := ByteArray) ByteArray.empty g37 (rd (α := AT6) zAT6 x0 y1.1.2.1).2.1)) ++ (ByteArray.mk #[32])) ++ (rd (α := AT6) zAT6 x0 y1.1.2.1).2.2.1.1) + ByteArray.size (ByteArray.mk #[32]) < 4611686018427387904) then
                      bif decide (ByteArray.size (((((v2.1 ++ (ByteArray.mk #[32])) ++ (rd (α := ByteArray) ByteArray.empty g37 (rd (α := AT6) zAT6 x0 y1.1.2.1).2.1)) ++ (ByteArray.mk #[32])) ++ (rd (α := AT6) zAT6 x0 y1.1.2.1).2.2.1.1) ++ (ByteArray.mk #[32])) + ByteArray.size ((rd (α := AT6) zAT6 x0 y1.1.2.1).2.2.1.2.1) < 4611686018427387904) then
                        bif decide (ByteArray.size y1.1.1 + ByteArray.size ((((((v2.1 ++ (ByteArray.mk #[32])) ++ (rd (α := ByteArray) ByteArray.empty g37 (rd (α := AT6) zAT6 x0 y1.1.2.1).2.1)) ++ (ByteArray.mk #[32])) ++ (rd (α := AT6) zAT6 x0 y1.1.2.1).2.2.1.1) ++ (ByteArray.mk #[32])) ++ (rd (α := AT6) zAT6 x0 y1.1.2.1).2.2.1.2.1) < 4611686018427387904) then
                          Option.bind (α := ((AT1 × (Unit)) ⊕ ((ByteArray × Unit) ⊕ ((ByteArray × Unit) × (Unit)))) ⊕ ((Bool × Unit) × (Unit))) (
                              bif ((rd (α := AT6) zAT6 x0 y1.1.2.1).2.1 == (1 : Int)) then
                                some (.inr ((true, ()), ()))
                              else
                                some (.inr ((((rd (α := AT6) zAT6 x0 y1.1.2.1).2.1 == (2 : Int)), ()), ()))) fun r => match r with
                          | .inl z => some z
                          | .inr y3 =>
                            Option.bind (α := ((AT1 × (Unit)) ⊕ ((ByteArray × Unit) ⊕ ((ByteArray × Unit) × (Unit)))) ⊕ ((ByteArray × Unit) × (Unit))) (
                                bif y3.1.1 then
                                  bif decide (ByteArray.size (ByteArray.mk #[32]) + ByteArray.size ((rd (α := AT6) zAT6 x0 y1.1.2.1).2.2.1.2.2.1) < 4611686018427387904) then
                                    bif decide (ByteArray.size ((ByteArray.mk #[32]) ++ (rd (α := AT6) zAT6 x0 y1.1.2.1).2.2.1.2.2.1) + ByteArray.size (ByteArray.mk #[32]) < 4611686018427387904) then
                                      bif decide (ByteArray.size (((ByteArray.mk #[32]) ++ (rd (α := AT6) zAT6 x0 y1.1.2.1).2.2.1.2.2.1) ++ (ByteArray.mk #[32])) + ByteArray.size ((rd (α := AT6) zAT6 x0 y1.1.2.1).2.2.1.2.2.2.1) < 4611686018427387904) then
                                        bif decide (ByteArray.size ((((ByteArray.mk #[32]) ++ (rd (α := AT6) zAT6 x0 y1.1.2.1).2.2.1.2.2.1) ++ (ByteArray.mk #[32])) ++ (rd (α := AT6) zAT6 x0 y1.1.2.1).2.2.1.2.2.2.1) + ByteArray.size (ByteArray.mk #[32]) < 4611686018427387904) then
                                          Option.bind (g36 ([(rd (α := AT6) zAT6 x0 y1.1.2.1).2.2.1.2.2.2.2.1, (rd (α := AT6) zAT6 x0 y1.1.2.1).2.2.1.2.2.2.2.2.1, (rd (α := AT6) zAT6 x0 y1.1.2.1).2.2.1.2.2.2.2.2.2.1, (rd (α := AT6) zAT6 x0 y1.1.2.1).2.2.1.2.2.2.2.2.2.2.1])) fun v4 =>
                                          bif decide (ByteArray.size (((((ByteArray.mk #[32]) ++ (rd (α := AT6) zAT6 x0 y1.1.2.1).2.2.1.2.2.1) ++ (ByteArray.mk #[32])) ++ (rd (α := AT6) zAT6 x0 y1.1.2.1).2.2.1.2.2.2.1) ++ (ByteArray.mk #[32])) + ByteArray.size v4.1 < 4611686018427387904) then
                                            bif decide (ByteArray.size (y1.1.1 ++ ((((((v2.1 ++ (ByteArray.mk #[32])) ++ (rd (α := ByteArray) ByteArray.empty g37 (rd (α := AT6) zAT6 x0 y1.1.2.1).2.1)) ++ (ByteArray.mk #[32])) ++ (rd (α := AT6) zAT6 x0 y1.1.2.1).2.2.1.1) ++ (ByteArray.mk #[32])) ++ (rd (α := AT6) zAT6 x0 y1.1.2.1).2.2.1.2.1)) + ByteArray.size ((((((ByteArray.mk #[32]) ++ (rd (α := AT6) zAT6 x0 y1.1.2.1).2.2.1.2.2.1) ++ (ByteArray.mk #[32])) ++ (rd (α := AT6) zAT6 x0 y1.1.2.1).2.2.1.2.2.2.1) ++ (ByteArray.mk #[32])) ++ v4.1) < 4611686018427387904) then
                                              some (.inr ((((y1.1.1 ++ ((((((v2.1 ++ (ByteArray.mk #[32])) ++ (rd (α := ByteArray) ByteArray.empty g37 (rd (α := AT6) zAT6 x0 y1.1.2.1).2.1)) ++ (ByteArray.mk #[32])) ++ (rd (α := AT6) zAT6 x0 y1.1.2.1).2.2.1.1) ++ (ByteArray.mk #[32])) ++ (rd (α := AT6) zAT6 x0 y1.1.2.1).2.2.1.2.1)) ++ ((((((ByteArray.mk #[32]) ++ (rd (α := AT6) zAT6 x0 y1.1.2.1).2.2.1.2.2.1) ++ (ByteArray.mk #[32])) ++ (rd (α := AT6) zAT6 x0 y1.1.2.1).2.2.1.2.2.2.1) ++ (ByteArray.mk #[32])) ++ v4.1)), ()), ()))
                                            else
                                              none
                                          else
                                            none
                                        else
                                          none
                                      else
                                        none
                                    else
                                      none
                                  else
                                    none
                                else
                                  some (.inr (((y1.1.1 ++ ((((((v2.1 ++ (ByteArray.mk #[32])) ++ (rd (α := ByteArray) ByteArray.empty g37 (rd (α := AT6) zAT6 x0 y1.1.2.1).2.1)) ++ (ByteArray.mk #[32])) ++ (rd (α := AT6) zAT6 x0 y1.1.2.1).2.2.1.1) ++ (ByteArray.mk #[32])) ++ (rd (α := AT6) zAT6 x0 y1.1.2.1).2.2.1.2.1)), ()), ()))) fun r => match r with
                            | .inl z => some z
                            | .inr y5 =>
                              bif decide (ByteArray.size y5.1.1 + ByteArray.size (ByteArray.mk #[10]) < 4611686018427387904) then
                                some (.inl (((y5.1.1 ++ (ByteArray.mk #[10])), (IntKind.i64.wrap (y1.1.2.1 + (1 : Int))), ()), ()))
                              else
                                none
                        else
                          none
                      else
                        none
                    else
                      none
                  else
                    none
                else
                  none
              else
                none
            else
              none
          else
            none
        else
          none
      else
        some (.inr (.inr ((y1.1.1, ()), ())))) (((ByteArray.mk #[]), (0 : Int), ()), ())) fun r => match r with
  | .inl z => some z
  | .inr z6 =>
    some (z6.1.1, ())
def H7 : Hints where
  loop := fun n => match n with
    | 0 => some ({ slots := [(3, .str), (8, (.int .i64))], objs := [], gone := [] }, 0, { slots := [(3, .str)], objs := [], gone := [] })
    | _ => none
  region := fun n => match n with
    | 6 => some { slots := [(42, .bool)], objs := [], gone := [] }
    | _ => none
  cond := fun n => match n with
    | 42 => some { slots := [(3, .str)], objs := [], gone := [] }
    | _ => none
  block := fun n => match n with
    | _ => none
abbrev A7 : Tys := (.cons (.slice AY1) .nil)
def ts7 : List (Nat × TD) := [(3, (.data (.int .i64))), (9, (.data .str)), (22, (.data (.slice AY1))), (31, (.data AY0)), (33, (.data AY1)), (69, (.data (.slice .str))), (91, (.data (.slice (.int .i64))))]
noncomputable def fs7 (g36 : (List Int) → Option (ByteArray × Unit)) (g37 : (List ByteArray)) : List (Nat × FSem) := [(36, .pfn (.cons (.slice (.int .i64)) .nil) (.cons .str .nil) fun x => (g36 x.1)), (37, .fn .nil (.cons (.slice .str) .nil) fun x => (g37, ()))]
noncomputable def body7 : Code := match Tryz.f7.body with | some c => c | none => .skip
theorem ty7 : chkTypes Tryz.prog ts7 = true := by kernel_rfl
theorem ev7 (g36 : (List Int) → Option (ByteArray × Unit)) (g37 : (List ByteArray)) (k : Nat) (x : ((.cons (.slice AY1) .nil) : Tys).den) : evFun (mkEnv ts7 (fs7 g36 g37)) H7 k body7 74 [.tmp 2] (explodes (.cons (.slice AY1) .nil) x) [] (dec (.cons .str .nil)) = f7 g36 g37 k x.1 := by kernel_rfl
/-! ### jitney/jitlaw2.written -/
def f8  (k : Nat) (x0 : ByteArray) (x1 : Int) : Option AT1 :=
  bif (x1 != (0 : Int)) then
    some ((ByteArray.mk #[]), x1, ())
  else
    bif (decide (((ByteArray.size x0 : Nat) : Int) > (200000 : Int))) then
      some ((ByteArray.mk #[]), (2 : Int), ())
    else
      some (x0, (0 : Int), ())
def H8 : Hints where
  loop := fun n => match n with
    | _ => none
  region := fun n => match n with
    | _ => none
  cond := fun n => match n with
    | _ => none
  block := fun n => match n with
    | _ => none
abbrev A8 : Tys := (.cons .str (.cons (.int .i64) .nil))
def ts8 : List (Nat × TD) := [(3, (.data (.int .i64))), (9, (.data .str)), (23, (.data (.int .i64)))]
noncomputable def fs8  : List (Nat × FSem) := []
noncomputable def body8 : Code := match Tryz.f8.body with | some c => c | none => .skip
theorem ty8 : chkTypes Tryz.prog ts8 = true := by kernel_rfl
theorem ev8  (k : Nat) (x : ((.cons .str (.cons (.int .i64) .nil)) : Tys).den) : evFun (mkEnv ts8 (fs8 )) H8 k body8 15 [.tmp 4, .tmp 5] (explodes (.cons .str (.cons (.int .i64) .nil)) x) [] (dec (.cons .str (.cons (.int .i64) .nil))) = f8  k x.1 x.2.1 := by kernel_rfl
/-! ### jitney/base.Out -/
def f99  (k : Nat) (x0 : Int) (x1 : Int) (x2 : Int) : Option (Bool × Unit) :=
  bif (decide (x0 < x1)) then
    some (true, ())
  else
    some ((decide (x0 > x2)), ())
def H99 : Hints where
  loop := fun n => match n with
    | _ => none
  region := fun n => match n with
    | _ => none
  cond := fun n => match n with
    | _ => none
  block := fun n => match n with
    | _ => none
abbrev A99 : Tys := (.cons (.int .i64) (.cons (.int .i64) (.cons (.int .i64) .nil)))
def ts99 : List (Nat × TD) := [(3, (.data (.int .i64))), (4, (.data .bool))]
noncomputable def fs99  : List (Nat × FSem) := []
noncomputable def body99 : Code := match Tryz.f99.body with | some c => c | none => .skip
theorem ty99 : chkTypes Tryz.prog ts99 = true := by kernel_rfl
theorem ev99  (k : Nat) (x : ((.cons (.int .i64) (.cons (.int .i64) (.cons (.int .i64) .nil))) : Tys).den) : evFun (mkEnv ts99 (fs99 )) H99 k body99 15 [.tmp 6] (explodes (.cons (.int .i64) (.cons (.int .i64) (.cons (.int .i64) .nil))) x) [] (dec (.cons .bool .nil)) = f99  k x.1 x.2.1 x.2.2.1 := by kernel_rfl
/-! ### jitney/base.Moment -/
def f105 (g99 : Int → Int → Int → (Bool)) (k : Nat) (x0 : Int) : Option (Bool × Unit) :=
  some ((!(g99 x0 (0 : Int) (345686399999 : Int))), ())
def H105 : Hints where
  loop := fun n => match n with
    | _ => none
  region := fun n => match n with
    | _ => none
  cond := fun n => match n with
    | _ => none
  block := fun n => match n with
    | _ => none
abbrev A105 : Tys := (.cons (.int .i64) .nil)
def ts105 : List (Nat × TD) := [(3, (.data (.int .i64))), (4, (.data .bool))]
noncomputable def fs105 (g99 : Int → Int → Int → (Bool)) : List (Nat × FSem) := [(99, .fn (.cons (.int .i64) (.cons (.int .i64) (.cons (.int .i64) .nil))) (.cons .bool .nil) fun x => ((g99 x.1 x.2.1 x.2.2.1), ()))]
noncomputable def body105 : Code := match Tryz.f105.body with | some c => c | none => .skip
theorem ty105 : chkTypes Tryz.prog ts105 = true := by kernel_rfl
theorem ev105 (g99 : Int → Int → Int → (Bool)) (k : Nat) (x : ((.cons (.int .i64) .nil) : Tys).den) : evFun (mkEnv ts105 (fs105 g99)) H105 k body105 6 [.tmp 2] (explodes (.cons (.int .i64) .nil) x) [] (dec (.cons .bool .nil)) = f105 g99 k x.1 := by kernel_rfl
/-! ### jitney/base.Key -/
def f98  (k : Nat) (x0 : ByteArray) : Option (Bool × Unit) :=
  bif (sEq x0 (ByteArray.mk #[])) then
    some (false, ())
  else
    bif (decide (((ByteArray.size x0 : Nat) : Int) > (40 : Int))) then
      some (false, ())
    else
      bif (inR (0 : Int) ((ByteArray.size x0 : Nat) : Int)) then
        bif (decide ((bt x0 (0 : Int)) < (97 : Int))) then
          some (false, ())
        else
          bif (inR (0 : Int) ((ByteArray.size x0 : Nat) : Int)) then
            bif (decide ((bt x0 (0 : Int)) > (122 : Int))) then
              some (false, ())
            else
              Option.bind (α := (Bool × Unit) ⊕ ((Unit) × (Unit))) (iter (σ := (Int × Unit) × (Unit)) (τ := (Bool × Unit) ⊕ ((Unit) × (Unit))) k (fun y1 =>
                  bif (decide (y1.1.1 < ((ByteArray.size x0 : Nat) : Int))) then
                    bif (inR y1.1.1 ((ByteArray.size x0 : Nat) : Int)) then
                      bif (decide ((bt x0 y1.1.1) ≥ (97 : Int))) then
                        bif (decide ((bt x0 y1.1.1) ≤ (122 : Int))) then
                          some (.inl (((IntKind.i64.wrap (y1.1.1 + (1 : Int))), ()), ()))
                        else
                          bif (decide ((bt x0 y1.1.1) ≥ (48 : Int))) then
                            bif (decide ((bt x0 y1.1.1) ≤ (57 : Int))) then
                              some (.inl (((IntKind.i64.wrap (y1.1.1 + (1 : Int))), ()), ()))
                            else
                              bif ((bt x0 y1.1.1) == (45 : Int)) then
                                some (.inl (((IntKind.i64.wrap (y1.1.1 + (1 : Int))), ()), ()))
                              else
                                bif (!((bt x0 y1.1.1) == (95 : Int))) then
                                  some (.inr (.inl (false, ())))
                                else
                                  some (.inl (((IntKind.i64.wrap (y1.1.1 + (1 : Int))), ()), ()))
                          else
                            bif ((bt x0 y1.1.1) == (45 : Int)) then
                              some (.inl (((IntKind.i64.wrap (y1.1.1 + (1 : Int))), ()), ()))
                            else
                              bif (!((bt x0 y1.1.1) == (95 : Int))) then
                                some (.inr (.inl (false, ())))
                              else
                                some (.inl (((IntKind.i64.wrap (y1.1.1 + (1 : Int))), ()), ()))
                      else
                        bif (decide ((bt x0 y1.1.1) ≥ (48 : Int))) then
                          bif (decide ((bt x0 y1.1.1) ≤ (57 : Int))) then
                            some (.inl (((IntKind.i64.wrap (y1.1.1 + (1 : Int))), ()), ()))
                          else
                            bif ((bt x0 y1.1.1) == (45 : Int)) then
                              some (.inl (((IntKind.i64.wrap (y1.1.1 + (1 : Int))), ()), ()))
                            else
                              bif (!((bt x0 y1.1.1) == (95 : Int))) then
                                some (.inr (.inl (false, ())))
                              else
                                some (.inl (((IntKind.i64.wrap (y1.1.1 + (1 : Int))), ()), ()))
                        else
                          bif ((bt x0 y1.1.1) == (45 : Int)) then
                            some (.inl (((IntKind.i64.wrap (y1.1.1 + (1 : Int))), ()), ()))
                          else
                            bif (!((bt x0 y1.1.1) == (95 : Int))) then
                              some (.inr (.inl (false, ())))
                            else
                              some (.inl (((IntKind.i64.wrap (y1.1.1 + (1 : Int))), ()), ()))
                    else
                      none
                  else
                    some (.inr (.inr ((), ())))) (((0 : Int), ()), ())) fun r => match r with
              | .inl z => some z
              | .inr z2 =>
                some (true, ())
          else
            none
      else
        none
def H98 : Hints where
  loop := fun n => match n with
    | 0 => some ({ slots := [(24, (.int .i64))], objs := [], gone := [] }, 0, { slots := [], objs := [], gone := [] })
    | _ => none
  region := fun n => match n with
    | _ => none
  cond := fun n => match n with
    | _ => none
  block := fun n => match n with
    | _ => none
abbrev A98 : Tys := (.cons .str .nil)
def ts98 : List (Nat × TD) := [(3, (.data (.int .i64))), (4, (.data .bool)), (5, (.data (.int .u8))), (9, (.data .str))]
noncomputable def fs98  : List (Nat × FSem) := []
noncomputable def body98 : Code := match Tryz.f98.body with | some c => c | none => .skip
theorem ty98 : chkTypes Tryz.prog ts98 = true := by kernel_rfl
theorem ev98  (k : Nat) (x : ((.cons .str .nil) : Tys).den) : evFun (mkEnv ts98 (fs98 )) H98 k body98 54 [.tmp 2] (explodes (.cons .str .nil) x) [] (dec (.cons .bool .nil)) = f98  k x.1 := by kernel_rfl
/-! ### jitney/request.allKeys$1 -/
def f138 (g98 : ByteArray → (Bool)) (k : Nat) (x0 : ByteArray) : Option (Bool × Unit) :=
  some ((!(g98 x0)), ())
def H138 : Hints where
  loop := fun n => match n with
    | _ => none
  region := fun n => match n with
    | _ => none
  cond := fun n => match n with
    | _ => none
  block := fun n => match n with
    | _ => none
abbrev A138 : Tys := (.cons .str .nil)
def ts138 : List (Nat × TD) := [(4, (.data .bool)), (9, (.data .str))]
noncomputable def fs138 (g98 : ByteArray → (Bool)) : List (Nat × FSem) := [(98, .fn (.cons .str .nil) (.cons .bool .nil) fun x => ((g98 x.1), ()))]
noncomputable def body138 : Code := match Tryz.f138.body with | some c => c | none => .skip
theorem ty138 : chkTypes Tryz.prog ts138 = true := by kernel_rfl
theorem ev138 (g98 : ByteArray → (Bool)) (k : Nat) (x : ((.cons .str .nil) : Tys).den) : evFun (mkEnv ts138 (fs138 g98)) H138 k body138 6 [.tmp 2] (explodes (.cons .str .nil) x) [] (dec (.cons .bool .nil)) = f138 g98 k x.1 := by kernel_rfl
/-! ### jitney/request.allKeys -/
def f107 (g138 : ByteArray → (Bool)) (k : Nat) (x0 : List ByteArray) : Option (Bool × Unit) :=
  Option.bind (α := (Bool × Unit) ⊕ ((Unit) × (Unit))) (iter (σ := (Int × Unit) × (Unit)) (τ := (Bool × Unit) ⊕ ((Unit) × (Unit))) k (fun y1 =>
      bif (decide (y1.1.1 < ((List.length x0 : Nat) : Int))) then
        bif (inR y1.1.1 ((List.length x0 : Nat) : Int)) then
          bif (g138 (rd (α := ByteArray) ByteArray.empty x0 y1.1.1)) then
            some (.inr (.inl ((!(decide (y1.1.1 ≥ (0 : Int)))), ())))
          else
            some (.inl (((IntKind.i64.wrap (y1.1.1 + (1 : Int))), ()), ()))
        else
          none
      else
        some (.inr (.inr ((), ())))) (((0 : Int), ()), ())) fun r => match r with
  | .inl z => some z
  | .inr z2 =>
    some (true, ())
def H107 : Hints where
  loop := fun n => match n with
    | _ => none
  region := fun n => match n with
    | _ => none
  cond := fun n => match n with
    | _ => none
  block := fun n => match n with
    | _ => none
def Hi107_166 : Hints where
  loop := fun n => match n with
    | 0 => some ({ slots := [(8, (.int .i64))], objs := [], gone := [] }, 0, { slots := [], objs := [], gone := [] })
    | _ => none
  region := fun n => match n with
    | _ => none
  cond := fun n => match n with
    | _ => none
  block := fun n => match n with
    | _ => none
def tsi107_166 : List (Nat × TD) := [(3, (.data (.int .i64))), (9, (.data .str)), (69, (.data (.slice .str)))]
noncomputable def bodyi107_166 : Code := match Tryz.f166.body with | some c => c | none => .skip
noncomputable def fsi107_166 (g138 : ByteArray → (Bool)) (k : Nat) : List (Nat × FSem) := [(138, .fn (.cons .str .nil) (.cons .bool .nil) fun x => ((g138 x.1), ()))]
theorem tyi107_166 : chkTypes Tryz.prog tsi107_166 = true := by kernel_rfl
def Hi107_137 : Hints where
  loop := fun n => match n with
    | _ => none
  region := fun n => match n with
    | _ => none
  cond := fun n => match n with
    | _ => none
  block := fun n => match n with
    | _ => none
def tsi107_137 : List (Nat × TD) := [(3, (.data (.int .i64)))]
noncomputable def bodyi107_137 : Code := match Tryz.f137.body with | some c => c | none => .skip
noncomputable def fsi107_137 (g138 : ByteArray → (Bool)) (k : Nat) : List (Nat × FSem) := [(166, .ev (mkEnv tsi107_166 (fsi107_166 g138 k)) Hi107_166 k bodyi107_166 19 [.tmp 4])]
theorem tyi107_137 : chkTypes Tryz.prog tsi107_137 = true := by kernel_rfl
abbrev A107 : Tys := (.cons (.slice .str) .nil)
def ts107 : List (Nat × TD) := [(4, (.data .bool)), (69, (.data (.slice .str)))]
noncomputable def fs107 (g138 : ByteArray → (Bool)) (k : Nat) : List (Nat × FSem) := [(137, .ev (mkEnv tsi107_137 (fsi107_137 g138 k)) Hi107_137 k bodyi107_137 9 [.tmp 4])]
noncomputable def body107 : Code := match Tryz.f107.body with | some c => c | none => .skip
theorem ty107 : chkTypes Tryz.prog ts107 = true := by kernel_rfl
theorem ev107 (g138 : ByteArray → (Bool)) (k : Nat) (x : ((.cons (.slice .str) .nil) : Tys).den) : evFun (mkEnv ts107 (fs107 g138 k)) H107 k body107 6 [.tmp 2] (explodes (.cons (.slice .str) .nil) x) [] (dec (.cons .bool .nil)) = f107 g138 k x.1 := by kernel_rfl
/-! ### jitney/request.CheckRide -/
def f106 (g99 : Int → Int → Int → (Bool)) (g105 : Int → (Bool)) (g107 : (List ByteArray) → (Bool)) (k : Nat) (x0 : AT5) : Option (Int × Unit) :=
  bif (!(g107 ([x0.1, x0.2.1, x0.2.2.1, x0.2.2.2.1]))) then
    some ((5 : Int), ())
  else
    bif (sEq x0.2.2.1 x0.2.2.2.1) then
      some ((6 : Int), ())
    else
      bif (!(g105 x0.2.2.2.2.1)) then
        some ((1 : Int), ())
      else
        bif (g99 x0.2.2.2.2.2.1 (IntKind.i64.wrap (x0.2.2.2.2.1 + (1 : Int))) (345686400000 : Int)) then
          some ((1 : Int), ())
        else
          bif (g99 x0.2.2.2.2.2.2.1 (0 : Int) (60 : Int)) then
            some ((1 : Int), ())
          else
            bif (g99 x0.2.2.2.2.2.2.2.1 (0 : Int) (60 : Int)) then
              some ((1 : Int), ())
            else
              bif ((IntKind.i64.wrap (x0.2.2.2.2.2.2.1 + x0.2.2.2.2.2.2.2.1)) == (0 : Int)) then
                some ((3 : Int), ())
              else
                some ((0 : Int), ())
def H106 : Hints where
  loop := fun n => match n with
    | _ => none
  region := fun n => match n with
    | _ => none
  cond := fun n => match n with
    | _ => none
  block := fun n => match n with
    | _ => none
abbrev A106 : Tys := (.cons AY0 .nil)
def ts106 : List (Nat × TD) := [(3, (.data (.int .i64))), (9, (.data .str)), (23, (.data (.int .i64))), (31, (.data AY0)), (69, (.data (.slice .str)))]
noncomputable def fs106 (g99 : Int → Int → Int → (Bool)) (g105 : Int → (Bool)) (g107 : (List ByteArray) → (Bool)) : List (Nat × FSem) := [(99, .fn (.cons (.int .i64) (.cons (.int .i64) (.cons (.int .i64) .nil))) (.cons .bool .nil) fun x => ((g99 x.1 x.2.1 x.2.2.1), ())), (105, .fn (.cons (.int .i64) .nil) (.cons .bool .nil) fun x => ((g105 x.1), ())), (107, .fn (.cons (.slice .str) .nil) (.cons .bool .nil) fun x => ((g107 x.1), ()))]
noncomputable def body106 : Code := match Tryz.f106.body with | some c => c | none => .skip
theorem ty106 : chkTypes Tryz.prog ts106 = true := by kernel_rfl
theorem ev106 (g99 : Int → Int → Int → (Bool)) (g105 : Int → (Bool)) (g107 : (List ByteArray) → (Bool)) (k : Nat) (x : ((.cons AY0 .nil) : Tys).den) : evFun (mkEnv ts106 (fs106 g99 g105 g107)) H106 k body106 51 [.tmp 2] (explodes (.cons AY0 .nil) x) [] (dec (.cons (.int .i64) .nil)) = f106 g99 g105 g107 k x.1 := by kernel_rfl
/-! ### jitney/request.askFault -/
def f77 (g99 : Int → Int → Int → (Bool)) (g105 : Int → (Bool)) (g106 : AT5 → (Int)) (g107 : (List ByteArray) → (Bool)) (k : Nat) (x0 : AT6) : Option (Int × Unit) :=
  bif (!(g105 x0.1)) then
    some ((1 : Int), ())
  else
    bif (g99 x0.2.1 (1 : Int) (4 : Int)) then
      some ((4 : Int), ())
    else
      bif (x0.2.1 == (1 : Int)) then
        some ((g106 x0.2.2.1), ())
      else
        bif (x0.2.1 == (2 : Int)) then
          some ((g106 x0.2.2.1), ())
        else
          bif (!(g107 ([x0.2.2.1.1, x0.2.2.1.2.1]))) then
            some ((5 : Int), ())
          else
            bif (!((sEq x0.2.2.1.1 x0.2.2.1.1) && ((sEq x0.2.2.1.2.1 x0.2.2.1.2.1) && ((sEq x0.2.2.1.2.2.1 ByteArray.empty) && ((sEq x0.2.2.1.2.2.2.1 ByteArray.empty) && ((x0.2.2.1.2.2.2.2.1 == (0 : Int)) && ((x0.2.2.1.2.2.2.2.2.1 == (0 : Int)) && ((x0.2.2.1.2.2.2.2.2.2.1 == (0 : Int)) && ((x0.2.2.1.2.2.2.2.2.2.2.1 == (0 : Int)) && true))))))))) then
              some ((3 : Int), ())
            else
              some ((0 : Int), ())
def H77 : Hints where
  loop := fun n => match n with
    | _ => none
  region := fun n => match n with
    | _ => none
  cond := fun n => match n with
    | _ => none
  block := fun n => match n with
    | _ => none
abbrev A77 : Tys := (.cons AY1 .nil)
def ts77 : List (Nat × TD) := [(3, (.data (.int .i64))), (9, (.data .str)), (23, (.data (.int .i64))), (31, (.data AY0)), (33, (.data AY1)), (69, (.data (.slice .str)))]
noncomputable def fs77 (g99 : Int → Int → Int → (Bool)) (g105 : Int → (Bool)) (g106 : AT5 → (Int)) (g107 : (List ByteArray) → (Bool)) : List (Nat × FSem) := [(99, .fn (.cons (.int .i64) (.cons (.int .i64) (.cons (.int .i64) .nil))) (.cons .bool .nil) fun x => ((g99 x.1 x.2.1 x.2.2.1), ())), (105, .fn (.cons (.int .i64) .nil) (.cons .bool .nil) fun x => ((g105 x.1), ())), (106, .fn (.cons AY0 .nil) (.cons (.int .i64) .nil) fun x => ((g106 x.1), ())), (107, .fn (.cons (.slice .str) .nil) (.cons .bool .nil) fun x => ((g107 x.1), ()))]
noncomputable def body77 : Code := match Tryz.f77.body with | some c => c | none => .skip
theorem ty77 : chkTypes Tryz.prog ts77 = true := by kernel_rfl
theorem ev77 (g99 : Int → Int → Int → (Bool)) (g105 : Int → (Bool)) (g106 : AT5 → (Int)) (g107 : (List ByteArray) → (Bool)) (k : Nat) (x : ((.cons AY1 .nil) : Tys).den) : evFun (mkEnv ts77 (fs77 g99 g105 g106 g107)) H77 k body77 45 [.tmp 2] (explodes (.cons AY1 .nil) x) [] (dec (.cons (.int .i64) .nil)) = f77 g99 g105 g106 g107 k x.1 := by kernel_rfl
/-! ### cmp.Or[int] -/
def f108  (k : Nat) (x0 : List Int) : Option (Int × Unit) :=
  Option.bind (α := (Int × Unit) ⊕ ((Unit) × (Unit))) (iter (σ := (Int × Unit) × (Unit)) (τ := (Int × Unit) ⊕ ((Unit) × (Unit))) k (fun y1 =>
      bif (decide (y1.1.1 < ((List.length x0 : Nat) : Int))) then
        bif (inR y1.1.1 ((List.length x0 : Nat) : Int)) then
          bif ((rd (α := Int) (0 : Int) x0 y1.1.1) != (0 : Int)) then
            some (.inr (.inl ((rd (α := Int) (0 : Int) x0 y1.1.1), ())))
          else
            some (.inl (((IntKind.i64.wrap (y1.1.1 + (1 : Int))), ()), ()))
        else
          none
      else
        some (.inr (.inr ((), ())))) (((0 : Int), ()), ())) fun r => match r with
  | .inl z => some z
  | .inr z2 =>
    some ((0 : Int), ())
def H108 : Hints where
  loop := fun n => match n with
    | 0 => some ({ slots := [(8, (.int .i64))], objs := [], gone := [] }, 0, { slots := [], objs := [], gone := [] })
    | _ => none
  region := fun n => match n with
    | _ => none
  cond := fun n => match n with
    | _ => none
  block := fun n => match n with
    | _ => none
abbrev A108 : Tys := (.cons (.slice (.int .i64)) .nil)
def ts108 : List (Nat × TD) := [(3, (.data (.int .i64))), (91, (.data (.slice (.int .i64))))]
noncomputable def fs108  : List (Nat × FSem) := []
noncomputable def body108 : Code := match Tryz.f108.body with | some c => c | none => .skip
theorem ty108 : chkTypes Tryz.prog ts108 = true := by kernel_rfl
theorem ev108  (k : Nat) (x : ((.cons (.slice (.int .i64)) .nil) : Tys).den) : evFun (mkEnv ts108 (fs108 )) H108 k body108 18 [.tmp 2] (explodes (.cons (.slice (.int .i64)) .nil) x) [] (dec (.cons (.int .i64) .nil)) = f108  k x.1 := by kernel_rfl
/-! ### cmp.isNaN[int] -/
def f139  (k : Nat) (x0 : Int) : Option (Bool × Unit) :=
  some ((x0 != x0), ())
def H139 : Hints where
  loop := fun n => match n with
    | _ => none
  region := fun n => match n with
    | _ => none
  cond := fun n => match n with
    | _ => none
  block := fun n => match n with
    | _ => none
abbrev A139 : Tys := (.cons (.int .i64) .nil)
def ts139 : List (Nat × TD) := [(3, (.data (.int .i64))), (4, (.data .bool))]
noncomputable def fs139  : List (Nat × FSem) := []
noncomputable def body139 : Code := match Tryz.f139.body with | some c => c | none => .skip
theorem ty139 : chkTypes Tryz.prog ts139 = true := by kernel_rfl
theorem ev139  (k : Nat) (x : ((.cons (.int .i64) .nil) : Tys).den) : evFun (mkEnv ts139 (fs139 )) H139 k body139 6 [.tmp 2] (explodes (.cons (.int .i64) .nil) x) [] (dec (.cons .bool .nil)) = f139  k x.1 := by kernel_rfl
/-! ### cmp.Compare[int] -/
def f109 (g139 : Int → (Bool)) (k : Nat) (x0 : Int) (x1 : Int) : Option (Int × Unit) :=
  bif (g139 x0) then
    bif (g139 x1) then
      some ((0 : Int), ())
    else
      some ((-1 : Int), ())
  else
    bif (g139 x1) then
      some ((1 : Int), ())
    else
      bif (decide (x0 < x1)) then
        some ((-1 : Int), ())
      else
        bif (decide (x0 > x1)) then
          some ((1 : Int), ())
        else
          some ((0 : Int), ())
def H109 : Hints where
  loop := fun n => match n with
    | _ => none
  region := fun n => match n with
    | _ => none
  cond := fun n => match n with
    | _ => none
  block := fun n => match n with
    | _ => none
abbrev A109 : Tys := (.cons (.int .i64) (.cons (.int .i64) .nil))
def ts109 : List (Nat × TD) := [(3, (.data (.int .i64)))]
noncomputable def fs109 (g139 : Int → (Bool)) : List (Nat × FSem) := [(139, .fn (.cons (.int .i64) .nil) (.cons .bool .nil) fun x => ((g139 x.1), ()))]
noncomputable def body109 : Code := match Tryz.f109.body with | some c => c | none => .skip
theorem ty109 : chkTypes Tryz.prog ts109 = true := by kernel_rfl
theorem ev109 (g139 : Int → (Bool)) (k : Nat) (x : ((.cons (.int .i64) (.cons (.int .i64) .nil)) : Tys).den) : evFun (mkEnv ts109 (fs109 g139)) H109 k body109 20 [.tmp 4] (explodes (.cons (.int .i64) (.cons (.int .i64) .nil)) x) [] (dec (.cons (.int .i64) .nil)) = f109 g139 k x.1 x.2.1 := by kernel_rfl
/-! ### jitney/request.byAsk -/
def f78 (g76 : ByteArray → ByteArray → (Int)) (g108 : (List Int) → (Int)) (g109 : Int → Int → (Int)) (k : Nat) (x0 : AT6) (x1 : AT6) : Option (Int × Unit) :=
  some ((g108 ([(g109 x0.1 x1.1), (g76 x0.2.2.1.1 x1.2.2.1.1), (g109 x0.2.1 x1.2.1)])), ())
def H78 : Hints where
  loop := fun n => match n with
    | _ => none
  region := fun n => match n with
    | _ => none
  cond := fun n => match n with
    | _ => none
  block := fun n => match n with
    | _ => none
abbrev A78 : Tys := (.cons AY1 (.cons AY1 .nil))
def ts78 : List (Nat × TD) := [(3, (.data (.int .i64))), (9, (.data .str)), (31, (.data AY0)), (33, (.data AY1)), (91, (.data (.slice (.int .i64))))]
noncomputable def fs78 (g76 : ByteArray → ByteArray → (Int)) (g108 : (List Int) → (Int)) (g109 : Int → Int → (Int)) : List (Nat × FSem) := [(76, .fn (.cons .str (.cons .str .nil)) (.cons (.int .i64) .nil) fun x => ((g76 x.1 x.2.1), ())), (108, .fn (.cons (.slice (.int .i64)) .nil) (.cons (.int .i64) .nil) fun x => ((g108 x.1), ())), (109, .fn (.cons (.int .i64) (.cons (.int .i64) .nil)) (.cons (.int .i64) .nil) fun x => ((g109 x.1 x.2.1), ()))]
noncomputable def body78 : Code := match Tryz.f78.body with | some c => c | none => .skip
theorem ty78 : chkTypes Tryz.prog ts78 = true := by kernel_rfl
theorem ev78 (g76 : ByteArray → ByteArray → (Int)) (g108 : (List Int) → (Int)) (g109 : Int → Int → (Int)) (k : Nat) (x : ((.cons AY1 (.cons AY1 .nil)) : Tys).den) : evFun (mkEnv ts78 (fs78 g76 g108 g109)) H78 k body78 24 [.tmp 4] (explodes (.cons AY1 (.cons AY1 .nil)) x) [] (dec (.cons (.int .i64) .nil)) = f78 g76 g108 g109 k x.1 x.2.1 := by kernel_rfl
/-! ### jitney/request.CheckAsks -/
def f38 (g77 : AT6 → (Int)) (g78 : AT6 → AT6 → (Int)) (k : Nat) (x0 : List AT6) : Option (Int × Unit) :=
  bif (decide (((List.length x0 : Nat) : Int) > (2000 : Int))) then
    some ((2 : Int), ())
  else
    Option.bind (α := (Int × Unit) ⊕ ((Unit) × (Unit))) (iter (σ := (Int × Unit) × (Unit)) (τ := (Int × Unit) ⊕ ((Unit) × (Unit))) k (fun y1 =>
        bif (decide (y1.1.1 < ((List.length x0 : Nat) : Int))) then
          bif (inR y1.1.1 ((List.length x0 : Nat) : Int)) then
            bif ((g77 (rd (α := AT6) zAT6 x0 y1.1.1)) != (0 : Int)) then
              some (.inr (.inl ((g77 (rd (α := AT6) zAT6 x0 y1.1.1)), ())))
            else
              bif (decide (y1.1.1 > (0 : Int))) then
                bif (inR (IntKind.i64.wrap (y1.1.1 - (1 : Int))) ((List.length x0 : Nat) : Int)) then
                  bif (decide ((g78 (rd (α := AT6) zAT6 x0 y1.1.1) (rd (α := AT6) zAT6 x0 (IntKind.i64.wrap (y1.1.1 - (1 : Int))))) ≤ (0 : Int))) then
                    some (.inr (.inl ((7 : Int), ())))
                  else
                    some (.inl (((IntKind.i64.wrap (y1.1.1 + (1 : Int))), ()), ()))
                else
                  none
              else
                some (.inl (((IntKind.i64.wrap (y1.1.1 + (1 : Int))), ()), ()))
          else
            none
        else
          some (.inr (.inr ((), ())))) (((0 : Int), ()), ())) fun r => match r with
    | .inl z => some z
    | .inr z2 =>
      some ((0 : Int), ())
def H38 : Hints where
  loop := fun n => match n with
    | 0 => some ({ slots := [(11, (.int .i64))], objs := [], gone := [] }, 0, { slots := [], objs := [], gone := [] })
    | _ => none
  region := fun n => match n with
    | _ => none
  cond := fun n => match n with
    | _ => none
  block := fun n => match n with
    | _ => none
abbrev A38 : Tys := (.cons (.slice AY1) .nil)
def ts38 : List (Nat × TD) := [(3, (.data (.int .i64))), (22, (.data (.slice AY1))), (23, (.data (.int .i64))), (33, (.data AY1))]
noncomputable def fs38 (g77 : AT6 → (Int)) (g78 : AT6 → AT6 → (Int)) : List (Nat × FSem) := [(77, .fn (.cons AY1 .nil) (.cons (.int .i64) .nil) fun x => ((g77 x.1), ())), (78, .fn (.cons AY1 (.cons AY1 .nil)) (.cons (.int .i64) .nil) fun x => ((g78 x.1 x.2.1), ()))]
noncomputable def body38 : Code := match Tryz.f38.body with | some c => c | none => .skip
theorem ty38 : chkTypes Tryz.prog ts38 = true := by kernel_rfl
theorem ev38 (g77 : AT6 → (Int)) (g78 : AT6 → AT6 → (Int)) (k : Nat) (x : ((.cons (.slice AY1) .nil) : Tys).den) : evFun (mkEnv ts38 (fs38 g77 g78)) H38 k body38 34 [.tmp 2] (explodes (.cons (.slice AY1) .nil) x) [] (dec (.cons (.int .i64) .nil)) = f38 g77 g78 k x.1 := by kernel_rfl
/-! ### jitney/request.kinds -/
def f40  (k : Nat)  : Option ((List ByteArray) × Unit) :=
  some ([(ByteArray.mk #[110, 101, 119]), (ByteArray.mk #[99, 104, 97, 110, 103, 101]), (ByteArray.mk #[99, 97, 110, 99, 101, 108]), (ByteArray.mk #[109, 105, 115, 115, 101, 100])], ())
def H40 : Hints where
  loop := fun n => match n with
    | _ => none
  region := fun n => match n with
    | _ => none
  cond := fun n => match n with
    | _ => none
  block := fun n => match n with
    | _ => none
abbrev A40 : Tys := .nil
def ts40 : List (Nat × TD) := [(69, (.data (.slice .str)))]
noncomputable def fs40  : List (Nat × FSem) := []
noncomputable def body40 : Code := match Tryz.f40.body with | some c => c | none => .skip
theorem ty40 : chkTypes Tryz.prog ts40 = true := by kernel_rfl
theorem ev40  (k : Nat) (x : (.nil : Tys).den) : evFun (mkEnv ts40 (fs40 )) H40 k body40 2 [.tmp 0] (explodes .nil x) [] (dec (.cons (.slice .str) .nil)) = f40  k  := by kernel_rfl
/-! ### jitney/request.Text -/
def f9 (g38 : (List AT6) → (Int)) (g39 : Int → Option (ByteArray × Unit)) (g40 : (List ByteArray)) (g42 : (List ByteArray) → ByteArray → Option (ByteArray × Unit)) (k : Nat) (x0 : List AT6) : Option AT1 :=
  bif ((g38 x0) != (0 : Int)) then
    some ((ByteArray.mk #[]), (g38 x0), ())
  else
    Option.bind (α := AT1 ⊕ ((Unit) × AT3)) (iter (σ := (Int × Unit) × AT3) (τ := AT1 ⊕ ((Unit) × AT3)) k (fun y1 =>
        bif (decide (y1.1.1 < ((List.length x0 : Nat) : Int))) then
          bif (inR y1.1.1 ((List.length x0 : Nat) : Int)) then
            Option.bind (g39 ((rd (α := AT6) zAT6 x0 y1.1.1).1)) fun v2 =>
            bif (inR (IntKind.i64.wrap ((rd (α := AT6) zAT6 x0 y1.1.1).2.1 - (1 : Int))) ((List.length g40 : Nat) : Int)) then
              Option.bind (α := (((Int × Unit) × AT3) ⊕ (AT1 ⊕ ((Unit) × AT3))) ⊕ (((List ByteArray) × Unit) × (Unit))) (
                  bif (decide ((rd (α := AT6) zAT6 x0 y1.1.1).2.1 ≤ (2 : Int))) then
                    Option.bind (g39 ((rd (α := AT6) zAT6 x0 y1.1.1).2.2.1.2.2.2.2.1)) fun v3 =>
                    Option.bind (g39 ((rd (α := AT6) zAT6 x0 y1.1.1).2.2.1.2.2.2.2.2.1)) fun v4 =>
                    Option.bind (g39 ((rd (α := AT6) zAT6 x0 y1.1.1).2.2.1.2.2.2.2.2.2.1)) fun v5 =>
                    Option.bind (g39 ((rd (α := AT6) zAT6 x0 y1.1.1).2.2.1.2.2.2.2.2.2.2.1)) fun v6 =>
                    bif decide (List.length ([v2.1, (rd (α := ByteArray) ByteArray.empty g40 (IntKind.i64.wrap ((rd (α := AT6) zAT6 x0 y1.1.1).2.1 - (1 : Int)))), (rd (α := AT6) zAT6 x0 y1.1.1).2.2.1.1, (rd (α := AT6) zAT6 x0 y1.1.1).2.2.1.2.1]) + List.length ([(rd (α := AT6) zAT6 x0 y1.1.1).2.2.1.2.2.1, (rd (α := AT6) zAT6 x0 y1.1.1).2.2.1.2.2.2.1, v3.1, v4.1, v5.1, v6.1]) ≤ 4294967296) then
                      some (.inr ((([v2.1, (rd (α := ByteArray) ByteArray.empty g40 (IntKind.i64.wrap ((rd (α := AT6) zAT6 x0 y1.1.1).2.1 - (1 : Int)))), (rd (α := AT6) zAT6 x0 y1.1.1).2.2.1.1, (rd (α := AT6) zAT6 x0 y1.1.1).2.2.1.2.1] ++ [(rd (α := AT6) zAT6 x0 y1.1.1).2.2.1.2.2.1, (rd (α := AT6) zAT6 x0 y1.1.1).2.2.1.2.2.2.1, v3.1, v4.1, v5.1, v6.1]), ()), ()))
                    else
                      none
                  else
                    some (.inr (([v2.1, (rd (α := ByteArray) ByteArray.empty g40 (IntKind.i64.wrap ((rd (α := AT6) zAT6 x0 y1.1.1).2.1 - (1 : Int)))), (rd (α := AT6) zAT6 x0 y1.1.1).2.2.1.1, (rd (α := AT6) zAT6 x0 y1.1.1).2.2.1.2.1], ()), ()))) fun r => match r with
              | .inl z => some z
              | .inr y7 =>
                Option.bind (g42 y7.1.1 (ByteArray.mk #[32])) fun v8 =>
                bif decide (ByteArray.size v8.1 + ByteArray.size (ByteArray.mk #[10]) < 4611686018427387904) then
                  bif decide (ByteArray.size y1.2.1.1 + ByteArray.size (v8.1 ++ (ByteArray.mk #[10])) ≤ 4294967296) then
                    some (.inl (((IntKind.i64.wrap (y1.1.1 + (1 : Int))), ()), (((y1.2.1.1 ++ (v8.1 ++ (ByteArray.mk #[10]))), ()), ())))
                  else
                    none
                else
                  none
            else
              none
          else
            none
        else
          some (.inr (.inr ((), ((y1.2.1.1, ()), ()))))) (((0 : Int), ()), zAT3)) fun r => match r with
    | .inl z => some z
    | .inr z9 =>
      bif (decide (((ByteArray.size z9.2.1.1 : Nat) : Int) > (200000 : Int))) then
        some ((ByteArray.mk #[]), (2 : Int), ())
      else
        some (z9.2.1.1, (0 : Int), ())
def H9 : Hints where
  loop := fun n => match n with
    | 0 => some ({ slots := [(17, (.int .i64))], objs := [(0, (.box (.agg (.cons (.cell .ptr) (.cons (.data (.slice (.int .u8))) .nil))) (.agg (.skip (.cons .bytes .nil)))))], gone := [] }, 0, { slots := [], objs := [(0, (.box (.agg (.cons (.cell .ptr) (.cons (.data (.slice (.int .u8))) .nil))) (.agg (.skip (.cons .bytes .nil)))))], gone := [] })
    | _ => none
  region := fun n => match n with
    | _ => none
  cond := fun n => match n with
    | 39 => some { slots := [(9, (.row .str))], objs := [], gone := [17] }
    | _ => none
  block := fun n => match n with
    | _ => none
def Hi9_41 : Hints where
  loop := fun n => match n with
    | _ => none
  region := fun n => match n with
    | _ => none
  cond := fun n => match n with
    | _ => none
  block := fun n => match n with
    | _ => none
def tsi9_41 : List (Nat × TD) := [(9, (.data .str)), (72, (.data (.slice (.int .u8)))), (74, (.agg (.cons (.cell .ptr) (.cons (.data (.slice (.int .u8))) .nil))))]
noncomputable def bodyi9_41 : Code := match Tryz.f41.body with | some c => c | none => .skip
noncomputable def fsi9_41 (g38 : (List AT6) → (Int)) (g39 : Int → Option (ByteArray × Unit)) (g40 : (List ByteArray)) (g42 : (List ByteArray) → ByteArray → Option (ByteArray × Unit)) (k : Nat) : List (Nat × FSem) := [(80, .cck)]
theorem tyi9_41 : chkTypes Tryz.prog tsi9_41 = true := by kernel_rfl
def Hi9_43 : Hints where
  loop := fun n => match n with
    | _ => none
  region := fun n => match n with
    | _ => none
  cond := fun n => match n with
    | _ => none
  block := fun n => match n with
    | _ => none
def tsi9_43 : List (Nat × TD) := [(72, (.data (.slice (.int .u8)))), (74, (.agg (.cons (.cell .ptr) (.cons (.data (.slice (.int .u8))) .nil))))]
noncomputable def bodyi9_43 : Code := match Tryz.f43.body with | some c => c | none => .skip
noncomputable def fsi9_43 (g38 : (List AT6) → (Int)) (g39 : Int → Option (ByteArray × Unit)) (g40 : (List ByteArray)) (g42 : (List ByteArray) → ByteArray → Option (ByteArray × Unit)) (k : Nat) : List (Nat × FSem) := []
theorem tyi9_43 : chkTypes Tryz.prog tsi9_43 = true := by kernel_rfl
abbrev A9 : Tys := (.cons (.slice AY1) .nil)
def ts9 : List (Nat × TD) := [(3, (.data (.int .i64))), (9, (.data .str)), (22, (.data (.slice AY1))), (23, (.data (.int .i64))), (31, (.data AY0)), (33, (.data AY1)), (69, (.data (.slice .str))), (74, (.agg (.cons (.cell .ptr) (.cons (.data (.slice (.int .u8))) .nil))))]
noncomputable def fs9 (g38 : (List AT6) → (Int)) (g39 : Int → Option (ByteArray × Unit)) (g40 : (List ByteArray)) (g42 : (List ByteArray) → ByteArray → Option (ByteArray × Unit)) (k : Nat) : List (Nat × FSem) := [(38, .fn (.cons (.slice AY1) .nil) (.cons (.int .i64) .nil) fun x => ((g38 x.1), ())), (39, .pfn (.cons (.int .i64) .nil) (.cons .str .nil) fun x => (g39 x.1)), (40, .fn .nil (.cons (.slice .str) .nil) fun x => (g40, ())), (41, .ev (mkEnv tsi9_41 (fsi9_41 g38 g39 g40 g42 k)) Hi9_41 k bodyi9_41 19 [.tmp 4, .tmp 5]), (42, .pfn (.cons (.slice .str) (.cons .str .nil)) (.cons .str .nil) fun x => (g42 x.1 x.2.1)), (43, .ev (mkEnv tsi9_43 (fsi9_43 g38 g39 g40 g42 k)) Hi9_43 k bodyi9_43 8 [.tmp 2]), (44, .bstr)]
noncomputable def body9 : Code := match Tryz.f9.body with | some c => c | none => .skip
theorem ty9 : chkTypes Tryz.prog ts9 = true := by kernel_rfl
theorem ev9 (g38 : (List AT6) → (Int)) (g39 : Int → Option (ByteArray × Unit)) (g40 : (List ByteArray)) (g42 : (List ByteArray) → ByteArray → Option (ByteArray × Unit)) (k : Nat) (x : ((.cons (.slice AY1) .nil) : Tys).den) : evFun (mkEnv ts9 (fs9 g38 g39 g40 g42 k)) H9 k body9 67 [.tmp 2, .tmp 3] (explodes (.cons (.slice AY1) .nil) x) [] (dec (.cons .str (.cons (.int .i64) .nil))) = f9 g38 g39 g40 g42 k x.1 := by kernel_rfl
/-! ### slices.Clone[[]jitney/api.Ask,jitney/api.Ask] -/
def f10  (k : Nat) (x0 : List AT6) : Option ((List AT6) × Unit) :=
  bif Nat.ble (List.length x0) 0 then
    none
  else
    bif decide (List.length ([] : List AT6) + List.length x0 ≤ 4294967296) then
      some ((([] : List AT6) ++ x0), ())
    else
      none
def H10 : Hints where
  loop := fun n => match n with
    | _ => none
  region := fun n => match n with
    | _ => none
  cond := fun n => match n with
    | _ => none
  block := fun n => match n with
    | _ => none
def ts10 : List (Nat × TD) := [(22, (.data (.slice AY1)))]
noncomputable def fs10  : List (Nat × FSem) := []
noncomputable def body10 : Code := match Tryz.f10.body with | some c => c | none => .skip
theorem ty10 : chkTypes Tryz.prog ts10 = true := by kernel_rfl
theorem ev10  (k : Nat) (x : ((.cons (.slice AY1) .nil) : Tys).den) : evFun (mkEnv ts10 (fs10 )) H10 k body10 8 [.tmp 2] (explodes (.cons (.slice AY1) .nil) x) [] (dec (.cons (.slice AY1) .nil)) = f10  k x.1 := by kernel_rfl
def s10 (l : List AT6) : Option ((List AT6) × Unit) := if l.length ≤ 4294967296 then some (l, ()) else none
/-! ### slices.Index[[]string,string] -/
def f52  (k : Nat) (x0 : List ByteArray) (x1 : ByteArray) : Option (Int × Unit) :=
  Option.bind (α := (Int × Unit) ⊕ ((Unit) × (Unit))) (iter (σ := (Int × Unit) × (Unit)) (τ := (Int × Unit) ⊕ ((Unit) × (Unit))) k (fun y1 =>
      bif (decide (y1.1.1 < ((List.length x0 : Nat) : Int))) then
        bif (inR y1.1.1 ((List.length x0 : Nat) : Int)) then
          bif (sEq x1 (rd (α := ByteArray) ByteArray.empty x0 y1.1.1)) then
            some (.inr (.inl (y1.1.1, ())))
          else
            some (.inl (((IntKind.i64.wrap (y1.1.1 + (1 : Int))), ()), ()))
        else
          none
      else
        some (.inr (.inr ((), ())))) (((0 : Int), ()), ())) fun r => match r with
  | .inl z => some z
  | .inr z2 =>
    some ((-1 : Int), ())
def H52 : Hints where
  loop := fun n => match n with
    | 0 => some ({ slots := [(8, (.int .i64))], objs := [], gone := [] }, 0, { slots := [], objs := [], gone := [] })
    | _ => none
  region := fun n => match n with
    | _ => none
  cond := fun n => match n with
    | _ => none
  block := fun n => match n with
    | _ => none
abbrev A52 : Tys := (.cons (.slice .str) (.cons .str .nil))
def ts52 : List (Nat × TD) := [(3, (.data (.int .i64))), (9, (.data .str)), (69, (.data (.slice .str)))]
noncomputable def fs52  : List (Nat × FSem) := []
noncomputable def body52 : Code := match Tryz.f52.body with | some c => c | none => .skip
theorem ty52 : chkTypes Tryz.prog ts52 = true := by kernel_rfl
theorem ev52  (k : Nat) (x : ((.cons (.slice .str) (.cons .str .nil)) : Tys).den) : evFun (mkEnv ts52 (fs52 )) H52 k body52 19 [.tmp 4] (explodes (.cons (.slice .str) (.cons .str .nil)) x) [] (dec (.cons (.int .i64) .nil)) = f52  k x.1 x.2.1 := by kernel_rfl
/-! ### jitney/base.Words -/
def f70 (g86 : ByteArray → ByteArray → Option ((List ByteArray) × Unit)) (k : Nat) (x0 : ByteArray) (x1 : Int) : Option ((List ByteArray) × Bool × Unit) :=
  Option.bind (g86 x0 (ByteArray.mk #[32])) fun v1 =>
  bif (((List.length v1.1 : Nat) : Int) != x1) then
    some ([], false, ())
  else
    Option.bind (α := ((List ByteArray) × Bool × Unit) ⊕ ((Unit) × (Unit))) (iter (σ := (Int × Unit) × (Unit)) (τ := ((List ByteArray) × Bool × Unit) ⊕ ((Unit) × (Unit))) k (fun y2 =>
        bif (decide (y2.1.1 < ((List.length v1.1 : Nat) : Int))) then
          bif (inR y2.1.1 ((List.length v1.1 : Nat) : Int)) then
            bif (sEq (rd (α := ByteArray) ByteArray.empty v1.1 y2.1.1) (ByteArray.mk #[])) then
              some (.inr (.inl ([], false, ())))
            else
              some (.inl (((IntKind.i64.wrap (y2.1.1 + (1 : Int))), ()), ()))
          else
            none
        else
          some (.inr (.inr ((), ())))) (((0 : Int), ()), ())) fun r => match r with
    | .inl z => some z
    | .inr z3 =>
      some (v1.1, true, ())
def H70 : Hints where
  loop := fun n => match n with
    | 0 => some ({ slots := [(17, (.int .i64))], objs := [], gone := [] }, 0, { slots := [], objs := [], gone := [] })
    | _ => none
  region := fun n => match n with
    | _ => none
  cond := fun n => match n with
    | _ => none
  block := fun n => match n with
    | _ => none
abbrev A70 : Tys := (.cons .str (.cons (.int .i64) .nil))
def ts70 : List (Nat × TD) := [(3, (.data (.int .i64))), (4, (.data .bool)), (9, (.data .str)), (69, (.data (.slice .str)))]
noncomputable def fs70 (g86 : ByteArray → ByteArray → Option ((List ByteArray) × Unit)) : List (Nat × FSem) := [(86, .pfn (.cons .str (.cons .str .nil)) (.cons (.slice .str) .nil) fun x => (g86 x.1 x.2.1))]
noncomputable def body70 : Code := match Tryz.f70.body with | some c => c | none => .skip
theorem ty70 : chkTypes Tryz.prog ts70 = true := by kernel_rfl
theorem ev70 (g86 : ByteArray → ByteArray → Option ((List ByteArray) × Unit)) (k : Nat) (x : ((.cons .str (.cons (.int .i64) .nil)) : Tys).den) : evFun (mkEnv ts70 (fs70 g86)) H70 k body70 25 [.tmp 4, .tmp 5] (explodes (.cons .str (.cons (.int .i64) .nil)) x) [] (dec (.cons (.slice .str) (.cons .bool .nil))) = f70 g86 k x.1 x.2.1 := by kernel_rfl
/-! ### internal/stringslite.HasPrefix -/
def f148  (k : Nat) (x0 : ByteArray) (x1 : ByteArray) : Option (Bool × Unit) :=
  bif (decide (((ByteArray.size x0 : Nat) : Int) ≥ ((ByteArray.size x1 : Nat) : Int))) then
    bif (decide (0 ≤ (0 : Int)) && (decide ((0 : Int) ≤ ((ByteArray.size x1 : Nat) : Int)) && decide (((ByteArray.size x1 : Nat) : Int) ≤ ((ByteArray.size x0 : Nat) : Int)))) then
      some ((sEq (ByteArray.extract x0 (Int.toNat (0 : Int)) (Int.toNat ((ByteArray.size x1 : Nat) : Int))) x1), ())
    else
      none
  else
    some (false, ())
def H148 : Hints where
  loop := fun n => match n with
    | _ => none
  region := fun n => match n with
    | _ => none
  cond := fun n => match n with
    | _ => none
  block := fun n => match n with
    | _ => none
abbrev A148 : Tys := (.cons .str (.cons .str .nil))
def ts148 : List (Nat × TD) := [(3, (.data (.int .i64))), (4, (.data .bool)), (9, (.data .str))]
noncomputable def fs148  : List (Nat × FSem) := []
noncomputable def body148 : Code := match Tryz.f148.body with | some c => c | none => .skip
theorem ty148 : chkTypes Tryz.prog ts148 = true := by kernel_rfl
theorem ev148  (k : Nat) (x : ((.cons .str (.cons .str .nil)) : Tys).den) : evFun (mkEnv ts148 (fs148 )) H148 k body148 18 [.tmp 4] (explodes (.cons .str (.cons .str .nil)) x) [] (dec (.cons .bool .nil)) = f148  k x.1 x.2.1 := by kernel_rfl
/-! ### internal/stringslite.TrimPrefix -/
def f119 (g148 : ByteArray → ByteArray → (Bool)) (k : Nat) (x0 : ByteArray) (x1 : ByteArray) : Option (ByteArray × Unit) :=
  bif (g148 x0 x1) then
    bif (decide (0 ≤ ((ByteArray.size x1 : Nat) : Int)) && (decide (((ByteArray.size x1 : Nat) : Int) ≤ ((ByteArray.size x0 : Nat) : Int)) && decide (((ByteArray.size x0 : Nat) : Int) ≤ ((ByteArray.size x0 : Nat) : Int)))) then
      some ((ByteArray.extract x0 (Int.toNat ((ByteArray.size x1 : Nat) : Int)) (Int.toNat ((ByteArray.size x0 : Nat) : Int))), ())
    else
      none
  else
    some (x0, ())
def H119 : Hints where
  loop := fun n => match n with
    | _ => none
  region := fun n => match n with
    | _ => none
  cond := fun n => match n with
    | _ => none
  block := fun n => match n with
    | _ => none
abbrev A119 : Tys := (.cons .str (.cons .str .nil))
def ts119 : List (Nat × TD) := [(9, (.data .str))]
noncomputable def fs119 (g148 : ByteArray → ByteArray → (Bool)) : List (Nat × FSem) := [(148, .fn (.cons .str (.cons .str .nil)) (.cons .bool .nil) fun x => ((g148 x.1 x.2.1), ()))]
noncomputable def body119 : Code := match Tryz.f119.body with | some c => c | none => .skip
theorem ty119 : chkTypes Tryz.prog ts119 = true := by kernel_rfl
theorem ev119 (g148 : ByteArray → ByteArray → (Bool)) (k : Nat) (x : ((.cons .str (.cons .str .nil)) : Tys).den) : evFun (mkEnv ts119 (fs119 g148)) H119 k body119 13 [.tmp 4] (explodes (.cons .str (.cons .str .nil)) x) [] (dec (.cons .str .nil)) = f119 g148 k x.1 x.2.1 := by kernel_rfl
/-! ### strings.TrimPrefix -/
def f88 (g119 : ByteArray → ByteArray → (ByteArray)) (k : Nat) (x0 : ByteArray) (x1 : ByteArray) : Option (ByteArray × Unit) :=
  some ((g119 x0 x1), ())
def H88 : Hints where
  loop := fun n => match n with
    | _ => none
  region := fun n => match n with
    | _ => none
  cond := fun n => match n with
    | _ => none
  block := fun n => match n with
    | _ => none
abbrev A88 : Tys := (.cons .str (.cons .str .nil))
def ts88 : List (Nat × TD) := [(9, (.data .str))]
noncomputable def fs88 (g119 : ByteArray → ByteArray → (ByteArray)) : List (Nat × FSem) := [(119, .fn (.cons .str (.cons .str .nil)) (.cons .str .nil) fun x => ((g119 x.1 x.2.1), ()))]
noncomputable def body88 : Code := match Tryz.f88.body with | some c => c | none => .skip
theorem ty88 : chkTypes Tryz.prog ts88 = true := by kernel_rfl
theorem ev88 (g119 : ByteArray → ByteArray → (ByteArray)) (k : Nat) (x : ((.cons .str (.cons .str .nil)) : Tys).den) : evFun (mkEnv ts88 (fs88 g119)) H88 k body88 8 [.tmp 4] (explodes (.cons .str (.cons .str .nil)) x) [] (dec (.cons .str .nil)) = f88 g119 k x.1 x.2.1 := by kernel_rfl
/-! ### jitney/base.Number -/
def f71 (g88 : ByteArray → ByteArray → (ByteArray)) (k : Nat) (x0 : ByteArray) (x1 : Int) : Option AT0 :=
  Option.bind (α := AT0 ⊕ ((Bool × Unit) × (Unit))) (
      bif (sEq (g88 x0 (ByteArray.mk #[45])) (ByteArray.mk #[])) then
        some (.inr ((true, ()), ()))
      else
        bif (decide (((ByteArray.size (g88 x0 (ByteArray.mk #[45])) : Nat) : Int) > x1)) then
          some (.inr ((true, ()), ()))
        else
          bif (inR (0 : Int) ((ByteArray.size (g88 x0 (ByteArray.mk #[45])) : Nat) : Int)) then
            bif ((bt (g88 x0 (ByteArray.mk #[45])) (0 : Int)) == (48 : Int)) then
              bif (decide (((ByteArray.size (g88 x0 (ByteArray.mk #[45])) : Nat) : Int) > (1 : Int))) then
                some (.inr ((true, ()), ()))
              else
                some (.inr (((decide (((ByteArray.size x0 : Nat) : Int) > ((ByteArray.size (g88 x0 (ByteArray.mk #[45])) : Nat) : Int))), ()), ()))
            else
              some (.inr ((false, ()), ()))
          else
            none) fun r => match r with
  | .inl z => some z
  | .inr y1 =>
    bif y1.1.1 then
      some zAT0
    else
      Option.bind (α := AT0 ⊕ ((Unit) × (Unit))) (iter (σ := (Int × Unit) × (Unit)) (τ := AT0 ⊕ ((Unit) × (Unit))) k (fun y2 =>
          bif (decide (y2.1.1 < ((ByteArray.size (g88 x0 (ByteArray.mk #[45])) : Nat) : Int))) then
            bif (inR y2.1.1 ((ByteArray.size (g88 x0 (ByteArray.mk #[45])) : Nat) : Int)) then
              bif (decide ((bt (g88 x0 (ByteArray.mk #[45])) y2.1.1) < (48 : Int))) then
                some (.inr (.inl zAT0))
              else
                bif (inR y2.1.1 ((ByteArray.size (g88 x0 (ByteArray.mk #[45])) : Nat) : Int)) then
                  bif (decide ((bt (g88 x0 (ByteArray.mk #[45])) y2.1.1) > (57 : Int))) then
                    some (.inr (.inl zAT0))
                  else
                    some (.inl (((IntKind.i64.wrap (y2.1.1 + (1 : Int))), ()), ()))
                else
                  none
            else
              none
          else
            some (.inr (.inr ((), ())))) (((0 : Int), ()), ())) fun r => match r with
      | .inl z => some z
      | .inr z3 =>
        bif (decide (ByteArray.size x0 ≤ 281474976710656)) then
          bif (aOk x0) then
            some ((aVal x0), true, ())
          else
            none
        else
          none
def H71 : Hints where
  loop := fun n => match n with
    | 0 => some ({ slots := [(39, (.int .i64))], objs := [], gone := [] }, 0, { slots := [], objs := [], gone := [] })
    | _ => none
  region := fun n => match n with
    | 2 => some { slots := [(36, .bool)], objs := [], gone := [] }
    | _ => none
  cond := fun n => match n with
    | _ => none
  block := fun n => match n with
    | _ => none
abbrev A71 : Tys := (.cons .str (.cons (.int .i64) .nil))
def ts71 : List (Nat × TD) := [(3, (.data (.int .i64))), (4, (.data .bool)), (5, (.data (.int .u8))), (9, (.data .str)), (77, (.cell .iface))]
noncomputable def fs71 (g88 : ByteArray → ByteArray → (ByteArray)) : List (Nat × FSem) := [(88, .fn (.cons .str (.cons .str .nil)) (.cons .str .nil) fun x => ((g88 x.1 x.2.1), ())), (89, .atoi)]
noncomputable def body71 : Code := match Tryz.f71.body with | some c => c | none => .skip
theorem ty71 : chkTypes Tryz.prog ts71 = true := by kernel_rfl
theorem ev71 (g88 : ByteArray → ByteArray → (ByteArray)) (k : Nat) (x : ((.cons .str (.cons (.int .i64) .nil)) : Tys).den) : evFun (mkEnv ts71 (fs71 g88)) H71 k body71 61 [.tmp 4, .tmp 5] (explodes (.cons .str (.cons (.int .i64) .nil)) x) [] (dec (.cons (.int .i64) (.cons .bool .nil))) = f71 g88 k x.1 x.2.1 := by kernel_rfl
/-! ### jitney/base.Numbers -/
def f84 (g71 : ByteArray → Int → Option AT0) (k : Nat) (x0 : List ByteArray) (x1 : Int) : Option ((List Int) × Bool × Unit) :=
  Option.bind (α := ((List Int) × Bool × Unit) ⊕ (((List Int) × Unit) × (Unit))) (iter (σ := ((List Int) × Int × Unit) × (Unit)) (τ := ((List Int) × Bool × Unit) ⊕ (((List Int) × Unit) × (Unit))) k (fun y1 =>
      bif (decide (y1.1.2.1 < ((List.length x0 : Nat) : Int))) then
        bif (inR y1.1.2.1 ((List.length x0 : Nat) : Int)) then
          Option.bind (g71 (rd (α := ByteArray) ByteArray.empty x0 y1.1.2.1) x1) fun v2 =>
          bif (!v2.2.1) then
            some (.inr (.inl ([], false, ())))
          else
            bif decide (List.length y1.1.1 + List.length ([v2.1]) ≤ 4294967296) then
              some (.inl (((y1.1.1 ++ [v2.1]), (IntKind.i64.wrap (y1.1.2.1 + (1 : Int))), ()), ()))
            else
              none
        else
          none
      else
        some (.inr (.inr ((y1.1.1, ()), ())))) (([], (0 : Int), ()), ())) fun r => match r with
  | .inl z => some z
  | .inr z3 =>
    some (z3.1.1, true, ())
def H84 : Hints where
  loop := fun n => match n with
    | 0 => some ({ slots := [(6, (.row (.int .i64))), (13, (.int .i64))], objs := [], gone := [] }, 0, { slots := [(6, (.row (.int .i64)))], objs := [], gone := [] })
    | _ => none
  region := fun n => match n with
    | _ => none
  cond := fun n => match n with
    | _ => none
  block := fun n => match n with
    | _ => none
abbrev A84 : Tys := (.cons (.slice .str) (.cons (.int .i64) .nil))
def ts84 : List (Nat × TD) := [(3, (.data (.int .i64))), (4, (.data .bool)), (9, (.data .str)), (69, (.data (.slice .str))), (91, (.data (.slice (.int .i64))))]
noncomputable def fs84 (g71 : ByteArray → Int → Option AT0) : List (Nat × FSem) := [(71, .pfn (.cons .str (.cons (.int .i64) .nil)) (.cons (.int .i64) (.cons .bool .nil)) fun x => (g71 x.1 x.2.1))]
noncomputable def body84 : Code := match Tryz.f84.body with | some c => c | none => .skip
theorem ty84 : chkTypes Tryz.prog ts84 = true := by kernel_rfl
theorem ev84 (g71 : ByteArray → Int → Option AT0) (k : Nat) (x : ((.cons (.slice .str) (.cons (.int .i64) .nil)) : Tys).den) : evFun (mkEnv ts84 (fs84 g71)) H84 k body84 31 [.tmp 4, .tmp 5] (explodes (.cons (.slice .str) (.cons (.int .i64) .nil)) x) [] (dec (.cons (.slice (.int .i64)) (.cons .bool .nil))) = f84 g71 k x.1 x.2.1 := by kernel_rfl
/-! ### jitney/request.readAsk -/
def f47 (g40 : (List ByteArray)) (g52 : (List ByteArray) → ByteArray → (Int)) (g70 : ByteArray → Int → Option ((List ByteArray) × Bool × Unit)) (g71 : ByteArray → Int → Option AT0) (g83 : ByteArray → ByteArray → Option (Int × Unit)) (g84 : (List ByteArray) → Int → Option ((List Int) × Bool × Unit)) (k : Nat) (x0 : ByteArray) : Option AT7 :=
  Option.bind (g83 x0 (ByteArray.mk #[32])) fun v1 =>
  Option.bind (g70 x0 (IntKind.i64.wrap (v1.1 + (1 : Int)))) fun v2 =>
  Option.bind (α := AT7 ⊕ ((Bool × Unit) × (Unit))) (
      bif (!v2.2.1) then
        some (.inr ((true, ()), ()))
      else
        bif (((List.length v2.1 : Nat) : Int) != (4 : Int)) then
          some (.inr (((((List.length v2.1 : Nat) : Int) != (10 : Int)), ()), ()))
        else
          some (.inr ((false, ()), ()))) fun r => match r with
  | .inl z => some z
  | .inr y3 =>
    bif y3.1.1 then
      some zAT7
    else
      bif (inR (0 : Int) ((List.length v2.1 : Nat) : Int)) then
        Option.bind (g71 (rd (α := ByteArray) ByteArray.empty v2.1 (0 : Int)) (15 : Int)) fun v4 =>
        bif (inR (1 : Int) ((List.length v2.1 : Nat) : Int)) then
          bif (inR (2 : Int) ((List.length v2.1 : Nat) : Int)) then
            bif (inR (3 : Int) ((List.length v2.1 : Nat) : Int)) then
              bif (!v4.2.1) then
                some zAT7
              else
                bif (decide ((g52 g40 (rd (α := ByteArray) ByteArray.empty v2.1 (1 : Int))) < (0 : Int))) then
                  some zAT7
                else
                  bif (!((decide ((IntKind.i64.wrap ((1 : Int) + (g52 g40 (rd (α := ByteArray) ByteArray.empty v2.1 (1 : Int))))) ≤ (2 : Int))) == (((List.length v2.1 : Nat) : Int) == (10 : Int)))) then
                    some zAT7
                  else
                    bif (((List.length v2.1 : Nat) : Int) == (10 : Int)) then
                      bif (decide (0 ≤ (6 : Int)) && (decide ((6 : Int) ≤ ((List.length v2.1 : Nat) : Int)) && decide (((List.length v2.1 : Nat) : Int) ≤ ((List.length v2.1 : Nat) : Int)))) then
                        Option.bind (g84 (List.drop (Int.toNat (6 : Int)) (List.take (Int.toNat ((List.length v2.1 : Nat) : Int)) v2.1)) (15 : Int)) fun v5 =>
                        bif (!v5.2.1) then
                          some zAT7
                        else
                          bif (inR (4 : Int) ((List.length v2.1 : Nat) : Int)) then
                            bif (inR (5 : Int) ((List.length v2.1 : Nat) : Int)) then
                              bif (inR (0 : Int) ((List.length v5.1 : Nat) : Int)) then
                                bif (inR (1 : Int) ((List.length v5.1 : Nat) : Int)) then
                                  bif (inR (2 : Int) ((List.length v5.1 : Nat) : Int)) then
                                    bif (inR (3 : Int) ((List.length v5.1 : Nat) : Int)) then
                                      some ((v4.1, (IntKind.i64.wrap ((1 : Int) + (g52 g40 (rd (α := ByteArray) ByteArray.empty v2.1 (1 : Int))))), ((rd (α := ByteArray) ByteArray.empty v2.1 (2 : Int)), (rd (α := ByteArray) ByteArray.empty v2.1 (3 : Int)), (rd (α := ByteArray) ByteArray.empty v2.1 (4 : Int)), (rd (α := ByteArray) ByteArray.empty v2.1 (5 : Int)), (rd (α := Int) (0 : Int) v5.1 (0 : Int)), (rd (α := Int) (0 : Int) v5.1 (1 : Int)), (rd (α := Int) (0 : Int) v5.1 (2 : Int)), (rd (α := Int) (0 : Int) v5.1 (3 : Int)), ()), ()), true, ())
                                    else
                                      none
                                  else
                                    none
                                else
                                  none
                              else
                                none
                            else
                              none
                          else
                            none
                      else
                        none
                    else
                      some ((v4.1, (IntKind.i64.wrap ((1 : Int) + (g52 g40 (rd (α := ByteArray) ByteArray.empty v2.1 (1 : Int))))), ((rd (α := ByteArray) ByteArray.empty v2.1 (2 : Int)), (rd (α := ByteArray) ByteArray.empty v2.1 (3 : Int)), ByteArray.empty, ByteArray.empty, (0 : Int), (0 : Int), (0 : Int), (0 : Int), ()), ()), true, ())
            else
              none
          else
            none
        else
          none
      else
        none
def H47 : Hints where
  loop := fun n => match n with
    | _ => none
  region := fun n => match n with
    | 2 => some { slots := [(31, .bool)], objs := [], gone := [] }
    | _ => none
  cond := fun n => match n with
    | _ => none
  block := fun n => match n with
    | _ => none
abbrev A47 : Tys := (.cons .str .nil)
def ts47 : List (Nat × TD) := [(3, (.data (.int .i64))), (4, (.data .bool)), (9, (.data .str)), (31, (.data AY0)), (33, (.data AY1)), (69, (.data (.slice .str))), (91, (.data (.slice (.int .i64))))]
noncomputable def fs47 (g40 : (List ByteArray)) (g52 : (List ByteArray) → ByteArray → (Int)) (g70 : ByteArray → Int → Option ((List ByteArray) × Bool × Unit)) (g71 : ByteArray → Int → Option AT0) (g83 : ByteArray → ByteArray → Option (Int × Unit)) (g84 : (List ByteArray) → Int → Option ((List Int) × Bool × Unit)) : List (Nat × FSem) := [(40, .fn .nil (.cons (.slice .str) .nil) fun x => (g40, ())), (52, .fn (.cons (.slice .str) (.cons .str .nil)) (.cons (.int .i64) .nil) fun x => ((g52 x.1 x.2.1), ())), (70, .pfn (.cons .str (.cons (.int .i64) .nil)) (.cons (.slice .str) (.cons .bool .nil)) fun x => (g70 x.1 x.2.1)), (71, .pfn (.cons .str (.cons (.int .i64) .nil)) (.cons (.int .i64) (.cons .bool .nil)) fun x => (g71 x.1 x.2.1)), (83, .pfn (.cons .str (.cons .str .nil)) (.cons (.int .i64) .nil) fun x => (g83 x.1 x.2.1)), (84, .pfn (.cons (.slice .str) (.cons (.int .i64) .nil)) (.cons (.slice (.int .i64)) (.cons .bool .nil)) fun x => (g84 x.1 x.2.1))]
noncomputable def body47 : Code := match Tryz.f47.body with | some c => c | none => .skip
theorem ty47 : chkTypes Tryz.prog ts47 = true := by kernel_rfl
theorem ev47 (g40 : (List ByteArray)) (g52 : (List ByteArray) → ByteArray → (Int)) (g70 : ByteArray → Int → Option ((List ByteArray) × Bool × Unit)) (g71 : ByteArray → Int → Option AT0) (g83 : ByteArray → ByteArray → Option (Int × Unit)) (g84 : (List ByteArray) → Int → Option ((List Int) × Bool × Unit)) (k : Nat) (x : ((.cons .str .nil) : Tys).den) : evFun (mkEnv ts47 (fs47 g40 g52 g70 g71 g83 g84)) H47 k body47 122 [.cell 2 33, .tmp 3] (explodes (.cons .str .nil) x) [] (dec (.cons AY1 (.cons .bool .nil))) = f47 g40 g52 g70 g71 g83 g84 k x.1 := by kernel_rfl
/-! ### internal/stringslite.HasSuffix -/
def f172  (k : Nat) (x0 : ByteArray) (x1 : ByteArray) : Option (Bool × Unit) :=
  bif (decide (((ByteArray.size x0 : Nat) : Int) ≥ ((ByteArray.size x1 : Nat) : Int))) then
    bif (decide (0 ≤ (IntKind.i64.wrap (((ByteArray.size x0 : Nat) : Int) - ((ByteArray.size x1 : Nat) : Int)))) && (decide ((IntKind.i64.wrap (((ByteArray.size x0 : Nat) : Int) - ((ByteArray.size x1 : Nat) : Int))) ≤ ((ByteArray.size x0 : Nat) : Int)) && decide (((ByteArray.size x0 : Nat) : Int) ≤ ((ByteArray.size x0 : Nat) : Int)))) then
      some ((sEq (ByteArray.extract x0 (Int.toNat (IntKind.i64.wrap (((ByteArray.size x0 : Nat) : Int) - ((ByteArray.size x1 : Nat) : Int)))) (Int.toNat ((ByteArray.size x0 : Nat) : Int))) x1), ())
    else
      none
  else
    some (false, ())
def H172 : Hints where
  loop := fun n => match n with
    | _ => none
  region := fun n => match n with
    | _ => none
  cond := fun n => match n with
    | _ => none
  block := fun n => match n with
    | _ => none
abbrev A172 : Tys := (.cons .str (.cons .str .nil))
def ts172 : List (Nat × TD) := [(3, (.data (.int .i64))), (4, (.data .bool)), (9, (.data .str))]
noncomputable def fs172  : List (Nat × FSem) := []
noncomputable def body172 : Code := match Tryz.f172.body with | some c => c | none => .skip
theorem ty172 : chkTypes Tryz.prog ts172 = true := by kernel_rfl
theorem ev172  (k : Nat) (x : ((.cons .str (.cons .str .nil)) : Tys).den) : evFun (mkEnv ts172 (fs172 )) H172 k body172 21 [.tmp 4] (explodes (.cons .str (.cons .str .nil)) x) [] (dec (.cons .bool .nil)) = f172  k x.1 x.2.1 := by kernel_rfl
/-! ### internal/stringslite.CutSuffix -/
def f145 (g172 : ByteArray → ByteArray → (Bool)) (k : Nat) (x0 : ByteArray) (x1 : ByteArray) : Option AT2 :=
  bif (!(g172 x0 x1)) then
    some (x0, false, ())
  else
    bif (decide (0 ≤ (0 : Int)) && (decide ((0 : Int) ≤ (IntKind.i64.wrap (((ByteArray.size x0 : Nat) : Int) - ((ByteArray.size x1 : Nat) : Int)))) && decide ((IntKind.i64.wrap (((ByteArray.size x0 : Nat) : Int) - ((ByteArray.size x1 : Nat) : Int))) ≤ ((ByteArray.size x0 : Nat) : Int)))) then
      some ((ByteArray.extract x0 (Int.toNat (0 : Int)) (Int.toNat (IntKind.i64.wrap (((ByteArray.size x0 : Nat) : Int) - ((ByteArray.size x1 : Nat) : Int))))), true, ())
    else
      none
def H145 : Hints where
  loop := fun n => match n with
    | _ => none
  region := fun n => match n with
    | _ => none
  cond := fun n => match n with
    | _ => none
  block := fun n => match n with
    | _ => none
abbrev A145 : Tys := (.cons .str (.cons .str .nil))
def ts145 : List (Nat × TD) := [(3, (.data (.int .i64))), (4, (.data .bool)), (9, (.data .str))]
noncomputable def fs145 (g172 : ByteArray → ByteArray → (Bool)) : List (Nat × FSem) := [(172, .fn (.cons .str (.cons .str .nil)) (.cons .bool .nil) fun x => ((g172 x.1 x.2.1), ()))]
noncomputable def body145 : Code := match Tryz.f145.body with | some c => c | none => .skip
theorem ty145 : chkTypes Tryz.prog ts145 = true := by kernel_rfl
theorem ev145 (g172 : ByteArray → ByteArray → (Bool)) (k : Nat) (x : ((.cons .str (.cons .str .nil)) : Tys).den) : evFun (mkEnv ts145 (fs145 g172)) H145 k body145 18 [.tmp 4, .tmp 5] (explodes (.cons .str (.cons .str .nil)) x) [] (dec (.cons .str (.cons .bool .nil))) = f145 g172 k x.1 x.2.1 := by kernel_rfl
/-! ### strings.CutSuffix -/
def f113 (g145 : ByteArray → ByteArray → AT2) (k : Nat) (x0 : ByteArray) (x1 : ByteArray) : Option AT2 :=
  some ((g145 x0 x1).1, (g145 x0 x1).2.1, ())
def H113 : Hints where
  loop := fun n => match n with
    | _ => none
  region := fun n => match n with
    | _ => none
  cond := fun n => match n with
    | _ => none
  block := fun n => match n with
    | _ => none
abbrev A113 : Tys := (.cons .str (.cons .str .nil))
def ts113 : List (Nat × TD) := [(4, (.data .bool)), (9, (.data .str))]
noncomputable def fs113 (g145 : ByteArray → ByteArray → AT2) : List (Nat × FSem) := [(145, .fn (.cons .str (.cons .str .nil)) (.cons .str (.cons .bool .nil)) fun x => (g145 x.1 x.2.1))]
noncomputable def body113 : Code := match Tryz.f113.body with | some c => c | none => .skip
theorem ty113 : chkTypes Tryz.prog ts113 = true := by kernel_rfl
theorem ev113 (g145 : ByteArray → ByteArray → AT2) (k : Nat) (x : ((.cons .str (.cons .str .nil)) : Tys).den) : evFun (mkEnv ts113 (fs113 g145)) H113 k body113 11 [.tmp 4, .tmp 5] (explodes (.cons .str (.cons .str .nil)) x) [] (dec (.cons .str (.cons .bool .nil))) = f113 g145 k x.1 x.2.1 := by kernel_rfl
/-! ### jitney/base.Lines -/
def f82 (g86 : ByteArray → ByteArray → Option ((List ByteArray) × Unit)) (g113 : ByteArray → ByteArray → AT2) (k : Nat) (x0 : ByteArray) : Option ((List ByteArray) × Bool × Unit) :=
  bif (sEq x0 (ByteArray.mk #[])) then
    some ([], true, ())
  else
    Option.bind (g86 ((g113 x0 (ByteArray.mk #[10])).1) (ByteArray.mk #[10])) fun v1 =>
    some (v1.1, (g113 x0 (ByteArray.mk #[10])).2.1, ())
def H82 : Hints where
  loop := fun n => match n with
    | _ => none
  region := fun n => match n with
    | _ => none
  cond := fun n => match n with
    | _ => none
  block := fun n => match n with
    | _ => none
abbrev A82 : Tys := (.cons .str .nil)
def ts82 : List (Nat × TD) := [(4, (.data .bool)), (9, (.data .str)), (69, (.data (.slice .str)))]
noncomputable def fs82 (g86 : ByteArray → ByteArray → Option ((List ByteArray) × Unit)) (g113 : ByteArray → ByteArray → AT2) : List (Nat × FSem) := [(86, .pfn (.cons .str (.cons .str .nil)) (.cons (.slice .str) .nil) fun x => (g86 x.1 x.2.1)), (113, .fn (.cons .str (.cons .str .nil)) (.cons .str (.cons .bool .nil)) fun x => (g113 x.1 x.2.1))]
noncomputable def body82 : Code := match Tryz.f82.body with | some c => c | none => .skip
theorem ty82 : chkTypes Tryz.prog ts82 = true := by kernel_rfl
theorem ev82 (g86 : ByteArray → ByteArray → Option ((List ByteArray) × Unit)) (g113 : ByteArray → ByteArray → AT2) (k : Nat) (x : ((.cons .str .nil) : Tys).den) : evFun (mkEnv ts82 (fs82 g86 g113)) H82 k body82 15 [.tmp 2, .tmp 3] (explodes (.cons .str .nil) x) [] (dec (.cons (.slice .str) (.cons .bool .nil))) = f82 g86 g113 k x.1 := by kernel_rfl
/-! ### jitney/request.Read -/
def f11 (g38 : (List AT6) → (Int)) (g47 : ByteArray → Option AT7) (g82 : ByteArray → Option ((List ByteArray) × Bool × Unit)) (k : Nat) (x0 : ByteArray) : Option ((List AT6) × Int × Int × Unit) :=
  bif (decide (((ByteArray.size x0 : Nat) : Int) > (200000 : Int))) then
    some ([], (0 : Int), (2 : Int), ())
  else
    Option.bind (α := ((List AT6) × Int × Int × Unit) ⊕ (AT0 × ((List AT6) × Unit))) (
        Option.bind (g82 x0) fun v1 =>
        Option.bind (α := (((List AT6) × Int × Int × Unit) ⊕ (AT0 × ((List AT6) × Unit))) ⊕ ((Unit) × ((List AT6) × Unit))) (iter (σ := (Int × Unit) × ((List AT6) × Unit)) (τ := (((List AT6) × Int × Int × Unit) ⊕ (AT0 × ((List AT6) × Unit))) ⊕ ((Unit) × ((List AT6) × Unit))) k (fun y2 =>
            bif (decide (y2.1.1 < ((List.length v1.1 : Nat) : Int))) then
              bif (inR y2.1.1 ((List.length v1.1 : Nat) : Int)) then
                bif (!v1.2.1) then
                  bif (y2.1.1 == (IntKind.i64.wrap (((List.length v1.1 : Nat) : Int) - (1 : Int)))) then
                    some (.inr (.inl (.inr ((y2.1.1, false, ()), (y2.2.1, ())))))
                  else
                    Option.bind (g47 (rd (α := ByteArray) ByteArray.empty v1.1 y2.1.1)) fun v3 =>
                    bif decide (List.length y2.2.1 + List.length ([v3.1]) ≤ 4294967296) then
                      bif (!v3.2.1) then
                        some (.inr (.inl (.inr ((y2.1.1, false, ()), ((y2.2.1 ++ [v3.1]), ())))))
                      else
                        some (.inl (((IntKind.i64.wrap (y2.1.1 + (1 : Int))), ()), ((y2.2.1 ++ [v3.1]), ())))
                    else
                      none
                else
                  Option.bind (g47 (rd (α := ByteArray) ByteArray.empty v1.1 y2.1.1)) fun v4 =>
                  bif decide (List.length y2.2.1 + List.length ([v4.1]) ≤ 4294967296) then
                    bif (!v4.2.1) then
                      some (.inr (.inl (.inr ((y2.1.1, false, ()), ((y2.2.1 ++ [v4.1]), ())))))
                    else
                      some (.inl (((IntKind.i64.wrap (y2.1.1 + (1 : Int))), ()), ((y2.2.1 ++ [v4.1]), ())))
                  else
                    none
              else
                none
            else
              some (.inr (.inr ((), (y2.2.1, ()))))) (((0 : Int), ()), ([], ()))) fun r => match r with
        | .inl z => some z
        | .inr z5 =>
          some (.inr (((0 : Int), true, ()), (z5.2.1, ())))) fun r => match r with
    | .inl z => some z
    | .inr y6 =>
      bif (!y6.1.2.1) then
        some ([], y6.1.1, (9 : Int), ())
      else
        bif ((g38 y6.2.1) != (0 : Int)) then
          some ([], (0 : Int), (g38 y6.2.1), ())
        else
          some (y6.2.1, (0 : Int), (0 : Int), ())
def H11 : Hints where
  loop := fun n => match n with
    | _ => none
  region := fun n => match n with
    | 4 => some { slots := [(6, (.int .i64)), (7, .bool)], objs := [(0, (.box (.data (.slice AY1)) (.row AY1)))], gone := [] }
    | _ => none
  cond := fun n => match n with
    | _ => none
  block := fun n => match n with
    | _ => none
def Hi11_46 : Hints where
  loop := fun n => match n with
    | _ => none
  region := fun n => match n with
    | _ => none
  cond := fun n => match n with
    | _ => none
  block := fun n => match n with
    | _ => none
def tsi11_46 : List (Nat × TD) := [(22, (.data (.slice AY1))), (33, (.data AY1))]
noncomputable def bodyi11_46 : Code := match Tryz.f46.body with | some c => c | none => .skip
noncomputable def fsi11_46 (g38 : (List AT6) → (Int)) (g47 : ByteArray → Option AT7) (g82 : ByteArray → Option ((List ByteArray) × Bool × Unit)) (k : Nat) : List (Nat × FSem) := [(47, .pfn (.cons .str .nil) (.cons AY1 (.cons .bool .nil)) fun x => (g47 x.1))]
theorem tyi11_46 : chkTypes Tryz.prog tsi11_46 = true := by kernel_rfl
def Hi11_45 : Hints where
  loop := fun n => match n with
    | 0 => some ({ slots := [(17, (.int .i64))], objs := [(0, (.box (.data (.slice AY1)) (.row AY1)))], gone := [] }, 0, { slots := [], objs := [(0, (.box (.data (.slice AY1)) (.row AY1)))], gone := [] })
    | _ => none
  region := fun n => match n with
    | _ => none
  cond := fun n => match n with
    | _ => none
  block := fun n => match n with
    | _ => none
def tsi11_45 : List (Nat × TD) := [(3, (.data (.int .i64))), (9, (.data .str)), (69, (.data (.slice .str)))]
noncomputable def bodyi11_45 : Code := match Tryz.f45.body with | some c => c | none => .skip
noncomputable def fsi11_45 (g38 : (List AT6) → (Int)) (g47 : ByteArray → Option AT7) (g82 : ByteArray → Option ((List ByteArray) × Bool × Unit)) (k : Nat) : List (Nat × FSem) := [(46, .ev (mkEnv tsi11_46 (fsi11_46 g38 g47 g82 k)) Hi11_46 k bodyi11_46 16 [.tmp 3]), (82, .pfn (.cons .str .nil) (.cons (.slice .str) (.cons .bool .nil)) fun x => (g82 x.1))]
theorem tyi11_45 : chkTypes Tryz.prog tsi11_45 = true := by kernel_rfl
abbrev A11 : Tys := (.cons .str .nil)
def ts11 : List (Nat × TD) := [(3, (.data (.int .i64))), (9, (.data .str)), (22, (.data (.slice AY1))), (23, (.data (.int .i64)))]
noncomputable def fs11 (g38 : (List AT6) → (Int)) (g47 : ByteArray → Option AT7) (g82 : ByteArray → Option ((List ByteArray) × Bool × Unit)) (k : Nat) : List (Nat × FSem) := [(38, .fn (.cons (.slice AY1) .nil) (.cons (.int .i64) .nil) fun x => ((g38 x.1), ())), (45, .ev (mkEnv tsi11_45 (fsi11_45 g38 g47 g82 k)) Hi11_45 k bodyi11_45 39 [.tmp 4, .tmp 5])]
noncomputable def body11 : Code := match Tryz.f11.body with | some c => c | none => .skip
theorem ty11 : chkTypes Tryz.prog ts11 = true := by kernel_rfl
theorem ev11 (g38 : (List AT6) → (Int)) (g47 : ByteArray → Option AT7) (g82 : ByteArray → Option ((List ByteArray) × Bool × Unit)) (k : Nat) (x : ((.cons .str .nil) : Tys).den) : evFun (mkEnv ts11 (fs11 g38 g47 g82 k)) H11 k body11 27 [.tmp 2, .tmp 3, .tmp 4] (explodes (.cons .str .nil) x) [] (dec (.cons (.slice AY1) (.cons (.int .i64) (.cons (.int .i64) .nil)))) = f11 g38 g47 g82 k x.1 := by kernel_rfl
/-! ### slices.Contains[[]string,string] -/
def f87 (g52 : (List ByteArray) → ByteArray → (Int)) (k : Nat) (x0 : List ByteArray) (x1 : ByteArray) : Option (Bool × Unit) :=
  some ((decide ((g52 x0 x1) ≥ (0 : Int))), ())
def H87 : Hints where
  loop := fun n => match n with
    | _ => none
  region := fun n => match n with
    | _ => none
  cond := fun n => match n with
    | _ => none
  block := fun n => match n with
    | _ => none
abbrev A87 : Tys := (.cons (.slice .str) (.cons .str .nil))
def ts87 : List (Nat × TD) := [(3, (.data (.int .i64))), (4, (.data .bool)), (9, (.data .str)), (69, (.data (.slice .str)))]
noncomputable def fs87 (g52 : (List ByteArray) → ByteArray → (Int)) : List (Nat × FSem) := [(52, .fn (.cons (.slice .str) (.cons .str .nil)) (.cons (.int .i64) .nil) fun x => ((g52 x.1 x.2.1), ()))]
noncomputable def body87 : Code := match Tryz.f87.body with | some c => c | none => .skip
theorem ty87 : chkTypes Tryz.prog ts87 = true := by kernel_rfl
theorem ev87 (g52 : (List ByteArray) → ByteArray → (Int)) (k : Nat) (x : ((.cons (.slice .str) (.cons .str .nil)) : Tys).den) : evFun (mkEnv ts87 (fs87 g52)) H87 k body87 9 [.tmp 4] (explodes (.cons (.slice .str) (.cons .str .nil)) x) [] (dec (.cons .bool .nil)) = f87 g52 k x.1 x.2.1 := by kernel_rfl
/-! ### jitney/jitref2.Words -/
def f50 (g86 : ByteArray → ByteArray → Option ((List ByteArray) × Unit)) (g87 : (List ByteArray) → ByteArray → (Bool)) (k : Nat) (x0 : ByteArray) : Option ((List ByteArray) × Bool × Unit) :=
  Option.bind (g86 x0 (ByteArray.mk #[32])) fun v1 =>
  some (v1.1, (!(g87 v1.1 (ByteArray.mk #[]))), ())
def H50 : Hints where
  loop := fun n => match n with
    | _ => none
  region := fun n => match n with
    | _ => none
  cond := fun n => match n with
    | _ => none
  block := fun n => match n with
    | _ => none
abbrev A50 : Tys := (.cons .str .nil)
def ts50 : List (Nat × TD) := [(4, (.data .bool)), (9, (.data .str)), (69, (.data (.slice .str)))]
noncomputable def fs50 (g86 : ByteArray → ByteArray → Option ((List ByteArray) × Unit)) (g87 : (List ByteArray) → ByteArray → (Bool)) : List (Nat × FSem) := [(86, .pfn (.cons .str (.cons .str .nil)) (.cons (.slice .str) .nil) fun x => (g86 x.1 x.2.1)), (87, .fn (.cons (.slice .str) (.cons .str .nil)) (.cons .bool .nil) fun x => ((g87 x.1 x.2.1), ()))]
noncomputable def body50 : Code := match Tryz.f50.body with | some c => c | none => .skip
theorem ty50 : chkTypes Tryz.prog ts50 = true := by kernel_rfl
theorem ev50 (g86 : ByteArray → ByteArray → Option ((List ByteArray) × Unit)) (g87 : (List ByteArray) → ByteArray → (Bool)) (k : Nat) (x : ((.cons .str .nil) : Tys).den) : evFun (mkEnv ts50 (fs50 g86 g87)) H50 k body50 11 [.tmp 2, .tmp 3] (explodes (.cons .str .nil) x) [] (dec (.cons (.slice .str) (.cons .bool .nil))) = f50 g86 g87 k x.1 := by kernel_rfl
/-! ### jitney/jitref2.Number -/
def f51 (g39 : Int → Option (ByteArray × Unit)) (g74 : ByteArray → ByteArray → (Bool)) (g88 : ByteArray → ByteArray → (ByteArray)) (k : Nat) (x0 : ByteArray) (x1 : Int) : Option AT0 :=
  bif (sEq (g88 x0 (ByteArray.mk #[45])) (ByteArray.mk #[])) then
    some zAT0
  else
    bif (decide (((ByteArray.size (g88 x0 (ByteArray.mk #[45])) : Nat) : Int) > x1)) then
      some zAT0
    else
      bif (!(g74 (g88 x0 (ByteArray.mk #[45])) (ByteArray.mk #[48, 49, 50, 51, 52, 53, 54, 55, 56, 57]))) then
        some zAT0
      else
        bif (decide (ByteArray.size x0 ≤ 281474976710656)) then
          bif (aOk x0) then
            Option.bind (g39 (aVal x0)) fun v1 =>
            some ((aVal x0), (sEq v1.1 x0), ())
          else
            none
        else
          none
def H51 : Hints where
  loop := fun n => match n with
    | _ => none
  region := fun n => match n with
    | _ => none
  cond := fun n => match n with
    | _ => none
  block := fun n => match n with
    | _ => none
abbrev A51 : Tys := (.cons .str (.cons (.int .i64) .nil))
def ts51 : List (Nat × TD) := [(3, (.data (.int .i64))), (4, (.data .bool)), (9, (.data .str)), (77, (.cell .iface))]
noncomputable def fs51 (g39 : Int → Option (ByteArray × Unit)) (g74 : ByteArray → ByteArray → (Bool)) (g88 : ByteArray → ByteArray → (ByteArray)) : List (Nat × FSem) := [(39, .pfn (.cons (.int .i64) .nil) (.cons .str .nil) fun x => (g39 x.1)), (74, .fn (.cons .str (.cons .str .nil)) (.cons .bool .nil) fun x => ((g74 x.1 x.2.1), ())), (88, .fn (.cons .str (.cons .str .nil)) (.cons .str .nil) fun x => ((g88 x.1 x.2.1), ())), (89, .atoi)]
noncomputable def body51 : Code := match Tryz.f51.body with | some c => c | none => .skip
theorem ty51 : chkTypes Tryz.prog ts51 = true := by kernel_rfl
theorem ev51 (g39 : Int → Option (ByteArray × Unit)) (g74 : ByteArray → ByteArray → (Bool)) (g88 : ByteArray → ByteArray → (ByteArray)) (k : Nat) (x : ((.cons .str (.cons (.int .i64) .nil)) : Tys).den) : evFun (mkEnv ts51 (fs51 g39 g74 g88)) H51 k body51 38 [.tmp 4, .tmp 5] (explodes (.cons .str (.cons (.int .i64) .nil)) x) [] (dec (.cons (.int .i64) (.cons .bool .nil))) = f51 g39 g74 g88 k x.1 x.2.1 := by kernel_rfl
/-! ### jitney/jitref2.numbersIn -/
def f53 (g51 : ByteArray → Int → Option AT0) (k : Nat) (x0 : List ByteArray) (x1 : Int) : Option ((List Int) × Bool × Unit) :=
  Option.bind (α := ((List Int) × Bool × Unit) ⊕ (((List Int) × Bool × Unit) × (Unit))) (iter (σ := ((List Int) × Bool × Int × Unit) × (Unit)) (τ := ((List Int) × Bool × Unit) ⊕ (((List Int) × Bool × Unit) × (Unit))) k (fun y1 =>
      bif (decide (y1.1.2.2.1 < ((List.length x0 : Nat) : Int))) then
        bif (inR y1.1.2.2.1 ((List.length x0 : Nat) : Int)) then
          Option.bind (g51 (rd (α := ByteArray) ByteArray.empty x0 y1.1.2.2.1) x1) fun v2 =>
          bif decide (List.length y1.1.1 + List.length ([v2.1]) ≤ 4294967296) then
            bif y1.1.2.1 then
              some (.inl (((y1.1.1 ++ [v2.1]), v2.2.1, (IntKind.i64.wrap (y1.1.2.2.1 + (1 : Int))), ()), ()))
            else
              some (.inl (((y1.1.1 ++ [v2.1]), false, (IntKind.i64.wrap (y1.1.2.2.1 + (1 : Int))), ()), ()))
          else
            none
        else
          none
      else
        some (.inr (.inr ((y1.1.1, y1.1.2.1, ()), ())))) (([], true, (0 : Int), ()), ())) fun r => match r with
  | .inl z => some z
  | .inr z3 =>
    some (z3.1.1, z3.1.2.1, ())
def H53 : Hints where
  loop := fun n => match n with
    | 0 => some ({ slots := [(6, (.row (.int .i64))), (7, .bool), (14, (.int .i64))], objs := [], gone := [] }, 0, { slots := [(6, (.row (.int .i64))), (7, .bool)], objs := [], gone := [] })
    | _ => none
  region := fun n => match n with
    | _ => none
  cond := fun n => match n with
    | _ => none
  block := fun n => match n with
    | _ => none
abbrev A53 : Tys := (.cons (.slice .str) (.cons (.int .i64) .nil))
def ts53 : List (Nat × TD) := [(3, (.data (.int .i64))), (4, (.data .bool)), (9, (.data .str)), (69, (.data (.slice .str))), (91, (.data (.slice (.int .i64))))]
noncomputable def fs53 (g51 : ByteArray → Int → Option AT0) : List (Nat × FSem) := [(51, .pfn (.cons .str (.cons (.int .i64) .nil)) (.cons (.int .i64) (.cons .bool .nil)) fun x => (g51 x.1 x.2.1))]
noncomputable def body53 : Code := match Tryz.f53.body with | some c => c | none => .skip
theorem ty53 : chkTypes Tryz.prog ts53 = true := by kernel_rfl
theorem ev53 (g51 : ByteArray → Int → Option AT0) (k : Nat) (x : ((.cons (.slice .str) (.cons (.int .i64) .nil)) : Tys).den) : evFun (mkEnv ts53 (fs53 g51)) H53 k body53 35 [.tmp 4, .tmp 5] (explodes (.cons (.slice .str) (.cons (.int .i64) .nil)) x) [] (dec (.cons (.slice (.int .i64)) (.cons .bool .nil))) = f53 g51 k x.1 x.2.1 := by kernel_rfl
/-! ### jitney/jitref2.AsksRead -/
def f12 (g6 : (List AT6) → (Int)) (g37 : (List ByteArray)) (g50 : ByteArray → Option ((List ByteArray) × Bool × Unit)) (g51 : ByteArray → Int → Option AT0) (g52 : (List ByteArray) → ByteArray → (Int)) (g53 : (List ByteArray) → Int → Option ((List Int) × Bool × Unit)) (g85 : ByteArray → ByteArray → Option AT4) (k : Nat) (x0 : ByteArray) : Option ((List AT6) × Int × Int × Unit) :=
  bif (decide (((ByteArray.size x0 : Nat) : Int) > (200000 : Int))) then
    some ([], (0 : Int), (2 : Int), ())
  else
    Option.bind (α := ((List AT6) × Int × Int × Unit) ⊕ (AT0 × ((List AT6) × Unit))) (
        Option.bind (α := (((List AT6) × Int × Int × Unit) ⊕ (AT0 × ((List AT6) × Unit))) ⊕ ((Unit) × ((List AT6) × Unit))) (iter (σ := AT1 × ((List AT6) × Unit)) (τ := (((List AT6) × Int × Int × Unit) ⊕ (AT0 × ((List AT6) × Unit))) ⊕ ((Unit) × ((List AT6) × Unit))) k (fun y1 =>
            bif (!(sEq y1.1.1 (ByteArray.mk #[]))) then
              Option.bind (g85 y1.1.1 (ByteArray.mk #[10])) fun v2 =>
              Option.bind (α := ((AT1 × ((List AT6) × Unit)) ⊕ ((((List AT6) × Int × Int × Unit) ⊕ (AT0 × ((List AT6) × Unit))) ⊕ ((Unit) × ((List AT6) × Unit)))) ⊕ ((Bool × Unit) × ((List AT6) × Unit))) (
                  bif (!v2.2.2.1) then
                    some (.inr ((true, ()), (y1.2.1, ())))
                  else
                    Option.bind (g50 v2.1) fun v3 =>
                    bif (!v3.2.1) then
                      some (.inr ((true, ()), (y1.2.1, ())))
                    else
                      bif (decide (((List.length v3.1 : Nat) : Int) < (4 : Int))) then
                        some (.inr ((true, ()), (y1.2.1, ())))
                      else
                        bif (inR (0 : Int) ((List.length v3.1 : Nat) : Int)) then
                          Option.bind (g51 (rd (α := ByteArray) ByteArray.empty v3.1 (0 : Int)) (15 : Int)) fun v4 =>
                          bif (inR (1 : Int) ((List.length v3.1 : Nat) : Int)) then
                            bif (inR (2 : Int) ((List.length v3.1 : Nat) : Int)) then
                              bif (inR (3 : Int) ((List.length v3.1 : Nat) : Int)) then
                                bif (decide ((g52 g37 (rd (α := ByteArray) ByteArray.empty v3.1 (1 : Int))) < (1 : Int))) then
                                  some (.inr ((true, ()), (y1.2.1, ())))
                                else
                                  bif (decide ((g52 g37 (rd (α := ByteArray) ByteArray.empty v3.1 (1 : Int))) > (2 : Int))) then
                                    bif decide (List.length y1.2.1 + List.length ([(v4.1, (g52 g37 (rd (α := ByteArray) ByteArray.empty v3.1 (1 : Int))), ((rd (α := ByteArray) ByteArray.empty v3.1 (2 : Int)), (rd (α := ByteArray) ByteArray.empty v3.1 (3 : Int)), ByteArray.empty, ByteArray.empty, (0 : Int), (0 : Int), (0 : Int), (0 : Int), ()), ())]) ≤ 4294967296) then
                                      bif v4.2.1 then
                                        some (.inr (((!(((List.length v3.1 : Nat) : Int) == (4 : Int))), ()), ((y1.2.1 ++ [(v4.1, (g52 g37 (rd (α := ByteArray) ByteArray.empty v3.1 (1 : Int))), ((rd (α := ByteArray) ByteArray.empty v3.1 (2 : Int)), (rd (α := ByteArray) ByteArray.empty v3.1 (3 : Int)), ByteArray.empty, ByteArray.empty, (0 : Int), (0 : Int), (0 : Int), (0 : Int), ()), ())]), ())))
                                      else
                                        some (.inr ((true, ()), ((y1.2.1 ++ [(v4.1, (g52 g37 (rd (α := ByteArray) ByteArray.empty v3.1 (1 : Int))), ((rd (α := ByteArray) ByteArray.empty v3.1 (2 : Int)), (rd (α := ByteArray) ByteArray.empty v3.1 (3 : Int)), ByteArray.empty, ByteArray.empty, (0 : Int), (0 : Int), (0 : Int), (0 : Int), ()), ())]), ())))
                                    else
                                      none
                                  else
                                    bif (((List.length v3.1 : Nat) : Int) != (10 : Int)) then
                                      some (.inr ((true, ()), (y1.2.1, ())))
                                    else
                                      bif (decide (0 ≤ (6 : Int)) && (decide ((6 : Int) ≤ ((List.length v3.1 : Nat) : Int)) && decide (((List.length v3.1 : Nat) : Int) ≤ ((List.length v3.1 : Nat) : Int)))) then
                                        Option.bind (g53 (List.drop (Int.toNat (6 : Int)) (List.take (Int.toNat ((List.length v3.1 : Nat) : Int)) v3.1)) (15 : Int)) fun v5 =>
                                        bif (inR (4 : Int) ((List.length v3.1 : Nat) : Int)) then
                                          bif (inR (5 : Int) ((List.length v3.1 : Nat) : Int)) then
                                            bif (inR (0 : Int) ((List.length v5.1 : Nat) : Int)) then
                                              bif (inR (1 : Int) ((List.length v5.1 : Nat) : Int)) then
                                                bif (inR (2 : Int) ((List.length v5.1 : Nat) : Int)) then
                                                  bif (inR (3 : Int) ((List.length v5.1 : Nat) : Int)) then
                                                    bif decide (List.length y1.2.1 + List.length ([(v4.1, (g52 g37 (rd (α := ByteArray) ByteArray.empty v3.1 (1 : Int))), ((rd (α := ByteArray) ByteArray.empty v3.1 (2 : Int)), (rd (α := ByteArray) ByteArray.empty v3.1 (3 : Int)), (rd (α := ByteArray) ByteArray.empty v3.1 (4 : Int)), (rd (α := ByteArray) ByteArray.empty v3.1 (5 : Int)), (rd (α := Int) (0 : Int) v5.1 (0 : Int)), (rd (α := Int) (0 : Int) v5.1 (1 : Int)), (rd (α := Int) (0 : Int) v5.1 (2 : Int)), (rd (α := Int) (0 : Int) v5.1 (3 : Int)), ()), ())]) ≤ 4294967296) then
                                                      bif v4.2.1 then
                                                        some (.inr (((!v5.2.1), ()), ((y1.2.1 ++ [(v4.1, (g52 g37 (rd (α := ByteArray) ByteArray.empty v3.1 (1 : Int))), ((rd (α := ByteArray) ByteArray.empty v3.1 (2 : Int)), (rd (α := ByteArray) ByteArray.empty v3.1 (3 : Int)), (rd (α := ByteArray) ByteArray.empty v3.1 (4 : Int)), (rd (α := ByteArray) ByteArray.empty v3.1 (5 : Int)), (rd (α := Int) (0 : Int) v5.1 (0 : Int)), (rd (α := Int) (0 : Int) v5.1 (1 : Int)), (rd (α := Int) (0 : Int) v5.1 (2 : Int)), (rd (α := Int) (0 : Int) v5.1 (3 : Int)), ()), ())]), ())))
                                                      else
                                                        some (.inr ((true, ()), ((y1.2.1 ++ [(v4.1, (g52 g37 (rd (α := ByteArray) ByteArray.empty v3.1 (1 : Int))), ((rd (α := ByteArray) ByteArray.empty v3.1 (2 : Int)), (rd (α := ByteArray) ByteArray.empty v3.1 (3 : Int)), (rd (α := ByteArray) ByteArray.empty v3.1 (4 : Int)), (rd (α := ByteArray) ByteArray.empty v3.1 (5 : Int)), (rd (α := Int) (0 : Int) v5.1 (0 : Int)), (rd (α := Int) (0 : Int) v5.1 (1 : Int)), (rd (α := Int) (0 : Int) v5.1 (2 : Int)), (rd (α := Int) (0 : Int) v5.1 (3 : Int)), ()), ())]), ())))
                                                    else
                                                      none
                                                  else
                                                    none
                                                else
                                                  none
                                              else
                                                none
                                            else
                                              none
                                          else
                                            none
                                        else
                                          none
                                      else
                                        none
                              else
                                none
                            else
                              none
                          else
                            none
                        else
                          none) fun r => match r with
              | .inl z => some z
              | .inr y6 =>
                bif y6.1.1 then
                  some (.inr (.inl (.inr ((y1.1.2.1, false, ()), (y6.2.1, ())))))
                else
                  some (.inl ((v2.2.1, (IntKind.i64.wrap (y1.1.2.1 + (1 : Int))), ()), (y6.2.1, ())))
            else
              some (.inr (.inr ((), (y1.2.1, ()))))) ((x0, (0 : Int), ()), ([], ()))) fun r => match r with
        | .inl z => some z
        | .inr z7 =>
          some (.inr (((0 : Int), true, ()), (z7.2.1, ())))) fun r => match r with
    | .inl z => some z
    | .inr y8 =>
      bif (!y8.1.2.1) then
        some ([], y8.1.1, (9 : Int), ())
      else
        bif ((g6 y8.2.1) != (0 : Int)) then
          some ([], (0 : Int), (g6 y8.2.1), ())
        else
          some (y8.2.1, (0 : Int), (0 : Int), ())
def H12 : Hints where
  loop := fun n => match n with
    | _ => none
  region := fun n => match n with
    | 4 => some { slots := [(6, (.int .i64)), (7, .bool)], objs := [(0, (.box (.data (.slice AY1)) (.row AY1)))], gone := [] }
    | _ => none
  cond := fun n => match n with
    | _ => none
  block := fun n => match n with
    | _ => none
def Hi12_49 : Hints where
  loop := fun n => match n with
    | _ => none
  region := fun n => match n with
    | _ => none
  cond := fun n => match n with
    | _ => none
  block := fun n => match n with
    | _ => none
def tsi12_49 : List (Nat × TD) := [(3, (.data (.int .i64))), (9, (.data .str)), (22, (.data (.slice AY1))), (31, (.data AY0)), (33, (.data AY1)), (69, (.data (.slice .str))), (91, (.data (.slice (.int .i64))))]
noncomputable def bodyi12_49 : Code := match Tryz.f49.body with | some c => c | none => .skip
noncomputable def fsi12_49 (g6 : (List AT6) → (Int)) (g37 : (List ByteArray)) (g50 : ByteArray → Option ((List ByteArray) × Bool × Unit)) (g51 : ByteArray → Int → Option AT0) (g52 : (List ByteArray) → ByteArray → (Int)) (g53 : (List ByteArray) → Int → Option ((List Int) × Bool × Unit)) (g85 : ByteArray → ByteArray → Option AT4) (k : Nat) : List (Nat × FSem) := [(37, .fn .nil (.cons (.slice .str) .nil) fun x => (g37, ())), (50, .pfn (.cons .str .nil) (.cons (.slice .str) (.cons .bool .nil)) fun x => (g50 x.1)), (51, .pfn (.cons .str (.cons (.int .i64) .nil)) (.cons (.int .i64) (.cons .bool .nil)) fun x => (g51 x.1 x.2.1)), (52, .fn (.cons (.slice .str) (.cons .str .nil)) (.cons (.int .i64) .nil) fun x => ((g52 x.1 x.2.1), ())), (53, .pfn (.cons (.slice .str) (.cons (.int .i64) .nil)) (.cons (.slice (.int .i64)) (.cons .bool .nil)) fun x => (g53 x.1 x.2.1))]
theorem tyi12_49 : chkTypes Tryz.prog tsi12_49 = true := by kernel_rfl
def Hi12_48 : Hints where
  loop := fun n => match n with
    | 0 => some ({ slots := [(0, .str), (6, (.int .i64))], objs := [(0, (.box (.data (.slice AY1)) (.row AY1)))], gone := [] }, 0, { slots := [], objs := [(0, (.box (.data (.slice AY1)) (.row AY1)))], gone := [] })
    | _ => none
  region := fun n => match n with
    | 5 => some { slots := [(27, .bool)], objs := [(0, (.box (.data (.slice AY1)) (.row AY1)))], gone := [1] }
    | _ => none
  cond := fun n => match n with
    | _ => none
  block := fun n => match n with
    | _ => none
def tsi12_48 : List (Nat × TD) := [(3, (.data (.int .i64))), (9, (.data .str))]
noncomputable def bodyi12_48 : Code := match Tryz.f48.body with | some c => c | none => .skip
noncomputable def fsi12_48 (g6 : (List AT6) → (Int)) (g37 : (List ByteArray)) (g50 : ByteArray → Option ((List ByteArray) × Bool × Unit)) (g51 : ByteArray → Int → Option AT0) (g52 : (List ByteArray) → ByteArray → (Int)) (g53 : (List ByteArray) → Int → Option ((List Int) × Bool × Unit)) (g85 : ByteArray → ByteArray → Option AT4) (k : Nat) : List (Nat × FSem) := [(49, .ev (mkEnv tsi12_49 (fsi12_49 g6 g37 g50 g51 g52 g53 g85 k)) Hi12_49 k bodyi12_49 110 [.tmp 3]), (85, .pfn (.cons .str (.cons .str .nil)) (.cons .str (.cons .str (.cons .bool .nil))) fun x => (g85 x.1 x.2.1))]
theorem tyi12_48 : chkTypes Tryz.prog tsi12_48 = true := by kernel_rfl
abbrev A12 : Tys := (.cons .str .nil)
def ts12 : List (Nat × TD) := [(3, (.data (.int .i64))), (9, (.data .str)), (22, (.data (.slice AY1))), (23, (.data (.int .i64)))]
noncomputable def fs12 (g6 : (List AT6) → (Int)) (g37 : (List ByteArray)) (g50 : ByteArray → Option ((List ByteArray) × Bool × Unit)) (g51 : ByteArray → Int → Option AT0) (g52 : (List ByteArray) → ByteArray → (Int)) (g53 : (List ByteArray) → Int → Option ((List Int) × Bool × Unit)) (g85 : ByteArray → ByteArray → Option AT4) (k : Nat) : List (Nat × FSem) := [(6, .fn (.cons (.slice AY1) .nil) (.cons (.int .i64) .nil) fun x => ((g6 x.1), ())), (48, .ev (mkEnv tsi12_48 (fsi12_48 g6 g37 g50 g51 g52 g53 g85 k)) Hi12_48 k bodyi12_48 30 [.tmp 4, .tmp 5])]
noncomputable def body12 : Code := match Tryz.f12.body with | some c => c | none => .skip
theorem ty12 : chkTypes Tryz.prog ts12 = true := by kernel_rfl
theorem ev12 (g6 : (List AT6) → (Int)) (g37 : (List ByteArray)) (g50 : ByteArray → Option ((List ByteArray) × Bool × Unit)) (g51 : ByteArray → Int → Option AT0) (g52 : (List ByteArray) → ByteArray → (Int)) (g53 : (List ByteArray) → Int → Option ((List Int) × Bool × Unit)) (g85 : ByteArray → ByteArray → Option AT4) (k : Nat) (x : ((.cons .str .nil) : Tys).den) : evFun (mkEnv ts12 (fs12 g6 g37 g50 g51 g52 g53 g85 k)) H12 k body12 27 [.tmp 2, .tmp 3, .tmp 4] (explodes (.cons .str .nil) x) [] (dec (.cons (.slice AY1) (.cons (.int .i64) (.cons (.int .i64) .nil)))) = f12 g6 g37 g50 g51 g52 g53 g85 k x.1 := by kernel_rfl
/-! ### slices.Equal[[]jitney/api.Ask,jitney/api.Ask] -/
def f13  (k : Nat) (x0 : List AT6) (x1 : List AT6) : Option (Bool × Unit) :=
  bif (((List.length x0 : Nat) : Int) != ((List.length x1 : Nat) : Int)) then
    some (false, ())
  else
    Option.bind (α := (Bool × Unit) ⊕ ((Unit) × (Unit))) (iter (σ := (Int × Unit) × (Unit)) (τ := (Bool × Unit) ⊕ ((Unit) × (Unit))) k (fun y1 =>
        bif (decide (y1.1.1 < ((List.length x0 : Nat) : Int))) then
          bif (inR y1.1.1 ((List.length x0 : Nat) : Int)) then
            bif (inR y1.1.1 ((List.length x1 : Nat) : Int)) then
              bif (!(((rd (α := AT6) zAT6 x0 y1.1.1).1 == (rd (α := AT6) zAT6 x1 y1.1.1).1) && (((rd (α := AT6) zAT6 x0 y1.1.1).2.1 == (rd (α := AT6) zAT6 x1 y1.1.1).2.1) && (((sEq ((rd (α := AT6) zAT6 x0 y1.1.1).2.2.1.1) ((rd (α := AT6) zAT6 x1 y1.1.1).2.2.1.1)) && ((sEq ((rd (α := AT6) zAT6 x0 y1.1.1).2.2.1.2.1) ((rd (α := AT6) zAT6 x1 y1.1.1).2.2.1.2.1)) && ((sEq ((rd (α := AT6) zAT6 x0 y1.1.1).2.2.1.2.2.1) ((rd (α := AT6) zAT6 x1 y1.1.1).2.2.1.2.2.1)) && ((sEq ((rd (α := AT6) zAT6 x0 y1.1.1).2.2.1.2.2.2.1) ((rd (α := AT6) zAT6 x1 y1.1.1).2.2.1.2.2.2.1)) && (((rd (α := AT6) zAT6 x0 y1.1.1).2.2.1.2.2.2.2.1 == (rd (α := AT6) zAT6 x1 y1.1.1).2.2.1.2.2.2.2.1) && (((rd (α := AT6) zAT6 x0 y1.1.1).2.2.1.2.2.2.2.2.1 == (rd (α := AT6) zAT6 x1 y1.1.1).2.2.1.2.2.2.2.2.1) && (((rd (α := AT6) zAT6 x0 y1.1.1).2.2.1.2.2.2.2.2.2.1 == (rd (α := AT6) zAT6 x1 y1.1.1).2.2.1.2.2.2.2.2.2.1) && (((rd (α := AT6) zAT6 x0 y1.1.1).2.2.1.2.2.2.2.2.2.2.1 == (rd (α := AT6) zAT6 x1 y1.1.1).2.2.1.2.2.2.2.2.2.2.1) && true)))))))) && true)))) then
                some (.inr (.inl (false, ())))
              else
                some (.inl (((IntKind.i64.wrap (y1.1.1 + (1 : Int))), ()), ()))
            else
              none
          else
            none
        else
          some (.inr (.inr ((), ())))) (((0 : Int), ()), ())) fun r => match r with
    | .inl z => some z
    | .inr z2 =>
      some (true, ())
def H13 : Hints where
  loop := fun n => match n with
    | 0 => some ({ slots := [(13, (.int .i64))], objs := [], gone := [] }, 0, { slots := [], objs := [], gone := [] })
    | _ => none
  region := fun n => match n with
    | _ => none
  cond := fun n => match n with
    | _ => none
  block := fun n => match n with
    | _ => none
abbrev A13 : Tys := (.cons (.slice AY1) (.cons (.slice AY1) .nil))
def ts13 : List (Nat × TD) := [(3, (.data (.int .i64))), (4, (.data .bool)), (22, (.data (.slice AY1))), (33, (.data AY1))]
noncomputable def fs13  : List (Nat × FSem) := []
noncomputable def body13 : Code := match Tryz.f13.body with | some c => c | none => .skip
theorem ty13 : chkTypes Tryz.prog ts13 = true := by kernel_rfl
theorem ev13  (k : Nat) (x : ((.cons (.slice AY1) (.cons (.slice AY1) .nil)) : Tys).den) : evFun (mkEnv ts13 (fs13 )) H13 k body13 26 [.tmp 4] (explodes (.cons (.slice AY1) (.cons (.slice AY1) .nil)) x) [] (dec (.cons .bool .nil)) = f13  k x.1 x.2.1 := by kernel_rfl
/-! ### jitney/jitlaw2.AskTexts -/
def f3 (g6 : (List AT6) → (Int)) (g7 : (List AT6) → Option (ByteArray × Unit)) (g8 : ByteArray → Int → AT1) (g9 : (List AT6) → Option AT1) (g10 : (List AT6) → Option ((List AT6) × Unit)) (g11 : ByteArray → Option ((List AT6) × Int × Int × Unit)) (g12 : ByteArray → Option ((List AT6) × Int × Int × Unit)) (g13 : (List AT6) → (List AT6) → (Bool)) (g14 : Option (Bool × Unit)) (k : Nat) (x0 : List AT6) (x1 : ByteArray) : Option (Bool × Unit) :=
  Option.bind (α := (Bool × Unit) ⊕ ((ByteArray × Unit) × (Unit))) (
      bif ((g6 x0) == (0 : Int)) then
        Option.bind (g7 x0) fun v1 =>
        some (.inr ((v1.1, ()), ()))
      else
        some (.inr (((ByteArray.mk #[]), ()), ()))) fun r => match r with
  | .inl z => some z
  | .inr y2 =>
    Option.bind (g10 x0) fun v3 =>
    Option.bind (g9 v3.1) fun v4 =>
    Option.bind (g11 x1) fun v5 =>
    Option.bind (g12 x1) fun v6 =>
    bif (v4.2.1 == (g8 y2.1.1 (g6 x0)).2.1) then
      bif (sEq v4.1 ((g8 y2.1.1 (g6 x0)).1)) then
        bif (g13 v5.1 v6.1) then
          bif (v5.2.1 == v6.2.1) then
            bif (v5.2.2.1 == v6.2.2.1) then
              Option.bind g14 fun v7 =>
              some (v7.1, ())
            else
              some (false, ())
          else
            some (false, ())
        else
          some (false, ())
      else
        some (false, ())
    else
      some (false, ())
def H3 : Hints where
  loop := fun n => match n with
    | _ => none
  region := fun n => match n with
    | _ => none
  cond := fun n => match n with
    | 18 => some { slots := [(6, .str)], objs := [], gone := [] }
    | _ => none
  block := fun n => match n with
    | _ => none
abbrev A3 : Tys := (.cons (.slice AY1) (.cons .str .nil))
def ts3 : List (Nat × TD) := [(3, (.data (.int .i64))), (4, (.data .bool)), (9, (.data .str)), (22, (.data (.slice AY1))), (23, (.data (.int .i64)))]
noncomputable def fs3 (g6 : (List AT6) → (Int)) (g7 : (List AT6) → Option (ByteArray × Unit)) (g8 : ByteArray → Int → AT1) (g9 : (List AT6) → Option AT1) (g10 : (List AT6) → Option ((List AT6) × Unit)) (g11 : ByteArray → Option ((List AT6) × Int × Int × Unit)) (g12 : ByteArray → Option ((List AT6) × Int × Int × Unit)) (g13 : (List AT6) → (List AT6) → (Bool)) (g14 : Option (Bool × Unit)) : List (Nat × FSem) := [(6, .fn (.cons (.slice AY1) .nil) (.cons (.int .i64) .nil) fun x => ((g6 x.1), ())), (7, .pfn (.cons (.slice AY1) .nil) (.cons .str .nil) fun x => (g7 x.1)), (8, .fn (.cons .str (.cons (.int .i64) .nil)) (.cons .str (.cons (.int .i64) .nil)) fun x => (g8 x.1 x.2.1)), (9, .pfn (.cons (.slice AY1) .nil) (.cons .str (.cons (.int .i64) .nil)) fun x => (g9 x.1)), (10, .pfn (.cons (.slice AY1) .nil) (.cons (.slice AY1) .nil) fun x => (g10 x.1)), (11, .pfn (.cons .str .nil) (.cons (.slice AY1) (.cons (.int .i64) (.cons (.int .i64) .nil))) fun x => (g11 x.1)), (12, .pfn (.cons .str .nil) (.cons (.slice AY1) (.cons (.int .i64) (.cons (.int .i64) .nil))) fun x => (g12 x.1)), (13, .fn (.cons (.slice AY1) (.cons (.slice AY1) .nil)) (.cons .bool .nil) fun x => ((g13 x.1 x.2.1), ())), (14, .pfn .nil (.cons .bool .nil) fun x => g14)]
noncomputable def body3 : Code := match Tryz.f3.body with | some c => c | none => .skip
theorem ty3 : chkTypes Tryz.prog ts3 = true := by kernel_rfl
theorem ev3 (g6 : (List AT6) → (Int)) (g7 : (List AT6) → Option (ByteArray × Unit)) (g8 : ByteArray → Int → AT1) (g9 : (List AT6) → Option AT1) (g10 : (List AT6) → Option ((List AT6) × Unit)) (g11 : ByteArray → Option ((List AT6) × Int × Int × Unit)) (g12 : ByteArray → Option ((List AT6) × Int × Int × Unit)) (g13 : (List AT6) → (List AT6) → (Bool)) (g14 : Option (Bool × Unit)) (k : Nat) (x : ((.cons (.slice AY1) (.cons .str .nil)) : Tys).den) : evFun (mkEnv ts3 (fs3 g6 g7 g8 g9 g10 g11 g12 g13 g14)) H3 k body3 71 [.tmp 4] (explodes (.cons (.slice AY1) (.cons .str .nil)) x) [] (dec (.cons .bool .nil)) = f3 g6 g7 g8 g9 g10 g11 g12 g13 g14 k x.1 x.2.1 := by kernel_rfl
end Go.Vm
