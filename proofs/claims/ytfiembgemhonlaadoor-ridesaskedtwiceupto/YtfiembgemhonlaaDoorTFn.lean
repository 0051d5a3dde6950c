/- The program's functions, as an own tool reads them off its form. -/
import Derived.Test.YtfiembgemhonlaaDoorUFn
import Derived.Test.YtfiembgemhonlaaDoorVmK
import Derived.Test.YtfiembgemhonlaaDoorVmD
import Derived.Test.YtfiembgemhonlaaDoorVmQ
import Derived.Test.YtfiembgemhonlaaDoorProg
set_option maxRecDepth 100000
set_option linter.unusedVariables false
namespace Go.Vm
open Go.Proofs
abbrev TT0 : Type := (Int × Int × Unit)
abbrev TT1 : Type := (Int × Bool × Unit)
abbrev TT2 : Type := (Int × Bool × Int × Unit)
abbrev TT3 : Type := (ByteArray × ByteArray × Unit)
abbrev TT4 : Type := (TT0 × Int × Unit)
abbrev TT5 : Type := (ByteArray × ByteArray × ByteArray × ByteArray × Int × Int × Int × Int × Unit)
abbrev zTT0 : TT0 := ((0 : Int), (0 : Int), ())
abbrev zTT2 : TT2 := ((0 : Int), false, (0 : Int), ())
abbrev zTT4 : TT4 := (zTT0, (0 : Int), ())
abbrev zTT5 : TT5 := (ByteArray.empty, ByteArray.empty, ByteArray.empty, ByteArray.empty, (0 : Int), (0 : Int), (0 : Int), (0 : Int), ())
abbrev TY0 : Ty := (.struct (.cons .str (.cons .str .nil)))
abbrev TY1 : Ty := (.struct (.cons (.int .i64) (.cons (.int .i64) .nil)))
abbrev TY2 : Ty := (.struct (.cons (.int .i64) (.cons .bool (.cons (.int .i64) .nil))))
abbrev TY3 : Ty := (.struct (.cons TY1 (.cons (.int .i64) .nil)))
abbrev TY4 : Ty := (.struct (.cons .str (.cons .str (.cons .str (.cons .str (.cons (.int .i64) (.cons (.int .i64) (.cons (.int .i64) (.cons (.int .i64) .nil)))))))))
abbrev TY5 : Ty := (.struct (.cons .str (.cons .str (.cons .str (.cons .str (.cons (.int .i64) (.cons (.int .i64) (.cons (.int .i64) (.cons (.int .i64) (.cons (.int .i64) (.cons (.int .i64) (.cons (.int .i64) (.cons (.int .i64) (.cons (.int .i64) (.cons (.slice TY2) .nil)))))))))))))))
/-! ### jitney/request.allKeys$1 -/
def f68 (g36 : ByteArray → (Bool)) (k : Nat) (x0 : ByteArray) : Option (Bool × Unit) :=
  some ((!(g36 x0)), ())
def H68 : Hints where
  loop := fun n => match n with
    | _ => none
  region := fun n => match n with
    | _ => none
  cond := fun n => match n with
    | _ => none
  block := fun n => match n with
    | _ => none
abbrev A68 : Tys := (.cons .str .nil)
def ts68 : List (Nat × TD) := [(4, (.data .bool)), (9, (.data .str))]
noncomputable def fs68 (g36 : ByteArray → (Bool)) : List (Nat × FSem) := [(36, .fn (.cons .str .nil) (.cons .bool .nil) fun x => ((g36 x.1), ()))]
noncomputable def body68 : Code := match Tryd.f68.body with | some c => c | none => .skip
theorem ty68 : chkTypes Tryd.prog ts68 = true := by kernel_rfl
theorem ev68 (g36 : ByteArray → (Bool)) (k : Nat) (x : ((.cons .str .nil) : Tys).den) : evFun (mkEnv ts68 (fs68 g36)) H68 k body68 6 [.tmp 2] (explodes (.cons .str .nil) x) [] (dec (.cons .bool .nil)) = f68 g36 k x.1 := by kernel_rfl
/-! ### jitney/request.allKeys -/
def f57 (g68 : ByteArray → (Bool)) (k : Nat) (x0 : List ByteArray) : Option (Bool × Unit) :=
  Option.bind (α := (Bool × Unit) ⊕ ((Unit) × (Unit))) (iter (σ := (Int × Unit) × (Unit)) (τ := (Bool × Unit) ⊕ ((Unit) × (Unit))) k (fun y1 =>
      bif (decide (y1.1.1 < ((List.length x0 : Nat) : Int))) then
        bif (inR y1.1.1 ((List.length x0 : Nat) : Int)) then
          bif (g68 (rd (α := ByteArray) ByteArray.empty x0 y1.1.1)) then
            some (.inr (.inl ((!(decide (y1.1.1 ≥ (0 : Int)))), ())))
          else
            some (.inl (((IntKind.i64.wrap (y1.1.1 + (1 : Int))), ()), ()))
        else
          none
      else
        some (.inr (.inr ((), ())))) (((0 : Int), ()), ())) fun r => match r with
  | .inl z => some z
  | .inr z2 =>
    some (true, ())
def H57 : Hints where
  loop := fun n => match n with
    | _ => none
  region := fun n => match n with
    | _ => none
  cond := fun n => match n with
    | _ => none
  block := fun n => match n with
    | _ => none
def Hi57_82 : Hints where
  loop := fun n => match n with
    | 0 => some ({ slots := [(8, (.int .i64))], objs := [], gone := [] }, 0, { slots := [], objs := [], gone := [] })
    | _ => none
  region := fun n => match n with
    | _ => none
  cond := fun n => match n with
    | _ => none
  block := fun n => match n with
    | _ => none
def tsi57_82 : List (Nat × TD) := [(3, (.data (.int .i64))), (9, (.data .str)), (68, (.data (.slice .str)))]
noncomputable def bodyi57_82 : Code := match Tryd.f82.body with | some c => c | none => .skip
noncomputable def fsi57_82 (g68 : ByteArray → (Bool)) (k : Nat) : List (Nat × FSem) := [(68, .fn (.cons .str .nil) (.cons .bool .nil) fun x => ((g68 x.1), ()))]
theorem tyi57_82 : chkTypes Tryd.prog tsi57_82 = true := by kernel_rfl
def Hi57_67 : Hints where
  loop := fun n => match n with
    | _ => none
  region := fun n => match n with
    | _ => none
  cond := fun n => match n with
    | _ => none
  block := fun n => match n with
    | _ => none
def tsi57_67 : List (Nat × TD) := [(3, (.data (.int .i64)))]
noncomputable def bodyi57_67 : Code := match Tryd.f67.body with | some c => c | none => .skip
noncomputable def fsi57_67 (g68 : ByteArray → (Bool)) (k : Nat) : List (Nat × FSem) := [(82, .ev (mkEnv tsi57_82 (fsi57_82 g68 k)) Hi57_82 k bodyi57_82 19 [.tmp 4])]
theorem tyi57_67 : chkTypes Tryd.prog tsi57_67 = true := by kernel_rfl
abbrev A57 : Tys := (.cons (.slice .str) .nil)
def ts57 : List (Nat × TD) := [(4, (.data .bool)), (68, (.data (.slice .str)))]
noncomputable def fs57 (g68 : ByteArray → (Bool)) (k : Nat) : List (Nat × FSem) := [(67, .ev (mkEnv tsi57_67 (fsi57_67 g68 k)) Hi57_67 k bodyi57_67 9 [.tmp 4])]
noncomputable def body57 : Code := match Tryd.f57.body with | some c => c | none => .skip
theorem ty57 : chkTypes Tryd.prog ts57 = true := by kernel_rfl
theorem ev57 (g68 : ByteArray → (Bool)) (k : Nat) (x : ((.cons (.slice .str) .nil) : Tys).den) : evFun (mkEnv ts57 (fs57 g68 k)) H57 k body57 6 [.tmp 2] (explodes (.cons (.slice .str) .nil) x) [] (dec (.cons .bool .nil)) = f57 g68 k x.1 := by kernel_rfl
/-! ### jitney/request.CheckRide -/
def f42 (g37 : Int → (Bool)) (g40 : Int → Int → Int → (Bool)) (g57 : (List ByteArray) → (Bool)) (k : Nat) (x0 : TT5) : Option (Int × Unit) :=
  bif (!(g57 ([x0.1, x0.2.1, x0.2.2.1, x0.2.2.2.1]))) then
    some ((5 : Int), ())
  else
    bif (sEq x0.2.2.1 x0.2.2.2.1) then
      some ((6 : Int), ())
    else
      bif (!(g37 x0.2.2.2.2.1)) then
        some ((1 : Int), ())
      else
        bif (g40 x0.2.2.2.2.2.1 (IntKind.i64.wrap (x0.2.2.2.2.1 + (1 : Int))) (345686400000 : Int)) then
          some ((1 : Int), ())
        else
          bif (g40 x0.2.2.2.2.2.2.1 (0 : Int) (60 : Int)) then
            some ((1 : Int), ())
          else
            bif (g40 x0.2.2.2.2.2.2.2.1 (0 : Int) (60 : Int)) then
              some ((1 : Int), ())
            else
              bif ((IntKind.i64.wrap (x0.2.2.2.2.2.2.1 + x0.2.2.2.2.2.2.2.1)) == (0 : Int)) then
                some ((3 : Int), ())
              else
                some ((0 : Int), ())
def H42 : Hints where
  loop := fun n => match n with
    | _ => none
  region := fun n => match n with
    | _ => none
  cond := fun n => match n with
    | _ => none
  block := fun n => match n with
    | _ => none
abbrev A42 : Tys := (.cons TY4 .nil)
def ts42 : List (Nat × TD) := [(3, (.data (.int .i64))), (9, (.data .str)), (25, (.data (.int .i64))), (53, (.data TY4)), (68, (.data (.slice .str)))]
noncomputable def fs42 (g37 : Int → (Bool)) (g40 : Int → Int → Int → (Bool)) (g57 : (List ByteArray) → (Bool)) : List (Nat × FSem) := [(37, .fn (.cons (.int .i64) .nil) (.cons .bool .nil) fun x => ((g37 x.1), ())), (40, .fn (.cons (.int .i64) (.cons (.int .i64) (.cons (.int .i64) .nil))) (.cons .bool .nil) fun x => ((g40 x.1 x.2.1 x.2.2.1), ())), (57, .fn (.cons (.slice .str) .nil) (.cons .bool .nil) fun x => ((g57 x.1), ()))]
noncomputable def body42 : Code := match Tryd.f42.body with | some c => c | none => .skip
theorem ty42 : chkTypes Tryd.prog ts42 = true := by kernel_rfl
theorem ev42 (g37 : Int → (Bool)) (g40 : Int → Int → Int → (Bool)) (g57 : (List ByteArray) → (Bool)) (k : Nat) (x : ((.cons TY4 .nil) : Tys).den) : evFun (mkEnv ts42 (fs42 g37 g40 g57)) H42 k body42 51 [.tmp 2] (explodes (.cons TY4 .nil) x) [] (dec (.cons (.int .i64) .nil)) = f42 g37 g40 g57 k x.1 := by kernel_rfl
/-! ### jitney/request.meet -/
def f43  (k : Nat) (x0 : TT5) (x1 : TT5) : Option (Bool × Unit) :=
  some ((decide ((if (decide (x1.2.2.2.2.1 > x0.2.2.2.2.1)) then x1.2.2.2.2.1 else x0.2.2.2.2.1) < (if (decide (x1.2.2.2.2.2.1 < x0.2.2.2.2.2.1)) then x1.2.2.2.2.2.1 else x0.2.2.2.2.2.1))), ())
def H43 : Hints where
  loop := fun n => match n with
    | _ => none
  region := fun n => match n with
    | _ => none
  cond := fun n => match n with
    | _ => none
  block := fun n => match n with
    | _ => none
abbrev A43 : Tys := (.cons TY4 (.cons TY4 .nil))
def ts43 : List (Nat × TD) := [(3, (.data (.int .i64))), (4, (.data .bool)), (53, (.data TY4))]
noncomputable def fs43  : List (Nat × FSem) := []
noncomputable def body43 : Code := match Tryd.f43.body with | some c => c | none => .skip
theorem ty43 : chkTypes Tryd.prog ts43 = true := by kernel_rfl
theorem ev43  (k : Nat) (x : ((.cons TY4 (.cons TY4 .nil)) : Tys).den) : evFun (mkEnv ts43 (fs43 )) H43 k body43 16 [.tmp 4] (explodes (.cons TY4 (.cons TY4 .nil)) x) [] (dec (.cons .bool .nil)) = f43  k x.1 x.2.1 := by kernel_rfl
/-! ### jitney/request.Twice -/
def f19 (g42 : TT5 → (Int)) (g43 : TT5 → TT5 → (Bool)) (k : Nat) (x0 : List TT5) : Option ((List TT3) × Int × Unit) :=
  bif (decide (((List.length x0 : Nat) : Int) > (1000 : Int))) then
    some ([], (2 : Int), ())
  else
    Option.bind (α := ((List TT3) × Int × Unit) ⊕ ((Unit) × (Unit))) (iter (σ := (Int × Unit) × (Unit)) (τ := ((List TT3) × Int × Unit) ⊕ ((Unit) × (Unit))) k (fun y1 =>
        bif (decide (y1.1.1 < ((List.length x0 : Nat) : Int))) then
          bif (inR y1.1.1 ((List.length x0 : Nat) : Int)) then
            bif ((g42 (rd (α := TT5) zTT5 x0 y1.1.1)) != (0 : Int)) then
              some (.inr (.inl ([], (g42 (rd (α := TT5) zTT5 x0 y1.1.1)), ())))
            else
              bif (decide (y1.1.1 > (0 : Int))) then
                bif (inR (IntKind.i64.wrap (y1.1.1 - (1 : Int))) ((List.length x0 : Nat) : Int)) then
                  bif ((sLt ((rd (α := TT5) zTT5 x0 y1.1.1).1) ((rd (α := TT5) zTT5 x0 (IntKind.i64.wrap (y1.1.1 - (1 : Int)))).1)) || (sEq ((rd (α := TT5) zTT5 x0 y1.1.1).1) ((rd (α := TT5) zTT5 x0 (IntKind.i64.wrap (y1.1.1 - (1 : Int)))).1))) then
                    some (.inr (.inl ([], (7 : Int), ())))
                  else
                    some (.inl (((IntKind.i64.wrap (y1.1.1 + (1 : Int))), ()), ()))
                else
                  none
              else
                some (.inl (((IntKind.i64.wrap (y1.1.1 + (1 : Int))), ()), ()))
          else
            none
        else
          some (.inr (.inr ((), ())))) (((0 : Int), ()), ())) fun r => match r with
    | .inl z => some z
    | .inr z2 =>
      Option.bind (α := ((List TT3) × Int × Unit) ⊕ (((List TT3) × Unit) × (Unit))) (iter (σ := ((List TT3) × Int × Unit) × (Unit)) (τ := ((List TT3) × Int × Unit) ⊕ (((List TT3) × Unit) × (Unit))) k (fun y3 =>
          bif (decide (y3.1.2.1 < ((List.length x0 : Nat) : Int))) then
            bif (inR y3.1.2.1 ((List.length x0 : Nat) : Int)) then
              bif (decide (0 ≤ (IntKind.i64.wrap (y3.1.2.1 + (1 : Int)))) && (decide ((IntKind.i64.wrap (y3.1.2.1 + (1 : Int))) ≤ ((List.length x0 : Nat) : Int)) && decide (((List.length x0 : Nat) : Int) ≤ ((List.length x0 : Nat) : Int)))) then
                Option.bind (α := ((((List TT3) × Int × Unit) × (Unit)) ⊕ (((List TT3) × Int × Unit) ⊕ (((List TT3) × Unit) × (Unit)))) ⊕ (((List TT3) × Unit) × (Unit))) (iter (σ := ((List TT3) × Int × Unit) × (Unit)) (τ := ((((List TT3) × Int × Unit) × (Unit)) ⊕ (((List TT3) × Int × Unit) ⊕ (((List TT3) × Unit) × (Unit)))) ⊕ (((List TT3) × Unit) × (Unit))) k (fun y4 =>
                    bif (decide (y4.1.2.1 < ((List.length (List.drop (Int.toNat (IntKind.i64.wrap (y3.1.2.1 + (1 : Int)))) (List.take (Int.toNat ((List.length x0 : Nat) : Int)) x0)) : Nat) : Int))) then
                      bif (inR y4.1.2.1 ((List.length (List.drop (Int.toNat (IntKind.i64.wrap (y3.1.2.1 + (1 : Int)))) (List.take (Int.toNat ((List.length x0 : Nat) : Int)) x0)) : Nat) : Int)) then
                        bif (sEq ((rd (α := TT5) zTT5 x0 y3.1.2.1).2.1) ((rd (α := TT5) zTT5 (List.drop (Int.toNat (IntKind.i64.wrap (y3.1.2.1 + (1 : Int)))) (List.take (Int.toNat ((List.length x0 : Nat) : Int)) x0)) y4.1.2.1).2.1)) then
                          bif (g43 (rd (α := TT5) zTT5 x0 y3.1.2.1) (rd (α := TT5) zTT5 (List.drop (Int.toNat (IntKind.i64.wrap (y3.1.2.1 + (1 : Int)))) (List.take (Int.toNat ((List.length x0 : Nat) : Int)) x0)) y4.1.2.1)) then
                            bif decide (List.length y4.1.1 + List.length ([((rd (α := TT5) zTT5 x0 y3.1.2.1).1, (rd (α := TT5) zTT5 (List.drop (Int.toNat (IntKind.i64.wrap (y3.1.2.1 + (1 : Int)))) (List.take (Int.toNat ((List.length x0 : Nat) : Int)) x0)) y4.1.2.1).1, ())]) ≤ 4294967296) then
                              some (.inl (((y4.1.1 ++ [((rd (α := TT5) zTT5 x0 y3.1.2.1).1, (rd (α := TT5) zTT5 (List.drop (Int.toNat (IntKind.i64.wrap (y3.1.2.1 + (1 : Int)))) (List.take (Int.toNat ((List.length x0 : Nat) : Int)) x0)) y4.1.2.1).1, ())]), (IntKind.i64.wrap (y4.1.2.1 + (1 : Int))), ()), ()))
                            else
                              none
                          else
                            some (.inl ((y4.1.1, (IntKind.i64.wrap (y4.1.2.1 + (1 : Int))), ()), ()))
                        else
                          some (.inl ((y4.1.1, (IntKind.i64.wrap (y4.1.2.1 + (1 : Int))), ()), ()))
                      else
                        none
                    else
                      some (.inr (.inr ((y4.1.1, ()), ())))) ((y3.1.1, (0 : Int), ()), ())) fun r => match r with
                | .inl z => some z
                | .inr z5 =>
                  some (.inl ((z5.1.1, (IntKind.i64.wrap (y3.1.2.1 + (1 : Int))), ()), ()))
              else
                none
            else
              none
          else
            some (.inr (.inr ((y3.1.1, ()), ())))) (([], (0 : Int), ()), ())) fun r => match r with
      | .inl z => some z
      | .inr z6 =>
        some (z6.1.1, (0 : Int), ())
def H19 : Hints where
  loop := fun n => match n with
    | 0 => some ({ slots := [(17, (.int .i64))], objs := [], gone := [] }, 0, { slots := [], objs := [], gone := [] })
    | 2 => some ({ slots := [(7, (.row TY0)), (43, (.int .i64))], objs := [], gone := [] }, 2, { slots := [(7, (.row TY0))], objs := [], gone := [] })
    | 4 => some ({ slots := [(7, (.row TY0)), (53, (.int .i64))], objs := [], gone := [0] }, 4, { slots := [(7, (.row TY0))], objs := [], gone := [0] })
    | _ => none
  region := fun n => match n with
    | _ => none
  cond := fun n => match n with
    | _ => none
  block := fun n => match n with
    | _ => none
abbrev A19 : Tys := (.cons (.slice TY4) .nil)
def ts19 : List (Nat × TD) := [(3, (.data (.int .i64))), (9, (.data .str)), (24, (.data (.slice TY0))), (25, (.data (.int .i64))), (45, (.data TY0)), (48, (.data (.slice TY4))), (53, (.data TY4))]
noncomputable def fs19 (g42 : TT5 → (Int)) (g43 : TT5 → TT5 → (Bool)) : List (Nat × FSem) := [(42, .fn (.cons TY4 .nil) (.cons (.int .i64) .nil) fun x => ((g42 x.1), ())), (43, .fn (.cons TY4 (.cons TY4 .nil)) (.cons .bool .nil) fun x => ((g43 x.1 x.2.1), ()))]
noncomputable def body19 : Code := match Tryd.f19.body with | some c => c | none => .skip
theorem ty19 : chkTypes Tryd.prog ts19 = true := by kernel_rfl
theorem ev19 (g42 : TT5 → (Int)) (g43 : TT5 → TT5 → (Bool)) (k : Nat) (x : ((.cons (.slice TY4) .nil) : Tys).den) : evFun (mkEnv ts19 (fs19 g42 g43)) H19 k body19 78 [.tmp 2, .tmp 3] (explodes (.cons (.slice TY4) .nil) x) [] (dec (.cons (.slice TY0) (.cons (.int .i64) .nil))) = f19 g42 g43 k x.1 := by kernel_rfl
/-! ### slices.Clone[[]jitney/api.Ride,jitney/api.Ride] -/
def f20  (k : Nat) (x0 : List TT5) : Option ((List TT5) × Unit) :=
  bif Nat.ble (List.length x0) 0 then
    none
  else
    bif decide (List.length ([] : List TT5) + List.length x0 ≤ 4294967296) then
      some ((([] : List TT5) ++ x0), ())
    else
      none
def H20 : Hints where
  loop := fun n => match n with
    | _ => none
  region := fun n => match n with
    | _ => none
  cond := fun n => match n with
    | _ => none
  block := fun n => match n with
    | _ => none
def ts20 : List (Nat × TD) := [(48, (.data (.slice TY4)))]
noncomputable def fs20  : List (Nat × FSem) := []
noncomputable def body20 : Code := match Tryd.f20.body with | some c => c | none => .skip
theorem ty20 : chkTypes Tryd.prog ts20 = true := by kernel_rfl
theorem ev20  (k : Nat) (x : ((.cons (.slice TY4) .nil) : Tys).den) : evFun (mkEnv ts20 (fs20 )) H20 k body20 8 [.tmp 2] (explodes (.cons (.slice TY4) .nil) x) [] (dec (.cons (.slice TY4) .nil)) = f20  k x.1 := by kernel_rfl
def s20 (l : List TT5) : Option ((List TT5) × Unit) := if l.length ≤ 4294967296 then some (l, ()) else none
/-! ### jitney/jitref2.RideFault -/
def f44 (g12 : ByteArray → (Bool)) (g31 : Int → Int → Int → (Bool)) (g32 : Int → (Bool)) (k : Nat) (x0 : TT5) : Option (Int × Unit) :=
  bif (!(g12 x0.1)) then
    some ((5 : Int), ())
  else
    bif (!(g12 x0.2.1)) then
      some ((5 : Int), ())
    else
      bif (!(g12 x0.2.2.1)) then
        some ((5 : Int), ())
      else
        bif (!(g12 x0.2.2.2.1)) then
          some ((5 : Int), ())
        else
          bif (sEq x0.2.2.1 x0.2.2.2.1) then
            some ((6 : Int), ())
          else
            bif (!(g32 x0.2.2.2.2.1)) then
              some ((1 : Int), ())
            else
              bif (!(g31 x0.2.2.2.2.2.1 (IntKind.i64.wrap (x0.2.2.2.2.1 + (1 : Int))) (345686400000 : Int))) then
                some ((1 : Int), ())
              else
                bif (!(g31 x0.2.2.2.2.2.2.1 (0 : Int) (60 : Int))) then
                  some ((1 : Int), ())
                else
                  bif (!(g31 x0.2.2.2.2.2.2.2.1 (0 : Int) (60 : Int))) then
                    some ((1 : Int), ())
                  else
                    bif ((IntKind.i64.wrap (x0.2.2.2.2.2.2.1 + x0.2.2.2.2.2.2.2.1)) == (0 : Int)) then
                      some ((3 : Int), ())
                    else
                      some ((0 : Int), ())
def H44 : Hints where
  loop := fun n => match n with
    | _ => none
  region := fun n => match n with
    | _ => none
  cond := fun n => match n with
    | _ => none
  block := fun n => match n with
    | _ => none
abbrev A44 : Tys := (.cons TY4 .nil)
def ts44 : List (Nat × TD) := [(3, (.data (.int .i64))), (9, (.data .str)), (25, (.data (.int .i64))), (53, (.data TY4))]
noncomputable def fs44 (g12 : ByteArray → (Bool)) (g31 : Int → Int → Int → (Bool)) (g32 : Int → (Bool)) : List (Nat × FSem) := [(12, .fn (.cons .str .nil) (.cons .bool .nil) fun x => ((g12 x.1), ())), (31, .fn (.cons (.int .i64) (.cons (.int .i64) (.cons (.int .i64) .nil))) (.cons .bool .nil) fun x => ((g31 x.1 x.2.1 x.2.2.1), ())), (32, .fn (.cons (.int .i64) .nil) (.cons .bool .nil) fun x => ((g32 x.1), ()))]
noncomputable def body44 : Code := match Tryd.f44.body with | some c => c | none => .skip
theorem ty44 : chkTypes Tryd.prog ts44 = true := by kernel_rfl
theorem ev44 (g12 : ByteArray → (Bool)) (g31 : Int → Int → Int → (Bool)) (g32 : Int → (Bool)) (k : Nat) (x : ((.cons TY4 .nil) : Tys).den) : evFun (mkEnv ts44 (fs44 g12 g31 g32)) H44 k body44 65 [.tmp 2] (explodes (.cons TY4 .nil) x) [] (dec (.cons (.int .i64) .nil)) = f44 g12 g31 g32 k x.1 := by kernel_rfl
/-! ### jitney/jitref2.RidesFault -/
def f21 (g44 : TT5 → (Int)) (k : Nat) (x0 : List TT5) : Option (Int × Unit) :=
  bif (decide (((List.length x0 : Nat) : Int) > (1000 : Int))) then
    some ((2 : Int), ())
  else
    Option.bind (α := (Int × Unit) ⊕ ((Unit) × (Unit))) (iter (σ := (Int × Unit) × (Unit)) (τ := (Int × Unit) ⊕ ((Unit) × (Unit))) k (fun y1 =>
        bif (decide (y1.1.1 < ((List.length x0 : Nat) : Int))) then
          bif (inR y1.1.1 ((List.length x0 : Nat) : Int)) then
            bif ((g44 (rd (α := TT5) zTT5 x0 y1.1.1)) != (0 : Int)) then
              some (.inr (.inl ((g44 (rd (α := TT5) zTT5 x0 y1.1.1)), ())))
            else
              bif (decide (y1.1.1 > (0 : Int))) then
                bif (inR (IntKind.i64.wrap (y1.1.1 - (1 : Int))) ((List.length x0 : Nat) : Int)) then
                  bif ((sLt ((rd (α := TT5) zTT5 x0 y1.1.1).1) ((rd (α := TT5) zTT5 x0 (IntKind.i64.wrap (y1.1.1 - (1 : Int)))).1)) || (sEq ((rd (α := TT5) zTT5 x0 y1.1.1).1) ((rd (α := TT5) zTT5 x0 (IntKind.i64.wrap (y1.1.1 - (1 : Int)))).1))) then
                    some (.inr (.inl ((7 : Int), ())))
                  else
                    some (.inl (((IntKind.i64.wrap (y1.1.1 + (1 : Int))), ()), ()))
                else
                  none
              else
                some (.inl (((IntKind.i64.wrap (y1.1.1 + (1 : Int))), ()), ()))
          else
            none
        else
          some (.inr (.inr ((), ())))) (((0 : Int), ()), ())) fun r => match r with
    | .inl z => some z
    | .inr z2 =>
      some ((0 : Int), ())
def H21 : Hints where
  loop := fun n => match n with
    | 0 => some ({ slots := [(11, (.int .i64))], objs := [], gone := [] }, 0, { slots := [], objs := [], gone := [] })
    | _ => none
  region := fun n => match n with
    | _ => none
  cond := fun n => match n with
    | _ => none
  block := fun n => match n with
    | _ => none
abbrev A21 : Tys := (.cons (.slice TY4) .nil)
def ts21 : List (Nat × TD) := [(3, (.data (.int .i64))), (9, (.data .str)), (25, (.data (.int .i64))), (48, (.data (.slice TY4))), (53, (.data TY4))]
noncomputable def fs21 (g44 : TT5 → (Int)) : List (Nat × FSem) := [(44, .fn (.cons TY4 .nil) (.cons (.int .i64) .nil) fun x => ((g44 x.1), ()))]
noncomputable def body21 : Code := match Tryd.f21.body with | some c => c | none => .skip
theorem ty21 : chkTypes Tryd.prog ts21 = true := by kernel_rfl
theorem ev21 (g44 : TT5 → (Int)) (k : Nat) (x : ((.cons (.slice TY4) .nil) : Tys).den) : evFun (mkEnv ts21 (fs21 g44)) H21 k body21 35 [.tmp 2] (explodes (.cons (.slice TY4) .nil) x) [] (dec (.cons (.int .i64) .nil)) = f21 g44 k x.1 := by kernel_rfl
/-! ### jitney/jitref2.meet -/
def f45  (k : Nat) (x0 : TT5) (x1 : TT5) : Option (Bool × Unit) :=
  some ((decide ((if (decide (x1.2.2.2.2.1 > x0.2.2.2.2.1)) then x1.2.2.2.2.1 else x0.2.2.2.2.1) < (if (decide (x1.2.2.2.2.2.1 < x0.2.2.2.2.2.1)) then x1.2.2.2.2.2.1 else x0.2.2.2.2.2.1))), ())
def H45 : Hints where
  loop := fun n => match n with
    | _ => none
  region := fun n => match n with
    | _ => none
  cond := fun n => match n with
    | _ => none
  block := fun n => match n with
    | _ => none
abbrev A45 : Tys := (.cons TY4 (.cons TY4 .nil))
def ts45 : List (Nat × TD) := [(3, (.data (.int .i64))), (4, (.data .bool)), (53, (.data TY4))]
noncomputable def fs45  : List (Nat × FSem) := []
noncomputable def body45 : Code := match Tryd.f45.body with | some c => c | none => .skip
theorem ty45 : chkTypes Tryd.prog ts45 = true := by kernel_rfl
theorem ev45  (k : Nat) (x : ((.cons TY4 (.cons TY4 .nil)) : Tys).den) : evFun (mkEnv ts45 (fs45 )) H45 k body45 16 [.tmp 4] (explodes (.cons TY4 (.cons TY4 .nil)) x) [] (dec (.cons .bool .nil)) = f45  k x.1 x.2.1 := by kernel_rfl
/-! ### jitney/jitref2.TwiceOf -/
def f22 (g45 : TT5 → TT5 → (Bool)) (k : Nat) (x0 : List TT5) : Option ((List TT3) × Unit) :=
  Option.bind (α := ((List TT3) × Unit) ⊕ (((List TT3) × Unit) × (Unit))) (iter (σ := ((List TT3) × Int × Unit) × (Unit)) (τ := ((List TT3) × Unit) ⊕ (((List TT3) × Unit) × (Unit))) k (fun y1 =>
      bif (decide (y1.1.2.1 < ((List.length x0 : Nat) : Int))) then
        bif (inR y1.1.2.1 ((List.length x0 : Nat) : Int)) then
          bif (decide (0 ≤ (IntKind.i64.wrap (y1.1.2.1 + (1 : Int)))) && (decide ((IntKind.i64.wrap (y1.1.2.1 + (1 : Int))) ≤ ((List.length x0 : Nat) : Int)) && decide (((List.length x0 : Nat) : Int) ≤ ((List.length x0 : Nat) : Int)))) then
            Option.bind (α := ((((List TT3) × Int × Unit) × (Unit)) ⊕ (((List TT3) × Unit) ⊕ (((List TT3) × Unit) × (Unit)))) ⊕ (((List TT3) × Unit) × (Unit))) (iter (σ := ((List TT3) × Int × Unit) × (Unit)) (τ := ((((List TT3) × Int × Unit) × (Unit)) ⊕ (((List TT3) × Unit) ⊕ (((List TT3) × Unit) × (Unit)))) ⊕ (((List TT3) × Unit) × (Unit))) k (fun y2 =>
                bif (decide (y2.1.2.1 < ((List.length (List.drop (Int.toNat (IntKind.i64.wrap (y1.1.2.1 + (1 : Int)))) (List.take (Int.toNat ((List.length x0 : Nat) : Int)) x0)) : Nat) : Int))) then
                  bif (inR y2.1.2.1 ((List.length (List.drop (Int.toNat (IntKind.i64.wrap (y1.1.2.1 + (1 : Int)))) (List.take (Int.toNat ((List.length x0 : Nat) : Int)) x0)) : Nat) : Int)) then
                    bif (sEq ((rd (α := TT5) zTT5 x0 y1.1.2.1).2.1) ((rd (α := TT5) zTT5 (List.drop (Int.toNat (IntKind.i64.wrap (y1.1.2.1 + (1 : Int)))) (List.take (Int.toNat ((List.length x0 : Nat) : Int)) x0)) y2.1.2.1).2.1)) then
                      bif (g45 (rd (α := TT5) zTT5 x0 y1.1.2.1) (rd (α := TT5) zTT5 (List.drop (Int.toNat (IntKind.i64.wrap (y1.1.2.1 + (1 : Int)))) (List.take (Int.toNat ((List.length x0 : Nat) : Int)) x0)) y2.1.2.1)) then
                        bif decide (List.length y2.1.1 + List.length ([((rd (α := TT5) zTT5 x0 y1.1.2.1).1, (rd (α := TT5) zTT5 (List.drop (Int.toNat (IntKind.i64.wrap (y1.1.2.1 + (1 : Int)))) (List.take (Int.toNat ((List.length x0 : Nat) : Int)) x0)) y2.1.2.1).1, ())]) ≤ 4294967296) then
                          some (.inl (((y2.1.1 ++ [((rd (α := TT5) zTT5 x0 y1.1.2.1).1, (rd (α := TT5) zTT5 (List.drop (Int.toNat (IntKind.i64.wrap (y1.1.2.1 + (1 : Int)))) (List.take (Int.toNat ((List.length x0 : Nat) : Int)) x0)) y2.1.2.1).1, ())]), (IntKind.i64.wrap (y2.1.2.1 + (1 : Int))), ()), ()))
                        else
                          none
                      else
                        some (.inl ((y2.1.1, (IntKind.i64.wrap (y2.1.2.1 + (1 : Int))), ()), ()))
                    else
                      some (.inl ((y2.1.1, (IntKind.i64.wrap (y2.1.2.1 + (1 : Int))), ()), ()))
                  else
                    none
                else
                  some (.inr (.inr ((y2.1.1, ()), ())))) ((y1.1.1, (0 : Int), ()), ())) fun r => match r with
            | .inl z => some z
            | .inr z3 =>
              some (.inl ((z3.1.1, (IntKind.i64.wrap (y1.1.2.1 + (1 : Int))), ()), ()))
          else
            none
        else
          none
      else
        some (.inr (.inr ((y1.1.1, ()), ())))) (([], (0 : Int), ()), ())) fun r => match r with
  | .inl z => some z
  | .inr z4 =>
    some (z4.1.1, ())
def H22 : Hints where
  loop := fun n => match n with
    | 0 => some ({ slots := [(3, (.row TY0)), (10, (.int .i64))], objs := [], gone := [] }, 0, { slots := [(3, (.row TY0))], objs := [], gone := [] })
    | 2 => some ({ slots := [(3, (.row TY0)), (20, (.int .i64))], objs := [], gone := [0] }, 2, { slots := [(3, (.row TY0))], objs := [], gone := [0] })
    | _ => none
  region := fun n => match n with
    | _ => none
  cond := fun n => match n with
    | _ => none
  block := fun n => match n with
    | _ => none
abbrev A22 : Tys := (.cons (.slice TY4) .nil)
def ts22 : List (Nat × TD) := [(3, (.data (.int .i64))), (9, (.data .str)), (24, (.data (.slice TY0))), (45, (.data TY0)), (48, (.data (.slice TY4))), (53, (.data TY4))]
noncomputable def fs22 (g45 : TT5 → TT5 → (Bool)) : List (Nat × FSem) := [(45, .fn (.cons TY4 (.cons TY4 .nil)) (.cons .bool .nil) fun x => ((g45 x.1 x.2.1), ()))]
noncomputable def body22 : Code := match Tryd.f22.body with | some c => c | none => .skip
theorem ty22 : chkTypes Tryd.prog ts22 = true := by kernel_rfl
theorem ev22 (g45 : TT5 → TT5 → (Bool)) (k : Nat) (x : ((.cons (.slice TY4) .nil) : Tys).den) : evFun (mkEnv ts22 (fs22 g45)) H22 k body22 45 [.tmp 2] (explodes (.cons (.slice TY4) .nil) x) [] (dec (.cons (.slice TY0) .nil)) = f22 g45 k x.1 := by kernel_rfl
/-! ### jitney/request.CheckRooms -/
def f23 (g40 : Int → Int → Int → (Bool)) (k : Nat) (x0 : List TT4) : Option (Int × Unit) :=
  bif (decide (((List.length x0 : Nat) : Int) > (200 : Int))) then
    some ((2 : Int), ())
  else
    Option.bind (α := (Int × Unit) ⊕ ((Unit) × (Unit))) (iter (σ := (Int × Unit) × (Unit)) (τ := (Int × Unit) ⊕ ((Unit) × (Unit))) k (fun y1 =>
        bif (decide (y1.1.1 < ((List.length x0 : Nat) : Int))) then
          bif (inR y1.1.1 ((List.length x0 : Nat) : Int)) then
            bif (g40 ((rd (α := TT4) zTT4 x0 y1.1.1).1.1) (0 : Int) (345686400000 : Int)) then
              some (.inr (.inl ((1 : Int), ())))
            else
              bif (decide ((rd (α := TT4) zTT4 x0 y1.1.1).1.1 ≥ (rd (α := TT4) zTT4 x0 y1.1.1).1.2.1)) then
                some (.inr (.inl ((1 : Int), ())))
              else
                bif (decide ((rd (α := TT4) zTT4 x0 y1.1.1).1.2.1 > (345686400000 : Int))) then
                  some (.inr (.inl ((1 : Int), ())))
                else
                  bif (g40 ((rd (α := TT4) zTT4 x0 y1.1.1).2.1) (0 : Int) (1000000 : Int)) then
                    some (.inr (.inl ((1 : Int), ())))
                  else
                    bif (decide (y1.1.1 > (0 : Int))) then
                      bif (inR (IntKind.i64.wrap (y1.1.1 - (1 : Int))) ((List.length x0 : Nat) : Int)) then
                        bif (decide ((rd (α := TT4) zTT4 x0 y1.1.1).1.1 < (rd (α := TT4) zTT4 x0 (IntKind.i64.wrap (y1.1.1 - (1 : Int)))).1.2.1)) then
                          some (.inr (.inl ((7 : Int), ())))
                        else
                          some (.inl (((IntKind.i64.wrap (y1.1.1 + (1 : Int))), ()), ()))
                      else
                        none
                    else
                      some (.inl (((IntKind.i64.wrap (y1.1.1 + (1 : Int))), ()), ()))
          else
            none
        else
          some (.inr (.inr ((), ())))) (((0 : Int), ()), ())) fun r => match r with
    | .inl z => some z
    | .inr z2 =>
      some ((0 : Int), ())
def H23 : Hints where
  loop := fun n => match n with
    | 0 => some ({ slots := [(10, (.int .i64))], objs := [], gone := [] }, 0, { slots := [], objs := [], gone := [] })
    | _ => none
  region := fun n => match n with
    | _ => none
  cond := fun n => match n with
    | _ => none
  block := fun n => match n with
    | _ => none
abbrev A23 : Tys := (.cons (.slice TY3) .nil)
def ts23 : List (Nat × TD) := [(3, (.data (.int .i64))), (25, (.data (.int .i64))), (30, (.data TY1)), (49, (.data (.slice TY3))), (59, (.data TY3))]
noncomputable def fs23 (g40 : Int → Int → Int → (Bool)) : List (Nat × FSem) := [(40, .fn (.cons (.int .i64) (.cons (.int .i64) (.cons (.int .i64) .nil))) (.cons .bool .nil) fun x => ((g40 x.1 x.2.1 x.2.2.1), ()))]
noncomputable def body23 : Code := match Tryd.f23.body with | some c => c | none => .skip
theorem ty23 : chkTypes Tryd.prog ts23 = true := by kernel_rfl
theorem ev23 (g40 : Int → Int → Int → (Bool)) (k : Nat) (x : ((.cons (.slice TY3) .nil) : Tys).den) : evFun (mkEnv ts23 (fs23 g40)) H23 k body23 57 [.tmp 2] (explodes (.cons (.slice TY3) .nil) x) [] (dec (.cons (.int .i64) .nil)) = f23 g40 k x.1 := by kernel_rfl
/-! ### slices.Clone[[]jitney/api.Room,jitney/api.Room] -/
def f24  (k : Nat) (x0 : List TT4) : Option ((List TT4) × Unit) :=
  bif Nat.ble (List.length x0) 0 then
    none
  else
    bif decide (List.length ([] : List TT4) + List.length x0 ≤ 4294967296) then
      some ((([] : List TT4) ++ x0), ())
    else
      none
def H24 : Hints where
  loop := fun n => match n with
    | _ => none
  region := fun n => match n with
    | _ => none
  cond := fun n => match n with
    | _ => none
  block := fun n => match n with
    | _ => none
def ts24 : List (Nat × TD) := [(49, (.data (.slice TY3)))]
noncomputable def fs24  : List (Nat × FSem) := []
noncomputable def body24 : Code := match Tryd.f24.body with | some c => c | none => .skip
theorem ty24 : chkTypes Tryd.prog ts24 = true := by kernel_rfl
theorem ev24  (k : Nat) (x : ((.cons (.slice TY3) .nil) : Tys).den) : evFun (mkEnv ts24 (fs24 )) H24 k body24 8 [.tmp 2] (explodes (.cons (.slice TY3) .nil) x) [] (dec (.cons (.slice TY3) .nil)) = f24  k x.1 := by kernel_rfl
def s24 (l : List TT4) : Option ((List TT4) × Unit) := if l.length ≤ 4294967296 then some (l, ()) else none
/-! ### jitney/jitref2.RoomsFault -/
def f25 (g31 : Int → Int → Int → (Bool)) (k : Nat) (x0 : List TT4) : Option (Int × Unit) :=
  bif (decide (((List.length x0 : Nat) : Int) > (200 : Int))) then
    some ((2 : Int), ())
  else
    Option.bind (α := (Int × Unit) ⊕ ((Unit) × (Unit))) (iter (σ := (Int × Unit) × (Unit)) (τ := (Int × Unit) ⊕ ((Unit) × (Unit))) k (fun y1 =>
        bif (decide (y1.1.1 < ((List.length x0 : Nat) : Int))) then
          bif (inR y1.1.1 ((List.length x0 : Nat) : Int)) then
            bif (decide ((rd (α := TT4) zTT4 x0 y1.1.1).1.1 < (0 : Int))) then
              some (.inr (.inl ((1 : Int), ())))
            else
              bif (decide ((rd (α := TT4) zTT4 x0 y1.1.1).1.1 ≥ (rd (α := TT4) zTT4 x0 y1.1.1).1.2.1)) then
                some (.inr (.inl ((1 : Int), ())))
              else
                bif (decide ((rd (α := TT4) zTT4 x0 y1.1.1).1.2.1 > (345686400000 : Int))) then
                  some (.inr (.inl ((1 : Int), ())))
                else
                  bif (!(g31 ((rd (α := TT4) zTT4 x0 y1.1.1).2.1) (0 : Int) (1000000 : Int))) then
                    some (.inr (.inl ((1 : Int), ())))
                  else
                    bif (decide (y1.1.1 > (0 : Int))) then
                      bif (inR (IntKind.i64.wrap (y1.1.1 - (1 : Int))) ((List.length x0 : Nat) : Int)) then
                        bif (decide ((rd (α := TT4) zTT4 x0 y1.1.1).1.1 < (rd (α := TT4) zTT4 x0 (IntKind.i64.wrap (y1.1.1 - (1 : Int)))).1.2.1)) then
                          some (.inr (.inl ((7 : Int), ())))
                        else
                          some (.inl (((IntKind.i64.wrap (y1.1.1 + (1 : Int))), ()), ()))
                      else
                        none
                    else
                      some (.inl (((IntKind.i64.wrap (y1.1.1 + (1 : Int))), ()), ()))
          else
            none
        else
          some (.inr (.inr ((), ())))) (((0 : Int), ()), ())) fun r => match r with
    | .inl z => some z
    | .inr z2 =>
      some ((0 : Int), ())
def H25 : Hints where
  loop := fun n => match n with
    | 0 => some ({ slots := [(10, (.int .i64))], objs := [], gone := [] }, 0, { slots := [], objs := [], gone := [] })
    | _ => none
  region := fun n => match n with
    | _ => none
  cond := fun n => match n with
    | _ => none
  block := fun n => match n with
    | _ => none
abbrev A25 : Tys := (.cons (.slice TY3) .nil)
def ts25 : List (Nat × TD) := [(3, (.data (.int .i64))), (25, (.data (.int .i64))), (30, (.data TY1)), (49, (.data (.slice TY3))), (59, (.data TY3))]
noncomputable def fs25 (g31 : Int → Int → Int → (Bool)) : List (Nat × FSem) := [(31, .fn (.cons (.int .i64) (.cons (.int .i64) (.cons (.int .i64) .nil))) (.cons .bool .nil) fun x => ((g31 x.1 x.2.1 x.2.2.1), ()))]
noncomputable def body25 : Code := match Tryd.f25.body with | some c => c | none => .skip
theorem ty25 : chkTypes Tryd.prog ts25 = true := by kernel_rfl
theorem ev25 (g31 : Int → Int → Int → (Bool)) (k : Nat) (x : ((.cons (.slice TY3) .nil) : Tys).den) : evFun (mkEnv ts25 (fs25 g31)) H25 k body25 58 [.tmp 2] (explodes (.cons (.slice TY3) .nil) x) [] (dec (.cons (.int .i64) .nil)) = f25 g31 k x.1 := by kernel_rfl
/-! ### jitney/request.changesFault -/
def f83 (g40 : Int → Int → Int → (Bool)) (k : Nat) (x0 : List TT2) : Option (Int × Unit) :=
  bif (decide (((List.length x0 : Nat) : Int) > (200 : Int))) then
    some ((2 : Int), ())
  else
    Option.bind (α := (Int × Unit) ⊕ ((Unit) × (Unit))) (iter (σ := (Int × Unit) × (Unit)) (τ := (Int × Unit) ⊕ ((Unit) × (Unit))) k (fun y1 =>
        bif (decide (y1.1.1 < ((List.length x0 : Nat) : Int))) then
          bif (inR y1.1.1 ((List.length x0 : Nat) : Int)) then
            bif (g40 ((rd (α := TT2) zTT2 x0 y1.1.1).1) (0 : Int) (4000 : Int)) then
              some (.inr (.inl ((1 : Int), ())))
            else
              bif (g40 ((rd (α := TT2) zTT2 x0 y1.1.1).2.2.1) (-1440 : Int) (1440 : Int)) then
                some (.inr (.inl ((1 : Int), ())))
              else
                bif (!((rd (α := TT2) zTT2 x0 y1.1.1).2.1 == ((rd (α := TT2) zTT2 x0 y1.1.1).2.2.1 == (0 : Int)))) then
                  some (.inr (.inl ((3 : Int), ())))
                else
                  bif (decide (y1.1.1 > (0 : Int))) then
                    bif (inR (IntKind.i64.wrap (y1.1.1 - (1 : Int))) ((List.length x0 : Nat) : Int)) then
                      bif (decide ((rd (α := TT2) zTT2 x0 y1.1.1).1 ≤ (rd (α := TT2) zTT2 x0 (IntKind.i64.wrap (y1.1.1 - (1 : Int)))).1)) then
                        some (.inr (.inl ((7 : Int), ())))
                      else
                        some (.inl (((IntKind.i64.wrap (y1.1.1 + (1 : Int))), ()), ()))
                    else
                      none
                  else
                    some (.inl (((IntKind.i64.wrap (y1.1.1 + (1 : Int))), ()), ()))
          else
            none
        else
          some (.inr (.inr ((), ())))) (((0 : Int), ()), ())) fun r => match r with
    | .inl z => some z
    | .inr z2 =>
      some ((0 : Int), ())
def H83 : Hints where
  loop := fun n => match n with
    | 0 => some ({ slots := [(10, (.int .i64))], objs := [], gone := [] }, 0, { slots := [], objs := [], gone := [] })
    | _ => none
  region := fun n => match n with
    | _ => none
  cond := fun n => match n with
    | _ => none
  block := fun n => match n with
    | _ => none
abbrev A83 : Tys := (.cons (.slice TY2) .nil)
def ts83 : List (Nat × TD) := [(3, (.data (.int .i64))), (4, (.data .bool)), (25, (.data (.int .i64))), (88, (.data (.slice TY2))), (118, (.data TY2))]
noncomputable def fs83 (g40 : Int → Int → Int → (Bool)) : List (Nat × FSem) := [(40, .fn (.cons (.int .i64) (.cons (.int .i64) (.cons (.int .i64) .nil))) (.cons .bool .nil) fun x => ((g40 x.1 x.2.1 x.2.2.1), ()))]
noncomputable def body83 : Code := match Tryd.f83.body with | some c => c | none => .skip
theorem ty83 : chkTypes Tryd.prog ts83 = true := by kernel_rfl
theorem ev83 (g40 : Int → Int → Int → (Bool)) (k : Nat) (x : ((.cons (.slice TY2) .nil) : Tys).den) : evFun (mkEnv ts83 (fs83 g40)) H83 k body83 46 [.tmp 2] (explodes (.cons (.slice TY2) .nil) x) [] (dec (.cons (.int .i64) .nil)) = f83 g40 k x.1 := by kernel_rfl
/-! ### jitney/request.seriesFault -/
def f69 (g40 : Int → Int → Int → (Bool)) (g57 : (List ByteArray) → (Bool)) (g83 : (List TT2) → Option (Int × Unit)) (k : Nat) (x0 : (ByteArray × ByteArray × ByteArray × ByteArray × Int × Int × Int × Int × Int × Int × Int × Int × Int × (List TT2) × Unit)) : Option (Int × Unit) :=
  bif (!(g57 ([x0.1, x0.2.1, x0.2.2.1, x0.2.2.2.1]))) then
    some ((5 : Int), ())
  else
    bif (decide (((ByteArray.size x0.1 : Nat) : Int) > (30 : Int))) then
      some ((2 : Int), ())
    else
      bif (sEq x0.2.2.1 x0.2.2.2.1) then
        some ((6 : Int), ())
      else
        bif (g40 x0.2.2.2.2.1 (0 : Int) x0.2.2.2.2.2.1) then
          some ((1 : Int), ())
        else
          bif (decide (x0.2.2.2.2.2.1 > (4000 : Int))) then
            some ((1 : Int), ())
          else
            bif (g40 x0.2.2.2.2.2.2.1 (1 : Int) (52 : Int)) then
              some ((1 : Int), ())
            else
              bif (g40 x0.2.2.2.2.2.2.2.1 (1 : Int) (127 : Int)) then
                some ((1 : Int), ())
              else
                bif (g40 x0.2.2.2.2.2.2.2.2.1 (0 : Int) (1439 : Int)) then
                  some ((1 : Int), ())
                else
                  bif (g40 x0.2.2.2.2.2.2.2.2.2.1 (IntKind.i64.wrap (x0.2.2.2.2.2.2.2.2.1 + (1 : Int))) (2880 : Int)) then
                    some ((1 : Int), ())
                  else
                    bif (g40 x0.2.2.2.2.2.2.2.2.2.2.1 (-1440 : Int) (1440 : Int)) then
                      some ((1 : Int), ())
                    else
                      bif (g40 x0.2.2.2.2.2.2.2.2.2.2.2.1 (0 : Int) (60 : Int)) then
                        some ((1 : Int), ())
                      else
                        bif (g40 x0.2.2.2.2.2.2.2.2.2.2.2.2.1 (0 : Int) (60 : Int)) then
                          some ((1 : Int), ())
                        else
                          bif ((IntKind.i64.wrap (x0.2.2.2.2.2.2.2.2.2.2.2.1 + x0.2.2.2.2.2.2.2.2.2.2.2.2.1)) == (0 : Int)) then
                            some ((3 : Int), ())
                          else
                            Option.bind (g83 x0.2.2.2.2.2.2.2.2.2.2.2.2.2.1) fun v1 =>
                            some (v1.1, ())
def H69 : Hints where
  loop := fun n => match n with
    | _ => none
  region := fun n => match n with
    | _ => none
  cond := fun n => match n with
    | _ => none
  block := fun n => match n with
    | _ => none
abbrev A69 : Tys := (.cons TY5 .nil)
def ts69 : List (Nat × TD) := [(3, (.data (.int .i64))), (9, (.data .str)), (25, (.data (.int .i64))), (68, (.data (.slice .str))), (88, (.data (.slice TY2))), (90, (.data TY5))]
noncomputable def fs69 (g40 : Int → Int → Int → (Bool)) (g57 : (List ByteArray) → (Bool)) (g83 : (List TT2) → Option (Int × Unit)) : List (Nat × FSem) := [(40, .fn (.cons (.int .i64) (.cons (.int .i64) (.cons (.int .i64) .nil))) (.cons .bool .nil) fun x => ((g40 x.1 x.2.1 x.2.2.1), ())), (57, .fn (.cons (.slice .str) .nil) (.cons .bool .nil) fun x => ((g57 x.1), ())), (83, .pfn (.cons (.slice TY2) .nil) (.cons (.int .i64) .nil) fun x => (g83 x.1))]
noncomputable def body69 : Code := match Tryd.f69.body with | some c => c | none => .skip
theorem ty69 : chkTypes Tryd.prog ts69 = true := by kernel_rfl
theorem ev69 (g40 : Int → Int → Int → (Bool)) (g57 : (List ByteArray) → (Bool)) (g83 : (List TT2) → Option (Int × Unit)) (k : Nat) (x : ((.cons TY5 .nil) : Tys).den) : evFun (mkEnv ts69 (fs69 g40 g57 g83)) H69 k body69 83 [.tmp 2] (explodes (.cons TY5 .nil) x) [] (dec (.cons (.int .i64) .nil)) = f69 g40 g57 g83 k x.1 := by kernel_rfl
/-! ### jitney/request.CheckSeries -/
def f58 (g69 : (ByteArray × ByteArray × ByteArray × ByteArray × Int × Int × Int × Int × Int × Int × Int × Int × Int × (List TT2) × Unit) → Option (Int × Unit)) (k : Nat) (x0 : List (ByteArray × ByteArray × ByteArray × ByteArray × Int × Int × Int × Int × Int × Int × Int × Int × Int × (List TT2) × Unit)) : Option (Int × Unit) :=
  bif (decide (((List.length x0 : Nat) : Int) > (100 : Int))) then
    some ((2 : Int), ())
  else
    Option.bind (α := (Int × Unit) ⊕ ((Unit) × (Unit))) (iter (σ := (Int × Unit) × (Unit)) (τ := (Int × Unit) ⊕ ((Unit) × (Unit))) k (fun y1 =>
        bif (decide (y1.1.1 < ((List.length x0 : Nat) : Int))) then
          bif (inR y1.1.1 ((List.length x0 : Nat) : Int)) then
            Option.bind (g69 (rd (α := (ByteArray × ByteArray × ByteArray × ByteArray × Int × Int × Int × Int × Int × Int × Int × Int × Int × (List TT2) × Unit)) (ByteArray.empty, ByteArray.empty, ByteArray.empty, ByteArray.empty, (0 : Int), (0 : Int), (0 : Int), (0 : Int), (0 : Int), (0 : Int), (0 : Int), (0 : Int), (0 : Int), ([] : List TT2), ()) x0 y1.1.1)) fun v2 =>
            bif (v2.1 != (0 : Int)) then
              some (.inr (.inl (v2.1, ())))
            else
              bif (decide (y1.1.1 > (0 : Int))) then
                bif (inR (IntKind.i64.wrap (y1.1.1 - (1 : Int))) ((List.length x0 : Nat) : Int)) then
                  bif ((sLt ((rd (α := (ByteArray × ByteArray × ByteArray × ByteArray × Int × Int × Int × Int × Int × Int × Int × Int × Int × (List TT2) × Unit)) (ByteArray.empty, ByteArray.empty, ByteArray.empty, ByteArray.empty, (0 : Int), (0 : Int), (0 : Int), (0 : Int), (0 : Int), (0 : Int), (0 : Int), (0 : Int), (0 : Int), ([] : List TT2), ()) x0 y1.1.1).1) ((rd (α := (ByteArray × ByteArray × ByteArray × ByteArray × Int × Int × Int × Int × Int × Int × Int × Int × Int × (List TT2) × Unit)) (ByteArray.empty, ByteArray.empty, ByteArray.empty, ByteArray.empty, (0 : Int), (0 : Int), (0 : Int), (0 : Int), (0 : Int), (0 : Int), (0 : Int), (0 : Int), (0 : Int), ([] : List TT2), ()) x0 (IntKind.i64.wrap (y1.1.1 - (1 : Int)))).1)) || (sEq ((rd (α := (ByteArray × ByteArray × ByteArray × ByteArray × Int × Int × Int × Int × Int × Int × Int × Int × Int × (List TT2) × Unit)) (ByteArray.empty, ByteArray.empty, ByteArray.empty, ByteArray.empty, (0 : Int), (0 : Int), (0 : Int), (0 : Int), (0 : Int), (0 : Int), (0 : Int), (0 : Int), (0 : Int), ([] : List TT2), ()) x0 y1.1.1).1) ((rd (α := (ByteArray × ByteArray × ByteArray × ByteArray × Int × Int × Int × Int × Int × Int × Int × Int × Int × (List TT2) × Unit)) (ByteArray.empty, ByteArray.empty, ByteArray.empty, ByteArray.empty, (0 : Int), (0 : Int), (0 : Int), (0 : Int), (0 : Int), (0 : Int), (0 : Int), (0 : Int), (0 : Int), ([] : List TT2), ()) x0 (IntKind.i64.wrap (y1.1.1 - (1 : Int)))).1))) then
                    some (.inr (.inl ((7 : Int), ())))
                  else
                    some (.inl (((IntKind.i64.wrap (y1.1.1 + (1 : Int))), ()), ()))
                else
                  none
              else
                some (.inl (((IntKind.i64.wrap (y1.1.1 + (1 : Int))), ()), ()))
          else
            none
        else
          some (.inr (.inr ((), ())))) (((0 : Int), ()), ())) fun r => match r with
    | .inl z => some z
    | .inr z3 =>
      some ((0 : Int), ())
def H58 : Hints where
  loop := fun n => match n with
    | 0 => some ({ slots := [(11, (.int .i64))], objs := [], gone := [] }, 0, { slots := [], objs := [], gone := [] })
    | _ => none
  region := fun n => match n with
    | _ => none
  cond := fun n => match n with
    | _ => none
  block := fun n => match n with
    | _ => none
abbrev A58 : Tys := (.cons (.slice TY5) .nil)
def ts58 : List (Nat × TD) := [(3, (.data (.int .i64))), (9, (.data .str)), (25, (.data (.int .i64))), (90, (.data TY5)), (102, (.data (.slice TY5)))]
noncomputable def fs58 (g69 : (ByteArray × ByteArray × ByteArray × ByteArray × Int × Int × Int × Int × Int × Int × Int × Int × Int × (List TT2) × Unit) → Option (Int × Unit)) : List (Nat × FSem) := [(69, .pfn (.cons TY5 .nil) (.cons (.int .i64) .nil) fun x => (g69 x.1))]
noncomputable def body58 : Code := match Tryd.f58.body with | some c => c | none => .skip
theorem ty58 : chkTypes Tryd.prog ts58 = true := by kernel_rfl
theorem ev58 (g69 : (ByteArray × ByteArray × ByteArray × ByteArray × Int × Int × Int × Int × Int × Int × Int × Int × Int × (List TT2) × Unit) → Option (Int × Unit)) (k : Nat) (x : ((.cons (.slice TY5) .nil) : Tys).den) : evFun (mkEnv ts58 (fs58 g69)) H58 k body58 35 [.tmp 2] (explodes (.cons (.slice TY5) .nil) x) [] (dec (.cons (.int .i64) .nil)) = f58 g69 k x.1 := by kernel_rfl
/-! ### jitney/request.dayRide$1 -/
def f71 (g39 : Int → Int → (Int)) (k : Nat) (x0 : TT2) (x1 : Int) : Option (Int × Unit) :=
  some ((g39 x0.1 x1), ())
def H71 : Hints where
  loop := fun n => match n with
    | _ => none
  region := fun n => match n with
    | _ => none
  cond := fun n => match n with
    | _ => none
  block := fun n => match n with
    | _ => none
abbrev A71 : Tys := (.cons TY2 (.cons (.int .i64) .nil))
def ts71 : List (Nat × TD) := [(3, (.data (.int .i64))), (118, (.data TY2))]
noncomputable def fs71 (g39 : Int → Int → (Int)) : List (Nat × FSem) := [(39, .fn (.cons (.int .i64) (.cons (.int .i64) .nil)) (.cons (.int .i64) .nil) fun x => ((g39 x.1 x.2.1), ()))]
noncomputable def body71 : Code := match Tryd.f71.body with | some c => c | none => .skip
theorem ty71 : chkTypes Tryd.prog ts71 = true := by kernel_rfl
theorem ev71 (g39 : Int → Int → (Int)) (k : Nat) (x : ((.cons TY2 (.cons (.int .i64) .nil)) : Tys).den) : evFun (mkEnv ts71 (fs71 g39)) H71 k body71 9 [.tmp 4] (explodes (.cons TY2 (.cons (.int .i64) .nil)) x) [] (dec (.cons (.int .i64) .nil)) = f71 g39 k x.1 x.2.1 := by kernel_rfl
/-! ### jitney/request.Days -/
noncomputable def mkEnvX46_59 (ts : List (Nat × TD)) (fs : List (Nat × FSem)) : Env := mkEnvF ts fs [(92, 72), (98, 72)]
theorem mkEnvX46_59_ok {P : Program} {ts : List (Nat × TD)} {fs : List (Nat × FSem)} (h1 : chkTypes P ts = true) (h2 : ∀ p ∈ fs, SoundF P p.1 p.2) : EnvOK P (mkEnvX46_59 ts fs) := mkEnvF_ok h1 h2
def f46 (g30 : Int → Option (ByteArray × Unit)) (g37 : Int → (Bool)) (g58 : (List (ByteArray × ByteArray × ByteArray × ByteArray × Int × Int × Int × Int × Int × Int × Int × Int × Int × (List TT2) × Unit)) → Option (Int × Unit)) (g71 : TT2 → Int → (Int)) (g73 : ByteArray → Int → Option (ByteArray × Unit)) (k : Nat) (x0 : (ByteArray × ByteArray × ByteArray × ByteArray × Int × Int × Int × Int × Int × Int × Int × Int × Int × (List TT2) × Unit)) : Option ((List Int) × Int × Unit) :=
  Option.bind (g58 ([x0])) fun v1 =>
  bif (v1.1 != (0 : Int)) then
    some ([], v1.1, ())
  else
    Option.bind (α := ((List Int) × Int × Unit) ⊕ (((List Int) × Unit) × ((ByteArray × ByteArray × ByteArray × ByteArray × Int × Int × Int × Int × Int × Int × Int × Int × Int × (List TT2) × Unit) × Unit))) (iter (σ := ((List Int) × Int × Unit) × ((ByteArray × ByteArray × ByteArray × ByteArray × Int × Int × Int × Int × Int × Int × Int × Int × Int × (List TT2) × Unit) × Unit)) (τ := ((List Int) × Int × Unit) ⊕ (((List Int) × Unit) × ((ByteArray × ByteArray × ByteArray × ByteArray × Int × Int × Int × Int × Int × Int × Int × Int × Int × (List TT2) × Unit) × Unit))) k (fun y2 =>
        bif (decide (y2.1.2.1 ≤ y2.2.1.2.2.2.2.2.1)) then
          Option.bind (α := ((((List Int) × Int × Unit) × ((ByteArray × ByteArray × ByteArray × ByteArray × Int × Int × Int × Int × Int × Int × Int × Int × Int × (List TT2) × Unit) × Unit)) ⊕ (((List Int) × Int × Unit) ⊕ (((List Int) × Unit) × ((ByteArray × ByteArray × ByteArray × ByteArray × Int × Int × Int × Int × Int × Int × Int × Int × Int × (List TT2) × Unit) × Unit)))) ⊕ ((Bool × Unit) × ((ByteArray × ByteArray × ByteArray × ByteArray × Int × Int × Int × Int × Int × Int × Int × Int × Int × (List TT2) × Unit) × Unit))) (
              bif decide (y2.2.1.2.2.2.2.2.2.1 = 0) then
                none
              else
                bif ((Int.tmod (IntKind.i64.wrap ((IntKind.i64.wrap (Int.tdiv y2.1.2.1 (7 : Int))) - (IntKind.i64.wrap (Int.tdiv y2.2.1.2.2.2.2.1 (7 : Int))))) y2.2.1.2.2.2.2.2.2.1) != (0 : Int)) then
                  some (.inr ((false, ()), ((y2.2.1.1, y2.2.1.2.1, y2.2.1.2.2.1, y2.2.1.2.2.2.1, y2.2.1.2.2.2.2.1, y2.2.1.2.2.2.2.2.1, y2.2.1.2.2.2.2.2.2.1, y2.2.1.2.2.2.2.2.2.2.1, y2.2.1.2.2.2.2.2.2.2.2.1, y2.2.1.2.2.2.2.2.2.2.2.2.1, y2.2.1.2.2.2.2.2.2.2.2.2.2.1, y2.2.1.2.2.2.2.2.2.2.2.2.2.2.1, y2.2.1.2.2.2.2.2.2.2.2.2.2.2.2.1, y2.2.1.2.2.2.2.2.2.2.2.2.2.2.2.2.1, ()), ())))
                else
                  bif decide (0 ≤ (Int.tmod y2.1.2.1 (7 : Int))) then
                    bif ((iand .i64 (Int.fdiv y2.2.1.2.2.2.2.2.2.2.1 ((2 : Int) ^ (min (Int.toNat (Int.tmod y2.1.2.1 (7 : Int))) 64))) (1 : Int)) == (0 : Int)) then
                      some (.inr ((false, ()), ((y2.2.1.1, y2.2.1.2.1, y2.2.1.2.2.1, y2.2.1.2.2.2.1, y2.2.1.2.2.2.2.1, y2.2.1.2.2.2.2.2.1, y2.2.1.2.2.2.2.2.2.1, y2.2.1.2.2.2.2.2.2.2.1, y2.2.1.2.2.2.2.2.2.2.2.1, y2.2.1.2.2.2.2.2.2.2.2.2.1, y2.2.1.2.2.2.2.2.2.2.2.2.2.1, y2.2.1.2.2.2.2.2.2.2.2.2.2.2.1, y2.2.1.2.2.2.2.2.2.2.2.2.2.2.2.1, y2.2.1.2.2.2.2.2.2.2.2.2.2.2.2.2.1, ()), ())))
                    else
                      Option.bind (α := (((((List Int) × Int × Unit) × ((ByteArray × ByteArray × ByteArray × ByteArray × Int × Int × Int × Int × Int × Int × Int × Int × Int × (List TT2) × Unit) × Unit)) ⊕ (((List Int) × Int × Unit) ⊕ (((List Int) × Unit) × ((ByteArray × ByteArray × ByteArray × ByteArray × Int × Int × Int × Int × Int × Int × Int × Int × Int × (List TT2) × Unit) × Unit)))) ⊕ ((Bool × Unit) × ((ByteArray × ByteArray × ByteArray × ByteArray × Int × Int × Int × Int × Int × Int × Int × Int × Int × (List TT2) × Unit) × Unit))) ⊕ (TT1 × (Unit))) (
                          Option.bind (α := ((((((List Int) × Int × Unit) × ((ByteArray × ByteArray × ByteArray × ByteArray × Int × Int × Int × Int × Int × Int × Int × Int × Int × (List TT2) × Unit) × Unit)) ⊕ (((List Int) × Int × Unit) ⊕ (((List Int) × Unit) × ((ByteArray × ByteArray × ByteArray × ByteArray × Int × Int × Int × Int × Int × Int × Int × Int × Int × (List TT2) × Unit) × Unit)))) ⊕ ((Bool × Unit) × ((ByteArray × ByteArray × ByteArray × ByteArray × Int × Int × Int × Int × Int × Int × Int × Int × Int × (List TT2) × Unit) × Unit))) ⊕ (TT1 × (Unit))) ⊕ ((Int × Unit) × (Unit))) (iter (σ := TT0 × (Unit)) (τ := ((((((List Int) × Int × Unit) × ((ByteArray × ByteArray × ByteArray × ByteArray × Int × Int × Int × Int × Int × Int × Int × Int × Int × (List TT2) × Unit) × Unit)) ⊕ (((List Int) × Int × Unit) ⊕ (((List Int) × Unit) × ((ByteArray × ByteArray × ByteArray × ByteArray × Int × Int × Int × Int × Int × Int × Int × Int × Int × (List TT2) × Unit) × Unit)))) ⊕ ((Bool × Unit) × ((ByteArray × ByteArray × ByteArray × ByteArray × Int × Int × Int × Int × Int × Int × Int × Int × Int × (List TT2) × Unit) × Unit))) ⊕ (TT1 × (Unit))) ⊕ ((Int × Unit) × (Unit))) k (fun y3 =>
                              bif (decide (y3.1.1 < y3.1.2.1)) then
                                bif (inR (IntKind.i64.wrap (Int.fdiv (IntKind.u64.wrap (IntKind.i64.wrap (y3.1.1 + y3.1.2.1))) (2 : Int))) ((List.length y2.2.1.2.2.2.2.2.2.2.2.2.2.2.2.2.1 : Nat) : Int)) then
                                  bif (decide ((g71 (rd (α := TT2) zTT2 y2.2.1.2.2.2.2.2.2.2.2.2.2.2.2.2.1 (IntKind.i64.wrap (Int.fdiv (IntKind.u64.wrap (IntKind.i64.wrap (y3.1.1 + y3.1.2.1))) (2 : Int)))) y2.1.2.1) < (0 : Int))) then
                                    some (.inl (((IntKind.i64.wrap ((IntKind.i64.wrap (Int.fdiv (IntKind.u64.wrap (IntKind.i64.wrap (y3.1.1 + y3.1.2.1))) (2 : Int))) + (1 : Int))), y3.1.2.1, ()), ()))
                                  else
                                    some (.inl ((y3.1.1, (IntKind.i64.wrap (Int.fdiv (IntKind.u64.wrap (IntKind.i64.wrap (y3.1.1 + y3.1.2.1))) (2 : Int))), ()), ()))
                                else
                                  none
                              else
                                some (.inr (.inr ((y3.1.1, ()), ())))) (((0 : Int), ((List.length y2.2.1.2.2.2.2.2.2.2.2.2.2.2.2.2.1 : Nat) : Int), ()), ())) fun r => match r with
                          | .inl z => some z
                          | .inr z4 =>
                            bif (decide (z4.1.1 < ((List.length y2.2.1.2.2.2.2.2.2.2.2.2.2.2.2.2.1 : Nat) : Int))) then
                              bif (inR z4.1.1 ((List.length y2.2.1.2.2.2.2.2.2.2.2.2.2.2.2.2.1 : Nat) : Int)) then
                                some (.inr ((z4.1.1, ((g71 (rd (α := TT2) zTT2 y2.2.1.2.2.2.2.2.2.2.2.2.2.2.2.2.1 z4.1.1) y2.1.2.1) == (0 : Int)), ()), ()))
                              else
                                none
                            else
                              some (.inr ((z4.1.1, false, ()), ()))) fun r => match r with
                      | .inl z => some z
                      | .inr y5 =>
                        Option.bind (α := (((((List Int) × Int × Unit) × ((ByteArray × ByteArray × ByteArray × ByteArray × Int × Int × Int × Int × Int × Int × Int × Int × Int × (List TT2) × Unit) × Unit)) ⊕ (((List Int) × Int × Unit) ⊕ (((List Int) × Unit) × ((ByteArray × ByteArray × ByteArray × ByteArray × Int × Int × Int × Int × Int × Int × Int × Int × Int × (List TT2) × Unit) × Unit)))) ⊕ ((Bool × Unit) × ((ByteArray × ByteArray × ByteArray × ByteArray × Int × Int × Int × Int × Int × Int × Int × Int × Int × (List TT2) × Unit) × Unit))) ⊕ ((Unit) × (Int × Unit))) (
                            bif y5.1.2.1 then
                              bif (inR y5.1.1 ((List.length y2.2.1.2.2.2.2.2.2.2.2.2.2.2.2.2.1 : Nat) : Int)) then
                                bif (rd (α := TT2) zTT2 y2.2.1.2.2.2.2.2.2.2.2.2.2.2.2.2.1 y5.1.1).2.1 then
                                  some (.inl (.inr ((false, ()), ((y2.2.1.1, y2.2.1.2.1, y2.2.1.2.2.1, y2.2.1.2.2.2.1, y2.2.1.2.2.2.2.1, y2.2.1.2.2.2.2.2.1, y2.2.1.2.2.2.2.2.2.1, y2.2.1.2.2.2.2.2.2.2.1, y2.2.1.2.2.2.2.2.2.2.2.1, y2.2.1.2.2.2.2.2.2.2.2.2.1, y2.2.1.2.2.2.2.2.2.2.2.2.2.1, y2.2.1.2.2.2.2.2.2.2.2.2.2.2.1, y2.2.1.2.2.2.2.2.2.2.2.2.2.2.2.1, y2.2.1.2.2.2.2.2.2.2.2.2.2.2.2.2.1, ()), ()))))
                                else
                                  bif (inR y5.1.1 ((List.length y2.2.1.2.2.2.2.2.2.2.2.2.2.2.2.2.1 : Nat) : Int)) then
                                    some (.inr ((), ((rd (α := TT2) zTT2 y2.2.1.2.2.2.2.2.2.2.2.2.2.2.2.2.1 y5.1.1).2.2.1, ())))
                                  else
                                    none
                              else
                                none
                            else
                              some (.inr ((), ((0 : Int), ())))) fun r => match r with
                        | .inl z => some z
                        | .inr y6 =>
                          Option.bind (g30 y2.1.2.1) fun v7 =>
                          bif decide (ByteArray.size y2.2.1.1 + ByteArray.size (ByteArray.mk #[45]) < 4611686018427387904) then
                            Option.bind (g73 (ByteArray.mk #[48]) (IntKind.i64.wrap ((4 : Int) - ((ByteArray.size v7.1 : Nat) : Int)))) fun v8 =>
                            bif decide (ByteArray.size (y2.2.1.1 ++ (ByteArray.mk #[45])) + ByteArray.size v8.1 < 4611686018427387904) then
                              bif decide (ByteArray.size ((y2.2.1.1 ++ (ByteArray.mk #[45])) ++ v8.1) + ByteArray.size v7.1 < 4611686018427387904) then
                                bif (g37 (IntKind.i64.wrap ((IntKind.i64.wrap (y2.1.2.1 * (86400000 : Int))) + (IntKind.i64.wrap ((IntKind.i64.wrap ((IntKind.i64.wrap (y2.2.1.2.2.2.2.2.2.2.2.1 - y2.2.1.2.2.2.2.2.2.2.2.2.2.1)) + y6.2.1)) * (60000 : Int)))))) then
                                  some (.inr (((decide ((IntKind.i64.wrap ((IntKind.i64.wrap (y2.1.2.1 * (86400000 : Int))) + (IntKind.i64.wrap ((IntKind.i64.wrap ((IntKind.i64.wrap (y2.2.1.2.2.2.2.2.2.2.2.2.1 - y2.2.1.2.2.2.2.2.2.2.2.2.2.1)) + y6.2.1)) * (60000 : Int))))) ≤ (345686400000 : Int))), ()), ((y2.2.1.1, y2.2.1.2.1, y2.2.1.2.2.1, y2.2.1.2.2.2.1, y2.2.1.2.2.2.2.1, y2.2.1.2.2.2.2.2.1, y2.2.1.2.2.2.2.2.2.1, y2.2.1.2.2.2.2.2.2.2.1, y2.2.1.2.2.2.2.2.2.2.2.1, y2.2.1.2.2.2.2.2.2.2.2.2.1, y2.2.1.2.2.2.2.2.2.2.2.2.2.1, y2.2.1.2.2.2.2.2.2.2.2.2.2.2.1, y2.2.1.2.2.2.2.2.2.2.2.2.2.2.2.1, y2.2.1.2.2.2.2.2.2.2.2.2.2.2.2.2.1, ()), ())))
                                else
                                  some (.inr ((false, ()), ((y2.2.1.1, y2.2.1.2.1, y2.2.1.2.2.1, y2.2.1.2.2.2.1, y2.2.1.2.2.2.2.1, y2.2.1.2.2.2.2.2.1, y2.2.1.2.2.2.2.2.2.1, y2.2.1.2.2.2.2.2.2.2.1, y2.2.1.2.2.2.2.2.2.2.2.1, y2.2.1.2.2.2.2.2.2.2.2.2.1, y2.2.1.2.2.2.2.2.2.2.2.2.2.1, y2.2.1.2.2.2.2.2.2.2.2.2.2.2.1, y2.2.1.2.2.2.2.2.2.2.2.2.2.2.2.1, y2.2.1.2.2.2.2.2.2.2.2.2.2.2.2.2.1, ()), ())))
                              else
                                none
                            else
                              none
                          else
                            none
                  else
                    none) fun r => match r with
          | .inl z => some z
          | .inr y9 =>
            bif y9.1.1 then
              bif decide (List.length y2.1.1 + List.length ([y2.1.2.1]) ≤ 4294967296) then
                some (.inl (((y2.1.1 ++ [y2.1.2.1]), (IntKind.i64.wrap (y2.1.2.1 + (1 : Int))), ()), ((y9.2.1.1, y9.2.1.2.1, y9.2.1.2.2.1, y9.2.1.2.2.2.1, y9.2.1.2.2.2.2.1, y9.2.1.2.2.2.2.2.1, y9.2.1.2.2.2.2.2.2.1, y9.2.1.2.2.2.2.2.2.2.1, y9.2.1.2.2.2.2.2.2.2.2.1, y9.2.1.2.2.2.2.2.2.2.2.2.1, y9.2.1.2.2.2.2.2.2.2.2.2.2.1, y9.2.1.2.2.2.2.2.2.2.2.2.2.2.1, y9.2.1.2.2.2.2.2.2.2.2.2.2.2.2.1, y9.2.1.2.2.2.2.2.2.2.2.2.2.2.2.2.1, ()), ())))
              else
                none
            else
              some (.inl ((y2.1.1, (IntKind.i64.wrap (y2.1.2.1 + (1 : Int))), ()), ((y9.2.1.1, y9.2.1.2.1, y9.2.1.2.2.1, y9.2.1.2.2.2.1, y9.2.1.2.2.2.2.1, y9.2.1.2.2.2.2.2.1, y9.2.1.2.2.2.2.2.2.1, y9.2.1.2.2.2.2.2.2.2.1, y9.2.1.2.2.2.2.2.2.2.2.1, y9.2.1.2.2.2.2.2.2.2.2.2.1, y9.2.1.2.2.2.2.2.2.2.2.2.2.1, y9.2.1.2.2.2.2.2.2.2.2.2.2.2.1, y9.2.1.2.2.2.2.2.2.2.2.2.2.2.2.1, y9.2.1.2.2.2.2.2.2.2.2.2.2.2.2.2.1, ()), ())))
        else
          some (.inr (.inr ((y2.1.1, ()), ((y2.2.1.1, y2.2.1.2.1, y2.2.1.2.2.1, y2.2.1.2.2.2.1, y2.2.1.2.2.2.2.1, y2.2.1.2.2.2.2.2.1, y2.2.1.2.2.2.2.2.2.1, y2.2.1.2.2.2.2.2.2.2.1, y2.2.1.2.2.2.2.2.2.2.2.1, y2.2.1.2.2.2.2.2.2.2.2.2.1, y2.2.1.2.2.2.2.2.2.2.2.2.2.1, y2.2.1.2.2.2.2.2.2.2.2.2.2.2.1, y2.2.1.2.2.2.2.2.2.2.2.2.2.2.2.1, y2.2.1.2.2.2.2.2.2.2.2.2.2.2.2.2.1, ()), ()))))) (([], x0.2.2.2.2.1, ()), (x0, ()))) fun r => match r with
    | .inl z => some z
    | .inr z10 =>
      some (z10.1.1, (0 : Int), ())
def H46 : Hints where
  loop := fun n => match n with
    | 0 => some ({ slots := [(5, (.row (.int .i64))), (6, (.int .i64))], objs := [(0, (.box (.data TY5) (.agg (.cons .str (.cons .str (.cons .str (.cons .str (.cons (.int .i64) (.cons (.int .i64) (.cons (.int .i64) (.cons (.int .i64) (.cons (.int .i64) (.cons (.int .i64) (.cons (.int .i64) (.cons (.int .i64) (.cons (.int .i64) (.cons (.sl TY2) .nil)))))))))))))))))], gone := [] }, 0, { slots := [(5, (.row (.int .i64)))], objs := [(0, (.box (.data TY5) (.agg (.cons .str (.cons .str (.cons .str (.cons .str (.cons (.int .i64) (.cons (.int .i64) (.cons (.int .i64) (.cons (.int .i64) (.cons (.int .i64) (.cons (.int .i64) (.cons (.int .i64) (.cons (.int .i64) (.cons (.int .i64) (.cons (.sl TY2) .nil)))))))))))))))))], gone := [] })
    | _ => none
  region := fun n => match n with
    | 8 => some { slots := [(8, .bool)], objs := [(0, (.box (.data TY5) (.agg (.cons .str (.cons .str (.cons .str (.cons .str (.cons (.int .i64) (.cons (.int .i64) (.cons (.int .i64) (.cons (.int .i64) (.cons (.int .i64) (.cons (.int .i64) (.cons (.int .i64) (.cons (.int .i64) (.cons (.int .i64) (.cons (.sl TY2) .nil)))))))))))))))))], gone := [] }
    | _ => none
  cond := fun n => match n with
    | _ => none
  block := fun n => match n with
    | _ => none
def Hi46_70 : Hints where
  loop := fun n => match n with
    | 0 => some ({ slots := [(9, (.int .i64)), (10, (.int .i64))], objs := [], gone := [] }, 0, { slots := [(9, (.int .i64))], objs := [], gone := [] })
    | _ => none
  region := fun n => match n with
    | _ => none
  cond := fun n => match n with
    | _ => none
  block := fun n => match n with
    | _ => none
def tsi46_70 : List (Nat × TD) := [(3, (.data (.int .i64))), (88, (.data (.slice TY2))), (118, (.data TY2)), (131, (.data (.int .u64)))]
noncomputable def bodyi46_70 : Code := match Tryd.f70.body with | some c => c | none => .skip
noncomputable def fsi46_70 (g30 : Int → Option (ByteArray × Unit)) (g37 : Int → (Bool)) (g58 : (List (ByteArray × ByteArray × ByteArray × ByteArray × Int × Int × Int × Int × Int × Int × Int × Int × Int × (List TT2) × Unit)) → Option (Int × Unit)) (g71 : TT2 → Int → (Int)) (g73 : ByteArray → Int → Option (ByteArray × Unit)) (k : Nat) : List (Nat × FSem) := [(71, .fn (.cons TY2 (.cons (.int .i64) .nil)) (.cons (.int .i64) .nil) fun x => ((g71 x.1 x.2.1), ()))]
theorem tyi46_70 : chkTypes Tryd.prog tsi46_70 = true := by kernel_rfl
def Hi46_72 : Hints where
  loop := fun n => match n with
    | _ => none
  region := fun n => match n with
    | _ => none
  cond := fun n => match n with
    | _ => none
  block := fun n => match n with
    | _ => none
def tsi46_72 : List (Nat × TD) := [(3, (.data (.int .i64))), (90, (.data TY5)), (105, (.cell .ptr))]
noncomputable def bodyi46_72 : Code := match Tryd.f72.body with | some c => c | none => .skip
noncomputable def fsi46_72 (g30 : Int → Option (ByteArray × Unit)) (g37 : Int → (Bool)) (g58 : (List (ByteArray × ByteArray × ByteArray × ByteArray × Int × Int × Int × Int × Int × Int × Int × Int × Int × (List TT2) × Unit)) → Option (Int × Unit)) (g71 : TT2 → Int → (Int)) (g73 : ByteArray → Int → Option (ByteArray × Unit)) (k : Nat) : List (Nat × FSem) := []
theorem tyi46_72 : chkTypes Tryd.prog tsi46_72 = true := by kernel_rfl
def Hi46_59 : Hints where
  loop := fun n => match n with
    | _ => none
  region := fun n => match n with
    | 4 => some { slots := [(7, (.int .i64)), (8, .bool)], objs := [], gone := [] }
    | _ => none
  cond := fun n => match n with
    | 47 => some { slots := [], objs := [(29, (.box (.data (.int .i64)) (.int .i64)))], gone := [] }
    | _ => none
  block := fun n => match n with
    | _ => none
def tsi46_59 : List (Nat × TD) := [(3, (.data (.int .i64))), (4, (.data .bool)), (9, (.data .str)), (53, (.data TY4)), (88, (.data (.slice TY2))), (90, (.data TY5)), (105, (.cell .ptr)), (118, (.data TY2))]
noncomputable def bodyi46_59 : Code := match Tryd.f59.body with | some c => c | none => .skip
noncomputable def fsi46_59 (g30 : Int → Option (ByteArray × Unit)) (g37 : Int → (Bool)) (g58 : (List (ByteArray × ByteArray × ByteArray × ByteArray × Int × Int × Int × Int × Int × Int × Int × Int × Int × (List TT2) × Unit)) → Option (Int × Unit)) (g71 : TT2 → Int → (Int)) (g73 : ByteArray → Int → Option (ByteArray × Unit)) (k : Nat) : List (Nat × FSem) := [(30, .pfn (.cons (.int .i64) .nil) (.cons .str .nil) fun x => (g30 x.1)), (37, .fn (.cons (.int .i64) .nil) (.cons .bool .nil) fun x => ((g37 x.1), ())), (70, .ev (mkEnv tsi46_70 (fsi46_70 g30 g37 g58 g71 g73 k)) Hi46_70 k bodyi46_70 49 [.tmp 6, .tmp 7]), (72, .evr (mkEnv tsi46_72 (fsi46_72 g30 g37 g58 g71 g73 k)) Hi46_72 k bodyi46_72 18 [.tmp 5]), (73, .pfn (.cons .str (.cons (.int .i64) .nil)) (.cons .str .nil) fun x => (g73 x.1 x.2.1))]
theorem tyi46_59 : chkTypes Tryd.prog tsi46_59 = true := by kernel_rfl
abbrev A46 : Tys := (.cons TY5 .nil)
def ts46 : List (Nat × TD) := [(3, (.data (.int .i64))), (25, (.data (.int .i64))), (53, (.data TY4)), (85, (.data (.slice (.int .i64)))), (90, (.data TY5)), (102, (.data (.slice TY5)))]
noncomputable def fs46 (g30 : Int → Option (ByteArray × Unit)) (g37 : Int → (Bool)) (g58 : (List (ByteArray × ByteArray × ByteArray × ByteArray × Int × Int × Int × Int × Int × Int × Int × Int × Int × (List TT2) × Unit)) → Option (Int × Unit)) (g71 : TT2 → Int → (Int)) (g73 : ByteArray → Int → Option (ByteArray × Unit)) (k : Nat) : List (Nat × FSem) := [(58, .pfn (.cons (.slice TY5) .nil) (.cons (.int .i64) .nil) fun x => (g58 x.1)), (59, .ev (mkEnvX46_59 tsi46_59 (fsi46_59 g30 g37 g58 g71 g73 k)) Hi46_59 k bodyi46_59 122 [.cell 4 53, .tmp 5])]
noncomputable def body46 : Code := match Tryd.f46.body with | some c => c | none => .skip
theorem ty46 : chkTypes Tryd.prog ts46 = true := by kernel_rfl
theorem ev46 (g30 : Int → Option (ByteArray × Unit)) (g37 : Int → (Bool)) (g58 : (List (ByteArray × ByteArray × ByteArray × ByteArray × Int × Int × Int × Int × Int × Int × Int × Int × Int × (List TT2) × Unit)) → Option (Int × Unit)) (g71 : TT2 → Int → (Int)) (g73 : ByteArray → Int → Option (ByteArray × Unit)) (k : Nat) (x : ((.cons TY5 .nil) : Tys).den) : evFun (mkEnv ts46 (fs46 g30 g37 g58 g71 g73 k)) H46 k body46 34 [.tmp 2, .tmp 3] (explodes (.cons TY5 .nil) x) [] (dec (.cons (.slice (.int .i64)) (.cons (.int .i64) .nil))) = f46 g30 g37 g58 g71 g73 k x.1 := by kernel_rfl
/-! ### slices.Equal[[]int,int] -/
def f47  (k : Nat) (x0 : List Int) (x1 : List Int) : Option (Bool × Unit) :=
  bif (((List.length x0 : Nat) : Int) != ((List.length x1 : Nat) : Int)) then
    some (false, ())
  else
    Option.bind (α := (Bool × Unit) ⊕ ((Unit) × (Unit))) (iter (σ := (Int × Unit) × (Unit)) (τ := (Bool × Unit) ⊕ ((Unit) × (Unit))) k (fun y1 =>
        bif (decide (y1.1.1 < ((List.length x0 : Nat) : Int))) then
          bif (inR y1.1.1 ((List.length x0 : Nat) : Int)) then
            bif (inR y1.1.1 ((List.length x1 : Nat) : Int)) then
              bif ((rd (α := Int) (0 : Int) x0 y1.1.1) != (rd (α := Int) (0 : Int) x1 y1.1.1)) then
                some (.inr (.inl (false, ())))
              else
                some (.inl (((IntKind.i64.wrap (y1.1.1 + (1 : Int))), ()), ()))
            else
              none
          else
            none
        else
          some (.inr (.inr ((), ())))) (((0 : Int), ()), ())) fun r => match r with
    | .inl z => some z
    | .inr z2 =>
      some (true, ())
def H47 : Hints where
  loop := fun n => match n with
    | 0 => some ({ slots := [(13, (.int .i64))], objs := [], gone := [] }, 0, { slots := [], objs := [], gone := [] })
    | _ => none
  region := fun n => match n with
    | _ => none
  cond := fun n => match n with
    | _ => none
  block := fun n => match n with
    | _ => none
abbrev A47 : Tys := (.cons (.slice (.int .i64)) (.cons (.slice (.int .i64)) .nil))
def ts47 : List (Nat × TD) := [(3, (.data (.int .i64))), (4, (.data .bool)), (85, (.data (.slice (.int .i64))))]
noncomputable def fs47  : List (Nat × FSem) := []
noncomputable def body47 : Code := match Tryd.f47.body with | some c => c | none => .skip
theorem ty47 : chkTypes Tryd.prog ts47 = true := by kernel_rfl
theorem ev47  (k : Nat) (x : ((.cons (.slice (.int .i64)) (.cons (.slice (.int .i64)) .nil)) : Tys).den) : evFun (mkEnv ts47 (fs47 )) H47 k body47 26 [.tmp 4] (explodes (.cons (.slice (.int .i64)) (.cons (.slice (.int .i64)) .nil)) x) [] (dec (.cons .bool .nil)) = f47  k x.1 x.2.1 := by kernel_rfl
/-! ### jitney/jitlaw2.asked -/
def f26 (g46 : (ByteArray × ByteArray × ByteArray × ByteArray × Int × Int × Int × Int × Int × Int × Int × Int × Int × (List TT2) × Unit) → Option ((List Int) × Int × Unit)) (g47 : (List Int) → (List Int) → (Bool)) (k : Nat)  : Option (Bool × Unit) :=
  Option.bind (g46 ((ByteArray.mk #[115]), (ByteArray.mk #[97]), (ByteArray.mk #[98]), (ByteArray.mk #[99]), (0 : Int), (8 : Int), (1 : Int), (1 : Int), (0 : Int), (5 : Int), (0 : Int), (1 : Int), (0 : Int), [], ())) fun v1 =>
  bif (v1.2.1 == (0 : Int)) then
    some ((g47 v1.1 ([(0 : Int), (7 : Int)])), ())
  else
    some (false, ())
def H26 : Hints where
  loop := fun n => match n with
    | _ => none
  region := fun n => match n with
    | _ => none
  cond := fun n => match n with
    | _ => none
  block := fun n => match n with
    | _ => none
abbrev A26 : Tys := .nil
def ts26 : List (Nat × TD) := [(4, (.data .bool)), (25, (.data (.int .i64))), (85, (.data (.slice (.int .i64)))), (90, (.data TY5))]
noncomputable def fs26 (g46 : (ByteArray × ByteArray × ByteArray × ByteArray × Int × Int × Int × Int × Int × Int × Int × Int × Int × (List TT2) × Unit) → Option ((List Int) × Int × Unit)) (g47 : (List Int) → (List Int) → (Bool)) : List (Nat × FSem) := [(46, .pfn (.cons TY5 .nil) (.cons (.slice (.int .i64)) (.cons (.int .i64) .nil)) fun x => (g46 x.1)), (47, .fn (.cons (.slice (.int .i64)) (.cons (.slice (.int .i64)) .nil)) (.cons .bool .nil) fun x => ((g47 x.1 x.2.1), ()))]
noncomputable def body26 : Code := match Tryd.f26.body with | some c => c | none => .skip
theorem ty26 : chkTypes Tryd.prog ts26 = true := by kernel_rfl
theorem ev26 (g46 : (ByteArray × ByteArray × ByteArray × ByteArray × Int × Int × Int × Int × Int × Int × Int × Int × Int × (List TT2) × Unit) → Option ((List Int) × Int × Unit)) (g47 : (List Int) → (List Int) → (Bool)) (k : Nat) (x : (.nil : Tys).den) : evFun (mkEnv ts26 (fs26 g46 g47)) H26 k body26 15 [.tmp 0] (explodes .nil x) [] (dec (.cons .bool .nil)) = f26 g46 g47 k  := by kernel_rfl
/-! ### jitney/jitlaw2.RidesAskedTwice -/
def f4 (g17 : (List TT3) → (List TT3) → (Bool)) (g19 : (List TT5) → Option ((List TT3) × Int × Unit)) (g20 : (List TT5) → Option ((List TT5) × Unit)) (g21 : (List TT5) → (Int)) (g22 : (List TT5) → Option ((List TT3) × Unit)) (g23 : (List TT4) → (Int)) (g24 : (List TT4) → Option ((List TT4) × Unit)) (g25 : (List TT4) → (Int)) (g26 : Option (Bool × Unit)) (k : Nat) (x0 : List TT5) (x1 : List TT4) : Option (Bool × Unit) :=
  Option.bind (g20 x0) fun v1 =>
  Option.bind (g19 v1.1) fun v2 =>
  Option.bind (α := (Bool × Unit) ⊕ (((List TT3) × Unit) × (Unit))) (
      bif ((g21 x0) == (0 : Int)) then
        Option.bind (g22 x0) fun v3 =>
        some (.inr ((v3.1, ()), ()))
      else
        some (.inr (([], ()), ()))) fun r => match r with
  | .inl z => some z
  | .inr y4 =>
    Option.bind (g24 x1) fun v5 =>
    bif ((g23 v5.1) == (g25 x1)) then
      bif (v2.2.1 == (g21 x0)) then
        bif (g17 v2.1 y4.1.1) then
          Option.bind g26 fun v6 =>
          some (v6.1, ())
        else
          some (false, ())
      else
        some (false, ())
    else
      some (false, ())
def H4 : Hints where
  loop := fun n => match n with
    | _ => none
  region := fun n => match n with
    | _ => none
  cond := fun n => match n with
    | 18 => some { slots := [(8, (.sl TY0))], objs := [], gone := [] }
    | _ => none
  block := fun n => match n with
    | _ => none
abbrev A4 : Tys := (.cons (.slice TY4) (.cons (.slice TY3) .nil))
def ts4 : List (Nat × TD) := [(4, (.data .bool)), (25, (.data (.int .i64))), (48, (.data (.slice TY4))), (49, (.data (.slice TY3)))]
noncomputable def fs4 (g17 : (List TT3) → (List TT3) → (Bool)) (g19 : (List TT5) → Option ((List TT3) × Int × Unit)) (g20 : (List TT5) → Option ((List TT5) × Unit)) (g21 : (List TT5) → (Int)) (g22 : (List TT5) → Option ((List TT3) × Unit)) (g23 : (List TT4) → (Int)) (g24 : (List TT4) → Option ((List TT4) × Unit)) (g25 : (List TT4) → (Int)) (g26 : Option (Bool × Unit)) : List (Nat × FSem) := [(17, .fn (.cons (.slice TY0) (.cons (.slice TY0) .nil)) (.cons .bool .nil) fun x => ((g17 x.1 x.2.1), ())), (19, .pfn (.cons (.slice TY4) .nil) (.cons (.slice TY0) (.cons (.int .i64) .nil)) fun x => (g19 x.1)), (20, .pfn (.cons (.slice TY4) .nil) (.cons (.slice TY4) .nil) fun x => (g20 x.1)), (21, .fn (.cons (.slice TY4) .nil) (.cons (.int .i64) .nil) fun x => ((g21 x.1), ())), (22, .pfn (.cons (.slice TY4) .nil) (.cons (.slice TY0) .nil) fun x => (g22 x.1)), (23, .fn (.cons (.slice TY3) .nil) (.cons (.int .i64) .nil) fun x => ((g23 x.1), ())), (24, .pfn (.cons (.slice TY3) .nil) (.cons (.slice TY3) .nil) fun x => (g24 x.1)), (25, .fn (.cons (.slice TY3) .nil) (.cons (.int .i64) .nil) fun x => ((g25 x.1), ())), (26, .pfn .nil (.cons .bool .nil) fun x => g26)]
noncomputable def body4 : Code := match Tryd.f4.body with | some c => c | none => .skip
theorem ty4 : chkTypes Tryd.prog ts4 = true := by kernel_rfl
theorem ev4 (g17 : (List TT3) → (List TT3) → (Bool)) (g19 : (List TT5) → Option ((List TT3) × Int × Unit)) (g20 : (List TT5) → Option ((List TT5) × Unit)) (g21 : (List TT5) → (Int)) (g22 : (List TT5) → Option ((List TT3) × Unit)) (g23 : (List TT4) → (Int)) (g24 : (List TT4) → Option ((List TT4) × Unit)) (g25 : (List TT4) → (Int)) (g26 : Option (Bool × Unit)) (k : Nat) (x : ((.cons (.slice TY4) (.cons (.slice TY3) .nil)) : Tys).den) : evFun (mkEnv ts4 (fs4 g17 g19 g20 g21 g22 g23 g24 g25 g26)) H4 k body4 40 [.tmp 4] (explodes (.cons (.slice TY4) (.cons (.slice TY3) .nil)) x) [] (dec (.cons .bool .nil)) = f4 g17 g19 g20 g21 g22 g23 g24 g25 g26 k x.1 x.2.1 := by kernel_rfl
end Go.Vm
