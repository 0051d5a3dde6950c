/- The program's functions, as an own tool reads them off its form. -/
import Derived.Test.YtfiembgemhonlaaVmD
import Derived.Test.YtfiembgemhonlaaProg
set_option maxRecDepth 100000
set_option linter.unusedVariables false
namespace Go.Vm
open Go.Proofs
theorem mixedOK : Try.prog.follows .mixedOrders = true := by kernel_rfl
/-! ### jitney/base.Key -/
def f113  (k : Nat) (x0 : ByteArray) : Option (Bool × Unit) :=
  bif (sEq x0 (ByteArray.mk #[])) then
    some (false, ())
  else
    bif (decide (((ByteArray.size x0 : Nat) : Int) > (40 : Int))) then
      some (false, ())
    else
      bif (inR (0 : Int) ((ByteArray.size x0 : Nat) : Int)) then
        bif (decide ((bt x0 (0 : Int)) < (97 : Int))) then
          some (false, ())
        else
          bif (inR (0 : Int) ((ByteArray.size x0 : Nat) : Int)) then
            bif (decide ((bt x0 (0 : Int)) > (122 : Int))) then
              some (false, ())
            else
              Option.bind (α := (Bool × Unit) ⊕ ((Unit) × (Unit))) (iter (σ := (Int × Unit) × (Unit)) (τ := (Bool × Unit) ⊕ ((Unit) × (Unit))) k (fun y1 =>
                  bif (decide (y1.1.1 < ((ByteArray.size x0 : Nat) : Int))) then
                    bif (inR y1.1.1 ((ByteArray.size x0 : Nat) : Int)) then
                      bif (decide ((bt x0 y1.1.1) ≥ (97 : Int))) then
                        bif (decide ((bt x0 y1.1.1) ≤ (122 : Int))) then
                          some (.inl (((IntKind.i64.wrap (y1.1.1 + (1 : Int))), ()), ()))
                        else
                          bif (decide ((bt x0 y1.1.1) ≥ (48 : Int))) then
                            bif (decide ((bt x0 y1.1.1) ≤ (57 : Int))) then
                              some (.inl (((IntKind.i64.wrap (y1.1.1 + (1 : Int))), ()), ()))
                            else
                              bif ((bt x0 y1.1.1) == (45 : Int)) then
                                some (.inl (((IntKind.i64.wrap (y1.1.1 + (1 : Int))), ()), ()))
                              else
                                bif (!((bt x0 y1.1.1) == (95 : Int))) then
                                  some (.inr (.inl (false, ())))
                                else
                                  some (.inl (((IntKind.i64.wrap (y1.1.1 + (1 : Int))), ()), ()))
                          else
                            bif ((bt x0 y1.1.1) == (45 : Int)) then
                              some (.inl (((IntKind.i64.wrap (y1.1.1 + (1 : Int))), ()), ()))
                            else
                              bif (!((bt x0 y1.1.1) == (95 : Int))) then
                                some (.inr (.inl (false, ())))
                              else
                                some (.inl (((IntKind.i64.wrap (y1.1.1 + (1 : Int))), ()), ()))
                      else
                        bif (decide ((bt x0 y1.1.1) ≥ (48 : Int))) then
                          bif (decide ((bt x0 y1.1.1) ≤ (57 : Int))) then
                            some (.inl (((IntKind.i64.wrap (y1.1.1 + (1 : Int))), ()), ()))
                          else
                            bif ((bt x0 y1.1.1) == (45 : Int)) then
                              some (.inl (((IntKind.i64.wrap (y1.1.1 + (1 : Int))), ()), ()))
                            else
                              bif (!((bt x0 y1.1.1) == (95 : Int))) then
                                some (.inr (.inl (false, ())))
                              else
                                some (.inl (((IntKind.i64.wrap (y1.1.1 + (1 : Int))), ()), ()))
                        else
                          bif ((bt x0 y1.1.1) == (45 : Int)) then
                            some (.inl (((IntKind.i64.wrap (y1.1.1 + (1 : Int))), ()), ()))
                          else
                            bif (!((bt x0 y1.1.1) == (95 : Int))) then
                              some (.inr (.inl (false, ())))
                            else
                              some (.inl (((IntKind.i64.wrap (y1.1.1 + (1 : Int))), ()), ()))
                    else
                      none
                  else
                    some (.inr (.inr ((), ())))) (((0 : Int), ()), ())) fun r => match r with
              | .inl z => some z
              | .inr z2 =>
                some (true, ())
          else
            none
      else
        none
def H113 : Hints where
  loop := fun n => match n with
    | 0 => some ({ slots := [(24, (.int .i64))], objs := [], gone := [] }, 0, { slots := [], objs := [], gone := [] })
    | _ => none
  region := fun n => match n with
    | _ => none
  cond := fun n => match n with
    | _ => none
  block := fun n => match n with
    | _ => none
abbrev A113 : Tys := (.cons .str .nil)
def ts113 : List (Nat × TD) := [(3, (.data (.int .i64))), (4, (.data .bool)), (5, (.data (.int .u8))), (9, (.data .str))]
noncomputable def fs113  : List (Nat × FSem) := []
noncomputable def body113 : Code := match Try.f113.body with | some c => c | none => .skip
theorem ty113 : chkTypes Try.prog ts113 = true := by kernel_rfl
theorem ev113  (k : Nat) (x : ((.cons .str .nil) : Tys).den) : evFun (mkEnv ts113 (fs113 )) H113 k body113 54 [.tmp 2] (explodes (.cons .str .nil) x) [] (dec (.cons .bool .nil)) = f113  k x.1 := by kernel_rfl
/-! ### jitney/base.Out -/
def f114  (k : Nat) (x0 : Int) (x1 : Int) (x2 : Int) : Option (Bool × Unit) :=
  bif (decide (x0 < x1)) then
    some (true, ())
  else
    some ((decide (x0 > x2)), ())
def H114 : Hints where
  loop := fun n => match n with
    | _ => none
  region := fun n => match n with
    | _ => none
  cond := fun n => match n with
    | _ => none
  block := fun n => match n with
    | _ => none
abbrev A114 : Tys := (.cons (.int .i64) (.cons (.int .i64) (.cons (.int .i64) .nil)))
def ts114 : List (Nat × TD) := [(3, (.data (.int .i64))), (4, (.data .bool))]
noncomputable def fs114  : List (Nat × FSem) := []
noncomputable def body114 : Code := match Try.f114.body with | some c => c | none => .skip
theorem ty114 : chkTypes Try.prog ts114 = true := by kernel_rfl
theorem ev114  (k : Nat) (x : ((.cons (.int .i64) (.cons (.int .i64) (.cons (.int .i64) .nil))) : Tys).den) : evFun (mkEnv ts114 (fs114 )) H114 k body114 15 [.tmp 6] (explodes (.cons (.int .i64) (.cons (.int .i64) (.cons (.int .i64) .nil))) x) [] (dec (.cons .bool .nil)) = f114  k x.1 x.2.1 x.2.2.1 := by kernel_rfl
/-! ### jitney/fleet.CheckVehicles -/
def f12 (g113 : ByteArray → (Bool)) (g114 : Int → Int → Int → (Bool)) (k : Nat) (x0 : List (ByteArray × Int × Int × Int × Int × Unit)) : Option (Int × Unit) :=
  bif (decide (((List.length x0 : Nat) : Int) > (200 : Int))) then
    some ((2 : Int), ())
  else
    Option.bind (α := (Int × Unit) ⊕ ((Unit) × (Unit))) (iter (σ := (Int × Unit) × (Unit)) (τ := (Int × Unit) ⊕ ((Unit) × (Unit))) k (fun y1 =>
        bif (decide (y1.1.1 < ((List.length x0 : Nat) : Int))) then
          bif (inR y1.1.1 ((List.length x0 : Nat) : Int)) then
            bif (!(g113 ((rd (α := (ByteArray × Int × Int × Int × Int × Unit)) (ByteArray.empty, (0 : Int), (0 : Int), (0 : Int), (0 : Int), ()) x0 y1.1.1).1))) then
              some (.inr (.inl ((5 : Int), ())))
            else
              Option.bind (α := (((Int × Unit) × (Unit)) ⊕ ((Int × Unit) ⊕ ((Unit) × (Unit)))) ⊕ ((Bool × Unit) × (Unit))) (
                  bif (decide (y1.1.1 > (0 : Int))) then
                    bif (inR (IntKind.i64.wrap (y1.1.1 - (1 : Int))) ((List.length x0 : Nat) : Int)) then
                      some (.inr ((((sLt ((rd (α := (ByteArray × Int × Int × Int × Int × Unit)) (ByteArray.empty, (0 : Int), (0 : Int), (0 : Int), (0 : Int), ()) x0 y1.1.1).1) ((rd (α := (ByteArray × Int × Int × Int × Int × Unit)) (ByteArray.empty, (0 : Int), (0 : Int), (0 : Int), (0 : Int), ()) x0 (IntKind.i64.wrap (y1.1.1 - (1 : Int)))).1)) || (sEq ((rd (α := (ByteArray × Int × Int × Int × Int × Unit)) (ByteArray.empty, (0 : Int), (0 : Int), (0 : Int), (0 : Int), ()) x0 y1.1.1).1) ((rd (α := (ByteArray × Int × Int × Int × Int × Unit)) (ByteArray.empty, (0 : Int), (0 : Int), (0 : Int), (0 : Int), ()) x0 (IntKind.i64.wrap (y1.1.1 - (1 : Int)))).1))), ()), ()))
                    else
                      none
                  else
                    some (.inr ((false, ()), ()))) fun r => match r with
              | .inl z => some z
              | .inr y2 =>
                bif y2.1.1 then
                  some (.inr (.inl ((7 : Int), ())))
                else
                  bif (g114 ((rd (α := (ByteArray × Int × Int × Int × Int × Unit)) (ByteArray.empty, (0 : Int), (0 : Int), (0 : Int), (0 : Int), ()) x0 y1.1.1).2.1) (1 : Int) (1000000 : Int)) then
                    some (.inr (.inl ((1 : Int), ())))
                  else
                    bif (g114 ((rd (α := (ByteArray × Int × Int × Int × Int × Unit)) (ByteArray.empty, (0 : Int), (0 : Int), (0 : Int), (0 : Int), ()) x0 y1.1.1).2.2.1) (0 : Int) ((rd (α := (ByteArray × Int × Int × Int × Int × Unit)) (ByteArray.empty, (0 : Int), (0 : Int), (0 : Int), (0 : Int), ()) x0 y1.1.1).2.1)) then
                      some (.inr (.inl ((1 : Int), ())))
                    else
                      bif (g114 ((rd (α := (ByteArray × Int × Int × Int × Int × Unit)) (ByteArray.empty, (0 : Int), (0 : Int), (0 : Int), (0 : Int), ()) x0 y1.1.1).2.2.2.1) (1 : Int) (1000000 : Int)) then
                        some (.inr (.inl ((1 : Int), ())))
                      else
                        bif (g114 ((rd (α := (ByteArray × Int × Int × Int × Int × Unit)) (ByteArray.empty, (0 : Int), (0 : Int), (0 : Int), (0 : Int), ()) x0 y1.1.1).2.2.2.2.1) (0 : Int) (1000 : Int)) then
                          some (.inr (.inl ((1 : Int), ())))
                        else
                          some (.inl (((IntKind.i64.wrap (y1.1.1 + (1 : Int))), ()), ()))
          else
            none
        else
          some (.inr (.inr ((), ())))) (((0 : Int), ()), ())) fun r => match r with
    | .inl z => some z
    | .inr z3 =>
      some ((0 : Int), ())
def H12 : Hints where
  loop := fun n => match n with
    | 0 => some ({ slots := [(10, (.int .i64))], objs := [], gone := [] }, 0, { slots := [], objs := [], gone := [] })
    | _ => none
  region := fun n => match n with
    | 8 => some { slots := [(20, .bool)], objs := [], gone := [] }
    | _ => none
  cond := fun n => match n with
    | _ => none
  block := fun n => match n with
    | _ => none
abbrev A12 : Tys := (.cons (.slice (.struct (.cons .str (.cons (.int .i64) (.cons (.int .i64) (.cons (.int .i64) (.cons (.int .i64) .nil))))))) .nil)
def ts12 : List (Nat × TD) := [(3, (.data (.int .i64))), (9, (.data .str)), (22, (.data (.slice (.struct (.cons .str (.cons (.int .i64) (.cons (.int .i64) (.cons (.int .i64) (.cons (.int .i64) .nil))))))))), (25, (.data (.struct (.cons .str (.cons (.int .i64) (.cons (.int .i64) (.cons (.int .i64) (.cons (.int .i64) .nil)))))))), (28, (.data (.int .i64)))]
noncomputable def fs12 (g113 : ByteArray → (Bool)) (g114 : Int → Int → Int → (Bool)) : List (Nat × FSem) := [(113, .fn (.cons .str .nil) (.cons .bool .nil) fun x => ((g113 x.1), ())), (114, .fn (.cons (.int .i64) (.cons (.int .i64) (.cons (.int .i64) .nil))) (.cons .bool .nil) fun x => ((g114 x.1 x.2.1 x.2.2.1), ()))]
noncomputable def body12 : Code := match Try.f12.body with | some c => c | none => .skip
theorem ty12 : chkTypes Try.prog ts12 = true := by kernel_rfl
theorem ev12 (g113 : ByteArray → (Bool)) (g114 : Int → Int → Int → (Bool)) (k : Nat) (x : ((.cons (.slice (.struct (.cons .str (.cons (.int .i64) (.cons (.int .i64) (.cons (.int .i64) (.cons (.int .i64) .nil))))))) .nil) : Tys).den) : evFun (mkEnv ts12 (fs12 g113 g114)) H12 k body12 56 [.tmp 2] (explodes (.cons (.slice (.struct (.cons .str (.cons (.int .i64) (.cons (.int .i64) (.cons (.int .i64) (.cons (.int .i64) .nil))))))) .nil) x) [] (dec (.cons (.int .i64) .nil)) = f12 g113 g114 k x.1 := by kernel_rfl
/-! ### slices.Clone[[]jitney/api.Vehicle,jitney/api.Vehicle] -/
def f13  (k : Nat) (x0 : List (ByteArray × Int × Int × Int × Int × Unit)) : Option ((List (ByteArray × Int × Int × Int × Int × Unit)) × Unit) :=
  bif Nat.ble (List.length x0) 0 then
    none
  else
    bif decide (List.length ([] : List (ByteArray × Int × Int × Int × Int × Unit)) + List.length x0 ≤ 4294967296) then
      some ((([] : List (ByteArray × Int × Int × Int × Int × Unit)) ++ x0), ())
    else
      none
def H13 : Hints where
  loop := fun n => match n with
    | _ => none
  region := fun n => match n with
    | _ => none
  cond := fun n => match n with
    | _ => none
  block := fun n => match n with
    | _ => none
abbrev A13 : Tys := (.cons (.slice (.struct (.cons .str (.cons (.int .i64) (.cons (.int .i64) (.cons (.int .i64) (.cons (.int .i64) .nil))))))) .nil)
def ts13 : List (Nat × TD) := [(22, (.data (.slice (.struct (.cons .str (.cons (.int .i64) (.cons (.int .i64) (.cons (.int .i64) (.cons (.int .i64) .nil)))))))))]
noncomputable def fs13  : List (Nat × FSem) := []
noncomputable def body13 : Code := match Try.f13.body with | some c => c | none => .skip
theorem ty13 : chkTypes Try.prog ts13 = true := by kernel_rfl
theorem ev13  (k : Nat) (x : ((.cons (.slice (.struct (.cons .str (.cons (.int .i64) (.cons (.int .i64) (.cons (.int .i64) (.cons (.int .i64) .nil))))))) .nil) : Tys).den) : evFun (mkEnv ts13 (fs13 )) H13 k body13 8 [.tmp 2] (explodes (.cons (.slice (.struct (.cons .str (.cons (.int .i64) (.cons (.int .i64) (.cons (.int .i64) (.cons (.int .i64) .nil))))))) .nil) x) [] (dec (.cons (.slice (.struct (.cons .str (.cons (.int .i64) (.cons (.int .i64) (.cons (.int .i64) (.cons (.int .i64) .nil))))))) .nil)) = f13  k x.1 := by kernel_rfl
def s13 (l : List (ByteArray × Int × Int × Int × Int × Unit)) : Option ((List (ByteArray × Int × Int × Int × Int × Unit)) × Unit) := if l.length ≤ 4294967296 then some (l, ()) else none
/-! ### jitney/jitref2.in -/
def f115  (k : Nat) (x0 : Int) (x1 : Int) (x2 : Int) : Option (Bool × Unit) :=
  bif (decide (x1 ≤ x0)) then
    some ((decide (x0 ≤ x2)), ())
  else
    some (false, ())
def H115 : Hints where
  loop := fun n => match n with
    | _ => none
  region := fun n => match n with
    | _ => none
  cond := fun n => match n with
    | _ => none
  block := fun n => match n with
    | _ => none
abbrev A115 : Tys := (.cons (.int .i64) (.cons (.int .i64) (.cons (.int .i64) .nil)))
def ts115 : List (Nat × TD) := [(3, (.data (.int .i64))), (4, (.data .bool))]
noncomputable def fs115  : List (Nat × FSem) := []
noncomputable def body115 : Code := match Try.f115.body with | some c => c | none => .skip
theorem ty115 : chkTypes Try.prog ts115 = true := by kernel_rfl
theorem ev115  (k : Nat) (x : ((.cons (.int .i64) (.cons (.int .i64) (.cons (.int .i64) .nil))) : Tys).den) : evFun (mkEnv ts115 (fs115 )) H115 k body115 15 [.tmp 6] (explodes (.cons (.int .i64) (.cons (.int .i64) (.cons (.int .i64) .nil))) x) [] (dec (.cons .bool .nil)) = f115  k x.1 x.2.1 x.2.2.1 := by kernel_rfl
/-! ### strings.IndexByte -/
def f212 (g265 : ByteArray → Int → (Int)) (k : Nat) (x0 : ByteArray) (x1 : Int) : Option (Int × Unit) :=
  some ((g265 x0 x1), ())
def H212 : Hints where
  loop := fun n => match n with
    | _ => none
  region := fun n => match n with
    | _ => none
  cond := fun n => match n with
    | _ => none
  block := fun n => match n with
    | _ => none
abbrev A212 : Tys := (.cons .str (.cons (.int .u8) .nil))
def ts212 : List (Nat × TD) := [(3, (.data (.int .i64))), (5, (.data (.int .u8))), (9, (.data .str))]
noncomputable def fs212 (g265 : ByteArray → Int → (Int)) : List (Nat × FSem) := [(265, .fn (.cons .str (.cons (.int .u8) .nil)) (.cons (.int .i64) .nil) fun x => ((g265 x.1 x.2.1), ()))]
noncomputable def body212 : Code := match Try.f212.body with | some c => c | none => .skip
theorem ty212 : chkTypes Try.prog ts212 = true := by kernel_rfl
theorem ev212 (g265 : ByteArray → Int → (Int)) (k : Nat) (x : ((.cons .str (.cons (.int .u8) .nil)) : Tys).den) : evFun (mkEnv ts212 (fs212 g265)) H212 k body212 8 [.tmp 4] (explodes (.cons .str (.cons (.int .u8) .nil)) x) [] (dec (.cons (.int .i64) .nil)) = f212 g265 k x.1 x.2.1 := by kernel_rfl
/-! ### jitney/jitref2.only -/
def f130 (g212 : ByteArray → Int → (Int)) (k : Nat) (x0 : ByteArray) (x1 : ByteArray) : Option (Bool × Unit) :=
  Option.bind (α := (Bool × Unit) ⊕ ((Unit) × (Unit))) (iter (σ := (Int × Unit) × (Unit)) (τ := (Bool × Unit) ⊕ ((Unit) × (Unit))) k (fun y1 =>
      bif (decide (y1.1.1 < ((ByteArray.size x0 : Nat) : Int))) then
        bif (inR y1.1.1 ((ByteArray.size x0 : Nat) : Int)) then
          bif (decide ((g212 x1 (bt x0 y1.1.1)) < (0 : Int))) then
            some (.inr (.inl (false, ())))
          else
            some (.inl (((IntKind.i64.wrap (y1.1.1 + (1 : Int))), ()), ()))
        else
          none
      else
        some (.inr (.inr ((), ())))) (((0 : Int), ()), ())) fun r => match r with
  | .inl z => some z
  | .inr z2 =>
    some (true, ())
def H130 : Hints where
  loop := fun n => match n with
    | 0 => some ({ slots := [(8, (.int .i64))], objs := [], gone := [] }, 0, { slots := [], objs := [], gone := [] })
    | _ => none
  region := fun n => match n with
    | _ => none
  cond := fun n => match n with
    | _ => none
  block := fun n => match n with
    | _ => none
abbrev A130 : Tys := (.cons .str (.cons .str .nil))
def ts130 : List (Nat × TD) := [(3, (.data (.int .i64))), (4, (.data .bool)), (9, (.data .str))]
noncomputable def fs130 (g212 : ByteArray → Int → (Int)) : List (Nat × FSem) := [(212, .fn (.cons .str (.cons (.int .u8) .nil)) (.cons (.int .i64) .nil) fun x => ((g212 x.1 x.2.1), ()))]
noncomputable def body130 : Code := match Try.f130.body with | some c => c | none => .skip
theorem ty130 : chkTypes Try.prog ts130 = true := by kernel_rfl
theorem ev130 (g212 : ByteArray → Int → (Int)) (k : Nat) (x : ((.cons .str (.cons .str .nil)) : Tys).den) : evFun (mkEnv ts130 (fs130 g212)) H130 k body130 18 [.tmp 4] (explodes (.cons .str (.cons .str .nil)) x) [] (dec (.cons .bool .nil)) = f130 g212 k x.1 x.2.1 := by kernel_rfl
/-! ### jitney/jitref2.Key -/
def f31 (g115 : Int → Int → Int → (Bool)) (g130 : ByteArray → ByteArray → (Bool)) (k : Nat) (x0 : ByteArray) : Option (Bool × Unit) :=
  bif (g115 ((ByteArray.size x0 : Nat) : Int) (1 : Int) (40 : Int)) then
    bif (decide (0 ≤ (0 : Int)) && (decide ((0 : Int) ≤ (1 : Int)) && decide ((1 : Int) ≤ ((ByteArray.size x0 : Nat) : Int)))) then
      bif (g130 (ByteArray.extract x0 (Int.toNat (0 : Int)) (Int.toNat (1 : Int))) (ByteArray.mk #[97, 98, 99, 100, 101, 102, 103, 104, 105, 106, 107, 108, 109, 110, 111, 112, 113, 114, 115, 116, 117, 118, 119, 120, 121, 122])) then
        some ((g130 x0 (ByteArray.mk #[97, 98, 99, 100, 101, 102, 103, 104, 105, 106, 107, 108, 109, 110, 111, 112, 113, 114, 115, 116, 117, 118, 119, 120, 121, 122, 48, 49, 50, 51, 52, 53, 54, 55, 56, 57, 45, 95])), ())
      else
        some (false, ())
    else
      none
  else
    some (false, ())
def H31 : Hints where
  loop := fun n => match n with
    | _ => none
  region := fun n => match n with
    | _ => none
  cond := fun n => match n with
    | _ => none
  block := fun n => match n with
    | _ => none
abbrev A31 : Tys := (.cons .str .nil)
def ts31 : List (Nat × TD) := [(4, (.data .bool)), (9, (.data .str))]
noncomputable def fs31 (g115 : Int → Int → Int → (Bool)) (g130 : ByteArray → ByteArray → (Bool)) : List (Nat × FSem) := [(115, .fn (.cons (.int .i64) (.cons (.int .i64) (.cons (.int .i64) .nil))) (.cons .bool .nil) fun x => ((g115 x.1 x.2.1 x.2.2.1), ())), (130, .fn (.cons .str (.cons .str .nil)) (.cons .bool .nil) fun x => ((g130 x.1 x.2.1), ()))]
noncomputable def body31 : Code := match Try.f31.body with | some c => c | none => .skip
theorem ty31 : chkTypes Try.prog ts31 = true := by kernel_rfl
theorem ev31 (g115 : Int → Int → Int → (Bool)) (g130 : ByteArray → ByteArray → (Bool)) (k : Nat) (x : ((.cons .str .nil) : Tys).den) : evFun (mkEnv ts31 (fs31 g115 g130)) H31 k body31 15 [.tmp 2] (explodes (.cons .str .nil) x) [] (dec (.cons .bool .nil)) = f31 g115 g130 k x.1 := by kernel_rfl
/-! ### jitney/jitref2.VehiclesFault -/
def f14 (g31 : ByteArray → (Bool)) (g115 : Int → Int → Int → (Bool)) (k : Nat) (x0 : List (ByteArray × Int × Int × Int × Int × Unit)) : Option (Int × Unit) :=
  bif (decide (((List.length x0 : Nat) : Int) > (200 : Int))) then
    some ((2 : Int), ())
  else
    Option.bind (α := (Int × Unit) ⊕ ((Unit) × (Unit))) (iter (σ := (ByteArray × Int × Unit) × (Unit)) (τ := (Int × Unit) ⊕ ((Unit) × (Unit))) k (fun y1 =>
        bif (decide (y1.1.2.1 < ((List.length x0 : Nat) : Int))) then
          bif (inR y1.1.2.1 ((List.length x0 : Nat) : Int)) then
            bif (!(g31 ((rd (α := (ByteArray × Int × Int × Int × Int × Unit)) (ByteArray.empty, (0 : Int), (0 : Int), (0 : Int), (0 : Int), ()) x0 y1.1.2.1).1))) then
              some (.inr (.inl ((5 : Int), ())))
            else
              bif ((sLt ((rd (α := (ByteArray × Int × Int × Int × Int × Unit)) (ByteArray.empty, (0 : Int), (0 : Int), (0 : Int), (0 : Int), ()) x0 y1.1.2.1).1) y1.1.1) || (sEq ((rd (α := (ByteArray × Int × Int × Int × Int × Unit)) (ByteArray.empty, (0 : Int), (0 : Int), (0 : Int), (0 : Int), ()) x0 y1.1.2.1).1) y1.1.1)) then
                some (.inr (.inl ((7 : Int), ())))
              else
                bif (!(g115 ((rd (α := (ByteArray × Int × Int × Int × Int × Unit)) (ByteArray.empty, (0 : Int), (0 : Int), (0 : Int), (0 : Int), ()) x0 y1.1.2.1).2.1) (1 : Int) (1000000 : Int))) then
                  some (.inr (.inl ((1 : Int), ())))
                else
                  bif (!(g115 ((rd (α := (ByteArray × Int × Int × Int × Int × Unit)) (ByteArray.empty, (0 : Int), (0 : Int), (0 : Int), (0 : Int), ()) x0 y1.1.2.1).2.2.1) (0 : Int) ((rd (α := (ByteArray × Int × Int × Int × Int × Unit)) (ByteArray.empty, (0 : Int), (0 : Int), (0 : Int), (0 : Int), ()) x0 y1.1.2.1).2.1))) then
                    some (.inr (.inl ((1 : Int), ())))
                  else
                    bif (!(g115 ((rd (α := (ByteArray × Int × Int × Int × Int × Unit)) (ByteArray.empty, (0 : Int), (0 : Int), (0 : Int), (0 : Int), ()) x0 y1.1.2.1).2.2.2.1) (1 : Int) (1000000 : Int))) then
                      some (.inr (.inl ((1 : Int), ())))
                    else
                      bif (!(g115 ((rd (α := (ByteArray × Int × Int × Int × Int × Unit)) (ByteArray.empty, (0 : Int), (0 : Int), (0 : Int), (0 : Int), ()) x0 y1.1.2.1).2.2.2.2.1) (0 : Int) (1000 : Int))) then
                        some (.inr (.inl ((1 : Int), ())))
                      else
                        some (.inl (((rd (α := (ByteArray × Int × Int × Int × Int × Unit)) (ByteArray.empty, (0 : Int), (0 : Int), (0 : Int), (0 : Int), ()) x0 y1.1.2.1).1, (IntKind.i64.wrap (y1.1.2.1 + (1 : Int))), ()), ()))
          else
            none
        else
          some (.inr (.inr ((), ())))) (((ByteArray.mk #[]), (0 : Int), ()), ())) fun r => match r with
    | .inl z => some z
    | .inr z2 =>
      some ((0 : Int), ())
def H14 : Hints where
  loop := fun n => match n with
    | 0 => some ({ slots := [(3, .str), (11, (.int .i64))], objs := [], gone := [] }, 0, { slots := [], objs := [], gone := [] })
    | _ => none
  region := fun n => match n with
    | _ => none
  cond := fun n => match n with
    | _ => none
  block := fun n => match n with
    | _ => none
abbrev A14 : Tys := (.cons (.slice (.struct (.cons .str (.cons (.int .i64) (.cons (.int .i64) (.cons (.int .i64) (.cons (.int .i64) .nil))))))) .nil)
def ts14 : List (Nat × TD) := [(3, (.data (.int .i64))), (9, (.data .str)), (22, (.data (.slice (.struct (.cons .str (.cons (.int .i64) (.cons (.int .i64) (.cons (.int .i64) (.cons (.int .i64) .nil))))))))), (25, (.data (.struct (.cons .str (.cons (.int .i64) (.cons (.int .i64) (.cons (.int .i64) (.cons (.int .i64) .nil)))))))), (28, (.data (.int .i64)))]
noncomputable def fs14 (g31 : ByteArray → (Bool)) (g115 : Int → Int → Int → (Bool)) : List (Nat × FSem) := [(31, .fn (.cons .str .nil) (.cons .bool .nil) fun x => ((g31 x.1), ())), (115, .fn (.cons (.int .i64) (.cons (.int .i64) (.cons (.int .i64) .nil))) (.cons .bool .nil) fun x => ((g115 x.1 x.2.1 x.2.2.1), ()))]
noncomputable def body14 : Code := match Try.f14.body with | some c => c | none => .skip
theorem ty14 : chkTypes Try.prog ts14 = true := by kernel_rfl
theorem ev14 (g31 : ByteArray → (Bool)) (g115 : Int → Int → Int → (Bool)) (k : Nat) (x : ((.cons (.slice (.struct (.cons .str (.cons (.int .i64) (.cons (.int .i64) (.cons (.int .i64) (.cons (.int .i64) .nil))))))) .nil) : Tys).den) : evFun (mkEnv ts14 (fs14 g31 g115)) H14 k body14 53 [.tmp 2] (explodes (.cons (.slice (.struct (.cons .str (.cons (.int .i64) (.cons (.int .i64) (.cons (.int .i64) (.cons (.int .i64) .nil))))))) .nil) x) [] (dec (.cons (.int .i64) .nil)) = f14 g31 g115 k x.1 := by kernel_rfl
/-! ### jitney/fleet.CheckPlaces -/
def f15 (g113 : ByteArray → (Bool)) (g114 : Int → Int → Int → (Bool)) (k : Nat) (x0 : List (ByteArray × Int × Int × Unit)) : Option (Int × Unit) :=
  bif (decide (((List.length x0 : Nat) : Int) > (50 : Int))) then
    some ((2 : Int), ())
  else
    Option.bind (α := (Int × Unit) ⊕ ((Unit) × (Unit))) (iter (σ := (Int × Unit) × (Unit)) (τ := (Int × Unit) ⊕ ((Unit) × (Unit))) k (fun y1 =>
        bif (decide (y1.1.1 < ((List.length x0 : Nat) : Int))) then
          bif (inR y1.1.1 ((List.length x0 : Nat) : Int)) then
            bif (!(g113 ((rd (α := (ByteArray × Int × Int × Unit)) (ByteArray.empty, (0 : Int), (0 : Int), ()) x0 y1.1.1).1))) then
              some (.inr (.inl ((5 : Int), ())))
            else
              Option.bind (α := (((Int × Unit) × (Unit)) ⊕ ((Int × Unit) ⊕ ((Unit) × (Unit)))) ⊕ ((Bool × Unit) × (Unit))) (
                  bif (decide (y1.1.1 > (0 : Int))) then
                    bif (inR (IntKind.i64.wrap (y1.1.1 - (1 : Int))) ((List.length x0 : Nat) : Int)) then
                      some (.inr ((((sLt ((rd (α := (ByteArray × Int × Int × Unit)) (ByteArray.empty, (0 : Int), (0 : Int), ()) x0 y1.1.1).1) ((rd (α := (ByteArray × Int × Int × Unit)) (ByteArray.empty, (0 : Int), (0 : Int), ()) x0 (IntKind.i64.wrap (y1.1.1 - (1 : Int)))).1)) || (sEq ((rd (α := (ByteArray × Int × Int × Unit)) (ByteArray.empty, (0 : Int), (0 : Int), ()) x0 y1.1.1).1) ((rd (α := (ByteArray × Int × Int × Unit)) (ByteArray.empty, (0 : Int), (0 : Int), ()) x0 (IntKind.i64.wrap (y1.1.1 - (1 : Int)))).1))), ()), ()))
                    else
                      none
                  else
                    some (.inr ((false, ()), ()))) fun r => match r with
              | .inl z => some z
              | .inr y2 =>
                bif y2.1.1 then
                  some (.inr (.inl ((7 : Int), ())))
                else
                  bif (g114 ((rd (α := (ByteArray × Int × Int × Unit)) (ByteArray.empty, (0 : Int), (0 : Int), ()) x0 y1.1.1).2.1) (1 : Int) (50 : Int)) then
                    some (.inr (.inl ((1 : Int), ())))
                  else
                    bif (g114 ((rd (α := (ByteArray × Int × Int × Unit)) (ByteArray.empty, (0 : Int), (0 : Int), ()) x0 y1.1.1).2.2.1) (1 : Int) (1000000 : Int)) then
                      some (.inr (.inl ((1 : Int), ())))
                    else
                      some (.inl (((IntKind.i64.wrap (y1.1.1 + (1 : Int))), ()), ()))
          else
            none
        else
          some (.inr (.inr ((), ())))) (((0 : Int), ()), ())) fun r => match r with
    | .inl z => some z
    | .inr z3 =>
      some ((0 : Int), ())
def H15 : Hints where
  loop := fun n => match n with
    | 0 => some ({ slots := [(10, (.int .i64))], objs := [], gone := [] }, 0, { slots := [], objs := [], gone := [] })
    | _ => none
  region := fun n => match n with
    | 8 => some { slots := [(20, .bool)], objs := [], gone := [] }
    | _ => none
  cond := fun n => match n with
    | _ => none
  block := fun n => match n with
    | _ => none
abbrev A15 : Tys := (.cons (.slice (.struct (.cons .str (.cons (.int .i64) (.cons (.int .i64) .nil))))) .nil)
def ts15 : List (Nat × TD) := [(3, (.data (.int .i64))), (9, (.data .str)), (23, (.data (.slice (.struct (.cons .str (.cons (.int .i64) (.cons (.int .i64) .nil))))))), (27, (.data (.struct (.cons .str (.cons (.int .i64) (.cons (.int .i64) .nil)))))), (28, (.data (.int .i64)))]
noncomputable def fs15 (g113 : ByteArray → (Bool)) (g114 : Int → Int → Int → (Bool)) : List (Nat × FSem) := [(113, .fn (.cons .str .nil) (.cons .bool .nil) fun x => ((g113 x.1), ())), (114, .fn (.cons (.int .i64) (.cons (.int .i64) (.cons (.int .i64) .nil))) (.cons .bool .nil) fun x => ((g114 x.1 x.2.1 x.2.2.1), ()))]
noncomputable def body15 : Code := match Try.f15.body with | some c => c | none => .skip
theorem ty15 : chkTypes Try.prog ts15 = true := by kernel_rfl
theorem ev15 (g113 : ByteArray → (Bool)) (g114 : Int → Int → Int → (Bool)) (k : Nat) (x : ((.cons (.slice (.struct (.cons .str (.cons (.int .i64) (.cons (.int .i64) .nil))))) .nil) : Tys).den) : evFun (mkEnv ts15 (fs15 g113 g114)) H15 k body15 44 [.tmp 2] (explodes (.cons (.slice (.struct (.cons .str (.cons (.int .i64) (.cons (.int .i64) .nil))))) .nil) x) [] (dec (.cons (.int .i64) .nil)) = f15 g113 g114 k x.1 := by kernel_rfl
/-! ### slices.Clone[[]jitney/api.Place,jitney/api.Place] -/
def f16  (k : Nat) (x0 : List (ByteArray × Int × Int × Unit)) : Option ((List (ByteArray × Int × Int × Unit)) × Unit) :=
  bif Nat.ble (List.length x0) 0 then
    none
  else
    bif decide (List.length ([] : List (ByteArray × Int × Int × Unit)) + List.length x0 ≤ 4294967296) then
      some ((([] : List (ByteArray × Int × Int × Unit)) ++ x0), ())
    else
      none
def H16 : Hints where
  loop := fun n => match n with
    | _ => none
  region := fun n => match n with
    | _ => none
  cond := fun n => match n with
    | _ => none
  block := fun n => match n with
    | _ => none
abbrev A16 : Tys := (.cons (.slice (.struct (.cons .str (.cons (.int .i64) (.cons (.int .i64) .nil))))) .nil)
def ts16 : List (Nat × TD) := [(23, (.data (.slice (.struct (.cons .str (.cons (.int .i64) (.cons (.int .i64) .nil)))))))]
noncomputable def fs16  : List (Nat × FSem) := []
noncomputable def body16 : Code := match Try.f16.body with | some c => c | none => .skip
theorem ty16 : chkTypes Try.prog ts16 = true := by kernel_rfl
theorem ev16  (k : Nat) (x : ((.cons (.slice (.struct (.cons .str (.cons (.int .i64) (.cons (.int .i64) .nil))))) .nil) : Tys).den) : evFun (mkEnv ts16 (fs16 )) H16 k body16 8 [.tmp 2] (explodes (.cons (.slice (.struct (.cons .str (.cons (.int .i64) (.cons (.int .i64) .nil))))) .nil) x) [] (dec (.cons (.slice (.struct (.cons .str (.cons (.int .i64) (.cons (.int .i64) .nil))))) .nil)) = f16  k x.1 := by kernel_rfl
def s16 (l : List (ByteArray × Int × Int × Unit)) : Option ((List (ByteArray × Int × Int × Unit)) × Unit) := if l.length ≤ 4294967296 then some (l, ()) else none
/-! ### jitney/jitref2.PlacesFault -/
def f17 (g31 : ByteArray → (Bool)) (g115 : Int → Int → Int → (Bool)) (k : Nat) (x0 : List (ByteArray × Int × Int × Unit)) : Option (Int × Unit) :=
  bif (decide (((List.length x0 : Nat) : Int) > (50 : Int))) then
    some ((2 : Int), ())
  else
    Option.bind (α := (Int × Unit) ⊕ ((Unit) × (Unit))) (iter (σ := (ByteArray × Int × Unit) × (Unit)) (τ := (Int × Unit) ⊕ ((Unit) × (Unit))) k (fun y1 =>
        bif (decide (y1.1.2.1 < ((List.length x0 : Nat) : Int))) then
          bif (inR y1.1.2.1 ((List.length x0 : Nat) : Int)) then
            bif (!(g31 ((rd (α := (ByteArray × Int × Int × Unit)) (ByteArray.empty, (0 : Int), (0 : Int), ()) x0 y1.1.2.1).1))) then
              some (.inr (.inl ((5 : Int), ())))
            else
              bif ((sLt ((rd (α := (ByteArray × Int × Int × Unit)) (ByteArray.empty, (0 : Int), (0 : Int), ()) x0 y1.1.2.1).1) y1.1.1) || (sEq ((rd (α := (ByteArray × Int × Int × Unit)) (ByteArray.empty, (0 : Int), (0 : Int), ()) x0 y1.1.2.1).1) y1.1.1)) then
                some (.inr (.inl ((7 : Int), ())))
              else
                bif (!(g115 ((rd (α := (ByteArray × Int × Int × Unit)) (ByteArray.empty, (0 : Int), (0 : Int), ()) x0 y1.1.2.1).2.1) (1 : Int) (50 : Int))) then
                  some (.inr (.inl ((1 : Int), ())))
                else
                  bif (!(g115 ((rd (α := (ByteArray × Int × Int × Unit)) (ByteArray.empty, (0 : Int), (0 : Int), ()) x0 y1.1.2.1).2.2.1) (1 : Int) (1000000 : Int))) then
                    some (.inr (.inl ((1 : Int), ())))
                  else
                    some (.inl (((rd (α := (ByteArray × Int × Int × Unit)) (ByteArray.empty, (0 : Int), (0 : Int), ()) x0 y1.1.2.1).1, (IntKind.i64.wrap (y1.1.2.1 + (1 : Int))), ()), ()))
          else
            none
        else
          some (.inr (.inr ((), ())))) (((ByteArray.mk #[]), (0 : Int), ()), ())) fun r => match r with
    | .inl z => some z
    | .inr z2 =>
      some ((0 : Int), ())
def H17 : Hints where
  loop := fun n => match n with
    | 0 => some ({ slots := [(3, .str), (11, (.int .i64))], objs := [], gone := [] }, 0, { slots := [], objs := [], gone := [] })
    | _ => none
  region := fun n => match n with
    | _ => none
  cond := fun n => match n with
    | _ => none
  block := fun n => match n with
    | _ => none
abbrev A17 : Tys := (.cons (.slice (.struct (.cons .str (.cons (.int .i64) (.cons (.int .i64) .nil))))) .nil)
def ts17 : List (Nat × TD) := [(3, (.data (.int .i64))), (9, (.data .str)), (23, (.data (.slice (.struct (.cons .str (.cons (.int .i64) (.cons (.int .i64) .nil))))))), (27, (.data (.struct (.cons .str (.cons (.int .i64) (.cons (.int .i64) .nil)))))), (28, (.data (.int .i64)))]
noncomputable def fs17 (g31 : ByteArray → (Bool)) (g115 : Int → Int → Int → (Bool)) : List (Nat × FSem) := [(31, .fn (.cons .str .nil) (.cons .bool .nil) fun x => ((g31 x.1), ())), (115, .fn (.cons (.int .i64) (.cons (.int .i64) (.cons (.int .i64) .nil))) (.cons .bool .nil) fun x => ((g115 x.1 x.2.1 x.2.2.1), ()))]
noncomputable def body17 : Code := match Try.f17.body with | some c => c | none => .skip
theorem ty17 : chkTypes Try.prog ts17 = true := by kernel_rfl
theorem ev17 (g31 : ByteArray → (Bool)) (g115 : Int → Int → Int → (Bool)) (k : Nat) (x : ((.cons (.slice (.struct (.cons .str (.cons (.int .i64) (.cons (.int .i64) .nil))))) .nil) : Tys).den) : evFun (mkEnv ts17 (fs17 g31 g115)) H17 k body17 39 [.tmp 2] (explodes (.cons (.slice (.struct (.cons .str (.cons (.int .i64) (.cons (.int .i64) .nil))))) .nil) x) [] (dec (.cons (.int .i64) .nil)) = f17 g31 g115 k x.1 := by kernel_rfl
/-! ### jitney/base.First -/
def f123  (k : Nat) (x0 : List Int) : Option (Int × Unit) :=
  Option.bind (α := (Int × Unit) ⊕ ((Unit) × (Unit))) (iter (σ := (Int × Unit) × (Unit)) (τ := (Int × Unit) ⊕ ((Unit) × (Unit))) k (fun y1 =>
      bif (decide (y1.1.1 < ((List.length x0 : Nat) : Int))) then
        bif (inR y1.1.1 ((List.length x0 : Nat) : Int)) then
          bif ((rd (α := Int) (0 : Int) x0 y1.1.1) != (0 : Int)) then
            some (.inr (.inl ((rd (α := Int) (0 : Int) x0 y1.1.1), ())))
          else
            some (.inl (((IntKind.i64.wrap (y1.1.1 + (1 : Int))), ()), ()))
        else
          none
      else
        some (.inr (.inr ((), ())))) (((0 : Int), ()), ())) fun r => match r with
  | .inl z => some z
  | .inr z2 =>
    some ((0 : Int), ())
def H123 : Hints where
  loop := fun n => match n with
    | 0 => some ({ slots := [(7, (.int .i64))], objs := [], gone := [] }, 0, { slots := [], objs := [], gone := [] })
    | _ => none
  region := fun n => match n with
    | _ => none
  cond := fun n => match n with
    | _ => none
  block := fun n => match n with
    | _ => none
abbrev A123 : Tys := (.cons (.slice (.int .i64)) .nil)
def ts123 : List (Nat × TD) := [(3, (.data (.int .i64))), (28, (.data (.int .i64))), (184, (.data (.slice (.int .i64))))]
noncomputable def fs123  : List (Nat × FSem) := []
noncomputable def body123 : Code := match Try.f123.body with | some c => c | none => .skip
theorem ty123 : chkTypes Try.prog ts123 = true := by kernel_rfl
theorem ev123  (k : Nat) (x : ((.cons (.slice (.int .i64)) .nil) : Tys).den) : evFun (mkEnv ts123 (fs123 )) H123 k body123 15 [.tmp 2] (explodes (.cons (.slice (.int .i64)) .nil) x) [] (dec (.cons (.int .i64) .nil)) = f123  k x.1 := by kernel_rfl
/-! ### jitney/fleet.oneFault -/
def f116 (g12 : (List (ByteArray × Int × Int × Int × Int × Unit)) → (Int)) (g15 : (List (ByteArray × Int × Int × Unit)) → (Int)) (g123 : (List Int) → (Int)) (k : Nat) (x0 : (ByteArray × Int × Int × Int × Int × Unit)) (x1 : (ByteArray × Int × Int × Unit)) : Option (Int × Unit) :=
  some ((g123 ([(g12 ([x0])), (g15 ([x1]))])), ())
def H116 : Hints where
  loop := fun n => match n with
    | _ => none
  region := fun n => match n with
    | _ => none
  cond := fun n => match n with
    | _ => none
  block := fun n => match n with
    | _ => none
abbrev A116 : Tys := (.cons (.struct (.cons .str (.cons (.int .i64) (.cons (.int .i64) (.cons (.int .i64) (.cons (.int .i64) .nil)))))) (.cons (.struct (.cons .str (.cons (.int .i64) (.cons (.int .i64) .nil)))) .nil))
def ts116 : List (Nat × TD) := [(22, (.data (.slice (.struct (.cons .str (.cons (.int .i64) (.cons (.int .i64) (.cons (.int .i64) (.cons (.int .i64) .nil))))))))), (23, (.data (.slice (.struct (.cons .str (.cons (.int .i64) (.cons (.int .i64) .nil))))))), (25, (.data (.struct (.cons .str (.cons (.int .i64) (.cons (.int .i64) (.cons (.int .i64) (.cons (.int .i64) .nil)))))))), (27, (.data (.struct (.cons .str (.cons (.int .i64) (.cons (.int .i64) .nil)))))), (28, (.data (.int .i64))), (184, (.data (.slice (.int .i64))))]
noncomputable def fs116 (g12 : (List (ByteArray × Int × Int × Int × Int × Unit)) → (Int)) (g15 : (List (ByteArray × Int × Int × Unit)) → (Int)) (g123 : (List Int) → (Int)) : List (Nat × FSem) := [(12, .fn (.cons (.slice (.struct (.cons .str (.cons (.int .i64) (.cons (.int .i64) (.cons (.int .i64) (.cons (.int .i64) .nil))))))) .nil) (.cons (.int .i64) .nil) fun x => ((g12 x.1), ())), (15, .fn (.cons (.slice (.struct (.cons .str (.cons (.int .i64) (.cons (.int .i64) .nil))))) .nil) (.cons (.int .i64) .nil) fun x => ((g15 x.1), ())), (123, .fn (.cons (.slice (.int .i64)) .nil) (.cons (.int .i64) .nil) fun x => ((g123 x.1), ()))]
noncomputable def body116 : Code := match Try.f116.body with | some c => c | none => .skip
theorem ty116 : chkTypes Try.prog ts116 = true := by kernel_rfl
theorem ev116 (g12 : (List (ByteArray × Int × Int × Int × Int × Unit)) → (Int)) (g15 : (List (ByteArray × Int × Int × Unit)) → (Int)) (g123 : (List Int) → (Int)) (k : Nat) (x : ((.cons (.struct (.cons .str (.cons (.int .i64) (.cons (.int .i64) (.cons (.int .i64) (.cons (.int .i64) .nil)))))) (.cons (.struct (.cons .str (.cons (.int .i64) (.cons (.int .i64) .nil)))) .nil)) : Tys).den) : evFun (mkEnv ts116 (fs116 g12 g15 g123)) H116 k body116 13 [.tmp 4] (explodes (.cons (.struct (.cons .str (.cons (.int .i64) (.cons (.int .i64) (.cons (.int .i64) (.cons (.int .i64) .nil)))))) (.cons (.struct (.cons .str (.cons (.int .i64) (.cons (.int .i64) .nil)))) .nil)) x) [] (dec (.cons (.int .i64) .nil)) = f116 g12 g15 g123 k x.1 x.2.1 := by kernel_rfl
/-! ### jitney/fleet.newBattery -/
def f117  (k : Nat) (x0 : (ByteArray × Int × Int × Int × Int × Unit)) (x1 : (ByteArray × Int × Int × Unit)) (x2 : Int) : Option ((Int × Int × Int × Int × Unit) × Unit) :=
  some (((IntKind.i64.wrap (x2 * (3600000000 : Int))), (IntKind.i64.wrap ((IntKind.i64.wrap (Int.tdiv (IntKind.i64.wrap (x0.2.1 * x0.2.2.2.2.1)) (1000 : Int))) * (3600000000 : Int))), (IntKind.i64.wrap (x0.2.1 * (3600000000 : Int))), (IntKind.i64.wrap ((1000 : Int) * (if (decide (x1.2.2.1 < x0.2.2.2.1)) then x1.2.2.1 else x0.2.2.2.1))), ()), ())
def H117 : Hints where
  loop := fun n => match n with
    | _ => none
  region := fun n => match n with
    | _ => none
  cond := fun n => match n with
    | _ => none
  block := fun n => match n with
    | _ => none
abbrev A117 : Tys := (.cons (.struct (.cons .str (.cons (.int .i64) (.cons (.int .i64) (.cons (.int .i64) (.cons (.int .i64) .nil)))))) (.cons (.struct (.cons .str (.cons (.int .i64) (.cons (.int .i64) .nil)))) (.cons (.int .i64) .nil)))
def ts117 : List (Nat × TD) := [(3, (.data (.int .i64))), (25, (.data (.struct (.cons .str (.cons (.int .i64) (.cons (.int .i64) (.cons (.int .i64) (.cons (.int .i64) .nil)))))))), (27, (.data (.struct (.cons .str (.cons (.int .i64) (.cons (.int .i64) .nil)))))), (181, (.data (.struct (.cons (.int .i64) (.cons (.int .i64) (.cons (.int .i64) (.cons (.int .i64) .nil)))))))]
noncomputable def fs117  : List (Nat × FSem) := []
noncomputable def body117 : Code := match Try.f117.body with | some c => c | none => .skip
theorem ty117 : chkTypes Try.prog ts117 = true := by kernel_rfl
theorem ev117  (k : Nat) (x : ((.cons (.struct (.cons .str (.cons (.int .i64) (.cons (.int .i64) (.cons (.int .i64) (.cons (.int .i64) .nil)))))) (.cons (.struct (.cons .str (.cons (.int .i64) (.cons (.int .i64) .nil)))) (.cons (.int .i64) .nil))) : Tys).den) : evFun (mkEnv ts117 (fs117 )) H117 k body117 26 [.cell 6 181] (explodes (.cons (.struct (.cons .str (.cons (.int .i64) (.cons (.int .i64) (.cons (.int .i64) (.cons (.int .i64) .nil)))))) (.cons (.struct (.cons .str (.cons (.int .i64) (.cons (.int .i64) .nil)))) (.cons (.int .i64) .nil))) x) [] (dec (.cons (.struct (.cons (.int .i64) (.cons (.int .i64) (.cons (.int .i64) (.cons (.int .i64) .nil))))) .nil)) = f117  k x.1 x.2.1 x.2.2.1 := by kernel_rfl
/-! ### jitney/fleet.up -/
def f208  (k : Nat) (x0 : Int) (x1 : Int) : Option (Int × Unit) :=
  bif decide (x1 = 0) then
    none
  else
    some ((IntKind.i64.wrap (Int.tdiv (IntKind.i64.wrap ((IntKind.i64.wrap (x0 + x1)) - (1 : Int))) x1)), ())
def H208 : Hints where
  loop := fun n => match n with
    | _ => none
  region := fun n => match n with
    | _ => none
  cond := fun n => match n with
    | _ => none
  block := fun n => match n with
    | _ => none
abbrev A208 : Tys := (.cons (.int .i64) (.cons (.int .i64) .nil))
def ts208 : List (Nat × TD) := [(3, (.data (.int .i64)))]
noncomputable def fs208  : List (Nat × FSem) := []
noncomputable def body208 : Code := match Try.f208.body with | some c => c | none => .skip
theorem ty208 : chkTypes Try.prog ts208 = true := by kernel_rfl
theorem ev208  (k : Nat) (x : ((.cons (.int .i64) (.cons (.int .i64) .nil)) : Tys).den) : evFun (mkEnv ts208 (fs208 )) H208 k body208 11 [.tmp 4] (explodes (.cons (.int .i64) (.cons (.int .i64) .nil)) x) [] (dec (.cons (.int .i64) .nil)) = f208  k x.1 x.2.1 := by kernel_rfl
/-! ### (jitney/fleet.battery).after -/
def f118 (g208 : Int → Int → Option (Int × Unit)) (k : Nat) (x0 : (Int × Int × Int × Int × Unit)) (x1 : Int) : Option (Int × Unit) :=
  Option.bind (α := (Int × Unit) ⊕ ((Int × Unit) × ((Int × Int × Int × Int × Unit) × Unit))) (
      bif (decide (x0.1 < x0.2.1)) then
        Option.bind (g208 (IntKind.i64.wrap (x0.2.1 - x0.1)) x0.2.2.2.1) fun v1 =>
        some (.inr (((IntKind.i64.wrap (x1 - (if (decide (v1.1 < x1)) then v1.1 else x1))), ()), (((IntKind.i64.wrap (x0.1 + (IntKind.i64.wrap ((if (decide (v1.1 < x1)) then v1.1 else x1) * x0.2.2.2.1)))), x0.2.1, x0.2.2.1, x0.2.2.2.1, ()), ())))
      else
        some (.inr ((x1, ()), (x0, ())))) fun r => match r with
  | .inl z => some z
  | .inr y2 =>
    some ((if (decide ((IntKind.i64.wrap (y2.2.1.1 + (IntKind.i64.wrap (y2.1.1 * (IntKind.i64.wrap (Int.tdiv y2.2.1.2.2.2.1 (2 : Int))))))) < y2.2.1.2.2.1)) then (IntKind.i64.wrap (y2.2.1.1 + (IntKind.i64.wrap (y2.1.1 * (IntKind.i64.wrap (Int.tdiv y2.2.1.2.2.2.1 (2 : Int))))))) else y2.2.1.2.2.1), ())
def H118 : Hints where
  loop := fun n => match n with
    | _ => none
  region := fun n => match n with
    | _ => none
  cond := fun n => match n with
    | 10 => some { slots := [(1, (.int .i64))], objs := [(0, (.box (.data (.struct (.cons (.int .i64) (.cons (.int .i64) (.cons (.int .i64) (.cons (.int .i64) .nil)))))) (.agg (.cons (.int .i64) (.cons (.int .i64) (.cons (.int .i64) (.cons (.int .i64) .nil)))))))], gone := [] }
    | _ => none
  block := fun n => match n with
    | _ => none
abbrev A118 : Tys := (.cons (.struct (.cons (.int .i64) (.cons (.int .i64) (.cons (.int .i64) (.cons (.int .i64) .nil))))) (.cons (.int .i64) .nil))
def ts118 : List (Nat × TD) := [(3, (.data (.int .i64))), (181, (.data (.struct (.cons (.int .i64) (.cons (.int .i64) (.cons (.int .i64) (.cons (.int .i64) .nil)))))))]
noncomputable def fs118 (g208 : Int → Int → Option (Int × Unit)) : List (Nat × FSem) := [(208, .pfn (.cons (.int .i64) (.cons (.int .i64) .nil)) (.cons (.int .i64) .nil) fun x => (g208 x.1 x.2.1))]
noncomputable def body118 : Code := match Try.f118.body with | some c => c | none => .skip
theorem ty118 : chkTypes Try.prog ts118 = true := by kernel_rfl
theorem ev118 (g208 : Int → Int → Option (Int × Unit)) (k : Nat) (x : ((.cons (.struct (.cons (.int .i64) (.cons (.int .i64) (.cons (.int .i64) (.cons (.int .i64) .nil))))) (.cons (.int .i64) .nil)) : Tys).den) : evFun (mkEnv ts118 (fs118 g208)) H118 k body118 43 [.tmp 4] (explodes (.cons (.struct (.cons (.int .i64) (.cons (.int .i64) (.cons (.int .i64) (.cons (.int .i64) .nil))))) (.cons (.int .i64) .nil)) x) [] (dec (.cons (.int .i64) .nil)) = f118 g208 k x.1 x.2.1 := by kernel_rfl
/-! ### jitney/fleet.Gain -/
def f18 (g114 : Int → Int → Int → (Bool)) (g116 : (ByteArray × Int × Int × Int × Int × Unit) → (ByteArray × Int × Int × Unit) → (Int)) (g117 : (ByteArray × Int × Int × Int × Int × Unit) → (ByteArray × Int × Int × Unit) → Int → ((Int × Int × Int × Int × Unit))) (g118 : (Int × Int × Int × Int × Unit) → Int → Option (Int × Unit)) (k : Nat) (x0 : (ByteArray × Int × Int × Int × Int × Unit)) (x1 : (ByteArray × Int × Int × Unit)) (x2 : Int) (x3 : Int) : Option (Int × Int × Unit) :=
  bif ((g116 x0 x1) != (0 : Int)) then
    some ((0 : Int), (g116 x0 x1), ())
  else
    bif (g114 x2 (0 : Int) x0.2.1) then
      some ((0 : Int), (1 : Int), ())
    else
      bif (g114 x3 (0 : Int) (2592000000 : Int)) then
        some ((0 : Int), (1 : Int), ())
      else
        Option.bind (g118 (g117 x0 x1 x2) x3) fun v1 =>
        some ((IntKind.i64.wrap (Int.tdiv v1.1 (3600000000 : Int))), (0 : Int), ())
def H18 : Hints where
  loop := fun n => match n with
    | _ => none
  region := fun n => match n with
    | _ => none
  cond := fun n => match n with
    | _ => none
  block := fun n => match n with
    | _ => none
abbrev A18 : Tys := (.cons (.struct (.cons .str (.cons (.int .i64) (.cons (.int .i64) (.cons (.int .i64) (.cons (.int .i64) .nil)))))) (.cons (.struct (.cons .str (.cons (.int .i64) (.cons (.int .i64) .nil)))) (.cons (.int .i64) (.cons (.int .i64) .nil))))
def ts18 : List (Nat × TD) := [(3, (.data (.int .i64))), (25, (.data (.struct (.cons .str (.cons (.int .i64) (.cons (.int .i64) (.cons (.int .i64) (.cons (.int .i64) .nil)))))))), (27, (.data (.struct (.cons .str (.cons (.int .i64) (.cons (.int .i64) .nil)))))), (28, (.data (.int .i64)))]
noncomputable def fs18 (g114 : Int → Int → Int → (Bool)) (g116 : (ByteArray × Int × Int × Int × Int × Unit) → (ByteArray × Int × Int × Unit) → (Int)) (g117 : (ByteArray × Int × Int × Int × Int × Unit) → (ByteArray × Int × Int × Unit) → Int → ((Int × Int × Int × Int × Unit))) (g118 : (Int × Int × Int × Int × Unit) → Int → Option (Int × Unit)) : List (Nat × FSem) := [(114, .fn (.cons (.int .i64) (.cons (.int .i64) (.cons (.int .i64) .nil))) (.cons .bool .nil) fun x => ((g114 x.1 x.2.1 x.2.2.1), ())), (116, .fn (.cons (.struct (.cons .str (.cons (.int .i64) (.cons (.int .i64) (.cons (.int .i64) (.cons (.int .i64) .nil)))))) (.cons (.struct (.cons .str (.cons (.int .i64) (.cons (.int .i64) .nil)))) .nil)) (.cons (.int .i64) .nil) fun x => ((g116 x.1 x.2.1), ())), (117, .fn (.cons (.struct (.cons .str (.cons (.int .i64) (.cons (.int .i64) (.cons (.int .i64) (.cons (.int .i64) .nil)))))) (.cons (.struct (.cons .str (.cons (.int .i64) (.cons (.int .i64) .nil)))) (.cons (.int .i64) .nil))) (.cons (.struct (.cons (.int .i64) (.cons (.int .i64) (.cons (.int .i64) (.cons (.int .i64) .nil))))) .nil) fun x => ((g117 x.1 x.2.1 x.2.2.1), ())), (118, .pfn (.cons (.struct (.cons (.int .i64) (.cons (.int .i64) (.cons (.int .i64) (.cons (.int .i64) .nil))))) (.cons (.int .i64) .nil)) (.cons (.int .i64) .nil) fun x => (g118 x.1 x.2.1))]
noncomputable def body18 : Code := match Try.f18.body with | some c => c | none => .skip
theorem ty18 : chkTypes Try.prog ts18 = true := by kernel_rfl
theorem ev18 (g114 : Int → Int → Int → (Bool)) (g116 : (ByteArray × Int × Int × Int × Int × Unit) → (ByteArray × Int × Int × Unit) → (Int)) (g117 : (ByteArray × Int × Int × Int × Int × Unit) → (ByteArray × Int × Int × Unit) → Int → ((Int × Int × Int × Int × Unit))) (g118 : (Int × Int × Int × Int × Unit) → Int → Option (Int × Unit)) (k : Nat) (x : ((.cons (.struct (.cons .str (.cons (.int .i64) (.cons (.int .i64) (.cons (.int .i64) (.cons (.int .i64) .nil)))))) (.cons (.struct (.cons .str (.cons (.int .i64) (.cons (.int .i64) .nil)))) (.cons (.int .i64) (.cons (.int .i64) .nil)))) : Tys).den) : evFun (mkEnv ts18 (fs18 g114 g116 g117 g118)) H18 k body18 32 [.tmp 8, .tmp 9] (explodes (.cons (.struct (.cons .str (.cons (.int .i64) (.cons (.int .i64) (.cons (.int .i64) (.cons (.int .i64) .nil)))))) (.cons (.struct (.cons .str (.cons (.int .i64) (.cons (.int .i64) .nil)))) (.cons (.int .i64) (.cons (.int .i64) .nil)))) x) [] (dec (.cons (.int .i64) (.cons (.int .i64) .nil))) = f18 g114 g116 g117 g118 k x.1 x.2.1 x.2.2.1 x.2.2.2.1 := by kernel_rfl
/-! ### (jitney/fleet.battery).needs -/
def f119 (g208 : Int → Int → Option (Int × Unit)) (k : Nat) (x0 : (Int × Int × Int × Int × Unit)) (x1 : Int) : Option (Int × Unit) :=
  Option.bind (α := (Int × Unit) ⊕ ((Bool × Unit) × (Unit))) (
      bif (decide (x0.1 < x0.2.1)) then
        some (.inr (((decide (x0.1 < x1)), ()), ()))
      else
        some (.inr ((false, ()), ()))) fun r => match r with
  | .inl z => some z
  | .inr y1 =>
    Option.bind (α := (Int × Unit) ⊕ ((Int × Unit) × ((Int × Int × Int × Int × Unit) × Unit))) (
        bif y1.1.1 then
          Option.bind (g208 (IntKind.i64.wrap (x0.2.1 - x0.1)) x0.2.2.2.1) fun v2 =>
          Option.bind (g208 (IntKind.i64.wrap (x1 - x0.1)) x0.2.2.2.1) fun v3 =>
          some (.inr (((if (decide (v3.1 < v2.1)) then v3.1 else v2.1), ()), (((IntKind.i64.wrap (x0.1 + (IntKind.i64.wrap ((if (decide (v3.1 < v2.1)) then v3.1 else v2.1) * x0.2.2.2.1)))), x0.2.1, x0.2.2.1, x0.2.2.2.1, ()), ())))
        else
          some (.inr (((0 : Int), ()), (x0, ())))) fun r => match r with
    | .inl z => some z
    | .inr y4 =>
      bif (decide (y4.2.1.1 < x1)) then
        Option.bind (g208 (IntKind.i64.wrap (x1 - y4.2.1.1)) (IntKind.i64.wrap (Int.tdiv y4.2.1.2.2.2.1 (2 : Int)))) fun v5 =>
        some ((IntKind.i64.wrap (y4.1.1 + v5.1)), ())
      else
        some (y4.1.1, ())
def H119 : Hints where
  loop := fun n => match n with
    | _ => none
  region := fun n => match n with
    | 2 => some { slots := [(16, .bool)], objs := [], gone := [] }
    | _ => none
  cond := fun n => match n with
    | 16 => some { slots := [(5, (.int .i64))], objs := [(0, (.box (.data (.struct (.cons (.int .i64) (.cons (.int .i64) (.cons (.int .i64) (.cons (.int .i64) .nil)))))) (.agg (.cons (.int .i64) (.cons (.int .i64) (.cons (.int .i64) (.cons (.int .i64) .nil)))))))], gone := [] }
    | _ => none
  block := fun n => match n with
    | _ => none
abbrev A119 : Tys := (.cons (.struct (.cons (.int .i64) (.cons (.int .i64) (.cons (.int .i64) (.cons (.int .i64) .nil))))) (.cons (.int .i64) .nil))
def ts119 : List (Nat × TD) := [(3, (.data (.int .i64))), (181, (.data (.struct (.cons (.int .i64) (.cons (.int .i64) (.cons (.int .i64) (.cons (.int .i64) .nil)))))))]
noncomputable def fs119 (g208 : Int → Int → Option (Int × Unit)) : List (Nat × FSem) := [(208, .pfn (.cons (.int .i64) (.cons (.int .i64) .nil)) (.cons (.int .i64) .nil) fun x => (g208 x.1 x.2.1))]
noncomputable def body119 : Code := match Try.f119.body with | some c => c | none => .skip
theorem ty119 : chkTypes Try.prog ts119 = true := by kernel_rfl
theorem ev119 (g208 : Int → Int → Option (Int × Unit)) (k : Nat) (x : ((.cons (.struct (.cons (.int .i64) (.cons (.int .i64) (.cons (.int .i64) (.cons (.int .i64) .nil))))) (.cons (.int .i64) .nil)) : Tys).den) : evFun (mkEnv ts119 (fs119 g208)) H119 k body119 56 [.tmp 4] (explodes (.cons (.struct (.cons (.int .i64) (.cons (.int .i64) (.cons (.int .i64) (.cons (.int .i64) .nil))))) (.cons (.int .i64) .nil)) x) [] (dec (.cons (.int .i64) .nil)) = f119 g208 k x.1 x.2.1 := by kernel_rfl
/-! ### jitney/fleet.Needs -/
def f19 (g114 : Int → Int → Int → (Bool)) (g116 : (ByteArray × Int × Int × Int × Int × Unit) → (ByteArray × Int × Int × Unit) → (Int)) (g117 : (ByteArray × Int × Int × Int × Int × Unit) → (ByteArray × Int × Int × Unit) → Int → ((Int × Int × Int × Int × Unit))) (g119 : (Int × Int × Int × Int × Unit) → Int → Option (Int × Unit)) (k : Nat) (x0 : (ByteArray × Int × Int × Int × Int × Unit)) (x1 : (ByteArray × Int × Int × Unit)) (x2 : Int) (x3 : Int) : Option (Int × Int × Unit) :=
  bif ((g116 x0 x1) != (0 : Int)) then
    some ((0 : Int), (g116 x0 x1), ())
  else
    bif (g114 x2 (0 : Int) x0.2.1) then
      some ((0 : Int), (1 : Int), ())
    else
      bif (g114 x3 (0 : Int) x0.2.1) then
        some ((0 : Int), (1 : Int), ())
      else
        Option.bind (g119 (g117 x0 x1 x2) (IntKind.i64.wrap (x3 * (3600000000 : Int)))) fun v1 =>
        some (v1.1, (0 : Int), ())
def H19 : Hints where
  loop := fun n => match n with
    | _ => none
  region := fun n => match n with
    | _ => none
  cond := fun n => match n with
    | _ => none
  block := fun n => match n with
    | _ => none
abbrev A19 : Tys := (.cons (.struct (.cons .str (.cons (.int .i64) (.cons (.int .i64) (.cons (.int .i64) (.cons (.int .i64) .nil)))))) (.cons (.struct (.cons .str (.cons (.int .i64) (.cons (.int .i64) .nil)))) (.cons (.int .i64) (.cons (.int .i64) .nil))))
def ts19 : List (Nat × TD) := [(3, (.data (.int .i64))), (25, (.data (.struct (.cons .str (.cons (.int .i64) (.cons (.int .i64) (.cons (.int .i64) (.cons (.int .i64) .nil)))))))), (27, (.data (.struct (.cons .str (.cons (.int .i64) (.cons (.int .i64) .nil)))))), (28, (.data (.int .i64)))]
noncomputable def fs19 (g114 : Int → Int → Int → (Bool)) (g116 : (ByteArray × Int × Int × Int × Int × Unit) → (ByteArray × Int × Int × Unit) → (Int)) (g117 : (ByteArray × Int × Int × Int × Int × Unit) → (ByteArray × Int × Int × Unit) → Int → ((Int × Int × Int × Int × Unit))) (g119 : (Int × Int × Int × Int × Unit) → Int → Option (Int × Unit)) : List (Nat × FSem) := [(114, .fn (.cons (.int .i64) (.cons (.int .i64) (.cons (.int .i64) .nil))) (.cons .bool .nil) fun x => ((g114 x.1 x.2.1 x.2.2.1), ())), (116, .fn (.cons (.struct (.cons .str (.cons (.int .i64) (.cons (.int .i64) (.cons (.int .i64) (.cons (.int .i64) .nil)))))) (.cons (.struct (.cons .str (.cons (.int .i64) (.cons (.int .i64) .nil)))) .nil)) (.cons (.int .i64) .nil) fun x => ((g116 x.1 x.2.1), ())), (117, .fn (.cons (.struct (.cons .str (.cons (.int .i64) (.cons (.int .i64) (.cons (.int .i64) (.cons (.int .i64) .nil)))))) (.cons (.struct (.cons .str (.cons (.int .i64) (.cons (.int .i64) .nil)))) (.cons (.int .i64) .nil))) (.cons (.struct (.cons (.int .i64) (.cons (.int .i64) (.cons (.int .i64) (.cons (.int .i64) .nil))))) .nil) fun x => ((g117 x.1 x.2.1 x.2.2.1), ())), (119, .pfn (.cons (.struct (.cons (.int .i64) (.cons (.int .i64) (.cons (.int .i64) (.cons (.int .i64) .nil))))) (.cons (.int .i64) .nil)) (.cons (.int .i64) .nil) fun x => (g119 x.1 x.2.1))]
noncomputable def body19 : Code := match Try.f19.body with | some c => c | none => .skip
theorem ty19 : chkTypes Try.prog ts19 = true := by kernel_rfl
theorem ev19 (g114 : Int → Int → Int → (Bool)) (g116 : (ByteArray × Int × Int × Int × Int × Unit) → (ByteArray × Int × Int × Unit) → (Int)) (g117 : (ByteArray × Int × Int × Int × Int × Unit) → (ByteArray × Int × Int × Unit) → Int → ((Int × Int × Int × Int × Unit))) (g119 : (Int × Int × Int × Int × Unit) → Int → Option (Int × Unit)) (k : Nat) (x : ((.cons (.struct (.cons .str (.cons (.int .i64) (.cons (.int .i64) (.cons (.int .i64) (.cons (.int .i64) .nil)))))) (.cons (.struct (.cons .str (.cons (.int .i64) (.cons (.int .i64) .nil)))) (.cons (.int .i64) (.cons (.int .i64) .nil)))) : Tys).den) : evFun (mkEnv ts19 (fs19 g114 g116 g117 g119)) H19 k body19 34 [.tmp 8, .tmp 9] (explodes (.cons (.struct (.cons .str (.cons (.int .i64) (.cons (.int .i64) (.cons (.int .i64) (.cons (.int .i64) .nil)))))) (.cons (.struct (.cons .str (.cons (.int .i64) (.cons (.int .i64) .nil)))) (.cons (.int .i64) (.cons (.int .i64) .nil)))) x) [] (dec (.cons (.int .i64) (.cons (.int .i64) .nil))) = f19 g114 g116 g117 g119 k x.1 x.2.1 x.2.2.1 x.2.2.2.1 := by kernel_rfl
/-! ### jitney/jitlaw2.errs -/
def f20  (k : Nat) (x0 : List Int) : Option (Int × Unit) :=
  Option.bind (α := (Int × Unit) ⊕ ((Unit) × (Unit))) (iter (σ := (Int × Unit) × (Unit)) (τ := (Int × Unit) ⊕ ((Unit) × (Unit))) k (fun y1 =>
      bif (decide (y1.1.1 < ((List.length x0 : Nat) : Int))) then
        bif (inR y1.1.1 ((List.length x0 : Nat) : Int)) then
          bif ((rd (α := Int) (0 : Int) x0 y1.1.1) != (0 : Int)) then
            some (.inr (.inl ((rd (α := Int) (0 : Int) x0 y1.1.1), ())))
          else
            some (.inl (((IntKind.i64.wrap (y1.1.1 + (1 : Int))), ()), ()))
        else
          none
      else
        some (.inr (.inr ((), ())))) (((0 : Int), ()), ())) fun r => match r with
  | .inl z => some z
  | .inr z2 =>
    some ((0 : Int), ())
def H20 : Hints where
  loop := fun n => match n with
    | 0 => some ({ slots := [(7, (.int .i64))], objs := [], gone := [] }, 0, { slots := [], objs := [], gone := [] })
    | _ => none
  region := fun n => match n with
    | _ => none
  cond := fun n => match n with
    | _ => none
  block := fun n => match n with
    | _ => none
abbrev A20 : Tys := (.cons (.slice (.int .i64)) .nil)
def ts20 : List (Nat × TD) := [(3, (.data (.int .i64))), (28, (.data (.int .i64))), (184, (.data (.slice (.int .i64))))]
noncomputable def fs20  : List (Nat × FSem) := []
noncomputable def body20 : Code := match Try.f20.body with | some c => c | none => .skip
theorem ty20 : chkTypes Try.prog ts20 = true := by kernel_rfl
theorem ev20  (k : Nat) (x : ((.cons (.slice (.int .i64)) .nil) : Tys).den) : evFun (mkEnv ts20 (fs20 )) H20 k body20 15 [.tmp 2] (explodes (.cons (.slice (.int .i64)) .nil) x) [] (dec (.cons (.int .i64) .nil)) = f20  k x.1 := by kernel_rfl
/-! ### jitney/jitlaw2.when -/
def f21  (k : Nat) (x0 : Bool) (x1 : Int) : Option (Int × Unit) :=
  bif x0 then
    some (x1, ())
  else
    some ((0 : Int), ())
def H21 : Hints where
  loop := fun n => match n with
    | _ => none
  region := fun n => match n with
    | _ => none
  cond := fun n => match n with
    | _ => none
  block := fun n => match n with
    | _ => none
abbrev A21 : Tys := (.cons .bool (.cons (.int .i64) .nil))
def ts21 : List (Nat × TD) := [(4, (.data .bool)), (28, (.data (.int .i64)))]
noncomputable def fs21  : List (Nat × FSem) := []
noncomputable def body21 : Code := match Try.f21.body with | some c => c | none => .skip
theorem ty21 : chkTypes Try.prog ts21 = true := by kernel_rfl
theorem ev21  (k : Nat) (x : ((.cons .bool (.cons (.int .i64) .nil)) : Tys).den) : evFun (mkEnv ts21 (fs21 )) H21 k body21 7 [.tmp 4] (explodes (.cons .bool (.cons (.int .i64) .nil)) x) [] (dec (.cons (.int .i64) .nil)) = f21  k x.1 x.2.1 := by kernel_rfl
/-! ### jitney/jitref2.over -/
def f120  (k : Nat) (x0 : Int) (x1 : Int) : Option (Int × Unit) :=
  bif decide (x1 = 0) then
    none
  else
    some ((IntKind.i64.wrap (Int.tdiv (IntKind.i64.wrap ((IntKind.i64.wrap (x0 + x1)) - (1 : Int))) x1)), ())
def H120 : Hints where
  loop := fun n => match n with
    | _ => none
  region := fun n => match n with
    | _ => none
  cond := fun n => match n with
    | _ => none
  block := fun n => match n with
    | _ => none
abbrev A120 : Tys := (.cons (.int .i64) (.cons (.int .i64) .nil))
def ts120 : List (Nat × TD) := [(3, (.data (.int .i64)))]
noncomputable def fs120  : List (Nat × FSem) := []
noncomputable def body120 : Code := match Try.f120.body with | some c => c | none => .skip
theorem ty120 : chkTypes Try.prog ts120 = true := by kernel_rfl
theorem ev120  (k : Nat) (x : ((.cons (.int .i64) (.cons (.int .i64) .nil)) : Tys).den) : evFun (mkEnv ts120 (fs120 )) H120 k body120 11 [.tmp 4] (explodes (.cons (.int .i64) (.cons (.int .i64) .nil)) x) [] (dec (.cons (.int .i64) .nil)) = f120  k x.1 x.2.1 := by kernel_rfl
/-! ### jitney/jitref2.GainOf -/
def f22 (g120 : Int → Int → Option (Int × Unit)) (k : Nat) (x0 : (ByteArray × Int × Int × Int × Int × Unit)) (x1 : (ByteArray × Int × Int × Unit)) (x2 : Int) (x3 : Int) : Option (Int × Unit) :=
  Option.bind (α := (Int × Unit) ⊕ ((Int × Unit) × (Unit))) (
      bif (decide ((IntKind.i64.wrap (x2 * (3600000000 : Int))) < (IntKind.i64.wrap ((IntKind.i64.wrap (Int.tdiv (IntKind.i64.wrap (x0.2.1 * x0.2.2.2.2.1)) (1000 : Int))) * (3600000000 : Int))))) then
        Option.bind (g120 (IntKind.i64.wrap ((IntKind.i64.wrap ((IntKind.i64.wrap (Int.tdiv (IntKind.i64.wrap (x0.2.1 * x0.2.2.2.2.1)) (1000 : Int))) * (3600000000 : Int))) - (IntKind.i64.wrap (x2 * (3600000000 : Int))))) (IntKind.i64.wrap ((1000 : Int) * (if (decide (x1.2.2.1 < x0.2.2.2.1)) then x1.2.2.1 else x0.2.2.2.1)))) fun v1 =>
        some (.inr (((if (decide (v1.1 < x3)) then v1.1 else x3), ()), ()))
      else
        some (.inr (((0 : Int), ()), ()))) fun r => match r with
  | .inl z => some z
  | .inr y2 =>
    Option.bind (α := (Int × Unit) ⊕ ((Int × Unit) × (Unit))) (
        bif (decide ((IntKind.i64.wrap (x3 - y2.1.1)) > (0 : Int))) then
          Option.bind (g120 (if (decide ((IntKind.i64.wrap ((IntKind.i64.wrap (x0.2.1 * (3600000000 : Int))) - (IntKind.i64.wrap ((IntKind.i64.wrap (x2 * (3600000000 : Int))) + (IntKind.i64.wrap ((IntKind.i64.wrap (y2.1.1 * (1000 : Int))) * (if (decide (x1.2.2.1 < x0.2.2.2.1)) then x1.2.2.1 else x0.2.2.2.1))))))) > (0 : Int))) then (IntKind.i64.wrap ((IntKind.i64.wrap (x0.2.1 * (3600000000 : Int))) - (IntKind.i64.wrap ((IntKind.i64.wrap (x2 * (3600000000 : Int))) + (IntKind.i64.wrap ((IntKind.i64.wrap (y2.1.1 * (1000 : Int))) * (if (decide (x1.2.2.1 < x0.2.2.2.1)) then x1.2.2.1 else x0.2.2.2.1))))))) else (0 : Int)) (IntKind.i64.wrap ((500 : Int) * (if (decide (x1.2.2.1 < x0.2.2.2.1)) then x1.2.2.1 else x0.2.2.2.1)))) fun v3 =>
          some (.inr (((IntKind.i64.wrap ((IntKind.i64.wrap ((IntKind.i64.wrap (x2 * (3600000000 : Int))) + (IntKind.i64.wrap ((IntKind.i64.wrap (y2.1.1 * (1000 : Int))) * (if (decide (x1.2.2.1 < x0.2.2.2.1)) then x1.2.2.1 else x0.2.2.2.1))))) + (IntKind.i64.wrap ((IntKind.i64.wrap ((if (decide (v3.1 < (IntKind.i64.wrap (x3 - y2.1.1)))) then v3.1 else (IntKind.i64.wrap (x3 - y2.1.1))) * (500 : Int))) * (if (decide (x1.2.2.1 < x0.2.2.2.1)) then x1.2.2.1 else x0.2.2.2.1))))), ()), ()))
        else
          some (.inr (((IntKind.i64.wrap ((IntKind.i64.wrap (x2 * (3600000000 : Int))) + (IntKind.i64.wrap ((IntKind.i64.wrap (y2.1.1 * (1000 : Int))) * (if (decide (x1.2.2.1 < x0.2.2.2.1)) then x1.2.2.1 else x0.2.2.2.1))))), ()), ()))) fun r => match r with
    | .inl z => some z
    | .inr y4 =>
      some ((if (decide ((IntKind.i64.wrap (Int.tdiv y4.1.1 (3600000000 : Int))) < x0.2.1)) then (IntKind.i64.wrap (Int.tdiv y4.1.1 (3600000000 : Int))) else x0.2.1), ())
def H22 : Hints where
  loop := fun n => match n with
    | _ => none
  region := fun n => match n with
    | _ => none
  cond := fun n => match n with
    | 30 => some { slots := [(12, (.int .i64))], objs := [], gone := [] }
    | 49 => some { slots := [(10, (.int .i64))], objs := [], gone := [] }
    | _ => none
  block := fun n => match n with
    | _ => none
abbrev A22 : Tys := (.cons (.struct (.cons .str (.cons (.int .i64) (.cons (.int .i64) (.cons (.int .i64) (.cons (.int .i64) .nil)))))) (.cons (.struct (.cons .str (.cons (.int .i64) (.cons (.int .i64) .nil)))) (.cons (.int .i64) (.cons (.int .i64) .nil))))
def ts22 : List (Nat × TD) := [(3, (.data (.int .i64))), (25, (.data (.struct (.cons .str (.cons (.int .i64) (.cons (.int .i64) (.cons (.int .i64) (.cons (.int .i64) .nil)))))))), (27, (.data (.struct (.cons .str (.cons (.int .i64) (.cons (.int .i64) .nil))))))]
noncomputable def fs22 (g120 : Int → Int → Option (Int × Unit)) : List (Nat × FSem) := [(120, .pfn (.cons (.int .i64) (.cons (.int .i64) .nil)) (.cons (.int .i64) .nil) fun x => (g120 x.1 x.2.1))]
noncomputable def body22 : Code := match Try.f22.body with | some c => c | none => .skip
theorem ty22 : chkTypes Try.prog ts22 = true := by kernel_rfl
theorem ev22 (g120 : Int → Int → Option (Int × Unit)) (k : Nat) (x : ((.cons (.struct (.cons .str (.cons (.int .i64) (.cons (.int .i64) (.cons (.int .i64) (.cons (.int .i64) .nil)))))) (.cons (.struct (.cons .str (.cons (.int .i64) (.cons (.int .i64) .nil)))) (.cons (.int .i64) (.cons (.int .i64) .nil)))) : Tys).den) : evFun (mkEnv ts22 (fs22 g120)) H22 k body22 71 [.tmp 8] (explodes (.cons (.struct (.cons .str (.cons (.int .i64) (.cons (.int .i64) (.cons (.int .i64) (.cons (.int .i64) .nil)))))) (.cons (.struct (.cons .str (.cons (.int .i64) (.cons (.int .i64) .nil)))) (.cons (.int .i64) (.cons (.int .i64) .nil)))) x) [] (dec (.cons (.int .i64) .nil)) = f22 g120 k x.1 x.2.1 x.2.2.1 x.2.2.2.1 := by kernel_rfl
/-! ### jitney/jitref2.NeedsOf -/
def f23 (g22 : (ByteArray × Int × Int × Int × Int × Unit) → (ByteArray × Int × Int × Unit) → Int → Int → Option (Int × Unit)) (k : Nat) (x0 : (ByteArray × Int × Int × Int × Int × Unit)) (x1 : (ByteArray × Int × Int × Unit)) (x2 : Int) (x3 : Int) : Option (Int × Unit) :=
  Option.bind (α := (Int × Unit) ⊕ ((Int × Unit) × (Unit))) (iter (σ := (Int × Unit) × (Unit)) (τ := (Int × Unit) ⊕ ((Int × Unit) × (Unit))) k (fun y1 =>
      Option.bind (g22 x0 x1 x2 y1.1.1) fun v2 =>
      bif (decide (v2.1 < x3)) then
        some (.inl (((IntKind.i64.wrap (y1.1.1 * (2 : Int))), ()), ()))
      else
        some (.inr (.inr ((y1.1.1, ()), ())))) (((1 : Int), ()), ())) fun r => match r with
  | .inl z => some z
  | .inr z3 =>
    Option.bind (α := (Int × Unit) ⊕ ((Int × Unit) × (Unit))) (iter (σ := (Int × Int × Unit) × (Unit)) (τ := (Int × Unit) ⊕ ((Int × Unit) × (Unit))) k (fun y4 =>
        bif (decide (y4.1.1 < y4.1.2.1)) then
          Option.bind (g22 x0 x1 x2 (IntKind.i64.wrap (Int.tdiv (IntKind.i64.wrap (y4.1.1 + y4.1.2.1)) (2 : Int)))) fun v5 =>
          bif (decide (v5.1 ≥ x3)) then
            some (.inl ((y4.1.1, (IntKind.i64.wrap (Int.tdiv (IntKind.i64.wrap (y4.1.1 + y4.1.2.1)) (2 : Int))), ()), ()))
          else
            some (.inl (((IntKind.i64.wrap ((IntKind.i64.wrap (Int.tdiv (IntKind.i64.wrap (y4.1.1 + y4.1.2.1)) (2 : Int))) + (1 : Int))), y4.1.2.1, ()), ()))
        else
          some (.inr (.inr ((y4.1.1, ()), ())))) (((0 : Int), z3.1.1, ()), ())) fun r => match r with
    | .inl z => some z
    | .inr z6 =>
      some (z6.1.1, ())
def H23 : Hints where
  loop := fun n => match n with
    | 0 => some ({ slots := [(10, (.int .i64))], objs := [], gone := [] }, 0, { slots := [(10, (.int .i64))], objs := [], gone := [] })
    | 2 => some ({ slots := [(9, (.int .i64)), (10, (.int .i64))], objs := [], gone := [] }, 2, { slots := [(9, (.int .i64))], objs := [], gone := [] })
    | _ => none
  region := fun n => match n with
    | _ => none
  cond := fun n => match n with
    | _ => none
  block := fun n => match n with
    | _ => none
abbrev A23 : Tys := (.cons (.struct (.cons .str (.cons (.int .i64) (.cons (.int .i64) (.cons (.int .i64) (.cons (.int .i64) .nil)))))) (.cons (.struct (.cons .str (.cons (.int .i64) (.cons (.int .i64) .nil)))) (.cons (.int .i64) (.cons (.int .i64) .nil))))
def ts23 : List (Nat × TD) := [(3, (.data (.int .i64))), (25, (.data (.struct (.cons .str (.cons (.int .i64) (.cons (.int .i64) (.cons (.int .i64) (.cons (.int .i64) .nil)))))))), (27, (.data (.struct (.cons .str (.cons (.int .i64) (.cons (.int .i64) .nil))))))]
noncomputable def fs23 (g22 : (ByteArray × Int × Int × Int × Int × Unit) → (ByteArray × Int × Int × Unit) → Int → Int → Option (Int × Unit)) : List (Nat × FSem) := [(22, .pfn (.cons (.struct (.cons .str (.cons (.int .i64) (.cons (.int .i64) (.cons (.int .i64) (.cons (.int .i64) .nil)))))) (.cons (.struct (.cons .str (.cons (.int .i64) (.cons (.int .i64) .nil)))) (.cons (.int .i64) (.cons (.int .i64) .nil)))) (.cons (.int .i64) .nil) fun x => (g22 x.1 x.2.1 x.2.2.1 x.2.2.2.1))]
noncomputable def body23 : Code := match Try.f23.body with | some c => c | none => .skip
theorem ty23 : chkTypes Try.prog ts23 = true := by kernel_rfl
theorem ev23 (g22 : (ByteArray × Int × Int × Int × Int × Unit) → (ByteArray × Int × Int × Unit) → Int → Int → Option (Int × Unit)) (k : Nat) (x : ((.cons (.struct (.cons .str (.cons (.int .i64) (.cons (.int .i64) (.cons (.int .i64) (.cons (.int .i64) .nil)))))) (.cons (.struct (.cons .str (.cons (.int .i64) (.cons (.int .i64) .nil)))) (.cons (.int .i64) (.cons (.int .i64) .nil)))) : Tys).den) : evFun (mkEnv ts23 (fs23 g22)) H23 k body23 39 [.tmp 8] (explodes (.cons (.struct (.cons .str (.cons (.int .i64) (.cons (.int .i64) (.cons (.int .i64) (.cons (.int .i64) .nil)))))) (.cons (.struct (.cons .str (.cons (.int .i64) (.cons (.int .i64) .nil)))) (.cons (.int .i64) (.cons (.int .i64) .nil)))) x) [] (dec (.cons (.int .i64) .nil)) = f23 g22 k x.1 x.2.1 x.2.2.1 x.2.2.2.1 := by kernel_rfl
/-! ### cmp.Or[int] -/
def f127  (k : Nat) (x0 : List Int) : Option (Int × Unit) :=
  Option.bind (α := (Int × Unit) ⊕ ((Unit) × (Unit))) (iter (σ := (Int × Unit) × (Unit)) (τ := (Int × Unit) ⊕ ((Unit) × (Unit))) k (fun y1 =>
      bif (decide (y1.1.1 < ((List.length x0 : Nat) : Int))) then
        bif (inR y1.1.1 ((List.length x0 : Nat) : Int)) then
          bif ((rd (α := Int) (0 : Int) x0 y1.1.1) != (0 : Int)) then
            some (.inr (.inl ((rd (α := Int) (0 : Int) x0 y1.1.1), ())))
          else
            some (.inl (((IntKind.i64.wrap (y1.1.1 + (1 : Int))), ()), ()))
        else
          none
      else
        some (.inr (.inr ((), ())))) (((0 : Int), ()), ())) fun r => match r with
  | .inl z => some z
  | .inr z2 =>
    some ((0 : Int), ())
def H127 : Hints where
  loop := fun n => match n with
    | 0 => some ({ slots := [(8, (.int .i64))], objs := [], gone := [] }, 0, { slots := [], objs := [], gone := [] })
    | _ => none
  region := fun n => match n with
    | _ => none
  cond := fun n => match n with
    | _ => none
  block := fun n => match n with
    | _ => none
abbrev A127 : Tys := (.cons (.slice (.int .i64)) .nil)
def ts127 : List (Nat × TD) := [(3, (.data (.int .i64))), (78, (.data (.slice (.int .i64))))]
noncomputable def fs127  : List (Nat × FSem) := []
noncomputable def body127 : Code := match Try.f127.body with | some c => c | none => .skip
theorem ty127 : chkTypes Try.prog ts127 = true := by kernel_rfl
theorem ev127  (k : Nat) (x : ((.cons (.slice (.int .i64)) .nil) : Tys).den) : evFun (mkEnv ts127 (fs127 )) H127 k body127 18 [.tmp 2] (explodes (.cons (.slice (.int .i64)) .nil) x) [] (dec (.cons (.int .i64) .nil)) = f127  k x.1 := by kernel_rfl
/-! ### cmp.isNaN[int] -/
def f210  (k : Nat) (x0 : Int) : Option (Bool × Unit) :=
  some ((x0 != x0), ())
def H210 : Hints where
  loop := fun n => match n with
    | _ => none
  region := fun n => match n with
    | _ => none
  cond := fun n => match n with
    | _ => none
  block := fun n => match n with
    | _ => none
abbrev A210 : Tys := (.cons (.int .i64) .nil)
def ts210 : List (Nat × TD) := [(3, (.data (.int .i64))), (4, (.data .bool))]
noncomputable def fs210  : List (Nat × FSem) := []
noncomputable def body210 : Code := match Try.f210.body with | some c => c | none => .skip
theorem ty210 : chkTypes Try.prog ts210 = true := by kernel_rfl
theorem ev210  (k : Nat) (x : ((.cons (.int .i64) .nil) : Tys).den) : evFun (mkEnv ts210 (fs210 )) H210 k body210 6 [.tmp 2] (explodes (.cons (.int .i64) .nil) x) [] (dec (.cons .bool .nil)) = f210  k x.1 := by kernel_rfl
/-! ### cmp.Compare[int] -/
def f128 (g210 : Int → (Bool)) (k : Nat) (x0 : Int) (x1 : Int) : Option (Int × Unit) :=
  bif (g210 x0) then
    bif (g210 x1) then
      some ((0 : Int), ())
    else
      some ((-1 : Int), ())
  else
    bif (g210 x1) then
      some ((1 : Int), ())
    else
      bif (decide (x0 < x1)) then
        some ((-1 : Int), ())
      else
        bif (decide (x0 > x1)) then
          some ((1 : Int), ())
        else
          some ((0 : Int), ())
def H128 : Hints where
  loop := fun n => match n with
    | _ => none
  region := fun n => match n with
    | _ => none
  cond := fun n => match n with
    | _ => none
  block := fun n => match n with
    | _ => none
abbrev A128 : Tys := (.cons (.int .i64) (.cons (.int .i64) .nil))
def ts128 : List (Nat × TD) := [(3, (.data (.int .i64)))]
noncomputable def fs128 (g210 : Int → (Bool)) : List (Nat × FSem) := [(210, .fn (.cons (.int .i64) .nil) (.cons .bool .nil) fun x => ((g210 x.1), ()))]
noncomputable def body128 : Code := match Try.f128.body with | some c => c | none => .skip
theorem ty128 : chkTypes Try.prog ts128 = true := by kernel_rfl
theorem ev128 (g210 : Int → (Bool)) (k : Nat) (x : ((.cons (.int .i64) (.cons (.int .i64) .nil)) : Tys).den) : evFun (mkEnv ts128 (fs128 g210)) H128 k body128 20 [.tmp 4] (explodes (.cons (.int .i64) (.cons (.int .i64) .nil)) x) [] (dec (.cons (.int .i64) .nil)) = f128 g210 k x.1 x.2.1 := by kernel_rfl
/-! ### jitney/fleet.byShift -/
def f148 (g127 : (List Int) → (Int)) (g128 : Int → Int → (Int)) (k : Nat) (x0 : (Int × Int × Unit)) (x1 : (Int × Int × Unit)) : Option (Int × Unit) :=
  some ((g127 ([(g128 x0.1 x1.1), (g128 x0.2.1 x1.2.1)])), ())
def H148 : Hints where
  loop := fun n => match n with
    | _ => none
  region := fun n => match n with
    | _ => none
  cond := fun n => match n with
    | _ => none
  block := fun n => match n with
    | _ => none
abbrev A148 : Tys := (.cons (.struct (.cons (.int .i64) (.cons (.int .i64) .nil))) (.cons (.struct (.cons (.int .i64) (.cons (.int .i64) .nil))) .nil))
def ts148 : List (Nat × TD) := [(3, (.data (.int .i64))), (61, (.data (.struct (.cons (.int .i64) (.cons (.int .i64) .nil))))), (78, (.data (.slice (.int .i64))))]
noncomputable def fs148 (g127 : (List Int) → (Int)) (g128 : Int → Int → (Int)) : List (Nat × FSem) := [(127, .fn (.cons (.slice (.int .i64)) .nil) (.cons (.int .i64) .nil) fun x => ((g127 x.1), ())), (128, .fn (.cons (.int .i64) (.cons (.int .i64) .nil)) (.cons (.int .i64) .nil) fun x => ((g128 x.1 x.2.1), ()))]
noncomputable def body148 : Code := match Try.f148.body with | some c => c | none => .skip
theorem ty148 : chkTypes Try.prog ts148 = true := by kernel_rfl
theorem ev148 (g127 : (List Int) → (Int)) (g128 : Int → Int → (Int)) (k : Nat) (x : ((.cons (.struct (.cons (.int .i64) (.cons (.int .i64) .nil))) (.cons (.struct (.cons (.int .i64) (.cons (.int .i64) .nil))) .nil)) : Tys).den) : evFun (mkEnv ts148 (fs148 g127 g128)) H148 k body148 17 [.tmp 4] (explodes (.cons (.struct (.cons (.int .i64) (.cons (.int .i64) .nil))) (.cons (.struct (.cons (.int .i64) (.cons (.int .i64) .nil))) .nil)) x) [] (dec (.cons (.int .i64) .nil)) = f148 g127 g128 k x.1 x.2.1 := by kernel_rfl
/-! ### jitney/fleet.CheckShifts -/
def f53 (g148 : (Int × Int × Unit) → (Int × Int × Unit) → (Int)) (k : Nat) (x0 : List (Int × Int × Unit)) : Option (Int × Unit) :=
  bif (decide (((List.length x0 : Nat) : Int) > (500 : Int))) then
    some ((2 : Int), ())
  else
    Option.bind (α := (Int × Unit) ⊕ ((Unit) × (Unit))) (iter (σ := (Int × Unit) × (Unit)) (τ := (Int × Unit) ⊕ ((Unit) × (Unit))) k (fun y1 =>
        bif (decide (y1.1.1 < ((List.length x0 : Nat) : Int))) then
          bif (inR y1.1.1 ((List.length x0 : Nat) : Int)) then
            bif (decide ((rd (α := (Int × Int × Unit)) ((0 : Int), (0 : Int), ()) x0 y1.1.1).1 < (0 : Int))) then
              some (.inr (.inl ((1 : Int), ())))
            else
              bif (decide ((rd (α := (Int × Int × Unit)) ((0 : Int), (0 : Int), ()) x0 y1.1.1).1 ≥ (rd (α := (Int × Int × Unit)) ((0 : Int), (0 : Int), ()) x0 y1.1.1).2.1)) then
                some (.inr (.inl ((1 : Int), ())))
              else
                bif (decide ((rd (α := (Int × Int × Unit)) ((0 : Int), (0 : Int), ()) x0 y1.1.1).2.1 > (345686400000 : Int))) then
                  some (.inr (.inl ((1 : Int), ())))
                else
                  bif (decide (y1.1.1 > (0 : Int))) then
                    bif (inR (IntKind.i64.wrap (y1.1.1 - (1 : Int))) ((List.length x0 : Nat) : Int)) then
                      bif (decide ((g148 (rd (α := (Int × Int × Unit)) ((0 : Int), (0 : Int), ()) x0 y1.1.1) (rd (α := (Int × Int × Unit)) ((0 : Int), (0 : Int), ()) x0 (IntKind.i64.wrap (y1.1.1 - (1 : Int))))) < (0 : Int))) then
                        some (.inr (.inl ((7 : Int), ())))
                      else
                        some (.inl (((IntKind.i64.wrap (y1.1.1 + (1 : Int))), ()), ()))
                    else
                      none
                  else
                    some (.inl (((IntKind.i64.wrap (y1.1.1 + (1 : Int))), ()), ()))
          else
            none
        else
          some (.inr (.inr ((), ())))) (((0 : Int), ()), ())) fun r => match r with
    | .inl z => some z
    | .inr z2 =>
      some ((0 : Int), ())
def H53 : Hints where
  loop := fun n => match n with
    | 0 => some ({ slots := [(10, (.int .i64))], objs := [], gone := [] }, 0, { slots := [], objs := [], gone := [] })
    | _ => none
  region := fun n => match n with
    | _ => none
  cond := fun n => match n with
    | _ => none
  block := fun n => match n with
    | _ => none
abbrev A53 : Tys := (.cons (.slice (.struct (.cons (.int .i64) (.cons (.int .i64) .nil)))) .nil)
def ts53 : List (Nat × TD) := [(3, (.data (.int .i64))), (28, (.data (.int .i64))), (61, (.data (.struct (.cons (.int .i64) (.cons (.int .i64) .nil))))), (73, (.data (.slice (.struct (.cons (.int .i64) (.cons (.int .i64) .nil))))))]
noncomputable def fs53 (g148 : (Int × Int × Unit) → (Int × Int × Unit) → (Int)) : List (Nat × FSem) := [(148, .fn (.cons (.struct (.cons (.int .i64) (.cons (.int .i64) .nil))) (.cons (.struct (.cons (.int .i64) (.cons (.int .i64) .nil))) .nil)) (.cons (.int .i64) .nil) fun x => ((g148 x.1 x.2.1), ()))]
noncomputable def body53 : Code := match Try.f53.body with | some c => c | none => .skip
theorem ty53 : chkTypes Try.prog ts53 = true := by kernel_rfl
theorem ev53 (g148 : (Int × Int × Unit) → (Int × Int × Unit) → (Int)) (k : Nat) (x : ((.cons (.slice (.struct (.cons (.int .i64) (.cons (.int .i64) .nil)))) .nil) : Tys).den) : evFun (mkEnv ts53 (fs53 g148)) H53 k body53 43 [.tmp 2] (explodes (.cons (.slice (.struct (.cons (.int .i64) (.cons (.int .i64) .nil)))) .nil) x) [] (dec (.cons (.int .i64) .nil)) = f53 g148 k x.1 := by kernel_rfl
/-! ### jitney/fleet.rosters -/
def f142  (k : Nat) (x0 : List (Int × Int × Unit)) : Option ((List Int) × Int × Unit) :=
  Option.bind (α := ((List Int) × Int × Unit) ⊕ (((List Int) × (List Int) × Unit) × (Unit))) (iter (σ := ((List Int) × (List Int) × Int × Unit) × (Unit)) (τ := ((List Int) × Int × Unit) ⊕ (((List Int) × (List Int) × Unit) × (Unit))) k (fun y1 =>
      bif (decide (y1.1.2.2.1 < ((List.length x0 : Nat) : Int))) then
        bif (inR y1.1.2.2.1 ((List.length x0 : Nat) : Int)) then
          Option.bind (α := ((((List Int) × (List Int) × Int × Unit) × (Unit)) ⊕ (((List Int) × Int × Unit) ⊕ (((List Int) × (List Int) × Unit) × (Unit)))) ⊕ ((Int × Unit) × ((List Int) × (Int × Int × Unit) × Unit))) (
              Option.bind (α := (((((List Int) × (List Int) × Int × Unit) × (Unit)) ⊕ (((List Int) × Int × Unit) ⊕ (((List Int) × (List Int) × Unit) × (Unit)))) ⊕ ((Int × Unit) × ((List Int) × (Int × Int × Unit) × Unit))) ⊕ ((Unit) × ((Int × Int × Unit) × Unit))) (iter (σ := (Int × Unit) × ((Int × Int × Unit) × Unit)) (τ := (((((List Int) × (List Int) × Int × Unit) × (Unit)) ⊕ (((List Int) × Int × Unit) ⊕ (((List Int) × (List Int) × Unit) × (Unit)))) ⊕ ((Int × Unit) × ((List Int) × (Int × Int × Unit) × Unit))) ⊕ ((Unit) × ((Int × Int × Unit) × Unit))) k (fun y2 =>
                  bif (decide (y2.1.1 < ((List.length y1.1.1 : Nat) : Int))) then
                    bif (inR y2.1.1 ((List.length y1.1.1 : Nat) : Int)) then
                      bif (inR y2.1.1 ((List.length y1.1.1 : Nat) : Int)) then
                        bif (decide ((rd (α := Int) (0 : Int) y1.1.1 y2.1.1) ≤ y2.2.1.1)) then
                          some (.inr (.inl (.inr ((y2.1.1, ()), (y1.1.1, (y2.2.1.1, y2.2.1.2.1, ()), ())))))
                        else
                          some (.inl (((IntKind.i64.wrap (y2.1.1 + (1 : Int))), ()), ((y2.2.1.1, y2.2.1.2.1, ()), ())))
                      else
                        none
                    else
                      none
                  else
                    some (.inr (.inr ((), ((y2.2.1.1, y2.2.1.2.1, ()), ()))))) (((0 : Int), ()), ((rd (α := (Int × Int × Unit)) ((0 : Int), (0 : Int), ()) x0 y1.1.2.2.1), ()))) fun r => match r with
              | .inl z => some z
              | .inr z3 =>
                some (.inr (((-1 : Int), ()), (y1.1.1, (z3.2.1.1, z3.2.1.2.1, ()), ())))) fun r => match r with
          | .inl z => some z
          | .inr y4 =>
            Option.bind (α := ((((List Int) × (List Int) × Int × Unit) × (Unit)) ⊕ (((List Int) × Int × Unit) ⊕ (((List Int) × (List Int) × Unit) × (Unit)))) ⊕ (((List Int) × Int × Unit) × (Unit))) (
                bif (decide (y4.1.1 < (0 : Int))) then
                  bif decide (List.length y4.2.1 + List.length ([(0 : Int)]) ≤ 4294967296) then
                    some (.inr (((y4.2.1 ++ [(0 : Int)]), ((List.length y4.2.1 : Nat) : Int), ()), ()))
                  else
                    none
                else
                  some (.inr ((y4.2.1, y4.1.1, ()), ()))) fun r => match r with
            | .inl z => some z
            | .inr y5 =>
              bif (inR y5.1.2.1 ((List.length y5.1.1 : Nat) : Int)) then
                bif (inR y5.1.2.1 ((List.length y5.1.1 : Nat) : Int)) then
                  bif decide (List.length y1.1.2.1 + List.length ([y5.1.2.1]) ≤ 4294967296) then
                    some (.inl (((List.set y5.1.1 (Int.toNat y5.1.2.1) y4.2.2.1.2.1), (y1.1.2.1 ++ [y5.1.2.1]), (IntKind.i64.wrap (y1.1.2.2.1 + (1 : Int))), ()), ()))
                  else
                    none
                else
                  none
              else
                none
        else
          none
      else
        some (.inr (.inr ((y1.1.1, y1.1.2.1, ()), ())))) (([], [], (0 : Int), ()), ())) fun r => match r with
  | .inl z => some z
  | .inr z6 =>
    some (z6.1.2.1, ((List.length z6.1.1 : Nat) : Int), ())
def H142 : Hints where
  loop := fun n => match n with
    | 0 => some ({ slots := [(4, (.row (.int .i64))), (5, (.row (.int .i64))), (11, (.int .i64))], objs := [], gone := [] }, 0, { slots := [(4, (.row (.int .i64))), (5, (.row (.int .i64)))], objs := [], gone := [] })
    | _ => none
  region := fun n => match n with
    | 5 => some { slots := [(8, (.int .i64))], objs := [(0, (.row (.int .i64))), (2, (.box (.data (.struct (.cons (.int .i64) (.cons (.int .i64) .nil)))) (.agg (.cons (.int .i64) (.cons (.int .i64) .nil)))))], gone := [] }
    | _ => none
  cond := fun n => match n with
    | 19 => some { slots := [(4, (.row (.int .i64))), (8, (.int .i64))], objs := [], gone := [0] }
    | _ => none
  block := fun n => match n with
    | _ => none
def Hi142_222 : Hints where
  loop := fun n => match n with
    | _ => none
  region := fun n => match n with
    | _ => none
  cond := fun n => match n with
    | _ => none
  block := fun n => match n with
    | _ => none
def tsi142_222 : List (Nat × TD) := [(3, (.data (.int .i64))), (61, (.data (.struct (.cons (.int .i64) (.cons (.int .i64) .nil)))))]
noncomputable def bodyi142_222 : Code := match Try.f222.body with | some c => c | none => .skip
noncomputable def fsi142_222  (k : Nat) : List (Nat × FSem) := []
theorem tyi142_222 : chkTypes Try.prog tsi142_222 = true := by kernel_rfl
def Hi142_221 : Hints where
  loop := fun n => match n with
    | 0 => some ({ slots := [(8, (.int .i64))], objs := [(1, (.box (.data (.struct (.cons (.int .i64) (.cons (.int .i64) .nil)))) (.agg (.cons (.int .i64) (.cons (.int .i64) .nil)))))], gone := [] }, 0, { slots := [], objs := [(1, (.box (.data (.struct (.cons (.int .i64) (.cons (.int .i64) .nil)))) (.agg (.cons (.int .i64) (.cons (.int .i64) .nil)))))], gone := [] })
    | _ => none
  region := fun n => match n with
    | _ => none
  cond := fun n => match n with
    | _ => none
  block := fun n => match n with
    | _ => none
def tsi142_221 : List (Nat × TD) := [(3, (.data (.int .i64))), (78, (.data (.slice (.int .i64))))]
noncomputable def bodyi142_221 : Code := match Try.f221.body with | some c => c | none => .skip
noncomputable def fsi142_221  (k : Nat) : List (Nat × FSem) := [(222, .ev (mkEnv tsi142_222 (fsi142_222  k)) Hi142_222 k bodyi142_222 8 [.tmp 3])]
theorem tyi142_221 : chkTypes Try.prog tsi142_221 = true := by kernel_rfl
abbrev A142 : Tys := (.cons (.slice (.struct (.cons (.int .i64) (.cons (.int .i64) .nil)))) .nil)
def ts142 : List (Nat × TD) := [(3, (.data (.int .i64))), (61, (.data (.struct (.cons (.int .i64) (.cons (.int .i64) .nil))))), (73, (.data (.slice (.struct (.cons (.int .i64) (.cons (.int .i64) .nil)))))), (78, (.data (.slice (.int .i64))))]
noncomputable def fs142  (k : Nat) : List (Nat × FSem) := [(221, .ev (mkEnv tsi142_221 (fsi142_221  k)) Hi142_221 k bodyi142_221 19 [.tmp 4])]
noncomputable def body142 : Code := match Try.f142.body with | some c => c | none => .skip
theorem ty142 : chkTypes Try.prog ts142 = true := by kernel_rfl
theorem ev142  (k : Nat) (x : ((.cons (.slice (.struct (.cons (.int .i64) (.cons (.int .i64) .nil)))) .nil) : Tys).den) : evFun (mkEnv ts142 (fs142  k)) H142 k body142 38 [.tmp 2, .tmp 3] (explodes (.cons (.slice (.struct (.cons (.int .i64) (.cons (.int .i64) .nil)))) .nil) x) [] (dec (.cons (.slice (.int .i64)) (.cons (.int .i64) .nil))) = f142  k x.1 := by kernel_rfl
/-! ### jitney/fleet.Drivers -/
def f45 (g53 : (List (Int × Int × Unit)) → Option (Int × Unit)) (g142 : (List (Int × Int × Unit)) → Option ((List Int) × Int × Unit)) (k : Nat) (x0 : List (Int × Int × Unit)) : Option (Int × Int × Unit) :=
  Option.bind (g53 x0) fun v1 =>
  bif (v1.1 != (0 : Int)) then
    some ((0 : Int), v1.1, ())
  else
    Option.bind (g142 x0) fun v2 =>
    some (v2.2.1, (0 : Int), ())
def H45 : Hints where
  loop := fun n => match n with
    | _ => none
  region := fun n => match n with
    | _ => none
  cond := fun n => match n with
    | _ => none
  block := fun n => match n with
    | _ => none
abbrev A45 : Tys := (.cons (.slice (.struct (.cons (.int .i64) (.cons (.int .i64) .nil)))) .nil)
def ts45 : List (Nat × TD) := [(3, (.data (.int .i64))), (28, (.data (.int .i64))), (73, (.data (.slice (.struct (.cons (.int .i64) (.cons (.int .i64) .nil))))))]
noncomputable def fs45 (g53 : (List (Int × Int × Unit)) → Option (Int × Unit)) (g142 : (List (Int × Int × Unit)) → Option ((List Int) × Int × Unit)) : List (Nat × FSem) := [(53, .pfn (.cons (.slice (.struct (.cons (.int .i64) (.cons (.int .i64) .nil)))) .nil) (.cons (.int .i64) .nil) fun x => (g53 x.1)), (142, .pfn (.cons (.slice (.struct (.cons (.int .i64) (.cons (.int .i64) .nil)))) .nil) (.cons (.slice (.int .i64)) (.cons (.int .i64) .nil)) fun x => (g142 x.1))]
noncomputable def body45 : Code := match Try.f45.body with | some c => c | none => .skip
theorem ty45 : chkTypes Try.prog ts45 = true := by kernel_rfl
theorem ev45 (g53 : (List (Int × Int × Unit)) → Option (Int × Unit)) (g142 : (List (Int × Int × Unit)) → Option ((List Int) × Int × Unit)) (k : Nat) (x : ((.cons (.slice (.struct (.cons (.int .i64) (.cons (.int .i64) .nil)))) .nil) : Tys).den) : evFun (mkEnv ts45 (fs45 g53 g142)) H45 k body45 18 [.tmp 2, .tmp 3] (explodes (.cons (.slice (.struct (.cons (.int .i64) (.cons (.int .i64) .nil)))) .nil) x) [] (dec (.cons (.int .i64) (.cons (.int .i64) .nil))) = f45 g53 g142 k x.1 := by kernel_rfl
/-! ### jitney/jitlaw2.driven -/
def f24 (g45 : (List (Int × Int × Unit)) → Option (Int × Int × Unit)) (k : Nat)  : Option (Bool × Unit) :=
  Option.bind (g45 ([((0 : Int), (5 : Int), ()), ((3 : Int), (9 : Int), ())])) fun v1 =>
  bif (v1.2.1 == (0 : Int)) then
    some ((v1.1 == (2 : Int)), ())
  else
    some (false, ())
def H24 : Hints where
  loop := fun n => match n with
    | _ => none
  region := fun n => match n with
    | _ => none
  cond := fun n => match n with
    | _ => none
  block := fun n => match n with
    | _ => none
abbrev A24 : Tys := .nil
def ts24 : List (Nat × TD) := [(3, (.data (.int .i64))), (4, (.data .bool)), (28, (.data (.int .i64))), (61, (.data (.struct (.cons (.int .i64) (.cons (.int .i64) .nil))))), (73, (.data (.slice (.struct (.cons (.int .i64) (.cons (.int .i64) .nil))))))]
noncomputable def fs24 (g45 : (List (Int × Int × Unit)) → Option (Int × Int × Unit)) : List (Nat × FSem) := [(45, .pfn (.cons (.slice (.struct (.cons (.int .i64) (.cons (.int .i64) .nil)))) .nil) (.cons (.int .i64) (.cons (.int .i64) .nil)) fun x => (g45 x.1))]
noncomputable def body24 : Code := match Try.f24.body with | some c => c | none => .skip
theorem ty24 : chkTypes Try.prog ts24 = true := by kernel_rfl
theorem ev24 (g45 : (List (Int × Int × Unit)) → Option (Int × Int × Unit)) (k : Nat) (x : (.nil : Tys).den) : evFun (mkEnv ts24 (fs24 g45)) H24 k body24 16 [.tmp 0] (explodes .nil x) [] (dec (.cons .bool .nil)) = f24 g45 k  := by kernel_rfl
/-! ### jitney/jitlaw2.BatteriesGain -/
def f3 (g12 : (List (ByteArray × Int × Int × Int × Int × Unit)) → (Int)) (g13 : (List (ByteArray × Int × Int × Int × Int × Unit)) → Option ((List (ByteArray × Int × Int × Int × Int × Unit)) × Unit)) (g14 : (List (ByteArray × Int × Int × Int × Int × Unit)) → (Int)) (g15 : (List (ByteArray × Int × Int × Unit)) → (Int)) (g16 : (List (ByteArray × Int × Int × Unit)) → Option ((List (ByteArray × Int × Int × Unit)) × Unit)) (g17 : (List (ByteArray × Int × Int × Unit)) → (Int)) (g18 : (ByteArray × Int × Int × Int × Int × Unit) → (ByteArray × Int × Int × Unit) → Int → Int → (Int × Int × Unit)) (g19 : (ByteArray × Int × Int × Int × Int × Unit) → (ByteArray × Int × Int × Unit) → Int → Int → (Int × Int × Unit)) (g20 : (List Int) → (Int)) (g21 : Bool → Int → (Int)) (g22 : (ByteArray × Int × Int × Int × Int × Unit) → (ByteArray × Int × Int × Unit) → Int → Int → Option (Int × Unit)) (g23 : (ByteArray × Int × Int × Int × Int × Unit) → (ByteArray × Int × Int × Unit) → Int → Int → Option (Int × Unit)) (g24 : Option (Bool × Unit)) (k : Nat) (x0 : List (ByteArray × Int × Int × Int × Int × Unit)) (x1 : List (ByteArray × Int × Int × Unit)) (x2 : (ByteArray × Int × Int × Int × Int × Unit)) (x3 : (ByteArray × Int × Int × Unit)) (x4 : Int) (x5 : Int) (x6 : Int) : Option (Bool × Unit) :=
  Option.bind (g13 x0) fun v1 =>
  bif ((g12 v1.1) != (g14 x0)) then
    some (false, ())
  else
    Option.bind (g16 x1) fun v2 =>
    bif ((g15 v2.1) != (g17 x1)) then
      some (false, ())
    else
      Option.bind (α := (Bool × Unit) ⊕ ((Int × Unit) × (Unit))) (
          bif (decide (x4 < (0 : Int))) then
            some (.inr (((g20 ([(g14 ([x2])), (g17 ([x3])), (g21 true (1 : Int))])), ()), ()))
          else
            some (.inr (((g20 ([(g14 ([x2])), (g17 ([x3])), (g21 (decide (x4 > x2.2.1)) (1 : Int))])), ()), ()))) fun r => match r with
      | .inl z => some z
      | .inr y3 =>
        Option.bind (α := (Bool × Unit) ⊕ ((Int × Int × Unit) × (Unit))) (
            bif (decide (x6 < (0 : Int))) then
              bif (decide (x5 < (0 : Int))) then
                some (.inr (((g20 ([y3.1.1, (g21 true (1 : Int))])), (g20 ([y3.1.1, (g21 true (1 : Int))])), ()), ()))
              else
                some (.inr (((g20 ([y3.1.1, (g21 true (1 : Int))])), (g20 ([y3.1.1, (g21 (decide (x5 > x2.2.1)) (1 : Int))])), ()), ()))
            else
              bif (decide (x5 < (0 : Int))) then
                some (.inr (((g20 ([y3.1.1, (g21 (decide (x6 > (2592000000 : Int))) (1 : Int))])), (g20 ([y3.1.1, (g21 true (1 : Int))])), ()), ()))
              else
                some (.inr (((g20 ([y3.1.1, (g21 (decide (x6 > (2592000000 : Int))) (1 : Int))])), (g20 ([y3.1.1, (g21 (decide (x5 > x2.2.1)) (1 : Int))])), ()), ()))) fun r => match r with
        | .inl z => some z
        | .inr y4 =>
          Option.bind (α := (Bool × Unit) ⊕ ((Int × Unit) × (Unit))) (
              bif (y4.1.1 == (0 : Int)) then
                Option.bind (g22 x2 x3 x4 x6) fun v5 =>
                some (.inr ((v5.1, ()), ()))
              else
                some (.inr (((0 : Int), ()), ()))) fun r => match r with
          | .inl z => some z
          | .inr y6 =>
            Option.bind (α := (Bool × Unit) ⊕ ((Int × Unit) × (Unit))) (
                bif (y4.1.2.1 == (0 : Int)) then
                  Option.bind (g23 x2 x3 x4 x5) fun v7 =>
                  some (.inr ((v7.1, ()), ()))
                else
                  some (.inr (((0 : Int), ()), ()))) fun r => match r with
            | .inl z => some z
            | .inr y8 =>
              bif ((g18 x2 x3 x4 x6).2.1 == y4.1.1) then
                bif ((g18 x2 x3 x4 x6).1 == y6.1.1) then
                  bif ((g19 x2 x3 x4 x5).2.1 == y4.1.2.1) then
                    bif ((g19 x2 x3 x4 x5).1 == y8.1.1) then
                      Option.bind g24 fun v9 =>
                      some (v9.1, ())
                    else
                      some (false, ())
                  else
                    some (false, ())
                else
                  some (false, ())
              else
                some (false, ())
def H3 : Hints where
  loop := fun n => match n with
    | _ => none
  region := fun n => match n with
    | 5 => some { slots := [(19, (.int .i64))], objs := [], gone := [] }
    | 6 => some { slots := [(20, (.int .i64)), (21, (.int .i64))], objs := [], gone := [] }
    | _ => none
  cond := fun n => match n with
    | 94 => some { slots := [(22, (.int .i64))], objs := [], gone := [] }
    | 101 => some { slots := [(23, (.int .i64))], objs := [], gone := [] }
    | _ => none
  block := fun n => match n with
    | _ => none
abbrev A3 : Tys := (.cons (.slice (.struct (.cons .str (.cons (.int .i64) (.cons (.int .i64) (.cons (.int .i64) (.cons (.int .i64) .nil))))))) (.cons (.slice (.struct (.cons .str (.cons (.int .i64) (.cons (.int .i64) .nil))))) (.cons (.struct (.cons .str (.cons (.int .i64) (.cons (.int .i64) (.cons (.int .i64) (.cons (.int .i64) .nil)))))) (.cons (.struct (.cons .str (.cons (.int .i64) (.cons (.int .i64) .nil)))) (.cons (.int .i64) (.cons (.int .i64) (.cons (.int .i64) .nil)))))))
def ts3 : List (Nat × TD) := [(3, (.data (.int .i64))), (4, (.data .bool)), (22, (.data (.slice (.struct (.cons .str (.cons (.int .i64) (.cons (.int .i64) (.cons (.int .i64) (.cons (.int .i64) .nil))))))))), (23, (.data (.slice (.struct (.cons .str (.cons (.int .i64) (.cons (.int .i64) .nil))))))), (25, (.data (.struct (.cons .str (.cons (.int .i64) (.cons (.int .i64) (.cons (.int .i64) (.cons (.int .i64) .nil)))))))), (27, (.data (.struct (.cons .str (.cons (.int .i64) (.cons (.int .i64) .nil)))))), (28, (.data (.int .i64))), (184, (.data (.slice (.int .i64))))]
noncomputable def fs3 (g12 : (List (ByteArray × Int × Int × Int × Int × Unit)) → (Int)) (g13 : (List (ByteArray × Int × Int × Int × Int × Unit)) → Option ((List (ByteArray × Int × Int × Int × Int × Unit)) × Unit)) (g14 : (List (ByteArray × Int × Int × Int × Int × Unit)) → (Int)) (g15 : (List (ByteArray × Int × Int × Unit)) → (Int)) (g16 : (List (ByteArray × Int × Int × Unit)) → Option ((List (ByteArray × Int × Int × Unit)) × Unit)) (g17 : (List (ByteArray × Int × Int × Unit)) → (Int)) (g18 : (ByteArray × Int × Int × Int × Int × Unit) → (ByteArray × Int × Int × Unit) → Int → Int → (Int × Int × Unit)) (g19 : (ByteArray × Int × Int × Int × Int × Unit) → (ByteArray × Int × Int × Unit) → Int → Int → (Int × Int × Unit)) (g20 : (List Int) → (Int)) (g21 : Bool → Int → (Int)) (g22 : (ByteArray × Int × Int × Int × Int × Unit) → (ByteArray × Int × Int × Unit) → Int → Int → Option (Int × Unit)) (g23 : (ByteArray × Int × Int × Int × Int × Unit) → (ByteArray × Int × Int × Unit) → Int → Int → Option (Int × Unit)) (g24 : Option (Bool × Unit)) : List (Nat × FSem) := [(12, .fn (.cons (.slice (.struct (.cons .str (.cons (.int .i64) (.cons (.int .i64) (.cons (.int .i64) (.cons (.int .i64) .nil))))))) .nil) (.cons (.int .i64) .nil) fun x => ((g12 x.1), ())), (13, .pfn (.cons (.slice (.struct (.cons .str (.cons (.int .i64) (.cons (.int .i64) (.cons (.int .i64) (.cons (.int .i64) .nil))))))) .nil) (.cons (.slice (.struct (.cons .str (.cons (.int .i64) (.cons (.int .i64) (.cons (.int .i64) (.cons (.int .i64) .nil))))))) .nil) fun x => (g13 x.1)), (14, .fn (.cons (.slice (.struct (.cons .str (.cons (.int .i64) (.cons (.int .i64) (.cons (.int .i64) (.cons (.int .i64) .nil))))))) .nil) (.cons (.int .i64) .nil) fun x => ((g14 x.1), ())), (15, .fn (.cons (.slice (.struct (.cons .str (.cons (.int .i64) (.cons (.int .i64) .nil))))) .nil) (.cons (.int .i64) .nil) fun x => ((g15 x.1), ())), (16, .pfn (.cons (.slice (.struct (.cons .str (.cons (.int .i64) (.cons (.int .i64) .nil))))) .nil) (.cons (.slice (.struct (.cons .str (.cons (.int .i64) (.cons (.int .i64) .nil))))) .nil) fun x => (g16 x.1)), (17, .fn (.cons (.slice (.struct (.cons .str (.cons (.int .i64) (.cons (.int .i64) .nil))))) .nil) (.cons (.int .i64) .nil) fun x => ((g17 x.1), ())), (18, .fn (.cons (.struct (.cons .str (.cons (.int .i64) (.cons (.int .i64) (.cons (.int .i64) (.cons (.int .i64) .nil)))))) (.cons (.struct (.cons .str (.cons (.int .i64) (.cons (.int .i64) .nil)))) (.cons (.int .i64) (.cons (.int .i64) .nil)))) (.cons (.int .i64) (.cons (.int .i64) .nil)) fun x => (g18 x.1 x.2.1 x.2.2.1 x.2.2.2.1)), (19, .fn (.cons (.struct (.cons .str (.cons (.int .i64) (.cons (.int .i64) (.cons (.int .i64) (.cons (.int .i64) .nil)))))) (.cons (.struct (.cons .str (.cons (.int .i64) (.cons (.int .i64) .nil)))) (.cons (.int .i64) (.cons (.int .i64) .nil)))) (.cons (.int .i64) (.cons (.int .i64) .nil)) fun x => (g19 x.1 x.2.1 x.2.2.1 x.2.2.2.1)), (20, .fn (.cons (.slice (.int .i64)) .nil) (.cons (.int .i64) .nil) fun x => ((g20 x.1), ())), (21, .fn (.cons .bool (.cons (.int .i64) .nil)) (.cons (.int .i64) .nil) fun x => ((g21 x.1 x.2.1), ())), (22, .pfn (.cons (.struct (.cons .str (.cons (.int .i64) (.cons (.int .i64) (.cons (.int .i64) (.cons (.int .i64) .nil)))))) (.cons (.struct (.cons .str (.cons (.int .i64) (.cons (.int .i64) .nil)))) (.cons (.int .i64) (.cons (.int .i64) .nil)))) (.cons (.int .i64) .nil) fun x => (g22 x.1 x.2.1 x.2.2.1 x.2.2.2.1)), (23, .pfn (.cons (.struct (.cons .str (.cons (.int .i64) (.cons (.int .i64) (.cons (.int .i64) (.cons (.int .i64) .nil)))))) (.cons (.struct (.cons .str (.cons (.int .i64) (.cons (.int .i64) .nil)))) (.cons (.int .i64) (.cons (.int .i64) .nil)))) (.cons (.int .i64) .nil) fun x => (g23 x.1 x.2.1 x.2.2.1 x.2.2.2.1)), (24, .pfn .nil (.cons .bool .nil) fun x => g24)]
noncomputable def body3 : Code := match Try.f3.body with | some c => c | none => .skip
theorem ty3 : chkTypes Try.prog ts3 = true := by kernel_rfl
theorem ev3 (g12 : (List (ByteArray × Int × Int × Int × Int × Unit)) → (Int)) (g13 : (List (ByteArray × Int × Int × Int × Int × Unit)) → Option ((List (ByteArray × Int × Int × Int × Int × Unit)) × Unit)) (g14 : (List (ByteArray × Int × Int × Int × Int × Unit)) → (Int)) (g15 : (List (ByteArray × Int × Int × Unit)) → (Int)) (g16 : (List (ByteArray × Int × Int × Unit)) → Option ((List (ByteArray × Int × Int × Unit)) × Unit)) (g17 : (List (ByteArray × Int × Int × Unit)) → (Int)) (g18 : (ByteArray × Int × Int × Int × Int × Unit) → (ByteArray × Int × Int × Unit) → Int → Int → (Int × Int × Unit)) (g19 : (ByteArray × Int × Int × Int × Int × Unit) → (ByteArray × Int × Int × Unit) → Int → Int → (Int × Int × Unit)) (g20 : (List Int) → (Int)) (g21 : Bool → Int → (Int)) (g22 : (ByteArray × Int × Int × Int × Int × Unit) → (ByteArray × Int × Int × Unit) → Int → Int → Option (Int × Unit)) (g23 : (ByteArray × Int × Int × Int × Int × Unit) → (ByteArray × Int × Int × Unit) → Int → Int → Option (Int × Unit)) (g24 : Option (Bool × Unit)) (k : Nat) (x : ((.cons (.slice (.struct (.cons .str (.cons (.int .i64) (.cons (.int .i64) (.cons (.int .i64) (.cons (.int .i64) .nil))))))) (.cons (.slice (.struct (.cons .str (.cons (.int .i64) (.cons (.int .i64) .nil))))) (.cons (.struct (.cons .str (.cons (.int .i64) (.cons (.int .i64) (.cons (.int .i64) (.cons (.int .i64) .nil)))))) (.cons (.struct (.cons .str (.cons (.int .i64) (.cons (.int .i64) .nil)))) (.cons (.int .i64) (.cons (.int .i64) (.cons (.int .i64) .nil))))))) : Tys).den) : evFun (mkEnv ts3 (fs3 g12 g13 g14 g15 g16 g17 g18 g19 g20 g21 g22 g23 g24)) H3 k body3 128 [.tmp 14] (explodes (.cons (.slice (.struct (.cons .str (.cons (.int .i64) (.cons (.int .i64) (.cons (.int .i64) (.cons (.int .i64) .nil))))))) (.cons (.slice (.struct (.cons .str (.cons (.int .i64) (.cons (.int .i64) .nil))))) (.cons (.struct (.cons .str (.cons (.int .i64) (.cons (.int .i64) (.cons (.int .i64) (.cons (.int .i64) .nil)))))) (.cons (.struct (.cons .str (.cons (.int .i64) (.cons (.int .i64) .nil)))) (.cons (.int .i64) (.cons (.int .i64) (.cons (.int .i64) .nil))))))) x) [] (dec (.cons .bool .nil)) = f3 g12 g13 g14 g15 g16 g17 g18 g19 g20 g21 g22 g23 g24 k x.1 x.2.1 x.2.2.1 x.2.2.2.1 x.2.2.2.2.1 x.2.2.2.2.2.1 x.2.2.2.2.2.2.1 := by kernel_rfl
end Go.Vm
