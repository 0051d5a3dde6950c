/- The program's functions, as an own tool reads them off its form. -/
import Derived.Test.YtfiembgemhonlaaVmD
import Derived.Test.YtfiembgemhonlaaProg
set_option maxRecDepth 100000
set_option linter.unusedVariables false
namespace Go.Vm
open Go.Proofs
theorem mixedOK : Try.prog.follows .mixedOrders = true := by kernel_rfl
/-! ### jitney/base.Key -/
def f113  (k : Nat) (x0 : ByteArray) : Option (Bool × Unit) :=
 bif (sEq x0 (ByteArray.mk #[])) then
  some (false, ())
 else
  bif (decide (((ByteArray.size x0 : Nat) : Int) > (40 : Int))) then
   some (false, ())
  else
   bif (inR (0 : Int) ((ByteArray.size x0 : Nat) : Int)) then
    bif (decide ((bt x0 (0 : Int)) < (97 : Int))) then
     some (false, ())
    else
     bif (inR (0 : Int) ((ByteArray.size x0 : Nat) : Int)) then
      bif (decide ((bt x0 (0 : Int)) > (122 : Int))) then
       some (false, ())
      else
       Option.bind (α := (Bool × Unit) ⊕ ((Unit) × (Unit))) (iter (σ := (Int × Unit) × (Unit)) (τ := (Bool × Unit) ⊕ ((Unit) × (Unit))) k (fun y1 =>
         bif (decide (y1.1.1 < ((ByteArray.size x0 : Nat) : Int))) then
          bif (inR y1.1.1 ((ByteArray.size x0 : Nat) : Int)) then
           bif (decide ((bt x0 y1.1.1) ≥ (97 : Int))) then
            bif (decide ((bt x0 y1.1.1) ≤ (122 : Int))) then
             some (.inl (((IntKind.i64.wrap (y1.1.1 + (1 : Int))), ()), ()))
            else
             bif (decide ((bt x0 y1.1.1) ≥ (48 : Int))) then
              bif (decide ((bt x0 y1.1.1) ≤ (57 : Int))) then
               some (.inl (((IntKind.i64.wrap (y1.1.1 + (1 : Int))), ()), ()))
              else
               bif ((bt x0 y1.1.1) == (45 : Int)) then
                some (.inl (((IntKind.i64.wrap (y1.1.1 + (1 : Int))), ()), ()))
               else
                bif (!((bt x0 y1.1.1) == (95 : Int))) then
                 some (.inr (.inl (false, ())))
                else
                 some (.inl (((IntKind.i64.wrap (y1.1.1 + (1 : Int))), ()), ()))
             else
              bif ((bt x0 y1.1.1) == (45 : Int)) then
               some (.inl (((IntKind.i64.wrap (y1.1.1 + (1 : Int))), ()), ()))
              else
               bif (!((bt x0 y1.1.1) == (95 : Int))) then
                some (.inr (.inl (false, ())))
               else
                some (.inl (((IntKind.i64.wrap (y1.1.1 + (1 : Int))), ()), ()))
           else
            bif (decide ((bt x0 y1.1.1) ≥ (48 : Int))) then
             bif (decide ((bt x0 y1.1.1) ≤ (57 : Int))) then
              some (.inl (((IntKind.i64.wrap (y1.1.1 + (1 : Int))), ()), ()))
             else
              bif ((bt x0 y1.1.1) == (45 : Int)) then
               some (.inl (((IntKind.i64.wrap (y1.1.1 + (1 : Int))), ()), ()))
              else
               bif (!((bt x0 y1.1.1) == (95 : Int))) then
                some (.inr (.inl (false, ())))
               else
                some (.inl (((IntKind.i64.wrap (y1.1.1 + (1 : Int))), ()), ()))
            else
             bif ((bt x0 y1.1.1) == (45 : Int)) then
              some (.inl (((IntKind.i64.wrap (y1.1.1 + (1 : Int))), ()), ()))
             else
              bif (!((bt x0 y1.1.1) == (95 : Int))) then
               some (.inr (.inl (false, ())))
              else
               some (.inl (((IntKind.i64.wrap (y1.1.1 + (1 : Int))), ()), ()))
          else
           none
         else
          some (.inr (.inr ((), ())))) (((0 : Int), ()), ())) fun r => match r with
       | .inl z => some z
       | .inr z2 =>
        some (true, ())
     else
      none
   else
    none
def H113 : Hints where
 loop := fun n => match n with
  | 0 => some ({ slots := [(24, (.int .i64))], objs := [], gone := [] }, 0, { slots := [], objs := [], gone := [] })
  | _ => none
 region := fun n => match n with
  | _ => none
 cond := fun n => match n with
  | _ => none
 block := fun n => match n with
  | _ => none
abbrev A113 : Tys := (.cons .str .nil)
def ts113 : List (Nat × TD) := [(3, (.data (.int .i64))), (4, (.data .bool)), (5, (.data (.int .u8))), (9, (.data .str))]
noncomputable def fs113  : List (Nat × FSem) := []
noncomputable def body113 : Code := match Try.f113.body with | some c => c | none => .skip
theorem ty113 : chkTypes Try.prog ts113 = true := by kernel_rfl
theorem ev113  (k : Nat) (x : ((.cons .str .nil) : Tys).den) : evFun (mkEnv ts113 (fs113 )) H113 k body113 54 [.tmp 2] (explodes (.cons .str .nil) x) [] (dec (.cons .bool .nil)) = f113  k x.1 := by kernel_rfl
/-! ### jitney/base.Out -/
def f114  (k : Nat) (x0 : Int) (x1 : Int) (x2 : Int) : Option (Bool × Unit) :=
 bif (decide (x0 < x1)) then
  some (true, ())
 else
  some ((decide (x0 > x2)), ())
def H114 : Hints where
 loop := fun n => match n with
  | _ => none
 region := fun n => match n with
  | _ => none
 cond := fun n => match n with
  | _ => none
 block := fun n => match n with
  | _ => none
abbrev A114 : Tys := (.cons (.int .i64) (.cons (.int .i64) (.cons (.int .i64) .nil)))
def ts114 : List (Nat × TD) := [(3, (.data (.int .i64))), (4, (.data .bool))]
noncomputable def fs114  : List (Nat × FSem) := []
noncomputable def body114 : Code := match Try.f114.body with | some c => c | none => .skip
theorem ty114 : chkTypes Try.prog ts114 = true := by kernel_rfl
theorem ev114  (k : Nat) (x : ((.cons (.int .i64) (.cons (.int .i64) (.cons (.int .i64) .nil))) : Tys).den) : evFun (mkEnv ts114 (fs114 )) H114 k body114 15 [.tmp 6] (explodes (.cons (.int .i64) (.cons (.int .i64) (.cons (.int .i64) .nil))) x) [] (dec (.cons .bool .nil)) = f114  k x.1 x.2.1 x.2.2.1 := by kernel_rfl
/-! ### jitney/fleet.CheckVehicles -/
def f12 (g113 : ByteArray → (Bool)) (g114 : Int → Int → Int → (Bool)) (k : Nat) (x0 : List (ByteArray × Int × Int × Int × Int × Unit)) : Option (Int × Unit) :=
 bif (decide (((List.length x0 : Nat) : Int) > (200 : Int))) then
  some ((2 : Int), ())
 else
  Option.bind (α := (Int × Unit) ⊕ ((Unit) × (Unit))) (iter (σ := (Int × Unit) × (Unit)) (τ := (Int × Unit) ⊕ ((Unit) × (Unit))) k (fun y1 =>
    bif (decide (y1.1.1 < ((List.length x0 : Nat) : Int))) then
     bif (inR y1.1.1 ((List.length x0 : Nat) : Int)) then
      bif (!(g113 ((rd (α := (ByteArray × Int × Int × Int × Int × Unit)) (ByteArray.empty, (0 : Int), (0 : Int), (0 : Int), (0 : Int), ()) x0 y1.1.1).1))) then
       some (.inr (.inl ((5 : Int), ())))
      else
       Option.bind (α := (((Int × Unit) × (Unit)) ⊕ ((Int × Unit) ⊕ ((Unit) × (Unit)))) ⊕ ((Bool × Unit) × (Unit))) (
         bif (decide (y1.1.1 > (0 : Int))) then
          bif (inR (IntKind.i64.wrap (y1.1.1 - (1 : Int))) ((List.length x0 : Nat) : Int)) then
           some (.inr ((((sLt ((rd (α := (ByteArray × Int × Int × Int × Int × Unit)) (ByteArray.empty, (0 : Int), (0 : Int), (0 : Int), (0 : Int), ()) x0 y1.1.1).1) ((rd (α := (ByteArray × Int × Int × Int × Int × Unit)) (ByteArray.empty, (0 : Int), (0 : Int), (0 : Int), (0 : Int), ()) x0 (IntKind.i64.wrap (y1.1.1 - (1 : Int)))).1)) || (sEq ((rd (α := (ByteArray × Int × Int × Int × Int × Unit)) (ByteArray.empty, (0 : Int), (0 : Int), (0 : Int), (0 : Int), ()) x0 y1.1.1).1) ((rd (α := (ByteArray × Int × Int × Int × Int × Unit)) (ByteArray.empty, (0 : Int), (0 : Int), (0 : Int), (0 : Int), ()) x0 (IntKind.i64.wrap (y1.1.1 - (1 : Int)))).1))), ()), ()))
          else
           none
         else
          some (.inr ((false, ()), ()))) fun r => match r with
       | .inl z => some z
       | .inr y2 =>
        bif y2.1.1 then
         some (.inr (.inl ((7 : Int), ())))
        else
         bif (g114 ((rd (α := (ByteArray × Int × Int × Int × Int × Unit)) (ByteArray.empty, (0 : Int), (0 : Int), (0 : Int), (0 : Int), ()) x0 y1.1.1).2.1) (1 : Int) (1000000 : Int)) then
          some (.inr (.inl ((1 : Int), ())))
         else
          bif (g114 ((rd (α := (ByteArray × Int × Int × Int × Int × Unit)) (ByteArray.empty, (0 : Int), (0 : Int), (0 : Int), (0 : Int), ()) x0 y1.1.1).2.2.1) (0 : Int) ((rd (α := (ByteArray × Int × Int × Int × Int × Unit)) (ByteArray.empty, (0 : Int), (0 : Int), (0 : Int), (0 : Int), ()) x0 y1.1.1).2.1)) then
           some (.inr (.inl ((1 : Int), ())))
          else
           bif (g114 ((rd (α := (ByteArray × Int × Int × Int × Int × Unit)) (ByteArray.empty, (0 : Int), (0 : Int), (0 : Int), (0 : Int), ()) x0 y1.1.1).2.2.2.1) (1 : Int) (1000000 : Int)) then
            some (.inr (.inl ((1 : Int), ())))
           else
            bif (g114 ((rd (α := (ByteArray × Int × Int × Int × Int × Unit)) (ByteArray.empty, (0 : Int), (0 : Int), (0 : Int), (0 : Int), ()) x0 y1.1.1).2.2.2.2.1) (0 : Int) (1000 : Int)) then
             some (.inr (.inl ((1 : Int), ())))
            else
             some (.inl (((IntKind.i64.wrap (y1.1.1 + (1 : Int))), ()), ()))
     else
      none
    else
     some (.inr (.inr ((), ())))) (((0 : Int), ()), ())) fun r => match r with
  | .inl z => some z
  | .inr z3 =>
   some ((0 : Int), ())
/-! ### slices.Clone[[]jitney/api.Vehicle,jitney/api.Vehicle] -/
/-! ### jitney/jitref2.in -/
def f115  (k : Nat) (x0 : Int) (x1 : Int) (x2 : Int) : Option (Bool × Unit) :=
 bif (decide (x1 ≤ x0)) then
  some ((decide (x0 ≤ x2)), ())
 else
  some (false, ())
def H115 : Hints where
 loop := fun n => match n with
  | _ => none
 region := fun n => match n with
  | _ => none
 cond := fun n => match n with
  | _ => none
 block := fun n => match n with
  | _ => none
abbrev A115 : Tys := (.cons (.int .i64) (.cons (.int .i64) (.cons (.int .i64) .nil)))
def ts115 : List (Nat × TD) := [(3, (.data (.int .i64))), (4, (.data .bool))]
noncomputable def fs115  : List (Nat × FSem) := []
noncomputable def body115 : Code := match Try.f115.body with | some c => c | none => .skip
theorem ty115 : chkTypes Try.prog ts115 = true := by kernel_rfl
theorem ev115  (k : Nat) (x : ((.cons (.int .i64) (.cons (.int .i64) (.cons (.int .i64) .nil))) : Tys).den) : evFun (mkEnv ts115 (fs115 )) H115 k body115 15 [.tmp 6] (explodes (.cons (.int .i64) (.cons (.int .i64) (.cons (.int .i64) .nil))) x) [] (dec (.cons .bool .nil)) = f115  k x.1 x.2.1 x.2.2.1 := by kernel_rfl
/-! ### strings.IndexByte -/
def f212 (g265 : ByteArray → Int → (Int)) (k : Nat) (x0 : ByteArray) (x1 : Int) : Option (Int × Unit) :=
 some ((g265 x0 x1), ())
def H212 : Hints where
 loop := fun n => match n with
  | _ => none
 region := fun n => match n with
  | _ => none
 cond := fun n => match n with
  | _ => none
 block := fun n => match n with
  | _ => none
abbrev A212 : Tys := (.cons .str (.cons (.int .u8) .nil))
def ts212 : List (Nat × TD) := [(3, (.data (.int .i64))), (5, (.data (.int .u8))), (9, (.data .str))]
noncomputable def fs212 (g265 : ByteArray → Int → (Int)) : List (Nat × FSem) := [(265, .fn (.cons .str (.cons (.int .u8) .nil)) (.cons (.int .i64) .nil) fun x => ((g265 x.1 x.2.1), ()))]
noncomputable def body212 : Code := match Try.f212.body with | some c => c | none => .skip
theorem ty212 : chkTypes Try.prog ts212 = true := by kernel_rfl
theorem ev212 (g265 : ByteArray → Int → (Int)) (k : Nat) (x : ((.cons .str (.cons (.int .u8) .nil)) : Tys).den) : evFun (mkEnv ts212 (fs212 g265)) H212 k body212 8 [.tmp 4] (explodes (.cons .str (.cons (.int .u8) .nil)) x) [] (dec (.cons (.int .i64) .nil)) = f212 g265 k x.1 x.2.1 := by kernel_rfl
/-! ### jitney/jitref2.only -/
def f130 (g212 : ByteArray → Int → (Int)) (k : Nat) (x0 : ByteArray) (x1 : ByteArray) : Option (Bool × Unit) :=
 Option.bind (α := (Bool × Unit) ⊕ ((Unit) × (Unit))) (iter (σ := (Int × Unit) × (Unit)) (τ := (Bool × Unit) ⊕ ((Unit) × (Unit))) k (fun y1 =>
   bif (decide (y1.1.1 < ((ByteArray.size x0 : Nat) : Int))) then
    bif (inR y1.1.1 ((ByteArray.size x0 : Nat) : Int)) then
     bif (decide ((g212 x1 (bt x0 y1.1.1)) < (0 : Int))) then
      some (.inr (.inl (false, ())))
     else
      some (.inl (((IntKind.i64.wrap (y1.1.1 + (1 : Int))), ()), ()))
    else
     none
   else
    some (.inr (.inr ((), ())))) (((0 : Int), ()), ())) fun r => match r with
 | .inl z => some z
 | .inr z2 =>
  some (true, ())
def H130 : Hints where
 loop := fun n => match n with
  | 0 => some ({ slots := [(8, (.int .i64))], objs := [], gone := [] }, 0, { slots := [], objs := [], gone := [] })
  | _ => none
 region := fun n => match n with
  | _ => none
 cond := fun n => match n with
  | _ => none
 block := fun n => match n with
  | _ => none
abbrev A130 : Tys := (.cons .str (.cons .str .nil))
def ts130 : List (Nat × TD) := [(3, (.data (.int .i64))), (4, (.data .bool)), (9, (.data .str))]
noncomputable def fs130 (g212 : ByteArray → Int → (Int)) : List (Nat × FSem) := [(212, .fn (.cons .str (.cons (.int .u8) .nil)) (.cons (.int .i64) .nil) fun x => ((g212 x.1 x.2.1), ()))]
noncomputable def body130 : Code := match Try.f130.body with | some c => c | none => .skip
theorem ty130 : chkTypes Try.prog ts130 = true := by kernel_rfl
theorem ev130 (g212 : ByteArray → Int → (Int)) (k : Nat) (x : ((.cons .str (.cons .str .nil)) : Tys).den) : evFun (mkEnv ts130 (fs130 g212)) H130 k body130 18 [.tmp 4] (explodes (.cons .str (.cons .str .nil)) x) [] (dec (.cons .bool .nil)) = f130 g212 k x.1 x.2.1 := by kernel_rfl
/-! ### jitney/jitref2.Key -/
def f31 (g115 : Int → Int → Int → (Bool)) (g130 : ByteArray → ByteArray → (Bool)) (k : Nat) (x0 : ByteArray) : Option (Bool × Unit) :=
 bif (g115 ((ByteArray.size x0 : Nat) : Int) (1 : Int) (40 : Int)) then
  bif (decide (0 ≤ (0 : Int)) && (decide ((0 : Int) ≤ (1 : Int)) && decide ((1 : Int) ≤ ((ByteArray.size x0 : Nat) : Int)))) then
   bif (g130 (ByteArray.extract x0 (Int.toNat (0 : Int)) (Int.toNat (1 : Int))) (ByteArray.mk #[97, 98, 99, 100, 101, 102, 103, 104, 105, 106, 107, 108, 109, 110, 111, 112, 113, 114, 115, 116, 117, 118, 119, 120, 121, 122])) then
    some ((g130 x0 (ByteArray.mk #[97, 98, 99, 100, 101, 102, 103, 104, 105, 106, 107, 108, 109, 110, 111, 112, 113, 114, 115, 116, 117, 118, 119, 120, 121, 122, 48, 49, 50, 51, 52, 53, 54, 55, 56, 57, 45, 95])), ())
   else
    some (false, ())
  else
   none
 else
  some (false, ())
def H31 : Hints where
 loop := fun n => match n with
  | _ => none
 region := fun n => match n with
  | _ => none
 cond := fun n => match n with
  | _ => none
 block := fun n => match n with
  | _ => none
abbrev A31 : Tys := (.cons .str .nil)
def ts31 : List (Nat × TD) := [(4, (.data .bool)), (9, (.data .str))]
noncomputable def fs31 (g115 : Int → Int → Int → (Bool)) (g130 : ByteArray → ByteArray → (Bool)) : List (Nat × FSem) := [(115, .fn (.cons (.int .i64) (.cons (.int .i64) (.cons (.int .i64) .nil))) (.cons .bool .nil) fun x => ((g115 x.1 x.2.1 x.2.2.1), ())), (130, .fn (.cons .str (.cons .str .nil)) (.cons .bool .nil) fun x => ((g130 x.1 x.2.1), ()))]
noncomputable def body31 : Code := match Try.f31.body with | some c => c | none => .skip
theorem ty31 : chkTypes Try.prog ts31 = true := by kernel_rfl
theorem ev31 (g115 : Int → Int → Int → (Bool)) (g130 : ByteArray → ByteArray → (Bool)) (k : Nat) (x : ((.cons .str .nil) : Tys).den) : evFun (mkEnv ts31 (fs31 g115 g130)) H31 k body31 15 [.tmp 2] (explodes (.cons .str .nil) x) [] (dec (.cons .bool .nil)) = f31 g115 g130 k x.1 := by kernel_rfl
/-! ### jitney/jitref2.VehiclesFault -/
/-! ### jitney/fleet.CheckPlaces -/
/-! ### slices.Clone[[]jitney/api.Place,jitney/api.Place] -/
/-! ### jitney/jitref2.PlacesFault -/
/-! ### jitney/base.First -/
def f123  (k : Nat) (x0 : List Int) : Option (Int × Unit) :=
 Option.bind (α := (Int × Unit) ⊕ ((Unit) × (Unit))) (iter (σ := (Int × Unit) × (Unit)) (τ := (Int × Unit) ⊕ ((Unit) × (Unit))) k (fun y1 =>
   bif (decide (y1.1.1 < ((List.length x0 : Nat) : Int))) then
    bif (inR y1.1.1 ((List.length x0 : Nat) : Int)) then
     bif ((rd (α := Int) (0 : Int) x0 y1.1.1) != (0 : Int)) then
      some (.inr (.inl ((rd (α := Int) (0 : Int) x0 y1.1.1), ())))
     else
      some (.inl (((IntKind.i64.wrap (y1.1.1 + (1 : Int))), ()), ()))
    else
     none
   else
    some (.inr (.inr ((), ())))) (((0 : Int), ()), ())) fun r => match r with
 | .inl z => some z
 | .inr z2 =>
  some ((0 : Int), ())
def H123 : Hints where
 loop := fun n => match n with
  | 0 => some ({ slots := [(7, (.int .i64))], objs := [], gone := [] }, 0, { slots := [], objs := [], gone := [] })
  | _ => none
 region := fun n => match n with
  | _ => none
 cond := fun n => match n with
  | _ => none
 block := fun n => match n with
  | _ => none
abbrev A123 : Tys := (.cons (.slice (.int .i64)) .nil)
def ts123 : List (Nat × TD) := [(3, (.data (.int .i64))), (28, (.data (.int .i64))), (184, (.data (.slice (.int .i64))))]
noncomputable def fs123  : List (Nat × FSem) := []
noncomputable def body123 : Code := match Try.f123.body with | some c => c | none => .skip
theorem ty123 : chkTypes Try.prog ts123 = true := by kernel_rfl
theorem ev123  (k : Nat) (x : ((.cons (.slice (.int .i64)) .nil) : Tys).den) : evFun (mkEnv ts123 (fs123 )) H123 k body123 15 [.tmp 2] (explodes (.cons (.slice (.int .i64)) .nil) x) [] (dec (.cons (.int .i64) .nil)) = f123  k x.1 := by kernel_rfl
/-! ### jitney/fleet.oneFault -/
/-! ### jitney/fleet.newBattery -/
/-! ### jitney/fleet.up -/
/-! ### (jitney/fleet.battery).after -/
/-! ### jitney/fleet.Gain -/
/-! ### (jitney/fleet.battery).needs -/
/-! ### jitney/fleet.Needs -/
/-! ### jitney/jitlaw2.errs -/
def f20  (k : Nat) (x0 : List Int) : Option (Int × Unit) :=
 Option.bind (α := (Int × Unit) ⊕ ((Unit) × (Unit))) (iter (σ := (Int × Unit) × (Unit)) (τ := (Int × Unit) ⊕ ((Unit) × (Unit))) k (fun y1 =>
   bif (decide (y1.1.1 < ((List.length x0 : Nat) : Int))) then
    bif (inR y1.1.1 ((List.length x0 : Nat) : Int)) then
     bif ((rd (α := Int) (0 : Int) x0 y1.1.1) != (0 : Int)) then
      some (.inr (.inl ((rd (α := Int) (0 : Int) x0 y1.1.1), ())))
     else
      some (.inl (((IntKind.i64.wrap (y1.1.1 + (1 : Int))), ()), ()))
    else
     none
   else
    some (.inr (.inr ((), ())))) (((0 : Int), ()), ())) fun r => match r with
 | .inl z => some z
 | .inr z2 =>
  some ((0 : Int), ())
def H20 : Hints where
 loop := fun n => match n with
  | 0 => some ({ slots := [(7, (.int .i64))], objs := [], gone := [] }, 0, { slots := [], objs := [], gone := [] })
  | _ => none
 region := fun n => match n with
  | _ => none
 cond := fun n => match n with
  | _ => none
 block := fun n => match n with
  | _ => none
abbrev A20 : Tys := (.cons (.slice (.int .i64)) .nil)
def ts20 : List (Nat × TD) := [(3, (.data (.int .i64))), (28, (.data (.int .i64))), (184, (.data (.slice (.int .i64))))]
noncomputable def fs20  : List (Nat × FSem) := []
noncomputable def body20 : Code := match Try.f20.body with | some c => c | none => .skip
theorem ty20 : chkTypes Try.prog ts20 = true := by kernel_rfl
theorem ev20  (k : Nat) (x : ((.cons (.slice (.int .i64)) .nil) : Tys).den) : evFun (mkEnv ts20 (fs20 )) H20 k body20 15 [.tmp 2] (explodes (.cons (.slice (.int .i64)) .nil) x) [] (dec (.cons (.int .i64) .nil)) = f20  k x.1 := by kernel_rfl
/-! ### jitney/jitlaw2.when -/
def f21  (k : Nat) (x0 : Bool) (x1 : Int) : Option (Int × Unit) :=
 bif x0 then
  some (x1, ())
 else
  some ((0 : Int), ())
def H21 : Hints where
 loop := fun n => match n with
  | _ => none
 region := fun n => match n with
  | _ => none
 cond := fun n => match n with
  | _ => none
 block := fun n => match n with
  | _ => none
abbrev A21 : Tys := (.cons .bool (.cons (.int .i64) .nil))
def ts21 : List (Nat × TD) := [(4, (.data .bool)), (28, (.data (.int .i64)))]
noncomputable def fs21  : List (Nat × FSem) := []
noncomputable def body21 : Code := match Try.f21.body with | some c => c | none => .skip
theorem ty21 : chkTypes Try.prog ts21 = true := by kernel_rfl
theorem ev21  (k : Nat) (x : ((.cons .bool (.cons (.int .i64) .nil)) : Tys).den) : evFun (mkEnv ts21 (fs21 )) H21 k body21 7 [.tmp 4] (explodes (.cons .bool (.cons (.int .i64) .nil)) x) [] (dec (.cons (.int .i64) .nil)) = f21  k x.1 x.2.1 := by kernel_rfl
/-! ### jitney/jitref2.over -/
/-! ### jitney/jitref2.GainOf -/
/-! ### jitney/jitref2.NeedsOf -/
/-! ### cmp.Or[int] -/
def f127  (k : Nat) (x0 : List Int) : Option (Int × Unit) :=
 Option.bind (α := (Int × Unit) ⊕ ((Unit) × (Unit))) (iter (σ := (Int × Unit) × (Unit)) (τ := (Int × Unit) ⊕ ((Unit) × (Unit))) k (fun y1 =>
   bif (decide (y1.1.1 < ((List.length x0 : Nat) : Int))) then
    bif (inR y1.1.1 ((List.length x0 : Nat) : Int)) then
     bif ((rd (α := Int) (0 : Int) x0 y1.1.1) != (0 : Int)) then
      some (.inr (.inl ((rd (α := Int) (0 : Int) x0 y1.1.1), ())))
     else
      some (.inl (((IntKind.i64.wrap (y1.1.1 + (1 : Int))), ()), ()))
    else
     none
   else
    some (.inr (.inr ((), ())))) (((0 : Int), ()), ())) fun r => match r with
 | .inl z => some z
 | .inr z2 =>
  some ((0 : Int), ())
def H127 : Hints where
 loop := fun n => match n with
  | 0 => some ({ slots := [(8, (.int .i64))], objs := [], gone := [] }, 0, { slots := [], objs := [], gone := [] })
  | _ => none
 region := fun n => match n with
  | _ => none
 cond := fun n => match n with
  | _ => none
 block := fun n => match n with
  | _ => none
abbrev A127 : Tys := (.cons (.slice (.int .i64)) .nil)
def ts127 : List (Nat × TD) := [(3, (.data (.int .i64))), (78, (.data (.slice (.int .i64))))]
noncomputable def fs127  : List (Nat × FSem) := []
noncomputable def body127 : Code := match Try.f127.body with | some c => c | none => .skip
theorem ty127 : chkTypes Try.prog ts127 = true := by kernel_rfl
theorem ev127  (k : Nat) (x : ((.cons (.slice (.int .i64)) .nil) : Tys).den) : evFun (mkEnv ts127 (fs127 )) H127 k body127 18 [.tmp 2] (explodes (.cons (.slice (.int .i64)) .nil) x) [] (dec (.cons (.int .i64) .nil)) = f127  k x.1 := by kernel_rfl
/-! ### cmp.isNaN[int] -/
def f210  (k : Nat) (x0 : Int) : Option (Bool × Unit) :=
 some ((x0 != x0), ())
def H210 : Hints where
 loop := fun n => match n with
  | _ => none
 region := fun n => match n with
  | _ => none
 cond := fun n => match n with
  | _ => none
 block := fun n => match n with
  | _ => none
abbrev A210 : Tys := (.cons (.int .i64) .nil)
def ts210 : List (Nat × TD) := [(3, (.data (.int .i64))), (4, (.data .bool))]
noncomputable def fs210  : List (Nat × FSem) := []
noncomputable def body210 : Code := match Try.f210.body with | some c => c | none => .skip
theorem ty210 : chkTypes Try.prog ts210 = true := by kernel_rfl
theorem ev210  (k : Nat) (x : ((.cons (.int .i64) .nil) : Tys).den) : evFun (mkEnv ts210 (fs210 )) H210 k body210 6 [.tmp 2] (explodes (.cons (.int .i64) .nil) x) [] (dec (.cons .bool .nil)) = f210  k x.1 := by kernel_rfl
/-! ### cmp.Compare[int] -/
def f128 (g210 : Int → (Bool)) (k : Nat) (x0 : Int) (x1 : Int) : Option (Int × Unit) :=
 bif (g210 x0) then
  bif (g210 x1) then
   some ((0 : Int), ())
  else
   some ((-1 : Int), ())
 else
  bif (g210 x1) then
   some ((1 : Int), ())
  else
   bif (decide (x0 < x1)) then
    some ((-1 : Int), ())
   else
    bif (decide (x0 > x1)) then
     some ((1 : Int), ())
    else
     some ((0 : Int), ())
def H128 : Hints where
 loop := fun n => match n with
  | _ => none
 region := fun n => match n with
  | _ => none
 cond := fun n => match n with
  | _ => none
 block := fun n => match n with
  | _ => none
abbrev A128 : Tys := (.cons (.int .i64) (.cons (.int .i64) .nil))
def ts128 : List (Nat × TD) := [(3, (.data (.int .i64)))]
noncomputable def fs128 (g210 : Int → (Bool)) : List (Nat × FSem) := [(210, .fn (.cons (.int .i64) .nil) (.cons .bool .nil) fun x => ((g210 x.1), ()))]
noncomputable def body128 : Code := match Try.f128.body with | some c => c | none => .skip
theorem ty128 : chkTypes Try.prog ts128 = true := by kernel_rfl
theorem ev128 (g210 : Int → (Bool)) (k : Nat) (x : ((.cons (.int .i64) (.cons (.int .i64) .nil)) : Tys).den) : evFun (mkEnv ts128 (fs128 g210)) H128 k body128 20 [.tmp 4] (explodes (.cons (.int .i64) (.cons (.int .i64) .nil)) x) [] (dec (.cons (.int .i64) .nil)) = f128 g210 k x.1 x.2.1 := by kernel_rfl
/-! ### jitney/fleet.byShift -/
/-! ### jitney/fleet.CheckShifts -/
/-! ### jitney/fleet.rosters -/
/-! ### jitney/fleet.Drivers -/
/-! ### jitney/jitlaw2.driven -/
/-! ### jitney/jitlaw2.BatteriesGain -/
end Go.Vm
