/- The program's functions, as an own tool reads them off its form. -/
import Derived.Test.YtfiembgemhonlaaDFn
import Derived.Test.YtfiembgemhonlaaVmQ
import Derived.Test.YtfiembgemhonlaaProg
set_option maxRecDepth 100000
set_option linter.unusedVariables false
namespace Go.Vm
open Go.Proofs
abbrev RT0 : Type := (Int × Int × Unit)
abbrev RT1 : Type := (Int × Int × Int × Unit)
abbrev RT2 : Type := (RT0 × Unit)
abbrev RT3 : Type := (RT0 × Int × Unit)
abbrev RT4 : Type := (RT0 × Bool × Unit)
abbrev RT5 : Type := (ByteArray × ByteArray × ByteArray × Int × Int × Unit)
abbrev RT6 : Type := (Int × RT5 × Unit)
abbrev RT7 : Type := (RT5 × Int × Unit)
abbrev zRT0 : RT0 := ((0 : Int), (0 : Int), ())
abbrev zRT2 : RT2 := (zRT0, ())
abbrev zRT4 : RT4 := (zRT0, false, ())
abbrev zRT5 : RT5 := (ByteArray.empty, ByteArray.empty, ByteArray.empty, (0 : Int), (0 : Int), ())
abbrev RY0 : Ty := (.struct (.cons (.int .i64) (.cons (.int .i64) .nil)))
abbrev RY1 : Ty := (.struct (.cons (.int .i64) (.cons (.int .i64) (.cons (.int .i64) .nil))))
abbrev RY2 : Ty := (.struct (.cons .str (.cons .str (.cons .str (.cons (.int .i64) (.cons (.int .i64) .nil))))))
/-! ### slices.Clone[[]string,string] -/
def f28  (k : Nat) (x0 : List ByteArray) : Option ((List ByteArray) × Unit) :=
 bif Nat.ble (List.length x0) 0 then
  none
 else
  bif decide (List.length ([] : List ByteArray) + List.length x0 ≤ 4294967296) then
   some ((([] : List ByteArray) ++ x0), ())
  else
   none
def H28 : Hints where
 loop := fun n => match n with
  | _ => none
 region := fun n => match n with
  | _ => none
 cond := fun n => match n with
  | _ => none
 block := fun n => match n with
  | _ => none
def ts28 : List (Nat × TD) := [(41, (.data (.slice .str)))]
noncomputable def fs28  : List (Nat × FSem) := []
noncomputable def body28 : Code := match Try.f28.body with | some c => c | none => .skip
theorem ty28 : chkTypes Try.prog ts28 = true := by kernel_rfl
theorem ev28  (k : Nat) (x : ((.cons (.slice .str) .nil) : Tys).den) : evFun (mkEnv ts28 (fs28 )) H28 k body28 8 [.tmp 2] (explodes (.cons (.slice .str) .nil) x) [] (dec (.cons (.slice .str) .nil)) = f28  k x.1 := by kernel_rfl
def s28 (l : List ByteArray) : Option ((List ByteArray) × Unit) := if l.length ≤ 4294967296 then some (l, ()) else none
/-! ### slices.Index[[]string,string] -/
def f213  (k : Nat) (x0 : List ByteArray) (x1 : ByteArray) : Option (Int × Unit) :=
 Option.bind (α := (Int × Unit) ⊕ ((Unit) × (Unit))) (iter (σ := (Int × Unit) × (Unit)) (τ := (Int × Unit) ⊕ ((Unit) × (Unit))) k (fun y1 =>
   bif (decide (y1.1.1 < ((List.length x0 : Nat) : Int))) then
    bif (inR y1.1.1 ((List.length x0 : Nat) : Int)) then
     bif (sEq x1 (rd (α := ByteArray) ByteArray.empty x0 y1.1.1)) then
      some (.inr (.inl (y1.1.1, ())))
     else
      some (.inl (((IntKind.i64.wrap (y1.1.1 + (1 : Int))), ()), ()))
    else
     none
   else
    some (.inr (.inr ((), ())))) (((0 : Int), ()), ())) fun r => match r with
 | .inl z => some z
 | .inr z2 =>
  some ((-1 : Int), ())
def H213 : Hints where
 loop := fun n => match n with
  | 0 => some ({ slots := [(8, (.int .i64))], objs := [], gone := [] }, 0, { slots := [], objs := [], gone := [] })
  | _ => none
 region := fun n => match n with
  | _ => none
 cond := fun n => match n with
  | _ => none
 block := fun n => match n with
  | _ => none
abbrev A213 : Tys := (.cons (.slice .str) (.cons .str .nil))
def ts213 : List (Nat × TD) := [(3, (.data (.int .i64))), (9, (.data .str)), (41, (.data (.slice .str)))]
noncomputable def fs213  : List (Nat × FSem) := []
noncomputable def body213 : Code := match Try.f213.body with | some c => c | none => .skip
theorem ty213 : chkTypes Try.prog ts213 = true := by kernel_rfl
theorem ev213  (k : Nat) (x : ((.cons (.slice .str) (.cons .str .nil)) : Tys).den) : evFun (mkEnv ts213 (fs213 )) H213 k body213 19 [.tmp 4] (explodes (.cons (.slice .str) (.cons .str .nil)) x) [] (dec (.cons (.int .i64) .nil)) = f213  k x.1 x.2.1 := by kernel_rfl
/-! ### slices.Contains[[]string,string] -/
def f131 (g213 : (List ByteArray) → ByteArray → (Int)) (k : Nat) (x0 : List ByteArray) (x1 : ByteArray) : Option (Bool × Unit) :=
 some ((decide ((g213 x0 x1) ≥ (0 : Int))), ())
def H131 : Hints where
 loop := fun n => match n with
  | _ => none
 region := fun n => match n with
  | _ => none
 cond := fun n => match n with
  | _ => none
 block := fun n => match n with
  | _ => none
abbrev A131 : Tys := (.cons (.slice .str) (.cons .str .nil))
def ts131 : List (Nat × TD) := [(3, (.data (.int .i64))), (4, (.data .bool)), (9, (.data .str)), (41, (.data (.slice .str)))]
noncomputable def fs131 (g213 : (List ByteArray) → ByteArray → (Int)) : List (Nat × FSem) := [(213, .fn (.cons (.slice .str) (.cons .str .nil)) (.cons (.int .i64) .nil) fun x => ((g213 x.1 x.2.1), ()))]
noncomputable def body131 : Code := match Try.f131.body with | some c => c | none => .skip
theorem ty131 : chkTypes Try.prog ts131 = true := by kernel_rfl
theorem ev131 (g213 : (List ByteArray) → ByteArray → (Int)) (k : Nat) (x : ((.cons (.slice .str) (.cons .str .nil)) : Tys).den) : evFun (mkEnv ts131 (fs131 g213)) H131 k body131 9 [.tmp 4] (explodes (.cons (.slice .str) (.cons .str .nil)) x) [] (dec (.cons .bool .nil)) = f131 g213 k x.1 x.2.1 := by kernel_rfl
/-! ### jitney/jitref2.WhosFault -/
def f33 (g31 : ByteArray → (Bool)) (g131 : (List ByteArray) → ByteArray → (Bool)) (k : Nat) (x0 : List ByteArray) (x1 : Int) : Option (Int × Unit) :=
 bif (decide (((List.length x0 : Nat) : Int) > x1)) then
  some ((2 : Int), ())
 else
  Option.bind (α := (Int × Unit) ⊕ ((Unit) × (Unit))) (iter (σ := (Int × Unit) × (Unit)) (τ := (Int × Unit) ⊕ ((Unit) × (Unit))) k (fun y1 =>
    bif (decide (y1.1.1 < ((List.length x0 : Nat) : Int))) then
     bif (inR y1.1.1 ((List.length x0 : Nat) : Int)) then
      bif (!(g31 (rd (α := ByteArray) ByteArray.empty x0 y1.1.1))) then
       some (.inr (.inl ((5 : Int), ())))
      else
       bif (decide (0 ≤ (0 : Int)) && (decide ((0 : Int) ≤ y1.1.1) && decide (y1.1.1 ≤ ((List.length x0 : Nat) : Int)))) then
        bif (g131 (List.drop (Int.toNat (0 : Int)) (List.take (Int.toNat y1.1.1) x0)) (rd (α := ByteArray) ByteArray.empty x0 y1.1.1)) then
         some (.inr (.inl ((6 : Int), ())))
        else
         some (.inl (((IntKind.i64.wrap (y1.1.1 + (1 : Int))), ()), ()))
       else
        none
     else
      none
    else
     some (.inr (.inr ((), ())))) (((0 : Int), ()), ())) fun r => match r with
  | .inl z => some z
  | .inr z2 =>
   some ((0 : Int), ())
def H33 : Hints where
 loop := fun n => match n with
  | 0 => some ({ slots := [(13, (.int .i64))], objs := [], gone := [] }, 0, { slots := [], objs := [], gone := [] })
  | _ => none
 region := fun n => match n with
  | _ => none
 cond := fun n => match n with
  | _ => none
 block := fun n => match n with
  | _ => none
abbrev A33 : Tys := (.cons (.slice .str) (.cons (.int .i64) .nil))
def ts33 : List (Nat × TD) := [(3, (.data (.int .i64))), (9, (.data .str)), (28, (.data (.int .i64))), (41, (.data (.slice .str)))]
noncomputable def fs33 (g31 : ByteArray → (Bool)) (g131 : (List ByteArray) → ByteArray → (Bool)) : List (Nat × FSem) := [(31, .fn (.cons .str .nil) (.cons .bool .nil) fun x => ((g31 x.1), ())), (131, .fn (.cons (.slice .str) (.cons .str .nil)) (.cons .bool .nil) fun x => ((g131 x.1 x.2.1), ()))]
noncomputable def body33 : Code := match Try.f33.body with | some c => c | none => .skip
theorem ty33 : chkTypes Try.prog ts33 = true := by kernel_rfl
theorem ev33 (g31 : ByteArray → (Bool)) (g131 : (List ByteArray) → ByteArray → (Bool)) (k : Nat) (x : ((.cons (.slice .str) (.cons (.int .i64) .nil)) : Tys).den) : evFun (mkEnv ts33 (fs33 g31 g131)) H33 k body33 27 [.tmp 4] (explodes (.cons (.slice .str) (.cons (.int .i64) .nil)) x) [] (dec (.cons (.int .i64) .nil)) = f33 g31 g131 k x.1 x.2.1 := by kernel_rfl
/-! ### jitney/trust.sameWords -/
def f256 (g127 : (List Int) → (Int)) (g129 : ByteArray → ByteArray → (Int)) (k : Nat) (x0 : RT5) (x1 : RT5) : Option (Int × Unit) :=
 some ((g127 ([(g129 x0.2.2.1 x1.2.2.1), (g129 x0.1 x1.1), (g129 x0.2.1 x1.2.1)])), ())
def H256 : Hints where
 loop := fun n => match n with
  | _ => none
 region := fun n => match n with
  | _ => none
 cond := fun n => match n with
  | _ => none
 block := fun n => match n with
  | _ => none
abbrev A256 : Tys := (.cons RY2 (.cons RY2 .nil))
def ts256 : List (Nat × TD) := [(3, (.data (.int .i64))), (9, (.data .str)), (78, (.data (.slice (.int .i64)))), (165, (.data RY2))]
noncomputable def fs256 (g127 : (List Int) → (Int)) (g129 : ByteArray → ByteArray → (Int)) : List (Nat × FSem) := [(127, .fn (.cons (.slice (.int .i64)) .nil) (.cons (.int .i64) .nil) fun x => ((g127 x.1), ())), (129, .fn (.cons .str (.cons .str .nil)) (.cons (.int .i64) .nil) fun x => ((g129 x.1 x.2.1), ()))]
noncomputable def body256 : Code := match Try.f256.body with | some c => c | none => .skip
theorem ty256 : chkTypes Try.prog ts256 = true := by kernel_rfl
theorem ev256 (g127 : (List Int) → (Int)) (g129 : ByteArray → ByteArray → (Int)) (k : Nat) (x : ((.cons RY2 (.cons RY2 .nil)) : Tys).den) : evFun (mkEnv ts256 (fs256 g127 g129)) H256 k body256 22 [.tmp 4] (explodes (.cons RY2 (.cons RY2 .nil)) x) [] (dec (.cons (.int .i64) .nil)) = f256 g127 g129 k x.1 x.2.1 := by kernel_rfl
/-! ### jitney/trust.byRating -/
def f193 (g127 : (List Int) → (Int)) (g128 : Int → Int → (Int)) (g256 : RT5 → RT5 → (Int)) (k : Nat) (x0 : RT5) (x1 : RT5) : Option (Int × Unit) :=
 some ((g127 ([(g256 x0 x1), (g128 x0.2.2.2.2.1 x1.2.2.2.2.1)])), ())
def H193 : Hints where
 loop := fun n => match n with
  | _ => none
 region := fun n => match n with
  | _ => none
 cond := fun n => match n with
  | _ => none
 block := fun n => match n with
  | _ => none
abbrev A193 : Tys := (.cons RY2 (.cons RY2 .nil))
def ts193 : List (Nat × TD) := [(3, (.data (.int .i64))), (78, (.data (.slice (.int .i64)))), (165, (.data RY2))]
noncomputable def fs193 (g127 : (List Int) → (Int)) (g128 : Int → Int → (Int)) (g256 : RT5 → RT5 → (Int)) : List (Nat × FSem) := [(127, .fn (.cons (.slice (.int .i64)) .nil) (.cons (.int .i64) .nil) fun x => ((g127 x.1), ())), (128, .fn (.cons (.int .i64) (.cons (.int .i64) .nil)) (.cons (.int .i64) .nil) fun x => ((g128 x.1 x.2.1), ())), (256, .fn (.cons RY2 (.cons RY2 .nil)) (.cons (.int .i64) .nil) fun x => ((g256 x.1 x.2.1), ()))]
noncomputable def body193 : Code := match Try.f193.body with | some c => c | none => .skip
theorem ty193 : chkTypes Try.prog ts193 = true := by kernel_rfl
theorem ev193 (g127 : (List Int) → (Int)) (g128 : Int → Int → (Int)) (g256 : RT5 → RT5 → (Int)) (k : Nat) (x : ((.cons RY2 (.cons RY2 .nil)) : Tys).den) : evFun (mkEnv ts193 (fs193 g127 g128 g256)) H193 k body193 15 [.tmp 4] (explodes (.cons RY2 (.cons RY2 .nil)) x) [] (dec (.cons (.int .i64) .nil)) = f193 g127 g128 g256 k x.1 x.2.1 := by kernel_rfl
/-! ### jitney/trust.CheckRatings -/
def f107 (g113 : ByteArray → (Bool)) (g114 : Int → Int → Int → (Bool)) (g121 : Int → (Bool)) (g193 : RT5 → RT5 → (Int)) (k : Nat) (x0 : List RT5) : Option (Int × Unit) :=
 bif (decide (((List.length x0 : Nat) : Int) > (3000 : Int))) then
  some ((2 : Int), ())
 else
  Option.bind (α := (Int × Unit) ⊕ ((Unit) × (Unit))) (iter (σ := (Int × Unit) × (Unit)) (τ := (Int × Unit) ⊕ ((Unit) × (Unit))) k (fun y1 =>
    bif (decide (y1.1.1 < ((List.length x0 : Nat) : Int))) then
     bif (inR y1.1.1 ((List.length x0 : Nat) : Int)) then
      bif (!(g113 ((rd (α := RT5) zRT5 x0 y1.1.1).1))) then
       some (.inr (.inl ((5 : Int), ())))
      else
       bif (!(g113 ((rd (α := RT5) zRT5 x0 y1.1.1).2.1))) then
        some (.inr (.inl ((5 : Int), ())))
       else
        bif (!(g113 ((rd (α := RT5) zRT5 x0 y1.1.1).2.2.1))) then
         some (.inr (.inl ((5 : Int), ())))
        else
         bif (sEq ((rd (α := RT5) zRT5 x0 y1.1.1).1) ((rd (α := RT5) zRT5 x0 y1.1.1).2.1)) then
          some (.inr (.inl ((6 : Int), ())))
         else
          bif (g114 ((rd (α := RT5) zRT5 x0 y1.1.1).2.2.2.1) (1 : Int) (5 : Int)) then
           some (.inr (.inl ((1 : Int), ())))
          else
           bif (!(g121 ((rd (α := RT5) zRT5 x0 y1.1.1).2.2.2.2.1))) then
            some (.inr (.inl ((1 : Int), ())))
           else
            bif (decide (y1.1.1 > (0 : Int))) then
             bif (inR (IntKind.i64.wrap (y1.1.1 - (1 : Int))) ((List.length x0 : Nat) : Int)) then
              bif (decide ((g193 (rd (α := RT5) zRT5 x0 y1.1.1) (rd (α := RT5) zRT5 x0 (IntKind.i64.wrap (y1.1.1 - (1 : Int))))) ≤ (0 : Int))) then
               some (.inr (.inl ((7 : Int), ())))
              else
               some (.inl (((IntKind.i64.wrap (y1.1.1 + (1 : Int))), ()), ()))
             else
              none
            else
             some (.inl (((IntKind.i64.wrap (y1.1.1 + (1 : Int))), ()), ()))
     else
      none
    else
     some (.inr (.inr ((), ())))) (((0 : Int), ()), ())) fun r => match r with
  | .inl z => some z
  | .inr z2 =>
   some ((0 : Int), ())
def H107 : Hints where
 loop := fun n => match n with
  | 0 => some ({ slots := [(10, (.int .i64))], objs := [], gone := [] }, 0, { slots := [], objs := [], gone := [] })
  | _ => none
 region := fun n => match n with
  | _ => none
 cond := fun n => match n with
  | _ => none
 block := fun n => match n with
  | _ => none
abbrev A107 : Tys := (.cons (.slice RY2) .nil)
def ts107 : List (Nat × TD) := [(3, (.data (.int .i64))), (9, (.data .str)), (28, (.data (.int .i64))), (160, (.data (.slice RY2))), (165, (.data RY2))]
noncomputable def fs107 (g113 : ByteArray → (Bool)) (g114 : Int → Int → Int → (Bool)) (g121 : Int → (Bool)) (g193 : RT5 → RT5 → (Int)) : List (Nat × FSem) := [(113, .fn (.cons .str .nil) (.cons .bool .nil) fun x => ((g113 x.1), ())), (114, .fn (.cons (.int .i64) (.cons (.int .i64) (.cons (.int .i64) .nil))) (.cons .bool .nil) fun x => ((g114 x.1 x.2.1 x.2.2.1), ())), (121, .fn (.cons (.int .i64) .nil) (.cons .bool .nil) fun x => ((g121 x.1), ())), (193, .fn (.cons RY2 (.cons RY2 .nil)) (.cons (.int .i64) .nil) fun x => ((g193 x.1 x.2.1), ()))]
noncomputable def body107 : Code := match Try.f107.body with | some c => c | none => .skip
theorem ty107 : chkTypes Try.prog ts107 = true := by kernel_rfl
theorem ev107 (g113 : ByteArray → (Bool)) (g114 : Int → Int → Int → (Bool)) (g121 : Int → (Bool)) (g193 : RT5 → RT5 → (Int)) (k : Nat) (x : ((.cons (.slice RY2) .nil) : Tys).den) : evFun (mkEnv ts107 (fs107 g113 g114 g121 g193)) H107 k body107 62 [.tmp 2] (explodes (.cons (.slice RY2) .nil) x) [] (dec (.cons (.int .i64) .nil)) = f107 g113 g114 g121 g193 k x.1 := by kernel_rfl
/-! ### jitney/trust.faithFault -/
def f195 (g114 : Int → Int → Int → (Bool)) (k : Nat) (x0 : RT1) : Option (Int × Unit) :=
 bif (g114 x0.1 (0 : Int) (1000 : Int)) then
  some ((1 : Int), ())
 else
  bif (g114 x0.2.1 (1000 : Int) (5000 : Int)) then
   some ((1 : Int), ())
  else
   bif (g114 x0.2.2.1 (0 : Int) (345686400000 : Int)) then
    some ((1 : Int), ())
   else
    some ((0 : Int), ())
def H195 : Hints where
 loop := fun n => match n with
  | _ => none
 region := fun n => match n with
  | _ => none
 cond := fun n => match n with
  | _ => none
 block := fun n => match n with
  | _ => none
abbrev A195 : Tys := (.cons RY1 .nil)
def ts195 : List (Nat × TD) := [(3, (.data (.int .i64))), (28, (.data (.int .i64))), (159, (.data RY1))]
noncomputable def fs195 (g114 : Int → Int → Int → (Bool)) : List (Nat × FSem) := [(114, .fn (.cons (.int .i64) (.cons (.int .i64) (.cons (.int .i64) .nil))) (.cons .bool .nil) fun x => ((g114 x.1 x.2.1 x.2.2.1), ()))]
noncomputable def body195 : Code := match Try.f195.body with | some c => c | none => .skip
theorem ty195 : chkTypes Try.prog ts195 = true := by kernel_rfl
theorem ev195 (g114 : Int → Int → Int → (Bool)) (k : Nat) (x : ((.cons RY1 .nil) : Tys).den) : evFun (mkEnv ts195 (fs195 g114)) H195 k body195 16 [.tmp 2] (explodes (.cons RY1 .nil) x) [] (dec (.cons (.int .i64) .nil)) = f195 g114 k x.1 := by kernel_rfl
/-! ### jitney/trust.counting -/
def f257 (g256 : RT5 → RT5 → (Int)) (k : Nat) (x0 : List RT5) (x1 : Int) : Option ((List RT5) × Unit) :=
 Option.bind (α := ((List RT5) × Unit) ⊕ (((List RT5) × Unit) × (Unit))) (iter (σ := ((List RT5) × Int × Unit) × (Unit)) (τ := ((List RT5) × Unit) ⊕ (((List RT5) × Unit) × (Unit))) k (fun y1 =>
   bif (decide (y1.1.2.1 < ((List.length x0 : Nat) : Int))) then
    bif (inR y1.1.2.1 ((List.length x0 : Nat) : Int)) then
     bif (decide ((rd (α := RT5) zRT5 x0 y1.1.2.1).2.2.2.2.1 > x1)) then
      some (.inl ((y1.1.1, (IntKind.i64.wrap (y1.1.2.1 + (1 : Int))), ()), ()))
     else
      Option.bind (α := ((((List RT5) × Int × Unit) × (Unit)) ⊕ (((List RT5) × Unit) ⊕ (((List RT5) × Unit) × (Unit)))) ⊕ ((Bool × Unit) × (Unit))) (
        bif (decide ((IntKind.i64.wrap (((List.length y1.1.1 : Nat) : Int) - (1 : Int))) ≥ (0 : Int))) then
         bif (inR (IntKind.i64.wrap (((List.length y1.1.1 : Nat) : Int) - (1 : Int))) ((List.length y1.1.1 : Nat) : Int)) then
          bif (inR (IntKind.i64.wrap (((List.length y1.1.1 : Nat) : Int) - (1 : Int))) ((List.length y1.1.1 : Nat) : Int)) then
           some (.inr ((((g256 (rd (α := RT5) zRT5 y1.1.1 (IntKind.i64.wrap (((List.length y1.1.1 : Nat) : Int) - (1 : Int)))) (rd (α := RT5) zRT5 x0 y1.1.2.1)) == (0 : Int)), ()), ()))
          else
           none
         else
          none
        else
         some (.inr ((false, ()), ()))) fun r => match r with
      | .inl z => some z
      | .inr y2 =>
       bif y2.1.1 then
        bif (inR (IntKind.i64.wrap (((List.length y1.1.1 : Nat) : Int) - (1 : Int))) ((List.length y1.1.1 : Nat) : Int)) then
         bif (inR (IntKind.i64.wrap (((List.length y1.1.1 : Nat) : Int) - (1 : Int))) ((List.length y1.1.1 : Nat) : Int)) then
          some (.inl (((List.set y1.1.1 (Int.toNat (IntKind.i64.wrap (((List.length y1.1.1 : Nat) : Int) - (1 : Int)))) (rd (α := RT5) zRT5 x0 y1.1.2.1)), (IntKind.i64.wrap (y1.1.2.1 + (1 : Int))), ()), ()))
         else
          none
        else
         none
       else
        bif decide (List.length y1.1.1 + List.length ([(rd (α := RT5) zRT5 x0 y1.1.2.1)]) ≤ 4294967296) then
         some (.inl (((y1.1.1 ++ [(rd (α := RT5) zRT5 x0 y1.1.2.1)]), (IntKind.i64.wrap (y1.1.2.1 + (1 : Int))), ()), ()))
        else
         none
    else
     none
   else
    some (.inr (.inr ((y1.1.1, ()), ())))) (([], (0 : Int), ()), ())) fun r => match r with
 | .inl z => some z
 | .inr z3 =>
  some (z3.1.1, ())
def H257 : Hints where
 loop := fun n => match n with
  | 0 => some ({ slots := [(5, (.row RY2)), (11, (.int .i64))], objs := [], gone := [] }, 0, { slots := [(5, (.row RY2))], objs := [], gone := [] })
  | _ => none
 region := fun n => match n with
  | 8 => some { slots := [(27, .bool)], objs := [], gone := [] }
  | _ => none
 cond := fun n => match n with
  | _ => none
 block := fun n => match n with
  | _ => none
abbrev A257 : Tys := (.cons (.slice RY2) (.cons (.int .i64) .nil))
def ts257 : List (Nat × TD) := [(3, (.data (.int .i64))), (160, (.data (.slice RY2))), (165, (.data RY2))]
noncomputable def fs257 (g256 : RT5 → RT5 → (Int)) : List (Nat × FSem) := [(256, .fn (.cons RY2 (.cons RY2 .nil)) (.cons (.int .i64) .nil) fun x => ((g256 x.1 x.2.1), ()))]
noncomputable def body257 : Code := match Try.f257.body with | some c => c | none => .skip
theorem ty257 : chkTypes Try.prog ts257 = true := by kernel_rfl
theorem ev257 (g256 : RT5 → RT5 → (Int)) (k : Nat) (x : ((.cons (.slice RY2) (.cons (.int .i64) .nil)) : Tys).den) : evFun (mkEnv ts257 (fs257 g256)) H257 k body257 45 [.tmp 4] (explodes (.cons (.slice RY2) (.cons (.int .i64) .nil)) x) [] (dec (.cons (.slice RY2) .nil)) = f257 g256 k x.1 x.2.1 := by kernel_rfl
/-! ### jitney/base.Gcd -/
def f305  (k : Nat) (x0 : Int) (x1 : Int) : Option (Int × Unit) :=
 Option.bind (α := (Int × Unit) ⊕ ((Int × Unit) × (Unit))) (iter (σ := RT0 × (Unit)) (τ := (Int × Unit) ⊕ ((Int × Unit) × (Unit))) k (fun y1 =>
   bif (y1.1.2.1 != (0 : Int)) then
    bif decide (y1.1.2.1 = 0) then
     none
    else
     some (.inl ((y1.1.2.1, (Int.tmod y1.1.1 y1.1.2.1), ()), ()))
   else
    some (.inr (.inr ((y1.1.1, ()), ())))) ((x0, x1, ()), ())) fun r => match r with
 | .inl z => some z
 | .inr z2 =>
  some (z2.1.1, ())
def H305 : Hints where
 loop := fun n => match n with
  | 0 => some ({ slots := [(0, (.int .i64)), (1, (.int .i64))], objs := [], gone := [] }, 0, { slots := [(0, (.int .i64))], objs := [], gone := [] })
  | _ => none
 region := fun n => match n with
  | _ => none
 cond := fun n => match n with
  | _ => none
 block := fun n => match n with
  | _ => none
abbrev A305 : Tys := (.cons (.int .i64) (.cons (.int .i64) .nil))
def ts305 : List (Nat × TD) := [(3, (.data (.int .i64)))]
noncomputable def fs305  : List (Nat × FSem) := []
noncomputable def body305 : Code := match Try.f305.body with | some c => c | none => .skip
theorem ty305 : chkTypes Try.prog ts305 = true := by kernel_rfl
theorem ev305  (k : Nat) (x : ((.cons (.int .i64) (.cons (.int .i64) .nil)) : Tys).den) : evFun (mkEnv ts305 (fs305 )) H305 k body305 12 [.tmp 4] (explodes (.cons (.int .i64) (.cons (.int .i64) .nil)) x) [] (dec (.cons (.int .i64) .nil)) = f305  k x.1 x.2.1 := by kernel_rfl
/-! ### jitney/base.Fraction -/
def f258 (g305 : Int → Int → Option (Int × Unit)) (k : Nat) (x0 : Int) (x1 : Int) : Option RT2 :=
 Option.bind (g305 (if (decide ((IntKind.i64.wrap (-x0)) > x0)) then (IntKind.i64.wrap (-x0)) else x0) x1) fun v1 =>
 bif decide (v1.1 = 0) then
  none
 else
  bif decide (v1.1 = 0) then
   none
  else
   some (((IntKind.i64.wrap (Int.tdiv x0 v1.1)), (IntKind.i64.wrap (Int.tdiv x1 v1.1)), ()), ())
def H258 : Hints where
 loop := fun n => match n with
  | _ => none
 region := fun n => match n with
  | _ => none
 cond := fun n => match n with
  | _ => none
 block := fun n => match n with
  | _ => none
abbrev A258 : Tys := (.cons (.int .i64) (.cons (.int .i64) .nil))
def ts258 : List (Nat × TD) := [(3, (.data (.int .i64))), (167, (.data RY0))]
noncomputable def fs258 (g305 : Int → Int → Option (Int × Unit)) : List (Nat × FSem) := [(305, .pfn (.cons (.int .i64) (.cons (.int .i64) .nil)) (.cons (.int .i64) .nil) fun x => (g305 x.1 x.2.1))]
noncomputable def body258 : Code := match Try.f258.body with | some c => c | none => .skip
theorem ty258 : chkTypes Try.prog ts258 = true := by kernel_rfl
theorem ev258 (g305 : Int → Int → Option (Int × Unit)) (k : Nat) (x : ((.cons (.int .i64) (.cons (.int .i64) .nil)) : Tys).den) : evFun (mkEnv ts258 (fs258 g305)) H258 k body258 19 [.cell 4 167] (explodes (.cons (.int .i64) (.cons (.int .i64) .nil)) x) [] (dec (.cons RY0 .nil)) = f258 g305 k x.1 x.2.1 := by kernel_rfl
/-! ### jitney/trust.Score -/
def f104 (g107 : (List RT5) → (Int)) (g113 : ByteArray → (Bool)) (g121 : Int → (Bool)) (g123 : (List Int) → (Int)) (g195 : RT1 → (Int)) (g257 : (List RT5) → Int → Option ((List RT5) × Unit)) (g258 : Int → Int → Option RT2) (k : Nat) (x0 : RT1) (x1 : List RT5) (x2 : ByteArray) (x3 : Int) : Option RT3 :=
 bif ((g123 ([(g107 x1), (g195 x0)])) != (0 : Int)) then
  some (zRT0, (g123 ([(g107 x1), (g195 x0)])), ())
 else
  bif (!(g113 x2)) then
   some (zRT0, (5 : Int), ())
  else
   bif (!(g121 x3)) then
    some (zRT0, (1 : Int), ())
   else
    Option.bind (α := RT3 ⊕ (RT4 × (Unit))) (
      Option.bind (g257 x1 x3) fun v1 =>
      Option.bind (α := (RT3 ⊕ (RT4 × (Unit))) ⊕ ((Unit) × ((MapC .str (.int .i64)) × (MapC .str (.int .i64)) × Unit))) (iter (σ := (Int × Unit) × ((MapC .str (.int .i64)) × (MapC .str (.int .i64)) × Unit)) (τ := (RT3 ⊕ (RT4 × (Unit))) ⊕ ((Unit) × ((MapC .str (.int .i64)) × (MapC .str (.int .i64)) × Unit))) k (fun y2 =>
        bif (decide (y2.1.1 < ((List.length v1.1 : Nat) : Int))) then
         bif (inR y2.1.1 ((List.length v1.1 : Nat) : Int)) then
          Option.bind (α := (((Int × Unit) × ((MapC .str (.int .i64)) × (MapC .str (.int .i64)) × Unit)) ⊕ ((RT3 ⊕ (RT4 × (Unit))) ⊕ ((Unit) × ((MapC .str (.int .i64)) × (MapC .str (.int .i64)) × Unit)))) ⊕ ((Int × Unit) × (Unit))) (
            bif (decide (x0.2.2.1 > (0 : Int))) then
             bif decide (x0.2.2.1 = 0) then
              none
             else
              bif decide (0 ≤ (if (decide ((IntKind.i64.wrap (Int.tdiv (IntKind.i64.wrap (x3 - (rd (α := RT5) zRT5 v1.1 y2.1.1).2.2.2.2.1)) x0.2.2.1)) < (10 : Int))) then (IntKind.i64.wrap (Int.tdiv (IntKind.i64.wrap (x3 - (rd (α := RT5) zRT5 v1.1 y2.1.1).2.2.2.2.1)) x0.2.2.1)) else (10 : Int))) then
               some (.inr (((Int.fdiv (1024 : Int) ((2 : Int) ^ (min (Int.toNat (if (decide ((IntKind.i64.wrap (Int.tdiv (IntKind.i64.wrap (x3 - (rd (α := RT5) zRT5 v1.1 y2.1.1).2.2.2.2.1)) x0.2.2.1)) < (10 : Int))) then (IntKind.i64.wrap (Int.tdiv (IntKind.i64.wrap (x3 - (rd (α := RT5) zRT5 v1.1 y2.1.1).2.2.2.2.1)) x0.2.2.1)) else (10 : Int))) 64))), ()), ()))
              else
               none
            else
             some (.inr (((1024 : Int), ()), ()))) fun r => match r with
          | .inl z => some z
          | .inr y3 =>
           some (.inl (((IntKind.i64.wrap (y2.1.1 + (1 : Int))), ()), ((mput (keq .str) ((rd (α := RT5) zRT5 v1.1 y2.1.1).2.1) (IntKind.i64.wrap ((mget (keq .str) (0 : Int) ((rd (α := RT5) zRT5 v1.1 y2.1.1).2.1) y2.2.1.1) + (IntKind.i64.wrap ((IntKind.i64.wrap ((1000 : Int) * y3.1.1)) * (rd (α := RT5) zRT5 v1.1 y2.1.1).2.2.2.1)))) y2.2.1), (mput (keq .str) ((rd (α := RT5) zRT5 v1.1 y2.1.1).2.1) (IntKind.i64.wrap ((mget (keq .str) (0 : Int) ((rd (α := RT5) zRT5 v1.1 y2.1.1).2.1) y2.2.2.1.1) + (IntKind.i64.wrap ((1000 : Int) * y3.1.1)))) y2.2.2.1), ())))
         else
          none
        else
         some (.inr (.inr ((), (y2.2.1, y2.2.2.1, ()))))) (((0 : Int), ()), ((([], 0) : MapC .str (.int .i64)), (([], 0) : MapC .str (.int .i64)), ()))) fun r => match r with
      | .inl z => some z
      | .inr z4 =>
       bif ((IntKind.i64.wrap ((mget (keq .str) (0 : Int) x2 z4.2.2.1.1) + (IntKind.i64.wrap ((1024000 : Int) * x0.1)))) == (0 : Int)) then
        some (.inr (zRT4, ()))
       else
        Option.bind (g258 (IntKind.i64.wrap ((mget (keq .str) (0 : Int) x2 z4.2.1.1) + (IntKind.i64.wrap ((IntKind.i64.wrap ((1024 : Int) * x0.1)) * x0.2.1)))) (IntKind.i64.wrap ((mget (keq .str) (0 : Int) x2 z4.2.2.1.1) + (IntKind.i64.wrap ((1024000 : Int) * x0.1))))) fun v5 =>
        some (.inr ((v5.1, true, ()), ()))) fun r => match r with
    | .inl z => some z
    | .inr y6 =>
     bif (!y6.1.2.1) then
      some (zRT0, (8 : Int), ())
     else
      some ((y6.1.1.1, y6.1.1.2.1, ()), (0 : Int), ())
def H104 : Hints where
 loop := fun n => match n with
  | _ => none
 region := fun n => match n with
  | 8 => some { slots := [(11, (.box (.data RY0) (.agg (.cons (.int .i64) (.cons (.int .i64) .nil))))), (12, .bool)], objs := [], gone := [] }
  | _ => none
 cond := fun n => match n with
  | _ => none
 block := fun n => match n with
  | _ => none
def Hi104_196 : Hints where
 loop := fun n => match n with
  | 0 => some ({ slots := [(19, (.int .i64))], objs := [(1, (.map .str (.int .i64))), (2, (.map .str (.int .i64)))], gone := [] }, 0, { slots := [], objs := [(1, (.map .str (.int .i64))), (2, (.map .str (.int .i64)))], gone := [] })
  | _ => none
 region := fun n => match n with
  | _ => none
 cond := fun n => match n with
  | 25 => some { slots := [(10, (.int .i64))], objs := [], gone := [] }
  | _ => none
 block := fun n => match n with
  | _ => none
def tsi104_196 : List (Nat × TD) := [(3, (.data (.int .i64))), (9, (.data .str)), (159, (.data RY1)), (160, (.data (.slice RY2))), (165, (.data RY2)), (315, (.map .str (.int .i64))), (317, (.agg (.cons (.map .str (.int .i64)) (.cons (.map .str (.int .i64)) .nil))))]
noncomputable def bodyi104_196 : Code := match Try.f196.body with | some c => c | none => .skip
noncomputable def fsi104_196 (g107 : (List RT5) → (Int)) (g113 : ByteArray → (Bool)) (g121 : Int → (Bool)) (g123 : (List Int) → (Int)) (g195 : RT1 → (Int)) (g257 : (List RT5) → Int → Option ((List RT5) × Unit)) (g258 : Int → Int → Option RT2) (k : Nat) : List (Nat × FSem) := [(257, .pfn (.cons (.slice RY2) (.cons (.int .i64) .nil)) (.cons (.slice RY2) .nil) fun x => (g257 x.1 x.2.1))]
theorem tyi104_196 : chkTypes Try.prog tsi104_196 = true := by kernel_rfl
def Hi104_197 : Hints where
 loop := fun n => match n with
  | _ => none
 region := fun n => match n with
  | _ => none
 cond := fun n => match n with
  | _ => none
 block := fun n => match n with
  | _ => none
def tsi104_197 : List (Nat × TD) := [(3, (.data (.int .i64))), (159, (.data RY1)), (167, (.data RY0)), (315, (.map .str (.int .i64))), (317, (.agg (.cons (.map .str (.int .i64)) (.cons (.map .str (.int .i64)) .nil))))]
noncomputable def bodyi104_197 : Code := match Try.f197.body with | some c => c | none => .skip
noncomputable def fsi104_197 (g107 : (List RT5) → (Int)) (g113 : ByteArray → (Bool)) (g121 : Int → (Bool)) (g123 : (List Int) → (Int)) (g195 : RT1 → (Int)) (g257 : (List RT5) → Int → Option ((List RT5) × Unit)) (g258 : Int → Int → Option RT2) (k : Nat) : List (Nat × FSem) := [(258, .pfn (.cons (.int .i64) (.cons (.int .i64) .nil)) (.cons RY0 .nil) fun x => (g258 x.1 x.2.1))]
theorem tyi104_197 : chkTypes Try.prog tsi104_197 = true := by kernel_rfl
abbrev A104 : Tys := (.cons RY1 (.cons (.slice RY2) (.cons .str (.cons (.int .i64) .nil))))
def ts104 : List (Nat × TD) := [(3, (.data (.int .i64))), (9, (.data .str)), (28, (.data (.int .i64))), (159, (.data RY1)), (160, (.data (.slice RY2))), (167, (.data RY0)), (184, (.data (.slice (.int .i64))))]
noncomputable def fs104 (g107 : (List RT5) → (Int)) (g113 : ByteArray → (Bool)) (g121 : Int → (Bool)) (g123 : (List Int) → (Int)) (g195 : RT1 → (Int)) (g257 : (List RT5) → Int → Option ((List RT5) × Unit)) (g258 : Int → Int → Option RT2) (k : Nat) : List (Nat × FSem) := [(107, .fn (.cons (.slice RY2) .nil) (.cons (.int .i64) .nil) fun x => ((g107 x.1), ())), (113, .fn (.cons .str .nil) (.cons .bool .nil) fun x => ((g113 x.1), ())), (121, .fn (.cons (.int .i64) .nil) (.cons .bool .nil) fun x => ((g121 x.1), ())), (123, .fn (.cons (.slice (.int .i64)) .nil) (.cons (.int .i64) .nil) fun x => ((g123 x.1), ())), (195, .fn (.cons RY1 .nil) (.cons (.int .i64) .nil) fun x => ((g195 x.1), ())), (196, .ev (mkEnv tsi104_196 (fsi104_196 g107 g113 g121 g123 g195 g257 g258 k)) Hi104_196 k bodyi104_196 61 [.tmp 6]), (197, .evr (mkEnv tsi104_197 (fsi104_197 g107 g113 g121 g123 g195 g257 g258 k)) Hi104_197 k bodyi104_197 37 [.cell 6 167, .tmp 7])]
noncomputable def body104 : Code := match Try.f104.body with | some c => c | none => .skip
theorem ty104 : chkTypes Try.prog ts104 = true := by kernel_rfl
theorem ev104 (g107 : (List RT5) → (Int)) (g113 : ByteArray → (Bool)) (g121 : Int → (Bool)) (g123 : (List Int) → (Int)) (g195 : RT1 → (Int)) (g257 : (List RT5) → Int → Option ((List RT5) × Unit)) (g258 : Int → Int → Option RT2) (k : Nat) (x : ((.cons RY1 (.cons (.slice RY2) (.cons .str (.cons (.int .i64) .nil)))) : Tys).den) : evFun (mkEnv ts104 (fs104 g107 g113 g121 g123 g195 g257 g258 k)) H104 k body104 47 [.cell 8 167, .tmp 9] (explodes (.cons RY1 (.cons (.slice RY2) (.cons .str (.cons (.int .i64) .nil)))) x) [] (dec (.cons RY0 (.cons (.int .i64) .nil))) = f104 g107 g113 g121 g123 g195 g257 g258 k x.1 x.2.1 x.2.2.1 x.2.2.2.1 := by kernel_rfl
/-! ### jitney/jitlaw2.trusted -/
def f36 (g104 : RT1 → (List RT5) → ByteArray → Int → Option RT3) (k : Nat)  : Option (Bool × Unit) :=
 Option.bind (g104 ((2 : Int), (3000 : Int), (0 : Int), ()) ([((ByteArray.mk #[97]), (ByteArray.mk #[98]), (ByteArray.mk #[114]), (5 : Int), (0 : Int), ())]) (ByteArray.mk #[98]) (0 : Int)) fun v1 =>
 bif (v1.2.1 == (0 : Int)) then
  bif (v1.1.1 == (11 : Int)) then
   some ((v1.1.2.1 == (3 : Int)), ())
  else
   some (false, ())
 else
  some (false, ())
def H36 : Hints where
 loop := fun n => match n with
  | _ => none
 region := fun n => match n with
  | _ => none
 cond := fun n => match n with
  | _ => none
 block := fun n => match n with
  | _ => none
abbrev A36 : Tys := .nil
def ts36 : List (Nat × TD) := [(3, (.data (.int .i64))), (4, (.data .bool)), (28, (.data (.int .i64))), (159, (.data RY1)), (160, (.data (.slice RY2))), (165, (.data RY2)), (167, (.data RY0))]
noncomputable def fs36 (g104 : RT1 → (List RT5) → ByteArray → Int → Option RT3) : List (Nat × FSem) := [(104, .pfn (.cons RY1 (.cons (.slice RY2) (.cons .str (.cons (.int .i64) .nil)))) (.cons RY0 (.cons (.int .i64) .nil)) fun x => (g104 x.1 x.2.1 x.2.2.1 x.2.2.2.1))]
noncomputable def body36 : Code := match Try.f36.body with | some c => c | none => .skip
theorem ty36 : chkTypes Try.prog ts36 = true := by kernel_rfl
theorem ev36 (g104 : RT1 → (List RT5) → ByteArray → Int → Option RT3) (k : Nat) (x : (.nil : Tys).den) : evFun (mkEnv ts36 (fs36 g104)) H36 k body36 22 [.tmp 0] (explodes .nil x) [] (dec (.cons .bool .nil)) = f36 g104 k  := by kernel_rfl
/-! ### slices.Equal[[]string,string] -/
def f101  (k : Nat) (x0 : List ByteArray) (x1 : List ByteArray) : Option (Bool × Unit) :=
 bif (((List.length x0 : Nat) : Int) != ((List.length x1 : Nat) : Int)) then
  some (false, ())
 else
  Option.bind (α := (Bool × Unit) ⊕ ((Unit) × (Unit))) (iter (σ := (Int × Unit) × (Unit)) (τ := (Bool × Unit) ⊕ ((Unit) × (Unit))) k (fun y1 =>
    bif (decide (y1.1.1 < ((List.length x0 : Nat) : Int))) then
     bif (inR y1.1.1 ((List.length x0 : Nat) : Int)) then
      bif (inR y1.1.1 ((List.length x1 : Nat) : Int)) then
       bif (!(sEq (rd (α := ByteArray) ByteArray.empty x0 y1.1.1) (rd (α := ByteArray) ByteArray.empty x1 y1.1.1))) then
        some (.inr (.inl (false, ())))
       else
        some (.inl (((IntKind.i64.wrap (y1.1.1 + (1 : Int))), ()), ()))
      else
       none
     else
      none
    else
     some (.inr (.inr ((), ())))) (((0 : Int), ()), ())) fun r => match r with
  | .inl z => some z
  | .inr z2 =>
   some (true, ())
def H101 : Hints where
 loop := fun n => match n with
  | 0 => some ({ slots := [(13, (.int .i64))], objs := [], gone := [] }, 0, { slots := [], objs := [], gone := [] })
  | _ => none
 region := fun n => match n with
  | _ => none
 cond := fun n => match n with
  | _ => none
 block := fun n => match n with
  | _ => none
abbrev A101 : Tys := (.cons (.slice .str) (.cons (.slice .str) .nil))
def ts101 : List (Nat × TD) := [(3, (.data (.int .i64))), (4, (.data .bool)), (9, (.data .str)), (41, (.data (.slice .str)))]
noncomputable def fs101  : List (Nat × FSem) := []
noncomputable def body101 : Code := match Try.f101.body with | some c => c | none => .skip
theorem ty101 : chkTypes Try.prog ts101 = true := by kernel_rfl
theorem ev101  (k : Nat) (x : ((.cons (.slice .str) (.cons (.slice .str) .nil)) : Tys).den) : evFun (mkEnv ts101 (fs101 )) H101 k body101 26 [.tmp 4] (explodes (.cons (.slice .str) (.cons (.slice .str) .nil)) x) [] (dec (.cons .bool .nil)) = f101  k x.1 x.2.1 := by kernel_rfl
/-! ### slices.Concat[[]jitney/api.Rating,jitney/api.Rating] -/
def f191  (k : Nat) (x0 : List (List RT5)) : Option (List RT5) :=
 Option.bind (α := (List RT5) ⊕ ((Int × Unit) × (Unit))) (iter (σ := RT0 × (Unit)) (τ := (List RT5) ⊕ ((Int × Unit) × (Unit))) k (fun y1 =>
   bif (decide (y1.1.2.1 < ((List.length x0 : Nat) : Int))) then
    bif (inR y1.1.2.1 ((List.length x0 : Nat) : Int)) then
     bif (decide ((IntKind.i64.wrap (y1.1.1 + ((List.length (rd (α := List RT5) ([] : List RT5) x0 y1.1.2.1) : Nat) : Int))) < (0 : Int))) then
      none
     else
      some (.inl (((IntKind.i64.wrap (y1.1.1 + ((List.length (rd (α := List RT5) ([] : List RT5) x0 y1.1.2.1) : Nat) : Int))), (IntKind.i64.wrap (y1.1.2.1 + (1 : Int))), ()), ()))
    else
     none
   else
    some (.inr (.inr ((y1.1.1, ()), ())))) zRT2) fun r => match r with
 | .inl z => some z
 | .inr z2 =>
  Option.bind (α := (List RT5) ⊕ (((List RT5) × Unit) × (Unit))) (
    bif (decide (z2.1.1 < (0 : Int))) then
     none
    else
     bif (decide ((IntKind.i64.wrap (z2.1.1 - (0 : Int))) > (0 : Int))) then
      bif (decide (0 ≤ (IntKind.i64.wrap (z2.1.1 - (0 : Int)))) && decide ((IntKind.i64.wrap (z2.1.1 - (0 : Int))) ≤ 4294967296)) then
       bif (decide (0 ≤ (0 : Int)) && (decide ((0 : Int) ≤ (0 : Int)) && decide ((0 : Int) ≤ ((List.length (List.replicate (α := RT5) (Int.toNat (IntKind.i64.wrap (z2.1.1 - (0 : Int)))) zRT5) : Nat) : Int)))) then
        some (.inr (((List.drop (Int.toNat (0 : Int)) (List.take (Int.toNat (0 : Int)) (List.replicate (α := RT5) (Int.toNat (IntKind.i64.wrap (z2.1.1 - (0 : Int)))) zRT5))), ()), ()))
       else
        none
      else
       none
     else
      some (.inr (([], ()), ()))) fun r => match r with
  | .inl z => some z
  | .inr y3 =>
   Option.bind (α := (List RT5) ⊕ (((List RT5) × Unit) × (Unit))) (iter (σ := ((List RT5) × Int × Unit) × (Unit)) (τ := (List RT5) ⊕ (((List RT5) × Unit) × (Unit))) k (fun y4 =>
     bif (decide (y4.1.2.1 < ((List.length x0 : Nat) : Int))) then
      bif (inR y4.1.2.1 ((List.length x0 : Nat) : Int)) then
       bif decide (List.length y4.1.1 + List.length (rd (α := List RT5) ([] : List RT5) x0 y4.1.2.1) ≤ 4294967296) then
        some (.inl (((y4.1.1 ++ (rd (α := List RT5) ([] : List RT5) x0 y4.1.2.1)), (IntKind.i64.wrap (y4.1.2.1 + (1 : Int))), ()), ()))
       else
        none
      else
       none
     else
      some (.inr (.inr ((y4.1.1, ()), ())))) ((y3.1.1, (0 : Int), ()), ())) fun r => match r with
   | .inl z => some z
   | .inr z5 =>
    some z5.1.1
def H191 : Hints where
 loop := fun n => match n with
  | 0 => some ({ slots := [(3, (.int .i64)), (11, (.int .i64))], objs := [], gone := [] }, 0, { slots := [(3, (.int .i64))], objs := [], gone := [] })
  | 2 => some ({ slots := [(6, (.row RY2)), (27, (.int .i64))], objs := [], gone := [0] }, 2, { slots := [(6, (.row RY2))], objs := [], gone := [0] })
  | _ => none
 region := fun n => match n with
  | 9 => some { slots := [(6, (.row RY2))], objs := [], gone := [] }
  | _ => none
 cond := fun n => match n with
  | _ => none
 block := fun n => match n with
  | _ => none
def Hi191_254 : Hints where
 loop := fun n => match n with
  | _ => none
 region := fun n => match n with
  | _ => none
 cond := fun n => match n with
  | _ => none
 block := fun n => match n with
  | _ => none
def tsi191_254 : List (Nat × TD) := [(3, (.data (.int .i64))), (160, (.data (.slice RY2)))]
noncomputable def bodyi191_254 : Code := match Try.f254.body with | some c => c | none => .skip
noncomputable def fsi191_254  (k : Nat) : List (Nat × FSem) := []
theorem tyi191_254 : chkTypes Try.prog tsi191_254 = true := by kernel_rfl
abbrev A191 : Tys := (.cons (.slice (.slice RY2)) .nil)
def ts191 : List (Nat × TD) := [(3, (.data (.int .i64))), (160, (.data (.slice RY2))), (312, (.data (.slice (.slice RY2))))]
noncomputable def fs191  (k : Nat) : List (Nat × FSem) := [(254, .ev (mkEnv tsi191_254 (fsi191_254  k)) Hi191_254 k bodyi191_254 27 [.tmp 4])]
noncomputable def body191 : Code := match Try.f191.body with | some c => c | none => .skip
theorem ty191 : chkTypes Try.prog ts191 = true := by kernel_rfl
theorem ev191  (k : Nat) (x : ((.cons (.slice (.slice RY2)) .nil) : Tys).den) : evFun (mkEnv ts191 (fs191  k)) H191 k body191 36 [.tmp 2] (explodes (.cons (.slice (.slice RY2)) .nil) x) [] (rowRes RY2) = f191  k x.1 := by kernel_rfl
/-! ### slices.Compact[[]jitney/api.Rating,jitney/api.Rating] -/
def f194  (k : Nat) (x0 : List RT5) : Option (List RT5) :=
 bif (decide (((List.length x0 : Nat) : Int) < (2 : Int))) then
  some x0
 else
  Option.bind (α := (List RT5) ⊕ ((Unit) × (Unit))) (iter (σ := (Int × Unit) × (Unit)) (τ := (List RT5) ⊕ ((Unit) × (Unit))) k (fun y1 =>
    bif (decide (y1.1.1 < ((List.length x0 : Nat) : Int))) then
     bif (inR y1.1.1 ((List.length x0 : Nat) : Int)) then
      bif (inR y1.1.1 ((List.length x0 : Nat) : Int)) then
       bif (inR (IntKind.i64.wrap (y1.1.1 - (1 : Int))) ((List.length x0 : Nat) : Int)) then
        bif (inR (IntKind.i64.wrap (y1.1.1 - (1 : Int))) ((List.length x0 : Nat) : Int)) then
         bif ((sEq ((rd (α := RT5) zRT5 x0 y1.1.1).1) ((rd (α := RT5) zRT5 x0 (IntKind.i64.wrap (y1.1.1 - (1 : Int)))).1)) && ((sEq ((rd (α := RT5) zRT5 x0 y1.1.1).2.1) ((rd (α := RT5) zRT5 x0 (IntKind.i64.wrap (y1.1.1 - (1 : Int)))).2.1)) && ((sEq ((rd (α := RT5) zRT5 x0 y1.1.1).2.2.1) ((rd (α := RT5) zRT5 x0 (IntKind.i64.wrap (y1.1.1 - (1 : Int)))).2.2.1)) && (((rd (α := RT5) zRT5 x0 y1.1.1).2.2.2.1 == (rd (α := RT5) zRT5 x0 (IntKind.i64.wrap (y1.1.1 - (1 : Int)))).2.2.2.1) && (((rd (α := RT5) zRT5 x0 y1.1.1).2.2.2.2.1 == (rd (α := RT5) zRT5 x0 (IntKind.i64.wrap (y1.1.1 - (1 : Int)))).2.2.2.2.1) && true))))) then
          bif (decide (0 ≤ y1.1.1) && (decide (y1.1.1 ≤ ((List.length x0 : Nat) : Int)) && decide (((List.length x0 : Nat) : Int) ≤ ((List.length x0 : Nat) : Int)))) then
           Option.bind (α := (((Int × Unit) × (Unit)) ⊕ ((List RT5) ⊕ ((Unit) × (Unit)))) ⊕ ((Int × Unit) × ((List RT5) × Unit))) (iter (σ := RT0 × ((List RT5) × Unit)) (τ := (((Int × Unit) × (Unit)) ⊕ ((List RT5) ⊕ ((Unit) × (Unit)))) ⊕ ((Int × Unit) × ((List RT5) × Unit))) k (fun y2 =>
             bif (decide (y2.1.2.1 < (((List.length x0 : Nat) : Int) - y1.1.1))) then
              bif (inR y2.1.2.1 (((List.length x0 : Nat) : Int) - y1.1.1)) then
               bif (inR (y1.1.1 + y2.1.2.1) ((List.length y2.2.1 : Nat) : Int)) then
                bif (inR (IntKind.i64.wrap (y2.1.2.1 - (1 : Int))) (((List.length x0 : Nat) : Int) - y1.1.1)) then
                 bif (inR (y1.1.1 + (IntKind.i64.wrap (y2.1.2.1 - (1 : Int)))) ((List.length y2.2.1 : Nat) : Int)) then
                  bif (!((sEq ((rd (α := RT5) zRT5 y2.2.1 (y1.1.1 + y2.1.2.1)).1) ((rd (α := RT5) zRT5 y2.2.1 (y1.1.1 + (IntKind.i64.wrap (y2.1.2.1 - (1 : Int))))).1)) && ((sEq ((rd (α := RT5) zRT5 y2.2.1 (y1.1.1 + y2.1.2.1)).2.1) ((rd (α := RT5) zRT5 y2.2.1 (y1.1.1 + (IntKind.i64.wrap (y2.1.2.1 - (1 : Int))))).2.1)) && ((sEq ((rd (α := RT5) zRT5 y2.2.1 (y1.1.1 + y2.1.2.1)).2.2.1) ((rd (α := RT5) zRT5 y2.2.1 (y1.1.1 + (IntKind.i64.wrap (y2.1.2.1 - (1 : Int))))).2.2.1)) && (((rd (α := RT5) zRT5 y2.2.1 (y1.1.1 + y2.1.2.1)).2.2.2.1 == (rd (α := RT5) zRT5 y2.2.1 (y1.1.1 + (IntKind.i64.wrap (y2.1.2.1 - (1 : Int))))).2.2.2.1) && (((rd (α := RT5) zRT5 y2.2.1 (y1.1.1 + y2.1.2.1)).2.2.2.2.1 == (rd (α := RT5) zRT5 y2.2.1 (y1.1.1 + (IntKind.i64.wrap (y2.1.2.1 - (1 : Int))))).2.2.2.2.1) && true)))))) then
                   bif (inR y2.1.2.1 (((List.length x0 : Nat) : Int) - y1.1.1)) then
                    bif (inR (y1.1.1 + y2.1.2.1) ((List.length y2.2.1 : Nat) : Int)) then
                     bif (inR y2.1.1 ((List.length y2.2.1 : Nat) : Int)) then
                      bif (inR y2.1.1 ((List.length y2.2.1 : Nat) : Int)) then
                       some (.inl (((IntKind.i64.wrap (y2.1.1 + (1 : Int))), (IntKind.i64.wrap (y2.1.2.1 + (1 : Int))), ()), ((List.set y2.2.1 (Int.toNat y2.1.1) (rd (α := RT5) zRT5 y2.2.1 (y1.1.1 + y2.1.2.1))), ())))
                      else
                       none
                     else
                      none
                    else
                     none
                   else
                    none
                  else
                   some (.inl ((y2.1.1, (IntKind.i64.wrap (y2.1.2.1 + (1 : Int))), ()), (y2.2.1, ())))
                 else
                  none
                else
                 none
               else
                none
              else
               none
             else
              some (.inr (.inr ((y2.1.1, ()), (y2.2.1, ()))))) ((y1.1.1, (1 : Int), ()), (x0, ()))) fun r => match r with
           | .inl z => some z
           | .inr z3 =>
            bif (decide (0 ≤ z3.1.1) && (decide (z3.1.1 ≤ ((List.length z3.2.1 : Nat) : Int)) && decide (((List.length z3.2.1 : Nat) : Int) ≤ ((List.length z3.2.1 : Nat) : Int)))) then
             bif (decide (0 ≤ (0 : Int)) && (decide ((0 : Int) ≤ z3.1.1) && decide (z3.1.1 ≤ ((List.length (List.take (Int.toNat z3.1.1) z3.2.1 ++ (List.replicate (Int.toNat (((List.length z3.2.1 : Nat) : Int) - z3.1.1)) zRT5 ++ List.drop (Int.toNat ((List.length z3.2.1 : Nat) : Int)) z3.2.1)) : Nat) : Int)))) then
              some (.inr (.inl (List.drop (Int.toNat (0 : Int)) (List.take (Int.toNat z3.1.1) (List.take (Int.toNat z3.1.1) z3.2.1 ++ (List.replicate (Int.toNat (((List.length z3.2.1 : Nat) : Int) - z3.1.1)) zRT5 ++ List.drop (Int.toNat ((List.length z3.2.1 : Nat) : Int)) z3.2.1))))))
             else
              none
            else
             none
          else
           none
         else
          some (.inl (((IntKind.i64.wrap (y1.1.1 + (1 : Int))), ()), ()))
        else
         none
       else
        none
      else
       none
     else
      none
    else
     some (.inr (.inr ((), ())))) (((1 : Int), ()), ())) fun r => match r with
  | .inl z => some z
  | .inr z4 =>
   some x0
def H194 : Hints where
 loop := fun n => match n with
  | 0 => some ({ slots := [(3, (.int .i64))], objs := [], gone := [] }, 0, { slots := [], objs := [], gone := [] })
  | 2 => some ({ slots := [(3, (.int .i64)), (5, (.int .i64))], objs := [(0, (.row RY2))], gone := [] }, 2, { slots := [(3, (.int .i64))], objs := [(0, (.row RY2))], gone := [] })
  | _ => none
 region := fun n => match n with
  | _ => none
 cond := fun n => match n with
  | _ => none
 block := fun n => match n with
  | _ => none
def ts194 : List (Nat × TD) := [(3, (.data (.int .i64))), (160, (.data (.slice RY2))), (165, (.data RY2))]
noncomputable def fs194  : List (Nat × FSem) := []
noncomputable def body194 : Code := match Try.f194.body with | some c => c | none => .skip
theorem ty194 : chkTypes Try.prog ts194 = true := by kernel_rfl
theorem ev194  (k : Nat) (xs : List RT5) (a : (.nil : Tys).den) : evFun (mkEnvV ts194 (fs194 )) H194 k body194 61 [.tmp 2] (.row 0 :: explodes .nil a) [.row RY2 xs] (rowRes RY2) = f194  k xs  := by kernel_rfl
/-! ### jitney/trust.Merge -/
def f102 (g107 : (List RT5) → (Int)) (g123 : (List Int) → (Int)) (g191 : (List (List RT5)) → Option (List RT5)) (g192_193 : List RT5 → Option (List RT5)) (g193 : RT5 → RT5 → (Int)) (g194 : List RT5 → Option (List RT5)) (k : Nat) (x0 : List RT5) (x1 : List RT5) : Option ((List RT5) × Int × Unit) :=
 bif ((g123 ([(g107 x0), (g107 x1)])) != (0 : Int)) then
  some ([], (g123 ([(g107 x0), (g107 x1)])), ())
 else
  Option.bind (g191 ([x0, x1])) fun v1 =>
  Option.bind (g192_193 v1) fun v2 =>
  Option.bind (g194 v2) fun v3 =>
  Option.bind (α := ((List RT5) × Int × Unit) ⊕ ((Unit) × (Unit))) (iter (σ := (Int × Unit) × (Unit)) (τ := ((List RT5) × Int × Unit) ⊕ ((Unit) × (Unit))) k (fun y4 =>
    bif (decide (y4.1.1 < ((List.length v3 : Nat) : Int))) then
     bif (inR (IntKind.i64.wrap (y4.1.1 - (1 : Int))) ((List.length v3 : Nat) : Int)) then
      bif (inR (IntKind.i64.wrap (y4.1.1 - (1 : Int))) ((List.length v3 : Nat) : Int)) then
       bif (inR y4.1.1 ((List.length v3 : Nat) : Int)) then
        bif (inR y4.1.1 ((List.length v3 : Nat) : Int)) then
         bif ((g193 (rd (α := RT5) zRT5 v3 (IntKind.i64.wrap (y4.1.1 - (1 : Int)))) (rd (α := RT5) zRT5 v3 y4.1.1)) == (0 : Int)) then
          some (.inr (.inl ([], (13 : Int), ())))
         else
          some (.inl (((IntKind.i64.wrap (y4.1.1 + (1 : Int))), ()), ()))
        else
         none
       else
        none
      else
       none
     else
      none
    else
     some (.inr (.inr ((), ())))) (((1 : Int), ()), ())) fun r => match r with
  | .inl z => some z
  | .inr z5 =>
   bif (decide (((List.length v3 : Nat) : Int) > (3000 : Int))) then
    some ([], (2 : Int), ())
   else
    some (v3, (0 : Int), ())
def H102 : Hints where
 loop := fun n => match n with
  | 0 => some ({ slots := [(8, (.int .i64))], objs := [], gone := [] }, 0, { slots := [], objs := [], gone := [] })
  | _ => none
 region := fun n => match n with
  | _ => none
 cond := fun n => match n with
  | _ => none
 block := fun n => match n with
  | _ => none
abbrev A102 : Tys := (.cons (.slice RY2) (.cons (.slice RY2) .nil))
def ts102 : List (Nat × TD) := [(3, (.data (.int .i64))), (28, (.data (.int .i64))), (160, (.data (.slice RY2))), (165, (.data RY2)), (184, (.data (.slice (.int .i64)))), (312, (.data (.slice (.slice RY2))))]
noncomputable def fs102 (g107 : (List RT5) → (Int)) (g123 : (List Int) → (Int)) (g191 : (List (List RT5)) → Option (List RT5)) (g192_193 : List RT5 → Option (List RT5)) (g193 : RT5 → RT5 → (Int)) (g194 : List RT5 → Option (List RT5)) : List (Nat × FSem) := [(107, .fn (.cons (.slice RY2) .nil) (.cons (.int .i64) .nil) fun x => ((g107 x.1), ())), (123, .fn (.cons (.slice (.int .i64)) .nil) (.cons (.int .i64) .nil) fun x => ((g123 x.1), ())), (191, .mfn RY2 (.cons (.slice (.slice RY2)) .nil) fun x => g191 x.1), (192, .rfn RY2 .nil 193 fun xs a => g192_193 xs ), (193, .fn (.cons RY2 (.cons RY2 .nil)) (.cons (.int .i64) .nil) fun x => ((g193 x.1 x.2.1), ())), (194, .cfn RY2 .nil fun xs a => g194 xs )]
noncomputable def body102 : Code := match Try.f102.body with | some c => c | none => .skip
theorem ty102 : chkTypes Try.prog ts102 = true := by kernel_rfl
theorem ev102 (g107 : (List RT5) → (Int)) (g123 : (List Int) → (Int)) (g191 : (List (List RT5)) → Option (List RT5)) (g192_193 : List RT5 → Option (List RT5)) (g193 : RT5 → RT5 → (Int)) (g194 : List RT5 → Option (List RT5)) (k : Nat) (x : ((.cons (.slice RY2) (.cons (.slice RY2) .nil)) : Tys).den) : evFun (mkEnv ts102 (fs102 g107 g123 g191 g192_193 g193 g194)) H102 k body102 47 [.tmp 4, .tmp 5] (explodes (.cons (.slice RY2) (.cons (.slice RY2) .nil)) x) [] (dec (.cons (.slice RY2) (.cons (.int .i64) .nil))) = f102 g107 g123 g191 g192_193 g193 g194 k x.1 x.2.1 := by kernel_rfl
/-! ### slices.Clone[[]jitney/api.Rating,jitney/api.Rating] -/
def f103  (k : Nat) (x0 : List RT5) : Option ((List RT5) × Unit) :=
 bif Nat.ble (List.length x0) 0 then
  none
 else
  bif decide (List.length ([] : List RT5) + List.length x0 ≤ 4294967296) then
   some ((([] : List RT5) ++ x0), ())
  else
   none
def H103 : Hints where
 loop := fun n => match n with
  | _ => none
 region := fun n => match n with
  | _ => none
 cond := fun n => match n with
  | _ => none
 block := fun n => match n with
  | _ => none
def ts103 : List (Nat × TD) := [(160, (.data (.slice RY2)))]
noncomputable def fs103  : List (Nat × FSem) := []
noncomputable def body103 : Code := match Try.f103.body with | some c => c | none => .skip
theorem ty103 : chkTypes Try.prog ts103 = true := by kernel_rfl
theorem ev103  (k : Nat) (x : ((.cons (.slice RY2) .nil) : Tys).den) : evFun (mkEnv ts103 (fs103 )) H103 k body103 8 [.tmp 2] (explodes (.cons (.slice RY2) .nil) x) [] (dec (.cons (.slice RY2) .nil)) = f103  k x.1 := by kernel_rfl
def s103 (l : List RT5) : Option ((List RT5) × Unit) := if l.length ≤ 4294967296 then some (l, ()) else none
/-! ### jitney/trust.peopleFault -/
def f124 (g113 : ByteArray → (Bool)) (k : Nat) (x0 : List ByteArray) (x1 : Int) : Option (Int × Unit) :=
 bif (decide (((List.length x0 : Nat) : Int) > x1)) then
  some ((2 : Int), ())
 else
  Option.bind (α := (Int × Unit) ⊕ ((Unit) × ((MapC .str .bool) × Unit))) (iter (σ := (Int × Unit) × ((MapC .str .bool) × Unit)) (τ := (Int × Unit) ⊕ ((Unit) × ((MapC .str .bool) × Unit))) k (fun y1 =>
    bif (decide (y1.1.1 < ((List.length x0 : Nat) : Int))) then
     bif (inR y1.1.1 ((List.length x0 : Nat) : Int)) then
      bif (!(g113 (rd (α := ByteArray) ByteArray.empty x0 y1.1.1))) then
       some (.inr (.inl ((5 : Int), ())))
      else
       bif (mget (keq .str) false (rd (α := ByteArray) ByteArray.empty x0 y1.1.1) y1.2.1.1) then
        some (.inr (.inl ((6 : Int), ())))
       else
        some (.inl (((IntKind.i64.wrap (y1.1.1 + (1 : Int))), ()), ((mput (keq .str) (rd (α := ByteArray) ByteArray.empty x0 y1.1.1) true y1.2.1), ())))
     else
      none
    else
     some (.inr (.inr ((), (y1.2.1, ()))))) (((0 : Int), ()), ((([], 0) : MapC .str .bool), ()))) fun r => match r with
  | .inl z => some z
  | .inr z2 =>
   some ((0 : Int), ())
def H124 : Hints where
 loop := fun n => match n with
  | 0 => some ({ slots := [(15, (.int .i64))], objs := [(0, (.map .str .bool))], gone := [] }, 0, { slots := [], objs := [(0, (.map .str .bool))], gone := [] })
  | _ => none
 region := fun n => match n with
  | _ => none
 cond := fun n => match n with
  | _ => none
 block := fun n => match n with
  | _ => none
abbrev A124 : Tys := (.cons (.slice .str) (.cons (.int .i64) .nil))
def ts124 : List (Nat × TD) := [(3, (.data (.int .i64))), (9, (.data .str)), (28, (.data (.int .i64))), (41, (.data (.slice .str))), (245, (.map .str .bool))]
noncomputable def fs124 (g113 : ByteArray → (Bool)) : List (Nat × FSem) := [(113, .fn (.cons .str .nil) (.cons .bool .nil) fun x => ((g113 x.1), ()))]
noncomputable def body124 : Code := match Try.f124.body with | some c => c | none => .skip
theorem ty124 : chkTypes Try.prog ts124 = true := by kernel_rfl
theorem ev124 (g113 : ByteArray → (Bool)) (k : Nat) (x : ((.cons (.slice .str) (.cons (.int .i64) .nil)) : Tys).den) : evFun (mkEnv ts124 (fs124 g113)) H124 k body124 28 [.tmp 4] (explodes (.cons (.slice .str) (.cons (.int .i64) .nil)) x) [] (dec (.cons (.int .i64) .nil)) = f124 g113 k x.1 x.2.1 := by kernel_rfl
/-! ### math/bits.Mul64 -/
def f260  (k : Nat) (x0 : Int) (x1 : Int) : Option RT0 :=
 some ((IntKind.u64.wrap ((IntKind.u64.wrap ((IntKind.u64.wrap ((Int.fdiv x0 (4294967296 : Int)) * (Int.fdiv x1 (4294967296 : Int)))) + (Int.fdiv (IntKind.u64.wrap ((IntKind.u64.wrap ((Int.fdiv x0 (4294967296 : Int)) * (iand .u64 x1 (4294967295 : Int)))) + (Int.fdiv (IntKind.u64.wrap ((iand .u64 x0 (4294967295 : Int)) * (iand .u64 x1 (4294967295 : Int)))) (4294967296 : Int)))) (4294967296 : Int)))) + (Int.fdiv (IntKind.u64.wrap ((iand .u64 (IntKind.u64.wrap ((IntKind.u64.wrap ((Int.fdiv x0 (4294967296 : Int)) * (iand .u64 x1 (4294967295 : Int)))) + (Int.fdiv (IntKind.u64.wrap ((iand .u64 x0 (4294967295 : Int)) * (iand .u64 x1 (4294967295 : Int)))) (4294967296 : Int)))) (4294967295 : Int)) + (IntKind.u64.wrap ((iand .u64 x0 (4294967295 : Int)) * (Int.fdiv x1 (4294967296 : Int)))))) (4294967296 : Int)))), (IntKind.u64.wrap (x0 * x1)), ())
def H260 : Hints where
 loop := fun n => match n with
  | _ => none
 region := fun n => match n with
  | _ => none
 cond := fun n => match n with
  | _ => none
 block := fun n => match n with
  | _ => none
abbrev A260 : Tys := (.cons (.int .u64) (.cons (.int .u64) .nil))
def ts260 : List (Nat × TD) := [(319, (.data (.int .u64)))]
noncomputable def fs260  : List (Nat × FSem) := []
noncomputable def body260 : Code := match Try.f260.body with | some c => c | none => .skip
theorem ty260 : chkTypes Try.prog ts260 = true := by kernel_rfl
theorem ev260  (k : Nat) (x : ((.cons (.int .u64) (.cons (.int .u64) .nil)) : Tys).den) : evFun (mkEnv ts260 (fs260 )) H260 k body260 51 [.tmp 4, .tmp 5] (explodes (.cons (.int .u64) (.cons (.int .u64) .nil)) x) [] (dec (.cons (.int .u64) (.cons (.int .u64) .nil))) = f260  k x.1 x.2.1 := by kernel_rfl
/-! ### jitney/base.CompareProducts -/
def f200 (g260 : Int → Int → RT0) (k : Nat) (x0 : Int) (x1 : Int) (x2 : Int) (x3 : Int) : Option (Int × Unit) :=
 Option.bind (α := (Int × Unit) ⊕ ((Bool × Unit) × (Unit))) (
   bif ((g260 (IntKind.u64.wrap x0) (IntKind.u64.wrap x1)).1 != (g260 (IntKind.u64.wrap x2) (IntKind.u64.wrap x3)).1) then
    some (.inr (((decide ((g260 (IntKind.u64.wrap x0) (IntKind.u64.wrap x1)).1 < (g260 (IntKind.u64.wrap x2) (IntKind.u64.wrap x3)).1)), ()), ()))
   else
    some (.inr ((false, ()), ()))) fun r => match r with
 | .inl z => some z
 | .inr y1 =>
  bif y1.1.1 then
   some ((-1 : Int), ())
  else
   Option.bind (α := (Int × Unit) ⊕ ((Bool × Unit) × (Unit))) (
     bif ((g260 (IntKind.u64.wrap x0) (IntKind.u64.wrap x1)).1 == (g260 (IntKind.u64.wrap x2) (IntKind.u64.wrap x3)).1) then
      some (.inr (((decide ((g260 (IntKind.u64.wrap x0) (IntKind.u64.wrap x1)).2.1 < (g260 (IntKind.u64.wrap x2) (IntKind.u64.wrap x3)).2.1)), ()), ()))
     else
      some (.inr ((false, ()), ()))) fun r => match r with
   | .inl z => some z
   | .inr y2 =>
    bif y2.1.1 then
     some ((-1 : Int), ())
    else
     bif ((g260 (IntKind.u64.wrap x0) (IntKind.u64.wrap x1)).1 == (g260 (IntKind.u64.wrap x2) (IntKind.u64.wrap x3)).1) then
      bif ((g260 (IntKind.u64.wrap x0) (IntKind.u64.wrap x1)).2.1 == (g260 (IntKind.u64.wrap x2) (IntKind.u64.wrap x3)).2.1) then
       some ((0 : Int), ())
      else
       some ((1 : Int), ())
     else
      some ((1 : Int), ())
def H200 : Hints where
 loop := fun n => match n with
  | _ => none
 region := fun n => match n with
  | 3 => some { slots := [(29, .bool)], objs := [], gone := [] }
  | 4 => some { slots := [(29, .bool)], objs := [], gone := [] }
  | _ => none
 cond := fun n => match n with
  | _ => none
 block := fun n => match n with
  | _ => none
abbrev A200 : Tys := (.cons (.int .i64) (.cons (.int .i64) (.cons (.int .i64) (.cons (.int .i64) .nil))))
def ts200 : List (Nat × TD) := [(3, (.data (.int .i64))), (319, (.data (.int .u64)))]
noncomputable def fs200 (g260 : Int → Int → RT0) : List (Nat × FSem) := [(260, .fn (.cons (.int .u64) (.cons (.int .u64) .nil)) (.cons (.int .u64) (.cons (.int .u64) .nil)) fun x => (g260 x.1 x.2.1))]
noncomputable def body200 : Code := match Try.f200.body with | some c => c | none => .skip
theorem ty200 : chkTypes Try.prog ts200 = true := by kernel_rfl
theorem ev200 (g260 : Int → Int → RT0) (k : Nat) (x : ((.cons (.int .i64) (.cons (.int .i64) (.cons (.int .i64) (.cons (.int .i64) .nil)))) : Tys).den) : evFun (mkEnv ts200 (fs200 g260)) H200 k body200 55 [.tmp 8] (explodes (.cons (.int .i64) (.cons (.int .i64) (.cons (.int .i64) (.cons (.int .i64) .nil)))) x) [] (dec (.cons (.int .i64) .nil)) = f200 g260 k x.1 x.2.1 x.2.2.1 x.2.2.2.1 := by kernel_rfl
def fm28 (k : Nat) (x0 : List ByteArray) : Option (List ByteArray) :=
 bif Nat.ble (List.length x0) 0 then
  none
 else
  bif decide (List.length ([] : List ByteArray) + List.length x0 ≤ 4294967296) then
   some (([] : List ByteArray) ++ x0)
  else
   none
def Hm28 : Hints where
 loop := fun n => match n with
  | _ => none
 region := fun n => match n with
  | _ => none
 cond := fun n => match n with
  | _ => none
 block := fun n => match n with
  | _ => none
def tsm28 : List (Nat × TD) := [(41, (.data (.slice .str)))]
noncomputable def bodym28 : Code := match Try.f28.body with | some c => c | none => .skip
theorem tym28 : chkTypes Try.prog tsm28 = true := by kernel_rfl
theorem evm28 (k : Nat) (x : ((.cons (.slice .str) .nil) : Tys).den) : evFun (mkEnv tsm28 []) Hm28 k bodym28 8 [.tmp 2] (explodes (.cons (.slice .str) .nil) x) [] (rowRes .str) = fm28 k x.1 := by kernel_rfl
def m28 (l : List ByteArray) : Option (List ByteArray) := if l.length ≤ 4294967296 then some l else none
/-! ### jitney/trust.Ranked -/
noncomputable def f105 (m28 : (List ByteArray) → Option (List ByteArray)) (g107 : (List RT5) → (Int)) (g121 : Int → (Bool)) (g123 : (List Int) → (Int)) (g124 : (List ByteArray) → Int → (Int)) (g127 : (List Int) → (Int)) (g129 : ByteArray → ByteArray → (Int)) (g195 : RT1 → (Int)) (g200 : Int → Int → Int → Int → (Int)) (g257 : (List RT5) → Int → Option ((List RT5) × Unit)) (g258 : Int → Int → Option RT2) (k : Nat) (x0 : RT1) (x1 : List RT5) (x2 : List ByteArray) (x3 : Int) : Option ((List ByteArray) × Int × Unit) :=
 bif ((g123 ([(g107 x1), (g195 x0), (g124 x2 (500 : Int))])) != (0 : Int)) then
  some ([], (g123 ([(g107 x1), (g195 x0), (g124 x2 (500 : Int))])), ())
 else
  bif (!(g121 x3)) then
   some ([], (1 : Int), ())
  else
   Option.bind (g257 x1 x3) fun v1 =>
   Option.bind (α := ((List ByteArray) × Int × Unit) ⊕ ((Unit) × ((MapC .str (.int .i64)) × (MapC .str (.int .i64)) × Unit))) (iter (σ := (Int × Unit) × ((MapC .str (.int .i64)) × (MapC .str (.int .i64)) × Unit)) (τ := ((List ByteArray) × Int × Unit) ⊕ ((Unit) × ((MapC .str (.int .i64)) × (MapC .str (.int .i64)) × Unit))) k (fun y2 =>
     bif (decide (y2.1.1 < ((List.length v1.1 : Nat) : Int))) then
      bif (inR y2.1.1 ((List.length v1.1 : Nat) : Int)) then
       Option.bind (α := (((Int × Unit) × ((MapC .str (.int .i64)) × (MapC .str (.int .i64)) × Unit)) ⊕ (((List ByteArray) × Int × Unit) ⊕ ((Unit) × ((MapC .str (.int .i64)) × (MapC .str (.int .i64)) × Unit)))) ⊕ ((Int × Unit) × (Unit))) (
         bif (decide (x0.2.2.1 > (0 : Int))) then
          bif decide (x0.2.2.1 = 0) then
           none
          else
           bif decide (0 ≤ (if (decide ((IntKind.i64.wrap (Int.tdiv (IntKind.i64.wrap (x3 - (rd (α := RT5) zRT5 v1.1 y2.1.1).2.2.2.2.1)) x0.2.2.1)) < (10 : Int))) then (IntKind.i64.wrap (Int.tdiv (IntKind.i64.wrap (x3 - (rd (α := RT5) zRT5 v1.1 y2.1.1).2.2.2.2.1)) x0.2.2.1)) else (10 : Int))) then
            some (.inr (((Int.fdiv (1024 : Int) ((2 : Int) ^ (min (Int.toNat (if (decide ((IntKind.i64.wrap (Int.tdiv (IntKind.i64.wrap (x3 - (rd (α := RT5) zRT5 v1.1 y2.1.1).2.2.2.2.1)) x0.2.2.1)) < (10 : Int))) then (IntKind.i64.wrap (Int.tdiv (IntKind.i64.wrap (x3 - (rd (α := RT5) zRT5 v1.1 y2.1.1).2.2.2.2.1)) x0.2.2.1)) else (10 : Int))) 64))), ()), ()))
           else
            none
         else
          some (.inr (((1024 : Int), ()), ()))) fun r => match r with
       | .inl z => some z
       | .inr y3 =>
        some (.inl (((IntKind.i64.wrap (y2.1.1 + (1 : Int))), ()), ((mput (keq .str) ((rd (α := RT5) zRT5 v1.1 y2.1.1).2.1) (IntKind.i64.wrap ((mget (keq .str) (0 : Int) ((rd (α := RT5) zRT5 v1.1 y2.1.1).2.1) y2.2.1.1) + (IntKind.i64.wrap ((IntKind.i64.wrap ((1000 : Int) * y3.1.1)) * (rd (α := RT5) zRT5 v1.1 y2.1.1).2.2.2.1)))) y2.2.1), (mput (keq .str) ((rd (α := RT5) zRT5 v1.1 y2.1.1).2.1) (IntKind.i64.wrap ((mget (keq .str) (0 : Int) ((rd (α := RT5) zRT5 v1.1 y2.1.1).2.1) y2.2.2.1.1) + (IntKind.i64.wrap ((1000 : Int) * y3.1.1)))) y2.2.2.1), ())))
      else
       none
     else
      some (.inr (.inr ((), (y2.2.1, y2.2.2.1, ()))))) (((0 : Int), ()), ((([], 0) : MapC .str (.int .i64)), (([], 0) : MapC .str (.int .i64)), ()))) fun r => match r with
   | .inl z => some z
   | .inr z4 =>
    Option.bind (m28 x2) fun v5 =>
    Option.bind (sortP .str (fun (a6 : ByteArray) (b7 : ByteArray) =>
      Option.bind (α := (Int × Unit) ⊕ (RT4 × (Unit))) (
        bif ((IntKind.i64.wrap ((mget (keq .str) (0 : Int) a6 z4.2.2.1.1) + (IntKind.i64.wrap ((1024000 : Int) * x0.1)))) == (0 : Int)) then
         some (.inr (zRT4, ()))
        else
         Option.bind (g258 (IntKind.i64.wrap ((mget (keq .str) (0 : Int) a6 z4.2.1.1) + (IntKind.i64.wrap ((IntKind.i64.wrap ((1024 : Int) * x0.1)) * x0.2.1)))) (IntKind.i64.wrap ((mget (keq .str) (0 : Int) a6 z4.2.2.1.1) + (IntKind.i64.wrap ((1024000 : Int) * x0.1))))) fun v8 =>
         some (.inr ((v8.1, true, ()), ()))) fun r => match r with
      | .inl z => some z
      | .inr y9 =>
       Option.bind (α := (Int × Unit) ⊕ (RT4 × (Unit))) (
         bif ((IntKind.i64.wrap ((mget (keq .str) (0 : Int) b7 z4.2.2.1.1) + (IntKind.i64.wrap ((1024000 : Int) * x0.1)))) == (0 : Int)) then
          some (.inr (zRT4, ()))
         else
          Option.bind (g258 (IntKind.i64.wrap ((mget (keq .str) (0 : Int) b7 z4.2.1.1) + (IntKind.i64.wrap ((IntKind.i64.wrap ((1024 : Int) * x0.1)) * x0.2.1)))) (IntKind.i64.wrap ((mget (keq .str) (0 : Int) b7 z4.2.2.1.1) + (IntKind.i64.wrap ((1024000 : Int) * x0.1))))) fun v10 =>
          some (.inr ((v10.1, true, ()), ()))) fun r => match r with
       | .inl z => some z
       | .inr y11 =>
        Option.bind (α := (Int × Unit) ⊕ ((Bool × Unit) × (Unit))) (
          bif y9.1.2.1 then
           some (.inr (((!y11.1.2.1), ()), ()))
          else
           some (.inr ((false, ()), ()))) fun r => match r with
        | .inl z => some z
        | .inr y12 =>
         bif y12.1.1 then
          some ((-1 : Int), ())
         else
          Option.bind (α := (Int × Unit) ⊕ ((Bool × Unit) × (Unit))) (
            bif (!y9.1.2.1) then
             some (.inr ((y11.1.2.1, ()), ()))
            else
             some (.inr ((false, ()), ()))) fun r => match r with
          | .inl z => some z
          | .inr y13 =>
           bif y13.1.1 then
            some ((1 : Int), ())
           else
            bif (!y9.1.2.1) then
             some ((g129 a6 b7), ())
            else
             some ((g127 ([(g200 y11.1.1.1 y9.1.1.2.1 y9.1.1.1 y11.1.1.2.1), (g129 a6 b7)])), ())) v5) fun v14 =>
    some (v14, (0 : Int), ())
def H105 : Hints where
 loop := fun n => match n with
  | _ => none
 region := fun n => match n with
  | _ => none
 cond := fun n => match n with
  | _ => none
 block := fun n => match n with
  | _ => none
def Hi105_196 : Hints where
 loop := fun n => match n with
  | 0 => some ({ slots := [(19, (.int .i64))], objs := [(1, (.map .str (.int .i64))), (2, (.map .str (.int .i64)))], gone := [] }, 0, { slots := [], objs := [(1, (.map .str (.int .i64))), (2, (.map .str (.int .i64)))], gone := [] })
  | _ => none
 region := fun n => match n with
  | _ => none
 cond := fun n => match n with
  | 25 => some { slots := [(10, (.int .i64))], objs := [], gone := [] }
  | _ => none
 block := fun n => match n with
  | _ => none
def tsi105_196 : List (Nat × TD) := [(3, (.data (.int .i64))), (9, (.data .str)), (159, (.data RY1)), (160, (.data (.slice RY2))), (165, (.data RY2)), (315, (.map .str (.int .i64))), (317, (.agg (.cons (.map .str (.int .i64)) (.cons (.map .str (.int .i64)) .nil))))]
noncomputable def bodyi105_196 : Code := match Try.f196.body with | some c => c | none => .skip
noncomputable def fsi105_196 (m28 : (List ByteArray) → Option (List ByteArray)) (g107 : (List RT5) → (Int)) (g121 : Int → (Bool)) (g123 : (List Int) → (Int)) (g124 : (List ByteArray) → Int → (Int)) (g127 : (List Int) → (Int)) (g129 : ByteArray → ByteArray → (Int)) (g195 : RT1 → (Int)) (g200 : Int → Int → Int → Int → (Int)) (g257 : (List RT5) → Int → Option ((List RT5) × Unit)) (g258 : Int → Int → Option RT2) (k : Nat) : List (Nat × FSem) := [(257, .pfn (.cons (.slice RY2) (.cons (.int .i64) .nil)) (.cons (.slice RY2) .nil) fun x => (g257 x.1 x.2.1))]
theorem tyi105_196 : chkTypes Try.prog tsi105_196 = true := by kernel_rfl
def Hi105_197 : Hints where
 loop := fun n => match n with
  | _ => none
 region := fun n => match n with
  | _ => none
 cond := fun n => match n with
  | _ => none
 block := fun n => match n with
  | _ => none
def tsi105_197 : List (Nat × TD) := [(3, (.data (.int .i64))), (159, (.data RY1)), (167, (.data RY0)), (315, (.map .str (.int .i64))), (317, (.agg (.cons (.map .str (.int .i64)) (.cons (.map .str (.int .i64)) .nil))))]
noncomputable def bodyi105_197 : Code := match Try.f197.body with | some c => c | none => .skip
noncomputable def fsi105_197 (m28 : (List ByteArray) → Option (List ByteArray)) (g107 : (List RT5) → (Int)) (g121 : Int → (Bool)) (g123 : (List Int) → (Int)) (g124 : (List ByteArray) → Int → (Int)) (g127 : (List Int) → (Int)) (g129 : ByteArray → ByteArray → (Int)) (g195 : RT1 → (Int)) (g200 : Int → Int → Int → Int → (Int)) (g257 : (List RT5) → Int → Option ((List RT5) × Unit)) (g258 : Int → Int → Option RT2) (k : Nat) : List (Nat × FSem) := [(258, .pfn (.cons (.int .i64) (.cons (.int .i64) .nil)) (.cons RY0 .nil) fun x => (g258 x.1 x.2.1))]
theorem tyi105_197 : chkTypes Try.prog tsi105_197 = true := by kernel_rfl
def Hi105_199 : Hints where
 loop := fun n => match n with
  | _ => none
 region := fun n => match n with
  | 1 => some { slots := [(7, (.box (.data RY0) (.agg (.cons (.int .i64) (.cons (.int .i64) .nil))))), (8, .bool)], objs := [], gone := [] }
  | 2 => some { slots := [(9, (.box (.data RY0) (.agg (.cons (.int .i64) (.cons (.int .i64) .nil))))), (10, .bool)], objs := [], gone := [] }
  | 3 => some { slots := [(25, .bool)], objs := [], gone := [] }
  | 5 => some { slots := [(31, .bool)], objs := [], gone := [] }
  | _ => none
 cond := fun n => match n with
  | _ => none
 block := fun n => match n with
  | _ => none
def tsi105_199 : List (Nat × TD) := [(3, (.data (.int .i64))), (78, (.data (.slice (.int .i64)))), (159, (.data RY1)), (167, (.data RY0)), (251, (.cell .ptr))]
noncomputable def bodyi105_199 : Code := match Try.f199.body with | some c => c | none => .skip
noncomputable def fsi105_199 (m28 : (List ByteArray) → Option (List ByteArray)) (g107 : (List RT5) → (Int)) (g121 : Int → (Bool)) (g123 : (List Int) → (Int)) (g124 : (List ByteArray) → Int → (Int)) (g127 : (List Int) → (Int)) (g129 : ByteArray → ByteArray → (Int)) (g195 : RT1 → (Int)) (g200 : Int → Int → Int → Int → (Int)) (g257 : (List RT5) → Int → Option ((List RT5) × Unit)) (g258 : Int → Int → Option RT2) (k : Nat) : List (Nat × FSem) := [(127, .fn (.cons (.slice (.int .i64)) .nil) (.cons (.int .i64) .nil) fun x => ((g127 x.1), ())), (129, .fn (.cons .str (.cons .str .nil)) (.cons (.int .i64) .nil) fun x => ((g129 x.1 x.2.1), ())), (197, .evr (mkEnv tsi105_197 (fsi105_197 m28 g107 g121 g123 g124 g127 g129 g195 g200 g257 g258 k)) Hi105_197 k bodyi105_197 37 [.cell 6 167, .tmp 7]), (200, .fn (.cons (.int .i64) (.cons (.int .i64) (.cons (.int .i64) (.cons (.int .i64) .nil)))) (.cons (.int .i64) .nil) fun x => ((g200 x.1 x.2.1 x.2.2.1 x.2.2.2.1), ()))]
theorem tyi105_199 : chkTypes Try.prog tsi105_199 = true := by kernel_rfl
abbrev A105 : Tys := (.cons RY1 (.cons (.slice RY2) (.cons (.slice .str) (.cons (.int .i64) .nil))))
def ts105 : List (Nat × TD) := [(3, (.data (.int .i64))), (28, (.data (.int .i64))), (41, (.data (.slice .str))), (159, (.data RY1)), (160, (.data (.slice RY2))), (184, (.data (.slice (.int .i64)))), (251, (.cell .ptr))]
noncomputable def fs105 (m28 : (List ByteArray) → Option (List ByteArray)) (g107 : (List RT5) → (Int)) (g121 : Int → (Bool)) (g123 : (List Int) → (Int)) (g124 : (List ByteArray) → Int → (Int)) (g127 : (List Int) → (Int)) (g129 : ByteArray → ByteArray → (Int)) (g195 : RT1 → (Int)) (g200 : Int → Int → Int → Int → (Int)) (g257 : (List RT5) → Int → Option ((List RT5) × Unit)) (g258 : Int → Int → Option RT2) (k : Nat) : List (Nat × FSem) := [(28, .mfn .str (.cons (.slice .str) .nil) fun x => m28 x.1), (107, .fn (.cons (.slice RY2) .nil) (.cons (.int .i64) .nil) fun x => ((g107 x.1), ())), (121, .fn (.cons (.int .i64) .nil) (.cons .bool .nil) fun x => ((g121 x.1), ())), (123, .fn (.cons (.slice (.int .i64)) .nil) (.cons (.int .i64) .nil) fun x => ((g123 x.1), ())), (124, .fn (.cons (.slice .str) (.cons (.int .i64) .nil)) (.cons (.int .i64) .nil) fun x => ((g124 x.1 x.2.1), ())), (195, .fn (.cons RY1 .nil) (.cons (.int .i64) .nil) fun x => ((g195 x.1), ())), (196, .ev (mkEnv tsi105_196 (fsi105_196 m28 g107 g121 g123 g124 g127 g129 g195 g200 g257 g258 k)) Hi105_196 k bodyi105_196 61 [.tmp 6]), (198, .sortc .str 199 (mkEnv tsi105_199 (fsi105_199 m28 g107 g121 g123 g124 g127 g129 g195 g200 g257 g258 k)) Hi105_199 k bodyi105_199 57 [.tmp 6])]
noncomputable def body105 : Code := match Try.f105.body with | some c => c | none => .skip
theorem ty105 : chkTypes Try.prog ts105 = true := by kernel_rfl
theorem ev105 (m28 : (List ByteArray) → Option (List ByteArray)) (g107 : (List RT5) → (Int)) (g121 : Int → (Bool)) (g123 : (List Int) → (Int)) (g124 : (List ByteArray) → Int → (Int)) (g127 : (List Int) → (Int)) (g129 : ByteArray → ByteArray → (Int)) (g195 : RT1 → (Int)) (g200 : Int → Int → Int → Int → (Int)) (g257 : (List RT5) → Int → Option ((List RT5) × Unit)) (g258 : Int → Int → Option RT2) (k : Nat) (x : ((.cons RY1 (.cons (.slice RY2) (.cons (.slice .str) (.cons (.int .i64) .nil)))) : Tys).den) : evFun (mkEnv ts105 (fs105 m28 g107 g121 g123 g124 g127 g129 g195 g200 g257 g258 k)) H105 k body105 37 [.tmp 8, .tmp 9] (explodes (.cons RY1 (.cons (.slice RY2) (.cons (.slice .str) (.cons (.int .i64) .nil)))) x) [] (dec (.cons (.slice .str) (.cons (.int .i64) .nil))) = f105 m28 g107 g121 g123 g124 g127 g129 g195 g200 g257 g258 k x.1 x.2.1 x.2.2.1 x.2.2.2.1 := by kernel_rfl
/-! ### cmp.isNaN[string] -/
def f263  (k : Nat) (x0 : ByteArray) : Option (Bool × Unit) :=
 some ((!(sEq x0 x0)), ())
def H263 : Hints where
 loop := fun n => match n with
  | _ => none
 region := fun n => match n with
  | _ => none
 cond := fun n => match n with
  | _ => none
 block := fun n => match n with
  | _ => none
abbrev A263 : Tys := (.cons .str .nil)
def ts263 : List (Nat × TD) := [(4, (.data .bool)), (9, (.data .str))]
noncomputable def fs263  : List (Nat × FSem) := []
noncomputable def body263 : Code := match Try.f263.body with | some c => c | none => .skip
theorem ty263 : chkTypes Try.prog ts263 = true := by kernel_rfl
theorem ev263  (k : Nat) (x : ((.cons .str .nil) : Tys).den) : evFun (mkEnv ts263 (fs263 )) H263 k body263 6 [.tmp 2] (explodes (.cons .str .nil) x) [] (dec (.cons .bool .nil)) = f263  k x.1 := by kernel_rfl
/-! ### cmp.Compare[string] -/
def f209 (g263 : ByteArray → (Bool)) (k : Nat) (x0 : ByteArray) (x1 : ByteArray) : Option (Int × Unit) :=
 bif (g263 x0) then
  bif (g263 x1) then
   some ((0 : Int), ())
  else
   some ((-1 : Int), ())
 else
  bif (g263 x1) then
   some ((1 : Int), ())
  else
   bif (sLt x0 x1) then
    some ((-1 : Int), ())
   else
    bif (!((sLt x0 x1) || (sEq x0 x1))) then
     some ((1 : Int), ())
    else
     some ((0 : Int), ())
def H209 : Hints where
 loop := fun n => match n with
  | _ => none
 region := fun n => match n with
  | _ => none
 cond := fun n => match n with
  | _ => none
 block := fun n => match n with
  | _ => none
abbrev A209 : Tys := (.cons .str (.cons .str .nil))
def ts209 : List (Nat × TD) := [(3, (.data (.int .i64))), (9, (.data .str))]
noncomputable def fs209 (g263 : ByteArray → (Bool)) : List (Nat × FSem) := [(263, .fn (.cons .str .nil) (.cons .bool .nil) fun x => ((g263 x.1), ()))]
noncomputable def body209 : Code := match Try.f209.body with | some c => c | none => .skip
theorem ty209 : chkTypes Try.prog ts209 = true := by kernel_rfl
theorem ev209 (g263 : ByteArray → (Bool)) (k : Nat) (x : ((.cons .str (.cons .str .nil)) : Tys).den) : evFun (mkEnv ts209 (fs209 g263)) H209 k body209 20 [.tmp 4] (explodes (.cons .str (.cons .str .nil)) x) [] (dec (.cons (.int .i64) .nil)) = f209 g263 k x.1 x.2.1 := by kernel_rfl
/-! ### slices.Compare[[]string,string] -/
def f126 (g209 : ByteArray → ByteArray → (Int)) (k : Nat) (x0 : List ByteArray) (x1 : List ByteArray) : Option (Int × Unit) :=
 Option.bind (α := (Int × Unit) ⊕ ((Unit) × (Unit))) (iter (σ := (Int × Unit) × (Unit)) (τ := (Int × Unit) ⊕ ((Unit) × (Unit))) k (fun y1 =>
   bif (decide (y1.1.1 < ((List.length x0 : Nat) : Int))) then
    bif (inR y1.1.1 ((List.length x0 : Nat) : Int)) then
     bif (decide (y1.1.1 ≥ ((List.length x1 : Nat) : Int))) then
      some (.inr (.inl ((1 : Int), ())))
     else
      bif (inR y1.1.1 ((List.length x1 : Nat) : Int)) then
       bif ((g209 (rd (α := ByteArray) ByteArray.empty x0 y1.1.1) (rd (α := ByteArray) ByteArray.empty x1 y1.1.1)) != (0 : Int)) then
        some (.inr (.inl ((g209 (rd (α := ByteArray) ByteArray.empty x0 y1.1.1) (rd (α := ByteArray) ByteArray.empty x1 y1.1.1)), ())))
       else
        some (.inl (((IntKind.i64.wrap (y1.1.1 + (1 : Int))), ()), ()))
      else
       none
    else
     none
   else
    some (.inr (.inr ((), ())))) (((0 : Int), ()), ())) fun r => match r with
 | .inl z => some z
 | .inr z2 =>
  bif (decide (((List.length x0 : Nat) : Int) < ((List.length x1 : Nat) : Int))) then
   some ((-1 : Int), ())
  else
   some ((0 : Int), ())
def H126 : Hints where
 loop := fun n => match n with
  | 0 => some ({ slots := [(11, (.int .i64))], objs := [], gone := [] }, 0, { slots := [], objs := [], gone := [] })
  | _ => none
 region := fun n => match n with
  | _ => none
 cond := fun n => match n with
  | _ => none
 block := fun n => match n with
  | _ => none
abbrev A126 : Tys := (.cons (.slice .str) (.cons (.slice .str) .nil))
def ts126 : List (Nat × TD) := [(3, (.data (.int .i64))), (9, (.data .str)), (41, (.data (.slice .str)))]
noncomputable def fs126 (g209 : ByteArray → ByteArray → (Int)) : List (Nat × FSem) := [(209, .fn (.cons .str (.cons .str .nil)) (.cons (.int .i64) .nil) fun x => ((g209 x.1 x.2.1), ()))]
noncomputable def body126 : Code := match Try.f126.body with | some c => c | none => .skip
theorem ty126 : chkTypes Try.prog ts126 = true := by kernel_rfl
theorem ev126 (g209 : ByteArray → ByteArray → (Int)) (k : Nat) (x : ((.cons (.slice .str) (.cons (.slice .str) .nil)) : Tys).den) : evFun (mkEnv ts126 (fs126 g209)) H126 k body126 36 [.tmp 4] (explodes (.cons (.slice .str) (.cons (.slice .str) .nil)) x) [] (dec (.cons (.int .i64) .nil)) = f126 g209 k x.1 x.2.1 := by kernel_rfl
/-! ### jitney/jitref2.ratingKey -/
def f204  (k : Nat) (x0 : RT5) : Option ((List ByteArray) × Unit) :=
 some ([x0.2.2.1, x0.1, x0.2.1], ())
def H204 : Hints where
 loop := fun n => match n with
  | _ => none
 region := fun n => match n with
  | _ => none
 cond := fun n => match n with
  | _ => none
 block := fun n => match n with
  | _ => none
abbrev A204 : Tys := (.cons RY2 .nil)
def ts204 : List (Nat × TD) := [(9, (.data .str)), (41, (.data (.slice .str))), (165, (.data RY2))]
noncomputable def fs204  : List (Nat × FSem) := []
noncomputable def body204 : Code := match Try.f204.body with | some c => c | none => .skip
theorem ty204 : chkTypes Try.prog ts204 = true := by kernel_rfl
theorem ev204  (k : Nat) (x : ((.cons RY2 .nil) : Tys).den) : evFun (mkEnv ts204 (fs204 )) H204 k body204 10 [.tmp 2] (explodes (.cons RY2 .nil) x) [] (dec (.cons (.slice .str) .nil)) = f204  k x.1 := by kernel_rfl
/-! ### jitney/jitref2.RatingOrder -/
def f201 (g126 : (List ByteArray) → (List ByteArray) → (Int)) (g204 : RT5 → (List ByteArray)) (g227 : Int → (Int)) (k : Nat) (x0 : RT5) (x1 : RT5) : Option (Int × Unit) :=
 bif ((g126 (g204 x0) (g204 x1)) != (0 : Int)) then
  some ((g126 (g204 x0) (g204 x1)), ())
 else
  some ((g227 (IntKind.i64.wrap (x0.2.2.2.2.1 - x1.2.2.2.2.1))), ())
def H201 : Hints where
 loop := fun n => match n with
  | _ => none
 region := fun n => match n with
  | _ => none
 cond := fun n => match n with
  | _ => none
 block := fun n => match n with
  | _ => none
abbrev A201 : Tys := (.cons RY2 (.cons RY2 .nil))
def ts201 : List (Nat × TD) := [(3, (.data (.int .i64))), (165, (.data RY2))]
noncomputable def fs201 (g126 : (List ByteArray) → (List ByteArray) → (Int)) (g204 : RT5 → (List ByteArray)) (g227 : Int → (Int)) : List (Nat × FSem) := [(126, .fn (.cons (.slice .str) (.cons (.slice .str) .nil)) (.cons (.int .i64) .nil) fun x => ((g126 x.1 x.2.1), ())), (204, .fn (.cons RY2 .nil) (.cons (.slice .str) .nil) fun x => ((g204 x.1), ())), (227, .fn (.cons (.int .i64) .nil) (.cons (.int .i64) .nil) fun x => ((g227 x.1), ()))]
noncomputable def body201 : Code := match Try.f201.body with | some c => c | none => .skip
theorem ty201 : chkTypes Try.prog ts201 = true := by kernel_rfl
theorem ev201 (g126 : (List ByteArray) → (List ByteArray) → (Int)) (g204 : RT5 → (List ByteArray)) (g227 : Int → (Int)) (k : Nat) (x : ((.cons RY2 (.cons RY2 .nil)) : Tys).den) : evFun (mkEnv ts201 (fs201 g126 g204 g227)) H201 k body201 20 [.tmp 4] (explodes (.cons RY2 (.cons RY2 .nil)) x) [] (dec (.cons (.int .i64) .nil)) = f201 g126 g204 g227 k x.1 x.2.1 := by kernel_rfl
/-! ### jitney/jitref2.RatingsFault -/
def f106 (g31 : ByteArray → (Bool)) (g115 : Int → Int → Int → (Bool)) (g125 : Int → (Bool)) (g201 : RT5 → RT5 → (Int)) (k : Nat) (x0 : List RT5) : Option (Int × Unit) :=
 bif (decide (((List.length x0 : Nat) : Int) > (3000 : Int))) then
  some ((2 : Int), ())
 else
  Option.bind (α := (Int × Unit) ⊕ ((Unit) × (Unit))) (iter (σ := (Int × Unit) × (Unit)) (τ := (Int × Unit) ⊕ ((Unit) × (Unit))) k (fun y1 =>
    bif (decide (y1.1.1 < ((List.length x0 : Nat) : Int))) then
     bif (inR y1.1.1 ((List.length x0 : Nat) : Int)) then
      bif (!(g31 ((rd (α := RT5) zRT5 x0 y1.1.1).1))) then
       some (.inr (.inl ((5 : Int), ())))
      else
       bif (!(g31 ((rd (α := RT5) zRT5 x0 y1.1.1).2.1))) then
        some (.inr (.inl ((5 : Int), ())))
       else
        bif (!(g31 ((rd (α := RT5) zRT5 x0 y1.1.1).2.2.1))) then
         some (.inr (.inl ((5 : Int), ())))
        else
         bif (sEq ((rd (α := RT5) zRT5 x0 y1.1.1).1) ((rd (α := RT5) zRT5 x0 y1.1.1).2.1)) then
          some (.inr (.inl ((6 : Int), ())))
         else
          bif (!(g115 ((rd (α := RT5) zRT5 x0 y1.1.1).2.2.2.1) (1 : Int) (5 : Int))) then
           some (.inr (.inl ((1 : Int), ())))
          else
           bif (!(g125 ((rd (α := RT5) zRT5 x0 y1.1.1).2.2.2.2.1))) then
            some (.inr (.inl ((1 : Int), ())))
           else
            bif (decide (y1.1.1 > (0 : Int))) then
             bif (inR (IntKind.i64.wrap (y1.1.1 - (1 : Int))) ((List.length x0 : Nat) : Int)) then
              bif (decide ((g201 (rd (α := RT5) zRT5 x0 (IntKind.i64.wrap (y1.1.1 - (1 : Int)))) (rd (α := RT5) zRT5 x0 y1.1.1)) ≥ (0 : Int))) then
               some (.inr (.inl ((7 : Int), ())))
              else
               some (.inl (((IntKind.i64.wrap (y1.1.1 + (1 : Int))), ()), ()))
             else
              none
            else
             some (.inl (((IntKind.i64.wrap (y1.1.1 + (1 : Int))), ()), ()))
     else
      none
    else
     some (.inr (.inr ((), ())))) (((0 : Int), ()), ())) fun r => match r with
  | .inl z => some z
  | .inr z2 =>
   some ((0 : Int), ())
def H106 : Hints where
 loop := fun n => match n with
  | 0 => some ({ slots := [(10, (.int .i64))], objs := [], gone := [] }, 0, { slots := [], objs := [], gone := [] })
  | _ => none
 region := fun n => match n with
  | _ => none
 cond := fun n => match n with
  | _ => none
 block := fun n => match n with
  | _ => none
abbrev A106 : Tys := (.cons (.slice RY2) .nil)
def ts106 : List (Nat × TD) := [(3, (.data (.int .i64))), (9, (.data .str)), (28, (.data (.int .i64))), (160, (.data (.slice RY2))), (165, (.data RY2))]
noncomputable def fs106 (g31 : ByteArray → (Bool)) (g115 : Int → Int → Int → (Bool)) (g125 : Int → (Bool)) (g201 : RT5 → RT5 → (Int)) : List (Nat × FSem) := [(31, .fn (.cons .str .nil) (.cons .bool .nil) fun x => ((g31 x.1), ())), (115, .fn (.cons (.int .i64) (.cons (.int .i64) (.cons (.int .i64) .nil))) (.cons .bool .nil) fun x => ((g115 x.1 x.2.1 x.2.2.1), ())), (125, .fn (.cons (.int .i64) .nil) (.cons .bool .nil) fun x => ((g125 x.1), ())), (201, .fn (.cons RY2 (.cons RY2 .nil)) (.cons (.int .i64) .nil) fun x => ((g201 x.1 x.2.1), ()))]
noncomputable def body106 : Code := match Try.f106.body with | some c => c | none => .skip
theorem ty106 : chkTypes Try.prog ts106 = true := by kernel_rfl
theorem ev106 (g31 : ByteArray → (Bool)) (g115 : Int → Int → Int → (Bool)) (g125 : Int → (Bool)) (g201 : RT5 → RT5 → (Int)) (k : Nat) (x : ((.cons (.slice RY2) .nil) : Tys).den) : evFun (mkEnv ts106 (fs106 g31 g115 g125 g201)) H106 k body106 63 [.tmp 2] (explodes (.cons (.slice RY2) .nil) x) [] (dec (.cons (.int .i64) .nil)) = f106 g31 g115 g125 g201 k x.1 := by kernel_rfl
/-! ### jitney/jitref2.FaithFault -/
def f108 (g115 : Int → Int → Int → (Bool)) (k : Nat) (x0 : RT1) : Option (Int × Unit) :=
 bif (!(g115 x0.1 (0 : Int) (1000 : Int))) then
  some ((1 : Int), ())
 else
  bif (!(g115 x0.2.1 (1000 : Int) (5000 : Int))) then
   some ((1 : Int), ())
  else
   bif (!(g115 x0.2.2.1 (0 : Int) (345686400000 : Int))) then
    some ((1 : Int), ())
   else
    some ((0 : Int), ())
def H108 : Hints where
 loop := fun n => match n with
  | _ => none
 region := fun n => match n with
  | _ => none
 cond := fun n => match n with
  | _ => none
 block := fun n => match n with
  | _ => none
abbrev A108 : Tys := (.cons RY1 .nil)
def ts108 : List (Nat × TD) := [(3, (.data (.int .i64))), (28, (.data (.int .i64))), (159, (.data RY1))]
noncomputable def fs108 (g115 : Int → Int → Int → (Bool)) : List (Nat × FSem) := [(115, .fn (.cons (.int .i64) (.cons (.int .i64) (.cons (.int .i64) .nil))) (.cons .bool .nil) fun x => ((g115 x.1 x.2.1 x.2.2.1), ()))]
noncomputable def body108 : Code := match Try.f108.body with | some c => c | none => .skip
theorem ty108 : chkTypes Try.prog ts108 = true := by kernel_rfl
theorem ev108 (g115 : Int → Int → Int → (Bool)) (k : Nat) (x : ((.cons RY1 .nil) : Tys).den) : evFun (mkEnv ts108 (fs108 g115)) H108 k body108 19 [.tmp 2] (explodes (.cons RY1 .nil) x) [] (dec (.cons (.int .i64) .nil)) = f108 g115 k x.1 := by kernel_rfl
/-! ### jitney/jitref2.RatingsOf -/
def f109 (g191 : (List (List RT5)) → Option (List RT5)) (g192_201 : List RT5 → Option (List RT5)) (g194 : List RT5 → Option (List RT5)) (g201 : RT5 → RT5 → (Int)) (k : Nat) (x0 : List RT5) (x1 : List RT5) : Option ((List RT5) × Int × Unit) :=
 Option.bind (g191 ([x0, x1])) fun v1 =>
 Option.bind (g192_201 v1) fun v2 =>
 Option.bind (g194 v2) fun v3 =>
 Option.bind (α := ((List RT5) × Int × Unit) ⊕ ((Unit) × (Unit))) (iter (σ := (Int × Unit) × (Unit)) (τ := ((List RT5) × Int × Unit) ⊕ ((Unit) × (Unit))) k (fun y4 =>
   bif (decide (y4.1.1 < ((List.length v3 : Nat) : Int))) then
    bif (decide (y4.1.1 > (0 : Int))) then
     bif (inR (IntKind.i64.wrap (y4.1.1 - (1 : Int))) ((List.length v3 : Nat) : Int)) then
      bif (inR (IntKind.i64.wrap (y4.1.1 - (1 : Int))) ((List.length v3 : Nat) : Int)) then
       bif (inR y4.1.1 ((List.length v3 : Nat) : Int)) then
        bif (inR y4.1.1 ((List.length v3 : Nat) : Int)) then
         bif ((g201 (rd (α := RT5) zRT5 v3 (IntKind.i64.wrap (y4.1.1 - (1 : Int)))) (rd (α := RT5) zRT5 v3 y4.1.1)) == (0 : Int)) then
          some (.inr (.inl ([], (13 : Int), ())))
         else
          some (.inl (((IntKind.i64.wrap (y4.1.1 + (1 : Int))), ()), ()))
        else
         none
       else
        none
      else
       none
     else
      none
    else
     some (.inl (((IntKind.i64.wrap (y4.1.1 + (1 : Int))), ()), ()))
   else
    some (.inr (.inr ((), ())))) (((0 : Int), ()), ())) fun r => match r with
 | .inl z => some z
 | .inr z5 =>
  bif (decide (((List.length v3 : Nat) : Int) > (3000 : Int))) then
   some ([], (2 : Int), ())
  else
   some (v3, (0 : Int), ())
def H109 : Hints where
 loop := fun n => match n with
  | 0 => some ({ slots := [(18, (.int .i64))], objs := [], gone := [] }, 0, { slots := [], objs := [], gone := [] })
  | _ => none
 region := fun n => match n with
  | _ => none
 cond := fun n => match n with
  | _ => none
 block := fun n => match n with
  | _ => none
abbrev A109 : Tys := (.cons (.slice RY2) (.cons (.slice RY2) .nil))
def ts109 : List (Nat × TD) := [(3, (.data (.int .i64))), (28, (.data (.int .i64))), (160, (.data (.slice RY2))), (165, (.data RY2)), (312, (.data (.slice (.slice RY2))))]
noncomputable def fs109 (g191 : (List (List RT5)) → Option (List RT5)) (g192_201 : List RT5 → Option (List RT5)) (g194 : List RT5 → Option (List RT5)) (g201 : RT5 → RT5 → (Int)) : List (Nat × FSem) := [(191, .mfn RY2 (.cons (.slice (.slice RY2)) .nil) fun x => g191 x.1), (192, .rfn RY2 .nil 201 fun xs a => g192_201 xs ), (194, .cfn RY2 .nil fun xs a => g194 xs ), (201, .fn (.cons RY2 (.cons RY2 .nil)) (.cons (.int .i64) .nil) fun x => ((g201 x.1 x.2.1), ()))]
noncomputable def body109 : Code := match Try.f109.body with | some c => c | none => .skip
theorem ty109 : chkTypes Try.prog ts109 = true := by kernel_rfl
theorem ev109 (g191 : (List (List RT5)) → Option (List RT5)) (g192_201 : List RT5 → Option (List RT5)) (g194 : List RT5 → Option (List RT5)) (g201 : RT5 → RT5 → (Int)) (k : Nat) (x : ((.cons (.slice RY2) (.cons (.slice RY2) .nil)) : Tys).den) : evFun (mkEnv ts109 (fs109 g191 g192_201 g194 g201)) H109 k body109 41 [.tmp 4, .tmp 5] (explodes (.cons (.slice RY2) (.cons (.slice RY2) .nil)) x) [] (dec (.cons (.slice RY2) (.cons (.int .i64) .nil))) = f109 g191 g192_201 g194 g201 k x.1 x.2.1 := by kernel_rfl
/-! ### jitney/jitref2.Lowest -/
def f205  (k : Nat) (x0 : Int) (x1 : Int) : Option RT2 :=
 Option.bind (α := RT2 ⊕ ((Int × Unit) × (Unit))) (iter (σ := RT0 × (Unit)) (τ := RT2 ⊕ ((Int × Unit) × (Unit))) k (fun y1 =>
   bif (y1.1.2.1 != (0 : Int)) then
    bif decide (y1.1.2.1 = 0) then
     none
    else
     some (.inl ((y1.1.2.1, (Int.tmod y1.1.1 y1.1.2.1), ()), ()))
   else
    some (.inr (.inr ((y1.1.1, ()), ())))) ((x0, x1, ()), ())) fun r => match r with
 | .inl z => some z
 | .inr z2 =>
  Option.bind (α := RT2 ⊕ ((Int × Unit) × (Unit))) (
    bif (decide (z2.1.1 < (0 : Int))) then
     some (.inr (((IntKind.i64.wrap (-z2.1.1)), ()), ()))
    else
     some (.inr ((z2.1.1, ()), ()))) fun r => match r with
  | .inl z => some z
  | .inr y3 =>
   bif decide (y3.1.1 = 0) then
    none
   else
    bif decide (y3.1.1 = 0) then
     none
    else
     some (((IntKind.i64.wrap (Int.tdiv x0 y3.1.1)), (IntKind.i64.wrap (Int.tdiv x1 y3.1.1)), ()), ())
def H205 : Hints where
 loop := fun n => match n with
  | 0 => some ({ slots := [(5, (.int .i64)), (6, (.int .i64))], objs := [], gone := [] }, 0, { slots := [(5, (.int .i64))], objs := [], gone := [] })
  | _ => none
 region := fun n => match n with
  | _ => none
 cond := fun n => match n with
  | 16 => some { slots := [(5, (.int .i64))], objs := [], gone := [] }
  | _ => none
 block := fun n => match n with
  | _ => none
abbrev A205 : Tys := (.cons (.int .i64) (.cons (.int .i64) .nil))
def ts205 : List (Nat × TD) := [(3, (.data (.int .i64))), (167, (.data RY0))]
noncomputable def fs205  : List (Nat × FSem) := []
noncomputable def body205 : Code := match Try.f205.body with | some c => c | none => .skip
theorem ty205 : chkTypes Try.prog ts205 = true := by kernel_rfl
theorem ev205  (k : Nat) (x : ((.cons (.int .i64) (.cons (.int .i64) .nil)) : Tys).den) : evFun (mkEnv ts205 (fs205 )) H205 k body205 26 [.cell 4 167] (explodes (.cons (.int .i64) (.cons (.int .i64) .nil)) x) [] (dec (.cons RY0 .nil)) = f205  k x.1 x.2.1 := by kernel_rfl
/-! ### jitney/jitref2.ScoreOf -/
def f110 (g101 : (List ByteArray) → (List ByteArray) → (Bool)) (g204 : RT5 → (List ByteArray)) (g205 : Int → Int → Option RT2) (k : Nat) (x0 : RT1) (x1 : List RT5) (x2 : ByteArray) (x3 : Int) : Option RT4 :=
 Option.bind (α := RT4 ⊕ (RT0 × (Int × Unit))) (iter (σ := RT1 × (Int × Unit)) (τ := RT4 ⊕ (RT0 × (Int × Unit))) k (fun y1 =>
   bif (decide (y1.1.2.2.1 < ((List.length x1 : Nat) : Int))) then
    bif (inR y1.1.2.2.1 ((List.length x1 : Nat) : Int)) then
     Option.bind (α := ((RT1 × (Int × Unit)) ⊕ (RT4 ⊕ (RT0 × (Int × Unit)))) ⊕ ((Bool × Unit) × RT6)) (
       bif (decide (0 ≤ (IntKind.i64.wrap (y1.1.2.2.1 + (1 : Int)))) && (decide ((IntKind.i64.wrap (y1.1.2.2.1 + (1 : Int))) ≤ ((List.length x1 : Nat) : Int)) && decide (((List.length x1 : Nat) : Int) ≤ ((List.length x1 : Nat) : Int)))) then
        Option.bind (α := (((RT1 × (Int × Unit)) ⊕ (RT4 ⊕ (RT0 × (Int × Unit)))) ⊕ ((Bool × Unit) × RT6)) ⊕ ((Unit) × RT7)) (iter (σ := (Int × Unit) × RT7) (τ := (((RT1 × (Int × Unit)) ⊕ (RT4 ⊕ (RT0 × (Int × Unit)))) ⊕ ((Bool × Unit) × RT6)) ⊕ ((Unit) × RT7)) k (fun y2 =>
          bif (decide (y2.1.1 < ((List.length (List.drop (Int.toNat (IntKind.i64.wrap (y1.1.2.2.1 + (1 : Int)))) (List.take (Int.toNat ((List.length x1 : Nat) : Int)) x1)) : Nat) : Int))) then
           bif (inR y2.1.1 ((List.length (List.drop (Int.toNat (IntKind.i64.wrap (y1.1.2.2.1 + (1 : Int)))) (List.take (Int.toNat ((List.length x1 : Nat) : Int)) x1)) : Nat) : Int)) then
            bif (g101 (g204 (rd (α := RT5) zRT5 (List.drop (Int.toNat (IntKind.i64.wrap (y1.1.2.2.1 + (1 : Int)))) (List.take (Int.toNat ((List.length x1 : Nat) : Int)) x1)) y2.1.1)) (g204 (y2.2.1.1, y2.2.1.2.1, y2.2.1.2.2.1, y2.2.1.2.2.2.1, y2.2.1.2.2.2.2.1, ()))) then
             bif (decide ((rd (α := RT5) zRT5 (List.drop (Int.toNat (IntKind.i64.wrap (y1.1.2.2.1 + (1 : Int)))) (List.take (Int.toNat ((List.length x1 : Nat) : Int)) x1)) y2.1.1).2.2.2.2.1 ≤ y2.2.2.1)) then
              some (.inr (.inl (.inr (((decide (y2.1.1 ≥ (0 : Int))), ()), (y2.2.2.1, (y2.2.1.1, y2.2.1.2.1, y2.2.1.2.2.1, y2.2.1.2.2.2.1, y2.2.1.2.2.2.2.1, ()), ())))))
             else
              some (.inl (((IntKind.i64.wrap (y2.1.1 + (1 : Int))), ()), ((y2.2.1.1, y2.2.1.2.1, y2.2.1.2.2.1, y2.2.1.2.2.2.1, y2.2.1.2.2.2.2.1, ()), y2.2.2.1, ())))
            else
             some (.inl (((IntKind.i64.wrap (y2.1.1 + (1 : Int))), ()), ((y2.2.1.1, y2.2.1.2.1, y2.2.1.2.2.1, y2.2.1.2.2.2.1, y2.2.1.2.2.2.2.1, ()), y2.2.2.1, ())))
           else
            none
          else
           some (.inr (.inr ((), ((y2.2.1.1, y2.2.1.2.1, y2.2.1.2.2.1, y2.2.1.2.2.2.1, y2.2.1.2.2.2.2.1, ()), y2.2.2.1, ()))))) (((0 : Int), ()), ((rd (α := RT5) zRT5 x1 y1.1.2.2.1), y1.2.1, ()))) fun r => match r with
        | .inl z => some z
        | .inr z3 =>
         some (.inr ((false, ()), (z3.2.2.1, (z3.2.1.1, z3.2.1.2.1, z3.2.1.2.2.1, z3.2.1.2.2.2.1, z3.2.1.2.2.2.2.1, ()), ())))
       else
        none) fun r => match r with
     | .inl z => some z
     | .inr y4 =>
      bif (!(sEq y4.2.2.1.2.1 x2)) then
       some (.inl ((y1.1.1, y1.1.2.1, (IntKind.i64.wrap (y1.1.2.2.1 + (1 : Int))), ()), (y4.2.1, ())))
      else
       bif (decide (y4.2.2.1.2.2.2.2.1 > y4.2.1)) then
        some (.inl ((y1.1.1, y1.1.2.1, (IntKind.i64.wrap (y1.1.2.2.1 + (1 : Int))), ()), (y4.2.1, ())))
       else
        bif y4.1.1 then
         some (.inl ((y1.1.1, y1.1.2.1, (IntKind.i64.wrap (y1.1.2.2.1 + (1 : Int))), ()), (y4.2.1, ())))
        else
         Option.bind (α := ((RT1 × (Int × Unit)) ⊕ (RT4 ⊕ (RT0 × (Int × Unit)))) ⊕ ((Int × Unit) × (Unit))) (
           bif (decide (x0.2.2.1 > (0 : Int))) then
            bif decide (x0.2.2.1 = 0) then
             none
            else
             Option.bind (α := (((RT1 × (Int × Unit)) ⊕ (RT4 ⊕ (RT0 × (Int × Unit)))) ⊕ ((Int × Unit) × (Unit))) ⊕ ((Int × Unit) × (Unit))) (iter (σ := RT0 × (Unit)) (τ := (((RT1 × (Int × Unit)) ⊕ (RT4 ⊕ (RT0 × (Int × Unit)))) ⊕ ((Int × Unit) × (Unit))) ⊕ ((Int × Unit) × (Unit))) k (fun y5 =>
               bif (decide (y5.1.2.1 < (if (decide ((IntKind.i64.wrap (Int.tdiv (IntKind.i64.wrap (y4.2.1 - y4.2.2.1.2.2.2.2.1)) x0.2.2.1)) < (10 : Int))) then (IntKind.i64.wrap (Int.tdiv (IntKind.i64.wrap (y4.2.1 - y4.2.2.1.2.2.2.2.1)) x0.2.2.1)) else (10 : Int)))) then
                some (.inl (((IntKind.i64.wrap (Int.tdiv y5.1.1 (2 : Int))), (IntKind.i64.wrap (y5.1.2.1 + (1 : Int))), ()), ()))
               else
                some (.inr (.inr ((y5.1.1, ()), ())))) (((1024 : Int), (0 : Int), ()), ())) fun r => match r with
             | .inl z => some z
             | .inr z6 =>
              some (.inr ((z6.1.1, ()), ()))
           else
            some (.inr (((1024 : Int), ()), ()))) fun r => match r with
         | .inl z => some z
         | .inr y7 =>
          some (.inl (((IntKind.i64.wrap (y1.1.1 + (IntKind.i64.wrap ((IntKind.i64.wrap (y7.1.1 * y4.2.2.1.2.2.2.1)) * (1000 : Int))))), (IntKind.i64.wrap (y1.1.2.1 + (IntKind.i64.wrap (y7.1.1 * (1000 : Int))))), (IntKind.i64.wrap (y1.1.2.2.1 + (1 : Int))), ()), (y4.2.1, ())))
    else
     none
   else
    some (.inr (.inr ((y1.1.1, y1.1.2.1, ()), (y1.2.1, ()))))) (((IntKind.i64.wrap ((IntKind.i64.wrap ((1024 : Int) * x0.1)) * x0.2.1)), (IntKind.i64.wrap ((IntKind.i64.wrap ((1024 : Int) * x0.1)) * (1000 : Int))), (0 : Int), ()), (x3, ()))) fun r => match r with
 | .inl z => some z
 | .inr z8 =>
  bif (z8.1.2.1 == (0 : Int)) then
   some zRT4
  else
   Option.bind (g205 z8.1.1 z8.1.2.1) fun v9 =>
   some (v9.1, true, ())
def H110 : Hints where
 loop := fun n => match n with
  | 0 => some ({ slots := [(10, (.int .i64)), (11, (.int .i64)), (28, (.int .i64))], objs := [(1, (.box (.data (.int .i64)) (.int .i64)))], gone := [] }, 0, { slots := [(10, (.int .i64)), (11, (.int .i64))], objs := [(1, (.box (.data (.int .i64)) (.int .i64)))], gone := [] })
  | 2 => some ({ slots := [(15, (.int .i64)), (63, (.int .i64))], objs := [], gone := [] }, 2, { slots := [(15, (.int .i64))], objs := [], gone := [] })
  | _ => none
 region := fun n => match n with
  | 5 => some { slots := [(14, .bool)], objs := [(1, (.box (.data (.int .i64)) (.int .i64))), (15, (.box (.data RY2) (.agg (.cons .str (.cons .str (.cons .str (.cons (.int .i64) (.cons (.int .i64) .nil))))))))], gone := [] }
  | _ => none
 cond := fun n => match n with
  | 54 => some { slots := [(15, (.int .i64))], objs := [], gone := [] }
  | _ => none
 block := fun n => match n with
  | _ => none
def Hi110_203 : Hints where
 loop := fun n => match n with
  | _ => none
 region := fun n => match n with
  | _ => none
 cond := fun n => match n with
  | _ => none
 block := fun n => match n with
  | _ => none
def tsi110_203 : List (Nat × TD) := [(3, (.data (.int .i64))), (165, (.data RY2))]
noncomputable def bodyi110_203 : Code := match Try.f203.body with | some c => c | none => .skip
noncomputable def fsi110_203 (g101 : (List ByteArray) → (List ByteArray) → (Bool)) (g204 : RT5 → (List ByteArray)) (g205 : Int → Int → Option RT2) (k : Nat) : List (Nat × FSem) := [(101, .fn (.cons (.slice .str) (.cons (.slice .str) .nil)) (.cons .bool .nil) fun x => ((g101 x.1 x.2.1), ())), (204, .fn (.cons RY2 .nil) (.cons (.slice .str) .nil) fun x => ((g204 x.1), ()))]
theorem tyi110_203 : chkTypes Try.prog tsi110_203 = true := by kernel_rfl
def Hi110_261 : Hints where
 loop := fun n => match n with
  | 0 => some ({ slots := [(8, (.int .i64))], objs := [(0, (.box (.data RY2) (.agg (.cons .str (.cons .str (.cons .str (.cons (.int .i64) (.cons (.int .i64) .nil)))))))), (1, (.box (.data (.int .i64)) (.int .i64)))], gone := [] }, 0, { slots := [], objs := [(0, (.box (.data RY2) (.agg (.cons .str (.cons .str (.cons .str (.cons (.int .i64) (.cons (.int .i64) .nil)))))))), (1, (.box (.data (.int .i64)) (.int .i64)))], gone := [] })
  | _ => none
 region := fun n => match n with
  | _ => none
 cond := fun n => match n with
  | _ => none
 block := fun n => match n with
  | _ => none
def tsi110_261 : List (Nat × TD) := [(3, (.data (.int .i64))), (160, (.data (.slice RY2))), (165, (.data RY2))]
noncomputable def bodyi110_261 : Code := match Try.f261.body with | some c => c | none => .skip
noncomputable def fsi110_261 (g101 : (List ByteArray) → (List ByteArray) → (Bool)) (g204 : RT5 → (List ByteArray)) (g205 : Int → Int → Option RT2) (k : Nat) : List (Nat × FSem) := [(203, .ev (mkEnv tsi110_203 (fsi110_203 g101 g204 g205 k)) Hi110_203 k bodyi110_203 16 [.tmp 4])]
theorem tyi110_261 : chkTypes Try.prog tsi110_261 = true := by kernel_rfl
def Hi110_202 : Hints where
 loop := fun n => match n with
  | _ => none
 region := fun n => match n with
  | _ => none
 cond := fun n => match n with
  | _ => none
 block := fun n => match n with
  | _ => none
def tsi110_202 : List (Nat × TD) := [(3, (.data (.int .i64)))]
noncomputable def bodyi110_202 : Code := match Try.f202.body with | some c => c | none => .skip
noncomputable def fsi110_202 (g101 : (List ByteArray) → (List ByteArray) → (Bool)) (g204 : RT5 → (List ByteArray)) (g205 : Int → Int → Option RT2) (k : Nat) : List (Nat × FSem) := [(261, .ev (mkEnv tsi110_261 (fsi110_261 g101 g204 g205 k)) Hi110_261 k bodyi110_261 19 [.tmp 4])]
theorem tyi110_202 : chkTypes Try.prog tsi110_202 = true := by kernel_rfl
abbrev A110 : Tys := (.cons RY1 (.cons (.slice RY2) (.cons .str (.cons (.int .i64) .nil))))
def ts110 : List (Nat × TD) := [(3, (.data (.int .i64))), (4, (.data .bool)), (9, (.data .str)), (159, (.data RY1)), (160, (.data (.slice RY2))), (165, (.data RY2)), (167, (.data RY0))]
noncomputable def fs110 (g101 : (List ByteArray) → (List ByteArray) → (Bool)) (g204 : RT5 → (List ByteArray)) (g205 : Int → Int → Option RT2) (k : Nat) : List (Nat × FSem) := [(202, .ev (mkEnv tsi110_202 (fsi110_202 g101 g204 g205 k)) Hi110_202 k bodyi110_202 9 [.tmp 4]), (205, .pfn (.cons (.int .i64) (.cons (.int .i64) .nil)) (.cons RY0 .nil) fun x => (g205 x.1 x.2.1))]
noncomputable def body110 : Code := match Try.f110.body with | some c => c | none => .skip
theorem ty110 : chkTypes Try.prog ts110 = true := by kernel_rfl
theorem ev110 (g101 : (List ByteArray) → (List ByteArray) → (Bool)) (g204 : RT5 → (List ByteArray)) (g205 : Int → Int → Option RT2) (k : Nat) (x : ((.cons RY1 (.cons (.slice RY2) (.cons .str (.cons (.int .i64) .nil)))) : Tys).den) : evFun (mkEnv ts110 (fs110 g101 g204 g205 k)) H110 k body110 86 [.cell 8 167, .tmp 9] (explodes (.cons RY1 (.cons (.slice RY2) (.cons .str (.cons (.int .i64) .nil)))) x) [] (dec (.cons RY0 (.cons .bool .nil))) = f110 g101 g204 g205 k x.1 x.2.1 x.2.2.1 x.2.2.2.1 := by kernel_rfl
/-! ### cmp.isNaN[uint64] -/
def f314  (k : Nat) (x0 : Int) : Option (Bool × Unit) :=
 some ((x0 != x0), ())
def H314 : Hints where
 loop := fun n => match n with
  | _ => none
 region := fun n => match n with
  | _ => none
 cond := fun n => match n with
  | _ => none
 block := fun n => match n with
  | _ => none
abbrev A314 : Tys := (.cons (.int .u64) .nil)
def ts314 : List (Nat × TD) := [(4, (.data .bool)), (319, (.data (.int .u64)))]
noncomputable def fs314  : List (Nat × FSem) := []
noncomputable def body314 : Code := match Try.f314.body with | some c => c | none => .skip
theorem ty314 : chkTypes Try.prog ts314 = true := by kernel_rfl
theorem ev314  (k : Nat) (x : ((.cons (.int .u64) .nil) : Tys).den) : evFun (mkEnv ts314 (fs314 )) H314 k body314 6 [.tmp 2] (explodes (.cons (.int .u64) .nil) x) [] (dec (.cons .bool .nil)) = f314  k x.1 := by kernel_rfl
/-! ### cmp.Compare[uint64] -/
def f262 (g314 : Int → (Bool)) (k : Nat) (x0 : Int) (x1 : Int) : Option (Int × Unit) :=
 bif (g314 x0) then
  bif (g314 x1) then
   some ((0 : Int), ())
  else
   some ((-1 : Int), ())
 else
  bif (g314 x1) then
   some ((1 : Int), ())
  else
   bif (decide (x0 < x1)) then
    some ((-1 : Int), ())
   else
    bif (decide (x0 > x1)) then
     some ((1 : Int), ())
    else
     some ((0 : Int), ())
def H262 : Hints where
 loop := fun n => match n with
  | _ => none
 region := fun n => match n with
  | _ => none
 cond := fun n => match n with
  | _ => none
 block := fun n => match n with
  | _ => none
abbrev A262 : Tys := (.cons (.int .u64) (.cons (.int .u64) .nil))
def ts262 : List (Nat × TD) := [(3, (.data (.int .i64))), (319, (.data (.int .u64)))]
noncomputable def fs262 (g314 : Int → (Bool)) : List (Nat × FSem) := [(314, .fn (.cons (.int .u64) .nil) (.cons .bool .nil) fun x => ((g314 x.1), ()))]
noncomputable def body262 : Code := match Try.f262.body with | some c => c | none => .skip
theorem ty262 : chkTypes Try.prog ts262 = true := by kernel_rfl
theorem ev262 (g314 : Int → (Bool)) (k : Nat) (x : ((.cons (.int .u64) (.cons (.int .u64) .nil)) : Tys).den) : evFun (mkEnv ts262 (fs262 g314)) H262 k body262 20 [.tmp 4] (explodes (.cons (.int .u64) (.cons (.int .u64) .nil)) x) [] (dec (.cons (.int .i64) .nil)) = f262 g314 k x.1 x.2.1 := by kernel_rfl
/-! ### jitney/jitref2.fractionOrder -/
def f207 (g260 : Int → Int → RT0) (g262 : Int → Int → (Int)) (k : Nat) (x0 : RT0) (x1 : RT0) : Option (Int × Unit) :=
 bif ((g262 ((g260 (IntKind.u64.wrap x0.1) (IntKind.u64.wrap x1.2.1)).1) ((g260 (IntKind.u64.wrap x1.1) (IntKind.u64.wrap x0.2.1)).1)) != (0 : Int)) then
  some ((g262 ((g260 (IntKind.u64.wrap x0.1) (IntKind.u64.wrap x1.2.1)).1) ((g260 (IntKind.u64.wrap x1.1) (IntKind.u64.wrap x0.2.1)).1)), ())
 else
  some ((g262 ((g260 (IntKind.u64.wrap x0.1) (IntKind.u64.wrap x1.2.1)).2.1) ((g260 (IntKind.u64.wrap x1.1) (IntKind.u64.wrap x0.2.1)).2.1)), ())
def H207 : Hints where
 loop := fun n => match n with
  | _ => none
 region := fun n => match n with
  | _ => none
 cond := fun n => match n with
  | _ => none
 block := fun n => match n with
  | _ => none
abbrev A207 : Tys := (.cons RY0 (.cons RY0 .nil))
def ts207 : List (Nat × TD) := [(3, (.data (.int .i64))), (167, (.data RY0)), (319, (.data (.int .u64)))]
noncomputable def fs207 (g260 : Int → Int → RT0) (g262 : Int → Int → (Int)) : List (Nat × FSem) := [(260, .fn (.cons (.int .u64) (.cons (.int .u64) .nil)) (.cons (.int .u64) (.cons (.int .u64) .nil)) fun x => (g260 x.1 x.2.1)), (262, .fn (.cons (.int .u64) (.cons (.int .u64) .nil)) (.cons (.int .i64) .nil) fun x => ((g262 x.1 x.2.1), ()))]
noncomputable def body207 : Code := match Try.f207.body with | some c => c | none => .skip
theorem ty207 : chkTypes Try.prog ts207 = true := by kernel_rfl
theorem ev207 (g260 : Int → Int → RT0) (g262 : Int → Int → (Int)) (k : Nat) (x : ((.cons RY0 (.cons RY0 .nil)) : Tys).den) : evFun (mkEnv ts207 (fs207 g260 g262)) H207 k body207 39 [.tmp 4] (explodes (.cons RY0 (.cons RY0 .nil)) x) [] (dec (.cons (.int .i64) .nil)) = f207 g260 g262 k x.1 x.2.1 := by kernel_rfl
/-! ### jitney/jitref2.RankedOf -/
noncomputable def f111 (m28 : (List ByteArray) → Option (List ByteArray)) (g110 : RT1 → (List RT5) → ByteArray → Int → Option RT4) (g129 : ByteArray → ByteArray → (Int)) (g207 : RT0 → RT0 → (Int)) (k : Nat) (x0 : RT1) (x1 : List RT5) (x2 : List ByteArray) (x3 : Int) : Option ((List ByteArray) × Unit) :=
 Option.bind (m28 x2) fun v1 =>
 Option.bind (sortP .str (fun (a2 : ByteArray) (b3 : ByteArray) =>
   Option.bind (g110 x0 x1 a2 x3) fun v4 =>
   Option.bind (g110 x0 x1 b3 x3) fun v5 =>
   Option.bind (α := (Int × Unit) ⊕ ((Bool × Unit) × (Unit))) (
     bif (!(v4.2.1 == v5.2.1)) then
      some (.inr ((v4.2.1, ()), ()))
     else
      some (.inr ((false, ()), ()))) fun r => match r with
   | .inl z => some z
   | .inr y6 =>
    bif y6.1.1 then
     some ((-1 : Int), ())
    else
     bif (!(v4.2.1 == v5.2.1)) then
      some ((1 : Int), ())
     else
      Option.bind (α := (Int × Unit) ⊕ ((Bool × Unit) × (Unit))) (
        bif v4.2.1 then
         some (.inr (((!((v4.1.1 == v5.1.1) && ((v4.1.2.1 == v5.1.2.1) && true))), ()), ()))
        else
         some (.inr ((false, ()), ()))) fun r => match r with
      | .inl z => some z
      | .inr y7 =>
       bif y7.1.1 then
        some ((g207 v5.1 v4.1), ())
       else
        some ((g129 a2 b3), ())) v1) fun v8 =>
 some (v8, ())
def H111 : Hints where
 loop := fun n => match n with
  | _ => none
 region := fun n => match n with
  | _ => none
 cond := fun n => match n with
  | _ => none
 block := fun n => match n with
  | _ => none
def Hi111_206 : Hints where
 loop := fun n => match n with
  | _ => none
 region := fun n => match n with
  | 3 => some { slots := [(28, .bool)], objs := [], gone := [] }
  | 7 => some { slots := [(39, .bool)], objs := [], gone := [] }
  | _ => none
 cond := fun n => match n with
  | _ => none
 block := fun n => match n with
  | _ => none
def tsi111_206 : List (Nat × TD) := [(3, (.data (.int .i64))), (4, (.data .bool)), (159, (.data RY1)), (160, (.data (.slice RY2))), (167, (.data RY0))]
noncomputable def bodyi111_206 : Code := match Try.f206.body with | some c => c | none => .skip
noncomputable def fsi111_206 (m28 : (List ByteArray) → Option (List ByteArray)) (g110 : RT1 → (List RT5) → ByteArray → Int → Option RT4) (g129 : ByteArray → ByteArray → (Int)) (g207 : RT0 → RT0 → (Int)) (k : Nat) : List (Nat × FSem) := [(110, .pfn (.cons RY1 (.cons (.slice RY2) (.cons .str (.cons (.int .i64) .nil)))) (.cons RY0 (.cons .bool .nil)) fun x => (g110 x.1 x.2.1 x.2.2.1 x.2.2.2.1)), (129, .fn (.cons .str (.cons .str .nil)) (.cons (.int .i64) .nil) fun x => ((g129 x.1 x.2.1), ())), (207, .fn (.cons RY0 (.cons RY0 .nil)) (.cons (.int .i64) .nil) fun x => ((g207 x.1 x.2.1), ()))]
theorem tyi111_206 : chkTypes Try.prog tsi111_206 = true := by kernel_rfl
abbrev A111 : Tys := (.cons RY1 (.cons (.slice RY2) (.cons (.slice .str) (.cons (.int .i64) .nil))))
def ts111 : List (Nat × TD) := [(3, (.data (.int .i64))), (41, (.data (.slice .str))), (159, (.data RY1)), (160, (.data (.slice RY2)))]
noncomputable def fs111 (m28 : (List ByteArray) → Option (List ByteArray)) (g110 : RT1 → (List RT5) → ByteArray → Int → Option RT4) (g129 : ByteArray → ByteArray → (Int)) (g207 : RT0 → RT0 → (Int)) (k : Nat) : List (Nat × FSem) := [(28, .mfn .str (.cons (.slice .str) .nil) fun x => m28 x.1), (198, .sortc .str 206 (mkEnv tsi111_206 (fsi111_206 m28 g110 g129 g207 k)) Hi111_206 k bodyi111_206 52 [.tmp 7])]
noncomputable def body111 : Code := match Try.f111.body with | some c => c | none => .skip
theorem ty111 : chkTypes Try.prog ts111 = true := by kernel_rfl
theorem ev111 (m28 : (List ByteArray) → Option (List ByteArray)) (g110 : RT1 → (List RT5) → ByteArray → Int → Option RT4) (g129 : ByteArray → ByteArray → (Int)) (g207 : RT0 → RT0 → (Int)) (k : Nat) (x : ((.cons RY1 (.cons (.slice RY2) (.cons (.slice .str) (.cons (.int .i64) .nil)))) : Tys).den) : evFun (mkEnv ts111 (fs111 m28 g110 g129 g207 k)) H111 k body111 16 [.tmp 8] (explodes (.cons RY1 (.cons (.slice RY2) (.cons (.slice .str) (.cons (.int .i64) .nil)))) x) [] (dec (.cons (.slice .str) .nil)) = f111 m28 g110 g129 g207 k x.1 x.2.1 x.2.2.1 x.2.2.2.1 := by kernel_rfl
/-! ### slices.Equal[[]jitney/api.Rating,jitney/api.Rating] -/
def f112  (k : Nat) (x0 : List RT5) (x1 : List RT5) : Option (Bool × Unit) :=
 bif (((List.length x0 : Nat) : Int) != ((List.length x1 : Nat) : Int)) then
  some (false, ())
 else
  Option.bind (α := (Bool × Unit) ⊕ ((Unit) × (Unit))) (iter (σ := (Int × Unit) × (Unit)) (τ := (Bool × Unit) ⊕ ((Unit) × (Unit))) k (fun y1 =>
    bif (decide (y1.1.1 < ((List.length x0 : Nat) : Int))) then
     bif (inR y1.1.1 ((List.length x0 : Nat) : Int)) then
      bif (inR y1.1.1 ((List.length x1 : Nat) : Int)) then
       bif (!((sEq ((rd (α := RT5) zRT5 x0 y1.1.1).1) ((rd (α := RT5) zRT5 x1 y1.1.1).1)) && ((sEq ((rd (α := RT5) zRT5 x0 y1.1.1).2.1) ((rd (α := RT5) zRT5 x1 y1.1.1).2.1)) && ((sEq ((rd (α := RT5) zRT5 x0 y1.1.1).2.2.1) ((rd (α := RT5) zRT5 x1 y1.1.1).2.2.1)) && (((rd (α := RT5) zRT5 x0 y1.1.1).2.2.2.1 == (rd (α := RT5) zRT5 x1 y1.1.1).2.2.2.1) && (((rd (α := RT5) zRT5 x0 y1.1.1).2.2.2.2.1 == (rd (α := RT5) zRT5 x1 y1.1.1).2.2.2.2.1) && true)))))) then
        some (.inr (.inl (false, ())))
       else
        some (.inl (((IntKind.i64.wrap (y1.1.1 + (1 : Int))), ()), ()))
      else
       none
     else
      none
    else
     some (.inr (.inr ((), ())))) (((0 : Int), ()), ())) fun r => match r with
  | .inl z => some z
  | .inr z2 =>
   some (true, ())
def H112 : Hints where
 loop := fun n => match n with
  | 0 => some ({ slots := [(13, (.int .i64))], objs := [], gone := [] }, 0, { slots := [], objs := [], gone := [] })
  | _ => none
 region := fun n => match n with
  | _ => none
 cond := fun n => match n with
  | _ => none
 block := fun n => match n with
  | _ => none
abbrev A112 : Tys := (.cons (.slice RY2) (.cons (.slice RY2) .nil))
def ts112 : List (Nat × TD) := [(3, (.data (.int .i64))), (4, (.data .bool)), (160, (.data (.slice RY2))), (165, (.data RY2))]
noncomputable def fs112  : List (Nat × FSem) := []
noncomputable def body112 : Code := match Try.f112.body with | some c => c | none => .skip
theorem ty112 : chkTypes Try.prog ts112 = true := by kernel_rfl
theorem ev112  (k : Nat) (x : ((.cons (.slice RY2) (.cons (.slice RY2) .nil)) : Tys).den) : evFun (mkEnv ts112 (fs112 )) H112 k body112 26 [.tmp 4] (explodes (.cons (.slice RY2) (.cons (.slice RY2) .nil)) x) [] (dec (.cons .bool .nil)) = f112  k x.1 x.2.1 := by kernel_rfl
/-! ### jitney/jitlaw2.RatingsScored -/
def f11 (g20 : (List Int) → (Int)) (g21 : Bool → Int → (Int)) (g28 : (List ByteArray) → Option ((List ByteArray) × Unit)) (g31 : ByteArray → (Bool)) (g32 : Int → (Int)) (g33 : (List ByteArray) → Int → (Int)) (g36 : Option (Bool × Unit)) (g101 : (List ByteArray) → (List ByteArray) → (Bool)) (g102 : (List RT5) → (List RT5) → Option ((List RT5) × Int × Unit)) (g103 : (List RT5) → Option ((List RT5) × Unit)) (g104 : RT1 → (List RT5) → ByteArray → Int → Option RT3) (g105 : RT1 → (List RT5) → (List ByteArray) → Int → Option ((List ByteArray) × Int × Unit)) (g106 : (List RT5) → (Int)) (g107 : (List RT5) → (Int)) (g108 : RT1 → (Int)) (g109 : (List RT5) → (List RT5) → Option ((List RT5) × Int × Unit)) (g110 : RT1 → (List RT5) → ByteArray → Int → Option RT4) (g111 : RT1 → (List RT5) → (List ByteArray) → Int → Option ((List ByteArray) × Unit)) (g112 : (List RT5) → (List RT5) → (Bool)) (k : Nat) (x0 : RT1) (x1 : List RT5) (x2 : List RT5) (x3 : ByteArray) (x4 : List ByteArray) (x5 : Int) : Option (Bool × Unit) :=
 Option.bind (g103 x1) fun v1 =>
 Option.bind (g103 x2) fun v2 =>
 Option.bind (g102 v1.1 v2.1) fun v3 =>
 Option.bind (g103 x1) fun v4 =>
 Option.bind (g104 x0 v4.1 x3 x5) fun v5 =>
 Option.bind (g103 x1) fun v6 =>
 Option.bind (g28 x4) fun v7 =>
 Option.bind (g105 x0 v6.1 v7.1 x5) fun v8 =>
 Option.bind (g103 x1) fun v9 =>
 bif ((g107 v9.1) != (g106 x1)) then
  some (false, ())
 else
  Option.bind (α := (Bool × Unit) ⊕ ((Int × (List RT5) × Unit) × (Unit))) (
    bif ((g20 ([(g106 x1), (g106 x2)])) == (0 : Int)) then
     Option.bind (g109 x1 x2) fun v10 =>
     some (.inr ((v10.2.1, v10.1, ()), ()))
    else
     some (.inr (((g20 ([(g106 x1), (g106 x2)])), [], ()), ()))) fun r => match r with
  | .inl z => some z
  | .inr y11 =>
   Option.bind (α := (Bool × Unit) ⊕ ((Int × Unit) × RT2)) (
     bif ((g20 ([(g106 x1), (g108 x0), (g21 (!(g31 x3)) (5 : Int)), (g32 x5)])) == (0 : Int)) then
      Option.bind (g110 x0 x1 x3 x5) fun v12 =>
      some (.inr (((g21 (!v12.2.1) (8 : Int)), ()), (v12.1, ())))
     else
      some (.inr (((g20 ([(g106 x1), (g108 x0), (g21 (!(g31 x3)) (5 : Int)), (g32 x5)])), ()), zRT2))) fun r => match r with
   | .inl z => some z
   | .inr y13 =>
    Option.bind (α := (Bool × Unit) ⊕ (((List ByteArray) × Unit) × (Unit))) (
      bif ((g20 ([(g106 x1), (g108 x0), (g33 x4 (500 : Int)), (g32 x5)])) == (0 : Int)) then
       Option.bind (g111 x0 x1 x4 x5) fun v14 =>
       some (.inr ((v14.1, ()), ()))
      else
       some (.inr (([], ()), ()))) fun r => match r with
    | .inl z => some z
    | .inr y15 =>
     bif (v3.2.1 == y11.1.1) then
      bif (g112 v3.1 y11.1.2.1) then
       bif (v5.2.1 == y13.1.1) then
        bif ((v5.1.1 == y13.2.1.1) && ((v5.1.2.1 == y13.2.1.2.1) && true)) then
         bif (v8.2.1 == (g20 ([(g106 x1), (g108 x0), (g33 x4 (500 : Int)), (g32 x5)]))) then
          bif (g101 v8.1 y15.1.1) then
           Option.bind g36 fun v16 =>
           some (v16.1, ())
          else
           some (false, ())
         else
          some (false, ())
        else
         some (false, ())
       else
        some (false, ())
      else
       some (false, ())
     else
      some (false, ())
def H11 : Hints where
 loop := fun n => match n with
  | _ => none
 region := fun n => match n with
  | _ => none
 cond := fun n => match n with
  | 88 => some { slots := [(20, (.int .i64)), (23, (.sl RY2))], objs := [], gone := [] }
  | 97 => some { slots := [(21, (.int .i64))], objs := [(28, (.box (.data RY0) (.agg (.cons (.int .i64) (.cons (.int .i64) .nil)))))], gone := [] }
  | 111 => some { slots := [(27, (.sl .str))], objs := [], gone := [] }
  | _ => none
 block := fun n => match n with
  | _ => none
abbrev A11 : Tys := (.cons RY1 (.cons (.slice RY2) (.cons (.slice RY2) (.cons .str (.cons (.slice .str) (.cons (.int .i64) .nil))))))
def ts11 : List (Nat × TD) := [(3, (.data (.int .i64))), (4, (.data .bool)), (9, (.data .str)), (28, (.data (.int .i64))), (41, (.data (.slice .str))), (159, (.data RY1)), (160, (.data (.slice RY2))), (167, (.data RY0)), (184, (.data (.slice (.int .i64))))]
noncomputable def fs11 (g20 : (List Int) → (Int)) (g21 : Bool → Int → (Int)) (g28 : (List ByteArray) → Option ((List ByteArray) × Unit)) (g31 : ByteArray → (Bool)) (g32 : Int → (Int)) (g33 : (List ByteArray) → Int → (Int)) (g36 : Option (Bool × Unit)) (g101 : (List ByteArray) → (List ByteArray) → (Bool)) (g102 : (List RT5) → (List RT5) → Option ((List RT5) × Int × Unit)) (g103 : (List RT5) → Option ((List RT5) × Unit)) (g104 : RT1 → (List RT5) → ByteArray → Int → Option RT3) (g105 : RT1 → (List RT5) → (List ByteArray) → Int → Option ((List ByteArray) × Int × Unit)) (g106 : (List RT5) → (Int)) (g107 : (List RT5) → (Int)) (g108 : RT1 → (Int)) (g109 : (List RT5) → (List RT5) → Option ((List RT5) × Int × Unit)) (g110 : RT1 → (List RT5) → ByteArray → Int → Option RT4) (g111 : RT1 → (List RT5) → (List ByteArray) → Int → Option ((List ByteArray) × Unit)) (g112 : (List RT5) → (List RT5) → (Bool)) : List (Nat × FSem) := [(20, .fn (.cons (.slice (.int .i64)) .nil) (.cons (.int .i64) .nil) fun x => ((g20 x.1), ())), (21, .fn (.cons .bool (.cons (.int .i64) .nil)) (.cons (.int .i64) .nil) fun x => ((g21 x.1 x.2.1), ())), (28, .pfn (.cons (.slice .str) .nil) (.cons (.slice .str) .nil) fun x => (g28 x.1)), (31, .fn (.cons .str .nil) (.cons .bool .nil) fun x => ((g31 x.1), ())), (32, .fn (.cons (.int .i64) .nil) (.cons (.int .i64) .nil) fun x => ((g32 x.1), ())), (33, .fn (.cons (.slice .str) (.cons (.int .i64) .nil)) (.cons (.int .i64) .nil) fun x => ((g33 x.1 x.2.1), ())), (36, .pfn .nil (.cons .bool .nil) fun x => g36), (101, .fn (.cons (.slice .str) (.cons (.slice .str) .nil)) (.cons .bool .nil) fun x => ((g101 x.1 x.2.1), ())), (102, .pfn (.cons (.slice RY2) (.cons (.slice RY2) .nil)) (.cons (.slice RY2) (.cons (.int .i64) .nil)) fun x => (g102 x.1 x.2.1)), (103, .pfn (.cons (.slice RY2) .nil) (.cons (.slice RY2) .nil) fun x => (g103 x.1)), (104, .pfn (.cons RY1 (.cons (.slice RY2) (.cons .str (.cons (.int .i64) .nil)))) (.cons RY0 (.cons (.int .i64) .nil)) fun x => (g104 x.1 x.2.1 x.2.2.1 x.2.2.2.1)), (105, .pfn (.cons RY1 (.cons (.slice RY2) (.cons (.slice .str) (.cons (.int .i64) .nil)))) (.cons (.slice .str) (.cons (.int .i64) .nil)) fun x => (g105 x.1 x.2.1 x.2.2.1 x.2.2.2.1)), (106, .fn (.cons (.slice RY2) .nil) (.cons (.int .i64) .nil) fun x => ((g106 x.1), ())), (107, .fn (.cons (.slice RY2) .nil) (.cons (.int .i64) .nil) fun x => ((g107 x.1), ())), (108, .fn (.cons RY1 .nil) (.cons (.int .i64) .nil) fun x => ((g108 x.1), ())), (109, .pfn (.cons (.slice RY2) (.cons (.slice RY2) .nil)) (.cons (.slice RY2) (.cons (.int .i64) .nil)) fun x => (g109 x.1 x.2.1)), (110, .pfn (.cons RY1 (.cons (.slice RY2) (.cons .str (.cons (.int .i64) .nil)))) (.cons RY0 (.cons .bool .nil)) fun x => (g110 x.1 x.2.1 x.2.2.1 x.2.2.2.1)), (111, .pfn (.cons RY1 (.cons (.slice RY2) (.cons (.slice .str) (.cons (.int .i64) .nil)))) (.cons (.slice .str) .nil) fun x => (g111 x.1 x.2.1 x.2.2.1 x.2.2.2.1)), (112, .fn (.cons (.slice RY2) (.cons (.slice RY2) .nil)) (.cons .bool .nil) fun x => ((g112 x.1 x.2.1), ()))]
noncomputable def body11 : Code := match Try.f11.body with | some c => c | none => .skip
theorem ty11 : chkTypes Try.prog ts11 = true := by kernel_rfl
theorem ev11 (g20 : (List Int) → (Int)) (g21 : Bool → Int → (Int)) (g28 : (List ByteArray) → Option ((List ByteArray) × Unit)) (g31 : ByteArray → (Bool)) (g32 : Int → (Int)) (g33 : (List ByteArray) → Int → (Int)) (g36 : Option (Bool × Unit)) (g101 : (List ByteArray) → (List ByteArray) → (Bool)) (g102 : (List RT5) → (List RT5) → Option ((List RT5) × Int × Unit)) (g103 : (List RT5) → Option ((List RT5) × Unit)) (g104 : RT1 → (List RT5) → ByteArray → Int → Option RT3) (g105 : RT1 → (List RT5) → (List ByteArray) → Int → Option ((List ByteArray) × Int × Unit)) (g106 : (List RT5) → (Int)) (g107 : (List RT5) → (Int)) (g108 : RT1 → (Int)) (g109 : (List RT5) → (List RT5) → Option ((List RT5) × Int × Unit)) (g110 : RT1 → (List RT5) → ByteArray → Int → Option RT4) (g111 : RT1 → (List RT5) → (List ByteArray) → Int → Option ((List ByteArray) × Unit)) (g112 : (List RT5) → (List RT5) → (Bool)) (k : Nat) (x : ((.cons RY1 (.cons (.slice RY2) (.cons (.slice RY2) (.cons .str (.cons (.slice .str) (.cons (.int .i64) .nil)))))) : Tys).den) : evFun (mkEnv ts11 (fs11 g20 g21 g28 g31 g32 g33 g36 g101 g102 g103 g104 g105 g106 g107 g108 g109 g110 g111 g112)) H11 k body11 148 [.tmp 12] (explodes (.cons RY1 (.cons (.slice RY2) (.cons (.slice RY2) (.cons .str (.cons (.slice .str) (.cons (.int .i64) .nil)))))) x) [] (dec (.cons .bool .nil)) = f11 g20 g21 g28 g31 g32 g33 g36 g101 g102 g103 g104 g105 g106 g107 g108 g109 g110 g111 g112 k x.1 x.2.1 x.2.2.1 x.2.2.2.1 x.2.2.2.2.1 x.2.2.2.2.2.1 := by kernel_rfl
end Go.Vm
