/- The program's functions, as an own tool reads them off its form. -/
import Derived.Test.YtbjpkdbneopgkaaGreatDoorASnd
import Derived.Test.YtbjpkdbneopgkaaGreatDoorVmD
import Derived.Test.YtbjpkdbneopgkaaGreatDoorVmQ
import Derived.Test.YtbjpkdbneopgkaaGreatDoorProg
set_option maxRecDepth 100000
set_option linter.unusedVariables false
namespace Go.Vm
open Go.Proofs
abbrev ET0 : Type := (Int × Bool × Unit)
abbrev ET1 : Type := (ByteArray × Int × Unit)
abbrev ET2 : Type := ((ByteArray × Unit) × Unit)
abbrev ET3 : Type := (ByteArray × Int × Int × Unit)
abbrev ET4 : Type := (ByteArray × ByteArray × Bool × Unit)
abbrev ET5 : Type := (ByteArray × ByteArray × ByteArray × ByteArray × Int × Int × Int × Int × Unit)
abbrev ET6 : Type := (ByteArray × Int × Int × Int × ByteArray × ByteArray × ET3 × ET5 × Unit)
abbrev ET7 : Type := (ET6 × Unit)
abbrev ET8 : Type := (ET6 × Bool × Unit)
abbrev zET2 : ET2 := ((ByteArray.empty, ()), ())
abbrev zET3 : ET3 := (ByteArray.empty, (0 : Int), (0 : Int), ())
abbrev zET5 : ET5 := (ByteArray.empty, ByteArray.empty, ByteArray.empty, ByteArray.empty, (0 : Int), (0 : Int), (0 : Int), (0 : Int), ())
abbrev zET6 : ET6 := (ByteArray.empty, (0 : Int), (0 : Int), (0 : Int), ByteArray.empty, ByteArray.empty, zET3, zET5, ())
abbrev zET8 : ET8 := (zET6, false, ())
abbrev EY0 : Ty := (.struct (.cons .str (.cons (.int .i64) .nil)))
abbrev EY1 : Ty := (.struct (.cons .str (.cons (.int .i64) (.cons (.int .i64) .nil))))
abbrev EY2 : Ty := (.struct (.cons .str (.cons .str (.cons .str (.cons .str (.cons (.int .i64) (.cons (.int .i64) (.cons (.int .i64) (.cons (.int .i64) .nil)))))))))
abbrev EY3 : Ty := (.struct (.cons .str (.cons (.int .i64) (.cons (.int .i64) (.cons (.int .i64) (.cons .str (.cons .str (.cons EY1 (.cons EY2 .nil)))))))))
/-! ### jitney/jitref2.DeedFault -/
def f56 (g31 : Int → (Bool)) (g32 : Int → Int → Int → (Bool)) (g33 : ET5 → (Int)) (g34 : ByteArray → (Bool)) (k : Nat) (x0 : ET6) : Option (Int × Unit) :=
 bif (!(g34 x0.1)) then
 some ((5 : Int), ())
 else
 bif (!(g32 x0.2.1 (1 : Int) (1000000 : Int))) then
 some ((1 : Int), ())
 else
 bif (!(g31 x0.2.2.1)) then
 some ((1 : Int), ())
 else
 bif (!(g32 x0.2.2.2.1 (1 : Int) (4 : Int))) then
 some ((4 : Int), ())
 else
 Option.bind (α := (Int × Unit) ⊕ ((Unit) × ET7)) (
 bif (x0.2.2.2.1 == (1 : Int)) then
 bif (!(g34 x0.2.2.2.2.2.2.1.1)) then
 some (.inl ((5 : Int), ()))
 else
 bif (!(g34 x0.2.2.2.2.2.1)) then
 some (.inl ((5 : Int), ()))
 else
 bif (!(g32 x0.2.2.2.2.2.2.1.2.1 (0 : Int) (60 : Int))) then
 some (.inl ((1 : Int), ()))
 else
 bif (!(g32 x0.2.2.2.2.2.2.1.2.2.1 (0 : Int) (60 : Int))) then
 some (.inl ((1 : Int), ()))
 else
 some (.inr ((), (((ByteArray.mk #[]), (0 : Int), (0 : Int), (0 : Int), x0.2.2.2.2.1, (ByteArray.mk #[]), zET3, x0.2.2.2.2.2.2.2.1, ()), ())))
 else
 bif (x0.2.2.2.1 == (3 : Int)) then
 bif ((g33 x0.2.2.2.2.2.2.2.1) != (0 : Int)) then
 some (.inl ((g33 x0.2.2.2.2.2.2.2.1), ()))
 else
 some (.inr ((), (((ByteArray.mk #[]), (0 : Int), (0 : Int), (0 : Int), x0.2.2.2.2.1, x0.2.2.2.2.2.1, x0.2.2.2.2.2.2.1, zET5, ()), ())))
 else
 bif (!(g34 x0.2.2.2.2.1)) then
 some (.inl ((5 : Int), ()))
 else
 some (.inr ((), (((ByteArray.mk #[]), (0 : Int), (0 : Int), (0 : Int), (ByteArray.mk #[]), x0.2.2.2.2.2.1, x0.2.2.2.2.2.2.1, x0.2.2.2.2.2.2.2.1, ()), ())))) fun r => match r with
 | .inl z => some z
 | .inr y1 =>
 bif (!((sEq y1.2.1.1 ByteArray.empty) && ((y1.2.1.2.1 == (0 : Int)) && ((y1.2.1.2.2.1 == (0 : Int)) && ((y1.2.1.2.2.2.1 == (0 : Int)) && ((sEq y1.2.1.2.2.2.2.1 ByteArray.empty) && ((sEq y1.2.1.2.2.2.2.2.1 ByteArray.empty) && (((sEq y1.2.1.2.2.2.2.2.2.1.1 ByteArray.empty) && ((y1.2.1.2.2.2.2.2.2.1.2.1 == (0 : Int)) && ((y1.2.1.2.2.2.2.2.2.1.2.2.1 == (0 : Int)) && true))) && (((sEq y1.2.1.2.2.2.2.2.2.2.1.1 ByteArray.empty) && ((sEq y1.2.1.2.2.2.2.2.2.2.1.2.1 ByteArray.empty) && ((sEq y1.2.1.2.2.2.2.2.2.2.1.2.2.1 ByteArray.empty) && ((sEq y1.2.1.2.2.2.2.2.2.2.1.2.2.2.1 ByteArray.empty) && ((y1.2.1.2.2.2.2.2.2.2.1.2.2.2.2.1 == (0 : Int)) && ((y1.2.1.2.2.2.2.2.2.2.1.2.2.2.2.2.1 == (0 : Int)) && ((y1.2.1.2.2.2.2.2.2.2.1.2.2.2.2.2.2.1 == (0 : Int)) && ((y1.2.1.2.2.2.2.2.2.2.1.2.2.2.2.2.2.2.1 == (0 : Int)) && true)))))))) && true))))))))) then
 some ((3 : Int), ())
 else
 some ((0 : Int), ())
def H56 : Hints where
 loop := fun n => match n with
  | _ => none
 region := fun n => match n with
  | _ => none
 cond := fun n => match n with
  | _ => none
 block := fun n => match n with
  | 1 => some { slots := [], objs := [(1, (.box (.data EY3) (.agg (.cons .str (.cons (.int .i64) (.cons (.int .i64) (.cons (.int .i64) (.cons .str (.cons .str (.cons (.agg (.cons .str (.cons (.int .i64) (.cons (.int .i64) .nil)))) (.cons (.agg (.cons .str (.cons .str (.cons .str (.cons .str (.cons (.int .i64) (.cons (.int .i64) (.cons (.int .i64) (.cons (.int .i64) .nil))))))))) .nil)))))))))))], gone := [] }
  | _ => none
abbrev A56 : Tys := (.cons EY3 .nil)
def ts56 : List (Nat × TD) := [(3, (.data (.int .i64))), (9, (.data .str)), (23, (.data (.int .i64))), (31, (.data EY2)), (45, (.data EY1)), (47, (.data EY3))]
noncomputable def fs56 (g31 : Int → (Bool)) (g32 : Int → Int → Int → (Bool)) (g33 : ET5 → (Int)) (g34 : ByteArray → (Bool)) : List (Nat × FSem) := [(31, .fn (.cons (.int .i64) .nil) (.cons .bool .nil) fun x => ((g31 x.1), ())), (32, .fn (.cons (.int .i64) (.cons (.int .i64) (.cons (.int .i64) .nil))) (.cons .bool .nil) fun x => ((g32 x.1 x.2.1 x.2.2.1), ())), (33, .fn (.cons EY2 .nil) (.cons (.int .i64) .nil) fun x => ((g33 x.1), ())), (34, .fn (.cons .str .nil) (.cons .bool .nil) fun x => ((g34 x.1), ()))]
noncomputable def body56 : Code := match Tryz.f56.body with | some c => c | none => .skip
theorem ty56 : chkTypes Tryz.prog ts56 = true := by kernel_rfl
theorem ev56 (g31 : Int → (Bool)) (g32 : Int → Int → Int → (Bool)) (g33 : ET5 → (Int)) (g34 : ByteArray → (Bool)) (k : Nat) (x : ((.cons EY3 .nil) : Tys).den) : evFun (mkEnv ts56 (fs56 g31 g32 g33 g34)) H56 k body56 79 [.tmp 2] (explodes (.cons EY3 .nil) x) [] (dec (.cons (.int .i64) .nil)) = f56 g31 g32 g33 g34 k x.1 := by kernel_rfl
/-! ### jitney/jitref2.DeedOrder -/
def f57 (g75 : Int → (Int)) (g76 : ByteArray → ByteArray → (Int)) (k : Nat) (x0 : ET6) (x1 : ET6) : Option (Int × Unit) :=
 bif (x0.2.2.1 != x1.2.2.1) then
 some ((g75 (IntKind.i64.wrap (x0.2.2.1 - x1.2.2.1))), ())
 else
 bif (!(sEq x0.1 x1.1)) then
 some ((g76 x0.1 x1.1), ())
 else
 some ((g75 (IntKind.i64.wrap (x0.2.1 - x1.2.1))), ())
def H57 : Hints := hint0
abbrev A57 : Tys := (.cons EY3 (.cons EY3 .nil))
def ts57 : List (Nat × TD) := [(3, (.data (.int .i64))), (9, (.data .str)), (47, (.data EY3))]
noncomputable def fs57 (g75 : Int → (Int)) (g76 : ByteArray → ByteArray → (Int)) : List (Nat × FSem) := [(75, .fn (.cons (.int .i64) .nil) (.cons (.int .i64) .nil) fun x => ((g75 x.1), ())), (76, .fn (.cons .str (.cons .str .nil)) (.cons (.int .i64) .nil) fun x => ((g76 x.1 x.2.1), ()))]
noncomputable def body57 : Code := match Tryz.f57.body with | some c => c | none => .skip
theorem ty57 : chkTypes Tryz.prog ts57 = true := by kernel_rfl
theorem ev57 (g75 : Int → (Int)) (g76 : ByteArray → ByteArray → (Int)) (k : Nat) (x : ((.cons EY3 (.cons EY3 .nil)) : Tys).den) : evFun (mkEnv ts57 (fs57 g75 g76)) H57 k body57 34 [.tmp 4] (explodes (.cons EY3 (.cons EY3 .nil)) x) [] (dec (.cons (.int .i64) .nil)) = f57 g75 g76 k x.1 x.2.1 := by kernel_rfl
/-! ### jitney/jitref2.sameNo -/
def f60  (k : Nat) (x0 : ET6) (x1 : ET6) : Option (Bool × Unit) :=
 bif (sEq x0.1 x1.1) then
 some ((x0.2.1 == x1.2.1), ())
 else
 some (false, ())
def H60 : Hints := hint0
abbrev A60 : Tys := (.cons EY3 (.cons EY3 .nil))
def ts60 : List (Nat × TD) := [(3, (.data (.int .i64))), (4, (.data .bool)), (9, (.data .str)), (47, (.data EY3))]
noncomputable def fs60  : List (Nat × FSem) := []
noncomputable def body60 : Code := match Tryz.f60.body with | some c => c | none => .skip
theorem ty60 : chkTypes Tryz.prog ts60 = true := by kernel_rfl
theorem ev60  (k : Nat) (x : ((.cons EY3 (.cons EY3 .nil)) : Tys).den) : evFun (mkEnv ts60 (fs60 )) H60 k body60 17 [.tmp 4] (explodes (.cons EY3 (.cons EY3 .nil)) x) [] (dec (.cons .bool .nil)) = f60  k x.1 x.2.1 := by kernel_rfl
/-! ### jitney/jitref2.DeedsFault -/
def f15 (g56 : ET6 → (Int)) (g57 : ET6 → ET6 → (Int)) (g60 : ET6 → ET6 → (Bool)) (k : Nat) (x0 : List ET6) : Option (Int × Unit) :=
 bif (decide (((List.length x0 : Nat) : Int) > (1000 : Int))) then
 some ((2 : Int), ())
 else
 Option.bind (α := (Int × Unit) ⊕ ((Unit) × (Unit))) (iter (σ := (Int × Unit) × (Unit)) (τ := (Int × Unit) ⊕ ((Unit) × (Unit))) k (fun y1 =>
 bif (decide (y1.1.1 < ((List.length x0 : Nat) : Int))) then
 bif (inR y1.1.1 ((List.length x0 : Nat) : Int)) then
 bif ((g56 (rd (α := ET6) zET6 x0 y1.1.1)) != (0 : Int)) then
 some (.inr (.inl ((g56 (rd (α := ET6) zET6 x0 y1.1.1)), ())))
 else
 bif (decide (y1.1.1 > (0 : Int))) then
 bif (inR (IntKind.i64.wrap (y1.1.1 - (1 : Int))) ((List.length x0 : Nat) : Int)) then
 bif (decide ((g57 (rd (α := ET6) zET6 x0 (IntKind.i64.wrap (y1.1.1 - (1 : Int)))) (rd (α := ET6) zET6 x0 y1.1.1)) ≥ (0 : Int))) then
 some (.inr (.inl ((7 : Int), ())))
 else
 some (.inl (((IntKind.i64.wrap (y1.1.1 + (1 : Int))), ()), ()))
 else
 none
 else
 some (.inl (((IntKind.i64.wrap (y1.1.1 + (1 : Int))), ()), ()))
 else
 none
 else
 some (.inr (.inr ((), ())))) (((0 : Int), ()), ())) fun r => match r with
 | .inl z => some z
 | .inr z2 =>
 Option.bind (α := (Int × Unit) ⊕ ((Unit) × (Unit))) (iter (σ := (Int × Unit) × (Unit)) (τ := (Int × Unit) ⊕ ((Unit) × (Unit))) k (fun y3 =>
 bif (decide (y3.1.1 < ((List.length x0 : Nat) : Int))) then
 bif (inR y3.1.1 ((List.length x0 : Nat) : Int)) then
 bif (decide (0 ≤ (0 : Int)) && (decide ((0 : Int) ≤ y3.1.1) && decide (y3.1.1 ≤ ((List.length x0 : Nat) : Int)))) then
 Option.bind (α := (((Int × Unit) × (Unit)) ⊕ ((Int × Unit) ⊕ ((Unit) × (Unit)))) ⊕ ((Unit) × ET7)) (iter (σ := (Int × Unit) × ET7) (τ := (((Int × Unit) × (Unit)) ⊕ ((Int × Unit) ⊕ ((Unit) × (Unit)))) ⊕ ((Unit) × ET7)) k (fun y4 =>
 bif (decide (y4.1.1 < ((List.length (List.drop (Int.toNat (0 : Int)) (List.take (Int.toNat y3.1.1) x0)) : Nat) : Int))) then
 bif (inR y4.1.1 ((List.length (List.drop (Int.toNat (0 : Int)) (List.take (Int.toNat y3.1.1) x0)) : Nat) : Int)) then
 bif (g60 (rd (α := ET6) zET6 (List.drop (Int.toNat (0 : Int)) (List.take (Int.toNat y3.1.1) x0)) y4.1.1) (y4.2.1.1, y4.2.1.2.1, y4.2.1.2.2.1, y4.2.1.2.2.2.1, y4.2.1.2.2.2.2.1, y4.2.1.2.2.2.2.2.1, (y4.2.1.2.2.2.2.2.2.1.1, y4.2.1.2.2.2.2.2.2.1.2.1, y4.2.1.2.2.2.2.2.2.1.2.2.1, ()), (y4.2.1.2.2.2.2.2.2.2.1.1, y4.2.1.2.2.2.2.2.2.2.1.2.1, y4.2.1.2.2.2.2.2.2.2.1.2.2.1, y4.2.1.2.2.2.2.2.2.2.1.2.2.2.1, y4.2.1.2.2.2.2.2.2.2.1.2.2.2.2.1, y4.2.1.2.2.2.2.2.2.2.1.2.2.2.2.2.1, y4.2.1.2.2.2.2.2.2.2.1.2.2.2.2.2.2.1, y4.2.1.2.2.2.2.2.2.2.1.2.2.2.2.2.2.2.1, ()), ())) then
 Option.map (fun z => .inr (.inl z)) (
 bif (decide (y4.1.1 ≥ (0 : Int))) then
 some (.inr (.inl ((6 : Int), ())))
 else
 some (.inl (((IntKind.i64.wrap (y3.1.1 + (1 : Int))), ()), ())))
 else
 some (.inl (((IntKind.i64.wrap (y4.1.1 + (1 : Int))), ()), ((y4.2.1.1, y4.2.1.2.1, y4.2.1.2.2.1, y4.2.1.2.2.2.1, y4.2.1.2.2.2.2.1, y4.2.1.2.2.2.2.2.1, (y4.2.1.2.2.2.2.2.2.1.1, y4.2.1.2.2.2.2.2.2.1.2.1, y4.2.1.2.2.2.2.2.2.1.2.2.1, ()), (y4.2.1.2.2.2.2.2.2.2.1.1, y4.2.1.2.2.2.2.2.2.2.1.2.1, y4.2.1.2.2.2.2.2.2.2.1.2.2.1, y4.2.1.2.2.2.2.2.2.2.1.2.2.2.1, y4.2.1.2.2.2.2.2.2.2.1.2.2.2.2.1, y4.2.1.2.2.2.2.2.2.2.1.2.2.2.2.2.1, y4.2.1.2.2.2.2.2.2.2.1.2.2.2.2.2.2.1, y4.2.1.2.2.2.2.2.2.2.1.2.2.2.2.2.2.2.1, ()), ()), ())))
 else
 none
 else
 some (.inr (.inr ((), ((y4.2.1.1, y4.2.1.2.1, y4.2.1.2.2.1, y4.2.1.2.2.2.1, y4.2.1.2.2.2.2.1, y4.2.1.2.2.2.2.2.1, (y4.2.1.2.2.2.2.2.2.1.1, y4.2.1.2.2.2.2.2.2.1.2.1, y4.2.1.2.2.2.2.2.2.1.2.2.1, ()), (y4.2.1.2.2.2.2.2.2.2.1.1, y4.2.1.2.2.2.2.2.2.2.1.2.1, y4.2.1.2.2.2.2.2.2.2.1.2.2.1, y4.2.1.2.2.2.2.2.2.2.1.2.2.2.1, y4.2.1.2.2.2.2.2.2.2.1.2.2.2.2.1, y4.2.1.2.2.2.2.2.2.2.1.2.2.2.2.2.1, y4.2.1.2.2.2.2.2.2.2.1.2.2.2.2.2.2.1, y4.2.1.2.2.2.2.2.2.2.1.2.2.2.2.2.2.2.1, ()), ()), ()))))) (((0 : Int), ()), ((rd (α := ET6) zET6 x0 y3.1.1), ()))) fun r => match r with
 | .inl z => some z
 | .inr z5 =>
 some (.inl (((IntKind.i64.wrap (y3.1.1 + (1 : Int))), ()), ()))
 else
 none
 else
 none
 else
 some (.inr (.inr ((), ())))) (((0 : Int), ()), ())) fun r => match r with
 | .inl z => some z
 | .inr z6 =>
 some ((0 : Int), ())
def H15 : Hints where
 loop := fun n => match n with
  | 0 => some ({ slots := [(13, (.int .i64))], objs := [], gone := [] }, 0, { slots := [], objs := [], gone := [] })
  | 2 => some ({ slots := [(38, (.int .i64))], objs := [], gone := [] }, 2, { slots := [], objs := [], gone := [] })
  | _ => none
 region := fun n => match n with
  | _ => none
 cond := fun n => match n with
  | _ => none
 block := fun n => match n with
  | _ => none
def Hi15_59 : Hints := hint0
def tsi15_59 : List (Nat × TD) := [(47, (.data EY3))]
noncomputable def bodyi15_59 : Code := match Tryz.f59.body with | some c => c | none => .skip
noncomputable def fsi15_59 (g56 : ET6 → (Int)) (g57 : ET6 → ET6 → (Int)) (g60 : ET6 → ET6 → (Bool)) (k : Nat) : List (Nat × FSem) := [(60, .fn (.cons EY3 (.cons EY3 .nil)) (.cons .bool .nil) fun x => ((g60 x.1 x.2.1), ()))]
theorem tyi15_59 : chkTypes Tryz.prog tsi15_59 = true := by kernel_rfl
def Hi15_92 : Hints where
 loop := fun n => match n with
  | 0 => some ({ slots := [(8, (.int .i64))], objs := [(0, (.box (.data EY3) (.agg (.cons .str (.cons (.int .i64) (.cons (.int .i64) (.cons (.int .i64) (.cons .str (.cons .str (.cons (.agg (.cons .str (.cons (.int .i64) (.cons (.int .i64) .nil)))) (.cons (.agg (.cons .str (.cons .str (.cons .str (.cons .str (.cons (.int .i64) (.cons (.int .i64) (.cons (.int .i64) (.cons (.int .i64) .nil))))))))) .nil)))))))))))], gone := [] }, 0, { slots := [], objs := [(0, (.box (.data EY3) (.agg (.cons .str (.cons (.int .i64) (.cons (.int .i64) (.cons (.int .i64) (.cons .str (.cons .str (.cons (.agg (.cons .str (.cons (.int .i64) (.cons (.int .i64) .nil)))) (.cons (.agg (.cons .str (.cons .str (.cons .str (.cons .str (.cons (.int .i64) (.cons (.int .i64) (.cons (.int .i64) (.cons (.int .i64) .nil))))))))) .nil)))))))))))], gone := [] })
  | _ => none
 region := fun n => match n with
  | _ => none
 cond := fun n => match n with
  | _ => none
 block := fun n => match n with
  | _ => none
def tsi15_92 : List (Nat × TD) := [(3, (.data (.int .i64))), (39, (.data (.slice EY3))), (47, (.data EY3))]
noncomputable def bodyi15_92 : Code := match Tryz.f92.body with | some c => c | none => .skip
noncomputable def fsi15_92 (g56 : ET6 → (Int)) (g57 : ET6 → ET6 → (Int)) (g60 : ET6 → ET6 → (Bool)) (k : Nat) : List (Nat × FSem) := [(59, .ev (mkEnv tsi15_59 (fsi15_59 g56 g57 g60 k)) Hi15_59 k bodyi15_59 7 [.tmp 3])]
theorem tyi15_92 : chkTypes Tryz.prog tsi15_92 = true := by kernel_rfl
def Hi15_58 : Hints := hint0
def tsi15_58 : List (Nat × TD) := [(3, (.data (.int .i64)))]
noncomputable def bodyi15_58 : Code := match Tryz.f58.body with | some c => c | none => .skip
noncomputable def fsi15_58 (g56 : ET6 → (Int)) (g57 : ET6 → ET6 → (Int)) (g60 : ET6 → ET6 → (Bool)) (k : Nat) : List (Nat × FSem) := [(92, .ev (mkEnv tsi15_92 (fsi15_92 g56 g57 g60 k)) Hi15_92 k bodyi15_92 19 [.tmp 4])]
theorem tyi15_58 : chkTypes Tryz.prog tsi15_58 = true := by kernel_rfl
abbrev A15 : Tys := (.cons (.slice EY3) .nil)
def ts15 : List (Nat × TD) := [(3, (.data (.int .i64))), (23, (.data (.int .i64))), (39, (.data (.slice EY3))), (47, (.data EY3))]
noncomputable def fs15 (g56 : ET6 → (Int)) (g57 : ET6 → ET6 → (Int)) (g60 : ET6 → ET6 → (Bool)) (k : Nat) : List (Nat × FSem) := [(56, .fn (.cons EY3 .nil) (.cons (.int .i64) .nil) fun x => ((g56 x.1), ())), (57, .fn (.cons EY3 (.cons EY3 .nil)) (.cons (.int .i64) .nil) fun x => ((g57 x.1 x.2.1), ())), (58, .ev (mkEnv tsi15_58 (fsi15_58 g56 g57 g60 k)) Hi15_58 k bodyi15_58 9 [.tmp 4])]
noncomputable def body15 : Code := match Tryz.f15.body with | some c => c | none => .skip
theorem ty15 : chkTypes Tryz.prog ts15 = true := by kernel_rfl
theorem ev15 (g56 : ET6 → (Int)) (g57 : ET6 → ET6 → (Int)) (g60 : ET6 → ET6 → (Bool)) (k : Nat) (x : ((.cons (.slice EY3) .nil) : Tys).den) : evFun (mkEnv ts15 (fs15 g56 g57 g60 k)) H15 k body15 49 [.tmp 2] (explodes (.cons (.slice EY3) .nil) x) [] (dec (.cons (.int .i64) .nil)) = f15 g56 g57 g60 k x.1 := by kernel_rfl
/-! ### jitney/jitref2.DeedLines -/
def f16 (g36 : (List Int) → Option (ByteArray × Unit)) (g42 : (List ByteArray) → ByteArray → Option (ByteArray × Unit)) (k : Nat) (x0 : List ET6) : Option (ByteArray × Unit) :=
 Option.bind (α := (ByteArray × Unit) ⊕ ((ByteArray × Unit) × (Unit))) (iter (σ := ET1 × (Unit)) (τ := (ByteArray × Unit) ⊕ ((ByteArray × Unit) × (Unit))) k (fun y1 =>
 bif (decide (y1.1.2.1 < ((List.length x0 : Nat) : Int))) then
 bif (inR y1.1.2.1 ((List.length x0 : Nat) : Int)) then
 bif decide (ByteArray.size ((rd (α := ET6) zET6 x0 y1.1.2.1).1) + ByteArray.size (ByteArray.mk #[32]) < 4611686018427387904) then
 Option.bind (g36 ([(rd (α := ET6) zET6 x0 y1.1.2.1).2.1, (rd (α := ET6) zET6 x0 y1.1.2.1).2.2.1])) fun v2 =>
 bif decide (ByteArray.size ((rd (α := ET6) zET6 x0 y1.1.2.1).1 ++ (ByteArray.mk #[32])) + ByteArray.size v2.1 < 4611686018427387904) then
 bif decide (ByteArray.size (((rd (α := ET6) zET6 x0 y1.1.2.1).1 ++ (ByteArray.mk #[32])) ++ v2.1) + ByteArray.size (ByteArray.mk #[32]) < 4611686018427387904) then
 bif decide (ByteArray.size y1.1.1 + ByteArray.size ((((rd (α := ET6) zET6 x0 y1.1.2.1).1 ++ (ByteArray.mk #[32])) ++ v2.1) ++ (ByteArray.mk #[32])) < 4611686018427387904) then
 Option.bind (α := ((ET1 × (Unit)) ⊕ ((ByteArray × Unit) ⊕ ((ByteArray × Unit) × (Unit)))) ⊕ ((ByteArray × Unit) × (Unit))) (
 bif ((rd (α := ET6) zET6 x0 y1.1.2.1).2.2.2.1 == (1 : Int)) then
 bif decide (ByteArray.size (ByteArray.mk #[99, 97, 114, 32]) + ByteArray.size ((rd (α := ET6) zET6 x0 y1.1.2.1).2.2.2.2.2.2.1.1) < 4611686018427387904) then
 bif decide (ByteArray.size ((ByteArray.mk #[99, 97, 114, 32]) ++ (rd (α := ET6) zET6 x0 y1.1.2.1).2.2.2.2.2.2.1.1) + ByteArray.size (ByteArray.mk #[32]) < 4611686018427387904) then
 Option.bind (g36 ([(rd (α := ET6) zET6 x0 y1.1.2.1).2.2.2.2.2.2.1.2.1, (rd (α := ET6) zET6 x0 y1.1.2.1).2.2.2.2.2.2.1.2.2.1])) fun v3 =>
 bif decide (ByteArray.size (((ByteArray.mk #[99, 97, 114, 32]) ++ (rd (α := ET6) zET6 x0 y1.1.2.1).2.2.2.2.2.2.1.1) ++ (ByteArray.mk #[32])) + ByteArray.size v3.1 < 4611686018427387904) then
 bif decide (ByteArray.size ((((ByteArray.mk #[99, 97, 114, 32]) ++ (rd (α := ET6) zET6 x0 y1.1.2.1).2.2.2.2.2.2.1.1) ++ (ByteArray.mk #[32])) ++ v3.1) + ByteArray.size (ByteArray.mk #[32]) < 4611686018427387904) then
 bif decide (ByteArray.size (((((ByteArray.mk #[99, 97, 114, 32]) ++ (rd (α := ET6) zET6 x0 y1.1.2.1).2.2.2.2.2.2.1.1) ++ (ByteArray.mk #[32])) ++ v3.1) ++ (ByteArray.mk #[32])) + ByteArray.size ((rd (α := ET6) zET6 x0 y1.1.2.1).2.2.2.2.2.1) < 4611686018427387904) then
 bif decide (ByteArray.size (y1.1.1 ++ ((((rd (α := ET6) zET6 x0 y1.1.2.1).1 ++ (ByteArray.mk #[32])) ++ v2.1) ++ (ByteArray.mk #[32]))) + ByteArray.size ((((((ByteArray.mk #[99, 97, 114, 32]) ++ (rd (α := ET6) zET6 x0 y1.1.2.1).2.2.2.2.2.2.1.1) ++ (ByteArray.mk #[32])) ++ v3.1) ++ (ByteArray.mk #[32])) ++ (rd (α := ET6) zET6 x0 y1.1.2.1).2.2.2.2.2.1) < 4611686018427387904) then
 some (.inr ((((y1.1.1 ++ ((((rd (α := ET6) zET6 x0 y1.1.2.1).1 ++ (ByteArray.mk #[32])) ++ v2.1) ++ (ByteArray.mk #[32]))) ++ ((((((ByteArray.mk #[99, 97, 114, 32]) ++ (rd (α := ET6) zET6 x0 y1.1.2.1).2.2.2.2.2.2.1.1) ++ (ByteArray.mk #[32])) ++ v3.1) ++ (ByteArray.mk #[32])) ++ (rd (α := ET6) zET6 x0 y1.1.2.1).2.2.2.2.2.1)), ()), ()))
 else
 none
 else
 none
 else
 none
 else
 none
 else
 none
 else
 none
 else
 bif ((rd (α := ET6) zET6 x0 y1.1.2.1).2.2.2.1 == (2 : Int)) then
 bif decide (ByteArray.size (ByteArray.mk #[97, 119, 97, 121, 32]) + ByteArray.size ((rd (α := ET6) zET6 x0 y1.1.2.1).2.2.2.2.1) < 4611686018427387904) then
 bif decide (ByteArray.size (y1.1.1 ++ ((((rd (α := ET6) zET6 x0 y1.1.2.1).1 ++ (ByteArray.mk #[32])) ++ v2.1) ++ (ByteArray.mk #[32]))) + ByteArray.size ((ByteArray.mk #[97, 119, 97, 121, 32]) ++ (rd (α := ET6) zET6 x0 y1.1.2.1).2.2.2.2.1) < 4611686018427387904) then
 some (.inr ((((y1.1.1 ++ ((((rd (α := ET6) zET6 x0 y1.1.2.1).1 ++ (ByteArray.mk #[32])) ++ v2.1) ++ (ByteArray.mk #[32]))) ++ ((ByteArray.mk #[97, 119, 97, 121, 32]) ++ (rd (α := ET6) zET6 x0 y1.1.2.1).2.2.2.2.1)), ()), ()))
 else
 none
 else
 none
 else
 bif ((rd (α := ET6) zET6 x0 y1.1.2.1).2.2.2.1 == (3 : Int)) then
 Option.bind (g36 ([(rd (α := ET6) zET6 x0 y1.1.2.1).2.2.2.2.2.2.2.1.2.2.2.2.1, (rd (α := ET6) zET6 x0 y1.1.2.1).2.2.2.2.2.2.2.1.2.2.2.2.2.1, (rd (α := ET6) zET6 x0 y1.1.2.1).2.2.2.2.2.2.2.1.2.2.2.2.2.2.1, (rd (α := ET6) zET6 x0 y1.1.2.1).2.2.2.2.2.2.2.1.2.2.2.2.2.2.2.1])) fun v4 =>
 Option.bind (g42 ([(ByteArray.mk #[97, 115, 107]), (rd (α := ET6) zET6 x0 y1.1.2.1).2.2.2.2.2.2.2.1.1, (rd (α := ET6) zET6 x0 y1.1.2.1).2.2.2.2.2.2.2.1.2.1, (rd (α := ET6) zET6 x0 y1.1.2.1).2.2.2.2.2.2.2.1.2.2.1, (rd (α := ET6) zET6 x0 y1.1.2.1).2.2.2.2.2.2.2.1.2.2.2.1, v4.1]) (ByteArray.mk #[32])) fun v5 =>
 bif decide (ByteArray.size (y1.1.1 ++ ((((rd (α := ET6) zET6 x0 y1.1.2.1).1 ++ (ByteArray.mk #[32])) ++ v2.1) ++ (ByteArray.mk #[32]))) + ByteArray.size v5.1 < 4611686018427387904) then
 some (.inr ((((y1.1.1 ++ ((((rd (α := ET6) zET6 x0 y1.1.2.1).1 ++ (ByteArray.mk #[32])) ++ v2.1) ++ (ByteArray.mk #[32]))) ++ v5.1), ()), ()))
 else
 none
 else
 bif decide (ByteArray.size (ByteArray.mk #[100, 114, 111, 112, 32]) + ByteArray.size ((rd (α := ET6) zET6 x0 y1.1.2.1).2.2.2.2.1) < 4611686018427387904) then
 bif decide (ByteArray.size (y1.1.1 ++ ((((rd (α := ET6) zET6 x0 y1.1.2.1).1 ++ (ByteArray.mk #[32])) ++ v2.1) ++ (ByteArray.mk #[32]))) + ByteArray.size ((ByteArray.mk #[100, 114, 111, 112, 32]) ++ (rd (α := ET6) zET6 x0 y1.1.2.1).2.2.2.2.1) < 4611686018427387904) then
 some (.inr ((((y1.1.1 ++ ((((rd (α := ET6) zET6 x0 y1.1.2.1).1 ++ (ByteArray.mk #[32])) ++ v2.1) ++ (ByteArray.mk #[32]))) ++ ((ByteArray.mk #[100, 114, 111, 112, 32]) ++ (rd (α := ET6) zET6 x0 y1.1.2.1).2.2.2.2.1)), ()), ()))
 else
 none
 else
 none) fun r => match r with
 | .inl z => some z
 | .inr y6 =>
 bif decide (ByteArray.size y6.1.1 + ByteArray.size (ByteArray.mk #[10]) < 4611686018427387904) then
 some (.inl (((y6.1.1 ++ (ByteArray.mk #[10])), (IntKind.i64.wrap (y1.1.2.1 + (1 : Int))), ()), ()))
 else
 none
 else
 none
 else
 none
 else
 none
 else
 none
 else
 none
 else
 some (.inr (.inr ((y1.1.1, ()), ())))) (((ByteArray.mk #[]), (0 : Int), ()), ())) fun r => match r with
 | .inl z => some z
 | .inr z7 =>
 some (z7.1.1, ())
def H16 : Hints where
 loop := fun n => match n with
  | 0 => some ({ slots := [(3, .str), (9, (.int .i64))], objs := [], gone := [] }, 0, { slots := [(3, .str)], objs := [], gone := [] })
  | _ => none
 region := fun n => match n with
  | _ => none
 cond := fun n => match n with
  | _ => none
 block := fun n => match n with
  | 2 => some { slots := [(3, .str)], objs := [], gone := [] }
  | _ => none
abbrev A16 : Tys := (.cons (.slice EY3) .nil)
def ts16 : List (Nat × TD) := [(3, (.data (.int .i64))), (9, (.data .str)), (31, (.data EY2)), (39, (.data (.slice EY3))), (45, (.data EY1)), (47, (.data EY3)), (69, (.data (.slice .str))), (91, (.data (.slice (.int .i64))))]
noncomputable def fs16 (g36 : (List Int) → Option (ByteArray × Unit)) (g42 : (List ByteArray) → ByteArray → Option (ByteArray × Unit)) : List (Nat × FSem) := [(36, .pfn (.cons (.slice (.int .i64)) .nil) (.cons .str .nil) fun x => (g36 x.1)), (42, .pfn (.cons (.slice .str) (.cons .str .nil)) (.cons .str .nil) fun x => (g42 x.1 x.2.1))]
noncomputable def body16 : Code := match Tryz.f16.body with | some c => c | none => .skip
theorem ty16 : chkTypes Tryz.prog ts16 = true := by kernel_rfl
theorem ev16 (g36 : (List Int) → Option (ByteArray × Unit)) (g42 : (List ByteArray) → ByteArray → Option (ByteArray × Unit)) (k : Nat) (x : ((.cons (.slice EY3) .nil) : Tys).den) : evFun (mkEnv ts16 (fs16 g36 g42)) H16 k body16 92 [.tmp 2] (explodes (.cons (.slice EY3) .nil) x) [] (dec (.cons .str .nil)) = f16 g36 g42 k x.1 := by kernel_rfl
/-! ### jitney/net.deedFault -/
def f93 (g98 : ByteArray → (Bool)) (g99 : Int → Int → Int → (Bool)) (g105 : Int → (Bool)) (g106 : ET5 → (Int)) (k : Nat) (x0 : ET6) : Option (Int × Unit) :=
 bif (!(g98 x0.1)) then
 some ((5 : Int), ())
 else
 bif (g99 x0.2.1 (1 : Int) (1000000 : Int)) then
 some ((1 : Int), ())
 else
 bif (!(g105 x0.2.2.1)) then
 some ((1 : Int), ())
 else
 bif (g99 x0.2.2.2.1 (1 : Int) (4 : Int)) then
 some ((4 : Int), ())
 else
 Option.bind (α := (Int × Unit) ⊕ ((Unit) × ET7)) (
 bif (x0.2.2.2.1 == (1 : Int)) then
 bif (!(g98 x0.2.2.2.2.2.2.1.1)) then
 some (.inl ((5 : Int), ()))
 else
 bif (!(g98 x0.2.2.2.2.2.1)) then
 some (.inl ((5 : Int), ()))
 else
 bif (g99 x0.2.2.2.2.2.2.1.2.1 (0 : Int) (60 : Int)) then
 some (.inl ((1 : Int), ()))
 else
 bif (g99 x0.2.2.2.2.2.2.1.2.2.1 (0 : Int) (60 : Int)) then
 some (.inl ((1 : Int), ()))
 else
 some (.inr ((), ((x0.1, x0.2.1, x0.2.2.1, x0.2.2.2.1, ByteArray.empty, x0.2.2.2.2.2.1, x0.2.2.2.2.2.2.1, zET5, ()), ())))
 else
 bif (x0.2.2.2.1 == (3 : Int)) then
 bif ((g106 x0.2.2.2.2.2.2.2.1) != (0 : Int)) then
 some (.inl ((g106 x0.2.2.2.2.2.2.2.1), ()))
 else
 some (.inr ((), ((x0.1, x0.2.1, x0.2.2.1, x0.2.2.2.1, ByteArray.empty, ByteArray.empty, zET3, x0.2.2.2.2.2.2.2.1, ()), ())))
 else
 bif (!(g98 x0.2.2.2.2.1)) then
 some (.inl ((5 : Int), ()))
 else
 some (.inr ((), ((x0.1, x0.2.1, x0.2.2.1, x0.2.2.2.1, x0.2.2.2.2.1, ByteArray.empty, zET3, zET5, ()), ())))) fun r => match r with
 | .inl z => some z
 | .inr y1 =>
 bif (!((sEq x0.1 y1.2.1.1) && ((x0.2.1 == y1.2.1.2.1) && ((x0.2.2.1 == y1.2.1.2.2.1) && ((x0.2.2.2.1 == y1.2.1.2.2.2.1) && ((sEq x0.2.2.2.2.1 y1.2.1.2.2.2.2.1) && ((sEq x0.2.2.2.2.2.1 y1.2.1.2.2.2.2.2.1) && (((sEq x0.2.2.2.2.2.2.1.1 y1.2.1.2.2.2.2.2.2.1.1) && ((x0.2.2.2.2.2.2.1.2.1 == y1.2.1.2.2.2.2.2.2.1.2.1) && ((x0.2.2.2.2.2.2.1.2.2.1 == y1.2.1.2.2.2.2.2.2.1.2.2.1) && true))) && (((sEq x0.2.2.2.2.2.2.2.1.1 y1.2.1.2.2.2.2.2.2.2.1.1) && ((sEq x0.2.2.2.2.2.2.2.1.2.1 y1.2.1.2.2.2.2.2.2.2.1.2.1) && ((sEq x0.2.2.2.2.2.2.2.1.2.2.1 y1.2.1.2.2.2.2.2.2.2.1.2.2.1) && ((sEq x0.2.2.2.2.2.2.2.1.2.2.2.1 y1.2.1.2.2.2.2.2.2.2.1.2.2.2.1) && ((x0.2.2.2.2.2.2.2.1.2.2.2.2.1 == y1.2.1.2.2.2.2.2.2.2.1.2.2.2.2.1) && ((x0.2.2.2.2.2.2.2.1.2.2.2.2.2.1 == y1.2.1.2.2.2.2.2.2.2.1.2.2.2.2.2.1) && ((x0.2.2.2.2.2.2.2.1.2.2.2.2.2.2.1 == y1.2.1.2.2.2.2.2.2.2.1.2.2.2.2.2.2.1) && ((x0.2.2.2.2.2.2.2.1.2.2.2.2.2.2.2.1 == y1.2.1.2.2.2.2.2.2.2.1.2.2.2.2.2.2.2.1) && true)))))))) && true))))))))) then
 some ((3 : Int), ())
 else
 some ((0 : Int), ())
def H93 : Hints where
 loop := fun n => match n with
  | _ => none
 region := fun n => match n with
  | _ => none
 cond := fun n => match n with
  | _ => none
 block := fun n => match n with
  | 1 => some { slots := [], objs := [(1, (.box (.data EY3) (.agg (.cons .str (.cons (.int .i64) (.cons (.int .i64) (.cons (.int .i64) (.cons .str (.cons .str (.cons (.agg (.cons .str (.cons (.int .i64) (.cons (.int .i64) .nil)))) (.cons (.agg (.cons .str (.cons .str (.cons .str (.cons .str (.cons (.int .i64) (.cons (.int .i64) (.cons (.int .i64) (.cons (.int .i64) .nil))))))))) .nil)))))))))))], gone := [] }
  | _ => none
abbrev A93 : Tys := (.cons EY3 .nil)
def ts93 : List (Nat × TD) := [(3, (.data (.int .i64))), (9, (.data .str)), (23, (.data (.int .i64))), (31, (.data EY2)), (45, (.data EY1)), (47, (.data EY3))]
noncomputable def fs93 (g98 : ByteArray → (Bool)) (g99 : Int → Int → Int → (Bool)) (g105 : Int → (Bool)) (g106 : ET5 → (Int)) : List (Nat × FSem) := [(98, .fn (.cons .str .nil) (.cons .bool .nil) fun x => ((g98 x.1), ())), (99, .fn (.cons (.int .i64) (.cons (.int .i64) (.cons (.int .i64) .nil))) (.cons .bool .nil) fun x => ((g99 x.1 x.2.1 x.2.2.1), ())), (105, .fn (.cons (.int .i64) .nil) (.cons .bool .nil) fun x => ((g105 x.1), ())), (106, .fn (.cons EY2 .nil) (.cons (.int .i64) .nil) fun x => ((g106 x.1), ()))]
noncomputable def body93 : Code := match Tryz.f93.body with | some c => c | none => .skip
theorem ty93 : chkTypes Tryz.prog ts93 = true := by kernel_rfl
theorem ev93 (g98 : ByteArray → (Bool)) (g99 : Int → Int → Int → (Bool)) (g105 : Int → (Bool)) (g106 : ET5 → (Int)) (k : Nat) (x : ((.cons EY3 .nil) : Tys).den) : evFun (mkEnv ts93 (fs93 g98 g99 g105 g106)) H93 k body93 87 [.tmp 2] (explodes (.cons EY3 .nil) x) [] (dec (.cons (.int .i64) .nil)) = f93 g98 g99 g105 g106 k x.1 := by kernel_rfl
/-! ### jitney/net.byMoment -/
def f94 (g76 : ByteArray → ByteArray → (Int)) (g108 : (List Int) → (Int)) (g109 : Int → Int → (Int)) (k : Nat) (x0 : ET6) (x1 : ET6) : Option (Int × Unit) :=
 some ((g108 ([(g109 x0.2.2.1 x1.2.2.1), (g76 x0.1 x1.1), (g109 x0.2.1 x1.2.1)])), ())
def H94 : Hints := hint0
abbrev A94 : Tys := (.cons EY3 (.cons EY3 .nil))
def ts94 : List (Nat × TD) := [(3, (.data (.int .i64))), (9, (.data .str)), (47, (.data EY3)), (91, (.data (.slice (.int .i64))))]
noncomputable def fs94 (g76 : ByteArray → ByteArray → (Int)) (g108 : (List Int) → (Int)) (g109 : Int → Int → (Int)) : List (Nat × FSem) := [(76, .fn (.cons .str (.cons .str .nil)) (.cons (.int .i64) .nil) fun x => ((g76 x.1 x.2.1), ())), (108, .fn (.cons (.slice (.int .i64)) .nil) (.cons (.int .i64) .nil) fun x => ((g108 x.1), ())), (109, .fn (.cons (.int .i64) (.cons (.int .i64) .nil)) (.cons (.int .i64) .nil) fun x => ((g109 x.1 x.2.1), ()))]
noncomputable def body94 : Code := match Tryz.f94.body with | some c => c | none => .skip
theorem ty94 : chkTypes Tryz.prog ts94 = true := by kernel_rfl
theorem ev94 (g76 : ByteArray → ByteArray → (Int)) (g108 : (List Int) → (Int)) (g109 : Int → Int → (Int)) (k : Nat) (x : ((.cons EY3 (.cons EY3 .nil)) : Tys).den) : evFun (mkEnv ts94 (fs94 g76 g108 g109)) H94 k body94 22 [.tmp 4] (explodes (.cons EY3 (.cons EY3 .nil)) x) [] (dec (.cons (.int .i64) .nil)) = f94 g76 g108 g109 k x.1 x.2.1 := by kernel_rfl
/-! ### jitney/net.CheckDeeds -/
def f61 (g93 : ET6 → (Int)) (g94 : ET6 → ET6 → (Int)) (k : Nat) (x0 : List ET6) : Option (Int × Unit) :=
 bif (decide (((List.length x0 : Nat) : Int) > (1000 : Int))) then
 some ((2 : Int), ())
 else
 Option.bind (α := (Int × Unit) ⊕ ((Unit) × (Unit))) (iter (σ := (Int × Unit) × (Unit)) (τ := (Int × Unit) ⊕ ((Unit) × (Unit))) k (fun y1 =>
 bif (decide (y1.1.1 < ((List.length x0 : Nat) : Int))) then
 bif (inR y1.1.1 ((List.length x0 : Nat) : Int)) then
 bif ((g93 (rd (α := ET6) zET6 x0 y1.1.1)) != (0 : Int)) then
 some (.inr (.inl ((g93 (rd (α := ET6) zET6 x0 y1.1.1)), ())))
 else
 bif (decide (y1.1.1 > (0 : Int))) then
 bif (inR (IntKind.i64.wrap (y1.1.1 - (1 : Int))) ((List.length x0 : Nat) : Int)) then
 bif (decide ((g94 (rd (α := ET6) zET6 x0 y1.1.1) (rd (α := ET6) zET6 x0 (IntKind.i64.wrap (y1.1.1 - (1 : Int))))) ≤ (0 : Int))) then
 some (.inr (.inl ((7 : Int), ())))
 else
 some (.inl (((IntKind.i64.wrap (y1.1.1 + (1 : Int))), ()), ()))
 else
 none
 else
 some (.inl (((IntKind.i64.wrap (y1.1.1 + (1 : Int))), ()), ()))
 else
 none
 else
 some (.inr (.inr ((), ())))) (((0 : Int), ()), ())) fun r => match r with
 | .inl z => some z
 | .inr z2 =>
 Option.bind (α := (Int × Unit) ⊕ ((Unit) × ((MapC EY0 .bool) × Unit))) (iter (σ := (Int × Unit) × ((MapC EY0 .bool) × Unit)) (τ := (Int × Unit) ⊕ ((Unit) × ((MapC EY0 .bool) × Unit))) k (fun y3 =>
 bif (decide (y3.1.1 < ((List.length x0 : Nat) : Int))) then
 bif (inR y3.1.1 ((List.length x0 : Nat) : Int)) then
 bif (mget (keq EY0) false ((rd (α := ET6) zET6 x0 y3.1.1).1, (rd (α := ET6) zET6 x0 y3.1.1).2.1, ()) y3.2.1.1) then
 some (.inr (.inl ((6 : Int), ())))
 else
 some (.inl (((IntKind.i64.wrap (y3.1.1 + (1 : Int))), ()), ((mput (keq EY0) ((rd (α := ET6) zET6 x0 y3.1.1).1, (rd (α := ET6) zET6 x0 y3.1.1).2.1, ()) true y3.2.1), ())))
 else
 none
 else
 some (.inr (.inr ((), (y3.2.1, ()))))) (((0 : Int), ()), ((([], 0) : MapC EY0 .bool), ()))) fun r => match r with
 | .inl z => some z
 | .inr z4 =>
 some ((0 : Int), ())
def H61 : Hints where
 loop := fun n => match n with
  | 0 => some ({ slots := [(14, (.int .i64))], objs := [], gone := [] }, 0, { slots := [], objs := [], gone := [] })
  | 2 => some ({ slots := [(40, (.int .i64))], objs := [(0, (.map EY0 .bool))], gone := [] }, 2, { slots := [], objs := [(0, (.map EY0 .bool))], gone := [] })
  | _ => none
 region := fun n => match n with
  | _ => none
 cond := fun n => match n with
  | _ => none
 block := fun n => match n with
  | _ => none
abbrev A61 : Tys := (.cons (.slice EY3) .nil)
def ts61 : List (Nat × TD) := [(3, (.data (.int .i64))), (9, (.data .str)), (23, (.data (.int .i64))), (39, (.data (.slice EY3))), (47, (.data EY3)), (133, (.map EY0 .bool)), (135, (.data EY0))]
noncomputable def fs61 (g93 : ET6 → (Int)) (g94 : ET6 → ET6 → (Int)) : List (Nat × FSem) := [(93, .fn (.cons EY3 .nil) (.cons (.int .i64) .nil) fun x => ((g93 x.1), ())), (94, .fn (.cons EY3 (.cons EY3 .nil)) (.cons (.int .i64) .nil) fun x => ((g94 x.1 x.2.1), ()))]
noncomputable def body61 : Code := match Tryz.f61.body with | some c => c | none => .skip
theorem ty61 : chkTypes Tryz.prog ts61 = true := by kernel_rfl
theorem ev61 (g93 : ET6 → (Int)) (g94 : ET6 → ET6 → (Int)) (k : Nat) (x : ((.cons (.slice EY3) .nil) : Tys).den) : evFun (mkEnv ts61 (fs61 g93 g94)) H61 k body61 58 [.tmp 2] (explodes (.cons (.slice EY3) .nil) x) [] (dec (.cons (.int .i64) .nil)) = f61 g93 g94 k x.1 := by kernel_rfl
/-! ### jitney/net.kinds -/
def f62  (k : Nat)  : Option ((List ByteArray) × Unit) :=
 some ([(ByteArray.mk #[99, 97, 114]), (ByteArray.mk #[97, 119, 97, 121]), (ByteArray.mk #[97, 115, 107]), (ByteArray.mk #[100, 114, 111, 112])], ())
def H62 : Hints := hint0
abbrev A62 : Tys := .nil
def ts62 : List (Nat × TD) := [(69, (.data (.slice .str)))]
noncomputable def fs62  : List (Nat × FSem) := []
noncomputable def body62 : Code := match Tryz.f62.body with | some c => c | none => .skip
theorem ty62 : chkTypes Tryz.prog ts62 = true := by kernel_rfl
theorem ev62  (k : Nat) (x : (.nil : Tys).den) : evFun (mkEnv ts62 (fs62 )) H62 k body62 2 [.tmp 0] (explodes .nil x) [] (dec (.cons (.slice .str) .nil)) = f62  k  := by kernel_rfl
/-! ### jitney/net.Text -/
def f17 (g39 : Int → Option (ByteArray × Unit)) (g42 : (List ByteArray) → ByteArray → Option (ByteArray × Unit)) (g61 : (List ET6) → (Int)) (g62 : (List ByteArray)) (k : Nat) (x0 : List ET6) : Option ET1 :=
 bif ((g61 x0) != (0 : Int)) then
 some ((ByteArray.mk #[]), (g61 x0), ())
 else
 Option.bind (α := ET1 ⊕ ((Unit) × ET2)) (iter (σ := (Int × Unit) × ET2) (τ := ET1 ⊕ ((Unit) × ET2)) k (fun y1 =>
 bif (decide (y1.1.1 < ((List.length x0 : Nat) : Int))) then
 bif (inR y1.1.1 ((List.length x0 : Nat) : Int)) then
 Option.bind (g39 ((rd (α := ET6) zET6 x0 y1.1.1).2.1)) fun v2 =>
 Option.bind (g39 ((rd (α := ET6) zET6 x0 y1.1.1).2.2.1)) fun v3 =>
 bif (inR (IntKind.i64.wrap ((rd (α := ET6) zET6 x0 y1.1.1).2.2.2.1 - (1 : Int))) ((List.length g62 : Nat) : Int)) then
 Option.bind (α := (((Int × Unit) × ET2) ⊕ (ET1 ⊕ ((Unit) × ET2))) ⊕ (((List ByteArray) × Unit) × (Unit))) (
 bif ((rd (α := ET6) zET6 x0 y1.1.1).2.2.2.1 == (1 : Int)) then
 Option.bind (g39 ((rd (α := ET6) zET6 x0 y1.1.1).2.2.2.2.2.2.1.2.1)) fun v4 =>
 Option.bind (g39 ((rd (α := ET6) zET6 x0 y1.1.1).2.2.2.2.2.2.1.2.2.1)) fun v5 =>
 bif decide (List.length ([(rd (α := ET6) zET6 x0 y1.1.1).1, v2.1, v3.1, (rd (α := ByteArray) ByteArray.empty g62 (IntKind.i64.wrap ((rd (α := ET6) zET6 x0 y1.1.1).2.2.2.1 - (1 : Int))))]) + List.length ([(rd (α := ET6) zET6 x0 y1.1.1).2.2.2.2.2.2.1.1, v4.1, v5.1, (rd (α := ET6) zET6 x0 y1.1.1).2.2.2.2.2.1]) ≤ 4294967296) then
 some (.inr ((([(rd (α := ET6) zET6 x0 y1.1.1).1, v2.1, v3.1, (rd (α := ByteArray) ByteArray.empty g62 (IntKind.i64.wrap ((rd (α := ET6) zET6 x0 y1.1.1).2.2.2.1 - (1 : Int))))] ++ [(rd (α := ET6) zET6 x0 y1.1.1).2.2.2.2.2.2.1.1, v4.1, v5.1, (rd (α := ET6) zET6 x0 y1.1.1).2.2.2.2.2.1]), ()), ()))
 else
 none
 else
 bif ((rd (α := ET6) zET6 x0 y1.1.1).2.2.2.1 == (3 : Int)) then
 Option.bind (g39 ((rd (α := ET6) zET6 x0 y1.1.1).2.2.2.2.2.2.2.1.2.2.2.2.1)) fun v6 =>
 Option.bind (g39 ((rd (α := ET6) zET6 x0 y1.1.1).2.2.2.2.2.2.2.1.2.2.2.2.2.1)) fun v7 =>
 Option.bind (g39 ((rd (α := ET6) zET6 x0 y1.1.1).2.2.2.2.2.2.2.1.2.2.2.2.2.2.1)) fun v8 =>
 Option.bind (g39 ((rd (α := ET6) zET6 x0 y1.1.1).2.2.2.2.2.2.2.1.2.2.2.2.2.2.2.1)) fun v9 =>
 bif decide (List.length ([(rd (α := ET6) zET6 x0 y1.1.1).1, v2.1, v3.1, (rd (α := ByteArray) ByteArray.empty g62 (IntKind.i64.wrap ((rd (α := ET6) zET6 x0 y1.1.1).2.2.2.1 - (1 : Int))))]) + List.length ([(rd (α := ET6) zET6 x0 y1.1.1).2.2.2.2.2.2.2.1.1, (rd (α := ET6) zET6 x0 y1.1.1).2.2.2.2.2.2.2.1.2.1, (rd (α := ET6) zET6 x0 y1.1.1).2.2.2.2.2.2.2.1.2.2.1, (rd (α := ET6) zET6 x0 y1.1.1).2.2.2.2.2.2.2.1.2.2.2.1, v6.1, v7.1, v8.1, v9.1]) ≤ 4294967296) then
 some (.inr ((([(rd (α := ET6) zET6 x0 y1.1.1).1, v2.1, v3.1, (rd (α := ByteArray) ByteArray.empty g62 (IntKind.i64.wrap ((rd (α := ET6) zET6 x0 y1.1.1).2.2.2.1 - (1 : Int))))] ++ [(rd (α := ET6) zET6 x0 y1.1.1).2.2.2.2.2.2.2.1.1, (rd (α := ET6) zET6 x0 y1.1.1).2.2.2.2.2.2.2.1.2.1, (rd (α := ET6) zET6 x0 y1.1.1).2.2.2.2.2.2.2.1.2.2.1, (rd (α := ET6) zET6 x0 y1.1.1).2.2.2.2.2.2.2.1.2.2.2.1, v6.1, v7.1, v8.1, v9.1]), ()), ()))
 else
 none
 else
 bif decide (List.length ([(rd (α := ET6) zET6 x0 y1.1.1).1, v2.1, v3.1, (rd (α := ByteArray) ByteArray.empty g62 (IntKind.i64.wrap ((rd (α := ET6) zET6 x0 y1.1.1).2.2.2.1 - (1 : Int))))]) + List.length ([(rd (α := ET6) zET6 x0 y1.1.1).2.2.2.2.1]) ≤ 4294967296) then
 some (.inr ((([(rd (α := ET6) zET6 x0 y1.1.1).1, v2.1, v3.1, (rd (α := ByteArray) ByteArray.empty g62 (IntKind.i64.wrap ((rd (α := ET6) zET6 x0 y1.1.1).2.2.2.1 - (1 : Int))))] ++ [(rd (α := ET6) zET6 x0 y1.1.1).2.2.2.2.1]), ()), ()))
 else
 none) fun r => match r with
 | .inl z => some z
 | .inr y10 =>
 Option.bind (g42 y10.1.1 (ByteArray.mk #[32])) fun v11 =>
 bif decide (ByteArray.size v11.1 + ByteArray.size (ByteArray.mk #[10]) < 4611686018427387904) then
 bif decide (ByteArray.size y1.2.1.1 + ByteArray.size (v11.1 ++ (ByteArray.mk #[10])) ≤ 4294967296) then
 some (.inl (((IntKind.i64.wrap (y1.1.1 + (1 : Int))), ()), (((y1.2.1.1 ++ (v11.1 ++ (ByteArray.mk #[10]))), ()), ())))
 else
 none
 else
 none
 else
 none
 else
 none
 else
 some (.inr (.inr ((), ((y1.2.1.1, ()), ()))))) (((0 : Int), ()), zET2)) fun r => match r with
 | .inl z => some z
 | .inr z12 =>
 bif (decide (((ByteArray.size z12.2.1.1 : Nat) : Int) > (200000 : Int))) then
 some ((ByteArray.mk #[]), (2 : Int), ())
 else
 some (z12.2.1.1, (0 : Int), ())
def H17 : Hints where
 loop := fun n => match n with
  | 0 => some ({ slots := [(17, (.int .i64))], objs := [(0, (.box (.agg (.cons (.cell .ptr) (.cons (.data (.slice (.int .u8))) .nil))) (.agg (.skip (.cons .bytes .nil)))))], gone := [] }, 0, { slots := [], objs := [(0, (.box (.agg (.cons (.cell .ptr) (.cons (.data (.slice (.int .u8))) .nil))) (.agg (.skip (.cons .bytes .nil)))))], gone := [] })
  | _ => none
 region := fun n => match n with
  | _ => none
 cond := fun n => match n with
  | _ => none
 block := fun n => match n with
  | 2 => some { slots := [(8, (.row .str))], objs := [], gone := [17] }
  | _ => none
def Hi17_41 : Hints := hint0
def tsi17_41 : List (Nat × TD) := [(9, (.data .str)), (72, (.data (.slice (.int .u8)))), (74, (.agg (.cons (.cell .ptr) (.cons (.data (.slice (.int .u8))) .nil))))]
noncomputable def bodyi17_41 : Code := match Tryz.f41.body with | some c => c | none => .skip
noncomputable def fsi17_41 (g39 : Int → Option (ByteArray × Unit)) (g42 : (List ByteArray) → ByteArray → Option (ByteArray × Unit)) (g61 : (List ET6) → (Int)) (g62 : (List ByteArray)) (k : Nat) : List (Nat × FSem) := [(80, .cck)]
theorem tyi17_41 : chkTypes Tryz.prog tsi17_41 = true := by kernel_rfl
def Hi17_43 : Hints := hint0
def tsi17_43 : List (Nat × TD) := [(72, (.data (.slice (.int .u8)))), (74, (.agg (.cons (.cell .ptr) (.cons (.data (.slice (.int .u8))) .nil))))]
noncomputable def bodyi17_43 : Code := match Tryz.f43.body with | some c => c | none => .skip
noncomputable def fsi17_43 (g39 : Int → Option (ByteArray × Unit)) (g42 : (List ByteArray) → ByteArray → Option (ByteArray × Unit)) (g61 : (List ET6) → (Int)) (g62 : (List ByteArray)) (k : Nat) : List (Nat × FSem) := []
theorem tyi17_43 : chkTypes Tryz.prog tsi17_43 = true := by kernel_rfl
abbrev A17 : Tys := (.cons (.slice EY3) .nil)
def ts17 : List (Nat × TD) := [(3, (.data (.int .i64))), (9, (.data .str)), (23, (.data (.int .i64))), (31, (.data EY2)), (39, (.data (.slice EY3))), (45, (.data EY1)), (47, (.data EY3)), (69, (.data (.slice .str))), (74, (.agg (.cons (.cell .ptr) (.cons (.data (.slice (.int .u8))) .nil))))]
noncomputable def fs17 (g39 : Int → Option (ByteArray × Unit)) (g42 : (List ByteArray) → ByteArray → Option (ByteArray × Unit)) (g61 : (List ET6) → (Int)) (g62 : (List ByteArray)) (k : Nat) : List (Nat × FSem) := [(39, .pfn (.cons (.int .i64) .nil) (.cons .str .nil) fun x => (g39 x.1)), (41, .ev (mkEnv tsi17_41 (fsi17_41 g39 g42 g61 g62 k)) Hi17_41 k bodyi17_41 19 [.tmp 4, .tmp 5]), (42, .pfn (.cons (.slice .str) (.cons .str .nil)) (.cons .str .nil) fun x => (g42 x.1 x.2.1)), (43, .ev (mkEnv tsi17_43 (fsi17_43 g39 g42 g61 g62 k)) Hi17_43 k bodyi17_43 8 [.tmp 2]), (44, .bstr), (61, .fn (.cons (.slice EY3) .nil) (.cons (.int .i64) .nil) fun x => ((g61 x.1), ())), (62, .fn .nil (.cons (.slice .str) .nil) fun x => (g62, ()))]
noncomputable def body17 : Code := match Tryz.f17.body with | some c => c | none => .skip
theorem ty17 : chkTypes Tryz.prog ts17 = true := by kernel_rfl
theorem ev17 (g39 : Int → Option (ByteArray × Unit)) (g42 : (List ByteArray) → ByteArray → Option (ByteArray × Unit)) (g61 : (List ET6) → (Int)) (g62 : (List ByteArray)) (k : Nat) (x : ((.cons (.slice EY3) .nil) : Tys).den) : evFun (mkEnv ts17 (fs17 g39 g42 g61 g62 k)) H17 k body17 96 [.tmp 2, .tmp 3] (explodes (.cons (.slice EY3) .nil) x) [] (dec (.cons .str (.cons (.int .i64) .nil))) = f17 g39 g42 g61 g62 k x.1 := by kernel_rfl
/-! ### slices.Clone[[]jitney/api.Deed,jitney/api.Deed] -/
def f18  (k : Nat) (x0 : List ET6) : Option ((List ET6) × Unit) :=
 bif Nat.ble (List.length x0) 0 then
 none
 else
 bif decide (List.length ([] : List ET6) + List.length x0 ≤ 4294967296) then
 some ((([] : List ET6) ++ x0), ())
 else
 none
def H18 : Hints := hint0
def ts18 : List (Nat × TD) := [(39, (.data (.slice EY3)))]
noncomputable def fs18  : List (Nat × FSem) := []
noncomputable def body18 : Code := match Tryz.f18.body with | some c => c | none => .skip
theorem ty18 : chkTypes Tryz.prog ts18 = true := by kernel_rfl
theorem ev18  (k : Nat) (x : ((.cons (.slice EY3) .nil) : Tys).den) : evFun (mkEnv ts18 (fs18 )) H18 k body18 8 [.tmp 2] (explodes (.cons (.slice EY3) .nil) x) [] (dec (.cons (.slice EY3) .nil)) = f18  k x.1 := by kernel_rfl
def s18 (l : List ET6) : Option ((List ET6) × Unit) := if l.length ≤ 4294967296 then some (l, ()) else none
/-! ### jitney/net.readDeed -/
def f64 (g52 : (List ByteArray) → ByteArray → (Int)) (g62 : (List ByteArray)) (g70 : ByteArray → Int → Option ((List ByteArray) × Bool × Unit)) (g83 : ByteArray → ByteArray → Option (Int × Unit)) (g84 : (List ByteArray) → Int → Option ((List Int) × Bool × Unit)) (k : Nat) (x0 : ByteArray) : Option ET8 :=
 Option.bind (g83 x0 (ByteArray.mk #[32])) fun v1 =>
 Option.bind (g70 x0 (IntKind.i64.wrap (v1.1 + (1 : Int)))) fun v2 =>
 bif (!v2.2.1) then
 some zET8
 else
 bif (decide (((List.length v2.1 : Nat) : Int) < (5 : Int))) then
 some zET8
 else
 bif (decide (0 ≤ (1 : Int)) && (decide ((1 : Int) ≤ (3 : Int)) && decide ((3 : Int) ≤ ((List.length v2.1 : Nat) : Int)))) then
 Option.bind (g84 (List.drop (Int.toNat (1 : Int)) (List.take (Int.toNat (3 : Int)) v2.1)) (15 : Int)) fun v3 =>
 bif (inR (3 : Int) ((List.length v2.1 : Nat) : Int)) then
 bif (!v3.2.1) then
 some zET8
 else
 bif (decide ((g52 g62 (rd (α := ByteArray) ByteArray.empty v2.1 (3 : Int))) < (0 : Int))) then
 some zET8
 else
 bif (inR (g52 g62 (rd (α := ByteArray) ByteArray.empty v2.1 (3 : Int))) ((List.length ([(8 : Int), (5 : Int), (12 : Int), (5 : Int)]) : Nat) : Int)) then
 bif (inR (g52 g62 (rd (α := ByteArray) ByteArray.empty v2.1 (3 : Int))) ((List.length ([(8 : Int), (5 : Int), (12 : Int), (5 : Int)]) : Nat) : Int)) then
 bif (((List.length v2.1 : Nat) : Int) != (rd (α := Int) (0 : Int) ([(8 : Int), (5 : Int), (12 : Int), (5 : Int)]) (g52 g62 (rd (α := ByteArray) ByteArray.empty v2.1 (3 : Int))))) then
 some zET8
 else
 bif (inR (0 : Int) ((List.length v2.1 : Nat) : Int)) then
 bif (inR (0 : Int) ((List.length v3.1 : Nat) : Int)) then
 bif (inR (1 : Int) ((List.length v3.1 : Nat) : Int)) then
 bif ((IntKind.i64.wrap ((1 : Int) + (g52 g62 (rd (α := ByteArray) ByteArray.empty v2.1 (3 : Int))))) == (1 : Int)) then
 bif (decide (0 ≤ (5 : Int)) && (decide ((5 : Int) ≤ (7 : Int)) && decide ((7 : Int) ≤ ((List.length v2.1 : Nat) : Int)))) then
 Option.bind (g84 (List.drop (Int.toNat (5 : Int)) (List.take (Int.toNat (7 : Int)) v2.1)) (15 : Int)) fun v4 =>
 bif (!v4.2.1) then
 some zET8
 else
 bif (inR (4 : Int) ((List.length v2.1 : Nat) : Int)) then
 bif (inR (0 : Int) ((List.length v4.1 : Nat) : Int)) then
 bif (inR (1 : Int) ((List.length v4.1 : Nat) : Int)) then
 bif (inR (7 : Int) ((List.length v2.1 : Nat) : Int)) then
 some (((rd (α := ByteArray) ByteArray.empty v2.1 (0 : Int)), (rd (α := Int) (0 : Int) v3.1 (0 : Int)), (rd (α := Int) (0 : Int) v3.1 (1 : Int)), (IntKind.i64.wrap ((1 : Int) + (g52 g62 (rd (α := ByteArray) ByteArray.empty v2.1 (3 : Int))))), ByteArray.empty, (rd (α := ByteArray) ByteArray.empty v2.1 (7 : Int)), ((rd (α := ByteArray) ByteArray.empty v2.1 (4 : Int)), (rd (α := Int) (0 : Int) v4.1 (0 : Int)), (rd (α := Int) (0 : Int) v4.1 (1 : Int)), ()), zET5, ()), true, ())
 else
 none
 else
 none
 else
 none
 else
 none
 else
 none
 else
 bif ((IntKind.i64.wrap ((1 : Int) + (g52 g62 (rd (α := ByteArray) ByteArray.empty v2.1 (3 : Int))))) == (3 : Int)) then
 bif (decide (0 ≤ (8 : Int)) && (decide ((8 : Int) ≤ ((List.length v2.1 : Nat) : Int)) && decide (((List.length v2.1 : Nat) : Int) ≤ ((List.length v2.1 : Nat) : Int)))) then
 Option.bind (g84 (List.drop (Int.toNat (8 : Int)) (List.take (Int.toNat ((List.length v2.1 : Nat) : Int)) v2.1)) (15 : Int)) fun v5 =>
 bif (!v5.2.1) then
 some zET8
 else
 bif (inR (4 : Int) ((List.length v2.1 : Nat) : Int)) then
 bif (inR (5 : Int) ((List.length v2.1 : Nat) : Int)) then
 bif (inR (6 : Int) ((List.length v2.1 : Nat) : Int)) then
 bif (inR (7 : Int) ((List.length v2.1 : Nat) : Int)) then
 bif (inR (0 : Int) ((List.length v5.1 : Nat) : Int)) then
 bif (inR (1 : Int) ((List.length v5.1 : Nat) : Int)) then
 bif (inR (2 : Int) ((List.length v5.1 : Nat) : Int)) then
 bif (inR (3 : Int) ((List.length v5.1 : Nat) : Int)) then
 some (((rd (α := ByteArray) ByteArray.empty v2.1 (0 : Int)), (rd (α := Int) (0 : Int) v3.1 (0 : Int)), (rd (α := Int) (0 : Int) v3.1 (1 : Int)), (IntKind.i64.wrap ((1 : Int) + (g52 g62 (rd (α := ByteArray) ByteArray.empty v2.1 (3 : Int))))), ByteArray.empty, ByteArray.empty, zET3, ((rd (α := ByteArray) ByteArray.empty v2.1 (4 : Int)), (rd (α := ByteArray) ByteArray.empty v2.1 (5 : Int)), (rd (α := ByteArray) ByteArray.empty v2.1 (6 : Int)), (rd (α := ByteArray) ByteArray.empty v2.1 (7 : Int)), (rd (α := Int) (0 : Int) v5.1 (0 : Int)), (rd (α := Int) (0 : Int) v5.1 (1 : Int)), (rd (α := Int) (0 : Int) v5.1 (2 : Int)), (rd (α := Int) (0 : Int) v5.1 (3 : Int)), ()), ()), true, ())
 else
 none
 else
 none
 else
 none
 else
 none
 else
 none
 else
 none
 else
 none
 else
 none
 else
 none
 else
 bif (inR (4 : Int) ((List.length v2.1 : Nat) : Int)) then
 some (((rd (α := ByteArray) ByteArray.empty v2.1 (0 : Int)), (rd (α := Int) (0 : Int) v3.1 (0 : Int)), (rd (α := Int) (0 : Int) v3.1 (1 : Int)), (IntKind.i64.wrap ((1 : Int) + (g52 g62 (rd (α := ByteArray) ByteArray.empty v2.1 (3 : Int))))), (rd (α := ByteArray) ByteArray.empty v2.1 (4 : Int)), ByteArray.empty, zET3, zET5, ()), true, ())
 else
 none
 else
 none
 else
 none
 else
 none
 else
 none
 else
 none
 else
 none
 else
 none
def H64 : Hints := hint0
abbrev A64 : Tys := (.cons .str .nil)
def ts64 : List (Nat × TD) := [(3, (.data (.int .i64))), (4, (.data .bool)), (9, (.data .str)), (31, (.data EY2)), (45, (.data EY1)), (47, (.data EY3)), (69, (.data (.slice .str))), (91, (.data (.slice (.int .i64))))]
noncomputable def fs64 (g52 : (List ByteArray) → ByteArray → (Int)) (g62 : (List ByteArray)) (g70 : ByteArray → Int → Option ((List ByteArray) × Bool × Unit)) (g83 : ByteArray → ByteArray → Option (Int × Unit)) (g84 : (List ByteArray) → Int → Option ((List Int) × Bool × Unit)) : List (Nat × FSem) := [(52, .fn (.cons (.slice .str) (.cons .str .nil)) (.cons (.int .i64) .nil) fun x => ((g52 x.1 x.2.1), ())), (62, .fn .nil (.cons (.slice .str) .nil) fun x => (g62, ())), (70, .pfn (.cons .str (.cons (.int .i64) .nil)) (.cons (.slice .str) (.cons .bool .nil)) fun x => (g70 x.1 x.2.1)), (83, .pfn (.cons .str (.cons .str .nil)) (.cons (.int .i64) .nil) fun x => (g83 x.1 x.2.1)), (84, .pfn (.cons (.slice .str) (.cons (.int .i64) .nil)) (.cons (.slice (.int .i64)) (.cons .bool .nil)) fun x => (g84 x.1 x.2.1))]
noncomputable def body64 : Code := match Tryz.f64.body with | some c => c | none => .skip
theorem ty64 : chkTypes Tryz.prog ts64 = true := by kernel_rfl
theorem ev64 (g52 : (List ByteArray) → ByteArray → (Int)) (g62 : (List ByteArray)) (g70 : ByteArray → Int → Option ((List ByteArray) × Bool × Unit)) (g83 : ByteArray → ByteArray → Option (Int × Unit)) (g84 : (List ByteArray) → Int → Option ((List Int) × Bool × Unit)) (k : Nat) (x : ((.cons .str .nil) : Tys).den) : evFun (mkEnv ts64 (fs64 g52 g62 g70 g83 g84)) H64 k body64 138 [.cell 2 47, .tmp 3] (explodes (.cons .str .nil) x) [] (dec (.cons EY3 (.cons .bool .nil))) = f64 g52 g62 g70 g83 g84 k x.1 := by kernel_rfl
/-! ### jitney/net.Read -/
def f19 (g61 : (List ET6) → (Int)) (g64 : ByteArray → Option ET8) (g82 : ByteArray → Option ((List ByteArray) × Bool × Unit)) (k : Nat) (x0 : ByteArray) : Option ((List ET6) × Int × Int × Unit) :=
 bif (decide (((ByteArray.size x0 : Nat) : Int) > (200000 : Int))) then
 some ([], (0 : Int), (2 : Int), ())
 else
 Option.bind (α := ((List ET6) × Int × Int × Unit) ⊕ (ET0 × ((List ET6) × Unit))) (
 Option.bind (g82 x0) fun v1 =>
 Option.bind (α := (((List ET6) × Int × Int × Unit) ⊕ (ET0 × ((List ET6) × Unit))) ⊕ ((Unit) × ((List ET6) × Unit))) (iter (σ := (Int × Unit) × ((List ET6) × Unit)) (τ := (((List ET6) × Int × Int × Unit) ⊕ (ET0 × ((List ET6) × Unit))) ⊕ ((Unit) × ((List ET6) × Unit))) k (fun y2 =>
 bif (decide (y2.1.1 < ((List.length v1.1 : Nat) : Int))) then
 bif (inR y2.1.1 ((List.length v1.1 : Nat) : Int)) then
 bif (!v1.2.1) then
 bif (y2.1.1 == (IntKind.i64.wrap (((List.length v1.1 : Nat) : Int) - (1 : Int)))) then
 some (.inr (.inl (.inr ((y2.1.1, false, ()), (y2.2.1, ())))))
 else
 Option.bind (g64 (rd (α := ByteArray) ByteArray.empty v1.1 y2.1.1)) fun v3 =>
 bif decide (List.length y2.2.1 + List.length ([v3.1]) ≤ 4294967296) then
 bif (!v3.2.1) then
 some (.inr (.inl (.inr ((y2.1.1, false, ()), ((y2.2.1 ++ [v3.1]), ())))))
 else
 some (.inl (((IntKind.i64.wrap (y2.1.1 + (1 : Int))), ()), ((y2.2.1 ++ [v3.1]), ())))
 else
 none
 else
 Option.bind (g64 (rd (α := ByteArray) ByteArray.empty v1.1 y2.1.1)) fun v4 =>
 bif decide (List.length y2.2.1 + List.length ([v4.1]) ≤ 4294967296) then
 bif (!v4.2.1) then
 some (.inr (.inl (.inr ((y2.1.1, false, ()), ((y2.2.1 ++ [v4.1]), ())))))
 else
 some (.inl (((IntKind.i64.wrap (y2.1.1 + (1 : Int))), ()), ((y2.2.1 ++ [v4.1]), ())))
 else
 none
 else
 none
 else
 some (.inr (.inr ((), (y2.2.1, ()))))) (((0 : Int), ()), ([], ()))) fun r => match r with
 | .inl z => some z
 | .inr z5 =>
 some (.inr (((0 : Int), true, ()), (z5.2.1, ())))) fun r => match r with
 | .inl z => some z
 | .inr y6 =>
 bif (!y6.1.2.1) then
 some ([], y6.1.1, (9 : Int), ())
 else
 bif ((g61 y6.2.1) != (0 : Int)) then
 some ([], (0 : Int), (g61 y6.2.1), ())
 else
 some (y6.2.1, (0 : Int), (0 : Int), ())
def H19 : Hints where
 loop := fun n => match n with
  | _ => none
 region := fun n => match n with
  | 4 => some { slots := [(6, (.int .i64)), (7, .bool)], objs := [(0, (.box (.data (.slice EY3)) (.row EY3)))], gone := [] }
  | _ => none
 cond := fun n => match n with
  | _ => none
 block := fun n => match n with
  | _ => none
def Hi19_63 : Hints := hint0
def tsi19_63 : List (Nat × TD) := [(39, (.data (.slice EY3))), (47, (.data EY3))]
noncomputable def bodyi19_63 : Code := match Tryz.f63.body with | some c => c | none => .skip
noncomputable def fsi19_63 (g61 : (List ET6) → (Int)) (g64 : ByteArray → Option ET8) (g82 : ByteArray → Option ((List ByteArray) × Bool × Unit)) (k : Nat) : List (Nat × FSem) := [(64, .pfn (.cons .str .nil) (.cons EY3 (.cons .bool .nil)) fun x => (g64 x.1))]
theorem tyi19_63 : chkTypes Tryz.prog tsi19_63 = true := by kernel_rfl
def Hi19_45 : Hints where
 loop := fun n => match n with
  | 0 => some ({ slots := [(17, (.int .i64))], objs := [(0, (.box (.data (.slice EY3)) (.row EY3)))], gone := [] }, 0, { slots := [], objs := [(0, (.box (.data (.slice EY3)) (.row EY3)))], gone := [] })
  | _ => none
 region := fun n => match n with
  | _ => none
 cond := fun n => match n with
  | _ => none
 block := fun n => match n with
  | _ => none
def tsi19_45 : List (Nat × TD) := [(3, (.data (.int .i64))), (9, (.data .str)), (69, (.data (.slice .str)))]
noncomputable def bodyi19_45 : Code := match Tryz.f45.body with | some c => c | none => .skip
noncomputable def fsi19_45 (g61 : (List ET6) → (Int)) (g64 : ByteArray → Option ET8) (g82 : ByteArray → Option ((List ByteArray) × Bool × Unit)) (k : Nat) : List (Nat × FSem) := [(63, .ev (mkEnv tsi19_63 (fsi19_63 g61 g64 g82 k)) Hi19_63 k bodyi19_63 16 [.tmp 3]), (82, .pfn (.cons .str .nil) (.cons (.slice .str) (.cons .bool .nil)) fun x => (g82 x.1))]
theorem tyi19_45 : chkTypes Tryz.prog tsi19_45 = true := by kernel_rfl
abbrev A19 : Tys := (.cons .str .nil)
def ts19 : List (Nat × TD) := [(3, (.data (.int .i64))), (9, (.data .str)), (23, (.data (.int .i64))), (39, (.data (.slice EY3)))]
noncomputable def fs19 (g61 : (List ET6) → (Int)) (g64 : ByteArray → Option ET8) (g82 : ByteArray → Option ((List ByteArray) × Bool × Unit)) (k : Nat) : List (Nat × FSem) := [(45, .ev (mkEnv tsi19_45 (fsi19_45 g61 g64 g82 k)) Hi19_45 k bodyi19_45 39 [.tmp 4, .tmp 5]), (61, .fn (.cons (.slice EY3) .nil) (.cons (.int .i64) .nil) fun x => ((g61 x.1), ()))]
noncomputable def body19 : Code := match Tryz.f19.body with | some c => c | none => .skip
theorem ty19 : chkTypes Tryz.prog ts19 = true := by kernel_rfl
theorem ev19 (g61 : (List ET6) → (Int)) (g64 : ByteArray → Option ET8) (g82 : ByteArray → Option ((List ByteArray) × Bool × Unit)) (k : Nat) (x : ((.cons .str .nil) : Tys).den) : evFun (mkEnv ts19 (fs19 g61 g64 g82 k)) H19 k body19 27 [.tmp 2, .tmp 3, .tmp 4] (explodes (.cons .str .nil) x) [] (dec (.cons (.slice EY3) (.cons (.int .i64) (.cons (.int .i64) .nil)))) = f19 g61 g64 g82 k x.1 := by kernel_rfl
/-! ### jitney/jitref2.DeedsRead -/
def f20 (g15 : (List ET6) → (Int)) (g50 : ByteArray → Option ((List ByteArray) × Bool × Unit)) (g53 : (List ByteArray) → Int → Option ((List Int) × Bool × Unit)) (g85 : ByteArray → ByteArray → Option ET4) (k : Nat) (x0 : ByteArray) : Option ((List ET6) × Int × Int × Unit) :=
 bif (decide (((ByteArray.size x0 : Nat) : Int) > (200000 : Int))) then
 some ([], (0 : Int), (2 : Int), ())
 else
 Option.bind (α := ((List ET6) × Int × Int × Unit) ⊕ (ET0 × ((List ET6) × Unit))) (
 Option.bind (α := (((List ET6) × Int × Int × Unit) ⊕ (ET0 × ((List ET6) × Unit))) ⊕ ((Unit) × ((List ET6) × Unit))) (iter (σ := ET1 × ((List ET6) × Unit)) (τ := (((List ET6) × Int × Int × Unit) ⊕ (ET0 × ((List ET6) × Unit))) ⊕ ((Unit) × ((List ET6) × Unit))) k (fun y1 =>
 bif (!(sEq y1.1.1 (ByteArray.mk #[]))) then
 Option.bind (g85 y1.1.1 (ByteArray.mk #[10])) fun v2 =>
 bif (!v2.2.2.1) then
 some (.inr (.inl (.inr ((y1.1.2.1, false, ()), (y1.2.1, ())))))
 else
 Option.bind (g50 v2.1) fun v3 =>
 bif (!v3.2.1) then
 some (.inr (.inl (.inr ((y1.1.2.1, false, ()), (y1.2.1, ())))))
 else
 bif (decide (((List.length v3.1 : Nat) : Int) < (5 : Int))) then
 some (.inr (.inl (.inr ((y1.1.2.1, false, ()), (y1.2.1, ())))))
 else
 bif (decide (0 ≤ (1 : Int)) && (decide ((1 : Int) ≤ (3 : Int)) && decide ((3 : Int) ≤ ((List.length v3.1 : Nat) : Int)))) then
 Option.bind (g53 (List.drop (Int.toNat (1 : Int)) (List.take (Int.toNat (3 : Int)) v3.1)) (15 : Int)) fun v4 =>
 bif (inR (0 : Int) ((List.length v3.1 : Nat) : Int)) then
 bif (inR (0 : Int) ((List.length v4.1 : Nat) : Int)) then
 bif (inR (1 : Int) ((List.length v4.1 : Nat) : Int)) then
 bif (inR (3 : Int) ((List.length v3.1 : Nat) : Int)) then
 bif (((List.length v3.1 : Nat) : Int) != (mget (keq .str) (0 : Int) (rd (α := ByteArray) ByteArray.empty v3.1 (3 : Int)) (mput (keq .str) (ByteArray.mk #[100, 114, 111, 112]) (5 : Int) (mput (keq .str) (ByteArray.mk #[97, 115, 107]) (12 : Int) (mput (keq .str) (ByteArray.mk #[97, 119, 97, 121]) (5 : Int) (mput (keq .str) (ByteArray.mk #[99, 97, 114]) (8 : Int) (([], 0) : MapC .str (.int .i64)))))).1)) then
 some (.inr (.inl (.inr ((y1.1.2.1, false, ()), (y1.2.1, ())))))
 else
 bif (inR (3 : Int) ((List.length v3.1 : Nat) : Int)) then
 Option.bind (α := ((ET1 × ((List ET6) × Unit)) ⊕ ((((List ET6) × Int × Int × Unit) ⊕ (ET0 × ((List ET6) × Unit))) ⊕ ((Unit) × ((List ET6) × Unit)))) ⊕ ((Bool × Unit) × ET7)) (
 bif (sEq (rd (α := ByteArray) ByteArray.empty v3.1 (3 : Int)) (ByteArray.mk #[99, 97, 114])) then
 bif (decide (0 ≤ (5 : Int)) && (decide ((5 : Int) ≤ (7 : Int)) && decide ((7 : Int) ≤ ((List.length v3.1 : Nat) : Int)))) then
 Option.bind (g53 (List.drop (Int.toNat (5 : Int)) (List.take (Int.toNat (7 : Int)) v3.1)) (15 : Int)) fun v5 =>
 bif (inR (4 : Int) ((List.length v3.1 : Nat) : Int)) then
 bif (inR (0 : Int) ((List.length v5.1 : Nat) : Int)) then
 bif (inR (1 : Int) ((List.length v5.1 : Nat) : Int)) then
 bif (inR (7 : Int) ((List.length v3.1 : Nat) : Int)) then
 some (.inr ((v5.2.1, ()), (((rd (α := ByteArray) ByteArray.empty v3.1 (0 : Int)), (rd (α := Int) (0 : Int) v4.1 (0 : Int)), (rd (α := Int) (0 : Int) v4.1 (1 : Int)), (1 : Int), ByteArray.empty, (rd (α := ByteArray) ByteArray.empty v3.1 (7 : Int)), ((rd (α := ByteArray) ByteArray.empty v3.1 (4 : Int)), (rd (α := Int) (0 : Int) v5.1 (0 : Int)), (rd (α := Int) (0 : Int) v5.1 (1 : Int)), ()), zET5, ()), ())))
 else
 none
 else
 none
 else
 none
 else
 none
 else
 none
 else
 bif (sEq (rd (α := ByteArray) ByteArray.empty v3.1 (3 : Int)) (ByteArray.mk #[97, 115, 107])) then
 bif (decide (0 ≤ (8 : Int)) && (decide ((8 : Int) ≤ ((List.length v3.1 : Nat) : Int)) && decide (((List.length v3.1 : Nat) : Int) ≤ ((List.length v3.1 : Nat) : Int)))) then
 Option.bind (g53 (List.drop (Int.toNat (8 : Int)) (List.take (Int.toNat ((List.length v3.1 : Nat) : Int)) v3.1)) (15 : Int)) fun v6 =>
 bif (inR (4 : Int) ((List.length v3.1 : Nat) : Int)) then
 bif (inR (5 : Int) ((List.length v3.1 : Nat) : Int)) then
 bif (inR (6 : Int) ((List.length v3.1 : Nat) : Int)) then
 bif (inR (7 : Int) ((List.length v3.1 : Nat) : Int)) then
 bif (inR (0 : Int) ((List.length v6.1 : Nat) : Int)) then
 bif (inR (1 : Int) ((List.length v6.1 : Nat) : Int)) then
 bif (inR (2 : Int) ((List.length v6.1 : Nat) : Int)) then
 bif (inR (3 : Int) ((List.length v6.1 : Nat) : Int)) then
 some (.inr ((v6.2.1, ()), (((rd (α := ByteArray) ByteArray.empty v3.1 (0 : Int)), (rd (α := Int) (0 : Int) v4.1 (0 : Int)), (rd (α := Int) (0 : Int) v4.1 (1 : Int)), (3 : Int), ByteArray.empty, ByteArray.empty, zET3, ((rd (α := ByteArray) ByteArray.empty v3.1 (4 : Int)), (rd (α := ByteArray) ByteArray.empty v3.1 (5 : Int)), (rd (α := ByteArray) ByteArray.empty v3.1 (6 : Int)), (rd (α := ByteArray) ByteArray.empty v3.1 (7 : Int)), (rd (α := Int) (0 : Int) v6.1 (0 : Int)), (rd (α := Int) (0 : Int) v6.1 (1 : Int)), (rd (α := Int) (0 : Int) v6.1 (2 : Int)), (rd (α := Int) (0 : Int) v6.1 (3 : Int)), ()), ()), ())))
 else
 none
 else
 none
 else
 none
 else
 none
 else
 none
 else
 none
 else
 none
 else
 none
 else
 none
 else
 bif (sEq (rd (α := ByteArray) ByteArray.empty v3.1 (3 : Int)) (ByteArray.mk #[97, 119, 97, 121])) then
 bif (inR (4 : Int) ((List.length v3.1 : Nat) : Int)) then
 some (.inr ((true, ()), (((rd (α := ByteArray) ByteArray.empty v3.1 (0 : Int)), (rd (α := Int) (0 : Int) v4.1 (0 : Int)), (rd (α := Int) (0 : Int) v4.1 (1 : Int)), (2 : Int), (rd (α := ByteArray) ByteArray.empty v3.1 (4 : Int)), ByteArray.empty, zET3, zET5, ()), ())))
 else
 none
 else
 bif (inR (4 : Int) ((List.length v3.1 : Nat) : Int)) then
 some (.inr ((true, ()), (((rd (α := ByteArray) ByteArray.empty v3.1 (0 : Int)), (rd (α := Int) (0 : Int) v4.1 (0 : Int)), (rd (α := Int) (0 : Int) v4.1 (1 : Int)), (4 : Int), (rd (α := ByteArray) ByteArray.empty v3.1 (4 : Int)), ByteArray.empty, zET3, zET5, ()), ())))
 else
 none) fun r => match r with
 | .inl z => some z
 | .inr y7 =>
 bif decide (List.length y1.2.1 + List.length ([(y7.2.1.1, y7.2.1.2.1, y7.2.1.2.2.1, y7.2.1.2.2.2.1, y7.2.1.2.2.2.2.1, y7.2.1.2.2.2.2.2.1, (y7.2.1.2.2.2.2.2.2.1.1, y7.2.1.2.2.2.2.2.2.1.2.1, y7.2.1.2.2.2.2.2.2.1.2.2.1, ()), (y7.2.1.2.2.2.2.2.2.2.1.1, y7.2.1.2.2.2.2.2.2.2.1.2.1, y7.2.1.2.2.2.2.2.2.2.1.2.2.1, y7.2.1.2.2.2.2.2.2.2.1.2.2.2.1, y7.2.1.2.2.2.2.2.2.2.1.2.2.2.2.1, y7.2.1.2.2.2.2.2.2.2.1.2.2.2.2.2.1, y7.2.1.2.2.2.2.2.2.2.1.2.2.2.2.2.2.1, y7.2.1.2.2.2.2.2.2.2.1.2.2.2.2.2.2.2.1, ()), ())]) ≤ 4294967296) then
 bif v4.2.1 then
 bif (!y7.1.1) then
 some (.inr (.inl (.inr ((y1.1.2.1, false, ()), ((y1.2.1 ++ [(y7.2.1.1, y7.2.1.2.1, y7.2.1.2.2.1, y7.2.1.2.2.2.1, y7.2.1.2.2.2.2.1, y7.2.1.2.2.2.2.2.1, (y7.2.1.2.2.2.2.2.2.1.1, y7.2.1.2.2.2.2.2.2.1.2.1, y7.2.1.2.2.2.2.2.2.1.2.2.1, ()), (y7.2.1.2.2.2.2.2.2.2.1.1, y7.2.1.2.2.2.2.2.2.2.1.2.1, y7.2.1.2.2.2.2.2.2.2.1.2.2.1, y7.2.1.2.2.2.2.2.2.2.1.2.2.2.1, y7.2.1.2.2.2.2.2.2.2.1.2.2.2.2.1, y7.2.1.2.2.2.2.2.2.2.1.2.2.2.2.2.1, y7.2.1.2.2.2.2.2.2.2.1.2.2.2.2.2.2.1, y7.2.1.2.2.2.2.2.2.2.1.2.2.2.2.2.2.2.1, ()), ())]), ())))))
 else
 some (.inl ((v2.2.1, (IntKind.i64.wrap (y1.1.2.1 + (1 : Int))), ()), ((y1.2.1 ++ [(y7.2.1.1, y7.2.1.2.1, y7.2.1.2.2.1, y7.2.1.2.2.2.1, y7.2.1.2.2.2.2.1, y7.2.1.2.2.2.2.2.1, (y7.2.1.2.2.2.2.2.2.1.1, y7.2.1.2.2.2.2.2.2.1.2.1, y7.2.1.2.2.2.2.2.2.1.2.2.1, ()), (y7.2.1.2.2.2.2.2.2.2.1.1, y7.2.1.2.2.2.2.2.2.2.1.2.1, y7.2.1.2.2.2.2.2.2.2.1.2.2.1, y7.2.1.2.2.2.2.2.2.2.1.2.2.2.1, y7.2.1.2.2.2.2.2.2.2.1.2.2.2.2.1, y7.2.1.2.2.2.2.2.2.2.1.2.2.2.2.2.1, y7.2.1.2.2.2.2.2.2.2.1.2.2.2.2.2.2.1, y7.2.1.2.2.2.2.2.2.2.1.2.2.2.2.2.2.2.1, ()), ())]), ())))
 else
 some (.inr (.inl (.inr ((y1.1.2.1, false, ()), ((y1.2.1 ++ [(y7.2.1.1, y7.2.1.2.1, y7.2.1.2.2.1, y7.2.1.2.2.2.1, y7.2.1.2.2.2.2.1, y7.2.1.2.2.2.2.2.1, (y7.2.1.2.2.2.2.2.2.1.1, y7.2.1.2.2.2.2.2.2.1.2.1, y7.2.1.2.2.2.2.2.2.1.2.2.1, ()), (y7.2.1.2.2.2.2.2.2.2.1.1, y7.2.1.2.2.2.2.2.2.2.1.2.1, y7.2.1.2.2.2.2.2.2.2.1.2.2.1, y7.2.1.2.2.2.2.2.2.2.1.2.2.2.1, y7.2.1.2.2.2.2.2.2.2.1.2.2.2.2.1, y7.2.1.2.2.2.2.2.2.2.1.2.2.2.2.2.1, y7.2.1.2.2.2.2.2.2.2.1.2.2.2.2.2.2.1, y7.2.1.2.2.2.2.2.2.2.1.2.2.2.2.2.2.2.1, ()), ())]), ())))))
 else
 none
 else
 none
 else
 none
 else
 none
 else
 none
 else
 none
 else
 none
 else
 some (.inr (.inr ((), (y1.2.1, ()))))) ((x0, (0 : Int), ()), ([], ()))) fun r => match r with
 | .inl z => some z
 | .inr z8 =>
 some (.inr (((0 : Int), true, ()), (z8.2.1, ())))) fun r => match r with
 | .inl z => some z
 | .inr y9 =>
 bif (!y9.1.2.1) then
 some ([], y9.1.1, (9 : Int), ())
 else
 bif ((g15 y9.2.1) != (0 : Int)) then
 some ([], (0 : Int), (g15 y9.2.1), ())
 else
 some (y9.2.1, (0 : Int), (0 : Int), ())
def H20 : Hints where
 loop := fun n => match n with
  | _ => none
 region := fun n => match n with
  | 4 => some { slots := [(6, (.int .i64)), (7, .bool)], objs := [(0, (.box (.data (.slice EY3)) (.row EY3)))], gone := [] }
  | _ => none
 cond := fun n => match n with
  | _ => none
 block := fun n => match n with
  | _ => none
def Hi20_65 : Hints where
 loop := fun n => match n with
  | _ => none
 region := fun n => match n with
  | _ => none
 cond := fun n => match n with
  | _ => none
 block := fun n => match n with
  | 0 => some { slots := [(11, .bool)], objs := [(12, (.box (.data EY3) (.agg (.cons .str (.cons (.int .i64) (.cons (.int .i64) (.cons (.int .i64) (.cons .str (.cons .str (.cons (.agg (.cons .str (.cons (.int .i64) (.cons (.int .i64) .nil)))) (.cons (.agg (.cons .str (.cons .str (.cons .str (.cons .str (.cons (.int .i64) (.cons (.int .i64) (.cons (.int .i64) (.cons (.int .i64) .nil))))))))) .nil)))))))))))], gone := [] }
  | _ => none
def tsi20_65 : List (Nat × TD) := [(3, (.data (.int .i64))), (9, (.data .str)), (31, (.data EY2)), (39, (.data (.slice EY3))), (45, (.data EY1)), (47, (.data EY3)), (69, (.data (.slice .str))), (91, (.data (.slice (.int .i64)))), (107, (.map .str (.int .i64)))]
noncomputable def bodyi20_65 : Code := match Tryz.f65.body with | some c => c | none => .skip
noncomputable def fsi20_65 (g15 : (List ET6) → (Int)) (g50 : ByteArray → Option ((List ByteArray) × Bool × Unit)) (g53 : (List ByteArray) → Int → Option ((List Int) × Bool × Unit)) (g85 : ByteArray → ByteArray → Option ET4) (k : Nat) : List (Nat × FSem) := [(50, .pfn (.cons .str .nil) (.cons (.slice .str) (.cons .bool .nil)) fun x => (g50 x.1)), (53, .pfn (.cons (.slice .str) (.cons (.int .i64) .nil)) (.cons (.slice (.int .i64)) (.cons .bool .nil)) fun x => (g53 x.1 x.2.1))]
theorem tyi20_65 : chkTypes Tryz.prog tsi20_65 = true := by kernel_rfl
def Hi20_48 : Hints where
 loop := fun n => match n with
  | 0 => some ({ slots := [(0, .str), (6, (.int .i64))], objs := [(0, (.box (.data (.slice EY3)) (.row EY3)))], gone := [] }, 0, { slots := [], objs := [(0, (.box (.data (.slice EY3)) (.row EY3)))], gone := [] })
  | _ => none
 region := fun n => match n with
  | _ => none
 cond := fun n => match n with
  | _ => none
 block := fun n => match n with
  | _ => none
def tsi20_48 : List (Nat × TD) := [(3, (.data (.int .i64))), (9, (.data .str))]
noncomputable def bodyi20_48 : Code := match Tryz.f48.body with | some c => c | none => .skip
noncomputable def fsi20_48 (g15 : (List ET6) → (Int)) (g50 : ByteArray → Option ((List ByteArray) × Bool × Unit)) (g53 : (List ByteArray) → Int → Option ((List Int) × Bool × Unit)) (g85 : ByteArray → ByteArray → Option ET4) (k : Nat) : List (Nat × FSem) := [(65, .ev (mkEnv tsi20_65 (fsi20_65 g15 g50 g53 g85 k)) Hi20_65 k bodyi20_65 132 [.tmp 3]), (85, .pfn (.cons .str (.cons .str .nil)) (.cons .str (.cons .str (.cons .bool .nil))) fun x => (g85 x.1 x.2.1))]
theorem tyi20_48 : chkTypes Tryz.prog tsi20_48 = true := by kernel_rfl
abbrev A20 : Tys := (.cons .str .nil)
def ts20 : List (Nat × TD) := [(3, (.data (.int .i64))), (9, (.data .str)), (23, (.data (.int .i64))), (39, (.data (.slice EY3)))]
noncomputable def fs20 (g15 : (List ET6) → (Int)) (g50 : ByteArray → Option ((List ByteArray) × Bool × Unit)) (g53 : (List ByteArray) → Int → Option ((List Int) × Bool × Unit)) (g85 : ByteArray → ByteArray → Option ET4) (k : Nat) : List (Nat × FSem) := [(15, .fn (.cons (.slice EY3) .nil) (.cons (.int .i64) .nil) fun x => ((g15 x.1), ())), (48, .ev (mkEnv tsi20_48 (fsi20_48 g15 g50 g53 g85 k)) Hi20_48 k bodyi20_48 30 [.tmp 4, .tmp 5])]
noncomputable def body20 : Code := match Tryz.f20.body with | some c => c | none => .skip
theorem ty20 : chkTypes Tryz.prog ts20 = true := by kernel_rfl
theorem ev20 (g15 : (List ET6) → (Int)) (g50 : ByteArray → Option ((List ByteArray) × Bool × Unit)) (g53 : (List ByteArray) → Int → Option ((List Int) × Bool × Unit)) (g85 : ByteArray → ByteArray → Option ET4) (k : Nat) (x : ((.cons .str .nil) : Tys).den) : evFun (mkEnv ts20 (fs20 g15 g50 g53 g85 k)) H20 k body20 27 [.tmp 2, .tmp 3, .tmp 4] (explodes (.cons .str .nil) x) [] (dec (.cons (.slice EY3) (.cons (.int .i64) (.cons (.int .i64) .nil)))) = f20 g15 g50 g53 g85 k x.1 := by kernel_rfl
/-! ### slices.Equal[[]jitney/api.Deed,jitney/api.Deed] -/
def f21  (k : Nat) (x0 : List ET6) (x1 : List ET6) : Option (Bool × Unit) :=
 bif (((List.length x0 : Nat) : Int) != ((List.length x1 : Nat) : Int)) then
 some (false, ())
 else
 Option.bind (α := (Bool × Unit) ⊕ ((Unit) × (Unit))) (iter (σ := (Int × Unit) × (Unit)) (τ := (Bool × Unit) ⊕ ((Unit) × (Unit))) k (fun y1 =>
 bif (decide (y1.1.1 < ((List.length x0 : Nat) : Int))) then
 bif (inR y1.1.1 ((List.length x0 : Nat) : Int)) then
 bif (inR y1.1.1 ((List.length x1 : Nat) : Int)) then
 bif (!((sEq ((rd (α := ET6) zET6 x0 y1.1.1).1) ((rd (α := ET6) zET6 x1 y1.1.1).1)) && (((rd (α := ET6) zET6 x0 y1.1.1).2.1 == (rd (α := ET6) zET6 x1 y1.1.1).2.1) && (((rd (α := ET6) zET6 x0 y1.1.1).2.2.1 == (rd (α := ET6) zET6 x1 y1.1.1).2.2.1) && (((rd (α := ET6) zET6 x0 y1.1.1).2.2.2.1 == (rd (α := ET6) zET6 x1 y1.1.1).2.2.2.1) && ((sEq ((rd (α := ET6) zET6 x0 y1.1.1).2.2.2.2.1) ((rd (α := ET6) zET6 x1 y1.1.1).2.2.2.2.1)) && ((sEq ((rd (α := ET6) zET6 x0 y1.1.1).2.2.2.2.2.1) ((rd (α := ET6) zET6 x1 y1.1.1).2.2.2.2.2.1)) && (((sEq ((rd (α := ET6) zET6 x0 y1.1.1).2.2.2.2.2.2.1.1) ((rd (α := ET6) zET6 x1 y1.1.1).2.2.2.2.2.2.1.1)) && (((rd (α := ET6) zET6 x0 y1.1.1).2.2.2.2.2.2.1.2.1 == (rd (α := ET6) zET6 x1 y1.1.1).2.2.2.2.2.2.1.2.1) && (((rd (α := ET6) zET6 x0 y1.1.1).2.2.2.2.2.2.1.2.2.1 == (rd (α := ET6) zET6 x1 y1.1.1).2.2.2.2.2.2.1.2.2.1) && true))) && (((sEq ((rd (α := ET6) zET6 x0 y1.1.1).2.2.2.2.2.2.2.1.1) ((rd (α := ET6) zET6 x1 y1.1.1).2.2.2.2.2.2.2.1.1)) && ((sEq ((rd (α := ET6) zET6 x0 y1.1.1).2.2.2.2.2.2.2.1.2.1) ((rd (α := ET6) zET6 x1 y1.1.1).2.2.2.2.2.2.2.1.2.1)) && ((sEq ((rd (α := ET6) zET6 x0 y1.1.1).2.2.2.2.2.2.2.1.2.2.1) ((rd (α := ET6) zET6 x1 y1.1.1).2.2.2.2.2.2.2.1.2.2.1)) && ((sEq ((rd (α := ET6) zET6 x0 y1.1.1).2.2.2.2.2.2.2.1.2.2.2.1) ((rd (α := ET6) zET6 x1 y1.1.1).2.2.2.2.2.2.2.1.2.2.2.1)) && (((rd (α := ET6) zET6 x0 y1.1.1).2.2.2.2.2.2.2.1.2.2.2.2.1 == (rd (α := ET6) zET6 x1 y1.1.1).2.2.2.2.2.2.2.1.2.2.2.2.1) && (((rd (α := ET6) zET6 x0 y1.1.1).2.2.2.2.2.2.2.1.2.2.2.2.2.1 == (rd (α := ET6) zET6 x1 y1.1.1).2.2.2.2.2.2.2.1.2.2.2.2.2.1) && (((rd (α := ET6) zET6 x0 y1.1.1).2.2.2.2.2.2.2.1.2.2.2.2.2.2.1 == (rd (α := ET6) zET6 x1 y1.1.1).2.2.2.2.2.2.2.1.2.2.2.2.2.2.1) && (((rd (α := ET6) zET6 x0 y1.1.1).2.2.2.2.2.2.2.1.2.2.2.2.2.2.2.1 == (rd (α := ET6) zET6 x1 y1.1.1).2.2.2.2.2.2.2.1.2.2.2.2.2.2.2.1) && true)))))))) && true))))))))) then
 some (.inr (.inl (false, ())))
 else
 some (.inl (((IntKind.i64.wrap (y1.1.1 + (1 : Int))), ()), ()))
 else
 none
 else
 none
 else
 some (.inr (.inr ((), ())))) (((0 : Int), ()), ())) fun r => match r with
 | .inl z => some z
 | .inr z2 =>
 some (true, ())
def H21 : Hints where
 loop := fun n => match n with
  | 0 => some ({ slots := [(13, (.int .i64))], objs := [], gone := [] }, 0, { slots := [], objs := [], gone := [] })
  | _ => none
 region := fun n => match n with
  | _ => none
 cond := fun n => match n with
  | _ => none
 block := fun n => match n with
  | _ => none
abbrev A21 : Tys := (.cons (.slice EY3) (.cons (.slice EY3) .nil))
def ts21 : List (Nat × TD) := [(3, (.data (.int .i64))), (4, (.data .bool)), (39, (.data (.slice EY3))), (47, (.data EY3))]
noncomputable def fs21  : List (Nat × FSem) := []
noncomputable def body21 : Code := match Tryz.f21.body with | some c => c | none => .skip
theorem ty21 : chkTypes Tryz.prog ts21 = true := by kernel_rfl
theorem ev21  (k : Nat) (x : ((.cons (.slice EY3) (.cons (.slice EY3) .nil)) : Tys).den) : evFun (mkEnv ts21 (fs21 )) H21 k body21 26 [.tmp 4] (explodes (.cons (.slice EY3) (.cons (.slice EY3) .nil)) x) [] (dec (.cons .bool .nil)) = f21  k x.1 x.2.1 := by kernel_rfl
/-! ### jitney/net.momentFault -/
def f95 (g61 : (List ET6) → (Int)) (g105 : Int → (Bool)) (k : Nat) (x0 : List ET6) (x1 : Int) : Option (Int × Unit) :=
 bif ((g61 x0) == (0 : Int)) then
 bif (!(g105 x1)) then
 some ((1 : Int), ())
 else
 some ((g61 x0), ())
 else
 some ((g61 x0), ())
def H95 : Hints := hint0
abbrev A95 : Tys := (.cons (.slice EY3) (.cons (.int .i64) .nil))
def ts95 : List (Nat × TD) := [(3, (.data (.int .i64))), (23, (.data (.int .i64))), (39, (.data (.slice EY3)))]
noncomputable def fs95 (g61 : (List ET6) → (Int)) (g105 : Int → (Bool)) : List (Nat × FSem) := [(61, .fn (.cons (.slice EY3) .nil) (.cons (.int .i64) .nil) fun x => ((g61 x.1), ())), (105, .fn (.cons (.int .i64) .nil) (.cons .bool .nil) fun x => ((g105 x.1), ()))]
noncomputable def body95 : Code := match Tryz.f95.body with | some c => c | none => .skip
theorem ty95 : chkTypes Tryz.prog ts95 = true := by kernel_rfl
theorem ev95 (g61 : (List ET6) → (Int)) (g105 : Int → (Bool)) (k : Nat) (x : ((.cons (.slice EY3) (.cons (.int .i64) .nil)) : Tys).den) : evFun (mkEnv ts95 (fs95 g61 g105)) H95 k body95 16 [.tmp 4] (explodes (.cons (.slice EY3) (.cons (.int .i64) .nil)) x) [] (dec (.cons (.int .i64) .nil)) = f95 g61 g105 k x.1 x.2.1 := by kernel_rfl
/-! ### jitney/net.asked$1 -/
def f128 (g76 : ByteArray → ByteArray → (Int)) (k : Nat) (x0 : ET5) (x1 : ET5) : Option (Int × Unit) :=
 some ((g76 x0.1 x1.1), ())
def H128 : Hints := hint0
abbrev A128 : Tys := (.cons EY2 (.cons EY2 .nil))
def ts128 : List (Nat × TD) := [(3, (.data (.int .i64))), (9, (.data .str)), (31, (.data EY2))]
noncomputable def fs128 (g76 : ByteArray → ByteArray → (Int)) : List (Nat × FSem) := [(76, .fn (.cons .str (.cons .str .nil)) (.cons (.int .i64) .nil) fun x => ((g76 x.1 x.2.1), ()))]
noncomputable def body128 : Code := match Tryz.f128.body with | some c => c | none => .skip
theorem ty128 : chkTypes Tryz.prog ts128 = true := by kernel_rfl
theorem ev128 (g76 : ByteArray → ByteArray → (Int)) (k : Nat) (x : ((.cons EY2 (.cons EY2 .nil)) : Tys).den) : evFun (mkEnv ts128 (fs128 g76)) H128 k body128 10 [.tmp 4] (explodes (.cons EY2 (.cons EY2 .nil)) x) [] (dec (.cons (.int .i64) .nil)) = f128 g76 k x.1 x.2.1 := by kernel_rfl
/-! ### jitney/net.asked -/
noncomputable def f96 (g127_128 : List ET5 → Option (List ET5)) (k : Nat) (x0 : List ET6) (x1 : Int) : Option ((List ET5) × Unit) :=
 Option.bind (α := ((List ET5) × Unit) ⊕ ((Unit) × ((MapC .str EY2) × Unit))) (iter (σ := (Int × Unit) × ((MapC .str EY2) × Unit)) (τ := ((List ET5) × Unit) ⊕ ((Unit) × ((MapC .str EY2) × Unit))) k (fun y1 =>
 bif (decide (y1.1.1 < ((List.length x0 : Nat) : Int))) then
 bif (inR y1.1.1 ((List.length x0 : Nat) : Int)) then
 bif (decide ((rd (α := ET6) zET6 x0 y1.1.1).2.2.1 > x1)) then
 some (.inl (((IntKind.i64.wrap (y1.1.1 + (1 : Int))), ()), (y1.2.1, ())))
 else
 bif ((rd (α := ET6) zET6 x0 y1.1.1).2.2.2.1 == (3 : Int)) then
 some (.inl (((IntKind.i64.wrap (y1.1.1 + (1 : Int))), ()), ((mput (keq .str) ((rd (α := ET6) zET6 x0 y1.1.1).2.2.2.2.2.2.2.1.1) ((rd (α := ET6) zET6 x0 y1.1.1).2.2.2.2.2.2.2.1) y1.2.1), ())))
 else
 bif ((rd (α := ET6) zET6 x0 y1.1.1).2.2.2.1 == (4 : Int)) then
 some (.inl (((IntKind.i64.wrap (y1.1.1 + (1 : Int))), ()), ((mdel (keq .str) ((rd (α := ET6) zET6 x0 y1.1.1).2.2.2.2.1) y1.2.1.1, y1.2.1.2), ())))
 else
 some (.inl (((IntKind.i64.wrap (y1.1.1 + (1 : Int))), ()), (y1.2.1, ())))
 else
 none
 else
 some (.inr (.inr ((), (y1.2.1, ()))))) (((0 : Int), ()), ((([], 0) : MapC .str EY2), ()))) fun r => match r with
 | .inl z => some z
 | .inr z2 =>
 anyOrder z2.2.1.1 fun l7 => Option.bind (α := ((List ET5) × Unit) × (Unit)) (rangeM (α := (ByteArray × ET5 × Nat)) (Y := ((List ET5) × Unit) × (Unit)) (T := ((List ET5) × Unit) × (Unit)) (fun D e4 y3 =>
 bif decide (List.length y3.1.1 + List.length ([e4.2.1]) ≤ 4294967296) then
 some (.inl (((y3.1.1 ++ [e4.2.1]), ()), ()))
 else
 none) (fun D y3 =>
 some (.inr ((y3.1.1, ()), ()))) l7 [] (([], ()), ())) fun z5 =>
 Option.bind (g127_128 z5.1.1) fun v6 =>
 some (v6, ())
def H96 : Hints where
 loop := fun n => match n with
  | 0 => some ({ slots := [(14, (.int .i64))], objs := [(0, (.map .str EY2))], gone := [] }, 0, { slots := [], objs := [(0, (.map .str EY2))], gone := [] })
  | 3 => some ({ slots := [(8, (.row EY2))], objs := [], gone := [] }, 3, { slots := [(8, (.row EY2))], objs := [], gone := [] })
  | _ => none
 region := fun n => match n with
  | _ => none
 cond := fun n => match n with
  | _ => none
 block := fun n => match n with
  | _ => none
abbrev A96 : Tys := (.cons (.slice EY3) (.cons (.int .i64) .nil))
def ts96 : List (Nat × TD) := [(3, (.data (.int .i64))), (9, (.data .str)), (31, (.data EY2)), (39, (.data (.slice EY3))), (47, (.data EY3)), (108, (.data (.slice EY2))), (159, (.map .str EY2))]
noncomputable def fs96 (g127_128 : List ET5 → Option (List ET5)) : List (Nat × FSem) := [(127, .rfn EY2 .nil 128 fun xs a => g127_128 xs )]
noncomputable def body96 : Code := match Tryz.f96.body with | some c => c | none => .skip
theorem ty96 : chkTypes Tryz.prog ts96 = true := by kernel_rfl
theorem ev96 (g127_128 : List ET5 → Option (List ET5)) (k : Nat) (x : ((.cons (.slice EY3) (.cons (.int .i64) .nil)) : Tys).den) : evFunR (mkEnv ts96 (fs96 g127_128)) H96 k body96 54 [.tmp 4] (explodes (.cons (.slice EY3) (.cons (.int .i64) .nil)) x) [] (dec (.cons (.slice EY2) .nil)) = f96 g127_128 k x.1 x.2.1 := by kernel_rfl
/-! ### jitney/net.Asked -/
def f66 (g95 : (List ET6) → Int → (Int)) (g96 : (List ET6) → Int → Option ((List ET5) × Unit)) (k : Nat) (x0 : List ET6) (x1 : Int) : Option ((List ET5) × Int × Unit) :=
 bif ((g95 x0 x1) != (0 : Int)) then
 some ([], (g95 x0 x1), ())
 else
 Option.bind (g96 x0 x1) fun v1 =>
 some (v1.1, (0 : Int), ())
def H66 : Hints := hint0
abbrev A66 : Tys := (.cons (.slice EY3) (.cons (.int .i64) .nil))
def ts66 : List (Nat × TD) := [(3, (.data (.int .i64))), (23, (.data (.int .i64))), (39, (.data (.slice EY3))), (108, (.data (.slice EY2)))]
noncomputable def fs66 (g95 : (List ET6) → Int → (Int)) (g96 : (List ET6) → Int → Option ((List ET5) × Unit)) : List (Nat × FSem) := [(95, .fn (.cons (.slice EY3) (.cons (.int .i64) .nil)) (.cons (.int .i64) .nil) fun x => ((g95 x.1 x.2.1), ())), (96, .pfn (.cons (.slice EY3) (.cons (.int .i64) .nil)) (.cons (.slice EY2) .nil) fun x => (g96 x.1 x.2.1))]
noncomputable def body66 : Code := match Tryz.f66.body with | some c => c | none => .skip
theorem ty66 : chkTypes Tryz.prog ts66 = true := by kernel_rfl
theorem ev66 (g95 : (List ET6) → Int → (Int)) (g96 : (List ET6) → Int → Option ((List ET5) × Unit)) (k : Nat) (x : ((.cons (.slice EY3) (.cons (.int .i64) .nil)) : Tys).den) : evFun (mkEnv ts66 (fs66 g95 g96)) H66 k body66 16 [.tmp 4, .tmp 5] (explodes (.cons (.slice EY3) (.cons (.int .i64) .nil)) x) [] (dec (.cons (.slice EY2) (.cons (.int .i64) .nil))) = f66 g95 g96 k x.1 x.2.1 := by kernel_rfl
/-! ### jitney/jitlaw2.netted -/
def f22 (g66 : (List ET6) → Int → Option ((List ET5) × Int × Unit)) (k : Nat)  : Option (Bool × Unit) :=
 Option.bind (g66 ([((ByteArray.mk #[115]), (1 : Int), (0 : Int), (3 : Int), ByteArray.empty, ByteArray.empty, zET3, ((ByteArray.mk #[114]), (ByteArray.mk #[97]), (ByteArray.mk #[98]), (ByteArray.mk #[99]), (0 : Int), (5 : Int), (1 : Int), (0 : Int), ()), ())]) (0 : Int)) fun v1 =>
 bif (v1.2.1 == (0 : Int)) then
 bif (((List.length v1.1 : Nat) : Int) == (1 : Int)) then
 bif (inR (0 : Int) ((List.length v1.1 : Nat) : Int)) then
 some (((sEq ((rd (α := ET5) zET5 v1.1 (0 : Int)).1) (ByteArray.mk #[114])) && ((sEq ((rd (α := ET5) zET5 v1.1 (0 : Int)).2.1) (ByteArray.mk #[97])) && ((sEq ((rd (α := ET5) zET5 v1.1 (0 : Int)).2.2.1) (ByteArray.mk #[98])) && ((sEq ((rd (α := ET5) zET5 v1.1 (0 : Int)).2.2.2.1) (ByteArray.mk #[99])) && (((rd (α := ET5) zET5 v1.1 (0 : Int)).2.2.2.2.1 == (0 : Int)) && (((rd (α := ET5) zET5 v1.1 (0 : Int)).2.2.2.2.2.1 == (5 : Int)) && (((rd (α := ET5) zET5 v1.1 (0 : Int)).2.2.2.2.2.2.1 == (1 : Int)) && (((rd (α := ET5) zET5 v1.1 (0 : Int)).2.2.2.2.2.2.2.1 == (0 : Int)) && true)))))))), ())
 else
 none
 else
 some (false, ())
 else
 some (false, ())
def H22 : Hints := hint0
abbrev A22 : Tys := .nil
def ts22 : List (Nat × TD) := [(3, (.data (.int .i64))), (4, (.data .bool)), (23, (.data (.int .i64))), (31, (.data EY2)), (39, (.data (.slice EY3))), (47, (.data EY3)), (108, (.data (.slice EY2)))]
noncomputable def fs22 (g66 : (List ET6) → Int → Option ((List ET5) × Int × Unit)) : List (Nat × FSem) := [(66, .pfn (.cons (.slice EY3) (.cons (.int .i64) .nil)) (.cons (.slice EY2) (.cons (.int .i64) .nil)) fun x => (g66 x.1 x.2.1))]
noncomputable def body22 : Code := match Tryz.f22.body with | some c => c | none => .skip
theorem ty22 : chkTypes Tryz.prog ts22 = true := by kernel_rfl
theorem ev22 (g66 : (List ET6) → Int → Option ((List ET5) × Int × Unit)) (k : Nat) (x : (.nil : Tys).den) : evFun (mkEnv ts22 (fs22 g66)) H22 k body22 26 [.tmp 0] (explodes .nil x) [] (dec (.cons .bool .nil)) = f22 g66 k  := by kernel_rfl
/-! ### jitney/jitlaw2.DeedTexts -/
def f4 (g8 : ByteArray → Int → ET1) (g15 : (List ET6) → (Int)) (g16 : (List ET6) → Option (ByteArray × Unit)) (g17 : (List ET6) → Option ET1) (g18 : (List ET6) → Option ((List ET6) × Unit)) (g19 : ByteArray → Option ((List ET6) × Int × Int × Unit)) (g20 : ByteArray → Option ((List ET6) × Int × Int × Unit)) (g21 : (List ET6) → (List ET6) → (Bool)) (g22 : Option (Bool × Unit)) (k : Nat) (x0 : List ET6) (x1 : ByteArray) : Option (Bool × Unit) :=
 Option.bind (α := (Bool × Unit) ⊕ ((ByteArray × Unit) × (Unit))) (
 bif ((g15 x0) == (0 : Int)) then
 Option.bind (g16 x0) fun v1 =>
 some (.inr ((v1.1, ()), ()))
 else
 some (.inr (((ByteArray.mk #[]), ()), ()))) fun r => match r with
 | .inl z => some z
 | .inr y2 =>
 Option.bind (g18 x0) fun v3 =>
 Option.bind (g17 v3.1) fun v4 =>
 Option.bind (g19 x1) fun v5 =>
 Option.bind (g20 x1) fun v6 =>
 bif (v4.2.1 == (g8 y2.1.1 (g15 x0)).2.1) then
 bif (sEq v4.1 ((g8 y2.1.1 (g15 x0)).1)) then
 bif (g21 v5.1 v6.1) then
 bif (v5.2.1 == v6.2.1) then
 bif (v5.2.2.1 == v6.2.2.1) then
 Option.bind g22 fun v7 =>
 some (v7.1, ())
 else
 some (false, ())
 else
 some (false, ())
 else
 some (false, ())
 else
 some (false, ())
 else
 some (false, ())
def H4 : Hints where
 loop := fun n => match n with
  | _ => none
 region := fun n => match n with
  | _ => none
 cond := fun n => match n with
  | 18 => some { slots := [(6, .str)], objs := [], gone := [] }
  | _ => none
 block := fun n => match n with
  | _ => none
abbrev A4 : Tys := (.cons (.slice EY3) (.cons .str .nil))
def ts4 : List (Nat × TD) := [(3, (.data (.int .i64))), (4, (.data .bool)), (9, (.data .str)), (23, (.data (.int .i64))), (39, (.data (.slice EY3)))]
noncomputable def fs4 (g8 : ByteArray → Int → ET1) (g15 : (List ET6) → (Int)) (g16 : (List ET6) → Option (ByteArray × Unit)) (g17 : (List ET6) → Option ET1) (g18 : (List ET6) → Option ((List ET6) × Unit)) (g19 : ByteArray → Option ((List ET6) × Int × Int × Unit)) (g20 : ByteArray → Option ((List ET6) × Int × Int × Unit)) (g21 : (List ET6) → (List ET6) → (Bool)) (g22 : Option (Bool × Unit)) : List (Nat × FSem) := [(8, .fn (.cons .str (.cons (.int .i64) .nil)) (.cons .str (.cons (.int .i64) .nil)) fun x => (g8 x.1 x.2.1)), (15, .fn (.cons (.slice EY3) .nil) (.cons (.int .i64) .nil) fun x => ((g15 x.1), ())), (16, .pfn (.cons (.slice EY3) .nil) (.cons .str .nil) fun x => (g16 x.1)), (17, .pfn (.cons (.slice EY3) .nil) (.cons .str (.cons (.int .i64) .nil)) fun x => (g17 x.1)), (18, .pfn (.cons (.slice EY3) .nil) (.cons (.slice EY3) .nil) fun x => (g18 x.1)), (19, .pfn (.cons .str .nil) (.cons (.slice EY3) (.cons (.int .i64) (.cons (.int .i64) .nil))) fun x => (g19 x.1)), (20, .pfn (.cons .str .nil) (.cons (.slice EY3) (.cons (.int .i64) (.cons (.int .i64) .nil))) fun x => (g20 x.1)), (21, .fn (.cons (.slice EY3) (.cons (.slice EY3) .nil)) (.cons .bool .nil) fun x => ((g21 x.1 x.2.1), ())), (22, .pfn .nil (.cons .bool .nil) fun x => g22)]
noncomputable def body4 : Code := match Tryz.f4.body with | some c => c | none => .skip
theorem ty4 : chkTypes Tryz.prog ts4 = true := by kernel_rfl
theorem ev4 (g8 : ByteArray → Int → ET1) (g15 : (List ET6) → (Int)) (g16 : (List ET6) → Option (ByteArray × Unit)) (g17 : (List ET6) → Option ET1) (g18 : (List ET6) → Option ((List ET6) × Unit)) (g19 : ByteArray → Option ((List ET6) × Int × Int × Unit)) (g20 : ByteArray → Option ((List ET6) × Int × Int × Unit)) (g21 : (List ET6) → (List ET6) → (Bool)) (g22 : Option (Bool × Unit)) (k : Nat) (x : ((.cons (.slice EY3) (.cons .str .nil)) : Tys).den) : evFun (mkEnv ts4 (fs4 g8 g15 g16 g17 g18 g19 g20 g21 g22)) H4 k body4 71 [.tmp 4] (explodes (.cons (.slice EY3) (.cons .str .nil)) x) [] (dec (.cons .bool .nil)) = f4 g8 g15 g16 g17 g18 g19 g20 g21 g22 k x.1 x.2.1 := by kernel_rfl
end Go.Vm
