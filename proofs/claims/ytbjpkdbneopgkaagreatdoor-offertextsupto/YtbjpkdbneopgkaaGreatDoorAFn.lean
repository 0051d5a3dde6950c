/- The program's functions, as an own tool reads them off its form. -/
import Derived.Test.YtbjpkdbneopgkaaGreatDoorVmK
import Derived.Test.YtbjpkdbneopgkaaGreatDoorVmD
import Derived.Test.YtbjpkdbneopgkaaGreatDoorVmQ
import Derived.Test.YtbjpkdbneopgkaaGreatDoorProg
set_option maxRecDepth 100000
set_option linter.unusedVariables false
namespace Go.Vm
open Go.Proofs
abbrev AT0 : Type := (Int × Bool × Unit)
abbrev AT1 : Type := (ByteArray × Int × Unit)
abbrev AT2 : Type := (ByteArray × Bool × Unit)
abbrev AT5 : Type := (ByteArray × ByteArray × ByteArray × ByteArray × Int × Int × Int × Int × Unit)
abbrev AT6 : Type := (Int × Int × AT5 × Unit)
abbrev zAT0 : AT0 := ((0 : Int), false, ())
abbrev zAT5 : AT5 := (ByteArray.empty, ByteArray.empty, ByteArray.empty, ByteArray.empty, (0 : Int), (0 : Int), (0 : Int), (0 : Int), ())
abbrev zAT6 : AT6 := ((0 : Int), (0 : Int), zAT5, ())
theorem mixedOK : Tryz.prog.follows .mixedOrders = true := by kernel_rfl
def hint0 : Hints := { loop := fun _ => none, region := fun _ => none, cond := fun _ => none, block := fun _ => none }
/-! ### jitney/jitref2.in -/
def f32  (k : Nat) (x0 : Int) (x1 : Int) (x2 : Int) : Option (Bool × Unit) :=
 bif (decide (x1 ≤ x0)) then
 some ((decide (x0 ≤ x2)), ())
 else
 some (false, ())
def H32 : Hints := hint0
abbrev A32 : Tys := (.cons (.int .i64) (.cons (.int .i64) (.cons (.int .i64) .nil)))
def ts32 : List (Nat × TD) := [(3, (.data (.int .i64))), (4, (.data .bool))]
noncomputable def fs32  : List (Nat × FSem) := []
noncomputable def body32 : Code := match Tryz.f32.body with | some c => c | none => .skip
theorem ty32 : chkTypes Tryz.prog ts32 = true := by kernel_rfl
theorem ev32  (k : Nat) (x : ((.cons (.int .i64) (.cons (.int .i64) (.cons (.int .i64) .nil))) : Tys).den) : evFun (mkEnv ts32 (fs32 )) H32 k body32 15 [.tmp 6] (explodes (.cons (.int .i64) (.cons (.int .i64) (.cons (.int .i64) .nil))) x) [] (dec (.cons .bool .nil)) = f32  k x.1 x.2.1 x.2.2.1 := by kernel_rfl
/-! ### jitney/jitref2.Moment -/
/-! ### strings.IndexByte -/
def f103 (g135 : ByteArray → Int → (Int)) (k : Nat) (x0 : ByteArray) (x1 : Int) : Option (Int × Unit) :=
 some ((g135 x0 x1), ())
def H103 : Hints := hint0
abbrev A103 : Tys := (.cons .str (.cons (.int .u8) .nil))
def ts103 : List (Nat × TD) := [(3, (.data (.int .i64))), (5, (.data (.int .u8))), (9, (.data .str))]
noncomputable def fs103 (g135 : ByteArray → Int → (Int)) : List (Nat × FSem) := [(135, .fn (.cons .str (.cons (.int .u8) .nil)) (.cons (.int .i64) .nil) fun x => ((g135 x.1 x.2.1), ()))]
noncomputable def body103 : Code := match Tryz.f103.body with | some c => c | none => .skip
theorem ty103 : chkTypes Tryz.prog ts103 = true := by kernel_rfl
theorem ev103 (g135 : ByteArray → Int → (Int)) (k : Nat) (x : ((.cons .str (.cons (.int .u8) .nil)) : Tys).den) : evFun (mkEnv ts103 (fs103 g135)) H103 k body103 8 [.tmp 4] (explodes (.cons .str (.cons (.int .u8) .nil)) x) [] (dec (.cons (.int .i64) .nil)) = f103 g135 k x.1 x.2.1 := by kernel_rfl
/-! ### jitney/jitref2.only -/
def f74 (g103 : ByteArray → Int → (Int)) (k : Nat) (x0 : ByteArray) (x1 : ByteArray) : Option (Bool × Unit) :=
 Option.bind (α := (Bool × Unit) ⊕ ((Unit) × (Unit))) (iter (σ := (Int × Unit) × (Unit)) (τ := (Bool × Unit) ⊕ ((Unit) × (Unit))) k (fun y1 =>
 bif (decide (y1.1.1 < ((ByteArray.size x0 : Nat) : Int))) then
 bif (inR y1.1.1 ((ByteArray.size x0 : Nat) : Int)) then
 bif (decide ((g103 x1 (bt x0 y1.1.1)) < (0 : Int))) then
 some (.inr (.inl (false, ())))
 else
 some (.inl (((IntKind.i64.wrap (y1.1.1 + (1 : Int))), ()), ()))
 else
 none
 else
 some (.inr (.inr ((), ())))) (((0 : Int), ()), ())) fun r => match r with
 | .inl z => some z
 | .inr z2 =>
 some (true, ())
def H74 : Hints where
  loop := fun n => match n with
    | 0 => some ({ slots := [(8, (.int .i64))], objs := [], gone := [] }, 0, { slots := [], objs := [], gone := [] })
    | _ => none
  region := fun n => match n with
    | _ => none
  cond := fun n => match n with
    | _ => none
  block := fun n => match n with
    | _ => none
abbrev A74 : Tys := (.cons .str (.cons .str .nil))
def ts74 : List (Nat × TD) := [(3, (.data (.int .i64))), (4, (.data .bool)), (9, (.data .str))]
noncomputable def fs74 (g103 : ByteArray → Int → (Int)) : List (Nat × FSem) := [(103, .fn (.cons .str (.cons (.int .u8) .nil)) (.cons (.int .i64) .nil) fun x => ((g103 x.1 x.2.1), ()))]
noncomputable def body74 : Code := match Tryz.f74.body with | some c => c | none => .skip
theorem ty74 : chkTypes Tryz.prog ts74 = true := by kernel_rfl
theorem ev74 (g103 : ByteArray → Int → (Int)) (k : Nat) (x : ((.cons .str (.cons .str .nil)) : Tys).den) : evFun (mkEnv ts74 (fs74 g103)) H74 k body74 18 [.tmp 4] (explodes (.cons .str (.cons .str .nil)) x) [] (dec (.cons .bool .nil)) = f74 g103 k x.1 x.2.1 := by kernel_rfl
/-! ### jitney/jitref2.Key -/
def f34 (g32 : Int → Int → Int → (Bool)) (g74 : ByteArray → ByteArray → (Bool)) (k : Nat) (x0 : ByteArray) : Option (Bool × Unit) :=
 bif (g32 ((ByteArray.size x0 : Nat) : Int) (1 : Int) (40 : Int)) then
 bif (decide (0 ≤ (0 : Int)) && (decide ((0 : Int) ≤ (1 : Int)) && decide ((1 : Int) ≤ ((ByteArray.size x0 : Nat) : Int)))) then
 bif (g74 (ByteArray.extract x0 (Int.toNat (0 : Int)) (Int.toNat (1 : Int))) (ByteArray.mk #[97, 98, 99, 100, 101, 102, 103, 104, 105, 106, 107, 108, 109, 110, 111, 112, 113, 114, 115, 116, 117, 118, 119, 120, 121, 122])) then
 some ((g74 x0 (ByteArray.mk #[97, 98, 99, 100, 101, 102, 103, 104, 105, 106, 107, 108, 109, 110, 111, 112, 113, 114, 115, 116, 117, 118, 119, 120, 121, 122, 48, 49, 50, 51, 52, 53, 54, 55, 56, 57, 45, 95])), ())
 else
 some (false, ())
 else
 none
 else
 some (false, ())
def H34 : Hints := hint0
abbrev A34 : Tys := (.cons .str .nil)
def ts34 : List (Nat × TD) := [(4, (.data .bool)), (9, (.data .str))]
noncomputable def fs34 (g32 : Int → Int → Int → (Bool)) (g74 : ByteArray → ByteArray → (Bool)) : List (Nat × FSem) := [(32, .fn (.cons (.int .i64) (.cons (.int .i64) (.cons (.int .i64) .nil))) (.cons .bool .nil) fun x => ((g32 x.1 x.2.1 x.2.2.1), ())), (74, .fn (.cons .str (.cons .str .nil)) (.cons .bool .nil) fun x => ((g74 x.1 x.2.1), ()))]
noncomputable def body34 : Code := match Tryz.f34.body with | some c => c | none => .skip
theorem ty34 : chkTypes Tryz.prog ts34 = true := by kernel_rfl
theorem ev34 (g32 : Int → Int → Int → (Bool)) (g74 : ByteArray → ByteArray → (Bool)) (k : Nat) (x : ((.cons .str .nil) : Tys).den) : evFun (mkEnv ts34 (fs34 g32 g74)) H34 k body34 15 [.tmp 2] (explodes (.cons .str .nil) x) [] (dec (.cons .bool .nil)) = f34 g32 g74 k x.1 := by kernel_rfl
/-! ### jitney/jitref2.RideFault -/
/-! ### jitney/jitref2.sign -/
/-! ### strings.Compare -/
def f76 (g104 : ByteArray → ByteArray → (Int)) (k : Nat) (x0 : ByteArray) (x1 : ByteArray) : Option (Int × Unit) :=
 some ((g104 x0 x1), ())
def H76 : Hints := hint0
abbrev A76 : Tys := (.cons .str (.cons .str .nil))
def ts76 : List (Nat × TD) := [(3, (.data (.int .i64))), (9, (.data .str))]
noncomputable def fs76 (g104 : ByteArray → ByteArray → (Int)) : List (Nat × FSem) := [(104, .fn (.cons .str (.cons .str .nil)) (.cons (.int .i64) .nil) fun x => ((g104 x.1 x.2.1), ()))]
noncomputable def body76 : Code := match Tryz.f76.body with | some c => c | none => .skip
theorem ty76 : chkTypes Tryz.prog ts76 = true := by kernel_rfl
theorem ev76 (g104 : ByteArray → ByteArray → (Int)) (k : Nat) (x : ((.cons .str (.cons .str .nil)) : Tys).den) : evFun (mkEnv ts76 (fs76 g104)) H76 k body76 8 [.tmp 4] (explodes (.cons .str (.cons .str .nil)) x) [] (dec (.cons (.int .i64) .nil)) = f76 g104 k x.1 x.2.1 := by kernel_rfl
/-! ### jitney/jitref2.AskOrder -/
/-! ### jitney/jitref2.AsksFault -/
def f6 (g31 : Int → (Bool)) (g32 : Int → Int → Int → (Bool)) (g33 : AT5 → (Int)) (g34 : ByteArray → (Bool)) (g35 : AT6 → AT6 → (Int)) (k : Nat) (x0 : List AT6) : Option (Int × Unit) :=
 bif (decide (((List.length x0 : Nat) : Int) > (2000 : Int))) then
 some ((2 : Int), ())
 else
 Option.bind (α := (Int × Unit) ⊕ ((Unit) × (Unit))) (iter (σ := (Int × Unit) × (Unit)) (τ := (Int × Unit) ⊕ ((Unit) × (Unit))) k (fun y1 =>
 bif (decide (y1.1.1 < ((List.length x0 : Nat) : Int))) then
 bif (inR y1.1.1 ((List.length x0 : Nat) : Int)) then
 bif (!(g31 ((rd (α := AT6) zAT6 x0 y1.1.1).1))) then
 some (.inr (.inl ((1 : Int), ())))
 else
 bif (!(g32 ((rd (α := AT6) zAT6 x0 y1.1.1).2.1) (1 : Int) (4 : Int))) then
 some (.inr (.inl ((4 : Int), ())))
 else
 Option.bind (α := (((Int × Unit) × (Unit)) ⊕ ((Int × Unit) ⊕ ((Unit) × (Unit)))) ⊕ ((Bool × Unit) × (Unit))) (
 bif ((rd (α := AT6) zAT6 x0 y1.1.1).2.1 == (1 : Int)) then
 some (.inr ((true, ()), ()))
 else
 some (.inr ((((rd (α := AT6) zAT6 x0 y1.1.1).2.1 == (2 : Int)), ()), ()))) fun r => match r with
 | .inl z => some z
 | .inr y2 =>
 Option.bind (α := (((Int × Unit) × (Unit)) ⊕ ((Int × Unit) ⊕ ((Unit) × (Unit)))) ⊕ ((Unit) × (Unit))) (
 bif y2.1.1 then
 bif ((g33 ((rd (α := AT6) zAT6 x0 y1.1.1).2.2.1)) != (0 : Int)) then
 some (.inl (.inr (.inl ((g33 ((rd (α := AT6) zAT6 x0 y1.1.1).2.2.1)), ()))))
 else
 some (.inr ((), ()))
 else
 bif (!(g34 ((rd (α := AT6) zAT6 x0 y1.1.1).2.2.1.1))) then
 some (.inl (.inr (.inl ((5 : Int), ()))))
 else
 bif (!(g34 ((rd (α := AT6) zAT6 x0 y1.1.1).2.2.1.2.1))) then
 some (.inl (.inr (.inl ((5 : Int), ()))))
 else
 bif (!((sEq ((rd (α := AT6) zAT6 x0 y1.1.1).2.2.1.1) ((rd (α := AT6) zAT6 x0 y1.1.1).2.2.1.1)) && ((sEq ((rd (α := AT6) zAT6 x0 y1.1.1).2.2.1.2.1) ((rd (α := AT6) zAT6 x0 y1.1.1).2.2.1.2.1)) && ((sEq ((rd (α := AT6) zAT6 x0 y1.1.1).2.2.1.2.2.1) ByteArray.empty) && ((sEq ((rd (α := AT6) zAT6 x0 y1.1.1).2.2.1.2.2.2.1) ByteArray.empty) && (((rd (α := AT6) zAT6 x0 y1.1.1).2.2.1.2.2.2.2.1 == (0 : Int)) && (((rd (α := AT6) zAT6 x0 y1.1.1).2.2.1.2.2.2.2.2.1 == (0 : Int)) && (((rd (α := AT6) zAT6 x0 y1.1.1).2.2.1.2.2.2.2.2.2.1 == (0 : Int)) && (((rd (α := AT6) zAT6 x0 y1.1.1).2.2.1.2.2.2.2.2.2.2.1 == (0 : Int)) && true))))))))) then
 some (.inl (.inr (.inl ((3 : Int), ()))))
 else
 some (.inr ((), ()))) fun r => match r with
 | .inl z => some z
 | .inr y3 =>
 bif (decide (y1.1.1 > (0 : Int))) then
 bif (inR (IntKind.i64.wrap (y1.1.1 - (1 : Int))) ((List.length x0 : Nat) : Int)) then
 bif (decide ((g35 (rd (α := AT6) zAT6 x0 (IntKind.i64.wrap (y1.1.1 - (1 : Int)))) (rd (α := AT6) zAT6 x0 y1.1.1)) ≥ (0 : Int))) then
 some (.inr (.inl ((7 : Int), ())))
 else
 some (.inl (((IntKind.i64.wrap (y1.1.1 + (1 : Int))), ()), ()))
 else
 none
 else
 some (.inl (((IntKind.i64.wrap (y1.1.1 + (1 : Int))), ()), ()))
 else
 none
 else
 some (.inr (.inr ((), ())))) (((0 : Int), ()), ())) fun r => match r with
 | .inl z => some z
 | .inr z4 =>
 some ((0 : Int), ())
/-! ### strconv.Itoa -/
def f39 (g79 : Int → Option (ByteArray × Unit)) (k : Nat) (x0 : Int) : Option (ByteArray × Unit) :=
 Option.bind (g79 x0) fun v1 =>
 some (v1.1, ())
def H39 : Hints := hint0
abbrev A39 : Tys := (.cons (.int .i64) .nil)
def ts39 : List (Nat × TD) := [(3, (.data (.int .i64))), (9, (.data .str))]
noncomputable def fs39 (g79 : Int → Option (ByteArray × Unit)) : List (Nat × FSem) := [(79, .pfn (.cons (.int .i64) .nil) (.cons .str .nil) fun x => (g79 x.1))]
noncomputable def body39 : Code := match Tryz.f39.body with | some c => c | none => .skip
theorem ty39 : chkTypes Tryz.prog ts39 = true := by kernel_rfl
theorem ev39 (g79 : Int → Option (ByteArray × Unit)) (k : Nat) (x : ((.cons (.int .i64) .nil) : Tys).den) : evFun (mkEnv ts39 (fs39 g79)) H39 k body39 5 [.tmp 2] (explodes (.cons (.int .i64) .nil) x) [] (dec (.cons .str .nil)) = f39 g79 k x.1 := by kernel_rfl
/-! ### jitney/jitref2.numbers -/
def f36 (g39 : Int → Option (ByteArray × Unit)) (g42 : (List ByteArray) → ByteArray → Option (ByteArray × Unit)) (k : Nat) (x0 : List Int) : Option (ByteArray × Unit) :=
 Option.bind (α := (ByteArray × Unit) ⊕ (((List ByteArray) × Unit) × (Unit))) (iter (σ := ((List ByteArray) × Int × Unit) × (Unit)) (τ := (ByteArray × Unit) ⊕ (((List ByteArray) × Unit) × (Unit))) k (fun y1 =>
 bif (decide (y1.1.2.1 < ((List.length x0 : Nat) : Int))) then
 bif (inR y1.1.2.1 ((List.length x0 : Nat) : Int)) then
 Option.bind (g39 (rd (α := Int) (0 : Int) x0 y1.1.2.1)) fun v2 =>
 bif decide (List.length y1.1.1 + List.length ([v2.1]) ≤ 4294967296) then
 some (.inl (((y1.1.1 ++ [v2.1]), (IntKind.i64.wrap (y1.1.2.1 + (1 : Int))), ()), ()))
 else
 none
 else
 none
 else
 some (.inr (.inr ((y1.1.1, ()), ())))) (([], (0 : Int), ()), ())) fun r => match r with
 | .inl z => some z
 | .inr z3 =>
 Option.bind (g42 z3.1.1 (ByteArray.mk #[32])) fun v4 =>
 some (v4.1, ())
def H36 : Hints where
  loop := fun n => match n with
    | 0 => some ({ slots := [(3, (.row .str)), (8, (.int .i64))], objs := [], gone := [] }, 0, { slots := [(3, (.row .str))], objs := [], gone := [] })
    | _ => none
  region := fun n => match n with
    | _ => none
  cond := fun n => match n with
    | _ => none
  block := fun n => match n with
    | _ => none
abbrev A36 : Tys := (.cons (.slice (.int .i64)) .nil)
def ts36 : List (Nat × TD) := [(3, (.data (.int .i64))), (9, (.data .str)), (69, (.data (.slice .str))), (91, (.data (.slice (.int .i64))))]
noncomputable def fs36 (g39 : Int → Option (ByteArray × Unit)) (g42 : (List ByteArray) → ByteArray → Option (ByteArray × Unit)) : List (Nat × FSem) := [(39, .pfn (.cons (.int .i64) .nil) (.cons .str .nil) fun x => (g39 x.1)), (42, .pfn (.cons (.slice .str) (.cons .str .nil)) (.cons .str .nil) fun x => (g42 x.1 x.2.1))]
noncomputable def body36 : Code := match Tryz.f36.body with | some c => c | none => .skip
theorem ty36 : chkTypes Tryz.prog ts36 = true := by kernel_rfl
theorem ev36 (g39 : Int → Option (ByteArray × Unit)) (g42 : (List ByteArray) → ByteArray → Option (ByteArray × Unit)) (k : Nat) (x : ((.cons (.slice (.int .i64)) .nil) : Tys).den) : evFun (mkEnv ts36 (fs36 g39 g42)) H36 k body36 20 [.tmp 2] (explodes (.cons (.slice (.int .i64)) .nil) x) [] (dec (.cons .str .nil)) = f36 g39 g42 k x.1 := by kernel_rfl
/-! ### jitney/jitref2.askWords -/
/-! ### jitney/jitref2.AskLines -/
/-! ### jitney/jitlaw2.written -/
def f8  (k : Nat) (x0 : ByteArray) (x1 : Int) : Option AT1 :=
 bif (x1 != (0 : Int)) then
 some ((ByteArray.mk #[]), x1, ())
 else
 bif (decide (((ByteArray.size x0 : Nat) : Int) > (200000 : Int))) then
 some ((ByteArray.mk #[]), (2 : Int), ())
 else
 some (x0, (0 : Int), ())
def H8 : Hints := hint0
abbrev A8 : Tys := (.cons .str (.cons (.int .i64) .nil))
def ts8 : List (Nat × TD) := [(3, (.data (.int .i64))), (9, (.data .str)), (23, (.data (.int .i64)))]
noncomputable def fs8  : List (Nat × FSem) := []
noncomputable def body8 : Code := match Tryz.f8.body with | some c => c | none => .skip
theorem ty8 : chkTypes Tryz.prog ts8 = true := by kernel_rfl
theorem ev8  (k : Nat) (x : ((.cons .str (.cons (.int .i64) .nil)) : Tys).den) : evFun (mkEnv ts8 (fs8 )) H8 k body8 15 [.tmp 4, .tmp 5] (explodes (.cons .str (.cons (.int .i64) .nil)) x) [] (dec (.cons .str (.cons (.int .i64) .nil))) = f8  k x.1 x.2.1 := by kernel_rfl
/-! ### jitney/base.Out -/
def f99  (k : Nat) (x0 : Int) (x1 : Int) (x2 : Int) : Option (Bool × Unit) :=
 bif (decide (x0 < x1)) then
 some (true, ())
 else
 some ((decide (x0 > x2)), ())
def H99 : Hints := hint0
abbrev A99 : Tys := (.cons (.int .i64) (.cons (.int .i64) (.cons (.int .i64) .nil)))
def ts99 : List (Nat × TD) := [(3, (.data (.int .i64))), (4, (.data .bool))]
noncomputable def fs99  : List (Nat × FSem) := []
noncomputable def body99 : Code := match Tryz.f99.body with | some c => c | none => .skip
theorem ty99 : chkTypes Tryz.prog ts99 = true := by kernel_rfl
theorem ev99  (k : Nat) (x : ((.cons (.int .i64) (.cons (.int .i64) (.cons (.int .i64) .nil))) : Tys).den) : evFun (mkEnv ts99 (fs99 )) H99 k body99 15 [.tmp 6] (explodes (.cons (.int .i64) (.cons (.int .i64) (.cons (.int .i64) .nil))) x) [] (dec (.cons .bool .nil)) = f99  k x.1 x.2.1 x.2.2.1 := by kernel_rfl
/-! ### jitney/base.Moment -/
/-! ### jitney/base.Key -/
def f98  (k : Nat) (x0 : ByteArray) : Option (Bool × Unit) :=
 bif (sEq x0 (ByteArray.mk #[])) then
 some (false, ())
 else
 bif (decide (((ByteArray.size x0 : Nat) : Int) > (40 : Int))) then
 some (false, ())
 else
 bif (inR (0 : Int) ((ByteArray.size x0 : Nat) : Int)) then
 bif (decide ((bt x0 (0 : Int)) < (97 : Int))) then
 some (false, ())
 else
 bif (inR (0 : Int) ((ByteArray.size x0 : Nat) : Int)) then
 bif (decide ((bt x0 (0 : Int)) > (122 : Int))) then
 some (false, ())
 else
 Option.bind (α := (Bool × Unit) ⊕ ((Unit) × (Unit))) (iter (σ := (Int × Unit) × (Unit)) (τ := (Bool × Unit) ⊕ ((Unit) × (Unit))) k (fun y1 =>
 bif (decide (y1.1.1 < ((ByteArray.size x0 : Nat) : Int))) then
 bif (inR y1.1.1 ((ByteArray.size x0 : Nat) : Int)) then
 bif (decide ((bt x0 y1.1.1) ≥ (97 : Int))) then
 bif (decide ((bt x0 y1.1.1) ≤ (122 : Int))) then
 some (.inl (((IntKind.i64.wrap (y1.1.1 + (1 : Int))), ()), ()))
 else
 bif (decide ((bt x0 y1.1.1) ≥ (48 : Int))) then
 bif (decide ((bt x0 y1.1.1) ≤ (57 : Int))) then
 some (.inl (((IntKind.i64.wrap (y1.1.1 + (1 : Int))), ()), ()))
 else
 bif ((bt x0 y1.1.1) == (45 : Int)) then
 some (.inl (((IntKind.i64.wrap (y1.1.1 + (1 : Int))), ()), ()))
 else
 bif (!((bt x0 y1.1.1) == (95 : Int))) then
 some (.inr (.inl (false, ())))
 else
 some (.inl (((IntKind.i64.wrap (y1.1.1 + (1 : Int))), ()), ()))
 else
 bif ((bt x0 y1.1.1) == (45 : Int)) then
 some (.inl (((IntKind.i64.wrap (y1.1.1 + (1 : Int))), ()), ()))
 else
 bif (!((bt x0 y1.1.1) == (95 : Int))) then
 some (.inr (.inl (false, ())))
 else
 some (.inl (((IntKind.i64.wrap (y1.1.1 + (1 : Int))), ()), ()))
 else
 bif (decide ((bt x0 y1.1.1) ≥ (48 : Int))) then
 bif (decide ((bt x0 y1.1.1) ≤ (57 : Int))) then
 some (.inl (((IntKind.i64.wrap (y1.1.1 + (1 : Int))), ()), ()))
 else
 bif ((bt x0 y1.1.1) == (45 : Int)) then
 some (.inl (((IntKind.i64.wrap (y1.1.1 + (1 : Int))), ()), ()))
 else
 bif (!((bt x0 y1.1.1) == (95 : Int))) then
 some (.inr (.inl (false, ())))
 else
 some (.inl (((IntKind.i64.wrap (y1.1.1 + (1 : Int))), ()), ()))
 else
 bif ((bt x0 y1.1.1) == (45 : Int)) then
 some (.inl (((IntKind.i64.wrap (y1.1.1 + (1 : Int))), ()), ()))
 else
 bif (!((bt x0 y1.1.1) == (95 : Int))) then
 some (.inr (.inl (false, ())))
 else
 some (.inl (((IntKind.i64.wrap (y1.1.1 + (1 : Int))), ()), ()))
 else
 none
 else
 some (.inr (.inr ((), ())))) (((0 : Int), ()), ())) fun r => match r with
 | .inl z => some z
 | .inr z2 =>
 some (true, ())
 else
 none
 else
 none
def H98 : Hints where
  loop := fun n => match n with
    | 0 => some ({ slots := [(24, (.int .i64))], objs := [], gone := [] }, 0, { slots := [], objs := [], gone := [] })
    | _ => none
  region := fun n => match n with
    | _ => none
  cond := fun n => match n with
    | _ => none
  block := fun n => match n with
    | _ => none
abbrev A98 : Tys := (.cons .str .nil)
def ts98 : List (Nat × TD) := [(3, (.data (.int .i64))), (4, (.data .bool)), (5, (.data (.int .u8))), (9, (.data .str))]
noncomputable def fs98  : List (Nat × FSem) := []
noncomputable def body98 : Code := match Tryz.f98.body with | some c => c | none => .skip
theorem ty98 : chkTypes Tryz.prog ts98 = true := by kernel_rfl
theorem ev98  (k : Nat) (x : ((.cons .str .nil) : Tys).den) : evFun (mkEnv ts98 (fs98 )) H98 k body98 54 [.tmp 2] (explodes (.cons .str .nil) x) [] (dec (.cons .bool .nil)) = f98  k x.1 := by kernel_rfl
/-! ### jitney/request.allKeys$1 -/
/-! ### jitney/request.allKeys -/
/-! ### jitney/request.CheckRide -/
/-! ### jitney/request.askFault -/
/-! ### cmp.Or[int] -/
def f108  (k : Nat) (x0 : List Int) : Option (Int × Unit) :=
 Option.bind (α := (Int × Unit) ⊕ ((Unit) × (Unit))) (iter (σ := (Int × Unit) × (Unit)) (τ := (Int × Unit) ⊕ ((Unit) × (Unit))) k (fun y1 =>
 bif (decide (y1.1.1 < ((List.length x0 : Nat) : Int))) then
 bif (inR y1.1.1 ((List.length x0 : Nat) : Int)) then
 bif ((rd (α := Int) (0 : Int) x0 y1.1.1) != (0 : Int)) then
 some (.inr (.inl ((rd (α := Int) (0 : Int) x0 y1.1.1), ())))
 else
 some (.inl (((IntKind.i64.wrap (y1.1.1 + (1 : Int))), ()), ()))
 else
 none
 else
 some (.inr (.inr ((), ())))) (((0 : Int), ()), ())) fun r => match r with
 | .inl z => some z
 | .inr z2 =>
 some ((0 : Int), ())
def H108 : Hints where
  loop := fun n => match n with
    | 0 => some ({ slots := [(8, (.int .i64))], objs := [], gone := [] }, 0, { slots := [], objs := [], gone := [] })
    | _ => none
  region := fun n => match n with
    | _ => none
  cond := fun n => match n with
    | _ => none
  block := fun n => match n with
    | _ => none
abbrev A108 : Tys := (.cons (.slice (.int .i64)) .nil)
def ts108 : List (Nat × TD) := [(3, (.data (.int .i64))), (91, (.data (.slice (.int .i64))))]
noncomputable def fs108  : List (Nat × FSem) := []
noncomputable def body108 : Code := match Tryz.f108.body with | some c => c | none => .skip
theorem ty108 : chkTypes Tryz.prog ts108 = true := by kernel_rfl
theorem ev108  (k : Nat) (x : ((.cons (.slice (.int .i64)) .nil) : Tys).den) : evFun (mkEnv ts108 (fs108 )) H108 k body108 18 [.tmp 2] (explodes (.cons (.slice (.int .i64)) .nil) x) [] (dec (.cons (.int .i64) .nil)) = f108  k x.1 := by kernel_rfl
/-! ### cmp.isNaN[int] -/
/-! ### cmp.Compare[int] -/
/-! ### jitney/request.byAsk -/
/-! ### jitney/request.CheckAsks -/
/-! ### jitney/request.kinds -/
/-! ### jitney/request.Text -/
/-! ### slices.Clone[[]jitney/api.Ask,jitney/api.Ask] -/
/-! ### slices.Index[[]string,string] -/
def f52  (k : Nat) (x0 : List ByteArray) (x1 : ByteArray) : Option (Int × Unit) :=
 Option.bind (α := (Int × Unit) ⊕ ((Unit) × (Unit))) (iter (σ := (Int × Unit) × (Unit)) (τ := (Int × Unit) ⊕ ((Unit) × (Unit))) k (fun y1 =>
 bif (decide (y1.1.1 < ((List.length x0 : Nat) : Int))) then
 bif (inR y1.1.1 ((List.length x0 : Nat) : Int)) then
 bif (sEq x1 (rd (α := ByteArray) ByteArray.empty x0 y1.1.1)) then
 some (.inr (.inl (y1.1.1, ())))
 else
 some (.inl (((IntKind.i64.wrap (y1.1.1 + (1 : Int))), ()), ()))
 else
 none
 else
 some (.inr (.inr ((), ())))) (((0 : Int), ()), ())) fun r => match r with
 | .inl z => some z
 | .inr z2 =>
 some ((-1 : Int), ())
def H52 : Hints where
  loop := fun n => match n with
    | 0 => some ({ slots := [(8, (.int .i64))], objs := [], gone := [] }, 0, { slots := [], objs := [], gone := [] })
    | _ => none
  region := fun n => match n with
    | _ => none
  cond := fun n => match n with
    | _ => none
  block := fun n => match n with
    | _ => none
abbrev A52 : Tys := (.cons (.slice .str) (.cons .str .nil))
def ts52 : List (Nat × TD) := [(3, (.data (.int .i64))), (9, (.data .str)), (69, (.data (.slice .str)))]
noncomputable def fs52  : List (Nat × FSem) := []
noncomputable def body52 : Code := match Tryz.f52.body with | some c => c | none => .skip
theorem ty52 : chkTypes Tryz.prog ts52 = true := by kernel_rfl
theorem ev52  (k : Nat) (x : ((.cons (.slice .str) (.cons .str .nil)) : Tys).den) : evFun (mkEnv ts52 (fs52 )) H52 k body52 19 [.tmp 4] (explodes (.cons (.slice .str) (.cons .str .nil)) x) [] (dec (.cons (.int .i64) .nil)) = f52  k x.1 x.2.1 := by kernel_rfl
/-! ### jitney/base.Words -/
def f70 (g86 : ByteArray → ByteArray → Option ((List ByteArray) × Unit)) (k : Nat) (x0 : ByteArray) (x1 : Int) : Option ((List ByteArray) × Bool × Unit) :=
 Option.bind (g86 x0 (ByteArray.mk #[32])) fun v1 =>
 bif (((List.length v1.1 : Nat) : Int) != x1) then
 some ([], false, ())
 else
 Option.bind (α := ((List ByteArray) × Bool × Unit) ⊕ ((Unit) × (Unit))) (iter (σ := (Int × Unit) × (Unit)) (τ := ((List ByteArray) × Bool × Unit) ⊕ ((Unit) × (Unit))) k (fun y2 =>
 bif (decide (y2.1.1 < ((List.length v1.1 : Nat) : Int))) then
 bif (inR y2.1.1 ((List.length v1.1 : Nat) : Int)) then
 bif (sEq (rd (α := ByteArray) ByteArray.empty v1.1 y2.1.1) (ByteArray.mk #[])) then
 some (.inr (.inl ([], false, ())))
 else
 some (.inl (((IntKind.i64.wrap (y2.1.1 + (1 : Int))), ()), ()))
 else
 none
 else
 some (.inr (.inr ((), ())))) (((0 : Int), ()), ())) fun r => match r with
 | .inl z => some z
 | .inr z3 =>
 some (v1.1, true, ())
def H70 : Hints where
  loop := fun n => match n with
    | 0 => some ({ slots := [(17, (.int .i64))], objs := [], gone := [] }, 0, { slots := [], objs := [], gone := [] })
    | _ => none
  region := fun n => match n with
    | _ => none
  cond := fun n => match n with
    | _ => none
  block := fun n => match n with
    | _ => none
abbrev A70 : Tys := (.cons .str (.cons (.int .i64) .nil))
def ts70 : List (Nat × TD) := [(3, (.data (.int .i64))), (4, (.data .bool)), (9, (.data .str)), (69, (.data (.slice .str)))]
noncomputable def fs70 (g86 : ByteArray → ByteArray → Option ((List ByteArray) × Unit)) : List (Nat × FSem) := [(86, .pfn (.cons .str (.cons .str .nil)) (.cons (.slice .str) .nil) fun x => (g86 x.1 x.2.1))]
noncomputable def body70 : Code := match Tryz.f70.body with | some c => c | none => .skip
theorem ty70 : chkTypes Tryz.prog ts70 = true := by kernel_rfl
theorem ev70 (g86 : ByteArray → ByteArray → Option ((List ByteArray) × Unit)) (k : Nat) (x : ((.cons .str (.cons (.int .i64) .nil)) : Tys).den) : evFun (mkEnv ts70 (fs70 g86)) H70 k body70 25 [.tmp 4, .tmp 5] (explodes (.cons .str (.cons (.int .i64) .nil)) x) [] (dec (.cons (.slice .str) (.cons .bool .nil))) = f70 g86 k x.1 x.2.1 := by kernel_rfl
/-! ### internal/stringslite.HasPrefix -/
def f148  (k : Nat) (x0 : ByteArray) (x1 : ByteArray) : Option (Bool × Unit) :=
 bif (decide (((ByteArray.size x0 : Nat) : Int) ≥ ((ByteArray.size x1 : Nat) : Int))) then
 bif (decide (0 ≤ (0 : Int)) && (decide ((0 : Int) ≤ ((ByteArray.size x1 : Nat) : Int)) && decide (((ByteArray.size x1 : Nat) : Int) ≤ ((ByteArray.size x0 : Nat) : Int)))) then
 some ((sEq (ByteArray.extract x0 (Int.toNat (0 : Int)) (Int.toNat ((ByteArray.size x1 : Nat) : Int))) x1), ())
 else
 none
 else
 some (false, ())
def H148 : Hints := hint0
abbrev A148 : Tys := (.cons .str (.cons .str .nil))
def ts148 : List (Nat × TD) := [(3, (.data (.int .i64))), (4, (.data .bool)), (9, (.data .str))]
noncomputable def fs148  : List (Nat × FSem) := []
noncomputable def body148 : Code := match Tryz.f148.body with | some c => c | none => .skip
theorem ty148 : chkTypes Tryz.prog ts148 = true := by kernel_rfl
theorem ev148  (k : Nat) (x : ((.cons .str (.cons .str .nil)) : Tys).den) : evFun (mkEnv ts148 (fs148 )) H148 k body148 18 [.tmp 4] (explodes (.cons .str (.cons .str .nil)) x) [] (dec (.cons .bool .nil)) = f148  k x.1 x.2.1 := by kernel_rfl
/-! ### internal/stringslite.TrimPrefix -/
def f119 (g148 : ByteArray → ByteArray → (Bool)) (k : Nat) (x0 : ByteArray) (x1 : ByteArray) : Option (ByteArray × Unit) :=
 bif (g148 x0 x1) then
 bif (decide (0 ≤ ((ByteArray.size x1 : Nat) : Int)) && (decide (((ByteArray.size x1 : Nat) : Int) ≤ ((ByteArray.size x0 : Nat) : Int)) && decide (((ByteArray.size x0 : Nat) : Int) ≤ ((ByteArray.size x0 : Nat) : Int)))) then
 some ((ByteArray.extract x0 (Int.toNat ((ByteArray.size x1 : Nat) : Int)) (Int.toNat ((ByteArray.size x0 : Nat) : Int))), ())
 else
 none
 else
 some (x0, ())
def H119 : Hints := hint0
abbrev A119 : Tys := (.cons .str (.cons .str .nil))
def ts119 : List (Nat × TD) := [(9, (.data .str))]
noncomputable def fs119 (g148 : ByteArray → ByteArray → (Bool)) : List (Nat × FSem) := [(148, .fn (.cons .str (.cons .str .nil)) (.cons .bool .nil) fun x => ((g148 x.1 x.2.1), ()))]
noncomputable def body119 : Code := match Tryz.f119.body with | some c => c | none => .skip
theorem ty119 : chkTypes Tryz.prog ts119 = true := by kernel_rfl
theorem ev119 (g148 : ByteArray → ByteArray → (Bool)) (k : Nat) (x : ((.cons .str (.cons .str .nil)) : Tys).den) : evFun (mkEnv ts119 (fs119 g148)) H119 k body119 13 [.tmp 4] (explodes (.cons .str (.cons .str .nil)) x) [] (dec (.cons .str .nil)) = f119 g148 k x.1 x.2.1 := by kernel_rfl
/-! ### strings.TrimPrefix -/
def f88 (g119 : ByteArray → ByteArray → (ByteArray)) (k : Nat) (x0 : ByteArray) (x1 : ByteArray) : Option (ByteArray × Unit) :=
 some ((g119 x0 x1), ())
def H88 : Hints := hint0
abbrev A88 : Tys := (.cons .str (.cons .str .nil))
def ts88 : List (Nat × TD) := [(9, (.data .str))]
noncomputable def fs88 (g119 : ByteArray → ByteArray → (ByteArray)) : List (Nat × FSem) := [(119, .fn (.cons .str (.cons .str .nil)) (.cons .str .nil) fun x => ((g119 x.1 x.2.1), ()))]
noncomputable def body88 : Code := match Tryz.f88.body with | some c => c | none => .skip
theorem ty88 : chkTypes Tryz.prog ts88 = true := by kernel_rfl
theorem ev88 (g119 : ByteArray → ByteArray → (ByteArray)) (k : Nat) (x : ((.cons .str (.cons .str .nil)) : Tys).den) : evFun (mkEnv ts88 (fs88 g119)) H88 k body88 8 [.tmp 4] (explodes (.cons .str (.cons .str .nil)) x) [] (dec (.cons .str .nil)) = f88 g119 k x.1 x.2.1 := by kernel_rfl
/-! ### jitney/base.Number -/
def f71 (g88 : ByteArray → ByteArray → (ByteArray)) (k : Nat) (x0 : ByteArray) (x1 : Int) : Option AT0 :=
 Option.bind (α := AT0 ⊕ ((Bool × Unit) × (Unit))) (
 bif (sEq (g88 x0 (ByteArray.mk #[45])) (ByteArray.mk #[])) then
 some (.inr ((true, ()), ()))
 else
 bif (decide (((ByteArray.size (g88 x0 (ByteArray.mk #[45])) : Nat) : Int) > x1)) then
 some (.inr ((true, ()), ()))
 else
 bif (inR (0 : Int) ((ByteArray.size (g88 x0 (ByteArray.mk #[45])) : Nat) : Int)) then
 bif ((bt (g88 x0 (ByteArray.mk #[45])) (0 : Int)) == (48 : Int)) then
 bif (decide (((ByteArray.size (g88 x0 (ByteArray.mk #[45])) : Nat) : Int) > (1 : Int))) then
 some (.inr ((true, ()), ()))
 else
 some (.inr (((decide (((ByteArray.size x0 : Nat) : Int) > ((ByteArray.size (g88 x0 (ByteArray.mk #[45])) : Nat) : Int))), ()), ()))
 else
 some (.inr ((false, ()), ()))
 else
 none) fun r => match r with
 | .inl z => some z
 | .inr y1 =>
 bif y1.1.1 then
 some zAT0
 else
 Option.bind (α := AT0 ⊕ ((Unit) × (Unit))) (iter (σ := (Int × Unit) × (Unit)) (τ := AT0 ⊕ ((Unit) × (Unit))) k (fun y2 =>
 bif (decide (y2.1.1 < ((ByteArray.size (g88 x0 (ByteArray.mk #[45])) : Nat) : Int))) then
 bif (inR y2.1.1 ((ByteArray.size (g88 x0 (ByteArray.mk #[45])) : Nat) : Int)) then
 bif (decide ((bt (g88 x0 (ByteArray.mk #[45])) y2.1.1) < (48 : Int))) then
 some (.inr (.inl zAT0))
 else
 bif (inR y2.1.1 ((ByteArray.size (g88 x0 (ByteArray.mk #[45])) : Nat) : Int)) then
 bif (decide ((bt (g88 x0 (ByteArray.mk #[45])) y2.1.1) > (57 : Int))) then
 some (.inr (.inl zAT0))
 else
 some (.inl (((IntKind.i64.wrap (y2.1.1 + (1 : Int))), ()), ()))
 else
 none
 else
 none
 else
 some (.inr (.inr ((), ())))) (((0 : Int), ()), ())) fun r => match r with
 | .inl z => some z
 | .inr z3 =>
 bif (decide (ByteArray.size x0 ≤ 281474976710656)) then
 bif (aOk x0) then
 some ((aVal x0), true, ())
 else
 none
 else
 none
def H71 : Hints where
  loop := fun n => match n with
    | 0 => some ({ slots := [(39, (.int .i64))], objs := [], gone := [] }, 0, { slots := [], objs := [], gone := [] })
    | _ => none
  region := fun n => match n with
    | 2 => some { slots := [(36, .bool)], objs := [], gone := [] }
    | _ => none
  cond := fun n => match n with
    | _ => none
  block := fun n => match n with
    | _ => none
abbrev A71 : Tys := (.cons .str (.cons (.int .i64) .nil))
def ts71 : List (Nat × TD) := [(3, (.data (.int .i64))), (4, (.data .bool)), (5, (.data (.int .u8))), (9, (.data .str)), (77, (.cell .iface))]
noncomputable def fs71 (g88 : ByteArray → ByteArray → (ByteArray)) : List (Nat × FSem) := [(88, .fn (.cons .str (.cons .str .nil)) (.cons .str .nil) fun x => ((g88 x.1 x.2.1), ())), (89, .atoi)]
noncomputable def body71 : Code := match Tryz.f71.body with | some c => c | none => .skip
theorem ty71 : chkTypes Tryz.prog ts71 = true := by kernel_rfl
theorem ev71 (g88 : ByteArray → ByteArray → (ByteArray)) (k : Nat) (x : ((.cons .str (.cons (.int .i64) .nil)) : Tys).den) : evFun (mkEnv ts71 (fs71 g88)) H71 k body71 61 [.tmp 4, .tmp 5] (explodes (.cons .str (.cons (.int .i64) .nil)) x) [] (dec (.cons (.int .i64) (.cons .bool .nil))) = f71 g88 k x.1 x.2.1 := by kernel_rfl
/-! ### jitney/base.Numbers -/
/-! ### jitney/request.readAsk -/
/-! ### internal/stringslite.HasSuffix -/
def f172  (k : Nat) (x0 : ByteArray) (x1 : ByteArray) : Option (Bool × Unit) :=
 bif (decide (((ByteArray.size x0 : Nat) : Int) ≥ ((ByteArray.size x1 : Nat) : Int))) then
 bif (decide (0 ≤ (IntKind.i64.wrap (((ByteArray.size x0 : Nat) : Int) - ((ByteArray.size x1 : Nat) : Int)))) && (decide ((IntKind.i64.wrap (((ByteArray.size x0 : Nat) : Int) - ((ByteArray.size x1 : Nat) : Int))) ≤ ((ByteArray.size x0 : Nat) : Int)) && decide (((ByteArray.size x0 : Nat) : Int) ≤ ((ByteArray.size x0 : Nat) : Int)))) then
 some ((sEq (ByteArray.extract x0 (Int.toNat (IntKind.i64.wrap (((ByteArray.size x0 : Nat) : Int) - ((ByteArray.size x1 : Nat) : Int)))) (Int.toNat ((ByteArray.size x0 : Nat) : Int))) x1), ())
 else
 none
 else
 some (false, ())
def H172 : Hints := hint0
abbrev A172 : Tys := (.cons .str (.cons .str .nil))
def ts172 : List (Nat × TD) := [(3, (.data (.int .i64))), (4, (.data .bool)), (9, (.data .str))]
noncomputable def fs172  : List (Nat × FSem) := []
noncomputable def body172 : Code := match Tryz.f172.body with | some c => c | none => .skip
theorem ty172 : chkTypes Tryz.prog ts172 = true := by kernel_rfl
theorem ev172  (k : Nat) (x : ((.cons .str (.cons .str .nil)) : Tys).den) : evFun (mkEnv ts172 (fs172 )) H172 k body172 21 [.tmp 4] (explodes (.cons .str (.cons .str .nil)) x) [] (dec (.cons .bool .nil)) = f172  k x.1 x.2.1 := by kernel_rfl
/-! ### internal/stringslite.CutSuffix -/
def f145 (g172 : ByteArray → ByteArray → (Bool)) (k : Nat) (x0 : ByteArray) (x1 : ByteArray) : Option AT2 :=
 bif (!(g172 x0 x1)) then
 some (x0, false, ())
 else
 bif (decide (0 ≤ (0 : Int)) && (decide ((0 : Int) ≤ (IntKind.i64.wrap (((ByteArray.size x0 : Nat) : Int) - ((ByteArray.size x1 : Nat) : Int)))) && decide ((IntKind.i64.wrap (((ByteArray.size x0 : Nat) : Int) - ((ByteArray.size x1 : Nat) : Int))) ≤ ((ByteArray.size x0 : Nat) : Int)))) then
 some ((ByteArray.extract x0 (Int.toNat (0 : Int)) (Int.toNat (IntKind.i64.wrap (((ByteArray.size x0 : Nat) : Int) - ((ByteArray.size x1 : Nat) : Int))))), true, ())
 else
 none
def H145 : Hints := hint0
abbrev A145 : Tys := (.cons .str (.cons .str .nil))
def ts145 : List (Nat × TD) := [(3, (.data (.int .i64))), (4, (.data .bool)), (9, (.data .str))]
noncomputable def fs145 (g172 : ByteArray → ByteArray → (Bool)) : List (Nat × FSem) := [(172, .fn (.cons .str (.cons .str .nil)) (.cons .bool .nil) fun x => ((g172 x.1 x.2.1), ()))]
noncomputable def body145 : Code := match Tryz.f145.body with | some c => c | none => .skip
theorem ty145 : chkTypes Tryz.prog ts145 = true := by kernel_rfl
theorem ev145 (g172 : ByteArray → ByteArray → (Bool)) (k : Nat) (x : ((.cons .str (.cons .str .nil)) : Tys).den) : evFun (mkEnv ts145 (fs145 g172)) H145 k body145 18 [.tmp 4, .tmp 5] (explodes (.cons .str (.cons .str .nil)) x) [] (dec (.cons .str (.cons .bool .nil))) = f145 g172 k x.1 x.2.1 := by kernel_rfl
/-! ### strings.CutSuffix -/
def f113 (g145 : ByteArray → ByteArray → AT2) (k : Nat) (x0 : ByteArray) (x1 : ByteArray) : Option AT2 :=
 some ((g145 x0 x1).1, (g145 x0 x1).2.1, ())
def H113 : Hints := hint0
abbrev A113 : Tys := (.cons .str (.cons .str .nil))
def ts113 : List (Nat × TD) := [(4, (.data .bool)), (9, (.data .str))]
noncomputable def fs113 (g145 : ByteArray → ByteArray → AT2) : List (Nat × FSem) := [(145, .fn (.cons .str (.cons .str .nil)) (.cons .str (.cons .bool .nil)) fun x => (g145 x.1 x.2.1))]
noncomputable def body113 : Code := match Tryz.f113.body with | some c => c | none => .skip
theorem ty113 : chkTypes Tryz.prog ts113 = true := by kernel_rfl
theorem ev113 (g145 : ByteArray → ByteArray → AT2) (k : Nat) (x : ((.cons .str (.cons .str .nil)) : Tys).den) : evFun (mkEnv ts113 (fs113 g145)) H113 k body113 11 [.tmp 4, .tmp 5] (explodes (.cons .str (.cons .str .nil)) x) [] (dec (.cons .str (.cons .bool .nil))) = f113 g145 k x.1 x.2.1 := by kernel_rfl
/-! ### jitney/base.Lines -/
def f82 (g86 : ByteArray → ByteArray → Option ((List ByteArray) × Unit)) (g113 : ByteArray → ByteArray → AT2) (k : Nat) (x0 : ByteArray) : Option ((List ByteArray) × Bool × Unit) :=
 bif (sEq x0 (ByteArray.mk #[])) then
 some ([], true, ())
 else
 Option.bind (g86 ((g113 x0 (ByteArray.mk #[10])).1) (ByteArray.mk #[10])) fun v1 =>
 some (v1.1, (g113 x0 (ByteArray.mk #[10])).2.1, ())
def H82 : Hints := hint0
abbrev A82 : Tys := (.cons .str .nil)
def ts82 : List (Nat × TD) := [(4, (.data .bool)), (9, (.data .str)), (69, (.data (.slice .str)))]
noncomputable def fs82 (g86 : ByteArray → ByteArray → Option ((List ByteArray) × Unit)) (g113 : ByteArray → ByteArray → AT2) : List (Nat × FSem) := [(86, .pfn (.cons .str (.cons .str .nil)) (.cons (.slice .str) .nil) fun x => (g86 x.1 x.2.1)), (113, .fn (.cons .str (.cons .str .nil)) (.cons .str (.cons .bool .nil)) fun x => (g113 x.1 x.2.1))]
noncomputable def body82 : Code := match Tryz.f82.body with | some c => c | none => .skip
theorem ty82 : chkTypes Tryz.prog ts82 = true := by kernel_rfl
theorem ev82 (g86 : ByteArray → ByteArray → Option ((List ByteArray) × Unit)) (g113 : ByteArray → ByteArray → AT2) (k : Nat) (x : ((.cons .str .nil) : Tys).den) : evFun (mkEnv ts82 (fs82 g86 g113)) H82 k body82 15 [.tmp 2, .tmp 3] (explodes (.cons .str .nil) x) [] (dec (.cons (.slice .str) (.cons .bool .nil))) = f82 g86 g113 k x.1 := by kernel_rfl
/-! ### jitney/request.Read -/
/-! ### slices.Contains[[]string,string] -/
def f87 (g52 : (List ByteArray) → ByteArray → (Int)) (k : Nat) (x0 : List ByteArray) (x1 : ByteArray) : Option (Bool × Unit) :=
 some ((decide ((g52 x0 x1) ≥ (0 : Int))), ())
def H87 : Hints := hint0
abbrev A87 : Tys := (.cons (.slice .str) (.cons .str .nil))
def ts87 : List (Nat × TD) := [(3, (.data (.int .i64))), (4, (.data .bool)), (9, (.data .str)), (69, (.data (.slice .str)))]
noncomputable def fs87 (g52 : (List ByteArray) → ByteArray → (Int)) : List (Nat × FSem) := [(52, .fn (.cons (.slice .str) (.cons .str .nil)) (.cons (.int .i64) .nil) fun x => ((g52 x.1 x.2.1), ()))]
noncomputable def body87 : Code := match Tryz.f87.body with | some c => c | none => .skip
theorem ty87 : chkTypes Tryz.prog ts87 = true := by kernel_rfl
theorem ev87 (g52 : (List ByteArray) → ByteArray → (Int)) (k : Nat) (x : ((.cons (.slice .str) (.cons .str .nil)) : Tys).den) : evFun (mkEnv ts87 (fs87 g52)) H87 k body87 9 [.tmp 4] (explodes (.cons (.slice .str) (.cons .str .nil)) x) [] (dec (.cons .bool .nil)) = f87 g52 k x.1 x.2.1 := by kernel_rfl
/-! ### jitney/jitref2.Words -/
def f50 (g86 : ByteArray → ByteArray → Option ((List ByteArray) × Unit)) (g87 : (List ByteArray) → ByteArray → (Bool)) (k : Nat) (x0 : ByteArray) : Option ((List ByteArray) × Bool × Unit) :=
 Option.bind (g86 x0 (ByteArray.mk #[32])) fun v1 =>
 some (v1.1, (!(g87 v1.1 (ByteArray.mk #[]))), ())
def H50 : Hints := hint0
abbrev A50 : Tys := (.cons .str .nil)
def ts50 : List (Nat × TD) := [(4, (.data .bool)), (9, (.data .str)), (69, (.data (.slice .str)))]
noncomputable def fs50 (g86 : ByteArray → ByteArray → Option ((List ByteArray) × Unit)) (g87 : (List ByteArray) → ByteArray → (Bool)) : List (Nat × FSem) := [(86, .pfn (.cons .str (.cons .str .nil)) (.cons (.slice .str) .nil) fun x => (g86 x.1 x.2.1)), (87, .fn (.cons (.slice .str) (.cons .str .nil)) (.cons .bool .nil) fun x => ((g87 x.1 x.2.1), ()))]
noncomputable def body50 : Code := match Tryz.f50.body with | some c => c | none => .skip
theorem ty50 : chkTypes Tryz.prog ts50 = true := by kernel_rfl
theorem ev50 (g86 : ByteArray → ByteArray → Option ((List ByteArray) × Unit)) (g87 : (List ByteArray) → ByteArray → (Bool)) (k : Nat) (x : ((.cons .str .nil) : Tys).den) : evFun (mkEnv ts50 (fs50 g86 g87)) H50 k body50 11 [.tmp 2, .tmp 3] (explodes (.cons .str .nil) x) [] (dec (.cons (.slice .str) (.cons .bool .nil))) = f50 g86 g87 k x.1 := by kernel_rfl
/-! ### jitney/jitref2.Number -/
def f51 (g39 : Int → Option (ByteArray × Unit)) (g74 : ByteArray → ByteArray → (Bool)) (g88 : ByteArray → ByteArray → (ByteArray)) (k : Nat) (x0 : ByteArray) (x1 : Int) : Option AT0 :=
 bif (sEq (g88 x0 (ByteArray.mk #[45])) (ByteArray.mk #[])) then
 some zAT0
 else
 bif (decide (((ByteArray.size (g88 x0 (ByteArray.mk #[45])) : Nat) : Int) > x1)) then
 some zAT0
 else
 bif (!(g74 (g88 x0 (ByteArray.mk #[45])) (ByteArray.mk #[48, 49, 50, 51, 52, 53, 54, 55, 56, 57]))) then
 some zAT0
 else
 bif (decide (ByteArray.size x0 ≤ 281474976710656)) then
 bif (aOk x0) then
 Option.bind (g39 (aVal x0)) fun v1 =>
 some ((aVal x0), (sEq v1.1 x0), ())
 else
 none
 else
 none
def H51 : Hints := hint0
abbrev A51 : Tys := (.cons .str (.cons (.int .i64) .nil))
def ts51 : List (Nat × TD) := [(3, (.data (.int .i64))), (4, (.data .bool)), (9, (.data .str)), (77, (.cell .iface))]
noncomputable def fs51 (g39 : Int → Option (ByteArray × Unit)) (g74 : ByteArray → ByteArray → (Bool)) (g88 : ByteArray → ByteArray → (ByteArray)) : List (Nat × FSem) := [(39, .pfn (.cons (.int .i64) .nil) (.cons .str .nil) fun x => (g39 x.1)), (74, .fn (.cons .str (.cons .str .nil)) (.cons .bool .nil) fun x => ((g74 x.1 x.2.1), ())), (88, .fn (.cons .str (.cons .str .nil)) (.cons .str .nil) fun x => ((g88 x.1 x.2.1), ())), (89, .atoi)]
noncomputable def body51 : Code := match Tryz.f51.body with | some c => c | none => .skip
theorem ty51 : chkTypes Tryz.prog ts51 = true := by kernel_rfl
theorem ev51 (g39 : Int → Option (ByteArray × Unit)) (g74 : ByteArray → ByteArray → (Bool)) (g88 : ByteArray → ByteArray → (ByteArray)) (k : Nat) (x : ((.cons .str (.cons (.int .i64) .nil)) : Tys).den) : evFun (mkEnv ts51 (fs51 g39 g74 g88)) H51 k body51 38 [.tmp 4, .tmp 5] (explodes (.cons .str (.cons (.int .i64) .nil)) x) [] (dec (.cons (.int .i64) (.cons .bool .nil))) = f51 g39 g74 g88 k x.1 x.2.1 := by kernel_rfl
/-! ### jitney/jitref2.numbersIn -/
/-! ### jitney/jitref2.AsksRead -/
/-! ### slices.Equal[[]jitney/api.Ask,jitney/api.Ask] -/
/-! ### jitney/jitlaw2.AskTexts -/
end Go.Vm
