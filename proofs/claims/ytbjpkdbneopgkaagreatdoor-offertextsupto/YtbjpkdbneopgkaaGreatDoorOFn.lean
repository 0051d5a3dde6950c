/- The program's functions, as an own tool reads them off its form. -/
import Derived.Test.YtbjpkdbneopgkaaGreatDoorASnd
import Derived.Test.YtbjpkdbneopgkaaGreatDoorProg
set_option maxRecDepth 100000
set_option linter.unusedVariables false
namespace Go.Vm
open Go.Proofs
abbrev OT0 : Type := (Int × Bool × Unit)
abbrev OT1 : Type := (ByteArray × Int × Unit)
abbrev OT2 : Type := ((ByteArray × Unit) × Unit)
abbrev OT3 : Type := (ByteArray × ByteArray × Int × Unit)
abbrev OT4 : Type := (ByteArray × ByteArray × Bool × Unit)
abbrev zOT2 : OT2 := ((ByteArray.empty, ()), ())
abbrev zOT3 : OT3 := (ByteArray.empty, ByteArray.empty, (0 : Int), ())
abbrev OY0 : Ty := (.struct (.cons .str (.cons .str (.cons (.int .i64) .nil))))
/-! ### cmp.isNaN[string] -/
def f159  (k : Nat) (x0 : ByteArray) : Option (Bool × Unit) :=
 some ((!(sEq x0 x0)), ())
def H159 : Hints := hint0
abbrev A159 : Tys := (.cons .str .nil)
def ts159 : List (Nat × TD) := [(4, (.data .bool)), (9, (.data .str))]
noncomputable def fs159  : List (Nat × FSem) := []
noncomputable def body159 : Code := match Tryz.f159.body with | some c => c | none => .skip
theorem ty159 : chkTypes Tryz.prog ts159 = true := by kernel_rfl
theorem ev159  (k : Nat) (x : ((.cons .str .nil) : Tys).den) : evFun (mkEnv ts159 (fs159 )) H159 k body159 6 [.tmp 2] (explodes (.cons .str .nil) x) [] (dec (.cons .bool .nil)) = f159  k x.1 := by kernel_rfl
/-! ### cmp.Compare[string] -/
def f129 (g159 : ByteArray → (Bool)) (k : Nat) (x0 : ByteArray) (x1 : ByteArray) : Option (Int × Unit) :=
 bif (g159 x0) then
 bif (g159 x1) then
 some ((0 : Int), ())
 else
 some ((-1 : Int), ())
 else
 bif (g159 x1) then
 some ((1 : Int), ())
 else
 bif (sLt x0 x1) then
 some ((-1 : Int), ())
 else
 bif (!((sLt x0 x1) || (sEq x0 x1))) then
 some ((1 : Int), ())
 else
 some ((0 : Int), ())
def H129 : Hints := hint0
abbrev A129 : Tys := (.cons .str (.cons .str .nil))
def ts129 : List (Nat × TD) := [(3, (.data (.int .i64))), (9, (.data .str))]
noncomputable def fs129 (g159 : ByteArray → (Bool)) : List (Nat × FSem) := [(159, .fn (.cons .str .nil) (.cons .bool .nil) fun x => ((g159 x.1), ()))]
noncomputable def body129 : Code := match Tryz.f129.body with | some c => c | none => .skip
theorem ty129 : chkTypes Tryz.prog ts129 = true := by kernel_rfl
theorem ev129 (g159 : ByteArray → (Bool)) (k : Nat) (x : ((.cons .str (.cons .str .nil)) : Tys).den) : evFun (mkEnv ts129 (fs129 g159)) H129 k body129 20 [.tmp 4] (explodes (.cons .str (.cons .str .nil)) x) [] (dec (.cons (.int .i64) .nil)) = f129 g159 k x.1 x.2.1 := by kernel_rfl
/-! ### slices.Compare[[]string,string] -/
def f97 (g129 : ByteArray → ByteArray → (Int)) (k : Nat) (x0 : List ByteArray) (x1 : List ByteArray) : Option (Int × Unit) :=
 Option.bind (α := (Int × Unit) ⊕ ((Unit) × (Unit))) (iter (σ := (Int × Unit) × (Unit)) (τ := (Int × Unit) ⊕ ((Unit) × (Unit))) k (fun y1 =>
 bif (decide (y1.1.1 < ((List.length x0 : Nat) : Int))) then
 bif (inR y1.1.1 ((List.length x0 : Nat) : Int)) then
 bif (decide (y1.1.1 ≥ ((List.length x1 : Nat) : Int))) then
 some (.inr (.inl ((1 : Int), ())))
 else
 bif (inR y1.1.1 ((List.length x1 : Nat) : Int)) then
 bif ((g129 (rd (α := ByteArray) ByteArray.empty x0 y1.1.1) (rd (α := ByteArray) ByteArray.empty x1 y1.1.1)) != (0 : Int)) then
 some (.inr (.inl ((g129 (rd (α := ByteArray) ByteArray.empty x0 y1.1.1) (rd (α := ByteArray) ByteArray.empty x1 y1.1.1)), ())))
 else
 some (.inl (((IntKind.i64.wrap (y1.1.1 + (1 : Int))), ()), ()))
 else
 none
 else
 none
 else
 some (.inr (.inr ((), ())))) (((0 : Int), ()), ())) fun r => match r with
 | .inl z => some z
 | .inr z2 =>
 bif (decide (((List.length x0 : Nat) : Int) < ((List.length x1 : Nat) : Int))) then
 some ((-1 : Int), ())
 else
 some ((0 : Int), ())
def H97 : Hints where
  loop := fun n => match n with
    | 0 => some ({ slots := [(11, (.int .i64))], objs := [], gone := [] }, 0, { slots := [], objs := [], gone := [] })
    | _ => none
  region := fun n => match n with
    | _ => none
  cond := fun n => match n with
    | _ => none
  block := fun n => match n with
    | _ => none
abbrev A97 : Tys := (.cons (.slice .str) (.cons (.slice .str) .nil))
def ts97 : List (Nat × TD) := [(3, (.data (.int .i64))), (9, (.data .str)), (69, (.data (.slice .str)))]
noncomputable def fs97 (g129 : ByteArray → ByteArray → (Int)) : List (Nat × FSem) := [(129, .fn (.cons .str (.cons .str .nil)) (.cons (.int .i64) .nil) fun x => ((g129 x.1 x.2.1), ()))]
noncomputable def body97 : Code := match Tryz.f97.body with | some c => c | none => .skip
theorem ty97 : chkTypes Tryz.prog ts97 = true := by kernel_rfl
theorem ev97 (g129 : ByteArray → ByteArray → (Int)) (k : Nat) (x : ((.cons (.slice .str) (.cons (.slice .str) .nil)) : Tys).den) : evFun (mkEnv ts97 (fs97 g129)) H97 k body97 36 [.tmp 4] (explodes (.cons (.slice .str) (.cons (.slice .str) .nil)) x) [] (dec (.cons (.int .i64) .nil)) = f97 g129 k x.1 x.2.1 := by kernel_rfl
/-! ### jitney/jitref2.OfferOrder -/
def f67 (g97 : (List ByteArray) → (List ByteArray) → (Int)) (k : Nat) (x0 : OT3) (x1 : OT3) : Option (Int × Unit) :=
 some ((g97 ([x0.1, x0.2.1]) ([x1.1, x1.2.1])), ())
def H67 : Hints := hint0
abbrev A67 : Tys := (.cons OY0 (.cons OY0 .nil))
def ts67 : List (Nat × TD) := [(3, (.data (.int .i64))), (9, (.data .str)), (58, (.data OY0)), (69, (.data (.slice .str)))]
noncomputable def fs67 (g97 : (List ByteArray) → (List ByteArray) → (Int)) : List (Nat × FSem) := [(97, .fn (.cons (.slice .str) (.cons (.slice .str) .nil)) (.cons (.int .i64) .nil) fun x => ((g97 x.1 x.2.1), ()))]
noncomputable def body67 : Code := match Tryz.f67.body with | some c => c | none => .skip
theorem ty67 : chkTypes Tryz.prog ts67 = true := by kernel_rfl
theorem ev67 (g97 : (List ByteArray) → (List ByteArray) → (Int)) (k : Nat) (x : ((.cons OY0 (.cons OY0 .nil)) : Tys).den) : evFun (mkEnv ts67 (fs67 g97)) H67 k body67 16 [.tmp 4] (explodes (.cons OY0 (.cons OY0 .nil)) x) [] (dec (.cons (.int .i64) .nil)) = f67 g97 k x.1 x.2.1 := by kernel_rfl
/-! ### jitney/jitref2.OffersFault -/
def f23 (g32 : Int → Int → Int → (Bool)) (g34 : ByteArray → (Bool)) (g67 : OT3 → OT3 → (Int)) (k : Nat) (x0 : List OT3) : Option (Int × Unit) :=
 bif (decide (((List.length x0 : Nat) : Int) > (2000 : Int))) then
 some ((2 : Int), ())
 else
 Option.bind (α := (Int × Unit) ⊕ ((Unit) × (Unit))) (iter (σ := (Int × Unit) × (Unit)) (τ := (Int × Unit) ⊕ ((Unit) × (Unit))) k (fun y1 =>
 bif (decide (y1.1.1 < ((List.length x0 : Nat) : Int))) then
 bif (inR y1.1.1 ((List.length x0 : Nat) : Int)) then
 bif (!(g34 ((rd (α := OT3) zOT3 x0 y1.1.1).1))) then
 some (.inr (.inl ((5 : Int), ())))
 else
 bif (!(g34 ((rd (α := OT3) zOT3 x0 y1.1.1).2.1))) then
 some (.inr (.inl ((5 : Int), ())))
 else
 bif (!(g32 ((rd (α := OT3) zOT3 x0 y1.1.1).2.2.1) (0 : Int) (1000000000 : Int))) then
 some (.inr (.inl ((1 : Int), ())))
 else
 bif (decide (y1.1.1 > (0 : Int))) then
 bif (inR (IntKind.i64.wrap (y1.1.1 - (1 : Int))) ((List.length x0 : Nat) : Int)) then
 bif (decide ((g67 (rd (α := OT3) zOT3 x0 (IntKind.i64.wrap (y1.1.1 - (1 : Int)))) (rd (α := OT3) zOT3 x0 y1.1.1)) ≥ (0 : Int))) then
 some (.inr (.inl ((7 : Int), ())))
 else
 some (.inl (((IntKind.i64.wrap (y1.1.1 + (1 : Int))), ()), ()))
 else
 none
 else
 some (.inl (((IntKind.i64.wrap (y1.1.1 + (1 : Int))), ()), ()))
 else
 none
 else
 some (.inr (.inr ((), ())))) (((0 : Int), ()), ())) fun r => match r with
 | .inl z => some z
 | .inr z2 =>
 some ((0 : Int), ())
def H23 : Hints where
  loop := fun n => match n with
    | 0 => some ({ slots := [(10, (.int .i64))], objs := [], gone := [] }, 0, { slots := [], objs := [], gone := [] })
    | _ => none
  region := fun n => match n with
    | _ => none
  cond := fun n => match n with
    | _ => none
  block := fun n => match n with
    | _ => none
abbrev A23 : Tys := (.cons (.slice OY0) .nil)
def ts23 : List (Nat × TD) := [(3, (.data (.int .i64))), (9, (.data .str)), (23, (.data (.int .i64))), (52, (.data (.slice OY0))), (58, (.data OY0))]
noncomputable def fs23 (g32 : Int → Int → Int → (Bool)) (g34 : ByteArray → (Bool)) (g67 : OT3 → OT3 → (Int)) : List (Nat × FSem) := [(32, .fn (.cons (.int .i64) (.cons (.int .i64) (.cons (.int .i64) .nil))) (.cons .bool .nil) fun x => ((g32 x.1 x.2.1 x.2.2.1), ())), (34, .fn (.cons .str .nil) (.cons .bool .nil) fun x => ((g34 x.1), ())), (67, .fn (.cons OY0 (.cons OY0 .nil)) (.cons (.int .i64) .nil) fun x => ((g67 x.1 x.2.1), ()))]
noncomputable def body23 : Code := match Tryz.f23.body with | some c => c | none => .skip
theorem ty23 : chkTypes Tryz.prog ts23 = true := by kernel_rfl
theorem ev23 (g32 : Int → Int → Int → (Bool)) (g34 : ByteArray → (Bool)) (g67 : OT3 → OT3 → (Int)) (k : Nat) (x : ((.cons (.slice OY0) .nil) : Tys).den) : evFun (mkEnv ts23 (fs23 g32 g34 g67)) H23 k body23 45 [.tmp 2] (explodes (.cons (.slice OY0) .nil) x) [] (dec (.cons (.int .i64) .nil)) = f23 g32 g34 g67 k x.1 := by kernel_rfl
/-! ### jitney/jitref2.OfferLines -/
def f24 (g36 : (List Int) → Option (ByteArray × Unit)) (k : Nat) (x0 : List OT3) : Option (ByteArray × Unit) :=
 Option.bind (α := (ByteArray × Unit) ⊕ ((ByteArray × Unit) × (Unit))) (iter (σ := OT1 × (Unit)) (τ := (ByteArray × Unit) ⊕ ((ByteArray × Unit) × (Unit))) k (fun y1 =>
 bif (decide (y1.1.2.1 < ((List.length x0 : Nat) : Int))) then
 bif (inR y1.1.2.1 ((List.length x0 : Nat) : Int)) then
 bif decide (ByteArray.size ((rd (α := OT3) zOT3 x0 y1.1.2.1).1) + ByteArray.size (ByteArray.mk #[32]) < 4611686018427387904) then
 bif decide (ByteArray.size ((rd (α := OT3) zOT3 x0 y1.1.2.1).1 ++ (ByteArray.mk #[32])) + ByteArray.size ((rd (α := OT3) zOT3 x0 y1.1.2.1).2.1) < 4611686018427387904) then
 bif decide (ByteArray.size (((rd (α := OT3) zOT3 x0 y1.1.2.1).1 ++ (ByteArray.mk #[32])) ++ (rd (α := OT3) zOT3 x0 y1.1.2.1).2.1) + ByteArray.size (ByteArray.mk #[32]) < 4611686018427387904) then
 Option.bind (g36 ([(rd (α := OT3) zOT3 x0 y1.1.2.1).2.2.1])) fun v2 =>
 bif decide (ByteArray.size ((((rd (α := OT3) zOT3 x0 y1.1.2.1).1 ++ (ByteArray.mk #[32])) ++ (rd (α := OT3) zOT3 x0 y1.1.2.1).2.1) ++ (ByteArray.mk #[32])) + ByteArray.size v2.1 < 4611686018427387904) then
 bif decide (ByteArray.size (((((rd (α := OT3) zOT3 x0 y1.1.2.1).1 ++ (ByteArray.mk #[32])) ++ (rd (α := OT3) zOT3 x0 y1.1.2.1).2.1) ++ (ByteArray.mk #[32])) ++ v2.1) + ByteArray.size (ByteArray.mk #[10]) < 4611686018427387904) then
 bif decide (ByteArray.size y1.1.1 + ByteArray.size ((((((rd (α := OT3) zOT3 x0 y1.1.2.1).1 ++ (ByteArray.mk #[32])) ++ (rd (α := OT3) zOT3 x0 y1.1.2.1).2.1) ++ (ByteArray.mk #[32])) ++ v2.1) ++ (ByteArray.mk #[10])) < 4611686018427387904) then
 some (.inl (((y1.1.1 ++ ((((((rd (α := OT3) zOT3 x0 y1.1.2.1).1 ++ (ByteArray.mk #[32])) ++ (rd (α := OT3) zOT3 x0 y1.1.2.1).2.1) ++ (ByteArray.mk #[32])) ++ v2.1) ++ (ByteArray.mk #[10]))), (IntKind.i64.wrap (y1.1.2.1 + (1 : Int))), ()), ()))
 else
 none
 else
 none
 else
 none
 else
 none
 else
 none
 else
 none
 else
 none
 else
 some (.inr (.inr ((y1.1.1, ()), ())))) (((ByteArray.mk #[]), (0 : Int), ()), ())) fun r => match r with
 | .inl z => some z
 | .inr z3 =>
 some (z3.1.1, ())
def H24 : Hints where
  loop := fun n => match n with
    | 0 => some ({ slots := [(3, .str), (8, (.int .i64))], objs := [], gone := [] }, 0, { slots := [(3, .str)], objs := [], gone := [] })
    | _ => none
  region := fun n => match n with
    | _ => none
  cond := fun n => match n with
    | _ => none
  block := fun n => match n with
    | _ => none
abbrev A24 : Tys := (.cons (.slice OY0) .nil)
def ts24 : List (Nat × TD) := [(3, (.data (.int .i64))), (9, (.data .str)), (52, (.data (.slice OY0))), (58, (.data OY0)), (91, (.data (.slice (.int .i64))))]
noncomputable def fs24 (g36 : (List Int) → Option (ByteArray × Unit)) : List (Nat × FSem) := [(36, .pfn (.cons (.slice (.int .i64)) .nil) (.cons .str .nil) fun x => (g36 x.1))]
noncomputable def body24 : Code := match Tryz.f24.body with | some c => c | none => .skip
theorem ty24 : chkTypes Tryz.prog ts24 = true := by kernel_rfl
theorem ev24 (g36 : (List Int) → Option (ByteArray × Unit)) (k : Nat) (x : ((.cons (.slice OY0) .nil) : Tys).den) : evFun (mkEnv ts24 (fs24 g36)) H24 k body24 29 [.tmp 2] (explodes (.cons (.slice OY0) .nil) x) [] (dec (.cons .str .nil)) = f24 g36 k x.1 := by kernel_rfl
/-! ### jitney/match.byOffer -/
def f100 (g76 : ByteArray → ByteArray → (Int)) (g108 : (List Int) → (Int)) (k : Nat) (x0 : OT3) (x1 : OT3) : Option (Int × Unit) :=
 some ((g108 ([(g76 x0.1 x1.1), (g76 x0.2.1 x1.2.1)])), ())
def H100 : Hints := hint0
abbrev A100 : Tys := (.cons OY0 (.cons OY0 .nil))
def ts100 : List (Nat × TD) := [(3, (.data (.int .i64))), (9, (.data .str)), (58, (.data OY0)), (91, (.data (.slice (.int .i64))))]
noncomputable def fs100 (g76 : ByteArray → ByteArray → (Int)) (g108 : (List Int) → (Int)) : List (Nat × FSem) := [(76, .fn (.cons .str (.cons .str .nil)) (.cons (.int .i64) .nil) fun x => ((g76 x.1 x.2.1), ())), (108, .fn (.cons (.slice (.int .i64)) .nil) (.cons (.int .i64) .nil) fun x => ((g108 x.1), ()))]
noncomputable def body100 : Code := match Tryz.f100.body with | some c => c | none => .skip
theorem ty100 : chkTypes Tryz.prog ts100 = true := by kernel_rfl
theorem ev100 (g76 : ByteArray → ByteArray → (Int)) (g108 : (List Int) → (Int)) (k : Nat) (x : ((.cons OY0 (.cons OY0 .nil)) : Tys).den) : evFun (mkEnv ts100 (fs100 g76 g108)) H100 k body100 17 [.tmp 4] (explodes (.cons OY0 (.cons OY0 .nil)) x) [] (dec (.cons (.int .i64) .nil)) = f100 g76 g108 k x.1 x.2.1 := by kernel_rfl
/-! ### jitney/match.CheckOffers -/
def f68 (g98 : ByteArray → (Bool)) (g99 : Int → Int → Int → (Bool)) (g100 : OT3 → OT3 → (Int)) (k : Nat) (x0 : List OT3) : Option (Int × Unit) :=
 bif (decide (((List.length x0 : Nat) : Int) > (2000 : Int))) then
 some ((2 : Int), ())
 else
 Option.bind (α := (Int × Unit) ⊕ ((Unit) × (Unit))) (iter (σ := (Int × Unit) × (Unit)) (τ := (Int × Unit) ⊕ ((Unit) × (Unit))) k (fun y1 =>
 bif (decide (y1.1.1 < ((List.length x0 : Nat) : Int))) then
 bif (inR y1.1.1 ((List.length x0 : Nat) : Int)) then
 bif (!(g98 ((rd (α := OT3) zOT3 x0 y1.1.1).1))) then
 some (.inr (.inl ((5 : Int), ())))
 else
 bif (!(g98 ((rd (α := OT3) zOT3 x0 y1.1.1).2.1))) then
 some (.inr (.inl ((5 : Int), ())))
 else
 bif (g99 ((rd (α := OT3) zOT3 x0 y1.1.1).2.2.1) (0 : Int) (1000000000 : Int)) then
 some (.inr (.inl ((1 : Int), ())))
 else
 bif (decide (y1.1.1 > (0 : Int))) then
 bif (inR (IntKind.i64.wrap (y1.1.1 - (1 : Int))) ((List.length x0 : Nat) : Int)) then
 bif (decide ((g100 (rd (α := OT3) zOT3 x0 y1.1.1) (rd (α := OT3) zOT3 x0 (IntKind.i64.wrap (y1.1.1 - (1 : Int))))) ≤ (0 : Int))) then
 some (.inr (.inl ((7 : Int), ())))
 else
 some (.inl (((IntKind.i64.wrap (y1.1.1 + (1 : Int))), ()), ()))
 else
 none
 else
 some (.inl (((IntKind.i64.wrap (y1.1.1 + (1 : Int))), ()), ()))
 else
 none
 else
 some (.inr (.inr ((), ())))) (((0 : Int), ()), ())) fun r => match r with
 | .inl z => some z
 | .inr z2 =>
 some ((0 : Int), ())
def H68 : Hints where
  loop := fun n => match n with
    | 0 => some ({ slots := [(10, (.int .i64))], objs := [], gone := [] }, 0, { slots := [], objs := [], gone := [] })
    | _ => none
  region := fun n => match n with
    | _ => none
  cond := fun n => match n with
    | _ => none
  block := fun n => match n with
    | _ => none
abbrev A68 : Tys := (.cons (.slice OY0) .nil)
def ts68 : List (Nat × TD) := [(3, (.data (.int .i64))), (9, (.data .str)), (23, (.data (.int .i64))), (52, (.data (.slice OY0))), (58, (.data OY0))]
noncomputable def fs68 (g98 : ByteArray → (Bool)) (g99 : Int → Int → Int → (Bool)) (g100 : OT3 → OT3 → (Int)) : List (Nat × FSem) := [(98, .fn (.cons .str .nil) (.cons .bool .nil) fun x => ((g98 x.1), ())), (99, .fn (.cons (.int .i64) (.cons (.int .i64) (.cons (.int .i64) .nil))) (.cons .bool .nil) fun x => ((g99 x.1 x.2.1 x.2.2.1), ())), (100, .fn (.cons OY0 (.cons OY0 .nil)) (.cons (.int .i64) .nil) fun x => ((g100 x.1 x.2.1), ()))]
noncomputable def body68 : Code := match Tryz.f68.body with | some c => c | none => .skip
theorem ty68 : chkTypes Tryz.prog ts68 = true := by kernel_rfl
theorem ev68 (g98 : ByteArray → (Bool)) (g99 : Int → Int → Int → (Bool)) (g100 : OT3 → OT3 → (Int)) (k : Nat) (x : ((.cons (.slice OY0) .nil) : Tys).den) : evFun (mkEnv ts68 (fs68 g98 g99 g100)) H68 k body68 44 [.tmp 2] (explodes (.cons (.slice OY0) .nil) x) [] (dec (.cons (.int .i64) .nil)) = f68 g98 g99 g100 k x.1 := by kernel_rfl
/-! ### jitney/match.Text -/
def f25 (g39 : Int → Option (ByteArray × Unit)) (g68 : (List OT3) → (Int)) (k : Nat) (x0 : List OT3) : Option OT1 :=
 bif ((g68 x0) != (0 : Int)) then
 some ((ByteArray.mk #[]), (g68 x0), ())
 else
 Option.bind (α := OT1 ⊕ ((Unit) × OT2)) (iter (σ := (Int × Unit) × OT2) (τ := OT1 ⊕ ((Unit) × OT2)) k (fun y1 =>
 bif (decide (y1.1.1 < ((List.length x0 : Nat) : Int))) then
 bif (inR y1.1.1 ((List.length x0 : Nat) : Int)) then
 bif decide (ByteArray.size ((rd (α := OT3) zOT3 x0 y1.1.1).1) + ByteArray.size (ByteArray.mk #[32]) < 4611686018427387904) then
 bif decide (ByteArray.size ((rd (α := OT3) zOT3 x0 y1.1.1).1 ++ (ByteArray.mk #[32])) + ByteArray.size ((rd (α := OT3) zOT3 x0 y1.1.1).2.1) < 4611686018427387904) then
 bif decide (ByteArray.size (((rd (α := OT3) zOT3 x0 y1.1.1).1 ++ (ByteArray.mk #[32])) ++ (rd (α := OT3) zOT3 x0 y1.1.1).2.1) + ByteArray.size (ByteArray.mk #[32]) < 4611686018427387904) then
 Option.bind (g39 ((rd (α := OT3) zOT3 x0 y1.1.1).2.2.1)) fun v2 =>
 bif decide (ByteArray.size ((((rd (α := OT3) zOT3 x0 y1.1.1).1 ++ (ByteArray.mk #[32])) ++ (rd (α := OT3) zOT3 x0 y1.1.1).2.1) ++ (ByteArray.mk #[32])) + ByteArray.size v2.1 < 4611686018427387904) then
 bif decide (ByteArray.size (((((rd (α := OT3) zOT3 x0 y1.1.1).1 ++ (ByteArray.mk #[32])) ++ (rd (α := OT3) zOT3 x0 y1.1.1).2.1) ++ (ByteArray.mk #[32])) ++ v2.1) + ByteArray.size (ByteArray.mk #[10]) < 4611686018427387904) then
 bif decide (ByteArray.size y1.2.1.1 + ByteArray.size ((((((rd (α := OT3) zOT3 x0 y1.1.1).1 ++ (ByteArray.mk #[32])) ++ (rd (α := OT3) zOT3 x0 y1.1.1).2.1) ++ (ByteArray.mk #[32])) ++ v2.1) ++ (ByteArray.mk #[10])) ≤ 4294967296) then
 some (.inl (((IntKind.i64.wrap (y1.1.1 + (1 : Int))), ()), (((y1.2.1.1 ++ ((((((rd (α := OT3) zOT3 x0 y1.1.1).1 ++ (ByteArray.mk #[32])) ++ (rd (α := OT3) zOT3 x0 y1.1.1).2.1) ++ (ByteArray.mk #[32])) ++ v2.1) ++ (ByteArray.mk #[10]))), ()), ())))
 else
 none
 else
 none
 else
 none
 else
 none
 else
 none
 else
 none
 else
 none
 else
 some (.inr (.inr ((), ((y1.2.1.1, ()), ()))))) (((0 : Int), ()), zOT2)) fun r => match r with
 | .inl z => some z
 | .inr z3 =>
 bif (decide (((ByteArray.size z3.2.1.1 : Nat) : Int) > (200000 : Int))) then
 some ((ByteArray.mk #[]), (2 : Int), ())
 else
 some (z3.2.1.1, (0 : Int), ())
def H25 : Hints where
  loop := fun n => match n with
    | 0 => some ({ slots := [(15, (.int .i64))], objs := [(0, (.box (.agg (.cons (.cell .ptr) (.cons (.data (.slice (.int .u8))) .nil))) (.agg (.skip (.cons .bytes .nil)))))], gone := [] }, 0, { slots := [], objs := [(0, (.box (.agg (.cons (.cell .ptr) (.cons (.data (.slice (.int .u8))) .nil))) (.agg (.skip (.cons .bytes .nil)))))], gone := [] })
    | _ => none
  region := fun n => match n with
    | _ => none
  cond := fun n => match n with
    | _ => none
  block := fun n => match n with
    | _ => none
def Hi25_41 : Hints := hint0
def tsi25_41 : List (Nat × TD) := [(9, (.data .str)), (72, (.data (.slice (.int .u8)))), (74, (.agg (.cons (.cell .ptr) (.cons (.data (.slice (.int .u8))) .nil))))]
noncomputable def bodyi25_41 : Code := match Tryz.f41.body with | some c => c | none => .skip
noncomputable def fsi25_41 (g39 : Int → Option (ByteArray × Unit)) (g68 : (List OT3) → (Int)) (k : Nat) : List (Nat × FSem) := [(80, .cck)]
theorem tyi25_41 : chkTypes Tryz.prog tsi25_41 = true := by kernel_rfl
def Hi25_43 : Hints := hint0
def tsi25_43 : List (Nat × TD) := [(72, (.data (.slice (.int .u8)))), (74, (.agg (.cons (.cell .ptr) (.cons (.data (.slice (.int .u8))) .nil))))]
noncomputable def bodyi25_43 : Code := match Tryz.f43.body with | some c => c | none => .skip
noncomputable def fsi25_43 (g39 : Int → Option (ByteArray × Unit)) (g68 : (List OT3) → (Int)) (k : Nat) : List (Nat × FSem) := []
theorem tyi25_43 : chkTypes Tryz.prog tsi25_43 = true := by kernel_rfl
abbrev A25 : Tys := (.cons (.slice OY0) .nil)
def ts25 : List (Nat × TD) := [(3, (.data (.int .i64))), (9, (.data .str)), (23, (.data (.int .i64))), (52, (.data (.slice OY0))), (58, (.data OY0)), (74, (.agg (.cons (.cell .ptr) (.cons (.data (.slice (.int .u8))) .nil))))]
noncomputable def fs25 (g39 : Int → Option (ByteArray × Unit)) (g68 : (List OT3) → (Int)) (k : Nat) : List (Nat × FSem) := [(39, .pfn (.cons (.int .i64) .nil) (.cons .str .nil) fun x => (g39 x.1)), (41, .ev (mkEnv tsi25_41 (fsi25_41 g39 g68 k)) Hi25_41 k bodyi25_41 19 [.tmp 4, .tmp 5]), (43, .ev (mkEnv tsi25_43 (fsi25_43 g39 g68 k)) Hi25_43 k bodyi25_43 8 [.tmp 2]), (44, .bstr), (68, .fn (.cons (.slice OY0) .nil) (.cons (.int .i64) .nil) fun x => ((g68 x.1), ()))]
noncomputable def body25 : Code := match Tryz.f25.body with | some c => c | none => .skip
theorem ty25 : chkTypes Tryz.prog ts25 = true := by kernel_rfl
theorem ev25 (g39 : Int → Option (ByteArray × Unit)) (g68 : (List OT3) → (Int)) (k : Nat) (x : ((.cons (.slice OY0) .nil) : Tys).den) : evFun (mkEnv ts25 (fs25 g39 g68 k)) H25 k body25 36 [.tmp 2, .tmp 3] (explodes (.cons (.slice OY0) .nil) x) [] (dec (.cons .str (.cons (.int .i64) .nil))) = f25 g39 g68 k x.1 := by kernel_rfl
/-! ### slices.Clone[[]jitney/api.Offer,jitney/api.Offer] -/
def f26  (k : Nat) (x0 : List OT3) : Option ((List OT3) × Unit) :=
 bif Nat.ble (List.length x0) 0 then
 none
 else
 bif decide (List.length ([] : List OT3) + List.length x0 ≤ 4294967296) then
 some ((([] : List OT3) ++ x0), ())
 else
 none
def H26 : Hints := hint0
def ts26 : List (Nat × TD) := [(52, (.data (.slice OY0)))]
noncomputable def fs26  : List (Nat × FSem) := []
noncomputable def body26 : Code := match Tryz.f26.body with | some c => c | none => .skip
theorem ty26 : chkTypes Tryz.prog ts26 = true := by kernel_rfl
theorem ev26  (k : Nat) (x : ((.cons (.slice OY0) .nil) : Tys).den) : evFun (mkEnv ts26 (fs26 )) H26 k body26 8 [.tmp 2] (explodes (.cons (.slice OY0) .nil) x) [] (dec (.cons (.slice OY0) .nil)) = f26  k x.1 := by kernel_rfl
def s26 (l : List OT3) : Option ((List OT3) × Unit) := if l.length ≤ 4294967296 then some (l, ()) else none
/-! ### jitney/match.Read -/
def f27 (g68 : (List OT3) → (Int)) (g70 : ByteArray → Int → Option ((List ByteArray) × Bool × Unit)) (g71 : ByteArray → Int → Option OT0) (g82 : ByteArray → Option ((List ByteArray) × Bool × Unit)) (k : Nat) (x0 : ByteArray) : Option ((List OT3) × Int × Int × Unit) :=
 bif (decide (((ByteArray.size x0 : Nat) : Int) > (200000 : Int))) then
 some ([], (0 : Int), (2 : Int), ())
 else
 Option.bind (α := ((List OT3) × Int × Int × Unit) ⊕ (OT0 × ((List OT3) × Unit))) (
 Option.bind (g82 x0) fun v1 =>
 Option.bind (α := (((List OT3) × Int × Int × Unit) ⊕ (OT0 × ((List OT3) × Unit))) ⊕ ((Unit) × ((List OT3) × Unit))) (iter (σ := (Int × Unit) × ((List OT3) × Unit)) (τ := (((List OT3) × Int × Int × Unit) ⊕ (OT0 × ((List OT3) × Unit))) ⊕ ((Unit) × ((List OT3) × Unit))) k (fun y2 =>
 bif (decide (y2.1.1 < ((List.length v1.1 : Nat) : Int))) then
 bif (inR y2.1.1 ((List.length v1.1 : Nat) : Int)) then
 bif (!v1.2.1) then
 bif (y2.1.1 == (IntKind.i64.wrap (((List.length v1.1 : Nat) : Int) - (1 : Int)))) then
 some (.inr (.inl (.inr ((y2.1.1, false, ()), (y2.2.1, ())))))
 else
 Option.bind (g70 (rd (α := ByteArray) ByteArray.empty v1.1 y2.1.1) (3 : Int)) fun v3 =>
 bif (!v3.2.1) then
 some (.inr (.inl (.inr ((y2.1.1, false, ()), (y2.2.1, ())))))
 else
 bif (inR (2 : Int) ((List.length v3.1 : Nat) : Int)) then
 Option.bind (g71 (rd (α := ByteArray) ByteArray.empty v3.1 (2 : Int)) (15 : Int)) fun v4 =>
 bif (inR (0 : Int) ((List.length v3.1 : Nat) : Int)) then
 bif (inR (1 : Int) ((List.length v3.1 : Nat) : Int)) then
 bif decide (List.length y2.2.1 + List.length ([((rd (α := ByteArray) ByteArray.empty v3.1 (0 : Int)), (rd (α := ByteArray) ByteArray.empty v3.1 (1 : Int)), v4.1, ())]) ≤ 4294967296) then
 bif (!v4.2.1) then
 some (.inr (.inl (.inr ((y2.1.1, false, ()), ((y2.2.1 ++ [((rd (α := ByteArray) ByteArray.empty v3.1 (0 : Int)), (rd (α := ByteArray) ByteArray.empty v3.1 (1 : Int)), v4.1, ())]), ())))))
 else
 some (.inl (((IntKind.i64.wrap (y2.1.1 + (1 : Int))), ()), ((y2.2.1 ++ [((rd (α := ByteArray) ByteArray.empty v3.1 (0 : Int)), (rd (α := ByteArray) ByteArray.empty v3.1 (1 : Int)), v4.1, ())]), ())))
 else
 none
 else
 none
 else
 none
 else
 none
 else
 Option.bind (g70 (rd (α := ByteArray) ByteArray.empty v1.1 y2.1.1) (3 : Int)) fun v5 =>
 bif (!v5.2.1) then
 some (.inr (.inl (.inr ((y2.1.1, false, ()), (y2.2.1, ())))))
 else
 bif (inR (2 : Int) ((List.length v5.1 : Nat) : Int)) then
 Option.bind (g71 (rd (α := ByteArray) ByteArray.empty v5.1 (2 : Int)) (15 : Int)) fun v6 =>
 bif (inR (0 : Int) ((List.length v5.1 : Nat) : Int)) then
 bif (inR (1 : Int) ((List.length v5.1 : Nat) : Int)) then
 bif decide (List.length y2.2.1 + List.length ([((rd (α := ByteArray) ByteArray.empty v5.1 (0 : Int)), (rd (α := ByteArray) ByteArray.empty v5.1 (1 : Int)), v6.1, ())]) ≤ 4294967296) then
 bif (!v6.2.1) then
 some (.inr (.inl (.inr ((y2.1.1, false, ()), ((y2.2.1 ++ [((rd (α := ByteArray) ByteArray.empty v5.1 (0 : Int)), (rd (α := ByteArray) ByteArray.empty v5.1 (1 : Int)), v6.1, ())]), ())))))
 else
 some (.inl (((IntKind.i64.wrap (y2.1.1 + (1 : Int))), ()), ((y2.2.1 ++ [((rd (α := ByteArray) ByteArray.empty v5.1 (0 : Int)), (rd (α := ByteArray) ByteArray.empty v5.1 (1 : Int)), v6.1, ())]), ())))
 else
 none
 else
 none
 else
 none
 else
 none
 else
 none
 else
 some (.inr (.inr ((), (y2.2.1, ()))))) (((0 : Int), ()), ([], ()))) fun r => match r with
 | .inl z => some z
 | .inr z7 =>
 some (.inr (((0 : Int), true, ()), (z7.2.1, ())))) fun r => match r with
 | .inl z => some z
 | .inr y8 =>
 bif (!y8.1.2.1) then
 some ([], y8.1.1, (9 : Int), ())
 else
 bif ((g68 y8.2.1) != (0 : Int)) then
 some ([], (0 : Int), (g68 y8.2.1), ())
 else
 some (y8.2.1, (0 : Int), (0 : Int), ())
def H27 : Hints where
  loop := fun n => match n with
    | _ => none
  region := fun n => match n with
    | 4 => some { slots := [(6, (.int .i64)), (7, .bool)], objs := [(0, (.box (.data (.slice OY0)) (.row OY0)))], gone := [] }
    | _ => none
  cond := fun n => match n with
    | _ => none
  block := fun n => match n with
    | _ => none
def Hi27_69 : Hints := hint0
def tsi27_69 : List (Nat × TD) := [(9, (.data .str)), (52, (.data (.slice OY0))), (58, (.data OY0)), (69, (.data (.slice .str)))]
noncomputable def bodyi27_69 : Code := match Tryz.f69.body with | some c => c | none => .skip
noncomputable def fsi27_69 (g68 : (List OT3) → (Int)) (g70 : ByteArray → Int → Option ((List ByteArray) × Bool × Unit)) (g71 : ByteArray → Int → Option OT0) (g82 : ByteArray → Option ((List ByteArray) × Bool × Unit)) (k : Nat) : List (Nat × FSem) := [(70, .pfn (.cons .str (.cons (.int .i64) .nil)) (.cons (.slice .str) (.cons .bool .nil)) fun x => (g70 x.1 x.2.1)), (71, .pfn (.cons .str (.cons (.int .i64) .nil)) (.cons (.int .i64) (.cons .bool .nil)) fun x => (g71 x.1 x.2.1))]
theorem tyi27_69 : chkTypes Tryz.prog tsi27_69 = true := by kernel_rfl
def Hi27_45 : Hints where
  loop := fun n => match n with
    | 0 => some ({ slots := [(17, (.int .i64))], objs := [(0, (.box (.data (.slice OY0)) (.row OY0)))], gone := [] }, 0, { slots := [], objs := [(0, (.box (.data (.slice OY0)) (.row OY0)))], gone := [] })
    | _ => none
  region := fun n => match n with
    | _ => none
  cond := fun n => match n with
    | _ => none
  block := fun n => match n with
    | _ => none
def tsi27_45 : List (Nat × TD) := [(3, (.data (.int .i64))), (9, (.data .str)), (69, (.data (.slice .str)))]
noncomputable def bodyi27_45 : Code := match Tryz.f45.body with | some c => c | none => .skip
noncomputable def fsi27_45 (g68 : (List OT3) → (Int)) (g70 : ByteArray → Int → Option ((List ByteArray) × Bool × Unit)) (g71 : ByteArray → Int → Option OT0) (g82 : ByteArray → Option ((List ByteArray) × Bool × Unit)) (k : Nat) : List (Nat × FSem) := [(69, .ev (mkEnv tsi27_69 (fsi27_69 g68 g70 g71 g82 k)) Hi27_69 k bodyi27_69 33 [.tmp 3]), (82, .pfn (.cons .str .nil) (.cons (.slice .str) (.cons .bool .nil)) fun x => (g82 x.1))]
theorem tyi27_45 : chkTypes Tryz.prog tsi27_45 = true := by kernel_rfl
abbrev A27 : Tys := (.cons .str .nil)
def ts27 : List (Nat × TD) := [(3, (.data (.int .i64))), (9, (.data .str)), (23, (.data (.int .i64))), (52, (.data (.slice OY0)))]
noncomputable def fs27 (g68 : (List OT3) → (Int)) (g70 : ByteArray → Int → Option ((List ByteArray) × Bool × Unit)) (g71 : ByteArray → Int → Option OT0) (g82 : ByteArray → Option ((List ByteArray) × Bool × Unit)) (k : Nat) : List (Nat × FSem) := [(45, .ev (mkEnv tsi27_45 (fsi27_45 g68 g70 g71 g82 k)) Hi27_45 k bodyi27_45 39 [.tmp 4, .tmp 5]), (68, .fn (.cons (.slice OY0) .nil) (.cons (.int .i64) .nil) fun x => ((g68 x.1), ()))]
noncomputable def body27 : Code := match Tryz.f27.body with | some c => c | none => .skip
theorem ty27 : chkTypes Tryz.prog ts27 = true := by kernel_rfl
theorem ev27 (g68 : (List OT3) → (Int)) (g70 : ByteArray → Int → Option ((List ByteArray) × Bool × Unit)) (g71 : ByteArray → Int → Option OT0) (g82 : ByteArray → Option ((List ByteArray) × Bool × Unit)) (k : Nat) (x : ((.cons .str .nil) : Tys).den) : evFun (mkEnv ts27 (fs27 g68 g70 g71 g82 k)) H27 k body27 27 [.tmp 2, .tmp 3, .tmp 4] (explodes (.cons .str .nil) x) [] (dec (.cons (.slice OY0) (.cons (.int .i64) (.cons (.int .i64) .nil)))) = f27 g68 g70 g71 g82 k x.1 := by kernel_rfl
/-! ### jitney/jitref2.OffersRead -/
def f28 (g23 : (List OT3) → (Int)) (g50 : ByteArray → Option ((List ByteArray) × Bool × Unit)) (g51 : ByteArray → Int → Option OT0) (g85 : ByteArray → ByteArray → Option OT4) (k : Nat) (x0 : ByteArray) : Option ((List OT3) × Int × Int × Unit) :=
 bif (decide (((ByteArray.size x0 : Nat) : Int) > (200000 : Int))) then
 some ([], (0 : Int), (2 : Int), ())
 else
 Option.bind (α := ((List OT3) × Int × Int × Unit) ⊕ (OT0 × ((List OT3) × Unit))) (
 Option.bind (α := (((List OT3) × Int × Int × Unit) ⊕ (OT0 × ((List OT3) × Unit))) ⊕ ((Unit) × ((List OT3) × Unit))) (iter (σ := OT1 × ((List OT3) × Unit)) (τ := (((List OT3) × Int × Int × Unit) ⊕ (OT0 × ((List OT3) × Unit))) ⊕ ((Unit) × ((List OT3) × Unit))) k (fun y1 =>
 bif (!(sEq y1.1.1 (ByteArray.mk #[]))) then
 Option.bind (g85 y1.1.1 (ByteArray.mk #[10])) fun v2 =>
 bif (!v2.2.2.1) then
 some (.inr (.inl (.inr ((y1.1.2.1, false, ()), (y1.2.1, ())))))
 else
 Option.bind (g50 v2.1) fun v3 =>
 bif (!v3.2.1) then
 some (.inr (.inl (.inr ((y1.1.2.1, false, ()), (y1.2.1, ())))))
 else
 bif (((List.length v3.1 : Nat) : Int) != (3 : Int)) then
 some (.inr (.inl (.inr ((y1.1.2.1, false, ()), (y1.2.1, ())))))
 else
 bif (inR (2 : Int) ((List.length v3.1 : Nat) : Int)) then
 Option.bind (g51 (rd (α := ByteArray) ByteArray.empty v3.1 (2 : Int)) (15 : Int)) fun v4 =>
 bif (inR (0 : Int) ((List.length v3.1 : Nat) : Int)) then
 bif (inR (1 : Int) ((List.length v3.1 : Nat) : Int)) then
 bif decide (List.length y1.2.1 + List.length ([((rd (α := ByteArray) ByteArray.empty v3.1 (0 : Int)), (rd (α := ByteArray) ByteArray.empty v3.1 (1 : Int)), v4.1, ())]) ≤ 4294967296) then
 bif (!v4.2.1) then
 some (.inr (.inl (.inr ((y1.1.2.1, false, ()), ((y1.2.1 ++ [((rd (α := ByteArray) ByteArray.empty v3.1 (0 : Int)), (rd (α := ByteArray) ByteArray.empty v3.1 (1 : Int)), v4.1, ())]), ())))))
 else
 some (.inl ((v2.2.1, (IntKind.i64.wrap (y1.1.2.1 + (1 : Int))), ()), ((y1.2.1 ++ [((rd (α := ByteArray) ByteArray.empty v3.1 (0 : Int)), (rd (α := ByteArray) ByteArray.empty v3.1 (1 : Int)), v4.1, ())]), ())))
 else
 none
 else
 none
 else
 none
 else
 none
 else
 some (.inr (.inr ((), (y1.2.1, ()))))) ((x0, (0 : Int), ()), ([], ()))) fun r => match r with
 | .inl z => some z
 | .inr z5 =>
 some (.inr (((0 : Int), true, ()), (z5.2.1, ())))) fun r => match r with
 | .inl z => some z
 | .inr y6 =>
 bif (!y6.1.2.1) then
 some ([], y6.1.1, (9 : Int), ())
 else
 bif ((g23 y6.2.1) != (0 : Int)) then
 some ([], (0 : Int), (g23 y6.2.1), ())
 else
 some (y6.2.1, (0 : Int), (0 : Int), ())
def H28 : Hints where
  loop := fun n => match n with
    | _ => none
  region := fun n => match n with
    | 4 => some { slots := [(6, (.int .i64)), (7, .bool)], objs := [(0, (.box (.data (.slice OY0)) (.row OY0)))], gone := [] }
    | _ => none
  cond := fun n => match n with
    | _ => none
  block := fun n => match n with
    | _ => none
def Hi28_72 : Hints := hint0
def tsi28_72 : List (Nat × TD) := [(3, (.data (.int .i64))), (9, (.data .str)), (52, (.data (.slice OY0))), (58, (.data OY0)), (69, (.data (.slice .str)))]
noncomputable def bodyi28_72 : Code := match Tryz.f72.body with | some c => c | none => .skip
noncomputable def fsi28_72 (g23 : (List OT3) → (Int)) (g50 : ByteArray → Option ((List ByteArray) × Bool × Unit)) (g51 : ByteArray → Int → Option OT0) (g85 : ByteArray → ByteArray → Option OT4) (k : Nat) : List (Nat × FSem) := [(50, .pfn (.cons .str .nil) (.cons (.slice .str) (.cons .bool .nil)) fun x => (g50 x.1)), (51, .pfn (.cons .str (.cons (.int .i64) .nil)) (.cons (.int .i64) (.cons .bool .nil)) fun x => (g51 x.1 x.2.1))]
theorem tyi28_72 : chkTypes Tryz.prog tsi28_72 = true := by kernel_rfl
def Hi28_48 : Hints where
  loop := fun n => match n with
    | 0 => some ({ slots := [(0, .str), (6, (.int .i64))], objs := [(0, (.box (.data (.slice OY0)) (.row OY0)))], gone := [] }, 0, { slots := [], objs := [(0, (.box (.data (.slice OY0)) (.row OY0)))], gone := [] })
    | _ => none
  region := fun n => match n with
    | _ => none
  cond := fun n => match n with
    | _ => none
  block := fun n => match n with
    | _ => none
def tsi28_48 : List (Nat × TD) := [(3, (.data (.int .i64))), (9, (.data .str))]
noncomputable def bodyi28_48 : Code := match Tryz.f48.body with | some c => c | none => .skip
noncomputable def fsi28_48 (g23 : (List OT3) → (Int)) (g50 : ByteArray → Option ((List ByteArray) × Bool × Unit)) (g51 : ByteArray → Int → Option OT0) (g85 : ByteArray → ByteArray → Option OT4) (k : Nat) : List (Nat × FSem) := [(72, .ev (mkEnv tsi28_72 (fsi28_72 g23 g50 g51 g85 k)) Hi28_72 k bodyi28_72 39 [.tmp 3]), (85, .pfn (.cons .str (.cons .str .nil)) (.cons .str (.cons .str (.cons .bool .nil))) fun x => (g85 x.1 x.2.1))]
theorem tyi28_48 : chkTypes Tryz.prog tsi28_48 = true := by kernel_rfl
abbrev A28 : Tys := (.cons .str .nil)
def ts28 : List (Nat × TD) := [(3, (.data (.int .i64))), (9, (.data .str)), (23, (.data (.int .i64))), (52, (.data (.slice OY0)))]
noncomputable def fs28 (g23 : (List OT3) → (Int)) (g50 : ByteArray → Option ((List ByteArray) × Bool × Unit)) (g51 : ByteArray → Int → Option OT0) (g85 : ByteArray → ByteArray → Option OT4) (k : Nat) : List (Nat × FSem) := [(23, .fn (.cons (.slice OY0) .nil) (.cons (.int .i64) .nil) fun x => ((g23 x.1), ())), (48, .ev (mkEnv tsi28_48 (fsi28_48 g23 g50 g51 g85 k)) Hi28_48 k bodyi28_48 30 [.tmp 4, .tmp 5])]
noncomputable def body28 : Code := match Tryz.f28.body with | some c => c | none => .skip
theorem ty28 : chkTypes Tryz.prog ts28 = true := by kernel_rfl
theorem ev28 (g23 : (List OT3) → (Int)) (g50 : ByteArray → Option ((List ByteArray) × Bool × Unit)) (g51 : ByteArray → Int → Option OT0) (g85 : ByteArray → ByteArray → Option OT4) (k : Nat) (x : ((.cons .str .nil) : Tys).den) : evFun (mkEnv ts28 (fs28 g23 g50 g51 g85 k)) H28 k body28 27 [.tmp 2, .tmp 3, .tmp 4] (explodes (.cons .str .nil) x) [] (dec (.cons (.slice OY0) (.cons (.int .i64) (.cons (.int .i64) .nil)))) = f28 g23 g50 g51 g85 k x.1 := by kernel_rfl
/-! ### slices.Equal[[]jitney/api.Offer,jitney/api.Offer] -/
def f29  (k : Nat) (x0 : List OT3) (x1 : List OT3) : Option (Bool × Unit) :=
 bif (((List.length x0 : Nat) : Int) != ((List.length x1 : Nat) : Int)) then
 some (false, ())
 else
 Option.bind (α := (Bool × Unit) ⊕ ((Unit) × (Unit))) (iter (σ := (Int × Unit) × (Unit)) (τ := (Bool × Unit) ⊕ ((Unit) × (Unit))) k (fun y1 =>
 bif (decide (y1.1.1 < ((List.length x0 : Nat) : Int))) then
 bif (inR y1.1.1 ((List.length x0 : Nat) : Int)) then
 bif (inR y1.1.1 ((List.length x1 : Nat) : Int)) then
 bif (!((sEq ((rd (α := OT3) zOT3 x0 y1.1.1).1) ((rd (α := OT3) zOT3 x1 y1.1.1).1)) && ((sEq ((rd (α := OT3) zOT3 x0 y1.1.1).2.1) ((rd (α := OT3) zOT3 x1 y1.1.1).2.1)) && (((rd (α := OT3) zOT3 x0 y1.1.1).2.2.1 == (rd (α := OT3) zOT3 x1 y1.1.1).2.2.1) && true)))) then
 some (.inr (.inl (false, ())))
 else
 some (.inl (((IntKind.i64.wrap (y1.1.1 + (1 : Int))), ()), ()))
 else
 none
 else
 none
 else
 some (.inr (.inr ((), ())))) (((0 : Int), ()), ())) fun r => match r with
 | .inl z => some z
 | .inr z2 =>
 some (true, ())
def H29 : Hints where
  loop := fun n => match n with
    | 0 => some ({ slots := [(13, (.int .i64))], objs := [], gone := [] }, 0, { slots := [], objs := [], gone := [] })
    | _ => none
  region := fun n => match n with
    | _ => none
  cond := fun n => match n with
    | _ => none
  block := fun n => match n with
    | _ => none
abbrev A29 : Tys := (.cons (.slice OY0) (.cons (.slice OY0) .nil))
def ts29 : List (Nat × TD) := [(3, (.data (.int .i64))), (4, (.data .bool)), (52, (.data (.slice OY0))), (58, (.data OY0))]
noncomputable def fs29  : List (Nat × FSem) := []
noncomputable def body29 : Code := match Tryz.f29.body with | some c => c | none => .skip
theorem ty29 : chkTypes Tryz.prog ts29 = true := by kernel_rfl
theorem ev29  (k : Nat) (x : ((.cons (.slice OY0) (.cons (.slice OY0) .nil)) : Tys).den) : evFun (mkEnv ts29 (fs29 )) H29 k body29 26 [.tmp 4] (explodes (.cons (.slice OY0) (.cons (.slice OY0) .nil)) x) [] (dec (.cons .bool .nil)) = f29  k x.1 x.2.1 := by kernel_rfl
/-! ### jitney/jitlaw2.OfferTexts -/
def f5 (g8 : ByteArray → Int → OT1) (g23 : (List OT3) → (Int)) (g24 : (List OT3) → Option (ByteArray × Unit)) (g25 : (List OT3) → Option OT1) (g26 : (List OT3) → Option ((List OT3) × Unit)) (g27 : ByteArray → Option ((List OT3) × Int × Int × Unit)) (g28 : ByteArray → Option ((List OT3) × Int × Int × Unit)) (g29 : (List OT3) → (List OT3) → (Bool)) (g30 : Option (Bool × Unit)) (k : Nat) (x0 : List OT3) (x1 : ByteArray) : Option (Bool × Unit) :=
 Option.bind (α := (Bool × Unit) ⊕ ((ByteArray × Unit) × (Unit))) (
 bif ((g23 x0) == (0 : Int)) then
 Option.bind (g24 x0) fun v1 =>
 some (.inr ((v1.1, ()), ()))
 else
 some (.inr (((ByteArray.mk #[]), ()), ()))) fun r => match r with
 | .inl z => some z
 | .inr y2 =>
 Option.bind (g26 x0) fun v3 =>
 Option.bind (g25 v3.1) fun v4 =>
 Option.bind (g27 x1) fun v5 =>
 Option.bind (g28 x1) fun v6 =>
 bif (v4.2.1 == (g8 y2.1.1 (g23 x0)).2.1) then
 bif (sEq v4.1 ((g8 y2.1.1 (g23 x0)).1)) then
 bif (g29 v5.1 v6.1) then
 bif (v5.2.1 == v6.2.1) then
 bif (v5.2.2.1 == v6.2.2.1) then
 Option.bind g30 fun v7 =>
 some (v7.1, ())
 else
 some (false, ())
 else
 some (false, ())
 else
 some (false, ())
 else
 some (false, ())
 else
 some (false, ())
def H5 : Hints where
  loop := fun n => match n with
    | _ => none
  region := fun n => match n with
    | _ => none
  cond := fun n => match n with
    | 18 => some { slots := [(6, .str)], objs := [], gone := [] }
    | _ => none
  block := fun n => match n with
    | _ => none
abbrev A5 : Tys := (.cons (.slice OY0) (.cons .str .nil))
def ts5 : List (Nat × TD) := [(3, (.data (.int .i64))), (4, (.data .bool)), (9, (.data .str)), (23, (.data (.int .i64))), (52, (.data (.slice OY0)))]
noncomputable def fs5 (g8 : ByteArray → Int → OT1) (g23 : (List OT3) → (Int)) (g24 : (List OT3) → Option (ByteArray × Unit)) (g25 : (List OT3) → Option OT1) (g26 : (List OT3) → Option ((List OT3) × Unit)) (g27 : ByteArray → Option ((List OT3) × Int × Int × Unit)) (g28 : ByteArray → Option ((List OT3) × Int × Int × Unit)) (g29 : (List OT3) → (List OT3) → (Bool)) (g30 : Option (Bool × Unit)) : List (Nat × FSem) := [(8, .fn (.cons .str (.cons (.int .i64) .nil)) (.cons .str (.cons (.int .i64) .nil)) fun x => (g8 x.1 x.2.1)), (23, .fn (.cons (.slice OY0) .nil) (.cons (.int .i64) .nil) fun x => ((g23 x.1), ())), (24, .pfn (.cons (.slice OY0) .nil) (.cons .str .nil) fun x => (g24 x.1)), (25, .pfn (.cons (.slice OY0) .nil) (.cons .str (.cons (.int .i64) .nil)) fun x => (g25 x.1)), (26, .pfn (.cons (.slice OY0) .nil) (.cons (.slice OY0) .nil) fun x => (g26 x.1)), (27, .pfn (.cons .str .nil) (.cons (.slice OY0) (.cons (.int .i64) (.cons (.int .i64) .nil))) fun x => (g27 x.1)), (28, .pfn (.cons .str .nil) (.cons (.slice OY0) (.cons (.int .i64) (.cons (.int .i64) .nil))) fun x => (g28 x.1)), (29, .fn (.cons (.slice OY0) (.cons (.slice OY0) .nil)) (.cons .bool .nil) fun x => ((g29 x.1 x.2.1), ())), (30, .pfn .nil (.cons .bool .nil) fun x => g30)]
noncomputable def body5 : Code := match Tryz.f5.body with | some c => c | none => .skip
theorem ty5 : chkTypes Tryz.prog ts5 = true := by kernel_rfl
theorem ev5 (g8 : ByteArray → Int → OT1) (g23 : (List OT3) → (Int)) (g24 : (List OT3) → Option (ByteArray × Unit)) (g25 : (List OT3) → Option OT1) (g26 : (List OT3) → Option ((List OT3) × Unit)) (g27 : ByteArray → Option ((List OT3) × Int × Int × Unit)) (g28 : ByteArray → Option ((List OT3) × Int × Int × Unit)) (g29 : (List OT3) → (List OT3) → (Bool)) (g30 : Option (Bool × Unit)) (k : Nat) (x : ((.cons (.slice OY0) (.cons .str .nil)) : Tys).den) : evFun (mkEnv ts5 (fs5 g8 g23 g24 g25 g26 g27 g28 g29 g30)) H5 k body5 71 [.tmp 4] (explodes (.cons (.slice OY0) (.cons .str .nil)) x) [] (dec (.cons .bool .nil)) = f5 g8 g23 g24 g25 g26 g27 g28 g29 g30 k x.1 x.2.1 := by kernel_rfl
end Go.Vm
