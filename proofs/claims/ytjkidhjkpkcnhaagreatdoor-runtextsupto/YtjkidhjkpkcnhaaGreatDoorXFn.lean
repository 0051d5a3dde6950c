/- The program's functions, as an own tool reads them off its form. -/
import Derived.Test.YtjkidhjkpkcnhaaGreatDoorVmK
import Derived.Test.YtjkidhjkpkcnhaaGreatDoorVmD
import Derived.Test.YtjkidhjkpkcnhaaGreatDoorVmQ
import Derived.Test.YtjkidhjkpkcnhaaGreatDoorProg
set_option maxRecDepth 100000
set_option linter.unusedVariables false
namespace Go.Vm
open Go.Proofs
abbrev XT0 : Type := (Int × Int × Unit)
abbrev XT1 : Type := (Int × Bool × Unit)
abbrev XT2 : Type := (ByteArray × Int × Unit)
abbrev XT3 : Type := (ByteArray × Bool × Unit)
abbrev XT4 : Type := (XT0 × Unit)
abbrev XT5 : Type := ((ByteArray × Unit) × Unit)
abbrev XT6 : Type := (ByteArray × ByteArray × Bool × Unit)
abbrev XT7 : Type := (ByteArray × XT0 × Int × Int × Unit)
abbrev zXT1 : XT1 := ((0 : Int), false, ())
abbrev zXT0 : XT0 := ((0 : Int), (0 : Int), ())
abbrev zXT5 : XT5 := ((ByteArray.empty, ()), ())
abbrev zXT7 : XT7 := (ByteArray.empty, zXT0, (0 : Int), (0 : Int), ())
abbrev XY0 : Ty := (.struct (.cons (.int .i64) (.cons (.int .i64) .nil)))
abbrev XY1 : Ty := (.struct (.cons .str (.cons XY0 (.cons (.int .i64) (.cons (.int .i64) .nil)))))
theorem mixedOK : Tryz.prog.follows .mixedOrders = true := by kernel_rfl
/-! ### slices.Clone[[]jitney/api.Run,jitney/api.Run] -/
def f28  (k : Nat) (x0 : List XT7) : Option ((List XT7) × Unit) :=
  bif Nat.ble (List.length x0) 0 then
    none
  else
    bif decide (List.length ([] : List XT7) + List.length x0 ≤ 4294967296) then
      some ((([] : List XT7) ++ x0), ())
    else
      none
def H28 : Hints where
  loop := fun n => match n with
    | _ => none
  region := fun n => match n with
    | _ => none
  cond := fun n => match n with
    | _ => none
  block := fun n => match n with
    | _ => none
abbrev A28 : Tys := (.cons (.slice XY1) .nil)
def ts28 : List (Nat × TD) := [(57, (.data (.slice XY1)))]
noncomputable def fs28  : List (Nat × FSem) := []
noncomputable def body28 : Code := match Tryz.f28.body with | some c => c | none => .skip
theorem ty28 : chkTypes Tryz.prog ts28 = true := by kernel_rfl
theorem ev28  (k : Nat) (x : ((.cons (.slice XY1) .nil) : Tys).den) : evFun (mkEnv ts28 (fs28 )) H28 k body28 8 [.tmp 2] (explodes (.cons (.slice XY1) .nil) x) [] (dec (.cons (.slice XY1) .nil)) = f28  k x.1 := by kernel_rfl
def s28 (l : List XT7) : Option ((List XT7) × Unit) := if l.length ≤ 4294967296 then some (l, ()) else none
/-! ### jitney/jitref2.in -/
def f71  (k : Nat) (x0 : Int) (x1 : Int) (x2 : Int) : Option (Bool × Unit) :=
  bif (decide (x1 ≤ x0)) then
    some ((decide (x0 ≤ x2)), ())
  else
    some (false, ())
def H71 : Hints where
  loop := fun n => match n with
    | _ => none
  region := fun n => match n with
    | _ => none
  cond := fun n => match n with
    | _ => none
  block := fun n => match n with
    | _ => none
abbrev A71 : Tys := (.cons (.int .i64) (.cons (.int .i64) (.cons (.int .i64) .nil)))
def ts71 : List (Nat × TD) := [(3, (.data (.int .i64))), (4, (.data .bool))]
noncomputable def fs71  : List (Nat × FSem) := []
noncomputable def body71 : Code := match Tryz.f71.body with | some c => c | none => .skip
theorem ty71 : chkTypes Tryz.prog ts71 = true := by kernel_rfl
theorem ev71  (k : Nat) (x : ((.cons (.int .i64) (.cons (.int .i64) (.cons (.int .i64) .nil))) : Tys).den) : evFun (mkEnv ts71 (fs71 )) H71 k body71 15 [.tmp 6] (explodes (.cons (.int .i64) (.cons (.int .i64) (.cons (.int .i64) .nil))) x) [] (dec (.cons .bool .nil)) = f71  k x.1 x.2.1 x.2.2.1 := by kernel_rfl
/-! ### strings.IndexByte -/
def f145 (g182 : ByteArray → Int → (Int)) (k : Nat) (x0 : ByteArray) (x1 : Int) : Option (Int × Unit) :=
  some ((g182 x0 x1), ())
def H145 : Hints where
  loop := fun n => match n with
    | _ => none
  region := fun n => match n with
    | _ => none
  cond := fun n => match n with
    | _ => none
  block := fun n => match n with
    | _ => none
abbrev A145 : Tys := (.cons .str (.cons (.int .u8) .nil))
def ts145 : List (Nat × TD) := [(3, (.data (.int .i64))), (5, (.data (.int .u8))), (9, (.data .str))]
noncomputable def fs145 (g182 : ByteArray → Int → (Int)) : List (Nat × FSem) := [(182, .fn (.cons .str (.cons (.int .u8) .nil)) (.cons (.int .i64) .nil) fun x => ((g182 x.1 x.2.1), ()))]
noncomputable def body145 : Code := match Tryz.f145.body with | some c => c | none => .skip
theorem ty145 : chkTypes Tryz.prog ts145 = true := by kernel_rfl
theorem ev145 (g182 : ByteArray → Int → (Int)) (k : Nat) (x : ((.cons .str (.cons (.int .u8) .nil)) : Tys).den) : evFun (mkEnv ts145 (fs145 g182)) H145 k body145 8 [.tmp 4] (explodes (.cons .str (.cons (.int .u8) .nil)) x) [] (dec (.cons (.int .i64) .nil)) = f145 g182 k x.1 x.2.1 := by kernel_rfl
/-! ### jitney/jitref2.only -/
def f94 (g145 : ByteArray → Int → (Int)) (k : Nat) (x0 : ByteArray) (x1 : ByteArray) : Option (Bool × Unit) :=
  Option.bind (α := (Bool × Unit) ⊕ ((Unit) × (Unit))) (iter (σ := (Int × Unit) × (Unit)) (τ := (Bool × Unit) ⊕ ((Unit) × (Unit))) k (fun y1 =>
      bif (decide (y1.1.1 < ((ByteArray.size x0 : Nat) : Int))) then
        bif (inR y1.1.1 ((ByteArray.size x0 : Nat) : Int)) then
          bif (decide ((g145 x1 (bt x0 y1.1.1)) < (0 : Int))) then
            some (.inr (.inl (false, ())))
          else
            some (.inl (((IntKind.i64.wrap (y1.1.1 + (1 : Int))), ()), ()))
        else
          none
      else
        some (.inr (.inr ((), ())))) (((0 : Int), ()), ())) fun r => match r with
  | .inl z => some z
  | .inr z2 =>
    some (true, ())
def H94 : Hints where
  loop := fun n => match n with
    | 0 => some ({ slots := [(8, (.int .i64))], objs := [], gone := [] }, 0, { slots := [], objs := [], gone := [] })
    | _ => none
  region := fun n => match n with
    | _ => none
  cond := fun n => match n with
    | _ => none
  block := fun n => match n with
    | _ => none
abbrev A94 : Tys := (.cons .str (.cons .str .nil))
def ts94 : List (Nat × TD) := [(3, (.data (.int .i64))), (4, (.data .bool)), (9, (.data .str))]
noncomputable def fs94 (g145 : ByteArray → Int → (Int)) : List (Nat × FSem) := [(145, .fn (.cons .str (.cons (.int .u8) .nil)) (.cons (.int .i64) .nil) fun x => ((g145 x.1 x.2.1), ()))]
noncomputable def body94 : Code := match Tryz.f94.body with | some c => c | none => .skip
theorem ty94 : chkTypes Tryz.prog ts94 = true := by kernel_rfl
theorem ev94 (g145 : ByteArray → Int → (Int)) (k : Nat) (x : ((.cons .str (.cons .str .nil)) : Tys).den) : evFun (mkEnv ts94 (fs94 g145)) H94 k body94 18 [.tmp 4] (explodes (.cons .str (.cons .str .nil)) x) [] (dec (.cons .bool .nil)) = f94 g145 k x.1 x.2.1 := by kernel_rfl
/-! ### jitney/jitref2.Key -/
def f36 (g71 : Int → Int → Int → (Bool)) (g94 : ByteArray → ByteArray → (Bool)) (k : Nat) (x0 : ByteArray) : Option (Bool × Unit) :=
  bif (g71 ((ByteArray.size x0 : Nat) : Int) (1 : Int) (40 : Int)) then
    bif (decide (0 ≤ (0 : Int)) && (decide ((0 : Int) ≤ (1 : Int)) && decide ((1 : Int) ≤ ((ByteArray.size x0 : Nat) : Int)))) then
      bif (g94 (ByteArray.extract x0 (Int.toNat (0 : Int)) (Int.toNat (1 : Int))) (ByteArray.mk #[97, 98, 99, 100, 101, 102, 103, 104, 105, 106, 107, 108, 109, 110, 111, 112, 113, 114, 115, 116, 117, 118, 119, 120, 121, 122])) then
        some ((g94 x0 (ByteArray.mk #[97, 98, 99, 100, 101, 102, 103, 104, 105, 106, 107, 108, 109, 110, 111, 112, 113, 114, 115, 116, 117, 118, 119, 120, 121, 122, 48, 49, 50, 51, 52, 53, 54, 55, 56, 57, 45, 95])), ())
      else
        some (false, ())
    else
      none
  else
    some (false, ())
def H36 : Hints where
  loop := fun n => match n with
    | _ => none
  region := fun n => match n with
    | _ => none
  cond := fun n => match n with
    | _ => none
  block := fun n => match n with
    | _ => none
abbrev A36 : Tys := (.cons .str .nil)
def ts36 : List (Nat × TD) := [(4, (.data .bool)), (9, (.data .str))]
noncomputable def fs36 (g71 : Int → Int → Int → (Bool)) (g94 : ByteArray → ByteArray → (Bool)) : List (Nat × FSem) := [(71, .fn (.cons (.int .i64) (.cons (.int .i64) (.cons (.int .i64) .nil))) (.cons .bool .nil) fun x => ((g71 x.1 x.2.1 x.2.2.1), ())), (94, .fn (.cons .str (.cons .str .nil)) (.cons .bool .nil) fun x => ((g94 x.1 x.2.1), ()))]
noncomputable def body36 : Code := match Tryz.f36.body with | some c => c | none => .skip
theorem ty36 : chkTypes Tryz.prog ts36 = true := by kernel_rfl
theorem ev36 (g71 : Int → Int → Int → (Bool)) (g94 : ByteArray → ByteArray → (Bool)) (k : Nat) (x : ((.cons .str .nil) : Tys).den) : evFun (mkEnv ts36 (fs36 g71 g94)) H36 k body36 15 [.tmp 2] (explodes (.cons .str .nil) x) [] (dec (.cons .bool .nil)) = f36 g71 g94 k x.1 := by kernel_rfl
/-! ### jitney/jitref2.RunsFault -/
def f34 (g36 : ByteArray → (Bool)) (g71 : Int → Int → Int → (Bool)) (k : Nat) (x0 : List XT7) : Option (Int × Unit) :=
  bif (decide (((List.length x0 : Nat) : Int) > (1000 : Int))) then
    some ((2 : Int), ())
  else
    Option.bind (α := (Int × Unit) ⊕ ((Unit) × (Unit))) (iter (σ := (Int × Unit) × (Unit)) (τ := (Int × Unit) ⊕ ((Unit) × (Unit))) k (fun y1 =>
        bif (decide (y1.1.1 < ((List.length x0 : Nat) : Int))) then
          bif (inR y1.1.1 ((List.length x0 : Nat) : Int)) then
            bif (!(g36 ((rd (α := XT7) zXT7 x0 y1.1.1).1))) then
              some (.inr (.inl ((5 : Int), ())))
            else
              bif (decide ((rd (α := XT7) zXT7 x0 y1.1.1).2.1.1 < (0 : Int))) then
                some (.inr (.inl ((1 : Int), ())))
              else
                bif (decide ((rd (α := XT7) zXT7 x0 y1.1.1).2.1.1 ≥ (rd (α := XT7) zXT7 x0 y1.1.1).2.1.2.1)) then
                  some (.inr (.inl ((1 : Int), ())))
                else
                  bif (decide ((rd (α := XT7) zXT7 x0 y1.1.1).2.1.2.1 > (345686400000 : Int))) then
                    some (.inr (.inl ((1 : Int), ())))
                  else
                    bif (!(g71 ((rd (α := XT7) zXT7 x0 y1.1.1).2.2.1) (0 : Int) (1000000000 : Int))) then
                      some (.inr (.inl ((1 : Int), ())))
                    else
                      bif (!(g71 ((rd (α := XT7) zXT7 x0 y1.1.1).2.2.2.1) (0 : Int) (1000000 : Int))) then
                        some (.inr (.inl ((1 : Int), ())))
                      else
                        bif (y1.1.1 == (0 : Int)) then
                          some (.inl (((IntKind.i64.wrap (y1.1.1 + (1 : Int))), ()), ()))
                        else
                          bif (inR (IntKind.i64.wrap (y1.1.1 - (1 : Int))) ((List.length x0 : Nat) : Int)) then
                            bif (sLt ((rd (α := XT7) zXT7 x0 y1.1.1).1) ((rd (α := XT7) zXT7 x0 (IntKind.i64.wrap (y1.1.1 - (1 : Int)))).1)) then
                              some (.inr (.inl ((7 : Int), ())))
                            else
                              bif (sEq ((rd (α := XT7) zXT7 x0 y1.1.1).1) ((rd (α := XT7) zXT7 x0 (IntKind.i64.wrap (y1.1.1 - (1 : Int)))).1)) then
                                bif (decide ((rd (α := XT7) zXT7 x0 y1.1.1).2.1.1 < (rd (α := XT7) zXT7 x0 (IntKind.i64.wrap (y1.1.1 - (1 : Int)))).2.1.2.1)) then
                                  some (.inr (.inl ((7 : Int), ())))
                                else
                                  some (.inl (((IntKind.i64.wrap (y1.1.1 + (1 : Int))), ()), ()))
                              else
                                some (.inl (((IntKind.i64.wrap (y1.1.1 + (1 : Int))), ()), ()))
                          else
                            none
          else
            none
        else
          some (.inr (.inr ((), ())))) (((0 : Int), ()), ())) fun r => match r with
    | .inl z => some z
    | .inr z2 =>
      some ((0 : Int), ())
def H34 : Hints where
  loop := fun n => match n with
    | 0 => some ({ slots := [(11, (.int .i64))], objs := [], gone := [] }, 0, { slots := [], objs := [], gone := [] })
    | _ => none
  region := fun n => match n with
    | _ => none
  cond := fun n => match n with
    | _ => none
  block := fun n => match n with
    | _ => none
abbrev A34 : Tys := (.cons (.slice XY1) .nil)
def ts34 : List (Nat × TD) := [(3, (.data (.int .i64))), (9, (.data .str)), (30, (.data XY0)), (32, (.data (.int .i64))), (57, (.data (.slice XY1))), (68, (.data XY1))]
noncomputable def fs34 (g36 : ByteArray → (Bool)) (g71 : Int → Int → Int → (Bool)) : List (Nat × FSem) := [(36, .fn (.cons .str .nil) (.cons .bool .nil) fun x => ((g36 x.1), ())), (71, .fn (.cons (.int .i64) (.cons (.int .i64) (.cons (.int .i64) .nil))) (.cons .bool .nil) fun x => ((g71 x.1 x.2.1 x.2.2.1), ()))]
noncomputable def body34 : Code := match Tryz.f34.body with | some c => c | none => .skip
theorem ty34 : chkTypes Tryz.prog ts34 = true := by kernel_rfl
theorem ev34 (g36 : ByteArray → (Bool)) (g71 : Int → Int → Int → (Bool)) (k : Nat) (x : ((.cons (.slice XY1) .nil) : Tys).den) : evFun (mkEnv ts34 (fs34 g36 g71)) H34 k body34 82 [.tmp 2] (explodes (.cons (.slice XY1) .nil) x) [] (dec (.cons (.int .i64) .nil)) = f34 g36 g71 k x.1 := by kernel_rfl
/-! ### cmp.Or[int] -/
def f66  (k : Nat) (x0 : List Int) : Option (Int × Unit) :=
  Option.bind (α := (Int × Unit) ⊕ ((Unit) × (Unit))) (iter (σ := (Int × Unit) × (Unit)) (τ := (Int × Unit) ⊕ ((Unit) × (Unit))) k (fun y1 =>
      bif (decide (y1.1.1 < ((List.length x0 : Nat) : Int))) then
        bif (inR y1.1.1 ((List.length x0 : Nat) : Int)) then
          bif ((rd (α := Int) (0 : Int) x0 y1.1.1) != (0 : Int)) then
            some (.inr (.inl ((rd (α := Int) (0 : Int) x0 y1.1.1), ())))
          else
            some (.inl (((IntKind.i64.wrap (y1.1.1 + (1 : Int))), ()), ()))
        else
          none
      else
        some (.inr (.inr ((), ())))) (((0 : Int), ()), ())) fun r => match r with
  | .inl z => some z
  | .inr z2 =>
    some ((0 : Int), ())
def H66 : Hints where
  loop := fun n => match n with
    | 0 => some ({ slots := [(8, (.int .i64))], objs := [], gone := [] }, 0, { slots := [], objs := [], gone := [] })
    | _ => none
  region := fun n => match n with
    | _ => none
  cond := fun n => match n with
    | _ => none
  block := fun n => match n with
    | _ => none
abbrev A66 : Tys := (.cons (.slice (.int .i64)) .nil)
def ts66 : List (Nat × TD) := [(3, (.data (.int .i64))), (31, (.data (.slice (.int .i64))))]
noncomputable def fs66  : List (Nat × FSem) := []
noncomputable def body66 : Code := match Tryz.f66.body with | some c => c | none => .skip
theorem ty66 : chkTypes Tryz.prog ts66 = true := by kernel_rfl
theorem ev66  (k : Nat) (x : ((.cons (.slice (.int .i64)) .nil) : Tys).den) : evFun (mkEnv ts66 (fs66 )) H66 k body66 18 [.tmp 2] (explodes (.cons (.slice (.int .i64)) .nil) x) [] (dec (.cons (.int .i64) .nil)) = f66  k x.1 := by kernel_rfl
/-! ### cmp.isNaN[int] -/
def f132  (k : Nat) (x0 : Int) : Option (Bool × Unit) :=
  some ((x0 != x0), ())
def H132 : Hints where
  loop := fun n => match n with
    | _ => none
  region := fun n => match n with
    | _ => none
  cond := fun n => match n with
    | _ => none
  block := fun n => match n with
    | _ => none
abbrev A132 : Tys := (.cons (.int .i64) .nil)
def ts132 : List (Nat × TD) := [(3, (.data (.int .i64))), (4, (.data .bool))]
noncomputable def fs132  : List (Nat × FSem) := []
noncomputable def body132 : Code := match Tryz.f132.body with | some c => c | none => .skip
theorem ty132 : chkTypes Tryz.prog ts132 = true := by kernel_rfl
theorem ev132  (k : Nat) (x : ((.cons (.int .i64) .nil) : Tys).den) : evFun (mkEnv ts132 (fs132 )) H132 k body132 6 [.tmp 2] (explodes (.cons (.int .i64) .nil) x) [] (dec (.cons .bool .nil)) = f132  k x.1 := by kernel_rfl
/-! ### cmp.Compare[int] -/
def f67 (g132 : Int → (Bool)) (k : Nat) (x0 : Int) (x1 : Int) : Option (Int × Unit) :=
  bif (g132 x0) then
    bif (g132 x1) then
      some ((0 : Int), ())
    else
      some ((-1 : Int), ())
  else
    bif (g132 x1) then
      some ((1 : Int), ())
    else
      bif (decide (x0 < x1)) then
        some ((-1 : Int), ())
      else
        bif (decide (x0 > x1)) then
          some ((1 : Int), ())
        else
          some ((0 : Int), ())
def H67 : Hints where
  loop := fun n => match n with
    | _ => none
  region := fun n => match n with
    | _ => none
  cond := fun n => match n with
    | _ => none
  block := fun n => match n with
    | _ => none
abbrev A67 : Tys := (.cons (.int .i64) (.cons (.int .i64) .nil))
def ts67 : List (Nat × TD) := [(3, (.data (.int .i64)))]
noncomputable def fs67 (g132 : Int → (Bool)) : List (Nat × FSem) := [(132, .fn (.cons (.int .i64) .nil) (.cons .bool .nil) fun x => ((g132 x.1), ()))]
noncomputable def body67 : Code := match Tryz.f67.body with | some c => c | none => .skip
theorem ty67 : chkTypes Tryz.prog ts67 = true := by kernel_rfl
theorem ev67 (g132 : Int → (Bool)) (k : Nat) (x : ((.cons (.int .i64) (.cons (.int .i64) .nil)) : Tys).den) : evFun (mkEnv ts67 (fs67 g132)) H67 k body67 20 [.tmp 4] (explodes (.cons (.int .i64) (.cons (.int .i64) .nil)) x) [] (dec (.cons (.int .i64) .nil)) = f67 g132 k x.1 x.2.1 := by kernel_rfl
/-! ### jitney/fleet.byShift -/
def f189 (g66 : (List Int) → (Int)) (g67 : Int → Int → (Int)) (k : Nat) (x0 : XT0) (x1 : XT0) : Option (Int × Unit) :=
  some ((g66 ([(g67 x0.1 x1.1), (g67 x0.2.1 x1.2.1)])), ())
def H189 : Hints where
  loop := fun n => match n with
    | _ => none
  region := fun n => match n with
    | _ => none
  cond := fun n => match n with
    | _ => none
  block := fun n => match n with
    | _ => none
abbrev A189 : Tys := (.cons XY0 (.cons XY0 .nil))
def ts189 : List (Nat × TD) := [(3, (.data (.int .i64))), (30, (.data XY0)), (31, (.data (.slice (.int .i64))))]
noncomputable def fs189 (g66 : (List Int) → (Int)) (g67 : Int → Int → (Int)) : List (Nat × FSem) := [(66, .fn (.cons (.slice (.int .i64)) .nil) (.cons (.int .i64) .nil) fun x => ((g66 x.1), ())), (67, .fn (.cons (.int .i64) (.cons (.int .i64) .nil)) (.cons (.int .i64) .nil) fun x => ((g67 x.1 x.2.1), ()))]
noncomputable def body189 : Code := match Tryz.f189.body with | some c => c | none => .skip
theorem ty189 : chkTypes Tryz.prog ts189 = true := by kernel_rfl
theorem ev189 (g66 : (List Int) → (Int)) (g67 : Int → Int → (Int)) (k : Nat) (x : ((.cons XY0 (.cons XY0 .nil)) : Tys).den) : evFun (mkEnv ts189 (fs189 g66 g67)) H189 k body189 17 [.tmp 4] (explodes (.cons XY0 (.cons XY0 .nil)) x) [] (dec (.cons (.int .i64) .nil)) = f189 g66 g67 k x.1 x.2.1 := by kernel_rfl
/-! ### jitney/fleet.CheckShifts -/
def f152 (g189 : XT0 → XT0 → (Int)) (k : Nat) (x0 : List XT0) : Option (Int × Unit) :=
  bif (decide (((List.length x0 : Nat) : Int) > (500 : Int))) then
    some ((2 : Int), ())
  else
    Option.bind (α := (Int × Unit) ⊕ ((Unit) × (Unit))) (iter (σ := (Int × Unit) × (Unit)) (τ := (Int × Unit) ⊕ ((Unit) × (Unit))) k (fun y1 =>
        bif (decide (y1.1.1 < ((List.length x0 : Nat) : Int))) then
          bif (inR y1.1.1 ((List.length x0 : Nat) : Int)) then
            bif (decide ((rd (α := XT0) zXT0 x0 y1.1.1).1 < (0 : Int))) then
              some (.inr (.inl ((1 : Int), ())))
            else
              bif (decide ((rd (α := XT0) zXT0 x0 y1.1.1).1 ≥ (rd (α := XT0) zXT0 x0 y1.1.1).2.1)) then
                some (.inr (.inl ((1 : Int), ())))
              else
                bif (decide ((rd (α := XT0) zXT0 x0 y1.1.1).2.1 > (345686400000 : Int))) then
                  some (.inr (.inl ((1 : Int), ())))
                else
                  bif (decide (y1.1.1 > (0 : Int))) then
                    bif (inR (IntKind.i64.wrap (y1.1.1 - (1 : Int))) ((List.length x0 : Nat) : Int)) then
                      bif (decide ((g189 (rd (α := XT0) zXT0 x0 y1.1.1) (rd (α := XT0) zXT0 x0 (IntKind.i64.wrap (y1.1.1 - (1 : Int))))) < (0 : Int))) then
                        some (.inr (.inl ((7 : Int), ())))
                      else
                        some (.inl (((IntKind.i64.wrap (y1.1.1 + (1 : Int))), ()), ()))
                    else
                      none
                  else
                    some (.inl (((IntKind.i64.wrap (y1.1.1 + (1 : Int))), ()), ()))
          else
            none
        else
          some (.inr (.inr ((), ())))) (((0 : Int), ()), ())) fun r => match r with
    | .inl z => some z
    | .inr z2 =>
      some ((0 : Int), ())
def H152 : Hints where
  loop := fun n => match n with
    | 0 => some ({ slots := [(10, (.int .i64))], objs := [], gone := [] }, 0, { slots := [], objs := [], gone := [] })
    | _ => none
  region := fun n => match n with
    | _ => none
  cond := fun n => match n with
    | _ => none
  block := fun n => match n with
    | _ => none
abbrev A152 : Tys := (.cons (.slice XY0) .nil)
def ts152 : List (Nat × TD) := [(3, (.data (.int .i64))), (30, (.data XY0)), (32, (.data (.int .i64))), (155, (.data (.slice XY0)))]
noncomputable def fs152 (g189 : XT0 → XT0 → (Int)) : List (Nat × FSem) := [(189, .fn (.cons XY0 (.cons XY0 .nil)) (.cons (.int .i64) .nil) fun x => ((g189 x.1 x.2.1), ()))]
noncomputable def body152 : Code := match Tryz.f152.body with | some c => c | none => .skip
theorem ty152 : chkTypes Tryz.prog ts152 = true := by kernel_rfl
theorem ev152 (g189 : XT0 → XT0 → (Int)) (k : Nat) (x : ((.cons (.slice XY0) .nil) : Tys).den) : evFun (mkEnv ts152 (fs152 g189)) H152 k body152 43 [.tmp 2] (explodes (.cons (.slice XY0) .nil) x) [] (dec (.cons (.int .i64) .nil)) = f152 g189 k x.1 := by kernel_rfl
/-! ### jitney/fleet.rosters -/
def f153  (k : Nat) (x0 : List XT0) : Option ((List Int) × Int × Unit) :=
  Option.bind (α := ((List Int) × Int × Unit) ⊕ (((List Int) × (List Int) × Unit) × (Unit))) (iter (σ := ((List Int) × (List Int) × Int × Unit) × (Unit)) (τ := ((List Int) × Int × Unit) ⊕ (((List Int) × (List Int) × Unit) × (Unit))) k (fun y1 =>
      bif (decide (y1.1.2.2.1 < ((List.length x0 : Nat) : Int))) then
        bif (inR y1.1.2.2.1 ((List.length x0 : Nat) : Int)) then
          Option.bind (α := ((((List Int) × (List Int) × Int × Unit) × (Unit)) ⊕ (((List Int) × Int × Unit) ⊕ (((List Int) × (List Int) × Unit) × (Unit)))) ⊕ ((Int × Unit) × ((List Int) × XT0 × Unit))) (
              Option.bind (α := (((((List Int) × (List Int) × Int × Unit) × (Unit)) ⊕ (((List Int) × Int × Unit) ⊕ (((List Int) × (List Int) × Unit) × (Unit)))) ⊕ ((Int × Unit) × ((List Int) × XT0 × Unit))) ⊕ ((Unit) × XT4)) (iter (σ := (Int × Unit) × XT4) (τ := (((((List Int) × (List Int) × Int × Unit) × (Unit)) ⊕ (((List Int) × Int × Unit) ⊕ (((List Int) × (List Int) × Unit) × (Unit)))) ⊕ ((Int × Unit) × ((List Int) × XT0 × Unit))) ⊕ ((Unit) × XT4)) k (fun y2 =>
                  bif (decide (y2.1.1 < ((List.length y1.1.1 : Nat) : Int))) then
                    bif (inR y2.1.1 ((List.length y1.1.1 : Nat) : Int)) then
                      bif (inR y2.1.1 ((List.length y1.1.1 : Nat) : Int)) then
                        bif (decide ((rd (α := Int) (0 : Int) y1.1.1 y2.1.1) ≤ y2.2.1.1)) then
                          some (.inr (.inl (.inr ((y2.1.1, ()), (y1.1.1, (y2.2.1.1, y2.2.1.2.1, ()), ())))))
                        else
                          some (.inl (((IntKind.i64.wrap (y2.1.1 + (1 : Int))), ()), ((y2.2.1.1, y2.2.1.2.1, ()), ())))
                      else
                        none
                    else
                      none
                  else
                    some (.inr (.inr ((), ((y2.2.1.1, y2.2.1.2.1, ()), ()))))) (((0 : Int), ()), ((rd (α := XT0) zXT0 x0 y1.1.2.2.1), ()))) fun r => match r with
              | .inl z => some z
              | .inr z3 =>
                some (.inr (((-1 : Int), ()), (y1.1.1, (z3.2.1.1, z3.2.1.2.1, ()), ())))) fun r => match r with
          | .inl z => some z
          | .inr y4 =>
            Option.bind (α := ((((List Int) × (List Int) × Int × Unit) × (Unit)) ⊕ (((List Int) × Int × Unit) ⊕ (((List Int) × (List Int) × Unit) × (Unit)))) ⊕ (((List Int) × Int × Unit) × (Unit))) (
                bif (decide (y4.1.1 < (0 : Int))) then
                  bif decide (List.length y4.2.1 + List.length ([(0 : Int)]) ≤ 4294967296) then
                    some (.inr (((y4.2.1 ++ [(0 : Int)]), ((List.length y4.2.1 : Nat) : Int), ()), ()))
                  else
                    none
                else
                  some (.inr ((y4.2.1, y4.1.1, ()), ()))) fun r => match r with
            | .inl z => some z
            | .inr y5 =>
              bif (inR y5.1.2.1 ((List.length y5.1.1 : Nat) : Int)) then
                bif (inR y5.1.2.1 ((List.length y5.1.1 : Nat) : Int)) then
                  bif decide (List.length y1.1.2.1 + List.length ([y5.1.2.1]) ≤ 4294967296) then
                    some (.inl (((List.set y5.1.1 (Int.toNat y5.1.2.1) y4.2.2.1.2.1), (y1.1.2.1 ++ [y5.1.2.1]), (IntKind.i64.wrap (y1.1.2.2.1 + (1 : Int))), ()), ()))
                  else
                    none
                else
                  none
              else
                none
        else
          none
      else
        some (.inr (.inr ((y1.1.1, y1.1.2.1, ()), ())))) (([], [], (0 : Int), ()), ())) fun r => match r with
  | .inl z => some z
  | .inr z6 =>
    some (z6.1.2.1, ((List.length z6.1.1 : Nat) : Int), ())
def H153 : Hints where
  loop := fun n => match n with
    | 0 => some ({ slots := [(4, (.row (.int .i64))), (5, (.row (.int .i64))), (11, (.int .i64))], objs := [], gone := [] }, 0, { slots := [(4, (.row (.int .i64))), (5, (.row (.int .i64)))], objs := [], gone := [] })
    | _ => none
  region := fun n => match n with
    | 5 => some { slots := [(8, (.int .i64))], objs := [(0, (.row (.int .i64))), (2, (.box (.data XY0) (.agg (.cons (.int .i64) (.cons (.int .i64) .nil)))))], gone := [] }
    | _ => none
  cond := fun n => match n with
    | 19 => some { slots := [(4, (.row (.int .i64))), (8, (.int .i64))], objs := [], gone := [0] }
    | _ => none
  block := fun n => match n with
    | _ => none
def Hi153_191 : Hints where
  loop := fun n => match n with
    | _ => none
  region := fun n => match n with
    | _ => none
  cond := fun n => match n with
    | _ => none
  block := fun n => match n with
    | _ => none
def tsi153_191 : List (Nat × TD) := [(3, (.data (.int .i64))), (30, (.data XY0))]
noncomputable def bodyi153_191 : Code := match Tryz.f191.body with | some c => c | none => .skip
noncomputable def fsi153_191  (k : Nat) : List (Nat × FSem) := []
theorem tyi153_191 : chkTypes Tryz.prog tsi153_191 = true := by kernel_rfl
def Hi153_190 : Hints where
  loop := fun n => match n with
    | 0 => some ({ slots := [(8, (.int .i64))], objs := [(1, (.box (.data XY0) (.agg (.cons (.int .i64) (.cons (.int .i64) .nil)))))], gone := [] }, 0, { slots := [], objs := [(1, (.box (.data XY0) (.agg (.cons (.int .i64) (.cons (.int .i64) .nil)))))], gone := [] })
    | _ => none
  region := fun n => match n with
    | _ => none
  cond := fun n => match n with
    | _ => none
  block := fun n => match n with
    | _ => none
def tsi153_190 : List (Nat × TD) := [(3, (.data (.int .i64))), (31, (.data (.slice (.int .i64))))]
noncomputable def bodyi153_190 : Code := match Tryz.f190.body with | some c => c | none => .skip
noncomputable def fsi153_190  (k : Nat) : List (Nat × FSem) := [(191, .ev (mkEnv tsi153_191 (fsi153_191  k)) Hi153_191 k bodyi153_191 8 [.tmp 3])]
theorem tyi153_190 : chkTypes Tryz.prog tsi153_190 = true := by kernel_rfl
abbrev A153 : Tys := (.cons (.slice XY0) .nil)
def ts153 : List (Nat × TD) := [(3, (.data (.int .i64))), (30, (.data XY0)), (31, (.data (.slice (.int .i64)))), (155, (.data (.slice XY0)))]
noncomputable def fs153  (k : Nat) : List (Nat × FSem) := [(190, .ev (mkEnv tsi153_190 (fsi153_190  k)) Hi153_190 k bodyi153_190 19 [.tmp 4])]
noncomputable def body153 : Code := match Tryz.f153.body with | some c => c | none => .skip
theorem ty153 : chkTypes Tryz.prog ts153 = true := by kernel_rfl
theorem ev153  (k : Nat) (x : ((.cons (.slice XY0) .nil) : Tys).den) : evFun (mkEnv ts153 (fs153  k)) H153 k body153 38 [.tmp 2, .tmp 3] (explodes (.cons (.slice XY0) .nil) x) [] (dec (.cons (.slice (.int .i64)) (.cons (.int .i64) .nil))) = f153  k x.1 := by kernel_rfl
/-! ### jitney/fleet.Drivers -/
def f104 (g152 : (List XT0) → Option (Int × Unit)) (g153 : (List XT0) → Option ((List Int) × Int × Unit)) (k : Nat) (x0 : List XT0) : Option XT0 :=
  Option.bind (g152 x0) fun v1 =>
  bif (v1.1 != (0 : Int)) then
    some ((0 : Int), v1.1, ())
  else
    Option.bind (g153 x0) fun v2 =>
    some (v2.2.1, (0 : Int), ())
def H104 : Hints where
  loop := fun n => match n with
    | _ => none
  region := fun n => match n with
    | _ => none
  cond := fun n => match n with
    | _ => none
  block := fun n => match n with
    | _ => none
abbrev A104 : Tys := (.cons (.slice XY0) .nil)
def ts104 : List (Nat × TD) := [(3, (.data (.int .i64))), (32, (.data (.int .i64))), (155, (.data (.slice XY0)))]
noncomputable def fs104 (g152 : (List XT0) → Option (Int × Unit)) (g153 : (List XT0) → Option ((List Int) × Int × Unit)) : List (Nat × FSem) := [(152, .pfn (.cons (.slice XY0) .nil) (.cons (.int .i64) .nil) fun x => (g152 x.1)), (153, .pfn (.cons (.slice XY0) .nil) (.cons (.slice (.int .i64)) (.cons (.int .i64) .nil)) fun x => (g153 x.1))]
noncomputable def body104 : Code := match Tryz.f104.body with | some c => c | none => .skip
theorem ty104 : chkTypes Tryz.prog ts104 = true := by kernel_rfl
theorem ev104 (g152 : (List XT0) → Option (Int × Unit)) (g153 : (List XT0) → Option ((List Int) × Int × Unit)) (k : Nat) (x : ((.cons (.slice XY0) .nil) : Tys).den) : evFun (mkEnv ts104 (fs104 g152 g153)) H104 k body104 18 [.tmp 2, .tmp 3] (explodes (.cons (.slice XY0) .nil) x) [] (dec (.cons (.int .i64) (.cons (.int .i64) .nil))) = f104 g152 g153 k x.1 := by kernel_rfl
/-! ### jitney/jitlaw2.driven -/
def f46 (g104 : (List XT0) → Option XT0) (k : Nat)  : Option (Bool × Unit) :=
  Option.bind (g104 ([((0 : Int), (5 : Int), ()), ((3 : Int), (9 : Int), ())])) fun v1 =>
  bif (v1.2.1 == (0 : Int)) then
    some ((v1.1 == (2 : Int)), ())
  else
    some (false, ())
def H46 : Hints where
  loop := fun n => match n with
    | _ => none
  region := fun n => match n with
    | _ => none
  cond := fun n => match n with
    | _ => none
  block := fun n => match n with
    | _ => none
abbrev A46 : Tys := .nil
def ts46 : List (Nat × TD) := [(3, (.data (.int .i64))), (4, (.data .bool)), (30, (.data XY0)), (32, (.data (.int .i64))), (155, (.data (.slice XY0)))]
noncomputable def fs46 (g104 : (List XT0) → Option XT0) : List (Nat × FSem) := [(104, .pfn (.cons (.slice XY0) .nil) (.cons (.int .i64) (.cons (.int .i64) .nil)) fun x => (g104 x.1))]
noncomputable def body46 : Code := match Tryz.f46.body with | some c => c | none => .skip
theorem ty46 : chkTypes Tryz.prog ts46 = true := by kernel_rfl
theorem ev46 (g104 : (List XT0) → Option XT0) (k : Nat) (x : (.nil : Tys).den) : evFun (mkEnv ts46 (fs46 g104)) H46 k body46 16 [.tmp 0] (explodes .nil x) [] (dec (.cons .bool .nil)) = f46 g104 k  := by kernel_rfl
/-! ### strconv.Itoa -/
def f107 (g155 : Int → Option (ByteArray × Unit)) (k : Nat) (x0 : Int) : Option (ByteArray × Unit) :=
  Option.bind (g155 x0) fun v1 =>
  some (v1.1, ())
def H107 : Hints where
  loop := fun n => match n with
    | _ => none
  region := fun n => match n with
    | _ => none
  cond := fun n => match n with
    | _ => none
  block := fun n => match n with
    | _ => none
abbrev A107 : Tys := (.cons (.int .i64) .nil)
def ts107 : List (Nat × TD) := [(3, (.data (.int .i64))), (9, (.data .str))]
noncomputable def fs107 (g155 : Int → Option (ByteArray × Unit)) : List (Nat × FSem) := [(155, .pfn (.cons (.int .i64) .nil) (.cons .str .nil) fun x => (g155 x.1))]
noncomputable def body107 : Code := match Tryz.f107.body with | some c => c | none => .skip
theorem ty107 : chkTypes Tryz.prog ts107 = true := by kernel_rfl
theorem ev107 (g155 : Int → Option (ByteArray × Unit)) (k : Nat) (x : ((.cons (.int .i64) .nil) : Tys).den) : evFun (mkEnv ts107 (fs107 g155)) H107 k body107 5 [.tmp 2] (explodes (.cons (.int .i64) .nil) x) [] (dec (.cons .str .nil)) = f107 g155 k x.1 := by kernel_rfl
/-! ### jitney/jitref2.numbers -/
def f105 (g107 : Int → Option (ByteArray × Unit)) (g120 : (List ByteArray) → ByteArray → Option (ByteArray × Unit)) (k : Nat) (x0 : List Int) : Option (ByteArray × Unit) :=
  Option.bind (α := (ByteArray × Unit) ⊕ (((List ByteArray) × Unit) × (Unit))) (iter (σ := ((List ByteArray) × Int × Unit) × (Unit)) (τ := (ByteArray × Unit) ⊕ (((List ByteArray) × Unit) × (Unit))) k (fun y1 =>
      bif (decide (y1.1.2.1 < ((List.length x0 : Nat) : Int))) then
        bif (inR y1.1.2.1 ((List.length x0 : Nat) : Int)) then
          Option.bind (g107 (rd (α := Int) (0 : Int) x0 y1.1.2.1)) fun v2 =>
          bif decide (List.length y1.1.1 + List.length ([v2.1]) ≤ 4294967296) then
            some (.inl (((y1.1.1 ++ [v2.1]), (IntKind.i64.wrap (y1.1.2.1 + (1 : Int))), ()), ()))
          else
            none
        else
          none
      else
        some (.inr (.inr ((y1.1.1, ()), ())))) (([], (0 : Int), ()), ())) fun r => match r with
  | .inl z => some z
  | .inr z3 =>
    Option.bind (g120 z3.1.1 (ByteArray.mk #[32])) fun v4 =>
    some (v4.1, ())
def H105 : Hints where
  loop := fun n => match n with
    | 0 => some ({ slots := [(3, (.row .str)), (8, (.int .i64))], objs := [], gone := [] }, 0, { slots := [(3, (.row .str))], objs := [], gone := [] })
    | _ => none
  region := fun n => match n with
    | _ => none
  cond := fun n => match n with
    | _ => none
  block := fun n => match n with
    | _ => none
abbrev A105 : Tys := (.cons (.slice (.int .i64)) .nil)
def ts105 : List (Nat × TD) := [(3, (.data (.int .i64))), (9, (.data .str)), (31, (.data (.slice (.int .i64)))), (60, (.data (.slice .str)))]
noncomputable def fs105 (g107 : Int → Option (ByteArray × Unit)) (g120 : (List ByteArray) → ByteArray → Option (ByteArray × Unit)) : List (Nat × FSem) := [(107, .pfn (.cons (.int .i64) .nil) (.cons .str .nil) fun x => (g107 x.1)), (120, .pfn (.cons (.slice .str) (.cons .str .nil)) (.cons .str .nil) fun x => (g120 x.1 x.2.1))]
noncomputable def body105 : Code := match Tryz.f105.body with | some c => c | none => .skip
theorem ty105 : chkTypes Tryz.prog ts105 = true := by kernel_rfl
theorem ev105 (g107 : Int → Option (ByteArray × Unit)) (g120 : (List ByteArray) → ByteArray → Option (ByteArray × Unit)) (k : Nat) (x : ((.cons (.slice (.int .i64)) .nil) : Tys).den) : evFun (mkEnv ts105 (fs105 g107 g120)) H105 k body105 20 [.tmp 2] (explodes (.cons (.slice (.int .i64)) .nil) x) [] (dec (.cons .str .nil)) = f105 g107 g120 k x.1 := by kernel_rfl
/-! ### jitney/jitref2.RunLines -/
def f47 (g105 : (List Int) → Option (ByteArray × Unit)) (k : Nat) (x0 : List XT7) : Option (ByteArray × Unit) :=
  Option.bind (α := (ByteArray × Unit) ⊕ ((ByteArray × Unit) × (Unit))) (iter (σ := XT2 × (Unit)) (τ := (ByteArray × Unit) ⊕ ((ByteArray × Unit) × (Unit))) k (fun y1 =>
      bif (decide (y1.1.2.1 < ((List.length x0 : Nat) : Int))) then
        bif (inR y1.1.2.1 ((List.length x0 : Nat) : Int)) then
          bif decide (ByteArray.size ((rd (α := XT7) zXT7 x0 y1.1.2.1).1) + ByteArray.size (ByteArray.mk #[32]) < 4611686018427387904) then
            Option.bind (g105 ([(rd (α := XT7) zXT7 x0 y1.1.2.1).2.1.1, (rd (α := XT7) zXT7 x0 y1.1.2.1).2.1.2.1, (rd (α := XT7) zXT7 x0 y1.1.2.1).2.2.1, (rd (α := XT7) zXT7 x0 y1.1.2.1).2.2.2.1])) fun v2 =>
            bif decide (ByteArray.size ((rd (α := XT7) zXT7 x0 y1.1.2.1).1 ++ (ByteArray.mk #[32])) + ByteArray.size v2.1 < 4611686018427387904) then
              bif decide (ByteArray.size (((rd (α := XT7) zXT7 x0 y1.1.2.1).1 ++ (ByteArray.mk #[32])) ++ v2.1) + ByteArray.size (ByteArray.mk #[10]) < 4611686018427387904) then
                bif decide (ByteArray.size y1.1.1 + ByteArray.size ((((rd (α := XT7) zXT7 x0 y1.1.2.1).1 ++ (ByteArray.mk #[32])) ++ v2.1) ++ (ByteArray.mk #[10])) < 4611686018427387904) then
                  some (.inl (((y1.1.1 ++ ((((rd (α := XT7) zXT7 x0 y1.1.2.1).1 ++ (ByteArray.mk #[32])) ++ v2.1) ++ (ByteArray.mk #[10]))), (IntKind.i64.wrap (y1.1.2.1 + (1 : Int))), ()), ()))
                else
                  none
              else
                none
            else
              none
          else
            none
        else
          none
      else
        some (.inr (.inr ((y1.1.1, ()), ())))) (((ByteArray.mk #[]), (0 : Int), ()), ())) fun r => match r with
  | .inl z => some z
  | .inr z3 =>
    some (z3.1.1, ())
def H47 : Hints where
  loop := fun n => match n with
    | 0 => some ({ slots := [(3, .str), (8, (.int .i64))], objs := [], gone := [] }, 0, { slots := [(3, .str)], objs := [], gone := [] })
    | _ => none
  region := fun n => match n with
    | _ => none
  cond := fun n => match n with
    | _ => none
  block := fun n => match n with
    | _ => none
abbrev A47 : Tys := (.cons (.slice XY1) .nil)
def ts47 : List (Nat × TD) := [(3, (.data (.int .i64))), (9, (.data .str)), (30, (.data XY0)), (31, (.data (.slice (.int .i64)))), (57, (.data (.slice XY1))), (68, (.data XY1))]
noncomputable def fs47 (g105 : (List Int) → Option (ByteArray × Unit)) : List (Nat × FSem) := [(105, .pfn (.cons (.slice (.int .i64)) .nil) (.cons .str .nil) fun x => (g105 x.1))]
noncomputable def body47 : Code := match Tryz.f47.body with | some c => c | none => .skip
theorem ty47 : chkTypes Tryz.prog ts47 = true := by kernel_rfl
theorem ev47 (g105 : (List Int) → Option (ByteArray × Unit)) (k : Nat) (x : ((.cons (.slice XY1) .nil) : Tys).den) : evFun (mkEnv ts47 (fs47 g105)) H47 k body47 33 [.tmp 2] (explodes (.cons (.slice XY1) .nil) x) [] (dec (.cons .str .nil)) = f47 g105 k x.1 := by kernel_rfl
/-! ### jitney/jitlaw2.written -/
def f48  (k : Nat) (x0 : ByteArray) (x1 : Int) : Option XT2 :=
  bif (x1 != (0 : Int)) then
    some ((ByteArray.mk #[]), x1, ())
  else
    bif (decide (((ByteArray.size x0 : Nat) : Int) > (200000 : Int))) then
      some ((ByteArray.mk #[]), (2 : Int), ())
    else
      some (x0, (0 : Int), ())
def H48 : Hints where
  loop := fun n => match n with
    | _ => none
  region := fun n => match n with
    | _ => none
  cond := fun n => match n with
    | _ => none
  block := fun n => match n with
    | _ => none
abbrev A48 : Tys := (.cons .str (.cons (.int .i64) .nil))
def ts48 : List (Nat × TD) := [(3, (.data (.int .i64))), (9, (.data .str)), (32, (.data (.int .i64)))]
noncomputable def fs48  : List (Nat × FSem) := []
noncomputable def body48 : Code := match Tryz.f48.body with | some c => c | none => .skip
theorem ty48 : chkTypes Tryz.prog ts48 = true := by kernel_rfl
theorem ev48  (k : Nat) (x : ((.cons .str (.cons (.int .i64) .nil)) : Tys).den) : evFun (mkEnv ts48 (fs48 )) H48 k body48 15 [.tmp 4, .tmp 5] (explodes (.cons .str (.cons (.int .i64) .nil)) x) [] (dec (.cons .str (.cons (.int .i64) .nil))) = f48  k x.1 x.2.1 := by kernel_rfl
/-! ### jitney/base.Out -/
def f74  (k : Nat) (x0 : Int) (x1 : Int) (x2 : Int) : Option (Bool × Unit) :=
  bif (decide (x0 < x1)) then
    some (true, ())
  else
    some ((decide (x0 > x2)), ())
def H74 : Hints where
  loop := fun n => match n with
    | _ => none
  region := fun n => match n with
    | _ => none
  cond := fun n => match n with
    | _ => none
  block := fun n => match n with
    | _ => none
abbrev A74 : Tys := (.cons (.int .i64) (.cons (.int .i64) (.cons (.int .i64) .nil)))
def ts74 : List (Nat × TD) := [(3, (.data (.int .i64))), (4, (.data .bool))]
noncomputable def fs74  : List (Nat × FSem) := []
noncomputable def body74 : Code := match Tryz.f74.body with | some c => c | none => .skip
theorem ty74 : chkTypes Tryz.prog ts74 = true := by kernel_rfl
theorem ev74  (k : Nat) (x : ((.cons (.int .i64) (.cons (.int .i64) (.cons (.int .i64) .nil))) : Tys).den) : evFun (mkEnv ts74 (fs74 )) H74 k body74 15 [.tmp 6] (explodes (.cons (.int .i64) (.cons (.int .i64) (.cons (.int .i64) .nil))) x) [] (dec (.cons .bool .nil)) = f74  k x.1 x.2.1 x.2.2.1 := by kernel_rfl
/-! ### jitney/base.Key -/
def f75  (k : Nat) (x0 : ByteArray) : Option (Bool × Unit) :=
  bif (sEq x0 (ByteArray.mk #[])) then
    some (false, ())
  else
    bif (decide (((ByteArray.size x0 : Nat) : Int) > (40 : Int))) then
      some (false, ())
    else
      bif (inR (0 : Int) ((ByteArray.size x0 : Nat) : Int)) then
        bif (decide ((bt x0 (0 : Int)) < (97 : Int))) then
          some (false, ())
        else
          bif (inR (0 : Int) ((ByteArray.size x0 : Nat) : Int)) then
            bif (decide ((bt x0 (0 : Int)) > (122 : Int))) then
              some (false, ())
            else
              Option.bind (α := (Bool × Unit) ⊕ ((Unit) × (Unit))) (iter (σ := (Int × Unit) × (Unit)) (τ := (Bool × Unit) ⊕ ((Unit) × (Unit))) k (fun y1 =>
                  bif (decide (y1.1.1 < ((ByteArray.size x0 : Nat) : Int))) then
                    bif (inR y1.1.1 ((ByteArray.size x0 : Nat) : Int)) then
                      bif (decide ((bt x0 y1.1.1) ≥ (97 : Int))) then
                        bif (decide ((bt x0 y1.1.1) ≤ (122 : Int))) then
                          some (.inl (((IntKind.i64.wrap (y1.1.1 + (1 : Int))), ()), ()))
                        else
                          bif (decide ((bt x0 y1.1.1) ≥ (48 : Int))) then
                            bif (decide ((bt x0 y1.1.1) ≤ (57 : Int))) then
                              some (.inl (((IntKind.i64.wrap (y1.1.1 + (1 : Int))), ()), ()))
                            else
                              bif ((bt x0 y1.1.1) == (45 : Int)) then
                                some (.inl (((IntKind.i64.wrap (y1.1.1 + (1 : Int))), ()), ()))
                              else
                                bif (!((bt x0 y1.1.1) == (95 : Int))) then
                                  some (.inr (.inl (false, ())))
                                else
                                  some (.inl (((IntKind.i64.wrap (y1.1.1 + (1 : Int))), ()), ()))
                          else
                            bif ((bt x0 y1.1.1) == (45 : Int)) then
                              some (.inl (((IntKind.i64.wrap (y1.1.1 + (1 : Int))), ()), ()))
                            else
                              bif (!((bt x0 y1.1.1) == (95 : Int))) then
                                some (.inr (.inl (false, ())))
                              else
                                some (.inl (((IntKind.i64.wrap (y1.1.1 + (1 : Int))), ()), ()))
                      else
                        bif (decide ((bt x0 y1.1.1) ≥ (48 : Int))) then
                          bif (decide ((bt x0 y1.1.1) ≤ (57 : Int))) then
                            some (.inl (((IntKind.i64.wrap (y1.1.1 + (1 : Int))), ()), ()))
                          else
                            bif ((bt x0 y1.1.1) == (45 : Int)) then
                              some (.inl (((IntKind.i64.wrap (y1.1.1 + (1 : Int))), ()), ()))
                            else
                              bif (!((bt x0 y1.1.1) == (95 : Int))) then
                                some (.inr (.inl (false, ())))
                              else
                                some (.inl (((IntKind.i64.wrap (y1.1.1 + (1 : Int))), ()), ()))
                        else
                          bif ((bt x0 y1.1.1) == (45 : Int)) then
                            some (.inl (((IntKind.i64.wrap (y1.1.1 + (1 : Int))), ()), ()))
                          else
                            bif (!((bt x0 y1.1.1) == (95 : Int))) then
                              some (.inr (.inl (false, ())))
                            else
                              some (.inl (((IntKind.i64.wrap (y1.1.1 + (1 : Int))), ()), ()))
                    else
                      none
                  else
                    some (.inr (.inr ((), ())))) (((0 : Int), ()), ())) fun r => match r with
              | .inl z => some z
              | .inr z2 =>
                some (true, ())
          else
            none
      else
        none
def H75 : Hints where
  loop := fun n => match n with
    | 0 => some ({ slots := [(24, (.int .i64))], objs := [], gone := [] }, 0, { slots := [], objs := [], gone := [] })
    | _ => none
  region := fun n => match n with
    | _ => none
  cond := fun n => match n with
    | _ => none
  block := fun n => match n with
    | _ => none
abbrev A75 : Tys := (.cons .str .nil)
def ts75 : List (Nat × TD) := [(3, (.data (.int .i64))), (4, (.data .bool)), (5, (.data (.int .u8))), (9, (.data .str))]
noncomputable def fs75  : List (Nat × FSem) := []
noncomputable def body75 : Code := match Tryz.f75.body with | some c => c | none => .skip
theorem ty75 : chkTypes Tryz.prog ts75 = true := by kernel_rfl
theorem ev75  (k : Nat) (x : ((.cons .str .nil) : Tys).den) : evFun (mkEnv ts75 (fs75 )) H75 k body75 54 [.tmp 2] (explodes (.cons .str .nil) x) [] (dec (.cons .bool .nil)) = f75  k x.1 := by kernel_rfl
/-! ### jitney/fleet.CheckTrips -/
def f85 (g74 : Int → Int → Int → (Bool)) (g75 : ByteArray → (Bool)) (k : Nat) (x0 : List XT7) : Option (Int × Unit) :=
  bif (decide (((List.length x0 : Nat) : Int) > (1000 : Int))) then
    some ((2 : Int), ())
  else
    Option.bind (α := (Int × Unit) ⊕ ((Unit) × (Unit))) (iter (σ := (Int × Unit) × (Unit)) (τ := (Int × Unit) ⊕ ((Unit) × (Unit))) k (fun y1 =>
        bif (decide (y1.1.1 < ((List.length x0 : Nat) : Int))) then
          bif (inR y1.1.1 ((List.length x0 : Nat) : Int)) then
            bif (!(g75 ((rd (α := XT7) zXT7 x0 y1.1.1).1))) then
              some (.inr (.inl ((5 : Int), ())))
            else
              bif (decide ((rd (α := XT7) zXT7 x0 y1.1.1).2.1.1 < (0 : Int))) then
                some (.inr (.inl ((1 : Int), ())))
              else
                bif (decide ((rd (α := XT7) zXT7 x0 y1.1.1).2.1.1 ≥ (rd (α := XT7) zXT7 x0 y1.1.1).2.1.2.1)) then
                  some (.inr (.inl ((1 : Int), ())))
                else
                  bif (decide ((rd (α := XT7) zXT7 x0 y1.1.1).2.1.2.1 > (345686400000 : Int))) then
                    some (.inr (.inl ((1 : Int), ())))
                  else
                    bif (g74 ((rd (α := XT7) zXT7 x0 y1.1.1).2.2.1) (0 : Int) (1000000000 : Int)) then
                      some (.inr (.inl ((1 : Int), ())))
                    else
                      bif (g74 ((rd (α := XT7) zXT7 x0 y1.1.1).2.2.2.1) (0 : Int) (1000000 : Int)) then
                        some (.inr (.inl ((1 : Int), ())))
                      else
                        bif (y1.1.1 == (0 : Int)) then
                          some (.inl (((IntKind.i64.wrap (y1.1.1 + (1 : Int))), ()), ()))
                        else
                          bif (inR (IntKind.i64.wrap (y1.1.1 - (1 : Int))) ((List.length x0 : Nat) : Int)) then
                            bif (sLt ((rd (α := XT7) zXT7 x0 y1.1.1).1) ((rd (α := XT7) zXT7 x0 (IntKind.i64.wrap (y1.1.1 - (1 : Int)))).1)) then
                              some (.inr (.inl ((7 : Int), ())))
                            else
                              bif (sEq ((rd (α := XT7) zXT7 x0 y1.1.1).1) ((rd (α := XT7) zXT7 x0 (IntKind.i64.wrap (y1.1.1 - (1 : Int)))).1)) then
                                bif (decide ((rd (α := XT7) zXT7 x0 y1.1.1).2.1.1 ≤ (rd (α := XT7) zXT7 x0 (IntKind.i64.wrap (y1.1.1 - (1 : Int)))).2.1.1)) then
                                  some (.inr (.inl ((7 : Int), ())))
                                else
                                  bif (decide ((rd (α := XT7) zXT7 x0 y1.1.1).2.1.1 < (rd (α := XT7) zXT7 x0 (IntKind.i64.wrap (y1.1.1 - (1 : Int)))).2.1.2.1)) then
                                    some (.inr (.inl ((7 : Int), ())))
                                  else
                                    some (.inl (((IntKind.i64.wrap (y1.1.1 + (1 : Int))), ()), ()))
                              else
                                some (.inl (((IntKind.i64.wrap (y1.1.1 + (1 : Int))), ()), ()))
                          else
                            none
          else
            none
        else
          some (.inr (.inr ((), ())))) (((0 : Int), ()), ())) fun r => match r with
    | .inl z => some z
    | .inr z2 =>
      some ((0 : Int), ())
def H85 : Hints where
  loop := fun n => match n with
    | 0 => some ({ slots := [(11, (.int .i64))], objs := [], gone := [] }, 0, { slots := [], objs := [], gone := [] })
    | _ => none
  region := fun n => match n with
    | _ => none
  cond := fun n => match n with
    | _ => none
  block := fun n => match n with
    | _ => none
abbrev A85 : Tys := (.cons (.slice XY1) .nil)
def ts85 : List (Nat × TD) := [(3, (.data (.int .i64))), (9, (.data .str)), (30, (.data XY0)), (32, (.data (.int .i64))), (57, (.data (.slice XY1))), (68, (.data XY1))]
noncomputable def fs85 (g74 : Int → Int → Int → (Bool)) (g75 : ByteArray → (Bool)) : List (Nat × FSem) := [(74, .fn (.cons (.int .i64) (.cons (.int .i64) (.cons (.int .i64) .nil))) (.cons .bool .nil) fun x => ((g74 x.1 x.2.1 x.2.2.1), ())), (75, .fn (.cons .str .nil) (.cons .bool .nil) fun x => ((g75 x.1), ()))]
noncomputable def body85 : Code := match Tryz.f85.body with | some c => c | none => .skip
theorem ty85 : chkTypes Tryz.prog ts85 = true := by kernel_rfl
theorem ev85 (g74 : Int → Int → Int → (Bool)) (g75 : ByteArray → (Bool)) (k : Nat) (x : ((.cons (.slice XY1) .nil) : Tys).den) : evFun (mkEnv ts85 (fs85 g74 g75)) H85 k body85 89 [.tmp 2] (explodes (.cons (.slice XY1) .nil) x) [] (dec (.cons (.int .i64) .nil)) = f85 g74 g75 k x.1 := by kernel_rfl
/-! ### jitney/fleet.Text -/
def f49 (g85 : (List XT7) → (Int)) (g107 : Int → Option (ByteArray × Unit)) (k : Nat) (x0 : List XT7) : Option XT2 :=
  bif ((g85 x0) != (0 : Int)) then
    some ((ByteArray.mk #[]), (g85 x0), ())
  else
    Option.bind (α := XT2 ⊕ ((Unit) × XT5)) (iter (σ := (Int × Unit) × XT5) (τ := XT2 ⊕ ((Unit) × XT5)) k (fun y1 =>
        bif (decide (y1.1.1 < ((List.length x0 : Nat) : Int))) then
          bif (inR y1.1.1 ((List.length x0 : Nat) : Int)) then
            bif decide (ByteArray.size y1.2.1.1 + ByteArray.size ((rd (α := XT7) zXT7 x0 y1.1.1).1) ≤ 4294967296) then
              Option.bind (α := (((Int × Unit) × XT5) ⊕ (XT2 ⊕ ((Unit) × XT5))) ⊕ ((Unit) × XT5)) (iter (σ := (Int × Unit) × XT5) (τ := (((Int × Unit) × XT5) ⊕ (XT2 ⊕ ((Unit) × XT5))) ⊕ ((Unit) × XT5)) k (fun y2 =>
                  bif (decide (y2.1.1 < ((List.length ([(rd (α := XT7) zXT7 x0 y1.1.1).2.1.1, (rd (α := XT7) zXT7 x0 y1.1.1).2.1.2.1, (rd (α := XT7) zXT7 x0 y1.1.1).2.2.1, (rd (α := XT7) zXT7 x0 y1.1.1).2.2.2.1]) : Nat) : Int))) then
                    bif (inR y2.1.1 ((List.length ([(rd (α := XT7) zXT7 x0 y1.1.1).2.1.1, (rd (α := XT7) zXT7 x0 y1.1.1).2.1.2.1, (rd (α := XT7) zXT7 x0 y1.1.1).2.2.1, (rd (α := XT7) zXT7 x0 y1.1.1).2.2.2.1]) : Nat) : Int)) then
                      bif (inR y2.1.1 ((List.length ([(rd (α := XT7) zXT7 x0 y1.1.1).2.1.1, (rd (α := XT7) zXT7 x0 y1.1.1).2.1.2.1, (rd (α := XT7) zXT7 x0 y1.1.1).2.2.1, (rd (α := XT7) zXT7 x0 y1.1.1).2.2.2.1]) : Nat) : Int)) then
                        Option.bind (g107 (rd (α := Int) (0 : Int) ([(rd (α := XT7) zXT7 x0 y1.1.1).2.1.1, (rd (α := XT7) zXT7 x0 y1.1.1).2.1.2.1, (rd (α := XT7) zXT7 x0 y1.1.1).2.2.1, (rd (α := XT7) zXT7 x0 y1.1.1).2.2.2.1]) y2.1.1)) fun v3 =>
                        bif decide (ByteArray.size (ByteArray.mk #[32]) + ByteArray.size v3.1 < 4611686018427387904) then
                          bif decide (ByteArray.size y2.2.1.1 + ByteArray.size ((ByteArray.mk #[32]) ++ v3.1) ≤ 4294967296) then
                            some (.inl (((IntKind.i64.wrap (y2.1.1 + (1 : Int))), ()), (((y2.2.1.1 ++ ((ByteArray.mk #[32]) ++ v3.1)), ()), ())))
                          else
                            none
                        else
                          none
                      else
                        none
                    else
                      none
                  else
                    some (.inr (.inr ((), ((y2.2.1.1, ()), ()))))) (((0 : Int), ()), (((y1.2.1.1 ++ (rd (α := XT7) zXT7 x0 y1.1.1).1), ()), ()))) fun r => match r with
              | .inl z => some z
              | .inr z4 =>
                bif decide (ByteArray.size z4.2.1.1 + ByteArray.size (ByteArray.mk #[10]) ≤ 4294967296) then
                  some (.inl (((IntKind.i64.wrap (y1.1.1 + (1 : Int))), ()), (((z4.2.1.1 ++ (ByteArray.mk #[10])), ()), ())))
                else
                  none
            else
              none
          else
            none
        else
          some (.inr (.inr ((), ((y1.2.1.1, ()), ()))))) (((0 : Int), ()), zXT5)) fun r => match r with
    | .inl z => some z
    | .inr z5 =>
      bif (decide (((ByteArray.size z5.2.1.1 : Nat) : Int) > (200000 : Int))) then
        some ((ByteArray.mk #[]), (2 : Int), ())
      else
        some (z5.2.1.1, (0 : Int), ())
def H49 : Hints where
  loop := fun n => match n with
    | 0 => some ({ slots := [(17, (.int .i64))], objs := [(0, (.box (.agg (.cons (.cell .ptr) (.cons (.data (.slice (.int .u8))) .nil))) (.agg (.skip (.cons .bytes .nil)))))], gone := [] }, 0, { slots := [], objs := [(0, (.box (.agg (.cons (.cell .ptr) (.cons (.data (.slice (.int .u8))) .nil))) (.agg (.skip (.cons .bytes .nil)))))], gone := [] })
    | 2 => some ({ slots := [(36, (.int .i64))], objs := [(0, (.box (.agg (.cons (.cell .ptr) (.cons (.data (.slice (.int .u8))) .nil))) (.agg (.skip (.cons .bytes .nil)))))], gone := [3] }, 2, { slots := [], objs := [(0, (.box (.agg (.cons (.cell .ptr) (.cons (.data (.slice (.int .u8))) .nil))) (.agg (.skip (.cons .bytes .nil)))))], gone := [3] })
    | _ => none
  region := fun n => match n with
    | _ => none
  cond := fun n => match n with
    | _ => none
  block := fun n => match n with
    | _ => none
def Hi49_106 : Hints where
  loop := fun n => match n with
    | _ => none
  region := fun n => match n with
    | _ => none
  cond := fun n => match n with
    | _ => none
  block := fun n => match n with
    | _ => none
def tsi49_106 : List (Nat × TD) := [(9, (.data .str)), (158, (.data (.slice (.int .u8)))), (160, (.agg (.cons (.cell .ptr) (.cons (.data (.slice (.int .u8))) .nil))))]
noncomputable def bodyi49_106 : Code := match Tryz.f106.body with | some c => c | none => .skip
noncomputable def fsi49_106 (g85 : (List XT7) → (Int)) (g107 : Int → Option (ByteArray × Unit)) (k : Nat) : List (Nat × FSem) := [(154, .cck)]
theorem tyi49_106 : chkTypes Tryz.prog tsi49_106 = true := by kernel_rfl
def Hi49_108 : Hints where
  loop := fun n => match n with
    | _ => none
  region := fun n => match n with
    | _ => none
  cond := fun n => match n with
    | _ => none
  block := fun n => match n with
    | _ => none
def tsi49_108 : List (Nat × TD) := [(158, (.data (.slice (.int .u8)))), (160, (.agg (.cons (.cell .ptr) (.cons (.data (.slice (.int .u8))) .nil))))]
noncomputable def bodyi49_108 : Code := match Tryz.f108.body with | some c => c | none => .skip
noncomputable def fsi49_108 (g85 : (List XT7) → (Int)) (g107 : Int → Option (ByteArray × Unit)) (k : Nat) : List (Nat × FSem) := []
theorem tyi49_108 : chkTypes Tryz.prog tsi49_108 = true := by kernel_rfl
abbrev A49 : Tys := (.cons (.slice XY1) .nil)
def ts49 : List (Nat × TD) := [(3, (.data (.int .i64))), (9, (.data .str)), (30, (.data XY0)), (31, (.data (.slice (.int .i64)))), (32, (.data (.int .i64))), (57, (.data (.slice XY1))), (68, (.data XY1)), (160, (.agg (.cons (.cell .ptr) (.cons (.data (.slice (.int .u8))) .nil))))]
noncomputable def fs49 (g85 : (List XT7) → (Int)) (g107 : Int → Option (ByteArray × Unit)) (k : Nat) : List (Nat × FSem) := [(85, .fn (.cons (.slice XY1) .nil) (.cons (.int .i64) .nil) fun x => ((g85 x.1), ())), (106, .ev (mkEnv tsi49_106 (fsi49_106 g85 g107 k)) Hi49_106 k bodyi49_106 19 [.tmp 4, .tmp 5]), (107, .pfn (.cons (.int .i64) .nil) (.cons .str .nil) fun x => (g107 x.1)), (108, .ev (mkEnv tsi49_108 (fsi49_108 g85 g107 k)) Hi49_108 k bodyi49_108 8 [.tmp 2]), (109, .bstr)]
noncomputable def body49 : Code := match Tryz.f49.body with | some c => c | none => .skip
theorem ty49 : chkTypes Tryz.prog ts49 = true := by kernel_rfl
theorem ev49 (g85 : (List XT7) → (Int)) (g107 : Int → Option (ByteArray × Unit)) (k : Nat) (x : ((.cons (.slice XY1) .nil) : Tys).den) : evFun (mkEnv ts49 (fs49 g85 g107 k)) H49 k body49 50 [.tmp 2, .tmp 3] (explodes (.cons (.slice XY1) .nil) x) [] (dec (.cons .str (.cons (.int .i64) .nil))) = f49 g85 g107 k x.1 := by kernel_rfl
/-! ### jitney/base.Words -/
def f112 (g116 : ByteArray → ByteArray → Option ((List ByteArray) × Unit)) (k : Nat) (x0 : ByteArray) (x1 : Int) : Option ((List ByteArray) × Bool × Unit) :=
  Option.bind (g116 x0 (ByteArray.mk #[32])) fun v1 =>
  bif (((List.length v1.1 : Nat) : Int) != x1) then
    some ([], false, ())
  else
    Option.bind (α := ((List ByteArray) × Bool × Unit) ⊕ ((Unit) × (Unit))) (iter (σ := (Int × Unit) × (Unit)) (τ := ((List ByteArray) × Bool × Unit) ⊕ ((Unit) × (Unit))) k (fun y2 =>
        bif (decide (y2.1.1 < ((List.length v1.1 : Nat) : Int))) then
          bif (inR y2.1.1 ((List.length v1.1 : Nat) : Int)) then
            bif (sEq (rd (α := ByteArray) ByteArray.empty v1.1 y2.1.1) (ByteArray.mk #[])) then
              some (.inr (.inl ([], false, ())))
            else
              some (.inl (((IntKind.i64.wrap (y2.1.1 + (1 : Int))), ()), ()))
          else
            none
        else
          some (.inr (.inr ((), ())))) (((0 : Int), ()), ())) fun r => match r with
    | .inl z => some z
    | .inr z3 =>
      some (v1.1, true, ())
def H112 : Hints where
  loop := fun n => match n with
    | 0 => some ({ slots := [(17, (.int .i64))], objs := [], gone := [] }, 0, { slots := [], objs := [], gone := [] })
    | _ => none
  region := fun n => match n with
    | _ => none
  cond := fun n => match n with
    | _ => none
  block := fun n => match n with
    | _ => none
abbrev A112 : Tys := (.cons .str (.cons (.int .i64) .nil))
def ts112 : List (Nat × TD) := [(3, (.data (.int .i64))), (4, (.data .bool)), (9, (.data .str)), (60, (.data (.slice .str)))]
noncomputable def fs112 (g116 : ByteArray → ByteArray → Option ((List ByteArray) × Unit)) : List (Nat × FSem) := [(116, .pfn (.cons .str (.cons .str .nil)) (.cons (.slice .str) .nil) fun x => (g116 x.1 x.2.1))]
noncomputable def body112 : Code := match Tryz.f112.body with | some c => c | none => .skip
theorem ty112 : chkTypes Tryz.prog ts112 = true := by kernel_rfl
theorem ev112 (g116 : ByteArray → ByteArray → Option ((List ByteArray) × Unit)) (k : Nat) (x : ((.cons .str (.cons (.int .i64) .nil)) : Tys).den) : evFun (mkEnv ts112 (fs112 g116)) H112 k body112 25 [.tmp 4, .tmp 5] (explodes (.cons .str (.cons (.int .i64) .nil)) x) [] (dec (.cons (.slice .str) (.cons .bool .nil))) = f112 g116 k x.1 x.2.1 := by kernel_rfl
/-! ### internal/stringslite.HasPrefix -/
def f206  (k : Nat) (x0 : ByteArray) (x1 : ByteArray) : Option (Bool × Unit) :=
  bif (decide (((ByteArray.size x0 : Nat) : Int) ≥ ((ByteArray.size x1 : Nat) : Int))) then
    bif (decide (0 ≤ (0 : Int)) && (decide ((0 : Int) ≤ ((ByteArray.size x1 : Nat) : Int)) && decide (((ByteArray.size x1 : Nat) : Int) ≤ ((ByteArray.size x0 : Nat) : Int)))) then
      some ((sEq (ByteArray.extract x0 (Int.toNat (0 : Int)) (Int.toNat ((ByteArray.size x1 : Nat) : Int))) x1), ())
    else
      none
  else
    some (false, ())
def H206 : Hints where
  loop := fun n => match n with
    | _ => none
  region := fun n => match n with
    | _ => none
  cond := fun n => match n with
    | _ => none
  block := fun n => match n with
    | _ => none
abbrev A206 : Tys := (.cons .str (.cons .str .nil))
def ts206 : List (Nat × TD) := [(3, (.data (.int .i64))), (4, (.data .bool)), (9, (.data .str))]
noncomputable def fs206  : List (Nat × FSem) := []
noncomputable def body206 : Code := match Tryz.f206.body with | some c => c | none => .skip
theorem ty206 : chkTypes Tryz.prog ts206 = true := by kernel_rfl
theorem ev206  (k : Nat) (x : ((.cons .str (.cons .str .nil)) : Tys).den) : evFun (mkEnv ts206 (fs206 )) H206 k body206 18 [.tmp 4] (explodes (.cons .str (.cons .str .nil)) x) [] (dec (.cons .bool .nil)) = f206  k x.1 x.2.1 := by kernel_rfl
/-! ### internal/stringslite.TrimPrefix -/
def f183 (g206 : ByteArray → ByteArray → (Bool)) (k : Nat) (x0 : ByteArray) (x1 : ByteArray) : Option (ByteArray × Unit) :=
  bif (g206 x0 x1) then
    bif (decide (0 ≤ ((ByteArray.size x1 : Nat) : Int)) && (decide (((ByteArray.size x1 : Nat) : Int) ≤ ((ByteArray.size x0 : Nat) : Int)) && decide (((ByteArray.size x0 : Nat) : Int) ≤ ((ByteArray.size x0 : Nat) : Int)))) then
      some ((ByteArray.extract x0 (Int.toNat ((ByteArray.size x1 : Nat) : Int)) (Int.toNat ((ByteArray.size x0 : Nat) : Int))), ())
    else
      none
  else
    some (x0, ())
def H183 : Hints where
  loop := fun n => match n with
    | _ => none
  region := fun n => match n with
    | _ => none
  cond := fun n => match n with
    | _ => none
  block := fun n => match n with
    | _ => none
abbrev A183 : Tys := (.cons .str (.cons .str .nil))
def ts183 : List (Nat × TD) := [(9, (.data .str))]
noncomputable def fs183 (g206 : ByteArray → ByteArray → (Bool)) : List (Nat × FSem) := [(206, .fn (.cons .str (.cons .str .nil)) (.cons .bool .nil) fun x => ((g206 x.1 x.2.1), ()))]
noncomputable def body183 : Code := match Tryz.f183.body with | some c => c | none => .skip
theorem ty183 : chkTypes Tryz.prog ts183 = true := by kernel_rfl
theorem ev183 (g206 : ByteArray → ByteArray → (Bool)) (k : Nat) (x : ((.cons .str (.cons .str .nil)) : Tys).den) : evFun (mkEnv ts183 (fs183 g206)) H183 k body183 13 [.tmp 4] (explodes (.cons .str (.cons .str .nil)) x) [] (dec (.cons .str .nil)) = f183 g206 k x.1 x.2.1 := by kernel_rfl
/-! ### strings.TrimPrefix -/
def f146 (g183 : ByteArray → ByteArray → (ByteArray)) (k : Nat) (x0 : ByteArray) (x1 : ByteArray) : Option (ByteArray × Unit) :=
  some ((g183 x0 x1), ())
def H146 : Hints where
  loop := fun n => match n with
    | _ => none
  region := fun n => match n with
    | _ => none
  cond := fun n => match n with
    | _ => none
  block := fun n => match n with
    | _ => none
abbrev A146 : Tys := (.cons .str (.cons .str .nil))
def ts146 : List (Nat × TD) := [(9, (.data .str))]
noncomputable def fs146 (g183 : ByteArray → ByteArray → (ByteArray)) : List (Nat × FSem) := [(183, .fn (.cons .str (.cons .str .nil)) (.cons .str .nil) fun x => ((g183 x.1 x.2.1), ()))]
noncomputable def body146 : Code := match Tryz.f146.body with | some c => c | none => .skip
theorem ty146 : chkTypes Tryz.prog ts146 = true := by kernel_rfl
theorem ev146 (g183 : ByteArray → ByteArray → (ByteArray)) (k : Nat) (x : ((.cons .str (.cons .str .nil)) : Tys).den) : evFun (mkEnv ts146 (fs146 g183)) H146 k body146 8 [.tmp 4] (explodes (.cons .str (.cons .str .nil)) x) [] (dec (.cons .str .nil)) = f146 g183 k x.1 x.2.1 := by kernel_rfl
/-! ### jitney/base.Number -/
def f139 (g146 : ByteArray → ByteArray → (ByteArray)) (k : Nat) (x0 : ByteArray) (x1 : Int) : Option XT1 :=
  Option.bind (α := XT1 ⊕ ((Bool × Unit) × (Unit))) (
      bif (sEq (g146 x0 (ByteArray.mk #[45])) (ByteArray.mk #[])) then
        some (.inr ((true, ()), ()))
      else
        bif (decide (((ByteArray.size (g146 x0 (ByteArray.mk #[45])) : Nat) : Int) > x1)) then
          some (.inr ((true, ()), ()))
        else
          bif (inR (0 : Int) ((ByteArray.size (g146 x0 (ByteArray.mk #[45])) : Nat) : Int)) then
            bif ((bt (g146 x0 (ByteArray.mk #[45])) (0 : Int)) == (48 : Int)) then
              bif (decide (((ByteArray.size (g146 x0 (ByteArray.mk #[45])) : Nat) : Int) > (1 : Int))) then
                some (.inr ((true, ()), ()))
              else
                some (.inr (((decide (((ByteArray.size x0 : Nat) : Int) > ((ByteArray.size (g146 x0 (ByteArray.mk #[45])) : Nat) : Int))), ()), ()))
            else
              some (.inr ((false, ()), ()))
          else
            none) fun r => match r with
  | .inl z => some z
  | .inr y1 =>
    bif y1.1.1 then
      some zXT1
    else
      Option.bind (α := XT1 ⊕ ((Unit) × (Unit))) (iter (σ := (Int × Unit) × (Unit)) (τ := XT1 ⊕ ((Unit) × (Unit))) k (fun y2 =>
          bif (decide (y2.1.1 < ((ByteArray.size (g146 x0 (ByteArray.mk #[45])) : Nat) : Int))) then
            bif (inR y2.1.1 ((ByteArray.size (g146 x0 (ByteArray.mk #[45])) : Nat) : Int)) then
              bif (decide ((bt (g146 x0 (ByteArray.mk #[45])) y2.1.1) < (48 : Int))) then
                some (.inr (.inl zXT1))
              else
                bif (inR y2.1.1 ((ByteArray.size (g146 x0 (ByteArray.mk #[45])) : Nat) : Int)) then
                  bif (decide ((bt (g146 x0 (ByteArray.mk #[45])) y2.1.1) > (57 : Int))) then
                    some (.inr (.inl zXT1))
                  else
                    some (.inl (((IntKind.i64.wrap (y2.1.1 + (1 : Int))), ()), ()))
                else
                  none
            else
              none
          else
            some (.inr (.inr ((), ())))) (((0 : Int), ()), ())) fun r => match r with
      | .inl z => some z
      | .inr z3 =>
        bif (decide (ByteArray.size x0 ≤ 281474976710656)) then
          bif (aOk x0) then
            some ((aVal x0), true, ())
          else
            none
        else
          none
def H139 : Hints where
  loop := fun n => match n with
    | 0 => some ({ slots := [(39, (.int .i64))], objs := [], gone := [] }, 0, { slots := [], objs := [], gone := [] })
    | _ => none
  region := fun n => match n with
    | 2 => some { slots := [(36, .bool)], objs := [], gone := [] }
    | _ => none
  cond := fun n => match n with
    | _ => none
  block := fun n => match n with
    | _ => none
abbrev A139 : Tys := (.cons .str (.cons (.int .i64) .nil))
def ts139 : List (Nat × TD) := [(3, (.data (.int .i64))), (4, (.data .bool)), (5, (.data (.int .u8))), (9, (.data .str)), (162, (.cell .iface))]
noncomputable def fs139 (g146 : ByteArray → ByteArray → (ByteArray)) : List (Nat × FSem) := [(146, .fn (.cons .str (.cons .str .nil)) (.cons .str .nil) fun x => ((g146 x.1 x.2.1), ())), (147, .atoi)]
noncomputable def body139 : Code := match Tryz.f139.body with | some c => c | none => .skip
theorem ty139 : chkTypes Tryz.prog ts139 = true := by kernel_rfl
theorem ev139 (g146 : ByteArray → ByteArray → (ByteArray)) (k : Nat) (x : ((.cons .str (.cons (.int .i64) .nil)) : Tys).den) : evFun (mkEnv ts139 (fs139 g146)) H139 k body139 61 [.tmp 4, .tmp 5] (explodes (.cons .str (.cons (.int .i64) .nil)) x) [] (dec (.cons (.int .i64) (.cons .bool .nil))) = f139 g146 k x.1 x.2.1 := by kernel_rfl
/-! ### jitney/base.Numbers -/
def f113 (g139 : ByteArray → Int → Option XT1) (k : Nat) (x0 : List ByteArray) (x1 : Int) : Option ((List Int) × Bool × Unit) :=
  Option.bind (α := ((List Int) × Bool × Unit) ⊕ (((List Int) × Unit) × (Unit))) (iter (σ := ((List Int) × Int × Unit) × (Unit)) (τ := ((List Int) × Bool × Unit) ⊕ (((List Int) × Unit) × (Unit))) k (fun y1 =>
      bif (decide (y1.1.2.1 < ((List.length x0 : Nat) : Int))) then
        bif (inR y1.1.2.1 ((List.length x0 : Nat) : Int)) then
          Option.bind (g139 (rd (α := ByteArray) ByteArray.empty x0 y1.1.2.1) x1) fun v2 =>
          bif (!v2.2.1) then
            some (.inr (.inl ([], false, ())))
          else
            bif decide (List.length y1.1.1 + List.length ([v2.1]) ≤ 4294967296) then
              some (.inl (((y1.1.1 ++ [v2.1]), (IntKind.i64.wrap (y1.1.2.1 + (1 : Int))), ()), ()))
            else
              none
        else
          none
      else
        some (.inr (.inr ((y1.1.1, ()), ())))) (([], (0 : Int), ()), ())) fun r => match r with
  | .inl z => some z
  | .inr z3 =>
    some (z3.1.1, true, ())
def H113 : Hints where
  loop := fun n => match n with
    | 0 => some ({ slots := [(6, (.row (.int .i64))), (13, (.int .i64))], objs := [], gone := [] }, 0, { slots := [(6, (.row (.int .i64)))], objs := [], gone := [] })
    | _ => none
  region := fun n => match n with
    | _ => none
  cond := fun n => match n with
    | _ => none
  block := fun n => match n with
    | _ => none
abbrev A113 : Tys := (.cons (.slice .str) (.cons (.int .i64) .nil))
def ts113 : List (Nat × TD) := [(3, (.data (.int .i64))), (4, (.data .bool)), (9, (.data .str)), (31, (.data (.slice (.int .i64)))), (60, (.data (.slice .str)))]
noncomputable def fs113 (g139 : ByteArray → Int → Option XT1) : List (Nat × FSem) := [(139, .pfn (.cons .str (.cons (.int .i64) .nil)) (.cons (.int .i64) (.cons .bool .nil)) fun x => (g139 x.1 x.2.1))]
noncomputable def body113 : Code := match Tryz.f113.body with | some c => c | none => .skip
theorem ty113 : chkTypes Tryz.prog ts113 = true := by kernel_rfl
theorem ev113 (g139 : ByteArray → Int → Option XT1) (k : Nat) (x : ((.cons (.slice .str) (.cons (.int .i64) .nil)) : Tys).den) : evFun (mkEnv ts113 (fs113 g139)) H113 k body113 31 [.tmp 4, .tmp 5] (explodes (.cons (.slice .str) (.cons (.int .i64) .nil)) x) [] (dec (.cons (.slice (.int .i64)) (.cons .bool .nil))) = f113 g139 k x.1 x.2.1 := by kernel_rfl
/-! ### internal/stringslite.HasSuffix -/
def f244  (k : Nat) (x0 : ByteArray) (x1 : ByteArray) : Option (Bool × Unit) :=
  bif (decide (((ByteArray.size x0 : Nat) : Int) ≥ ((ByteArray.size x1 : Nat) : Int))) then
    bif (decide (0 ≤ (IntKind.i64.wrap (((ByteArray.size x0 : Nat) : Int) - ((ByteArray.size x1 : Nat) : Int)))) && (decide ((IntKind.i64.wrap (((ByteArray.size x0 : Nat) : Int) - ((ByteArray.size x1 : Nat) : Int))) ≤ ((ByteArray.size x0 : Nat) : Int)) && decide (((ByteArray.size x0 : Nat) : Int) ≤ ((ByteArray.size x0 : Nat) : Int)))) then
      some ((sEq (ByteArray.extract x0 (Int.toNat (IntKind.i64.wrap (((ByteArray.size x0 : Nat) : Int) - ((ByteArray.size x1 : Nat) : Int)))) (Int.toNat ((ByteArray.size x0 : Nat) : Int))) x1), ())
    else
      none
  else
    some (false, ())
def H244 : Hints where
  loop := fun n => match n with
    | _ => none
  region := fun n => match n with
    | _ => none
  cond := fun n => match n with
    | _ => none
  block := fun n => match n with
    | _ => none
abbrev A244 : Tys := (.cons .str (.cons .str .nil))
def ts244 : List (Nat × TD) := [(3, (.data (.int .i64))), (4, (.data .bool)), (9, (.data .str))]
noncomputable def fs244  : List (Nat × FSem) := []
noncomputable def body244 : Code := match Tryz.f244.body with | some c => c | none => .skip
theorem ty244 : chkTypes Tryz.prog ts244 = true := by kernel_rfl
theorem ev244  (k : Nat) (x : ((.cons .str (.cons .str .nil)) : Tys).den) : evFun (mkEnv ts244 (fs244 )) H244 k body244 21 [.tmp 4] (explodes (.cons .str (.cons .str .nil)) x) [] (dec (.cons .bool .nil)) = f244  k x.1 x.2.1 := by kernel_rfl
/-! ### internal/stringslite.CutSuffix -/
def f225 (g244 : ByteArray → ByteArray → (Bool)) (k : Nat) (x0 : ByteArray) (x1 : ByteArray) : Option XT3 :=
  bif (!(g244 x0 x1)) then
    some (x0, false, ())
  else
    bif (decide (0 ≤ (0 : Int)) && (decide ((0 : Int) ≤ (IntKind.i64.wrap (((ByteArray.size x0 : Nat) : Int) - ((ByteArray.size x1 : Nat) : Int)))) && decide ((IntKind.i64.wrap (((ByteArray.size x0 : Nat) : Int) - ((ByteArray.size x1 : Nat) : Int))) ≤ ((ByteArray.size x0 : Nat) : Int)))) then
      some ((ByteArray.extract x0 (Int.toNat (0 : Int)) (Int.toNat (IntKind.i64.wrap (((ByteArray.size x0 : Nat) : Int) - ((ByteArray.size x1 : Nat) : Int))))), true, ())
    else
      none
def H225 : Hints where
  loop := fun n => match n with
    | _ => none
  region := fun n => match n with
    | _ => none
  cond := fun n => match n with
    | _ => none
  block := fun n => match n with
    | _ => none
abbrev A225 : Tys := (.cons .str (.cons .str .nil))
def ts225 : List (Nat × TD) := [(3, (.data (.int .i64))), (4, (.data .bool)), (9, (.data .str))]
noncomputable def fs225 (g244 : ByteArray → ByteArray → (Bool)) : List (Nat × FSem) := [(244, .fn (.cons .str (.cons .str .nil)) (.cons .bool .nil) fun x => ((g244 x.1 x.2.1), ()))]
noncomputable def body225 : Code := match Tryz.f225.body with | some c => c | none => .skip
theorem ty225 : chkTypes Tryz.prog ts225 = true := by kernel_rfl
theorem ev225 (g244 : ByteArray → ByteArray → (Bool)) (k : Nat) (x : ((.cons .str (.cons .str .nil)) : Tys).den) : evFun (mkEnv ts225 (fs225 g244)) H225 k body225 18 [.tmp 4, .tmp 5] (explodes (.cons .str (.cons .str .nil)) x) [] (dec (.cons .str (.cons .bool .nil))) = f225 g244 k x.1 x.2.1 := by kernel_rfl
/-! ### strings.CutSuffix -/
def f194 (g225 : ByteArray → ByteArray → XT3) (k : Nat) (x0 : ByteArray) (x1 : ByteArray) : Option XT3 :=
  some ((g225 x0 x1).1, (g225 x0 x1).2.1, ())
def H194 : Hints where
  loop := fun n => match n with
    | _ => none
  region := fun n => match n with
    | _ => none
  cond := fun n => match n with
    | _ => none
  block := fun n => match n with
    | _ => none
abbrev A194 : Tys := (.cons .str (.cons .str .nil))
def ts194 : List (Nat × TD) := [(4, (.data .bool)), (9, (.data .str))]
noncomputable def fs194 (g225 : ByteArray → ByteArray → XT3) : List (Nat × FSem) := [(225, .fn (.cons .str (.cons .str .nil)) (.cons .str (.cons .bool .nil)) fun x => (g225 x.1 x.2.1))]
noncomputable def body194 : Code := match Tryz.f194.body with | some c => c | none => .skip
theorem ty194 : chkTypes Tryz.prog ts194 = true := by kernel_rfl
theorem ev194 (g225 : ByteArray → ByteArray → XT3) (k : Nat) (x : ((.cons .str (.cons .str .nil)) : Tys).den) : evFun (mkEnv ts194 (fs194 g225)) H194 k body194 11 [.tmp 4, .tmp 5] (explodes (.cons .str (.cons .str .nil)) x) [] (dec (.cons .str (.cons .bool .nil))) = f194 g225 k x.1 x.2.1 := by kernel_rfl
/-! ### jitney/base.Lines -/
def f156 (g116 : ByteArray → ByteArray → Option ((List ByteArray) × Unit)) (g194 : ByteArray → ByteArray → XT3) (k : Nat) (x0 : ByteArray) : Option ((List ByteArray) × Bool × Unit) :=
  bif (sEq x0 (ByteArray.mk #[])) then
    some ([], true, ())
  else
    Option.bind (g116 ((g194 x0 (ByteArray.mk #[10])).1) (ByteArray.mk #[10])) fun v1 =>
    some (v1.1, (g194 x0 (ByteArray.mk #[10])).2.1, ())
def H156 : Hints where
  loop := fun n => match n with
    | _ => none
  region := fun n => match n with
    | _ => none
  cond := fun n => match n with
    | _ => none
  block := fun n => match n with
    | _ => none
abbrev A156 : Tys := (.cons .str .nil)
def ts156 : List (Nat × TD) := [(4, (.data .bool)), (9, (.data .str)), (60, (.data (.slice .str)))]
noncomputable def fs156 (g116 : ByteArray → ByteArray → Option ((List ByteArray) × Unit)) (g194 : ByteArray → ByteArray → XT3) : List (Nat × FSem) := [(116, .pfn (.cons .str (.cons .str .nil)) (.cons (.slice .str) .nil) fun x => (g116 x.1 x.2.1)), (194, .fn (.cons .str (.cons .str .nil)) (.cons .str (.cons .bool .nil)) fun x => (g194 x.1 x.2.1))]
noncomputable def body156 : Code := match Tryz.f156.body with | some c => c | none => .skip
theorem ty156 : chkTypes Tryz.prog ts156 = true := by kernel_rfl
theorem ev156 (g116 : ByteArray → ByteArray → Option ((List ByteArray) × Unit)) (g194 : ByteArray → ByteArray → XT3) (k : Nat) (x : ((.cons .str .nil) : Tys).den) : evFun (mkEnv ts156 (fs156 g116 g194)) H156 k body156 15 [.tmp 2, .tmp 3] (explodes (.cons .str .nil) x) [] (dec (.cons (.slice .str) (.cons .bool .nil))) = f156 g116 g194 k x.1 := by kernel_rfl
/-! ### jitney/fleet.Read -/
def f50 (g85 : (List XT7) → (Int)) (g112 : ByteArray → Int → Option ((List ByteArray) × Bool × Unit)) (g113 : (List ByteArray) → Int → Option ((List Int) × Bool × Unit)) (g156 : ByteArray → Option ((List ByteArray) × Bool × Unit)) (k : Nat) (x0 : ByteArray) : Option ((List XT7) × Int × Int × Unit) :=
  bif (decide (((ByteArray.size x0 : Nat) : Int) > (200000 : Int))) then
    some ([], (0 : Int), (2 : Int), ())
  else
    Option.bind (α := ((List XT7) × Int × Int × Unit) ⊕ (XT1 × ((List XT7) × Unit))) (
        Option.bind (g156 x0) fun v1 =>
        Option.bind (α := (((List XT7) × Int × Int × Unit) ⊕ (XT1 × ((List XT7) × Unit))) ⊕ ((Unit) × ((List XT7) × Unit))) (iter (σ := (Int × Unit) × ((List XT7) × Unit)) (τ := (((List XT7) × Int × Int × Unit) ⊕ (XT1 × ((List XT7) × Unit))) ⊕ ((Unit) × ((List XT7) × Unit))) k (fun y2 =>
            bif (decide (y2.1.1 < ((List.length v1.1 : Nat) : Int))) then
              bif (inR y2.1.1 ((List.length v1.1 : Nat) : Int)) then
                bif (!v1.2.1) then
                  bif (y2.1.1 == (IntKind.i64.wrap (((List.length v1.1 : Nat) : Int) - (1 : Int)))) then
                    some (.inr (.inl (.inr ((y2.1.1, false, ()), (y2.2.1, ())))))
                  else
                    Option.bind (g112 (rd (α := ByteArray) ByteArray.empty v1.1 y2.1.1) (5 : Int)) fun v3 =>
                    bif (!v3.2.1) then
                      some (.inr (.inl (.inr ((y2.1.1, false, ()), (y2.2.1, ())))))
                    else
                      bif (decide (0 ≤ (1 : Int)) && (decide ((1 : Int) ≤ ((List.length v3.1 : Nat) : Int)) && decide (((List.length v3.1 : Nat) : Int) ≤ ((List.length v3.1 : Nat) : Int)))) then
                        Option.bind (g113 (List.drop (Int.toNat (1 : Int)) (List.take (Int.toNat ((List.length v3.1 : Nat) : Int)) v3.1)) (15 : Int)) fun v4 =>
                        bif v4.2.1 then
                          bif (inR (0 : Int) ((List.length v3.1 : Nat) : Int)) then
                            bif (inR (0 : Int) ((List.length v4.1 : Nat) : Int)) then
                              bif (inR (1 : Int) ((List.length v4.1 : Nat) : Int)) then
                                bif (inR (2 : Int) ((List.length v4.1 : Nat) : Int)) then
                                  bif (inR (3 : Int) ((List.length v4.1 : Nat) : Int)) then
                                    bif decide (List.length y2.2.1 + List.length ([((rd (α := ByteArray) ByteArray.empty v3.1 (0 : Int)), ((rd (α := Int) (0 : Int) v4.1 (0 : Int)), (rd (α := Int) (0 : Int) v4.1 (1 : Int)), ()), (rd (α := Int) (0 : Int) v4.1 (2 : Int)), (rd (α := Int) (0 : Int) v4.1 (3 : Int)), ())]) ≤ 4294967296) then
                                      bif (!v4.2.1) then
                                        some (.inr (.inl (.inr ((y2.1.1, false, ()), ((y2.2.1 ++ [((rd (α := ByteArray) ByteArray.empty v3.1 (0 : Int)), ((rd (α := Int) (0 : Int) v4.1 (0 : Int)), (rd (α := Int) (0 : Int) v4.1 (1 : Int)), ()), (rd (α := Int) (0 : Int) v4.1 (2 : Int)), (rd (α := Int) (0 : Int) v4.1 (3 : Int)), ())]), ())))))
                                      else
                                        some (.inl (((IntKind.i64.wrap (y2.1.1 + (1 : Int))), ()), ((y2.2.1 ++ [((rd (α := ByteArray) ByteArray.empty v3.1 (0 : Int)), ((rd (α := Int) (0 : Int) v4.1 (0 : Int)), (rd (α := Int) (0 : Int) v4.1 (1 : Int)), ()), (rd (α := Int) (0 : Int) v4.1 (2 : Int)), (rd (α := Int) (0 : Int) v4.1 (3 : Int)), ())]), ())))
                                    else
                                      none
                                  else
                                    none
                                else
                                  none
                              else
                                none
                            else
                              none
                          else
                            none
                        else
                          bif (!v4.2.1) then
                            some (.inr (.inl (.inr ((y2.1.1, false, ()), (y2.2.1, ())))))
                          else
                            some (.inl (((IntKind.i64.wrap (y2.1.1 + (1 : Int))), ()), (y2.2.1, ())))
                      else
                        none
                else
                  Option.bind (g112 (rd (α := ByteArray) ByteArray.empty v1.1 y2.1.1) (5 : Int)) fun v5 =>
                  bif (!v5.2.1) then
                    some (.inr (.inl (.inr ((y2.1.1, false, ()), (y2.2.1, ())))))
                  else
                    bif (decide (0 ≤ (1 : Int)) && (decide ((1 : Int) ≤ ((List.length v5.1 : Nat) : Int)) && decide (((List.length v5.1 : Nat) : Int) ≤ ((List.length v5.1 : Nat) : Int)))) then
                      Option.bind (g113 (List.drop (Int.toNat (1 : Int)) (List.take (Int.toNat ((List.length v5.1 : Nat) : Int)) v5.1)) (15 : Int)) fun v6 =>
                      bif v6.2.1 then
                        bif (inR (0 : Int) ((List.length v5.1 : Nat) : Int)) then
                          bif (inR (0 : Int) ((List.length v6.1 : Nat) : Int)) then
                            bif (inR (1 : Int) ((List.length v6.1 : Nat) : Int)) then
                              bif (inR (2 : Int) ((List.length v6.1 : Nat) : Int)) then
                                bif (inR (3 : Int) ((List.length v6.1 : Nat) : Int)) then
                                  bif decide (List.length y2.2.1 + List.length ([((rd (α := ByteArray) ByteArray.empty v5.1 (0 : Int)), ((rd (α := Int) (0 : Int) v6.1 (0 : Int)), (rd (α := Int) (0 : Int) v6.1 (1 : Int)), ()), (rd (α := Int) (0 : Int) v6.1 (2 : Int)), (rd (α := Int) (0 : Int) v6.1 (3 : Int)), ())]) ≤ 4294967296) then
                                    bif (!v6.2.1) then
                                      some (.inr (.inl (.inr ((y2.1.1, false, ()), ((y2.2.1 ++ [((rd (α := ByteArray) ByteArray.empty v5.1 (0 : Int)), ((rd (α := Int) (0 : Int) v6.1 (0 : Int)), (rd (α := Int) (0 : Int) v6.1 (1 : Int)), ()), (rd (α := Int) (0 : Int) v6.1 (2 : Int)), (rd (α := Int) (0 : Int) v6.1 (3 : Int)), ())]), ())))))
                                    else
                                      some (.inl (((IntKind.i64.wrap (y2.1.1 + (1 : Int))), ()), ((y2.2.1 ++ [((rd (α := ByteArray) ByteArray.empty v5.1 (0 : Int)), ((rd (α := Int) (0 : Int) v6.1 (0 : Int)), (rd (α := Int) (0 : Int) v6.1 (1 : Int)), ()), (rd (α := Int) (0 : Int) v6.1 (2 : Int)), (rd (α := Int) (0 : Int) v6.1 (3 : Int)), ())]), ())))
                                  else
                                    none
                                else
                                  none
                              else
                                none
                            else
                              none
                          else
                            none
                        else
                          none
                      else
                        bif (!v6.2.1) then
                          some (.inr (.inl (.inr ((y2.1.1, false, ()), (y2.2.1, ())))))
                        else
                          some (.inl (((IntKind.i64.wrap (y2.1.1 + (1 : Int))), ()), (y2.2.1, ())))
                    else
                      none
              else
                none
            else
              some (.inr (.inr ((), (y2.2.1, ()))))) (((0 : Int), ()), ([], ()))) fun r => match r with
        | .inl z => some z
        | .inr z7 =>
          some (.inr (((0 : Int), true, ()), (z7.2.1, ())))) fun r => match r with
    | .inl z => some z
    | .inr y8 =>
      bif (!y8.1.2.1) then
        some ([], y8.1.1, (9 : Int), ())
      else
        bif ((g85 y8.2.1) != (0 : Int)) then
          some ([], (0 : Int), (g85 y8.2.1), ())
        else
          some (y8.2.1, (0 : Int), (0 : Int), ())
def H50 : Hints where
  loop := fun n => match n with
    | _ => none
  region := fun n => match n with
    | 4 => some { slots := [(6, (.int .i64)), (7, .bool)], objs := [(0, (.box (.data (.slice XY1)) (.row XY1)))], gone := [] }
    | _ => none
  cond := fun n => match n with
    | _ => none
  block := fun n => match n with
    | _ => none
def Hi50_111 : Hints where
  loop := fun n => match n with
    | _ => none
  region := fun n => match n with
    | _ => none
  cond := fun n => match n with
    | _ => none
  block := fun n => match n with
    | _ => none
def tsi50_111 : List (Nat × TD) := [(3, (.data (.int .i64))), (9, (.data .str)), (30, (.data XY0)), (31, (.data (.slice (.int .i64)))), (57, (.data (.slice XY1))), (60, (.data (.slice .str))), (68, (.data XY1))]
noncomputable def bodyi50_111 : Code := match Tryz.f111.body with | some c => c | none => .skip
noncomputable def fsi50_111 (g85 : (List XT7) → (Int)) (g112 : ByteArray → Int → Option ((List ByteArray) × Bool × Unit)) (g113 : (List ByteArray) → Int → Option ((List Int) × Bool × Unit)) (g156 : ByteArray → Option ((List ByteArray) × Bool × Unit)) (k : Nat) : List (Nat × FSem) := [(112, .pfn (.cons .str (.cons (.int .i64) .nil)) (.cons (.slice .str) (.cons .bool .nil)) fun x => (g112 x.1 x.2.1)), (113, .pfn (.cons (.slice .str) (.cons (.int .i64) .nil)) (.cons (.slice (.int .i64)) (.cons .bool .nil)) fun x => (g113 x.1 x.2.1))]
theorem tyi50_111 : chkTypes Tryz.prog tsi50_111 = true := by kernel_rfl
def Hi50_110 : Hints where
  loop := fun n => match n with
    | 0 => some ({ slots := [(17, (.int .i64))], objs := [(0, (.box (.data (.slice XY1)) (.row XY1)))], gone := [] }, 0, { slots := [], objs := [(0, (.box (.data (.slice XY1)) (.row XY1)))], gone := [] })
    | _ => none
  region := fun n => match n with
    | _ => none
  cond := fun n => match n with
    | _ => none
  block := fun n => match n with
    | _ => none
def tsi50_110 : List (Nat × TD) := [(3, (.data (.int .i64))), (9, (.data .str)), (60, (.data (.slice .str)))]
noncomputable def bodyi50_110 : Code := match Tryz.f110.body with | some c => c | none => .skip
noncomputable def fsi50_110 (g85 : (List XT7) → (Int)) (g112 : ByteArray → Int → Option ((List ByteArray) × Bool × Unit)) (g113 : (List ByteArray) → Int → Option ((List Int) × Bool × Unit)) (g156 : ByteArray → Option ((List ByteArray) × Bool × Unit)) (k : Nat) : List (Nat × FSem) := [(111, .ev (mkEnv tsi50_111 (fsi50_111 g85 g112 g113 g156 k)) Hi50_111 k bodyi50_111 42 [.tmp 3]), (156, .pfn (.cons .str .nil) (.cons (.slice .str) (.cons .bool .nil)) fun x => (g156 x.1))]
theorem tyi50_110 : chkTypes Tryz.prog tsi50_110 = true := by kernel_rfl
abbrev A50 : Tys := (.cons .str .nil)
def ts50 : List (Nat × TD) := [(3, (.data (.int .i64))), (9, (.data .str)), (32, (.data (.int .i64))), (57, (.data (.slice XY1)))]
noncomputable def fs50 (g85 : (List XT7) → (Int)) (g112 : ByteArray → Int → Option ((List ByteArray) × Bool × Unit)) (g113 : (List ByteArray) → Int → Option ((List Int) × Bool × Unit)) (g156 : ByteArray → Option ((List ByteArray) × Bool × Unit)) (k : Nat) : List (Nat × FSem) := [(85, .fn (.cons (.slice XY1) .nil) (.cons (.int .i64) .nil) fun x => ((g85 x.1), ())), (110, .ev (mkEnv tsi50_110 (fsi50_110 g85 g112 g113 g156 k)) Hi50_110 k bodyi50_110 39 [.tmp 4, .tmp 5])]
noncomputable def body50 : Code := match Tryz.f50.body with | some c => c | none => .skip
theorem ty50 : chkTypes Tryz.prog ts50 = true := by kernel_rfl
theorem ev50 (g85 : (List XT7) → (Int)) (g112 : ByteArray → Int → Option ((List ByteArray) × Bool × Unit)) (g113 : (List ByteArray) → Int → Option ((List Int) × Bool × Unit)) (g156 : ByteArray → Option ((List ByteArray) × Bool × Unit)) (k : Nat) (x : ((.cons .str .nil) : Tys).den) : evFun (mkEnv ts50 (fs50 g85 g112 g113 g156 k)) H50 k body50 27 [.tmp 2, .tmp 3, .tmp 4] (explodes (.cons .str .nil) x) [] (dec (.cons (.slice XY1) (.cons (.int .i64) (.cons (.int .i64) .nil)))) = f50 g85 g112 g113 g156 k x.1 := by kernel_rfl
/-! ### slices.Index[[]string,string] -/
def f159  (k : Nat) (x0 : List ByteArray) (x1 : ByteArray) : Option (Int × Unit) :=
  Option.bind (α := (Int × Unit) ⊕ ((Unit) × (Unit))) (iter (σ := (Int × Unit) × (Unit)) (τ := (Int × Unit) ⊕ ((Unit) × (Unit))) k (fun y1 =>
      bif (decide (y1.1.1 < ((List.length x0 : Nat) : Int))) then
        bif (inR y1.1.1 ((List.length x0 : Nat) : Int)) then
          bif (sEq x1 (rd (α := ByteArray) ByteArray.empty x0 y1.1.1)) then
            some (.inr (.inl (y1.1.1, ())))
          else
            some (.inl (((IntKind.i64.wrap (y1.1.1 + (1 : Int))), ()), ()))
        else
          none
      else
        some (.inr (.inr ((), ())))) (((0 : Int), ()), ())) fun r => match r with
  | .inl z => some z
  | .inr z2 =>
    some ((-1 : Int), ())
def H159 : Hints where
  loop := fun n => match n with
    | 0 => some ({ slots := [(8, (.int .i64))], objs := [], gone := [] }, 0, { slots := [], objs := [], gone := [] })
    | _ => none
  region := fun n => match n with
    | _ => none
  cond := fun n => match n with
    | _ => none
  block := fun n => match n with
    | _ => none
abbrev A159 : Tys := (.cons (.slice .str) (.cons .str .nil))
def ts159 : List (Nat × TD) := [(3, (.data (.int .i64))), (9, (.data .str)), (60, (.data (.slice .str)))]
noncomputable def fs159  : List (Nat × FSem) := []
noncomputable def body159 : Code := match Tryz.f159.body with | some c => c | none => .skip
theorem ty159 : chkTypes Tryz.prog ts159 = true := by kernel_rfl
theorem ev159  (k : Nat) (x : ((.cons (.slice .str) (.cons .str .nil)) : Tys).den) : evFun (mkEnv ts159 (fs159 )) H159 k body159 19 [.tmp 4] (explodes (.cons (.slice .str) (.cons .str .nil)) x) [] (dec (.cons (.int .i64) .nil)) = f159  k x.1 x.2.1 := by kernel_rfl
/-! ### slices.Contains[[]string,string] -/
def f117 (g159 : (List ByteArray) → ByteArray → (Int)) (k : Nat) (x0 : List ByteArray) (x1 : ByteArray) : Option (Bool × Unit) :=
  some ((decide ((g159 x0 x1) ≥ (0 : Int))), ())
def H117 : Hints where
  loop := fun n => match n with
    | _ => none
  region := fun n => match n with
    | _ => none
  cond := fun n => match n with
    | _ => none
  block := fun n => match n with
    | _ => none
abbrev A117 : Tys := (.cons (.slice .str) (.cons .str .nil))
def ts117 : List (Nat × TD) := [(3, (.data (.int .i64))), (4, (.data .bool)), (9, (.data .str)), (60, (.data (.slice .str)))]
noncomputable def fs117 (g159 : (List ByteArray) → ByteArray → (Int)) : List (Nat × FSem) := [(159, .fn (.cons (.slice .str) (.cons .str .nil)) (.cons (.int .i64) .nil) fun x => ((g159 x.1 x.2.1), ()))]
noncomputable def body117 : Code := match Tryz.f117.body with | some c => c | none => .skip
theorem ty117 : chkTypes Tryz.prog ts117 = true := by kernel_rfl
theorem ev117 (g159 : (List ByteArray) → ByteArray → (Int)) (k : Nat) (x : ((.cons (.slice .str) (.cons .str .nil)) : Tys).den) : evFun (mkEnv ts117 (fs117 g159)) H117 k body117 9 [.tmp 4] (explodes (.cons (.slice .str) (.cons .str .nil)) x) [] (dec (.cons .bool .nil)) = f117 g159 k x.1 x.2.1 := by kernel_rfl
/-! ### jitney/jitref2.Number -/
def f95 (g94 : ByteArray → ByteArray → (Bool)) (g107 : Int → Option (ByteArray × Unit)) (g146 : ByteArray → ByteArray → (ByteArray)) (k : Nat) (x0 : ByteArray) (x1 : Int) : Option XT1 :=
  bif (sEq (g146 x0 (ByteArray.mk #[45])) (ByteArray.mk #[])) then
    some zXT1
  else
    bif (decide (((ByteArray.size (g146 x0 (ByteArray.mk #[45])) : Nat) : Int) > x1)) then
      some zXT1
    else
      bif (!(g94 (g146 x0 (ByteArray.mk #[45])) (ByteArray.mk #[48, 49, 50, 51, 52, 53, 54, 55, 56, 57]))) then
        some zXT1
      else
        bif (decide (ByteArray.size x0 ≤ 281474976710656)) then
          bif (aOk x0) then
            Option.bind (g107 (aVal x0)) fun v1 =>
            some ((aVal x0), (sEq v1.1 x0), ())
          else
            none
        else
          none
def H95 : Hints where
  loop := fun n => match n with
    | _ => none
  region := fun n => match n with
    | _ => none
  cond := fun n => match n with
    | _ => none
  block := fun n => match n with
    | _ => none
abbrev A95 : Tys := (.cons .str (.cons (.int .i64) .nil))
def ts95 : List (Nat × TD) := [(3, (.data (.int .i64))), (4, (.data .bool)), (9, (.data .str)), (162, (.cell .iface))]
noncomputable def fs95 (g94 : ByteArray → ByteArray → (Bool)) (g107 : Int → Option (ByteArray × Unit)) (g146 : ByteArray → ByteArray → (ByteArray)) : List (Nat × FSem) := [(94, .fn (.cons .str (.cons .str .nil)) (.cons .bool .nil) fun x => ((g94 x.1 x.2.1), ())), (107, .pfn (.cons (.int .i64) .nil) (.cons .str .nil) fun x => (g107 x.1)), (146, .fn (.cons .str (.cons .str .nil)) (.cons .str .nil) fun x => ((g146 x.1 x.2.1), ())), (147, .atoi)]
noncomputable def body95 : Code := match Tryz.f95.body with | some c => c | none => .skip
theorem ty95 : chkTypes Tryz.prog ts95 = true := by kernel_rfl
theorem ev95 (g94 : ByteArray → ByteArray → (Bool)) (g107 : Int → Option (ByteArray × Unit)) (g146 : ByteArray → ByteArray → (ByteArray)) (k : Nat) (x : ((.cons .str (.cons (.int .i64) .nil)) : Tys).den) : evFun (mkEnv ts95 (fs95 g94 g107 g146)) H95 k body95 38 [.tmp 4, .tmp 5] (explodes (.cons .str (.cons (.int .i64) .nil)) x) [] (dec (.cons (.int .i64) (.cons .bool .nil))) = f95 g94 g107 g146 k x.1 x.2.1 := by kernel_rfl
/-! ### jitney/jitref2.numbersIn -/
def f118 (g95 : ByteArray → Int → Option XT1) (k : Nat) (x0 : List ByteArray) (x1 : Int) : Option ((List Int) × Bool × Unit) :=
  Option.bind (α := ((List Int) × Bool × Unit) ⊕ (((List Int) × Bool × Unit) × (Unit))) (iter (σ := ((List Int) × Bool × Int × Unit) × (Unit)) (τ := ((List Int) × Bool × Unit) ⊕ (((List Int) × Bool × Unit) × (Unit))) k (fun y1 =>
      bif (decide (y1.1.2.2.1 < ((List.length x0 : Nat) : Int))) then
        bif (inR y1.1.2.2.1 ((List.length x0 : Nat) : Int)) then
          Option.bind (g95 (rd (α := ByteArray) ByteArray.empty x0 y1.1.2.2.1) x1) fun v2 =>
          bif decide (List.length y1.1.1 + List.length ([v2.1]) ≤ 4294967296) then
            bif y1.1.2.1 then
              some (.inl (((y1.1.1 ++ [v2.1]), v2.2.1, (IntKind.i64.wrap (y1.1.2.2.1 + (1 : Int))), ()), ()))
            else
              some (.inl (((y1.1.1 ++ [v2.1]), false, (IntKind.i64.wrap (y1.1.2.2.1 + (1 : Int))), ()), ()))
          else
            none
        else
          none
      else
        some (.inr (.inr ((y1.1.1, y1.1.2.1, ()), ())))) (([], true, (0 : Int), ()), ())) fun r => match r with
  | .inl z => some z
  | .inr z3 =>
    some (z3.1.1, z3.1.2.1, ())
def H118 : Hints where
  loop := fun n => match n with
    | 0 => some ({ slots := [(6, (.row (.int .i64))), (7, .bool), (14, (.int .i64))], objs := [], gone := [] }, 0, { slots := [(6, (.row (.int .i64))), (7, .bool)], objs := [], gone := [] })
    | _ => none
  region := fun n => match n with
    | _ => none
  cond := fun n => match n with
    | _ => none
  block := fun n => match n with
    | _ => none
abbrev A118 : Tys := (.cons (.slice .str) (.cons (.int .i64) .nil))
def ts118 : List (Nat × TD) := [(3, (.data (.int .i64))), (4, (.data .bool)), (9, (.data .str)), (31, (.data (.slice (.int .i64)))), (60, (.data (.slice .str)))]
noncomputable def fs118 (g95 : ByteArray → Int → Option XT1) : List (Nat × FSem) := [(95, .pfn (.cons .str (.cons (.int .i64) .nil)) (.cons (.int .i64) (.cons .bool .nil)) fun x => (g95 x.1 x.2.1))]
noncomputable def body118 : Code := match Tryz.f118.body with | some c => c | none => .skip
theorem ty118 : chkTypes Tryz.prog ts118 = true := by kernel_rfl
theorem ev118 (g95 : ByteArray → Int → Option XT1) (k : Nat) (x : ((.cons (.slice .str) (.cons (.int .i64) .nil)) : Tys).den) : evFun (mkEnv ts118 (fs118 g95)) H118 k body118 35 [.tmp 4, .tmp 5] (explodes (.cons (.slice .str) (.cons (.int .i64) .nil)) x) [] (dec (.cons (.slice (.int .i64)) (.cons .bool .nil))) = f118 g95 k x.1 x.2.1 := by kernel_rfl
/-! ### jitney/jitref2.RunsRead -/
def f51 (g34 : (List XT7) → (Int)) (g116 : ByteArray → ByteArray → Option ((List ByteArray) × Unit)) (g117 : (List ByteArray) → ByteArray → (Bool)) (g118 : (List ByteArray) → Int → Option ((List Int) × Bool × Unit)) (g157 : ByteArray → ByteArray → Option XT6) (k : Nat) (x0 : ByteArray) : Option ((List XT7) × Int × Int × Unit) :=
  bif (decide (((ByteArray.size x0 : Nat) : Int) > (200000 : Int))) then
    some ([], (0 : Int), (2 : Int), ())
  else
    Option.bind (α := ((List XT7) × Int × Int × Unit) ⊕ (XT1 × ((List XT7) × Unit))) (
        Option.bind (α := (((List XT7) × Int × Int × Unit) ⊕ (XT1 × ((List XT7) × Unit))) ⊕ ((Unit) × ((List XT7) × Unit))) (iter (σ := XT2 × ((List XT7) × Unit)) (τ := (((List XT7) × Int × Int × Unit) ⊕ (XT1 × ((List XT7) × Unit))) ⊕ ((Unit) × ((List XT7) × Unit))) k (fun y1 =>
            bif (!(sEq y1.1.1 (ByteArray.mk #[]))) then
              Option.bind (g157 y1.1.1 (ByteArray.mk #[10])) fun v2 =>
              bif (!v2.2.2.1) then
                some (.inr (.inl (.inr ((y1.1.2.1, false, ()), (y1.2.1, ())))))
              else
                Option.bind (g116 v2.1 (ByteArray.mk #[32])) fun v3 =>
                bif (((List.length v3.1 : Nat) : Int) != (5 : Int)) then
                  some (.inr (.inl (.inr ((y1.1.2.1, false, ()), (y1.2.1, ())))))
                else
                  bif (g117 v3.1 (ByteArray.mk #[])) then
                    some (.inr (.inl (.inr ((y1.1.2.1, false, ()), (y1.2.1, ())))))
                  else
                    bif (decide (0 ≤ (1 : Int)) && (decide ((1 : Int) ≤ ((List.length v3.1 : Nat) : Int)) && decide (((List.length v3.1 : Nat) : Int) ≤ ((List.length v3.1 : Nat) : Int)))) then
                      Option.bind (g118 (List.drop (Int.toNat (1 : Int)) (List.take (Int.toNat ((List.length v3.1 : Nat) : Int)) v3.1)) (15 : Int)) fun v4 =>
                      bif (inR (0 : Int) ((List.length v3.1 : Nat) : Int)) then
                        bif (inR (0 : Int) ((List.length v4.1 : Nat) : Int)) then
                          bif (inR (1 : Int) ((List.length v4.1 : Nat) : Int)) then
                            bif (inR (2 : Int) ((List.length v4.1 : Nat) : Int)) then
                              bif (inR (3 : Int) ((List.length v4.1 : Nat) : Int)) then
                                bif decide (List.length y1.2.1 + List.length ([((rd (α := ByteArray) ByteArray.empty v3.1 (0 : Int)), ((rd (α := Int) (0 : Int) v4.1 (0 : Int)), (rd (α := Int) (0 : Int) v4.1 (1 : Int)), ()), (rd (α := Int) (0 : Int) v4.1 (2 : Int)), (rd (α := Int) (0 : Int) v4.1 (3 : Int)), ())]) ≤ 4294967296) then
                                  bif (!v4.2.1) then
                                    some (.inr (.inl (.inr ((y1.1.2.1, false, ()), ((y1.2.1 ++ [((rd (α := ByteArray) ByteArray.empty v3.1 (0 : Int)), ((rd (α := Int) (0 : Int) v4.1 (0 : Int)), (rd (α := Int) (0 : Int) v4.1 (1 : Int)), ()), (rd (α := Int) (0 : Int) v4.1 (2 : Int)), (rd (α := Int) (0 : Int) v4.1 (3 : Int)), ())]), ())))))
                                  else
                                    some (.inl ((v2.2.1, (IntKind.i64.wrap (y1.1.2.1 + (1 : Int))), ()), ((y1.2.1 ++ [((rd (α := ByteArray) ByteArray.empty v3.1 (0 : Int)), ((rd (α := Int) (0 : Int) v4.1 (0 : Int)), (rd (α := Int) (0 : Int) v4.1 (1 : Int)), ()), (rd (α := Int) (0 : Int) v4.1 (2 : Int)), (rd (α := Int) (0 : Int) v4.1 (3 : Int)), ())]), ())))
                                else
                                  none
                              else
                                none
                            else
                              none
                          else
                            none
                        else
                          none
                      else
                        none
                    else
                      none
            else
              some (.inr (.inr ((), (y1.2.1, ()))))) ((x0, (0 : Int), ()), ([], ()))) fun r => match r with
        | .inl z => some z
        | .inr z5 =>
          some (.inr (((0 : Int), true, ()), (z5.2.1, ())))) fun r => match r with
    | .inl z => some z
    | .inr y6 =>
      bif (!y6.1.2.1) then
        some ([], y6.1.1, (9 : Int), ())
      else
        bif ((g34 y6.2.1) != (0 : Int)) then
          some ([], (0 : Int), (g34 y6.2.1), ())
        else
          some (y6.2.1, (0 : Int), (0 : Int), ())
def H51 : Hints where
  loop := fun n => match n with
    | _ => none
  region := fun n => match n with
    | 4 => some { slots := [(6, (.int .i64)), (7, .bool)], objs := [(0, (.box (.data (.slice XY1)) (.row XY1)))], gone := [] }
    | _ => none
  cond := fun n => match n with
    | _ => none
  block := fun n => match n with
    | _ => none
def Hi51_115 : Hints where
  loop := fun n => match n with
    | _ => none
  region := fun n => match n with
    | _ => none
  cond := fun n => match n with
    | _ => none
  block := fun n => match n with
    | _ => none
def tsi51_115 : List (Nat × TD) := [(3, (.data (.int .i64))), (9, (.data .str)), (30, (.data XY0)), (31, (.data (.slice (.int .i64)))), (57, (.data (.slice XY1))), (60, (.data (.slice .str))), (68, (.data XY1))]
noncomputable def bodyi51_115 : Code := match Tryz.f115.body with | some c => c | none => .skip
noncomputable def fsi51_115 (g34 : (List XT7) → (Int)) (g116 : ByteArray → ByteArray → Option ((List ByteArray) × Unit)) (g117 : (List ByteArray) → ByteArray → (Bool)) (g118 : (List ByteArray) → Int → Option ((List Int) × Bool × Unit)) (g157 : ByteArray → ByteArray → Option XT6) (k : Nat) : List (Nat × FSem) := [(116, .pfn (.cons .str (.cons .str .nil)) (.cons (.slice .str) .nil) fun x => (g116 x.1 x.2.1)), (117, .fn (.cons (.slice .str) (.cons .str .nil)) (.cons .bool .nil) fun x => ((g117 x.1 x.2.1), ())), (118, .pfn (.cons (.slice .str) (.cons (.int .i64) .nil)) (.cons (.slice (.int .i64)) (.cons .bool .nil)) fun x => (g118 x.1 x.2.1))]
theorem tyi51_115 : chkTypes Tryz.prog tsi51_115 = true := by kernel_rfl
def Hi51_114 : Hints where
  loop := fun n => match n with
    | 0 => some ({ slots := [(0, .str), (6, (.int .i64))], objs := [(0, (.box (.data (.slice XY1)) (.row XY1)))], gone := [] }, 0, { slots := [], objs := [(0, (.box (.data (.slice XY1)) (.row XY1)))], gone := [] })
    | _ => none
  region := fun n => match n with
    | _ => none
  cond := fun n => match n with
    | _ => none
  block := fun n => match n with
    | _ => none
def tsi51_114 : List (Nat × TD) := [(3, (.data (.int .i64))), (9, (.data .str))]
noncomputable def bodyi51_114 : Code := match Tryz.f114.body with | some c => c | none => .skip
noncomputable def fsi51_114 (g34 : (List XT7) → (Int)) (g116 : ByteArray → ByteArray → Option ((List ByteArray) × Unit)) (g117 : (List ByteArray) → ByteArray → (Bool)) (g118 : (List ByteArray) → Int → Option ((List Int) × Bool × Unit)) (g157 : ByteArray → ByteArray → Option XT6) (k : Nat) : List (Nat × FSem) := [(115, .ev (mkEnv tsi51_115 (fsi51_115 g34 g116 g117 g118 g157 k)) Hi51_115 k bodyi51_115 43 [.tmp 3]), (157, .pfn (.cons .str (.cons .str .nil)) (.cons .str (.cons .str (.cons .bool .nil))) fun x => (g157 x.1 x.2.1))]
theorem tyi51_114 : chkTypes Tryz.prog tsi51_114 = true := by kernel_rfl
abbrev A51 : Tys := (.cons .str .nil)
def ts51 : List (Nat × TD) := [(3, (.data (.int .i64))), (9, (.data .str)), (32, (.data (.int .i64))), (57, (.data (.slice XY1)))]
noncomputable def fs51 (g34 : (List XT7) → (Int)) (g116 : ByteArray → ByteArray → Option ((List ByteArray) × Unit)) (g117 : (List ByteArray) → ByteArray → (Bool)) (g118 : (List ByteArray) → Int → Option ((List Int) × Bool × Unit)) (g157 : ByteArray → ByteArray → Option XT6) (k : Nat) : List (Nat × FSem) := [(34, .fn (.cons (.slice XY1) .nil) (.cons (.int .i64) .nil) fun x => ((g34 x.1), ())), (114, .ev (mkEnv tsi51_114 (fsi51_114 g34 g116 g117 g118 g157 k)) Hi51_114 k bodyi51_114 30 [.tmp 4, .tmp 5])]
noncomputable def body51 : Code := match Tryz.f51.body with | some c => c | none => .skip
theorem ty51 : chkTypes Tryz.prog ts51 = true := by kernel_rfl
theorem ev51 (g34 : (List XT7) → (Int)) (g116 : ByteArray → ByteArray → Option ((List ByteArray) × Unit)) (g117 : (List ByteArray) → ByteArray → (Bool)) (g118 : (List ByteArray) → Int → Option ((List Int) × Bool × Unit)) (g157 : ByteArray → ByteArray → Option XT6) (k : Nat) (x : ((.cons .str .nil) : Tys).den) : evFun (mkEnv ts51 (fs51 g34 g116 g117 g118 g157 k)) H51 k body51 27 [.tmp 2, .tmp 3, .tmp 4] (explodes (.cons .str .nil) x) [] (dec (.cons (.slice XY1) (.cons (.int .i64) (.cons (.int .i64) .nil)))) = f51 g34 g116 g117 g118 g157 k x.1 := by kernel_rfl
/-! ### slices.Equal[[]jitney/api.Run,jitney/api.Run] -/
def f52  (k : Nat) (x0 : List XT7) (x1 : List XT7) : Option (Bool × Unit) :=
  bif (((List.length x0 : Nat) : Int) != ((List.length x1 : Nat) : Int)) then
    some (false, ())
  else
    Option.bind (α := (Bool × Unit) ⊕ ((Unit) × (Unit))) (iter (σ := (Int × Unit) × (Unit)) (τ := (Bool × Unit) ⊕ ((Unit) × (Unit))) k (fun y1 =>
        bif (decide (y1.1.1 < ((List.length x0 : Nat) : Int))) then
          bif (inR y1.1.1 ((List.length x0 : Nat) : Int)) then
            bif (inR y1.1.1 ((List.length x1 : Nat) : Int)) then
              bif (!((sEq ((rd (α := XT7) zXT7 x0 y1.1.1).1) ((rd (α := XT7) zXT7 x1 y1.1.1).1)) && ((((rd (α := XT7) zXT7 x0 y1.1.1).2.1.1 == (rd (α := XT7) zXT7 x1 y1.1.1).2.1.1) && (((rd (α := XT7) zXT7 x0 y1.1.1).2.1.2.1 == (rd (α := XT7) zXT7 x1 y1.1.1).2.1.2.1) && true)) && (((rd (α := XT7) zXT7 x0 y1.1.1).2.2.1 == (rd (α := XT7) zXT7 x1 y1.1.1).2.2.1) && (((rd (α := XT7) zXT7 x0 y1.1.1).2.2.2.1 == (rd (α := XT7) zXT7 x1 y1.1.1).2.2.2.1) && true))))) then
                some (.inr (.inl (false, ())))
              else
                some (.inl (((IntKind.i64.wrap (y1.1.1 + (1 : Int))), ()), ()))
            else
              none
          else
            none
        else
          some (.inr (.inr ((), ())))) (((0 : Int), ()), ())) fun r => match r with
    | .inl z => some z
    | .inr z2 =>
      some (true, ())
def H52 : Hints where
  loop := fun n => match n with
    | 0 => some ({ slots := [(13, (.int .i64))], objs := [], gone := [] }, 0, { slots := [], objs := [], gone := [] })
    | _ => none
  region := fun n => match n with
    | _ => none
  cond := fun n => match n with
    | _ => none
  block := fun n => match n with
    | _ => none
abbrev A52 : Tys := (.cons (.slice XY1) (.cons (.slice XY1) .nil))
def ts52 : List (Nat × TD) := [(3, (.data (.int .i64))), (4, (.data .bool)), (57, (.data (.slice XY1))), (68, (.data XY1))]
noncomputable def fs52  : List (Nat × FSem) := []
noncomputable def body52 : Code := match Tryz.f52.body with | some c => c | none => .skip
theorem ty52 : chkTypes Tryz.prog ts52 = true := by kernel_rfl
theorem ev52  (k : Nat) (x : ((.cons (.slice XY1) (.cons (.slice XY1) .nil)) : Tys).den) : evFun (mkEnv ts52 (fs52 )) H52 k body52 26 [.tmp 4] (explodes (.cons (.slice XY1) (.cons (.slice XY1) .nil)) x) [] (dec (.cons .bool .nil)) = f52  k x.1 x.2.1 := by kernel_rfl
/-! ### jitney/jitlaw2.RunTexts -/
def f5 (g28 : (List XT7) → Option ((List XT7) × Unit)) (g34 : (List XT7) → (Int)) (g46 : Option (Bool × Unit)) (g47 : (List XT7) → Option (ByteArray × Unit)) (g48 : ByteArray → Int → XT2) (g49 : (List XT7) → Option XT2) (g50 : ByteArray → Option ((List XT7) × Int × Int × Unit)) (g51 : ByteArray → Option ((List XT7) × Int × Int × Unit)) (g52 : (List XT7) → (List XT7) → (Bool)) (k : Nat) (x0 : List XT7) (x1 : ByteArray) : Option (Bool × Unit) :=
  Option.bind (α := (Bool × Unit) ⊕ ((ByteArray × Unit) × (Unit))) (
      bif ((g34 x0) == (0 : Int)) then
        Option.bind (g47 x0) fun v1 =>
        some (.inr ((v1.1, ()), ()))
      else
        some (.inr (((ByteArray.mk #[]), ()), ()))) fun r => match r with
  | .inl z => some z
  | .inr y2 =>
    Option.bind (g28 x0) fun v3 =>
    Option.bind (g49 v3.1) fun v4 =>
    Option.bind (g50 x1) fun v5 =>
    Option.bind (g51 x1) fun v6 =>
    bif (v4.2.1 == (g48 y2.1.1 (g34 x0)).2.1) then
      bif (sEq v4.1 ((g48 y2.1.1 (g34 x0)).1)) then
        bif (g52 v5.1 v6.1) then
          bif (v5.2.1 == v6.2.1) then
            bif (v5.2.2.1 == v6.2.2.1) then
              Option.bind g46 fun v7 =>
              some (v7.1, ())
            else
              some (false, ())
          else
            some (false, ())
        else
          some (false, ())
      else
        some (false, ())
    else
      some (false, ())
def H5 : Hints where
  loop := fun n => match n with
    | _ => none
  region := fun n => match n with
    | _ => none
  cond := fun n => match n with
    | 18 => some { slots := [(6, .str)], objs := [], gone := [] }
    | _ => none
  block := fun n => match n with
    | _ => none
abbrev A5 : Tys := (.cons (.slice XY1) (.cons .str .nil))
def ts5 : List (Nat × TD) := [(3, (.data (.int .i64))), (4, (.data .bool)), (9, (.data .str)), (32, (.data (.int .i64))), (57, (.data (.slice XY1)))]
noncomputable def fs5 (g28 : (List XT7) → Option ((List XT7) × Unit)) (g34 : (List XT7) → (Int)) (g46 : Option (Bool × Unit)) (g47 : (List XT7) → Option (ByteArray × Unit)) (g48 : ByteArray → Int → XT2) (g49 : (List XT7) → Option XT2) (g50 : ByteArray → Option ((List XT7) × Int × Int × Unit)) (g51 : ByteArray → Option ((List XT7) × Int × Int × Unit)) (g52 : (List XT7) → (List XT7) → (Bool)) : List (Nat × FSem) := [(28, .pfn (.cons (.slice XY1) .nil) (.cons (.slice XY1) .nil) fun x => (g28 x.1)), (34, .fn (.cons (.slice XY1) .nil) (.cons (.int .i64) .nil) fun x => ((g34 x.1), ())), (46, .pfn .nil (.cons .bool .nil) fun x => g46), (47, .pfn (.cons (.slice XY1) .nil) (.cons .str .nil) fun x => (g47 x.1)), (48, .fn (.cons .str (.cons (.int .i64) .nil)) (.cons .str (.cons (.int .i64) .nil)) fun x => (g48 x.1 x.2.1)), (49, .pfn (.cons (.slice XY1) .nil) (.cons .str (.cons (.int .i64) .nil)) fun x => (g49 x.1)), (50, .pfn (.cons .str .nil) (.cons (.slice XY1) (.cons (.int .i64) (.cons (.int .i64) .nil))) fun x => (g50 x.1)), (51, .pfn (.cons .str .nil) (.cons (.slice XY1) (.cons (.int .i64) (.cons (.int .i64) .nil))) fun x => (g51 x.1)), (52, .fn (.cons (.slice XY1) (.cons (.slice XY1) .nil)) (.cons .bool .nil) fun x => ((g52 x.1 x.2.1), ()))]
noncomputable def body5 : Code := match Tryz.f5.body with | some c => c | none => .skip
theorem ty5 : chkTypes Tryz.prog ts5 = true := by kernel_rfl
theorem ev5 (g28 : (List XT7) → Option ((List XT7) × Unit)) (g34 : (List XT7) → (Int)) (g46 : Option (Bool × Unit)) (g47 : (List XT7) → Option (ByteArray × Unit)) (g48 : ByteArray → Int → XT2) (g49 : (List XT7) → Option XT2) (g50 : ByteArray → Option ((List XT7) × Int × Int × Unit)) (g51 : ByteArray → Option ((List XT7) × Int × Int × Unit)) (g52 : (List XT7) → (List XT7) → (Bool)) (k : Nat) (x : ((.cons (.slice XY1) (.cons .str .nil)) : Tys).den) : evFun (mkEnv ts5 (fs5 g28 g34 g46 g47 g48 g49 g50 g51 g52)) H5 k body5 71 [.tmp 4] (explodes (.cons (.slice XY1) (.cons .str .nil)) x) [] (dec (.cons .bool .nil)) = f5 g28 g34 g46 g47 g48 g49 g50 g51 g52 k x.1 x.2.1 := by kernel_rfl
end Go.Vm
