/- The program's functions, as an own tool reads them off its form. -/
import Derived.Test.YtjkidhjkpkcnhaaGreatDoorVmK
import Derived.Test.YtjkidhjkpkcnhaaGreatDoorVmD
import Derived.Test.YtjkidhjkpkcnhaaGreatDoorVmQ
import Derived.Test.YtjkidhjkpkcnhaaGreatDoorProg
set_option maxRecDepth 100000
set_option linter.unusedVariables false
namespace Go.Vm
open Go.Proofs
abbrev ZT0 : Type := (Int × Int × Unit)
abbrev ZT1 : Type := (Int × Bool × Unit)
abbrev ZT2 : Type := (ByteArray × Int × Unit)
abbrev ZT3 : Type := (Int × Int × Int × Unit)
abbrev ZT4 : Type := (ByteArray × Bool × Unit)
abbrev ZT5 : Type := ((ByteArray × Unit) × Unit)
abbrev ZT6 : Type := (ZT0 × Unit)
abbrev ZT7 : Type := (ZT0 × Int × Unit)
abbrev ZT8 : Type := (ZT0 × Bool × Unit)
abbrev ZT9 : Type := (ByteArray × ByteArray × Bool × Unit)
abbrev ZT10 : Type := (ByteArray × ByteArray × ByteArray × Int × Int × Unit)
abbrev zZT1 : ZT1 := ((0 : Int), false, ())
abbrev zZT0 : ZT0 := ((0 : Int), (0 : Int), ())
abbrev zZT5 : ZT5 := ((ByteArray.empty, ()), ())
abbrev zZT8 : ZT8 := (zZT0, false, ())
abbrev zZT10 : ZT10 := (ByteArray.empty, ByteArray.empty, ByteArray.empty, (0 : Int), (0 : Int), ())
abbrev ZY0 : Ty := (.struct (.cons (.int .i64) (.cons (.int .i64) .nil)))
abbrev ZY1 : Ty := (.struct (.cons (.int .i64) (.cons (.int .i64) (.cons (.int .i64) .nil))))
abbrev ZY2 : Ty := (.struct (.cons .str (.cons .str (.cons .str (.cons (.int .i64) (.cons (.int .i64) .nil))))))
theorem mixedOK : Tryz.prog.follows .mixedOrders = true := by kernel_rfl
/-! ### jitney/jitlaw2.written -/
def f48  (k : Nat) (x0 : ByteArray) (x1 : Int) : Option ZT2 :=
  bif (x1 != (0 : Int)) then
    some ((ByteArray.mk #[]), x1, ())
  else
    bif (decide (((ByteArray.size x0 : Nat) : Int) > (200000 : Int))) then
      some ((ByteArray.mk #[]), (2 : Int), ())
    else
      some (x0, (0 : Int), ())
def H48 : Hints where
  loop := fun n => match n with
    | _ => none
  region := fun n => match n with
    | _ => none
  cond := fun n => match n with
    | _ => none
  block := fun n => match n with
    | _ => none
abbrev A48 : Tys := (.cons .str (.cons (.int .i64) .nil))
def ts48 : List (Nat × TD) := [(3, (.data (.int .i64))), (9, (.data .str)), (32, (.data (.int .i64)))]
noncomputable def fs48  : List (Nat × FSem) := []
noncomputable def body48 : Code := match Tryz.f48.body with | some c => c | none => .skip
theorem ty48 : chkTypes Tryz.prog ts48 = true := by kernel_rfl
theorem ev48  (k : Nat) (x : ((.cons .str (.cons (.int .i64) .nil)) : Tys).den) : evFun (mkEnv ts48 (fs48 )) H48 k body48 15 [.tmp 4, .tmp 5] (explodes (.cons .str (.cons (.int .i64) .nil)) x) [] (dec (.cons .str (.cons (.int .i64) .nil))) = f48  k x.1 x.2.1 := by kernel_rfl
/-! ### jitney/jitref2.in -/
def f71  (k : Nat) (x0 : Int) (x1 : Int) (x2 : Int) : Option (Bool × Unit) :=
  bif (decide (x1 ≤ x0)) then
    some ((decide (x0 ≤ x2)), ())
  else
    some (false, ())
def H71 : Hints where
  loop := fun n => match n with
    | _ => none
  region := fun n => match n with
    | _ => none
  cond := fun n => match n with
    | _ => none
  block := fun n => match n with
    | _ => none
abbrev A71 : Tys := (.cons (.int .i64) (.cons (.int .i64) (.cons (.int .i64) .nil)))
def ts71 : List (Nat × TD) := [(3, (.data (.int .i64))), (4, (.data .bool))]
noncomputable def fs71  : List (Nat × FSem) := []
noncomputable def body71 : Code := match Tryz.f71.body with | some c => c | none => .skip
theorem ty71 : chkTypes Tryz.prog ts71 = true := by kernel_rfl
theorem ev71  (k : Nat) (x : ((.cons (.int .i64) (.cons (.int .i64) (.cons (.int .i64) .nil))) : Tys).den) : evFun (mkEnv ts71 (fs71 )) H71 k body71 15 [.tmp 6] (explodes (.cons (.int .i64) (.cons (.int .i64) (.cons (.int .i64) .nil))) x) [] (dec (.cons .bool .nil)) = f71  k x.1 x.2.1 x.2.2.1 := by kernel_rfl
/-! ### strings.IndexByte -/
def f145 (g182 : ByteArray → Int → (Int)) (k : Nat) (x0 : ByteArray) (x1 : Int) : Option (Int × Unit) :=
  some ((g182 x0 x1), ())
def H145 : Hints where
  loop := fun n => match n with
    | _ => none
  region := fun n => match n with
    | _ => none
  cond := fun n => match n with
    | _ => none
  block := fun n => match n with
    | _ => none
abbrev A145 : Tys := (.cons .str (.cons (.int .u8) .nil))
def ts145 : List (Nat × TD) := [(3, (.data (.int .i64))), (5, (.data (.int .u8))), (9, (.data .str))]
noncomputable def fs145 (g182 : ByteArray → Int → (Int)) : List (Nat × FSem) := [(182, .fn (.cons .str (.cons (.int .u8) .nil)) (.cons (.int .i64) .nil) fun x => ((g182 x.1 x.2.1), ()))]
noncomputable def body145 : Code := match Tryz.f145.body with | some c => c | none => .skip
theorem ty145 : chkTypes Tryz.prog ts145 = true := by kernel_rfl
theorem ev145 (g182 : ByteArray → Int → (Int)) (k : Nat) (x : ((.cons .str (.cons (.int .u8) .nil)) : Tys).den) : evFun (mkEnv ts145 (fs145 g182)) H145 k body145 8 [.tmp 4] (explodes (.cons .str (.cons (.int .u8) .nil)) x) [] (dec (.cons (.int .i64) .nil)) = f145 g182 k x.1 x.2.1 := by kernel_rfl
/-! ### jitney/jitref2.only -/
def f94 (g145 : ByteArray → Int → (Int)) (k : Nat) (x0 : ByteArray) (x1 : ByteArray) : Option (Bool × Unit) :=
  Option.bind (α := (Bool × Unit) ⊕ ((Unit) × (Unit))) (iter (σ := (Int × Unit) × (Unit)) (τ := (Bool × Unit) ⊕ ((Unit) × (Unit))) k (fun y1 =>
      bif (decide (y1.1.1 < ((ByteArray.size x0 : Nat) : Int))) then
        bif (inR y1.1.1 ((ByteArray.size x0 : Nat) : Int)) then
          bif (decide ((g145 x1 (bt x0 y1.1.1)) < (0 : Int))) then
            some (.inr (.inl (false, ())))
          else
            some (.inl (((IntKind.i64.wrap (y1.1.1 + (1 : Int))), ()), ()))
        else
          none
      else
        some (.inr (.inr ((), ())))) (((0 : Int), ()), ())) fun r => match r with
  | .inl z => some z
  | .inr z2 =>
    some (true, ())
def H94 : Hints where
  loop := fun n => match n with
    | 0 => some ({ slots := [(8, (.int .i64))], objs := [], gone := [] }, 0, { slots := [], objs := [], gone := [] })
    | _ => none
  region := fun n => match n with
    | _ => none
  cond := fun n => match n with
    | _ => none
  block := fun n => match n with
    | _ => none
abbrev A94 : Tys := (.cons .str (.cons .str .nil))
def ts94 : List (Nat × TD) := [(3, (.data (.int .i64))), (4, (.data .bool)), (9, (.data .str))]
noncomputable def fs94 (g145 : ByteArray → Int → (Int)) : List (Nat × FSem) := [(145, .fn (.cons .str (.cons (.int .u8) .nil)) (.cons (.int .i64) .nil) fun x => ((g145 x.1 x.2.1), ()))]
noncomputable def body94 : Code := match Tryz.f94.body with | some c => c | none => .skip
theorem ty94 : chkTypes Tryz.prog ts94 = true := by kernel_rfl
theorem ev94 (g145 : ByteArray → Int → (Int)) (k : Nat) (x : ((.cons .str (.cons .str .nil)) : Tys).den) : evFun (mkEnv ts94 (fs94 g145)) H94 k body94 18 [.tmp 4] (explodes (.cons .str (.cons .str .nil)) x) [] (dec (.cons .bool .nil)) = f94 g145 k x.1 x.2.1 := by kernel_rfl
/-! ### jitney/jitref2.Key -/
def f36 (g71 : Int → Int → Int → (Bool)) (g94 : ByteArray → ByteArray → (Bool)) (k : Nat) (x0 : ByteArray) : Option (Bool × Unit) :=
  bif (g71 ((ByteArray.size x0 : Nat) : Int) (1 : Int) (40 : Int)) then
    bif (decide (0 ≤ (0 : Int)) && (decide ((0 : Int) ≤ (1 : Int)) && decide ((1 : Int) ≤ ((ByteArray.size x0 : Nat) : Int)))) then
      bif (g94 (ByteArray.extract x0 (Int.toNat (0 : Int)) (Int.toNat (1 : Int))) (ByteArray.mk #[97, 98, 99, 100, 101, 102, 103, 104, 105, 106, 107, 108, 109, 110, 111, 112, 113, 114, 115, 116, 117, 118, 119, 120, 121, 122])) then
        some ((g94 x0 (ByteArray.mk #[97, 98, 99, 100, 101, 102, 103, 104, 105, 106, 107, 108, 109, 110, 111, 112, 113, 114, 115, 116, 117, 118, 119, 120, 121, 122, 48, 49, 50, 51, 52, 53, 54, 55, 56, 57, 45, 95])), ())
      else
        some (false, ())
    else
      none
  else
    some (false, ())
def H36 : Hints where
  loop := fun n => match n with
    | _ => none
  region := fun n => match n with
    | _ => none
  cond := fun n => match n with
    | _ => none
  block := fun n => match n with
    | _ => none
abbrev A36 : Tys := (.cons .str .nil)
def ts36 : List (Nat × TD) := [(4, (.data .bool)), (9, (.data .str))]
noncomputable def fs36 (g71 : Int → Int → Int → (Bool)) (g94 : ByteArray → ByteArray → (Bool)) : List (Nat × FSem) := [(71, .fn (.cons (.int .i64) (.cons (.int .i64) (.cons (.int .i64) .nil))) (.cons .bool .nil) fun x => ((g71 x.1 x.2.1 x.2.2.1), ())), (94, .fn (.cons .str (.cons .str .nil)) (.cons .bool .nil) fun x => ((g94 x.1 x.2.1), ()))]
noncomputable def body36 : Code := match Tryz.f36.body with | some c => c | none => .skip
theorem ty36 : chkTypes Tryz.prog ts36 = true := by kernel_rfl
theorem ev36 (g71 : Int → Int → Int → (Bool)) (g94 : ByteArray → ByteArray → (Bool)) (k : Nat) (x : ((.cons .str .nil) : Tys).den) : evFun (mkEnv ts36 (fs36 g71 g94)) H36 k body36 15 [.tmp 2] (explodes (.cons .str .nil) x) [] (dec (.cons .bool .nil)) = f36 g71 g94 k x.1 := by kernel_rfl
/-! ### jitney/jitref2.Moment -/
def f37 (g71 : Int → Int → Int → (Bool)) (k : Nat) (x0 : Int) : Option (Bool × Unit) :=
  some ((g71 x0 (0 : Int) (345686399999 : Int)), ())
def H37 : Hints where
  loop := fun n => match n with
    | _ => none
  region := fun n => match n with
    | _ => none
  cond := fun n => match n with
    | _ => none
  block := fun n => match n with
    | _ => none
abbrev A37 : Tys := (.cons (.int .i64) .nil)
def ts37 : List (Nat × TD) := [(3, (.data (.int .i64))), (4, (.data .bool))]
noncomputable def fs37 (g71 : Int → Int → Int → (Bool)) : List (Nat × FSem) := [(71, .fn (.cons (.int .i64) (.cons (.int .i64) (.cons (.int .i64) .nil))) (.cons .bool .nil) fun x => ((g71 x.1 x.2.1 x.2.2.1), ()))]
noncomputable def body37 : Code := match Tryz.f37.body with | some c => c | none => .skip
theorem ty37 : chkTypes Tryz.prog ts37 = true := by kernel_rfl
theorem ev37 (g71 : Int → Int → Int → (Bool)) (k : Nat) (x : ((.cons (.int .i64) .nil) : Tys).den) : evFun (mkEnv ts37 (fs37 g71)) H37 k body37 5 [.tmp 2] (explodes (.cons (.int .i64) .nil) x) [] (dec (.cons .bool .nil)) = f37 g71 k x.1 := by kernel_rfl
/-! ### jitney/jitref2.sign -/
def f138  (k : Nat) (x0 : Int) : Option (Int × Unit) :=
  bif (decide (x0 < (0 : Int))) then
    some ((-1 : Int), ())
  else
    bif (decide (x0 > (0 : Int))) then
      some ((1 : Int), ())
    else
      some ((0 : Int), ())
def H138 : Hints where
  loop := fun n => match n with
    | _ => none
  region := fun n => match n with
    | _ => none
  cond := fun n => match n with
    | _ => none
  block := fun n => match n with
    | _ => none
abbrev A138 : Tys := (.cons (.int .i64) .nil)
def ts138 : List (Nat × TD) := [(3, (.data (.int .i64)))]
noncomputable def fs138  : List (Nat × FSem) := []
noncomputable def body138 : Code := match Tryz.f138.body with | some c => c | none => .skip
theorem ty138 : chkTypes Tryz.prog ts138 = true := by kernel_rfl
theorem ev138  (k : Nat) (x : ((.cons (.int .i64) .nil) : Tys).den) : evFun (mkEnv ts138 (fs138 )) H138 k body138 9 [.tmp 2] (explodes (.cons (.int .i64) .nil) x) [] (dec (.cons (.int .i64) .nil)) = f138  k x.1 := by kernel_rfl
/-! ### cmp.isNaN[string] -/
def f230  (k : Nat) (x0 : ByteArray) : Option (Bool × Unit) :=
  some ((!(sEq x0 x0)), ())
def H230 : Hints where
  loop := fun n => match n with
    | _ => none
  region := fun n => match n with
    | _ => none
  cond := fun n => match n with
    | _ => none
  block := fun n => match n with
    | _ => none
abbrev A230 : Tys := (.cons .str .nil)
def ts230 : List (Nat × TD) := [(4, (.data .bool)), (9, (.data .str))]
noncomputable def fs230  : List (Nat × FSem) := []
noncomputable def body230 : Code := match Tryz.f230.body with | some c => c | none => .skip
theorem ty230 : chkTypes Tryz.prog ts230 = true := by kernel_rfl
theorem ev230  (k : Nat) (x : ((.cons .str .nil) : Tys).den) : evFun (mkEnv ts230 (fs230 )) H230 k body230 6 [.tmp 2] (explodes (.cons .str .nil) x) [] (dec (.cons .bool .nil)) = f230  k x.1 := by kernel_rfl
/-! ### cmp.Compare[string] -/
def f199 (g230 : ByteArray → (Bool)) (k : Nat) (x0 : ByteArray) (x1 : ByteArray) : Option (Int × Unit) :=
  bif (g230 x0) then
    bif (g230 x1) then
      some ((0 : Int), ())
    else
      some ((-1 : Int), ())
  else
    bif (g230 x1) then
      some ((1 : Int), ())
    else
      bif (sLt x0 x1) then
        some ((-1 : Int), ())
      else
        bif (!((sLt x0 x1) || (sEq x0 x1))) then
          some ((1 : Int), ())
        else
          some ((0 : Int), ())
def H199 : Hints where
  loop := fun n => match n with
    | _ => none
  region := fun n => match n with
    | _ => none
  cond := fun n => match n with
    | _ => none
  block := fun n => match n with
    | _ => none
abbrev A199 : Tys := (.cons .str (.cons .str .nil))
def ts199 : List (Nat × TD) := [(3, (.data (.int .i64))), (9, (.data .str))]
noncomputable def fs199 (g230 : ByteArray → (Bool)) : List (Nat × FSem) := [(230, .fn (.cons .str .nil) (.cons .bool .nil) fun x => ((g230 x.1), ()))]
noncomputable def body199 : Code := match Tryz.f199.body with | some c => c | none => .skip
theorem ty199 : chkTypes Tryz.prog ts199 = true := by kernel_rfl
theorem ev199 (g230 : ByteArray → (Bool)) (k : Nat) (x : ((.cons .str (.cons .str .nil)) : Tys).den) : evFun (mkEnv ts199 (fs199 g230)) H199 k body199 20 [.tmp 4] (explodes (.cons .str (.cons .str .nil)) x) [] (dec (.cons (.int .i64) .nil)) = f199 g230 k x.1 x.2.1 := by kernel_rfl
/-! ### slices.Compare[[]string,string] -/
def f160 (g199 : ByteArray → ByteArray → (Int)) (k : Nat) (x0 : List ByteArray) (x1 : List ByteArray) : Option (Int × Unit) :=
  Option.bind (α := (Int × Unit) ⊕ ((Unit) × (Unit))) (iter (σ := (Int × Unit) × (Unit)) (τ := (Int × Unit) ⊕ ((Unit) × (Unit))) k (fun y1 =>
      bif (decide (y1.1.1 < ((List.length x0 : Nat) : Int))) then
        bif (inR y1.1.1 ((List.length x0 : Nat) : Int)) then
          bif (decide (y1.1.1 ≥ ((List.length x1 : Nat) : Int))) then
            some (.inr (.inl ((1 : Int), ())))
          else
            bif (inR y1.1.1 ((List.length x1 : Nat) : Int)) then
              bif ((g199 (rd (α := ByteArray) ByteArray.empty x0 y1.1.1) (rd (α := ByteArray) ByteArray.empty x1 y1.1.1)) != (0 : Int)) then
                some (.inr (.inl ((g199 (rd (α := ByteArray) ByteArray.empty x0 y1.1.1) (rd (α := ByteArray) ByteArray.empty x1 y1.1.1)), ())))
              else
                some (.inl (((IntKind.i64.wrap (y1.1.1 + (1 : Int))), ()), ()))
            else
              none
        else
          none
      else
        some (.inr (.inr ((), ())))) (((0 : Int), ()), ())) fun r => match r with
  | .inl z => some z
  | .inr z2 =>
    bif (decide (((List.length x0 : Nat) : Int) < ((List.length x1 : Nat) : Int))) then
      some ((-1 : Int), ())
    else
      some ((0 : Int), ())
def H160 : Hints where
  loop := fun n => match n with
    | 0 => some ({ slots := [(11, (.int .i64))], objs := [], gone := [] }, 0, { slots := [], objs := [], gone := [] })
    | _ => none
  region := fun n => match n with
    | _ => none
  cond := fun n => match n with
    | _ => none
  block := fun n => match n with
    | _ => none
abbrev A160 : Tys := (.cons (.slice .str) (.cons (.slice .str) .nil))
def ts160 : List (Nat × TD) := [(3, (.data (.int .i64))), (9, (.data .str)), (60, (.data (.slice .str)))]
noncomputable def fs160 (g199 : ByteArray → ByteArray → (Int)) : List (Nat × FSem) := [(199, .fn (.cons .str (.cons .str .nil)) (.cons (.int .i64) .nil) fun x => ((g199 x.1 x.2.1), ()))]
noncomputable def body160 : Code := match Tryz.f160.body with | some c => c | none => .skip
theorem ty160 : chkTypes Tryz.prog ts160 = true := by kernel_rfl
theorem ev160 (g199 : ByteArray → ByteArray → (Int)) (k : Nat) (x : ((.cons (.slice .str) (.cons (.slice .str) .nil)) : Tys).den) : evFun (mkEnv ts160 (fs160 g199)) H160 k body160 36 [.tmp 4] (explodes (.cons (.slice .str) (.cons (.slice .str) .nil)) x) [] (dec (.cons (.int .i64) .nil)) = f160 g199 k x.1 x.2.1 := by kernel_rfl
/-! ### jitney/jitref2.ratingKey -/
def f161  (k : Nat) (x0 : ZT10) : Option ((List ByteArray) × Unit) :=
  some ([x0.2.2.1, x0.1, x0.2.1], ())
def H161 : Hints where
  loop := fun n => match n with
    | _ => none
  region := fun n => match n with
    | _ => none
  cond := fun n => match n with
    | _ => none
  block := fun n => match n with
    | _ => none
abbrev A161 : Tys := (.cons ZY2 .nil)
def ts161 : List (Nat × TD) := [(9, (.data .str)), (60, (.data (.slice .str))), (107, (.data ZY2))]
noncomputable def fs161  : List (Nat × FSem) := []
noncomputable def body161 : Code := match Tryz.f161.body with | some c => c | none => .skip
theorem ty161 : chkTypes Tryz.prog ts161 = true := by kernel_rfl
theorem ev161  (k : Nat) (x : ((.cons ZY2 .nil) : Tys).den) : evFun (mkEnv ts161 (fs161 )) H161 k body161 10 [.tmp 2] (explodes (.cons ZY2 .nil) x) [] (dec (.cons (.slice .str) .nil)) = f161  k x.1 := by kernel_rfl
/-! ### jitney/jitref2.RatingOrder -/
def f119 (g138 : Int → (Int)) (g160 : (List ByteArray) → (List ByteArray) → (Int)) (g161 : ZT10 → (List ByteArray)) (k : Nat) (x0 : ZT10) (x1 : ZT10) : Option (Int × Unit) :=
  bif ((g160 (g161 x0) (g161 x1)) != (0 : Int)) then
    some ((g160 (g161 x0) (g161 x1)), ())
  else
    some ((g138 (IntKind.i64.wrap (x0.2.2.2.2.1 - x1.2.2.2.2.1))), ())
def H119 : Hints where
  loop := fun n => match n with
    | _ => none
  region := fun n => match n with
    | _ => none
  cond := fun n => match n with
    | _ => none
  block := fun n => match n with
    | _ => none
abbrev A119 : Tys := (.cons ZY2 (.cons ZY2 .nil))
def ts119 : List (Nat × TD) := [(3, (.data (.int .i64))), (107, (.data ZY2))]
noncomputable def fs119 (g138 : Int → (Int)) (g160 : (List ByteArray) → (List ByteArray) → (Int)) (g161 : ZT10 → (List ByteArray)) : List (Nat × FSem) := [(138, .fn (.cons (.int .i64) .nil) (.cons (.int .i64) .nil) fun x => ((g138 x.1), ())), (160, .fn (.cons (.slice .str) (.cons (.slice .str) .nil)) (.cons (.int .i64) .nil) fun x => ((g160 x.1 x.2.1), ())), (161, .fn (.cons ZY2 .nil) (.cons (.slice .str) .nil) fun x => ((g161 x.1), ()))]
noncomputable def body119 : Code := match Tryz.f119.body with | some c => c | none => .skip
theorem ty119 : chkTypes Tryz.prog ts119 = true := by kernel_rfl
theorem ev119 (g138 : Int → (Int)) (g160 : (List ByteArray) → (List ByteArray) → (Int)) (g161 : ZT10 → (List ByteArray)) (k : Nat) (x : ((.cons ZY2 (.cons ZY2 .nil)) : Tys).den) : evFun (mkEnv ts119 (fs119 g138 g160 g161)) H119 k body119 20 [.tmp 4] (explodes (.cons ZY2 (.cons ZY2 .nil)) x) [] (dec (.cons (.int .i64) .nil)) = f119 g138 g160 g161 k x.1 x.2.1 := by kernel_rfl
/-! ### jitney/jitref2.RatingsFault -/
def f53 (g36 : ByteArray → (Bool)) (g37 : Int → (Bool)) (g71 : Int → Int → Int → (Bool)) (g119 : ZT10 → ZT10 → (Int)) (k : Nat) (x0 : List ZT10) : Option (Int × Unit) :=
  bif (decide (((List.length x0 : Nat) : Int) > (3000 : Int))) then
    some ((2 : Int), ())
  else
    Option.bind (α := (Int × Unit) ⊕ ((Unit) × (Unit))) (iter (σ := (Int × Unit) × (Unit)) (τ := (Int × Unit) ⊕ ((Unit) × (Unit))) k (fun y1 =>
        bif (decide (y1.1.1 < ((List.length x0 : Nat) : Int))) then
          bif (inR y1.1.1 ((List.length x0 : Nat) : Int)) then
            bif (!(g36 ((rd (α := ZT10) zZT10 x0 y1.1.1).1))) then
              some (.inr (.inl ((5 : Int), ())))
            else
              bif (!(g36 ((rd (α := ZT10) zZT10 x0 y1.1.1).2.1))) then
                some (.inr (.inl ((5 : Int), ())))
              else
                bif (!(g36 ((rd (α := ZT10) zZT10 x0 y1.1.1).2.2.1))) then
                  some (.inr (.inl ((5 : Int), ())))
                else
                  bif (sEq ((rd (α := ZT10) zZT10 x0 y1.1.1).1) ((rd (α := ZT10) zZT10 x0 y1.1.1).2.1)) then
                    some (.inr (.inl ((6 : Int), ())))
                  else
                    bif (!(g71 ((rd (α := ZT10) zZT10 x0 y1.1.1).2.2.2.1) (1 : Int) (5 : Int))) then
                      some (.inr (.inl ((1 : Int), ())))
                    else
                      bif (!(g37 ((rd (α := ZT10) zZT10 x0 y1.1.1).2.2.2.2.1))) then
                        some (.inr (.inl ((1 : Int), ())))
                      else
                        bif (decide (y1.1.1 > (0 : Int))) then
                          bif (inR (IntKind.i64.wrap (y1.1.1 - (1 : Int))) ((List.length x0 : Nat) : Int)) then
                            bif (decide ((g119 (rd (α := ZT10) zZT10 x0 (IntKind.i64.wrap (y1.1.1 - (1 : Int)))) (rd (α := ZT10) zZT10 x0 y1.1.1)) ≥ (0 : Int))) then
                              some (.inr (.inl ((7 : Int), ())))
                            else
                              some (.inl (((IntKind.i64.wrap (y1.1.1 + (1 : Int))), ()), ()))
                          else
                            none
                        else
                          some (.inl (((IntKind.i64.wrap (y1.1.1 + (1 : Int))), ()), ()))
          else
            none
        else
          some (.inr (.inr ((), ())))) (((0 : Int), ()), ())) fun r => match r with
    | .inl z => some z
    | .inr z2 =>
      some ((0 : Int), ())
def H53 : Hints where
  loop := fun n => match n with
    | 0 => some ({ slots := [(10, (.int .i64))], objs := [], gone := [] }, 0, { slots := [], objs := [], gone := [] })
    | _ => none
  region := fun n => match n with
    | _ => none
  cond := fun n => match n with
    | _ => none
  block := fun n => match n with
    | _ => none
abbrev A53 : Tys := (.cons (.slice ZY2) .nil)
def ts53 : List (Nat × TD) := [(3, (.data (.int .i64))), (9, (.data .str)), (32, (.data (.int .i64))), (101, (.data (.slice ZY2))), (107, (.data ZY2))]
noncomputable def fs53 (g36 : ByteArray → (Bool)) (g37 : Int → (Bool)) (g71 : Int → Int → Int → (Bool)) (g119 : ZT10 → ZT10 → (Int)) : List (Nat × FSem) := [(36, .fn (.cons .str .nil) (.cons .bool .nil) fun x => ((g36 x.1), ())), (37, .fn (.cons (.int .i64) .nil) (.cons .bool .nil) fun x => ((g37 x.1), ())), (71, .fn (.cons (.int .i64) (.cons (.int .i64) (.cons (.int .i64) .nil))) (.cons .bool .nil) fun x => ((g71 x.1 x.2.1 x.2.2.1), ())), (119, .fn (.cons ZY2 (.cons ZY2 .nil)) (.cons (.int .i64) .nil) fun x => ((g119 x.1 x.2.1), ()))]
noncomputable def body53 : Code := match Tryz.f53.body with | some c => c | none => .skip
theorem ty53 : chkTypes Tryz.prog ts53 = true := by kernel_rfl
theorem ev53 (g36 : ByteArray → (Bool)) (g37 : Int → (Bool)) (g71 : Int → Int → Int → (Bool)) (g119 : ZT10 → ZT10 → (Int)) (k : Nat) (x : ((.cons (.slice ZY2) .nil) : Tys).den) : evFun (mkEnv ts53 (fs53 g36 g37 g71 g119)) H53 k body53 63 [.tmp 2] (explodes (.cons (.slice ZY2) .nil) x) [] (dec (.cons (.int .i64) .nil)) = f53 g36 g37 g71 g119 k x.1 := by kernel_rfl
/-! ### strconv.Itoa -/
def f107 (g155 : Int → Option (ByteArray × Unit)) (k : Nat) (x0 : Int) : Option (ByteArray × Unit) :=
  Option.bind (g155 x0) fun v1 =>
  some (v1.1, ())
def H107 : Hints where
  loop := fun n => match n with
    | _ => none
  region := fun n => match n with
    | _ => none
  cond := fun n => match n with
    | _ => none
  block := fun n => match n with
    | _ => none
abbrev A107 : Tys := (.cons (.int .i64) .nil)
def ts107 : List (Nat × TD) := [(3, (.data (.int .i64))), (9, (.data .str))]
noncomputable def fs107 (g155 : Int → Option (ByteArray × Unit)) : List (Nat × FSem) := [(155, .pfn (.cons (.int .i64) .nil) (.cons .str .nil) fun x => (g155 x.1))]
noncomputable def body107 : Code := match Tryz.f107.body with | some c => c | none => .skip
theorem ty107 : chkTypes Tryz.prog ts107 = true := by kernel_rfl
theorem ev107 (g155 : Int → Option (ByteArray × Unit)) (k : Nat) (x : ((.cons (.int .i64) .nil) : Tys).den) : evFun (mkEnv ts107 (fs107 g155)) H107 k body107 5 [.tmp 2] (explodes (.cons (.int .i64) .nil) x) [] (dec (.cons .str .nil)) = f107 g155 k x.1 := by kernel_rfl
/-! ### jitney/jitref2.numbers -/
def f105 (g107 : Int → Option (ByteArray × Unit)) (g120 : (List ByteArray) → ByteArray → Option (ByteArray × Unit)) (k : Nat) (x0 : List Int) : Option (ByteArray × Unit) :=
  Option.bind (α := (ByteArray × Unit) ⊕ (((List ByteArray) × Unit) × (Unit))) (iter (σ := ((List ByteArray) × Int × Unit) × (Unit)) (τ := (ByteArray × Unit) ⊕ (((List ByteArray) × Unit) × (Unit))) k (fun y1 =>
      bif (decide (y1.1.2.1 < ((List.length x0 : Nat) : Int))) then
        bif (inR y1.1.2.1 ((List.length x0 : Nat) : Int)) then
          Option.bind (g107 (rd (α := Int) (0 : Int) x0 y1.1.2.1)) fun v2 =>
          bif decide (List.length y1.1.1 + List.length ([v2.1]) ≤ 4294967296) then
            some (.inl (((y1.1.1 ++ [v2.1]), (IntKind.i64.wrap (y1.1.2.1 + (1 : Int))), ()), ()))
          else
            none
        else
          none
      else
        some (.inr (.inr ((y1.1.1, ()), ())))) (([], (0 : Int), ()), ())) fun r => match r with
  | .inl z => some z
  | .inr z3 =>
    Option.bind (g120 z3.1.1 (ByteArray.mk #[32])) fun v4 =>
    some (v4.1, ())
def H105 : Hints where
  loop := fun n => match n with
    | 0 => some ({ slots := [(3, (.row .str)), (8, (.int .i64))], objs := [], gone := [] }, 0, { slots := [(3, (.row .str))], objs := [], gone := [] })
    | _ => none
  region := fun n => match n with
    | _ => none
  cond := fun n => match n with
    | _ => none
  block := fun n => match n with
    | _ => none
abbrev A105 : Tys := (.cons (.slice (.int .i64)) .nil)
def ts105 : List (Nat × TD) := [(3, (.data (.int .i64))), (9, (.data .str)), (31, (.data (.slice (.int .i64)))), (60, (.data (.slice .str)))]
noncomputable def fs105 (g107 : Int → Option (ByteArray × Unit)) (g120 : (List ByteArray) → ByteArray → Option (ByteArray × Unit)) : List (Nat × FSem) := [(107, .pfn (.cons (.int .i64) .nil) (.cons .str .nil) fun x => (g107 x.1)), (120, .pfn (.cons (.slice .str) (.cons .str .nil)) (.cons .str .nil) fun x => (g120 x.1 x.2.1))]
noncomputable def body105 : Code := match Tryz.f105.body with | some c => c | none => .skip
theorem ty105 : chkTypes Tryz.prog ts105 = true := by kernel_rfl
theorem ev105 (g107 : Int → Option (ByteArray × Unit)) (g120 : (List ByteArray) → ByteArray → Option (ByteArray × Unit)) (k : Nat) (x : ((.cons (.slice (.int .i64)) .nil) : Tys).den) : evFun (mkEnv ts105 (fs105 g107 g120)) H105 k body105 20 [.tmp 2] (explodes (.cons (.slice (.int .i64)) .nil) x) [] (dec (.cons .str .nil)) = f105 g107 g120 k x.1 := by kernel_rfl
/-! ### jitney/jitref2.RatingLines -/
def f54 (g105 : (List Int) → Option (ByteArray × Unit)) (g120 : (List ByteArray) → ByteArray → Option (ByteArray × Unit)) (k : Nat) (x0 : List ZT10) : Option (ByteArray × Unit) :=
  Option.bind (α := (ByteArray × Unit) ⊕ ((ByteArray × Unit) × (Unit))) (iter (σ := ZT2 × (Unit)) (τ := (ByteArray × Unit) ⊕ ((ByteArray × Unit) × (Unit))) k (fun y1 =>
      bif (decide (y1.1.2.1 < ((List.length x0 : Nat) : Int))) then
        bif (inR y1.1.2.1 ((List.length x0 : Nat) : Int)) then
          Option.bind (g105 ([(rd (α := ZT10) zZT10 x0 y1.1.2.1).2.2.2.1, (rd (α := ZT10) zZT10 x0 y1.1.2.1).2.2.2.2.1])) fun v2 =>
          Option.bind (g120 ([(rd (α := ZT10) zZT10 x0 y1.1.2.1).1, (rd (α := ZT10) zZT10 x0 y1.1.2.1).2.1, (rd (α := ZT10) zZT10 x0 y1.1.2.1).2.2.1, v2.1]) (ByteArray.mk #[32])) fun v3 =>
          bif decide (ByteArray.size v3.1 + ByteArray.size (ByteArray.mk #[10]) < 4611686018427387904) then
            bif decide (ByteArray.size y1.1.1 + ByteArray.size (v3.1 ++ (ByteArray.mk #[10])) < 4611686018427387904) then
              some (.inl (((y1.1.1 ++ (v3.1 ++ (ByteArray.mk #[10]))), (IntKind.i64.wrap (y1.1.2.1 + (1 : Int))), ()), ()))
            else
              none
          else
            none
        else
          none
      else
        some (.inr (.inr ((y1.1.1, ()), ())))) (((ByteArray.mk #[]), (0 : Int), ()), ())) fun r => match r with
  | .inl z => some z
  | .inr z4 =>
    some (z4.1.1, ())
def H54 : Hints where
  loop := fun n => match n with
    | 0 => some ({ slots := [(3, .str), (8, (.int .i64))], objs := [], gone := [] }, 0, { slots := [(3, .str)], objs := [], gone := [] })
    | _ => none
  region := fun n => match n with
    | _ => none
  cond := fun n => match n with
    | _ => none
  block := fun n => match n with
    | _ => none
abbrev A54 : Tys := (.cons (.slice ZY2) .nil)
def ts54 : List (Nat × TD) := [(3, (.data (.int .i64))), (9, (.data .str)), (31, (.data (.slice (.int .i64)))), (60, (.data (.slice .str))), (101, (.data (.slice ZY2))), (107, (.data ZY2))]
noncomputable def fs54 (g105 : (List Int) → Option (ByteArray × Unit)) (g120 : (List ByteArray) → ByteArray → Option (ByteArray × Unit)) : List (Nat × FSem) := [(105, .pfn (.cons (.slice (.int .i64)) .nil) (.cons .str .nil) fun x => (g105 x.1)), (120, .pfn (.cons (.slice .str) (.cons .str .nil)) (.cons .str .nil) fun x => (g120 x.1 x.2.1))]
noncomputable def body54 : Code := match Tryz.f54.body with | some c => c | none => .skip
theorem ty54 : chkTypes Tryz.prog ts54 = true := by kernel_rfl
theorem ev54 (g105 : (List Int) → Option (ByteArray × Unit)) (g120 : (List ByteArray) → ByteArray → Option (ByteArray × Unit)) (k : Nat) (x : ((.cons (.slice ZY2) .nil) : Tys).den) : evFun (mkEnv ts54 (fs54 g105 g120)) H54 k body54 31 [.tmp 2] (explodes (.cons (.slice ZY2) .nil) x) [] (dec (.cons .str .nil)) = f54 g105 g120 k x.1 := by kernel_rfl
/-! ### jitney/base.Out -/
def f74  (k : Nat) (x0 : Int) (x1 : Int) (x2 : Int) : Option (Bool × Unit) :=
  bif (decide (x0 < x1)) then
    some (true, ())
  else
    some ((decide (x0 > x2)), ())
def H74 : Hints where
  loop := fun n => match n with
    | _ => none
  region := fun n => match n with
    | _ => none
  cond := fun n => match n with
    | _ => none
  block := fun n => match n with
    | _ => none
abbrev A74 : Tys := (.cons (.int .i64) (.cons (.int .i64) (.cons (.int .i64) .nil)))
def ts74 : List (Nat × TD) := [(3, (.data (.int .i64))), (4, (.data .bool))]
noncomputable def fs74  : List (Nat × FSem) := []
noncomputable def body74 : Code := match Tryz.f74.body with | some c => c | none => .skip
theorem ty74 : chkTypes Tryz.prog ts74 = true := by kernel_rfl
theorem ev74  (k : Nat) (x : ((.cons (.int .i64) (.cons (.int .i64) (.cons (.int .i64) .nil))) : Tys).den) : evFun (mkEnv ts74 (fs74 )) H74 k body74 15 [.tmp 6] (explodes (.cons (.int .i64) (.cons (.int .i64) (.cons (.int .i64) .nil))) x) [] (dec (.cons .bool .nil)) = f74  k x.1 x.2.1 x.2.2.1 := by kernel_rfl
/-! ### jitney/base.Moment -/
def f73 (g74 : Int → Int → Int → (Bool)) (k : Nat) (x0 : Int) : Option (Bool × Unit) :=
  some ((!(g74 x0 (0 : Int) (345686399999 : Int))), ())
def H73 : Hints where
  loop := fun n => match n with
    | _ => none
  region := fun n => match n with
    | _ => none
  cond := fun n => match n with
    | _ => none
  block := fun n => match n with
    | _ => none
abbrev A73 : Tys := (.cons (.int .i64) .nil)
def ts73 : List (Nat × TD) := [(3, (.data (.int .i64))), (4, (.data .bool))]
noncomputable def fs73 (g74 : Int → Int → Int → (Bool)) : List (Nat × FSem) := [(74, .fn (.cons (.int .i64) (.cons (.int .i64) (.cons (.int .i64) .nil))) (.cons .bool .nil) fun x => ((g74 x.1 x.2.1 x.2.2.1), ()))]
noncomputable def body73 : Code := match Tryz.f73.body with | some c => c | none => .skip
theorem ty73 : chkTypes Tryz.prog ts73 = true := by kernel_rfl
theorem ev73 (g74 : Int → Int → Int → (Bool)) (k : Nat) (x : ((.cons (.int .i64) .nil) : Tys).den) : evFun (mkEnv ts73 (fs73 g74)) H73 k body73 6 [.tmp 2] (explodes (.cons (.int .i64) .nil) x) [] (dec (.cons .bool .nil)) = f73 g74 k x.1 := by kernel_rfl
/-! ### jitney/base.Key -/
def f75  (k : Nat) (x0 : ByteArray) : Option (Bool × Unit) :=
  bif (sEq x0 (ByteArray.mk #[])) then
    some (false, ())
  else
    bif (decide (((ByteArray.size x0 : Nat) : Int) > (40 : Int))) then
      some (false, ())
    else
      bif (inR (0 : Int) ((ByteArray.size x0 : Nat) : Int)) then
        bif (decide ((bt x0 (0 : Int)) < (97 : Int))) then
          some (false, ())
        else
          bif (inR (0 : Int) ((ByteArray.size x0 : Nat) : Int)) then
            bif (decide ((bt x0 (0 : Int)) > (122 : Int))) then
              some (false, ())
            else
              Option.bind (α := (Bool × Unit) ⊕ ((Unit) × (Unit))) (iter (σ := (Int × Unit) × (Unit)) (τ := (Bool × Unit) ⊕ ((Unit) × (Unit))) k (fun y1 =>
                  bif (decide (y1.1.1 < ((ByteArray.size x0 : Nat) : Int))) then
                    bif (inR y1.1.1 ((ByteArray.size x0 : Nat) : Int)) then
                      bif (decide ((bt x0 y1.1.1) ≥ (97 : Int))) then
                        bif (decide ((bt x0 y1.1.1) ≤ (122 : Int))) then
                          some (.inl (((IntKind.i64.wrap (y1.1.1 + (1 : Int))), ()), ()))
                        else
                          bif (decide ((bt x0 y1.1.1) ≥ (48 : Int))) then
                            bif (decide ((bt x0 y1.1.1) ≤ (57 : Int))) then
                              some (.inl (((IntKind.i64.wrap (y1.1.1 + (1 : Int))), ()), ()))
                            else
                              bif ((bt x0 y1.1.1) == (45 : Int)) then
                                some (.inl (((IntKind.i64.wrap (y1.1.1 + (1 : Int))), ()), ()))
                              else
                                bif (!((bt x0 y1.1.1) == (95 : Int))) then
                                  some (.inr (.inl (false, ())))
                                else
                                  some (.inl (((IntKind.i64.wrap (y1.1.1 + (1 : Int))), ()), ()))
                          else
                            bif ((bt x0 y1.1.1) == (45 : Int)) then
                              some (.inl (((IntKind.i64.wrap (y1.1.1 + (1 : Int))), ()), ()))
                            else
                              bif (!((bt x0 y1.1.1) == (95 : Int))) then
                                some (.inr (.inl (false, ())))
                              else
                                some (.inl (((IntKind.i64.wrap (y1.1.1 + (1 : Int))), ()), ()))
                      else
                        bif (decide ((bt x0 y1.1.1) ≥ (48 : Int))) then
                          bif (decide ((bt x0 y1.1.1) ≤ (57 : Int))) then
                            some (.inl (((IntKind.i64.wrap (y1.1.1 + (1 : Int))), ()), ()))
                          else
                            bif ((bt x0 y1.1.1) == (45 : Int)) then
                              some (.inl (((IntKind.i64.wrap (y1.1.1 + (1 : Int))), ()), ()))
                            else
                              bif (!((bt x0 y1.1.1) == (95 : Int))) then
                                some (.inr (.inl (false, ())))
                              else
                                some (.inl (((IntKind.i64.wrap (y1.1.1 + (1 : Int))), ()), ()))
                        else
                          bif ((bt x0 y1.1.1) == (45 : Int)) then
                            some (.inl (((IntKind.i64.wrap (y1.1.1 + (1 : Int))), ()), ()))
                          else
                            bif (!((bt x0 y1.1.1) == (95 : Int))) then
                              some (.inr (.inl (false, ())))
                            else
                              some (.inl (((IntKind.i64.wrap (y1.1.1 + (1 : Int))), ()), ()))
                    else
                      none
                  else
                    some (.inr (.inr ((), ())))) (((0 : Int), ()), ())) fun r => match r with
              | .inl z => some z
              | .inr z2 =>
                some (true, ())
          else
            none
      else
        none
def H75 : Hints where
  loop := fun n => match n with
    | 0 => some ({ slots := [(24, (.int .i64))], objs := [], gone := [] }, 0, { slots := [], objs := [], gone := [] })
    | _ => none
  region := fun n => match n with
    | _ => none
  cond := fun n => match n with
    | _ => none
  block := fun n => match n with
    | _ => none
abbrev A75 : Tys := (.cons .str .nil)
def ts75 : List (Nat × TD) := [(3, (.data (.int .i64))), (4, (.data .bool)), (5, (.data (.int .u8))), (9, (.data .str))]
noncomputable def fs75  : List (Nat × FSem) := []
noncomputable def body75 : Code := match Tryz.f75.body with | some c => c | none => .skip
theorem ty75 : chkTypes Tryz.prog ts75 = true := by kernel_rfl
theorem ev75  (k : Nat) (x : ((.cons .str .nil) : Tys).den) : evFun (mkEnv ts75 (fs75 )) H75 k body75 54 [.tmp 2] (explodes (.cons .str .nil) x) [] (dec (.cons .bool .nil)) = f75  k x.1 := by kernel_rfl
/-! ### cmp.Or[int] -/
def f66  (k : Nat) (x0 : List Int) : Option (Int × Unit) :=
  Option.bind (α := (Int × Unit) ⊕ ((Unit) × (Unit))) (iter (σ := (Int × Unit) × (Unit)) (τ := (Int × Unit) ⊕ ((Unit) × (Unit))) k (fun y1 =>
      bif (decide (y1.1.1 < ((List.length x0 : Nat) : Int))) then
        bif (inR y1.1.1 ((List.length x0 : Nat) : Int)) then
          bif ((rd (α := Int) (0 : Int) x0 y1.1.1) != (0 : Int)) then
            some (.inr (.inl ((rd (α := Int) (0 : Int) x0 y1.1.1), ())))
          else
            some (.inl (((IntKind.i64.wrap (y1.1.1 + (1 : Int))), ()), ()))
        else
          none
      else
        some (.inr (.inr ((), ())))) (((0 : Int), ()), ())) fun r => match r with
  | .inl z => some z
  | .inr z2 =>
    some ((0 : Int), ())
def H66 : Hints where
  loop := fun n => match n with
    | 0 => some ({ slots := [(8, (.int .i64))], objs := [], gone := [] }, 0, { slots := [], objs := [], gone := [] })
    | _ => none
  region := fun n => match n with
    | _ => none
  cond := fun n => match n with
    | _ => none
  block := fun n => match n with
    | _ => none
abbrev A66 : Tys := (.cons (.slice (.int .i64)) .nil)
def ts66 : List (Nat × TD) := [(3, (.data (.int .i64))), (31, (.data (.slice (.int .i64))))]
noncomputable def fs66  : List (Nat × FSem) := []
noncomputable def body66 : Code := match Tryz.f66.body with | some c => c | none => .skip
theorem ty66 : chkTypes Tryz.prog ts66 = true := by kernel_rfl
theorem ev66  (k : Nat) (x : ((.cons (.slice (.int .i64)) .nil) : Tys).den) : evFun (mkEnv ts66 (fs66 )) H66 k body66 18 [.tmp 2] (explodes (.cons (.slice (.int .i64)) .nil) x) [] (dec (.cons (.int .i64) .nil)) = f66  k x.1 := by kernel_rfl
/-! ### cmp.isNaN[int] -/
def f132  (k : Nat) (x0 : Int) : Option (Bool × Unit) :=
  some ((x0 != x0), ())
def H132 : Hints where
  loop := fun n => match n with
    | _ => none
  region := fun n => match n with
    | _ => none
  cond := fun n => match n with
    | _ => none
  block := fun n => match n with
    | _ => none
abbrev A132 : Tys := (.cons (.int .i64) .nil)
def ts132 : List (Nat × TD) := [(3, (.data (.int .i64))), (4, (.data .bool))]
noncomputable def fs132  : List (Nat × FSem) := []
noncomputable def body132 : Code := match Tryz.f132.body with | some c => c | none => .skip
theorem ty132 : chkTypes Tryz.prog ts132 = true := by kernel_rfl
theorem ev132  (k : Nat) (x : ((.cons (.int .i64) .nil) : Tys).den) : evFun (mkEnv ts132 (fs132 )) H132 k body132 6 [.tmp 2] (explodes (.cons (.int .i64) .nil) x) [] (dec (.cons .bool .nil)) = f132  k x.1 := by kernel_rfl
/-! ### cmp.Compare[int] -/
def f67 (g132 : Int → (Bool)) (k : Nat) (x0 : Int) (x1 : Int) : Option (Int × Unit) :=
  bif (g132 x0) then
    bif (g132 x1) then
      some ((0 : Int), ())
    else
      some ((-1 : Int), ())
  else
    bif (g132 x1) then
      some ((1 : Int), ())
    else
      bif (decide (x0 < x1)) then
        some ((-1 : Int), ())
      else
        bif (decide (x0 > x1)) then
          some ((1 : Int), ())
        else
          some ((0 : Int), ())
def H67 : Hints where
  loop := fun n => match n with
    | _ => none
  region := fun n => match n with
    | _ => none
  cond := fun n => match n with
    | _ => none
  block := fun n => match n with
    | _ => none
abbrev A67 : Tys := (.cons (.int .i64) (.cons (.int .i64) .nil))
def ts67 : List (Nat × TD) := [(3, (.data (.int .i64)))]
noncomputable def fs67 (g132 : Int → (Bool)) : List (Nat × FSem) := [(132, .fn (.cons (.int .i64) .nil) (.cons .bool .nil) fun x => ((g132 x.1), ()))]
noncomputable def body67 : Code := match Tryz.f67.body with | some c => c | none => .skip
theorem ty67 : chkTypes Tryz.prog ts67 = true := by kernel_rfl
theorem ev67 (g132 : Int → (Bool)) (k : Nat) (x : ((.cons (.int .i64) (.cons (.int .i64) .nil)) : Tys).den) : evFun (mkEnv ts67 (fs67 g132)) H67 k body67 20 [.tmp 4] (explodes (.cons (.int .i64) (.cons (.int .i64) .nil)) x) [] (dec (.cons (.int .i64) .nil)) = f67 g132 k x.1 x.2.1 := by kernel_rfl
/-! ### strings.Compare -/
def f68 (g133 : ByteArray → ByteArray → (Int)) (k : Nat) (x0 : ByteArray) (x1 : ByteArray) : Option (Int × Unit) :=
  some ((g133 x0 x1), ())
def H68 : Hints where
  loop := fun n => match n with
    | _ => none
  region := fun n => match n with
    | _ => none
  cond := fun n => match n with
    | _ => none
  block := fun n => match n with
    | _ => none
abbrev A68 : Tys := (.cons .str (.cons .str .nil))
def ts68 : List (Nat × TD) := [(3, (.data (.int .i64))), (9, (.data .str))]
noncomputable def fs68 (g133 : ByteArray → ByteArray → (Int)) : List (Nat × FSem) := [(133, .fn (.cons .str (.cons .str .nil)) (.cons (.int .i64) .nil) fun x => ((g133 x.1 x.2.1), ()))]
noncomputable def body68 : Code := match Tryz.f68.body with | some c => c | none => .skip
theorem ty68 : chkTypes Tryz.prog ts68 = true := by kernel_rfl
theorem ev68 (g133 : ByteArray → ByteArray → (Int)) (k : Nat) (x : ((.cons .str (.cons .str .nil)) : Tys).den) : evFun (mkEnv ts68 (fs68 g133)) H68 k body68 8 [.tmp 4] (explodes (.cons .str (.cons .str .nil)) x) [] (dec (.cons (.int .i64) .nil)) = f68 g133 k x.1 x.2.1 := by kernel_rfl
/-! ### jitney/trust.sameWords -/
def f201 (g66 : (List Int) → (Int)) (g68 : ByteArray → ByteArray → (Int)) (k : Nat) (x0 : ZT10) (x1 : ZT10) : Option (Int × Unit) :=
  some ((g66 ([(g68 x0.2.2.1 x1.2.2.1), (g68 x0.1 x1.1), (g68 x0.2.1 x1.2.1)])), ())
def H201 : Hints where
  loop := fun n => match n with
    | _ => none
  region := fun n => match n with
    | _ => none
  cond := fun n => match n with
    | _ => none
  block := fun n => match n with
    | _ => none
abbrev A201 : Tys := (.cons ZY2 (.cons ZY2 .nil))
def ts201 : List (Nat × TD) := [(3, (.data (.int .i64))), (9, (.data .str)), (31, (.data (.slice (.int .i64)))), (107, (.data ZY2))]
noncomputable def fs201 (g66 : (List Int) → (Int)) (g68 : ByteArray → ByteArray → (Int)) : List (Nat × FSem) := [(66, .fn (.cons (.slice (.int .i64)) .nil) (.cons (.int .i64) .nil) fun x => ((g66 x.1), ())), (68, .fn (.cons .str (.cons .str .nil)) (.cons (.int .i64) .nil) fun x => ((g68 x.1 x.2.1), ()))]
noncomputable def body201 : Code := match Tryz.f201.body with | some c => c | none => .skip
theorem ty201 : chkTypes Tryz.prog ts201 = true := by kernel_rfl
theorem ev201 (g66 : (List Int) → (Int)) (g68 : ByteArray → ByteArray → (Int)) (k : Nat) (x : ((.cons ZY2 (.cons ZY2 .nil)) : Tys).den) : evFun (mkEnv ts201 (fs201 g66 g68)) H201 k body201 22 [.tmp 4] (explodes (.cons ZY2 (.cons ZY2 .nil)) x) [] (dec (.cons (.int .i64) .nil)) = f201 g66 g68 k x.1 x.2.1 := by kernel_rfl
/-! ### jitney/trust.byRating -/
def f163 (g66 : (List Int) → (Int)) (g67 : Int → Int → (Int)) (g201 : ZT10 → ZT10 → (Int)) (k : Nat) (x0 : ZT10) (x1 : ZT10) : Option (Int × Unit) :=
  some ((g66 ([(g201 x0 x1), (g67 x0.2.2.2.2.1 x1.2.2.2.2.1)])), ())
def H163 : Hints where
  loop := fun n => match n with
    | _ => none
  region := fun n => match n with
    | _ => none
  cond := fun n => match n with
    | _ => none
  block := fun n => match n with
    | _ => none
abbrev A163 : Tys := (.cons ZY2 (.cons ZY2 .nil))
def ts163 : List (Nat × TD) := [(3, (.data (.int .i64))), (31, (.data (.slice (.int .i64)))), (107, (.data ZY2))]
noncomputable def fs163 (g66 : (List Int) → (Int)) (g67 : Int → Int → (Int)) (g201 : ZT10 → ZT10 → (Int)) : List (Nat × FSem) := [(66, .fn (.cons (.slice (.int .i64)) .nil) (.cons (.int .i64) .nil) fun x => ((g66 x.1), ())), (67, .fn (.cons (.int .i64) (.cons (.int .i64) .nil)) (.cons (.int .i64) .nil) fun x => ((g67 x.1 x.2.1), ())), (201, .fn (.cons ZY2 (.cons ZY2 .nil)) (.cons (.int .i64) .nil) fun x => ((g201 x.1 x.2.1), ()))]
noncomputable def body163 : Code := match Tryz.f163.body with | some c => c | none => .skip
theorem ty163 : chkTypes Tryz.prog ts163 = true := by kernel_rfl
theorem ev163 (g66 : (List Int) → (Int)) (g67 : Int → Int → (Int)) (g201 : ZT10 → ZT10 → (Int)) (k : Nat) (x : ((.cons ZY2 (.cons ZY2 .nil)) : Tys).den) : evFun (mkEnv ts163 (fs163 g66 g67 g201)) H163 k body163 15 [.tmp 4] (explodes (.cons ZY2 (.cons ZY2 .nil)) x) [] (dec (.cons (.int .i64) .nil)) = f163 g66 g67 g201 k x.1 x.2.1 := by kernel_rfl
/-! ### jitney/trust.CheckRatings -/
def f121 (g73 : Int → (Bool)) (g74 : Int → Int → Int → (Bool)) (g75 : ByteArray → (Bool)) (g163 : ZT10 → ZT10 → (Int)) (k : Nat) (x0 : List ZT10) : Option (Int × Unit) :=
  bif (decide (((List.length x0 : Nat) : Int) > (3000 : Int))) then
    some ((2 : Int), ())
  else
    Option.bind (α := (Int × Unit) ⊕ ((Unit) × (Unit))) (iter (σ := (Int × Unit) × (Unit)) (τ := (Int × Unit) ⊕ ((Unit) × (Unit))) k (fun y1 =>
        bif (decide (y1.1.1 < ((List.length x0 : Nat) : Int))) then
          bif (inR y1.1.1 ((List.length x0 : Nat) : Int)) then
            bif (!(g75 ((rd (α := ZT10) zZT10 x0 y1.1.1).1))) then
              some (.inr (.inl ((5 : Int), ())))
            else
              bif (!(g75 ((rd (α := ZT10) zZT10 x0 y1.1.1).2.1))) then
                some (.inr (.inl ((5 : Int), ())))
              else
                bif (!(g75 ((rd (α := ZT10) zZT10 x0 y1.1.1).2.2.1))) then
                  some (.inr (.inl ((5 : Int), ())))
                else
                  bif (sEq ((rd (α := ZT10) zZT10 x0 y1.1.1).1) ((rd (α := ZT10) zZT10 x0 y1.1.1).2.1)) then
                    some (.inr (.inl ((6 : Int), ())))
                  else
                    bif (g74 ((rd (α := ZT10) zZT10 x0 y1.1.1).2.2.2.1) (1 : Int) (5 : Int)) then
                      some (.inr (.inl ((1 : Int), ())))
                    else
                      bif (!(g73 ((rd (α := ZT10) zZT10 x0 y1.1.1).2.2.2.2.1))) then
                        some (.inr (.inl ((1 : Int), ())))
                      else
                        bif (decide (y1.1.1 > (0 : Int))) then
                          bif (inR (IntKind.i64.wrap (y1.1.1 - (1 : Int))) ((List.length x0 : Nat) : Int)) then
                            bif (decide ((g163 (rd (α := ZT10) zZT10 x0 y1.1.1) (rd (α := ZT10) zZT10 x0 (IntKind.i64.wrap (y1.1.1 - (1 : Int))))) ≤ (0 : Int))) then
                              some (.inr (.inl ((7 : Int), ())))
                            else
                              some (.inl (((IntKind.i64.wrap (y1.1.1 + (1 : Int))), ()), ()))
                          else
                            none
                        else
                          some (.inl (((IntKind.i64.wrap (y1.1.1 + (1 : Int))), ()), ()))
          else
            none
        else
          some (.inr (.inr ((), ())))) (((0 : Int), ()), ())) fun r => match r with
    | .inl z => some z
    | .inr z2 =>
      some ((0 : Int), ())
def H121 : Hints where
  loop := fun n => match n with
    | 0 => some ({ slots := [(10, (.int .i64))], objs := [], gone := [] }, 0, { slots := [], objs := [], gone := [] })
    | _ => none
  region := fun n => match n with
    | _ => none
  cond := fun n => match n with
    | _ => none
  block := fun n => match n with
    | _ => none
abbrev A121 : Tys := (.cons (.slice ZY2) .nil)
def ts121 : List (Nat × TD) := [(3, (.data (.int .i64))), (9, (.data .str)), (32, (.data (.int .i64))), (101, (.data (.slice ZY2))), (107, (.data ZY2))]
noncomputable def fs121 (g73 : Int → (Bool)) (g74 : Int → Int → Int → (Bool)) (g75 : ByteArray → (Bool)) (g163 : ZT10 → ZT10 → (Int)) : List (Nat × FSem) := [(73, .fn (.cons (.int .i64) .nil) (.cons .bool .nil) fun x => ((g73 x.1), ())), (74, .fn (.cons (.int .i64) (.cons (.int .i64) (.cons (.int .i64) .nil))) (.cons .bool .nil) fun x => ((g74 x.1 x.2.1 x.2.2.1), ())), (75, .fn (.cons .str .nil) (.cons .bool .nil) fun x => ((g75 x.1), ())), (163, .fn (.cons ZY2 (.cons ZY2 .nil)) (.cons (.int .i64) .nil) fun x => ((g163 x.1 x.2.1), ()))]
noncomputable def body121 : Code := match Tryz.f121.body with | some c => c | none => .skip
theorem ty121 : chkTypes Tryz.prog ts121 = true := by kernel_rfl
theorem ev121 (g73 : Int → (Bool)) (g74 : Int → Int → Int → (Bool)) (g75 : ByteArray → (Bool)) (g163 : ZT10 → ZT10 → (Int)) (k : Nat) (x : ((.cons (.slice ZY2) .nil) : Tys).den) : evFun (mkEnv ts121 (fs121 g73 g74 g75 g163)) H121 k body121 62 [.tmp 2] (explodes (.cons (.slice ZY2) .nil) x) [] (dec (.cons (.int .i64) .nil)) = f121 g73 g74 g75 g163 k x.1 := by kernel_rfl
/-! ### jitney/trust.Text -/
def f55 (g107 : Int → Option (ByteArray × Unit)) (g121 : (List ZT10) → (Int)) (k : Nat) (x0 : List ZT10) : Option ZT2 :=
  bif ((g121 x0) != (0 : Int)) then
    some ((ByteArray.mk #[]), (g121 x0), ())
  else
    Option.bind (α := ZT2 ⊕ ((Unit) × ZT5)) (iter (σ := (Int × Unit) × ZT5) (τ := ZT2 ⊕ ((Unit) × ZT5)) k (fun y1 =>
        bif (decide (y1.1.1 < ((List.length x0 : Nat) : Int))) then
          bif (inR y1.1.1 ((List.length x0 : Nat) : Int)) then
            bif decide (ByteArray.size ((rd (α := ZT10) zZT10 x0 y1.1.1).1) + ByteArray.size (ByteArray.mk #[32]) < 4611686018427387904) then
              bif decide (ByteArray.size ((rd (α := ZT10) zZT10 x0 y1.1.1).1 ++ (ByteArray.mk #[32])) + ByteArray.size ((rd (α := ZT10) zZT10 x0 y1.1.1).2.1) < 4611686018427387904) then
                bif decide (ByteArray.size (((rd (α := ZT10) zZT10 x0 y1.1.1).1 ++ (ByteArray.mk #[32])) ++ (rd (α := ZT10) zZT10 x0 y1.1.1).2.1) + ByteArray.size (ByteArray.mk #[32]) < 4611686018427387904) then
                  bif decide (ByteArray.size ((((rd (α := ZT10) zZT10 x0 y1.1.1).1 ++ (ByteArray.mk #[32])) ++ (rd (α := ZT10) zZT10 x0 y1.1.1).2.1) ++ (ByteArray.mk #[32])) + ByteArray.size ((rd (α := ZT10) zZT10 x0 y1.1.1).2.2.1) < 4611686018427387904) then
                    bif decide (ByteArray.size (((((rd (α := ZT10) zZT10 x0 y1.1.1).1 ++ (ByteArray.mk #[32])) ++ (rd (α := ZT10) zZT10 x0 y1.1.1).2.1) ++ (ByteArray.mk #[32])) ++ (rd (α := ZT10) zZT10 x0 y1.1.1).2.2.1) + ByteArray.size (ByteArray.mk #[32]) < 4611686018427387904) then
                      Option.bind (g107 ((rd (α := ZT10) zZT10 x0 y1.1.1).2.2.2.1)) fun v2 =>
                      bif decide (ByteArray.size ((((((rd (α := ZT10) zZT10 x0 y1.1.1).1 ++ (ByteArray.mk #[32])) ++ (rd (α := ZT10) zZT10 x0 y1.1.1).2.1) ++ (ByteArray.mk #[32])) ++ (rd (α := ZT10) zZT10 x0 y1.1.1).2.2.1) ++ (ByteArray.mk #[32])) + ByteArray.size v2.1 < 4611686018427387904) then
                        bif decide (ByteArray.size (((((((rd (α := ZT10) zZT10 x0 y1.1.1).1 ++ (ByteArray.mk #[32])) ++ (rd (α := ZT10) zZT10 x0 y1.1.1).2.1) ++ (ByteArray.mk #[32])) ++ (rd (α := ZT10) zZT10 x0 y1.1.1).2.2.1) ++ (ByteArray.mk #[32])) ++ v2.1) + ByteArray.size (ByteArray.mk #[32]) < 4611686018427387904) then
                          Option.bind (g107 ((rd (α := ZT10) zZT10 x0 y1.1.1).2.2.2.2.1)) fun v3 =>
                          bif decide (ByteArray.size ((((((((rd (α := ZT10) zZT10 x0 y1.1.1).1 ++ (ByteArray.mk #[32])) ++ (rd (α := ZT10) zZT10 x0 y1.1.1).2.1) ++ (ByteArray.mk #[32])) ++ (rd (α := ZT10) zZT10 x0 y1.1.1).2.2.1) ++ (ByteArray.mk #[32])) ++ v2.1) ++ (ByteArray.mk #[32])) + ByteArray.size v3.1 < 4611686018427387904) then
                            bif decide (ByteArray.size (((((((((rd (α := ZT10) zZT10 x0 y1.1.1).1 ++ (ByteArray.mk #[32])) ++ (rd (α := ZT10) zZT10 x0 y1.1.1).2.1) ++ (ByteArray.mk #[32])) ++ (rd (α := ZT10) zZT10 x0 y1.1.1).2.2.1) ++ (ByteArray.mk #[32])) ++ v2.1) ++ (ByteArray.mk #[32])) ++ v3.1) + ByteArray.size (ByteArray.mk #[10]) < 4611686018427387904) then
                              bif decide (ByteArray.size y1.2.1.1 + ByteArray.size ((((((((((rd (α := ZT10) zZT10 x0 y1.1.1).1 ++ (ByteArray.mk #[32])) ++ (rd (α := ZT10) zZT10 x0 y1.1.1).2.1) ++ (ByteArray.mk #[32])) ++ (rd (α := ZT10) zZT10 x0 y1.1.1).2.2.1) ++ (ByteArray.mk #[32])) ++ v2.1) ++ (ByteArray.mk #[32])) ++ v3.1) ++ (ByteArray.mk #[10])) ≤ 4294967296) then
                                some (.inl (((IntKind.i64.wrap (y1.1.1 + (1 : Int))), ()), (((y1.2.1.1 ++ ((((((((((rd (α := ZT10) zZT10 x0 y1.1.1).1 ++ (ByteArray.mk #[32])) ++ (rd (α := ZT10) zZT10 x0 y1.1.1).2.1) ++ (ByteArray.mk #[32])) ++ (rd (α := ZT10) zZT10 x0 y1.1.1).2.2.1) ++ (ByteArray.mk #[32])) ++ v2.1) ++ (ByteArray.mk #[32])) ++ v3.1) ++ (ByteArray.mk #[10]))), ()), ())))
                              else
                                none
                            else
                              none
                          else
                            none
                        else
                          none
                      else
                        none
                    else
                      none
                  else
                    none
                else
                  none
              else
                none
            else
              none
          else
            none
        else
          some (.inr (.inr ((), ((y1.2.1.1, ()), ()))))) (((0 : Int), ()), zZT5)) fun r => match r with
    | .inl z => some z
    | .inr z4 =>
      bif (decide (((ByteArray.size z4.2.1.1 : Nat) : Int) > (200000 : Int))) then
        some ((ByteArray.mk #[]), (2 : Int), ())
      else
        some (z4.2.1.1, (0 : Int), ())
def H55 : Hints where
  loop := fun n => match n with
    | 0 => some ({ slots := [(15, (.int .i64))], objs := [(0, (.box (.agg (.cons (.cell .ptr) (.cons (.data (.slice (.int .u8))) .nil))) (.agg (.skip (.cons .bytes .nil)))))], gone := [] }, 0, { slots := [], objs := [(0, (.box (.agg (.cons (.cell .ptr) (.cons (.data (.slice (.int .u8))) .nil))) (.agg (.skip (.cons .bytes .nil)))))], gone := [] })
    | _ => none
  region := fun n => match n with
    | _ => none
  cond := fun n => match n with
    | _ => none
  block := fun n => match n with
    | _ => none
def Hi55_106 : Hints where
  loop := fun n => match n with
    | _ => none
  region := fun n => match n with
    | _ => none
  cond := fun n => match n with
    | _ => none
  block := fun n => match n with
    | _ => none
def tsi55_106 : List (Nat × TD) := [(9, (.data .str)), (158, (.data (.slice (.int .u8)))), (160, (.agg (.cons (.cell .ptr) (.cons (.data (.slice (.int .u8))) .nil))))]
noncomputable def bodyi55_106 : Code := match Tryz.f106.body with | some c => c | none => .skip
noncomputable def fsi55_106 (g107 : Int → Option (ByteArray × Unit)) (g121 : (List ZT10) → (Int)) (k : Nat) : List (Nat × FSem) := [(154, .cck)]
theorem tyi55_106 : chkTypes Tryz.prog tsi55_106 = true := by kernel_rfl
def Hi55_108 : Hints where
  loop := fun n => match n with
    | _ => none
  region := fun n => match n with
    | _ => none
  cond := fun n => match n with
    | _ => none
  block := fun n => match n with
    | _ => none
def tsi55_108 : List (Nat × TD) := [(158, (.data (.slice (.int .u8)))), (160, (.agg (.cons (.cell .ptr) (.cons (.data (.slice (.int .u8))) .nil))))]
noncomputable def bodyi55_108 : Code := match Tryz.f108.body with | some c => c | none => .skip
noncomputable def fsi55_108 (g107 : Int → Option (ByteArray × Unit)) (g121 : (List ZT10) → (Int)) (k : Nat) : List (Nat × FSem) := []
theorem tyi55_108 : chkTypes Tryz.prog tsi55_108 = true := by kernel_rfl
abbrev A55 : Tys := (.cons (.slice ZY2) .nil)
def ts55 : List (Nat × TD) := [(3, (.data (.int .i64))), (9, (.data .str)), (32, (.data (.int .i64))), (101, (.data (.slice ZY2))), (107, (.data ZY2)), (160, (.agg (.cons (.cell .ptr) (.cons (.data (.slice (.int .u8))) .nil))))]
noncomputable def fs55 (g107 : Int → Option (ByteArray × Unit)) (g121 : (List ZT10) → (Int)) (k : Nat) : List (Nat × FSem) := [(106, .ev (mkEnv tsi55_106 (fsi55_106 g107 g121 k)) Hi55_106 k bodyi55_106 19 [.tmp 4, .tmp 5]), (107, .pfn (.cons (.int .i64) .nil) (.cons .str .nil) fun x => (g107 x.1)), (108, .ev (mkEnv tsi55_108 (fsi55_108 g107 g121 k)) Hi55_108 k bodyi55_108 8 [.tmp 2]), (109, .bstr), (121, .fn (.cons (.slice ZY2) .nil) (.cons (.int .i64) .nil) fun x => ((g121 x.1), ()))]
noncomputable def body55 : Code := match Tryz.f55.body with | some c => c | none => .skip
theorem ty55 : chkTypes Tryz.prog ts55 = true := by kernel_rfl
theorem ev55 (g107 : Int → Option (ByteArray × Unit)) (g121 : (List ZT10) → (Int)) (k : Nat) (x : ((.cons (.slice ZY2) .nil) : Tys).den) : evFun (mkEnv ts55 (fs55 g107 g121 k)) H55 k body55 45 [.tmp 2, .tmp 3] (explodes (.cons (.slice ZY2) .nil) x) [] (dec (.cons .str (.cons (.int .i64) .nil))) = f55 g107 g121 k x.1 := by kernel_rfl
/-! ### slices.Clone[[]jitney/api.Rating,jitney/api.Rating] -/
def f56  (k : Nat) (x0 : List ZT10) : Option ((List ZT10) × Unit) :=
  bif Nat.ble (List.length x0) 0 then
    none
  else
    bif decide (List.length ([] : List ZT10) + List.length x0 ≤ 4294967296) then
      some ((([] : List ZT10) ++ x0), ())
    else
      none
def H56 : Hints where
  loop := fun n => match n with
    | _ => none
  region := fun n => match n with
    | _ => none
  cond := fun n => match n with
    | _ => none
  block := fun n => match n with
    | _ => none
def ts56 : List (Nat × TD) := [(101, (.data (.slice ZY2)))]
noncomputable def fs56  : List (Nat × FSem) := []
noncomputable def body56 : Code := match Tryz.f56.body with | some c => c | none => .skip
theorem ty56 : chkTypes Tryz.prog ts56 = true := by kernel_rfl
theorem ev56  (k : Nat) (x : ((.cons (.slice ZY2) .nil) : Tys).den) : evFun (mkEnv ts56 (fs56 )) H56 k body56 8 [.tmp 2] (explodes (.cons (.slice ZY2) .nil) x) [] (dec (.cons (.slice ZY2) .nil)) = f56  k x.1 := by kernel_rfl
def s56 (l : List ZT10) : Option ((List ZT10) × Unit) := if l.length ≤ 4294967296 then some (l, ()) else none
/-! ### jitney/base.Words -/
def f112 (g116 : ByteArray → ByteArray → Option ((List ByteArray) × Unit)) (k : Nat) (x0 : ByteArray) (x1 : Int) : Option ((List ByteArray) × Bool × Unit) :=
  Option.bind (g116 x0 (ByteArray.mk #[32])) fun v1 =>
  bif (((List.length v1.1 : Nat) : Int) != x1) then
    some ([], false, ())
  else
    Option.bind (α := ((List ByteArray) × Bool × Unit) ⊕ ((Unit) × (Unit))) (iter (σ := (Int × Unit) × (Unit)) (τ := ((List ByteArray) × Bool × Unit) ⊕ ((Unit) × (Unit))) k (fun y2 =>
        bif (decide (y2.1.1 < ((List.length v1.1 : Nat) : Int))) then
          bif (inR y2.1.1 ((List.length v1.1 : Nat) : Int)) then
            bif (sEq (rd (α := ByteArray) ByteArray.empty v1.1 y2.1.1) (ByteArray.mk #[])) then
              some (.inr (.inl ([], false, ())))
            else
              some (.inl (((IntKind.i64.wrap (y2.1.1 + (1 : Int))), ()), ()))
          else
            none
        else
          some (.inr (.inr ((), ())))) (((0 : Int), ()), ())) fun r => match r with
    | .inl z => some z
    | .inr z3 =>
      some (v1.1, true, ())
def H112 : Hints where
  loop := fun n => match n with
    | 0 => some ({ slots := [(17, (.int .i64))], objs := [], gone := [] }, 0, { slots := [], objs := [], gone := [] })
    | _ => none
  region := fun n => match n with
    | _ => none
  cond := fun n => match n with
    | _ => none
  block := fun n => match n with
    | _ => none
abbrev A112 : Tys := (.cons .str (.cons (.int .i64) .nil))
def ts112 : List (Nat × TD) := [(3, (.data (.int .i64))), (4, (.data .bool)), (9, (.data .str)), (60, (.data (.slice .str)))]
noncomputable def fs112 (g116 : ByteArray → ByteArray → Option ((List ByteArray) × Unit)) : List (Nat × FSem) := [(116, .pfn (.cons .str (.cons .str .nil)) (.cons (.slice .str) .nil) fun x => (g116 x.1 x.2.1))]
noncomputable def body112 : Code := match Tryz.f112.body with | some c => c | none => .skip
theorem ty112 : chkTypes Tryz.prog ts112 = true := by kernel_rfl
theorem ev112 (g116 : ByteArray → ByteArray → Option ((List ByteArray) × Unit)) (k : Nat) (x : ((.cons .str (.cons (.int .i64) .nil)) : Tys).den) : evFun (mkEnv ts112 (fs112 g116)) H112 k body112 25 [.tmp 4, .tmp 5] (explodes (.cons .str (.cons (.int .i64) .nil)) x) [] (dec (.cons (.slice .str) (.cons .bool .nil))) = f112 g116 k x.1 x.2.1 := by kernel_rfl
/-! ### internal/stringslite.HasPrefix -/
def f206  (k : Nat) (x0 : ByteArray) (x1 : ByteArray) : Option (Bool × Unit) :=
  bif (decide (((ByteArray.size x0 : Nat) : Int) ≥ ((ByteArray.size x1 : Nat) : Int))) then
    bif (decide (0 ≤ (0 : Int)) && (decide ((0 : Int) ≤ ((ByteArray.size x1 : Nat) : Int)) && decide (((ByteArray.size x1 : Nat) : Int) ≤ ((ByteArray.size x0 : Nat) : Int)))) then
      some ((sEq (ByteArray.extract x0 (Int.toNat (0 : Int)) (Int.toNat ((ByteArray.size x1 : Nat) : Int))) x1), ())
    else
      none
  else
    some (false, ())
def H206 : Hints where
  loop := fun n => match n with
    | _ => none
  region := fun n => match n with
    | _ => none
  cond := fun n => match n with
    | _ => none
  block := fun n => match n with
    | _ => none
abbrev A206 : Tys := (.cons .str (.cons .str .nil))
def ts206 : List (Nat × TD) := [(3, (.data (.int .i64))), (4, (.data .bool)), (9, (.data .str))]
noncomputable def fs206  : List (Nat × FSem) := []
noncomputable def body206 : Code := match Tryz.f206.body with | some c => c | none => .skip
theorem ty206 : chkTypes Tryz.prog ts206 = true := by kernel_rfl
theorem ev206  (k : Nat) (x : ((.cons .str (.cons .str .nil)) : Tys).den) : evFun (mkEnv ts206 (fs206 )) H206 k body206 18 [.tmp 4] (explodes (.cons .str (.cons .str .nil)) x) [] (dec (.cons .bool .nil)) = f206  k x.1 x.2.1 := by kernel_rfl
/-! ### internal/stringslite.TrimPrefix -/
def f183 (g206 : ByteArray → ByteArray → (Bool)) (k : Nat) (x0 : ByteArray) (x1 : ByteArray) : Option (ByteArray × Unit) :=
  bif (g206 x0 x1) then
    bif (decide (0 ≤ ((ByteArray.size x1 : Nat) : Int)) && (decide (((ByteArray.size x1 : Nat) : Int) ≤ ((ByteArray.size x0 : Nat) : Int)) && decide (((ByteArray.size x0 : Nat) : Int) ≤ ((ByteArray.size x0 : Nat) : Int)))) then
      some ((ByteArray.extract x0 (Int.toNat ((ByteArray.size x1 : Nat) : Int)) (Int.toNat ((ByteArray.size x0 : Nat) : Int))), ())
    else
      none
  else
    some (x0, ())
def H183 : Hints where
  loop := fun n => match n with
    | _ => none
  region := fun n => match n with
    | _ => none
  cond := fun n => match n with
    | _ => none
  block := fun n => match n with
    | _ => none
abbrev A183 : Tys := (.cons .str (.cons .str .nil))
def ts183 : List (Nat × TD) := [(9, (.data .str))]
noncomputable def fs183 (g206 : ByteArray → ByteArray → (Bool)) : List (Nat × FSem) := [(206, .fn (.cons .str (.cons .str .nil)) (.cons .bool .nil) fun x => ((g206 x.1 x.2.1), ()))]
noncomputable def body183 : Code := match Tryz.f183.body with | some c => c | none => .skip
theorem ty183 : chkTypes Tryz.prog ts183 = true := by kernel_rfl
theorem ev183 (g206 : ByteArray → ByteArray → (Bool)) (k : Nat) (x : ((.cons .str (.cons .str .nil)) : Tys).den) : evFun (mkEnv ts183 (fs183 g206)) H183 k body183 13 [.tmp 4] (explodes (.cons .str (.cons .str .nil)) x) [] (dec (.cons .str .nil)) = f183 g206 k x.1 x.2.1 := by kernel_rfl
/-! ### strings.TrimPrefix -/
def f146 (g183 : ByteArray → ByteArray → (ByteArray)) (k : Nat) (x0 : ByteArray) (x1 : ByteArray) : Option (ByteArray × Unit) :=
  some ((g183 x0 x1), ())
def H146 : Hints where
  loop := fun n => match n with
    | _ => none
  region := fun n => match n with
    | _ => none
  cond := fun n => match n with
    | _ => none
  block := fun n => match n with
    | _ => none
abbrev A146 : Tys := (.cons .str (.cons .str .nil))
def ts146 : List (Nat × TD) := [(9, (.data .str))]
noncomputable def fs146 (g183 : ByteArray → ByteArray → (ByteArray)) : List (Nat × FSem) := [(183, .fn (.cons .str (.cons .str .nil)) (.cons .str .nil) fun x => ((g183 x.1 x.2.1), ()))]
noncomputable def body146 : Code := match Tryz.f146.body with | some c => c | none => .skip
theorem ty146 : chkTypes Tryz.prog ts146 = true := by kernel_rfl
theorem ev146 (g183 : ByteArray → ByteArray → (ByteArray)) (k : Nat) (x : ((.cons .str (.cons .str .nil)) : Tys).den) : evFun (mkEnv ts146 (fs146 g183)) H146 k body146 8 [.tmp 4] (explodes (.cons .str (.cons .str .nil)) x) [] (dec (.cons .str .nil)) = f146 g183 k x.1 x.2.1 := by kernel_rfl
/-! ### jitney/base.Number -/
def f139 (g146 : ByteArray → ByteArray → (ByteArray)) (k : Nat) (x0 : ByteArray) (x1 : Int) : Option ZT1 :=
  Option.bind (α := ZT1 ⊕ ((Bool × Unit) × (Unit))) (
      bif (sEq (g146 x0 (ByteArray.mk #[45])) (ByteArray.mk #[])) then
        some (.inr ((true, ()), ()))
      else
        bif (decide (((ByteArray.size (g146 x0 (ByteArray.mk #[45])) : Nat) : Int) > x1)) then
          some (.inr ((true, ()), ()))
        else
          bif (inR (0 : Int) ((ByteArray.size (g146 x0 (ByteArray.mk #[45])) : Nat) : Int)) then
            bif ((bt (g146 x0 (ByteArray.mk #[45])) (0 : Int)) == (48 : Int)) then
              bif (decide (((ByteArray.size (g146 x0 (ByteArray.mk #[45])) : Nat) : Int) > (1 : Int))) then
                some (.inr ((true, ()), ()))
              else
                some (.inr (((decide (((ByteArray.size x0 : Nat) : Int) > ((ByteArray.size (g146 x0 (ByteArray.mk #[45])) : Nat) : Int))), ()), ()))
            else
              some (.inr ((false, ()), ()))
          else
            none) fun r => match r with
  | .inl z => some z
  | .inr y1 =>
    bif y1.1.1 then
      some zZT1
    else
      Option.bind (α := ZT1 ⊕ ((Unit) × (Unit))) (iter (σ := (Int × Unit) × (Unit)) (τ := ZT1 ⊕ ((Unit) × (Unit))) k (fun y2 =>
          bif (decide (y2.1.1 < ((ByteArray.size (g146 x0 (ByteArray.mk #[45])) : Nat) : Int))) then
            bif (inR y2.1.1 ((ByteArray.size (g146 x0 (ByteArray.mk #[45])) : Nat) : Int)) then
              bif (decide ((bt (g146 x0 (ByteArray.mk #[45])) y2.1.1) < (48 : Int))) then
                some (.inr (.inl zZT1))
              else
                bif (inR y2.1.1 ((ByteArray.size (g146 x0 (ByteArray.mk #[45])) : Nat) : Int)) then
                  bif (decide ((bt (g146 x0 (ByteArray.mk #[45])) y2.1.1) > (57 : Int))) then
                    some (.inr (.inl zZT1))
                  else
                    some (.inl (((IntKind.i64.wrap (y2.1.1 + (1 : Int))), ()), ()))
                else
                  none
            else
              none
          else
            some (.inr (.inr ((), ())))) (((0 : Int), ()), ())) fun r => match r with
      | .inl z => some z
      | .inr z3 =>
        bif (decide (ByteArray.size x0 ≤ 281474976710656)) then
          bif (aOk x0) then
            some ((aVal x0), true, ())
          else
            none
        else
          none
def H139 : Hints where
  loop := fun n => match n with
    | 0 => some ({ slots := [(39, (.int .i64))], objs := [], gone := [] }, 0, { slots := [], objs := [], gone := [] })
    | _ => none
  region := fun n => match n with
    | 2 => some { slots := [(36, .bool)], objs := [], gone := [] }
    | _ => none
  cond := fun n => match n with
    | _ => none
  block := fun n => match n with
    | _ => none
abbrev A139 : Tys := (.cons .str (.cons (.int .i64) .nil))
def ts139 : List (Nat × TD) := [(3, (.data (.int .i64))), (4, (.data .bool)), (5, (.data (.int .u8))), (9, (.data .str)), (162, (.cell .iface))]
noncomputable def fs139 (g146 : ByteArray → ByteArray → (ByteArray)) : List (Nat × FSem) := [(146, .fn (.cons .str (.cons .str .nil)) (.cons .str .nil) fun x => ((g146 x.1 x.2.1), ())), (147, .atoi)]
noncomputable def body139 : Code := match Tryz.f139.body with | some c => c | none => .skip
theorem ty139 : chkTypes Tryz.prog ts139 = true := by kernel_rfl
theorem ev139 (g146 : ByteArray → ByteArray → (ByteArray)) (k : Nat) (x : ((.cons .str (.cons (.int .i64) .nil)) : Tys).den) : evFun (mkEnv ts139 (fs139 g146)) H139 k body139 61 [.tmp 4, .tmp 5] (explodes (.cons .str (.cons (.int .i64) .nil)) x) [] (dec (.cons (.int .i64) (.cons .bool .nil))) = f139 g146 k x.1 x.2.1 := by kernel_rfl
/-! ### jitney/base.Numbers -/
def f113 (g139 : ByteArray → Int → Option ZT1) (k : Nat) (x0 : List ByteArray) (x1 : Int) : Option ((List Int) × Bool × Unit) :=
  Option.bind (α := ((List Int) × Bool × Unit) ⊕ (((List Int) × Unit) × (Unit))) (iter (σ := ((List Int) × Int × Unit) × (Unit)) (τ := ((List Int) × Bool × Unit) ⊕ (((List Int) × Unit) × (Unit))) k (fun y1 =>
      bif (decide (y1.1.2.1 < ((List.length x0 : Nat) : Int))) then
        bif (inR y1.1.2.1 ((List.length x0 : Nat) : Int)) then
          Option.bind (g139 (rd (α := ByteArray) ByteArray.empty x0 y1.1.2.1) x1) fun v2 =>
          bif (!v2.2.1) then
            some (.inr (.inl ([], false, ())))
          else
            bif decide (List.length y1.1.1 + List.length ([v2.1]) ≤ 4294967296) then
              some (.inl (((y1.1.1 ++ [v2.1]), (IntKind.i64.wrap (y1.1.2.1 + (1 : Int))), ()), ()))
            else
              none
        else
          none
      else
        some (.inr (.inr ((y1.1.1, ()), ())))) (([], (0 : Int), ()), ())) fun r => match r with
  | .inl z => some z
  | .inr z3 =>
    some (z3.1.1, true, ())
def H113 : Hints where
  loop := fun n => match n with
    | 0 => some ({ slots := [(6, (.row (.int .i64))), (13, (.int .i64))], objs := [], gone := [] }, 0, { slots := [(6, (.row (.int .i64)))], objs := [], gone := [] })
    | _ => none
  region := fun n => match n with
    | _ => none
  cond := fun n => match n with
    | _ => none
  block := fun n => match n with
    | _ => none
abbrev A113 : Tys := (.cons (.slice .str) (.cons (.int .i64) .nil))
def ts113 : List (Nat × TD) := [(3, (.data (.int .i64))), (4, (.data .bool)), (9, (.data .str)), (31, (.data (.slice (.int .i64)))), (60, (.data (.slice .str)))]
noncomputable def fs113 (g139 : ByteArray → Int → Option ZT1) : List (Nat × FSem) := [(139, .pfn (.cons .str (.cons (.int .i64) .nil)) (.cons (.int .i64) (.cons .bool .nil)) fun x => (g139 x.1 x.2.1))]
noncomputable def body113 : Code := match Tryz.f113.body with | some c => c | none => .skip
theorem ty113 : chkTypes Tryz.prog ts113 = true := by kernel_rfl
theorem ev113 (g139 : ByteArray → Int → Option ZT1) (k : Nat) (x : ((.cons (.slice .str) (.cons (.int .i64) .nil)) : Tys).den) : evFun (mkEnv ts113 (fs113 g139)) H113 k body113 31 [.tmp 4, .tmp 5] (explodes (.cons (.slice .str) (.cons (.int .i64) .nil)) x) [] (dec (.cons (.slice (.int .i64)) (.cons .bool .nil))) = f113 g139 k x.1 x.2.1 := by kernel_rfl
/-! ### internal/stringslite.HasSuffix -/
def f244  (k : Nat) (x0 : ByteArray) (x1 : ByteArray) : Option (Bool × Unit) :=
  bif (decide (((ByteArray.size x0 : Nat) : Int) ≥ ((ByteArray.size x1 : Nat) : Int))) then
    bif (decide (0 ≤ (IntKind.i64.wrap (((ByteArray.size x0 : Nat) : Int) - ((ByteArray.size x1 : Nat) : Int)))) && (decide ((IntKind.i64.wrap (((ByteArray.size x0 : Nat) : Int) - ((ByteArray.size x1 : Nat) : Int))) ≤ ((ByteArray.size x0 : Nat) : Int)) && decide (((ByteArray.size x0 : Nat) : Int) ≤ ((ByteArray.size x0 : Nat) : Int)))) then
      some ((sEq (ByteArray.extract x0 (Int.toNat (IntKind.i64.wrap (((ByteArray.size x0 : Nat) : Int) - ((ByteArray.size x1 : Nat) : Int)))) (Int.toNat ((ByteArray.size x0 : Nat) : Int))) x1), ())
    else
      none
  else
    some (false, ())
def H244 : Hints where
  loop := fun n => match n with
    | _ => none
  region := fun n => match n with
    | _ => none
  cond := fun n => match n with
    | _ => none
  block := fun n => match n with
    | _ => none
abbrev A244 : Tys := (.cons .str (.cons .str .nil))
def ts244 : List (Nat × TD) := [(3, (.data (.int .i64))), (4, (.data .bool)), (9, (.data .str))]
noncomputable def fs244  : List (Nat × FSem) := []
noncomputable def body244 : Code := match Tryz.f244.body with | some c => c | none => .skip
theorem ty244 : chkTypes Tryz.prog ts244 = true := by kernel_rfl
theorem ev244  (k : Nat) (x : ((.cons .str (.cons .str .nil)) : Tys).den) : evFun (mkEnv ts244 (fs244 )) H244 k body244 21 [.tmp 4] (explodes (.cons .str (.cons .str .nil)) x) [] (dec (.cons .bool .nil)) = f244  k x.1 x.2.1 := by kernel_rfl
/-! ### internal/stringslite.CutSuffix -/
def f225 (g244 : ByteArray → ByteArray → (Bool)) (k : Nat) (x0 : ByteArray) (x1 : ByteArray) : Option ZT4 :=
  bif (!(g244 x0 x1)) then
    some (x0, false, ())
  else
    bif (decide (0 ≤ (0 : Int)) && (decide ((0 : Int) ≤ (IntKind.i64.wrap (((ByteArray.size x0 : Nat) : Int) - ((ByteArray.size x1 : Nat) : Int)))) && decide ((IntKind.i64.wrap (((ByteArray.size x0 : Nat) : Int) - ((ByteArray.size x1 : Nat) : Int))) ≤ ((ByteArray.size x0 : Nat) : Int)))) then
      some ((ByteArray.extract x0 (Int.toNat (0 : Int)) (Int.toNat (IntKind.i64.wrap (((ByteArray.size x0 : Nat) : Int) - ((ByteArray.size x1 : Nat) : Int))))), true, ())
    else
      none
def H225 : Hints where
  loop := fun n => match n with
    | _ => none
  region := fun n => match n with
    | _ => none
  cond := fun n => match n with
    | _ => none
  block := fun n => match n with
    | _ => none
abbrev A225 : Tys := (.cons .str (.cons .str .nil))
def ts225 : List (Nat × TD) := [(3, (.data (.int .i64))), (4, (.data .bool)), (9, (.data .str))]
noncomputable def fs225 (g244 : ByteArray → ByteArray → (Bool)) : List (Nat × FSem) := [(244, .fn (.cons .str (.cons .str .nil)) (.cons .bool .nil) fun x => ((g244 x.1 x.2.1), ()))]
noncomputable def body225 : Code := match Tryz.f225.body with | some c => c | none => .skip
theorem ty225 : chkTypes Tryz.prog ts225 = true := by kernel_rfl
theorem ev225 (g244 : ByteArray → ByteArray → (Bool)) (k : Nat) (x : ((.cons .str (.cons .str .nil)) : Tys).den) : evFun (mkEnv ts225 (fs225 g244)) H225 k body225 18 [.tmp 4, .tmp 5] (explodes (.cons .str (.cons .str .nil)) x) [] (dec (.cons .str (.cons .bool .nil))) = f225 g244 k x.1 x.2.1 := by kernel_rfl
/-! ### strings.CutSuffix -/
def f194 (g225 : ByteArray → ByteArray → ZT4) (k : Nat) (x0 : ByteArray) (x1 : ByteArray) : Option ZT4 :=
  some ((g225 x0 x1).1, (g225 x0 x1).2.1, ())
def H194 : Hints where
  loop := fun n => match n with
    | _ => none
  region := fun n => match n with
    | _ => none
  cond := fun n => match n with
    | _ => none
  block := fun n => match n with
    | _ => none
abbrev A194 : Tys := (.cons .str (.cons .str .nil))
def ts194 : List (Nat × TD) := [(4, (.data .bool)), (9, (.data .str))]
noncomputable def fs194 (g225 : ByteArray → ByteArray → ZT4) : List (Nat × FSem) := [(225, .fn (.cons .str (.cons .str .nil)) (.cons .str (.cons .bool .nil)) fun x => (g225 x.1 x.2.1))]
noncomputable def body194 : Code := match Tryz.f194.body with | some c => c | none => .skip
theorem ty194 : chkTypes Tryz.prog ts194 = true := by kernel_rfl
theorem ev194 (g225 : ByteArray → ByteArray → ZT4) (k : Nat) (x : ((.cons .str (.cons .str .nil)) : Tys).den) : evFun (mkEnv ts194 (fs194 g225)) H194 k body194 11 [.tmp 4, .tmp 5] (explodes (.cons .str (.cons .str .nil)) x) [] (dec (.cons .str (.cons .bool .nil))) = f194 g225 k x.1 x.2.1 := by kernel_rfl
/-! ### jitney/base.Lines -/
def f156 (g116 : ByteArray → ByteArray → Option ((List ByteArray) × Unit)) (g194 : ByteArray → ByteArray → ZT4) (k : Nat) (x0 : ByteArray) : Option ((List ByteArray) × Bool × Unit) :=
  bif (sEq x0 (ByteArray.mk #[])) then
    some ([], true, ())
  else
    Option.bind (g116 ((g194 x0 (ByteArray.mk #[10])).1) (ByteArray.mk #[10])) fun v1 =>
    some (v1.1, (g194 x0 (ByteArray.mk #[10])).2.1, ())
def H156 : Hints where
  loop := fun n => match n with
    | _ => none
  region := fun n => match n with
    | _ => none
  cond := fun n => match n with
    | _ => none
  block := fun n => match n with
    | _ => none
abbrev A156 : Tys := (.cons .str .nil)
def ts156 : List (Nat × TD) := [(4, (.data .bool)), (9, (.data .str)), (60, (.data (.slice .str)))]
noncomputable def fs156 (g116 : ByteArray → ByteArray → Option ((List ByteArray) × Unit)) (g194 : ByteArray → ByteArray → ZT4) : List (Nat × FSem) := [(116, .pfn (.cons .str (.cons .str .nil)) (.cons (.slice .str) .nil) fun x => (g116 x.1 x.2.1)), (194, .fn (.cons .str (.cons .str .nil)) (.cons .str (.cons .bool .nil)) fun x => (g194 x.1 x.2.1))]
noncomputable def body156 : Code := match Tryz.f156.body with | some c => c | none => .skip
theorem ty156 : chkTypes Tryz.prog ts156 = true := by kernel_rfl
theorem ev156 (g116 : ByteArray → ByteArray → Option ((List ByteArray) × Unit)) (g194 : ByteArray → ByteArray → ZT4) (k : Nat) (x : ((.cons .str .nil) : Tys).den) : evFun (mkEnv ts156 (fs156 g116 g194)) H156 k body156 15 [.tmp 2, .tmp 3] (explodes (.cons .str .nil) x) [] (dec (.cons (.slice .str) (.cons .bool .nil))) = f156 g116 g194 k x.1 := by kernel_rfl
/-! ### jitney/trust.Read -/
def f57 (g112 : ByteArray → Int → Option ((List ByteArray) × Bool × Unit)) (g113 : (List ByteArray) → Int → Option ((List Int) × Bool × Unit)) (g121 : (List ZT10) → (Int)) (g156 : ByteArray → Option ((List ByteArray) × Bool × Unit)) (k : Nat) (x0 : ByteArray) : Option ((List ZT10) × Int × Int × Unit) :=
  bif (decide (((ByteArray.size x0 : Nat) : Int) > (200000 : Int))) then
    some ([], (0 : Int), (2 : Int), ())
  else
    Option.bind (α := ((List ZT10) × Int × Int × Unit) ⊕ (ZT1 × ((List ZT10) × Unit))) (
        Option.bind (g156 x0) fun v1 =>
        Option.bind (α := (((List ZT10) × Int × Int × Unit) ⊕ (ZT1 × ((List ZT10) × Unit))) ⊕ ((Unit) × ((List ZT10) × Unit))) (iter (σ := (Int × Unit) × ((List ZT10) × Unit)) (τ := (((List ZT10) × Int × Int × Unit) ⊕ (ZT1 × ((List ZT10) × Unit))) ⊕ ((Unit) × ((List ZT10) × Unit))) k (fun y2 =>
            bif (decide (y2.1.1 < ((List.length v1.1 : Nat) : Int))) then
              bif (inR y2.1.1 ((List.length v1.1 : Nat) : Int)) then
                bif (!v1.2.1) then
                  bif (y2.1.1 == (IntKind.i64.wrap (((List.length v1.1 : Nat) : Int) - (1 : Int)))) then
                    some (.inr (.inl (.inr ((y2.1.1, false, ()), (y2.2.1, ())))))
                  else
                    Option.bind (g112 (rd (α := ByteArray) ByteArray.empty v1.1 y2.1.1) (5 : Int)) fun v3 =>
                    bif (!v3.2.1) then
                      some (.inr (.inl (.inr ((y2.1.1, false, ()), (y2.2.1, ())))))
                    else
                      bif (decide (0 ≤ (3 : Int)) && (decide ((3 : Int) ≤ ((List.length v3.1 : Nat) : Int)) && decide (((List.length v3.1 : Nat) : Int) ≤ ((List.length v3.1 : Nat) : Int)))) then
                        Option.bind (g113 (List.drop (Int.toNat (3 : Int)) (List.take (Int.toNat ((List.length v3.1 : Nat) : Int)) v3.1)) (15 : Int)) fun v4 =>
                        bif v4.2.1 then
                          bif (inR (0 : Int) ((List.length v3.1 : Nat) : Int)) then
                            bif (inR (1 : Int) ((List.length v3.1 : Nat) : Int)) then
                              bif (inR (2 : Int) ((List.length v3.1 : Nat) : Int)) then
                                bif (inR (0 : Int) ((List.length v4.1 : Nat) : Int)) then
                                  bif (inR (1 : Int) ((List.length v4.1 : Nat) : Int)) then
                                    bif decide (List.length y2.2.1 + List.length ([((rd (α := ByteArray) ByteArray.empty v3.1 (0 : Int)), (rd (α := ByteArray) ByteArray.empty v3.1 (1 : Int)), (rd (α := ByteArray) ByteArray.empty v3.1 (2 : Int)), (rd (α := Int) (0 : Int) v4.1 (0 : Int)), (rd (α := Int) (0 : Int) v4.1 (1 : Int)), ())]) ≤ 4294967296) then
                                      bif (!v4.2.1) then
                                        some (.inr (.inl (.inr ((y2.1.1, false, ()), ((y2.2.1 ++ [((rd (α := ByteArray) ByteArray.empty v3.1 (0 : Int)), (rd (α := ByteArray) ByteArray.empty v3.1 (1 : Int)), (rd (α := ByteArray) ByteArray.empty v3.1 (2 : Int)), (rd (α := Int) (0 : Int) v4.1 (0 : Int)), (rd (α := Int) (0 : Int) v4.1 (1 : Int)), ())]), ())))))
                                      else
                                        some (.inl (((IntKind.i64.wrap (y2.1.1 + (1 : Int))), ()), ((y2.2.1 ++ [((rd (α := ByteArray) ByteArray.empty v3.1 (0 : Int)), (rd (α := ByteArray) ByteArray.empty v3.1 (1 : Int)), (rd (α := ByteArray) ByteArray.empty v3.1 (2 : Int)), (rd (α := Int) (0 : Int) v4.1 (0 : Int)), (rd (α := Int) (0 : Int) v4.1 (1 : Int)), ())]), ())))
                                    else
                                      none
                                  else
                                    none
                                else
                                  none
                              else
                                none
                            else
                              none
                          else
                            none
                        else
                          bif (!v4.2.1) then
                            some (.inr (.inl (.inr ((y2.1.1, false, ()), (y2.2.1, ())))))
                          else
                            some (.inl (((IntKind.i64.wrap (y2.1.1 + (1 : Int))), ()), (y2.2.1, ())))
                      else
                        none
                else
                  Option.bind (g112 (rd (α := ByteArray) ByteArray.empty v1.1 y2.1.1) (5 : Int)) fun v5 =>
                  bif (!v5.2.1) then
                    some (.inr (.inl (.inr ((y2.1.1, false, ()), (y2.2.1, ())))))
                  else
                    bif (decide (0 ≤ (3 : Int)) && (decide ((3 : Int) ≤ ((List.length v5.1 : Nat) : Int)) && decide (((List.length v5.1 : Nat) : Int) ≤ ((List.length v5.1 : Nat) : Int)))) then
                      Option.bind (g113 (List.drop (Int.toNat (3 : Int)) (List.take (Int.toNat ((List.length v5.1 : Nat) : Int)) v5.1)) (15 : Int)) fun v6 =>
                      bif v6.2.1 then
                        bif (inR (0 : Int) ((List.length v5.1 : Nat) : Int)) then
                          bif (inR (1 : Int) ((List.length v5.1 : Nat) : Int)) then
                            bif (inR (2 : Int) ((List.length v5.1 : Nat) : Int)) then
                              bif (inR (0 : Int) ((List.length v6.1 : Nat) : Int)) then
                                bif (inR (1 : Int) ((List.length v6.1 : Nat) : Int)) then
                                  bif decide (List.length y2.2.1 + List.length ([((rd (α := ByteArray) ByteArray.empty v5.1 (0 : Int)), (rd (α := ByteArray) ByteArray.empty v5.1 (1 : Int)), (rd (α := ByteArray) ByteArray.empty v5.1 (2 : Int)), (rd (α := Int) (0 : Int) v6.1 (0 : Int)), (rd (α := Int) (0 : Int) v6.1 (1 : Int)), ())]) ≤ 4294967296) then
                                    bif (!v6.2.1) then
                                      some (.inr (.inl (.inr ((y2.1.1, false, ()), ((y2.2.1 ++ [((rd (α := ByteArray) ByteArray.empty v5.1 (0 : Int)), (rd (α := ByteArray) ByteArray.empty v5.1 (1 : Int)), (rd (α := ByteArray) ByteArray.empty v5.1 (2 : Int)), (rd (α := Int) (0 : Int) v6.1 (0 : Int)), (rd (α := Int) (0 : Int) v6.1 (1 : Int)), ())]), ())))))
                                    else
                                      some (.inl (((IntKind.i64.wrap (y2.1.1 + (1 : Int))), ()), ((y2.2.1 ++ [((rd (α := ByteArray) ByteArray.empty v5.1 (0 : Int)), (rd (α := ByteArray) ByteArray.empty v5.1 (1 : Int)), (rd (α := ByteArray) ByteArray.empty v5.1 (2 : Int)), (rd (α := Int) (0 : Int) v6.1 (0 : Int)), (rd (α := Int) (0 : Int) v6.1 (1 : Int)), ())]), ())))
                                  else
                                    none
                                else
                                  none
                              else
                                none
                            else
                              none
                          else
                            none
                        else
                          none
                      else
                        bif (!v6.2.1) then
                          some (.inr (.inl (.inr ((y2.1.1, false, ()), (y2.2.1, ())))))
                        else
                          some (.inl (((IntKind.i64.wrap (y2.1.1 + (1 : Int))), ()), (y2.2.1, ())))
                    else
                      none
              else
                none
            else
              some (.inr (.inr ((), (y2.2.1, ()))))) (((0 : Int), ()), ([], ()))) fun r => match r with
        | .inl z => some z
        | .inr z7 =>
          some (.inr (((0 : Int), true, ()), (z7.2.1, ())))) fun r => match r with
    | .inl z => some z
    | .inr y8 =>
      bif (!y8.1.2.1) then
        some ([], y8.1.1, (9 : Int), ())
      else
        bif ((g121 y8.2.1) != (0 : Int)) then
          some ([], (0 : Int), (g121 y8.2.1), ())
        else
          some (y8.2.1, (0 : Int), (0 : Int), ())
def H57 : Hints where
  loop := fun n => match n with
    | _ => none
  region := fun n => match n with
    | 4 => some { slots := [(6, (.int .i64)), (7, .bool)], objs := [(0, (.box (.data (.slice ZY2)) (.row ZY2)))], gone := [] }
    | _ => none
  cond := fun n => match n with
    | _ => none
  block := fun n => match n with
    | _ => none
def Hi57_122 : Hints where
  loop := fun n => match n with
    | _ => none
  region := fun n => match n with
    | _ => none
  cond := fun n => match n with
    | _ => none
  block := fun n => match n with
    | _ => none
def tsi57_122 : List (Nat × TD) := [(3, (.data (.int .i64))), (9, (.data .str)), (31, (.data (.slice (.int .i64)))), (60, (.data (.slice .str))), (101, (.data (.slice ZY2))), (107, (.data ZY2))]
noncomputable def bodyi57_122 : Code := match Tryz.f122.body with | some c => c | none => .skip
noncomputable def fsi57_122 (g112 : ByteArray → Int → Option ((List ByteArray) × Bool × Unit)) (g113 : (List ByteArray) → Int → Option ((List Int) × Bool × Unit)) (g121 : (List ZT10) → (Int)) (g156 : ByteArray → Option ((List ByteArray) × Bool × Unit)) (k : Nat) : List (Nat × FSem) := [(112, .pfn (.cons .str (.cons (.int .i64) .nil)) (.cons (.slice .str) (.cons .bool .nil)) fun x => (g112 x.1 x.2.1)), (113, .pfn (.cons (.slice .str) (.cons (.int .i64) .nil)) (.cons (.slice (.int .i64)) (.cons .bool .nil)) fun x => (g113 x.1 x.2.1))]
theorem tyi57_122 : chkTypes Tryz.prog tsi57_122 = true := by kernel_rfl
def Hi57_110 : Hints where
  loop := fun n => match n with
    | 0 => some ({ slots := [(17, (.int .i64))], objs := [(0, (.box (.data (.slice ZY2)) (.row ZY2)))], gone := [] }, 0, { slots := [], objs := [(0, (.box (.data (.slice ZY2)) (.row ZY2)))], gone := [] })
    | _ => none
  region := fun n => match n with
    | _ => none
  cond := fun n => match n with
    | _ => none
  block := fun n => match n with
    | _ => none
def tsi57_110 : List (Nat × TD) := [(3, (.data (.int .i64))), (9, (.data .str)), (60, (.data (.slice .str)))]
noncomputable def bodyi57_110 : Code := match Tryz.f110.body with | some c => c | none => .skip
noncomputable def fsi57_110 (g112 : ByteArray → Int → Option ((List ByteArray) × Bool × Unit)) (g113 : (List ByteArray) → Int → Option ((List Int) × Bool × Unit)) (g121 : (List ZT10) → (Int)) (g156 : ByteArray → Option ((List ByteArray) × Bool × Unit)) (k : Nat) : List (Nat × FSem) := [(122, .ev (mkEnv tsi57_122 (fsi57_122 g112 g113 g121 g156 k)) Hi57_122 k bodyi57_122 41 [.tmp 3]), (156, .pfn (.cons .str .nil) (.cons (.slice .str) (.cons .bool .nil)) fun x => (g156 x.1))]
theorem tyi57_110 : chkTypes Tryz.prog tsi57_110 = true := by kernel_rfl
abbrev A57 : Tys := (.cons .str .nil)
def ts57 : List (Nat × TD) := [(3, (.data (.int .i64))), (9, (.data .str)), (32, (.data (.int .i64))), (101, (.data (.slice ZY2)))]
noncomputable def fs57 (g112 : ByteArray → Int → Option ((List ByteArray) × Bool × Unit)) (g113 : (List ByteArray) → Int → Option ((List Int) × Bool × Unit)) (g121 : (List ZT10) → (Int)) (g156 : ByteArray → Option ((List ByteArray) × Bool × Unit)) (k : Nat) : List (Nat × FSem) := [(110, .ev (mkEnv tsi57_110 (fsi57_110 g112 g113 g121 g156 k)) Hi57_110 k bodyi57_110 39 [.tmp 4, .tmp 5]), (121, .fn (.cons (.slice ZY2) .nil) (.cons (.int .i64) .nil) fun x => ((g121 x.1), ()))]
noncomputable def body57 : Code := match Tryz.f57.body with | some c => c | none => .skip
theorem ty57 : chkTypes Tryz.prog ts57 = true := by kernel_rfl
theorem ev57 (g112 : ByteArray → Int → Option ((List ByteArray) × Bool × Unit)) (g113 : (List ByteArray) → Int → Option ((List Int) × Bool × Unit)) (g121 : (List ZT10) → (Int)) (g156 : ByteArray → Option ((List ByteArray) × Bool × Unit)) (k : Nat) (x : ((.cons .str .nil) : Tys).den) : evFun (mkEnv ts57 (fs57 g112 g113 g121 g156 k)) H57 k body57 27 [.tmp 2, .tmp 3, .tmp 4] (explodes (.cons .str .nil) x) [] (dec (.cons (.slice ZY2) (.cons (.int .i64) (.cons (.int .i64) .nil)))) = f57 g112 g113 g121 g156 k x.1 := by kernel_rfl
/-! ### jitney/jitref2.Number -/
def f95 (g94 : ByteArray → ByteArray → (Bool)) (g107 : Int → Option (ByteArray × Unit)) (g146 : ByteArray → ByteArray → (ByteArray)) (k : Nat) (x0 : ByteArray) (x1 : Int) : Option ZT1 :=
  bif (sEq (g146 x0 (ByteArray.mk #[45])) (ByteArray.mk #[])) then
    some zZT1
  else
    bif (decide (((ByteArray.size (g146 x0 (ByteArray.mk #[45])) : Nat) : Int) > x1)) then
      some zZT1
    else
      bif (!(g94 (g146 x0 (ByteArray.mk #[45])) (ByteArray.mk #[48, 49, 50, 51, 52, 53, 54, 55, 56, 57]))) then
        some zZT1
      else
        bif (decide (ByteArray.size x0 ≤ 281474976710656)) then
          bif (aOk x0) then
            Option.bind (g107 (aVal x0)) fun v1 =>
            some ((aVal x0), (sEq v1.1 x0), ())
          else
            none
        else
          none
def H95 : Hints where
  loop := fun n => match n with
    | _ => none
  region := fun n => match n with
    | _ => none
  cond := fun n => match n with
    | _ => none
  block := fun n => match n with
    | _ => none
abbrev A95 : Tys := (.cons .str (.cons (.int .i64) .nil))
def ts95 : List (Nat × TD) := [(3, (.data (.int .i64))), (4, (.data .bool)), (9, (.data .str)), (162, (.cell .iface))]
noncomputable def fs95 (g94 : ByteArray → ByteArray → (Bool)) (g107 : Int → Option (ByteArray × Unit)) (g146 : ByteArray → ByteArray → (ByteArray)) : List (Nat × FSem) := [(94, .fn (.cons .str (.cons .str .nil)) (.cons .bool .nil) fun x => ((g94 x.1 x.2.1), ())), (107, .pfn (.cons (.int .i64) .nil) (.cons .str .nil) fun x => (g107 x.1)), (146, .fn (.cons .str (.cons .str .nil)) (.cons .str .nil) fun x => ((g146 x.1 x.2.1), ())), (147, .atoi)]
noncomputable def body95 : Code := match Tryz.f95.body with | some c => c | none => .skip
theorem ty95 : chkTypes Tryz.prog ts95 = true := by kernel_rfl
theorem ev95 (g94 : ByteArray → ByteArray → (Bool)) (g107 : Int → Option (ByteArray × Unit)) (g146 : ByteArray → ByteArray → (ByteArray)) (k : Nat) (x : ((.cons .str (.cons (.int .i64) .nil)) : Tys).den) : evFun (mkEnv ts95 (fs95 g94 g107 g146)) H95 k body95 38 [.tmp 4, .tmp 5] (explodes (.cons .str (.cons (.int .i64) .nil)) x) [] (dec (.cons (.int .i64) (.cons .bool .nil))) = f95 g94 g107 g146 k x.1 x.2.1 := by kernel_rfl
/-! ### jitney/jitref2.numbersIn -/
def f118 (g95 : ByteArray → Int → Option ZT1) (k : Nat) (x0 : List ByteArray) (x1 : Int) : Option ((List Int) × Bool × Unit) :=
  Option.bind (α := ((List Int) × Bool × Unit) ⊕ (((List Int) × Bool × Unit) × (Unit))) (iter (σ := ((List Int) × Bool × Int × Unit) × (Unit)) (τ := ((List Int) × Bool × Unit) ⊕ (((List Int) × Bool × Unit) × (Unit))) k (fun y1 =>
      bif (decide (y1.1.2.2.1 < ((List.length x0 : Nat) : Int))) then
        bif (inR y1.1.2.2.1 ((List.length x0 : Nat) : Int)) then
          Option.bind (g95 (rd (α := ByteArray) ByteArray.empty x0 y1.1.2.2.1) x1) fun v2 =>
          bif decide (List.length y1.1.1 + List.length ([v2.1]) ≤ 4294967296) then
            bif y1.1.2.1 then
              some (.inl (((y1.1.1 ++ [v2.1]), v2.2.1, (IntKind.i64.wrap (y1.1.2.2.1 + (1 : Int))), ()), ()))
            else
              some (.inl (((y1.1.1 ++ [v2.1]), false, (IntKind.i64.wrap (y1.1.2.2.1 + (1 : Int))), ()), ()))
          else
            none
        else
          none
      else
        some (.inr (.inr ((y1.1.1, y1.1.2.1, ()), ())))) (([], true, (0 : Int), ()), ())) fun r => match r with
  | .inl z => some z
  | .inr z3 =>
    some (z3.1.1, z3.1.2.1, ())
def H118 : Hints where
  loop := fun n => match n with
    | 0 => some ({ slots := [(6, (.row (.int .i64))), (7, .bool), (14, (.int .i64))], objs := [], gone := [] }, 0, { slots := [(6, (.row (.int .i64))), (7, .bool)], objs := [], gone := [] })
    | _ => none
  region := fun n => match n with
    | _ => none
  cond := fun n => match n with
    | _ => none
  block := fun n => match n with
    | _ => none
abbrev A118 : Tys := (.cons (.slice .str) (.cons (.int .i64) .nil))
def ts118 : List (Nat × TD) := [(3, (.data (.int .i64))), (4, (.data .bool)), (9, (.data .str)), (31, (.data (.slice (.int .i64)))), (60, (.data (.slice .str)))]
noncomputable def fs118 (g95 : ByteArray → Int → Option ZT1) : List (Nat × FSem) := [(95, .pfn (.cons .str (.cons (.int .i64) .nil)) (.cons (.int .i64) (.cons .bool .nil)) fun x => (g95 x.1 x.2.1))]
noncomputable def body118 : Code := match Tryz.f118.body with | some c => c | none => .skip
theorem ty118 : chkTypes Tryz.prog ts118 = true := by kernel_rfl
theorem ev118 (g95 : ByteArray → Int → Option ZT1) (k : Nat) (x : ((.cons (.slice .str) (.cons (.int .i64) .nil)) : Tys).den) : evFun (mkEnv ts118 (fs118 g95)) H118 k body118 35 [.tmp 4, .tmp 5] (explodes (.cons (.slice .str) (.cons (.int .i64) .nil)) x) [] (dec (.cons (.slice (.int .i64)) (.cons .bool .nil))) = f118 g95 k x.1 x.2.1 := by kernel_rfl
/-! ### slices.Index[[]string,string] -/
def f159  (k : Nat) (x0 : List ByteArray) (x1 : ByteArray) : Option (Int × Unit) :=
  Option.bind (α := (Int × Unit) ⊕ ((Unit) × (Unit))) (iter (σ := (Int × Unit) × (Unit)) (τ := (Int × Unit) ⊕ ((Unit) × (Unit))) k (fun y1 =>
      bif (decide (y1.1.1 < ((List.length x0 : Nat) : Int))) then
        bif (inR y1.1.1 ((List.length x0 : Nat) : Int)) then
          bif (sEq x1 (rd (α := ByteArray) ByteArray.empty x0 y1.1.1)) then
            some (.inr (.inl (y1.1.1, ())))
          else
            some (.inl (((IntKind.i64.wrap (y1.1.1 + (1 : Int))), ()), ()))
        else
          none
      else
        some (.inr (.inr ((), ())))) (((0 : Int), ()), ())) fun r => match r with
  | .inl z => some z
  | .inr z2 =>
    some ((-1 : Int), ())
def H159 : Hints where
  loop := fun n => match n with
    | 0 => some ({ slots := [(8, (.int .i64))], objs := [], gone := [] }, 0, { slots := [], objs := [], gone := [] })
    | _ => none
  region := fun n => match n with
    | _ => none
  cond := fun n => match n with
    | _ => none
  block := fun n => match n with
    | _ => none
abbrev A159 : Tys := (.cons (.slice .str) (.cons .str .nil))
def ts159 : List (Nat × TD) := [(3, (.data (.int .i64))), (9, (.data .str)), (60, (.data (.slice .str)))]
noncomputable def fs159  : List (Nat × FSem) := []
noncomputable def body159 : Code := match Tryz.f159.body with | some c => c | none => .skip
theorem ty159 : chkTypes Tryz.prog ts159 = true := by kernel_rfl
theorem ev159  (k : Nat) (x : ((.cons (.slice .str) (.cons .str .nil)) : Tys).den) : evFun (mkEnv ts159 (fs159 )) H159 k body159 19 [.tmp 4] (explodes (.cons (.slice .str) (.cons .str .nil)) x) [] (dec (.cons (.int .i64) .nil)) = f159  k x.1 x.2.1 := by kernel_rfl
/-! ### slices.Contains[[]string,string] -/
def f117 (g159 : (List ByteArray) → ByteArray → (Int)) (k : Nat) (x0 : List ByteArray) (x1 : ByteArray) : Option (Bool × Unit) :=
  some ((decide ((g159 x0 x1) ≥ (0 : Int))), ())
def H117 : Hints where
  loop := fun n => match n with
    | _ => none
  region := fun n => match n with
    | _ => none
  cond := fun n => match n with
    | _ => none
  block := fun n => match n with
    | _ => none
abbrev A117 : Tys := (.cons (.slice .str) (.cons .str .nil))
def ts117 : List (Nat × TD) := [(3, (.data (.int .i64))), (4, (.data .bool)), (9, (.data .str)), (60, (.data (.slice .str)))]
noncomputable def fs117 (g159 : (List ByteArray) → ByteArray → (Int)) : List (Nat × FSem) := [(159, .fn (.cons (.slice .str) (.cons .str .nil)) (.cons (.int .i64) .nil) fun x => ((g159 x.1 x.2.1), ()))]
noncomputable def body117 : Code := match Tryz.f117.body with | some c => c | none => .skip
theorem ty117 : chkTypes Tryz.prog ts117 = true := by kernel_rfl
theorem ev117 (g159 : (List ByteArray) → ByteArray → (Int)) (k : Nat) (x : ((.cons (.slice .str) (.cons .str .nil)) : Tys).den) : evFun (mkEnv ts117 (fs117 g159)) H117 k body117 9 [.tmp 4] (explodes (.cons (.slice .str) (.cons .str .nil)) x) [] (dec (.cons .bool .nil)) = f117 g159 k x.1 x.2.1 := by kernel_rfl
/-! ### jitney/jitref2.Words -/
def f124 (g116 : ByteArray → ByteArray → Option ((List ByteArray) × Unit)) (g117 : (List ByteArray) → ByteArray → (Bool)) (k : Nat) (x0 : ByteArray) : Option ((List ByteArray) × Bool × Unit) :=
  Option.bind (g116 x0 (ByteArray.mk #[32])) fun v1 =>
  some (v1.1, (!(g117 v1.1 (ByteArray.mk #[]))), ())
def H124 : Hints where
  loop := fun n => match n with
    | _ => none
  region := fun n => match n with
    | _ => none
  cond := fun n => match n with
    | _ => none
  block := fun n => match n with
    | _ => none
abbrev A124 : Tys := (.cons .str .nil)
def ts124 : List (Nat × TD) := [(4, (.data .bool)), (9, (.data .str)), (60, (.data (.slice .str)))]
noncomputable def fs124 (g116 : ByteArray → ByteArray → Option ((List ByteArray) × Unit)) (g117 : (List ByteArray) → ByteArray → (Bool)) : List (Nat × FSem) := [(116, .pfn (.cons .str (.cons .str .nil)) (.cons (.slice .str) .nil) fun x => (g116 x.1 x.2.1)), (117, .fn (.cons (.slice .str) (.cons .str .nil)) (.cons .bool .nil) fun x => ((g117 x.1 x.2.1), ()))]
noncomputable def body124 : Code := match Tryz.f124.body with | some c => c | none => .skip
theorem ty124 : chkTypes Tryz.prog ts124 = true := by kernel_rfl
theorem ev124 (g116 : ByteArray → ByteArray → Option ((List ByteArray) × Unit)) (g117 : (List ByteArray) → ByteArray → (Bool)) (k : Nat) (x : ((.cons .str .nil) : Tys).den) : evFun (mkEnv ts124 (fs124 g116 g117)) H124 k body124 11 [.tmp 2, .tmp 3] (explodes (.cons .str .nil) x) [] (dec (.cons (.slice .str) (.cons .bool .nil))) = f124 g116 g117 k x.1 := by kernel_rfl
/-! ### jitney/jitref2.RatingsRead -/
def f58 (g53 : (List ZT10) → (Int)) (g118 : (List ByteArray) → Int → Option ((List Int) × Bool × Unit)) (g124 : ByteArray → Option ((List ByteArray) × Bool × Unit)) (g157 : ByteArray → ByteArray → Option ZT9) (k : Nat) (x0 : ByteArray) : Option ((List ZT10) × Int × Int × Unit) :=
  bif (decide (((ByteArray.size x0 : Nat) : Int) > (200000 : Int))) then
    some ([], (0 : Int), (2 : Int), ())
  else
    Option.bind (α := ((List ZT10) × Int × Int × Unit) ⊕ (ZT1 × ((List ZT10) × Unit))) (
        Option.bind (α := (((List ZT10) × Int × Int × Unit) ⊕ (ZT1 × ((List ZT10) × Unit))) ⊕ ((Unit) × ((List ZT10) × Unit))) (iter (σ := ZT2 × ((List ZT10) × Unit)) (τ := (((List ZT10) × Int × Int × Unit) ⊕ (ZT1 × ((List ZT10) × Unit))) ⊕ ((Unit) × ((List ZT10) × Unit))) k (fun y1 =>
            bif (!(sEq y1.1.1 (ByteArray.mk #[]))) then
              Option.bind (g157 y1.1.1 (ByteArray.mk #[10])) fun v2 =>
              bif (!v2.2.2.1) then
                some (.inr (.inl (.inr ((y1.1.2.1, false, ()), (y1.2.1, ())))))
              else
                Option.bind (g124 v2.1) fun v3 =>
                bif (!v3.2.1) then
                  some (.inr (.inl (.inr ((y1.1.2.1, false, ()), (y1.2.1, ())))))
                else
                  bif (((List.length v3.1 : Nat) : Int) != (5 : Int)) then
                    some (.inr (.inl (.inr ((y1.1.2.1, false, ()), (y1.2.1, ())))))
                  else
                    bif (decide (0 ≤ (3 : Int)) && (decide ((3 : Int) ≤ ((List.length v3.1 : Nat) : Int)) && decide (((List.length v3.1 : Nat) : Int) ≤ ((List.length v3.1 : Nat) : Int)))) then
                      Option.bind (g118 (List.drop (Int.toNat (3 : Int)) (List.take (Int.toNat ((List.length v3.1 : Nat) : Int)) v3.1)) (15 : Int)) fun v4 =>
                      bif (inR (0 : Int) ((List.length v3.1 : Nat) : Int)) then
                        bif (inR (1 : Int) ((List.length v3.1 : Nat) : Int)) then
                          bif (inR (2 : Int) ((List.length v3.1 : Nat) : Int)) then
                            bif (inR (0 : Int) ((List.length v4.1 : Nat) : Int)) then
                              bif (inR (1 : Int) ((List.length v4.1 : Nat) : Int)) then
                                bif decide (List.length y1.2.1 + List.length ([((rd (α := ByteArray) ByteArray.empty v3.1 (0 : Int)), (rd (α := ByteArray) ByteArray.empty v3.1 (1 : Int)), (rd (α := ByteArray) ByteArray.empty v3.1 (2 : Int)), (rd (α := Int) (0 : Int) v4.1 (0 : Int)), (rd (α := Int) (0 : Int) v4.1 (1 : Int)), ())]) ≤ 4294967296) then
                                  bif (!v4.2.1) then
                                    some (.inr (.inl (.inr ((y1.1.2.1, false, ()), ((y1.2.1 ++ [((rd (α := ByteArray) ByteArray.empty v3.1 (0 : Int)), (rd (α := ByteArray) ByteArray.empty v3.1 (1 : Int)), (rd (α := ByteArray) ByteArray.empty v3.1 (2 : Int)), (rd (α := Int) (0 : Int) v4.1 (0 : Int)), (rd (α := Int) (0 : Int) v4.1 (1 : Int)), ())]), ())))))
                                  else
                                    some (.inl ((v2.2.1, (IntKind.i64.wrap (y1.1.2.1 + (1 : Int))), ()), ((y1.2.1 ++ [((rd (α := ByteArray) ByteArray.empty v3.1 (0 : Int)), (rd (α := ByteArray) ByteArray.empty v3.1 (1 : Int)), (rd (α := ByteArray) ByteArray.empty v3.1 (2 : Int)), (rd (α := Int) (0 : Int) v4.1 (0 : Int)), (rd (α := Int) (0 : Int) v4.1 (1 : Int)), ())]), ())))
                                else
                                  none
                              else
                                none
                            else
                              none
                          else
                            none
                        else
                          none
                      else
                        none
                    else
                      none
            else
              some (.inr (.inr ((), (y1.2.1, ()))))) ((x0, (0 : Int), ()), ([], ()))) fun r => match r with
        | .inl z => some z
        | .inr z5 =>
          some (.inr (((0 : Int), true, ()), (z5.2.1, ())))) fun r => match r with
    | .inl z => some z
    | .inr y6 =>
      bif (!y6.1.2.1) then
        some ([], y6.1.1, (9 : Int), ())
      else
        bif ((g53 y6.2.1) != (0 : Int)) then
          some ([], (0 : Int), (g53 y6.2.1), ())
        else
          some (y6.2.1, (0 : Int), (0 : Int), ())
def H58 : Hints where
  loop := fun n => match n with
    | _ => none
  region := fun n => match n with
    | 4 => some { slots := [(6, (.int .i64)), (7, .bool)], objs := [(0, (.box (.data (.slice ZY2)) (.row ZY2)))], gone := [] }
    | _ => none
  cond := fun n => match n with
    | _ => none
  block := fun n => match n with
    | _ => none
def Hi58_123 : Hints where
  loop := fun n => match n with
    | _ => none
  region := fun n => match n with
    | _ => none
  cond := fun n => match n with
    | _ => none
  block := fun n => match n with
    | _ => none
def tsi58_123 : List (Nat × TD) := [(3, (.data (.int .i64))), (9, (.data .str)), (31, (.data (.slice (.int .i64)))), (60, (.data (.slice .str))), (101, (.data (.slice ZY2))), (107, (.data ZY2))]
noncomputable def bodyi58_123 : Code := match Tryz.f123.body with | some c => c | none => .skip
noncomputable def fsi58_123 (g53 : (List ZT10) → (Int)) (g118 : (List ByteArray) → Int → Option ((List Int) × Bool × Unit)) (g124 : ByteArray → Option ((List ByteArray) × Bool × Unit)) (g157 : ByteArray → ByteArray → Option ZT9) (k : Nat) : List (Nat × FSem) := [(118, .pfn (.cons (.slice .str) (.cons (.int .i64) .nil)) (.cons (.slice (.int .i64)) (.cons .bool .nil)) fun x => (g118 x.1 x.2.1)), (124, .pfn (.cons .str .nil) (.cons (.slice .str) (.cons .bool .nil)) fun x => (g124 x.1))]
theorem tyi58_123 : chkTypes Tryz.prog tsi58_123 = true := by kernel_rfl
def Hi58_114 : Hints where
  loop := fun n => match n with
    | 0 => some ({ slots := [(0, .str), (6, (.int .i64))], objs := [(0, (.box (.data (.slice ZY2)) (.row ZY2)))], gone := [] }, 0, { slots := [], objs := [(0, (.box (.data (.slice ZY2)) (.row ZY2)))], gone := [] })
    | _ => none
  region := fun n => match n with
    | _ => none
  cond := fun n => match n with
    | _ => none
  block := fun n => match n with
    | _ => none
def tsi58_114 : List (Nat × TD) := [(3, (.data (.int .i64))), (9, (.data .str))]
noncomputable def bodyi58_114 : Code := match Tryz.f114.body with | some c => c | none => .skip
noncomputable def fsi58_114 (g53 : (List ZT10) → (Int)) (g118 : (List ByteArray) → Int → Option ((List Int) × Bool × Unit)) (g124 : ByteArray → Option ((List ByteArray) × Bool × Unit)) (g157 : ByteArray → ByteArray → Option ZT9) (k : Nat) : List (Nat × FSem) := [(123, .ev (mkEnv tsi58_123 (fsi58_123 g53 g118 g124 g157 k)) Hi58_123 k bodyi58_123 46 [.tmp 3]), (157, .pfn (.cons .str (.cons .str .nil)) (.cons .str (.cons .str (.cons .bool .nil))) fun x => (g157 x.1 x.2.1))]
theorem tyi58_114 : chkTypes Tryz.prog tsi58_114 = true := by kernel_rfl
abbrev A58 : Tys := (.cons .str .nil)
def ts58 : List (Nat × TD) := [(3, (.data (.int .i64))), (9, (.data .str)), (32, (.data (.int .i64))), (101, (.data (.slice ZY2)))]
noncomputable def fs58 (g53 : (List ZT10) → (Int)) (g118 : (List ByteArray) → Int → Option ((List Int) × Bool × Unit)) (g124 : ByteArray → Option ((List ByteArray) × Bool × Unit)) (g157 : ByteArray → ByteArray → Option ZT9) (k : Nat) : List (Nat × FSem) := [(53, .fn (.cons (.slice ZY2) .nil) (.cons (.int .i64) .nil) fun x => ((g53 x.1), ())), (114, .ev (mkEnv tsi58_114 (fsi58_114 g53 g118 g124 g157 k)) Hi58_114 k bodyi58_114 30 [.tmp 4, .tmp 5])]
noncomputable def body58 : Code := match Tryz.f58.body with | some c => c | none => .skip
theorem ty58 : chkTypes Tryz.prog ts58 = true := by kernel_rfl
theorem ev58 (g53 : (List ZT10) → (Int)) (g118 : (List ByteArray) → Int → Option ((List Int) × Bool × Unit)) (g124 : ByteArray → Option ((List ByteArray) × Bool × Unit)) (g157 : ByteArray → ByteArray → Option ZT9) (k : Nat) (x : ((.cons .str .nil) : Tys).den) : evFun (mkEnv ts58 (fs58 g53 g118 g124 g157 k)) H58 k body58 27 [.tmp 2, .tmp 3, .tmp 4] (explodes (.cons .str .nil) x) [] (dec (.cons (.slice ZY2) (.cons (.int .i64) (.cons (.int .i64) .nil)))) = f58 g53 g118 g124 g157 k x.1 := by kernel_rfl
/-! ### slices.Equal[[]jitney/api.Rating,jitney/api.Rating] -/
def f59  (k : Nat) (x0 : List ZT10) (x1 : List ZT10) : Option (Bool × Unit) :=
  bif (((List.length x0 : Nat) : Int) != ((List.length x1 : Nat) : Int)) then
    some (false, ())
  else
    Option.bind (α := (Bool × Unit) ⊕ ((Unit) × (Unit))) (iter (σ := (Int × Unit) × (Unit)) (τ := (Bool × Unit) ⊕ ((Unit) × (Unit))) k (fun y1 =>
        bif (decide (y1.1.1 < ((List.length x0 : Nat) : Int))) then
          bif (inR y1.1.1 ((List.length x0 : Nat) : Int)) then
            bif (inR y1.1.1 ((List.length x1 : Nat) : Int)) then
              bif (!((sEq ((rd (α := ZT10) zZT10 x0 y1.1.1).1) ((rd (α := ZT10) zZT10 x1 y1.1.1).1)) && ((sEq ((rd (α := ZT10) zZT10 x0 y1.1.1).2.1) ((rd (α := ZT10) zZT10 x1 y1.1.1).2.1)) && ((sEq ((rd (α := ZT10) zZT10 x0 y1.1.1).2.2.1) ((rd (α := ZT10) zZT10 x1 y1.1.1).2.2.1)) && (((rd (α := ZT10) zZT10 x0 y1.1.1).2.2.2.1 == (rd (α := ZT10) zZT10 x1 y1.1.1).2.2.2.1) && (((rd (α := ZT10) zZT10 x0 y1.1.1).2.2.2.2.1 == (rd (α := ZT10) zZT10 x1 y1.1.1).2.2.2.2.1) && true)))))) then
                some (.inr (.inl (false, ())))
              else
                some (.inl (((IntKind.i64.wrap (y1.1.1 + (1 : Int))), ()), ()))
            else
              none
          else
            none
        else
          some (.inr (.inr ((), ())))) (((0 : Int), ()), ())) fun r => match r with
    | .inl z => some z
    | .inr z2 =>
      some (true, ())
def H59 : Hints where
  loop := fun n => match n with
    | 0 => some ({ slots := [(13, (.int .i64))], objs := [], gone := [] }, 0, { slots := [], objs := [], gone := [] })
    | _ => none
  region := fun n => match n with
    | _ => none
  cond := fun n => match n with
    | _ => none
  block := fun n => match n with
    | _ => none
abbrev A59 : Tys := (.cons (.slice ZY2) (.cons (.slice ZY2) .nil))
def ts59 : List (Nat × TD) := [(3, (.data (.int .i64))), (4, (.data .bool)), (101, (.data (.slice ZY2))), (107, (.data ZY2))]
noncomputable def fs59  : List (Nat × FSem) := []
noncomputable def body59 : Code := match Tryz.f59.body with | some c => c | none => .skip
theorem ty59 : chkTypes Tryz.prog ts59 = true := by kernel_rfl
theorem ev59  (k : Nat) (x : ((.cons (.slice ZY2) (.cons (.slice ZY2) .nil)) : Tys).den) : evFun (mkEnv ts59 (fs59 )) H59 k body59 26 [.tmp 4] (explodes (.cons (.slice ZY2) (.cons (.slice ZY2) .nil)) x) [] (dec (.cons .bool .nil)) = f59  k x.1 x.2.1 := by kernel_rfl
/-! ### jitney/base.First -/
def f69  (k : Nat) (x0 : List Int) : Option (Int × Unit) :=
  Option.bind (α := (Int × Unit) ⊕ ((Unit) × (Unit))) (iter (σ := (Int × Unit) × (Unit)) (τ := (Int × Unit) ⊕ ((Unit) × (Unit))) k (fun y1 =>
      bif (decide (y1.1.1 < ((List.length x0 : Nat) : Int))) then
        bif (inR y1.1.1 ((List.length x0 : Nat) : Int)) then
          bif ((rd (α := Int) (0 : Int) x0 y1.1.1) != (0 : Int)) then
            some (.inr (.inl ((rd (α := Int) (0 : Int) x0 y1.1.1), ())))
          else
            some (.inl (((IntKind.i64.wrap (y1.1.1 + (1 : Int))), ()), ()))
        else
          none
      else
        some (.inr (.inr ((), ())))) (((0 : Int), ()), ())) fun r => match r with
  | .inl z => some z
  | .inr z2 =>
    some ((0 : Int), ())
def H69 : Hints where
  loop := fun n => match n with
    | 0 => some ({ slots := [(7, (.int .i64))], objs := [], gone := [] }, 0, { slots := [], objs := [], gone := [] })
    | _ => none
  region := fun n => match n with
    | _ => none
  cond := fun n => match n with
    | _ => none
  block := fun n => match n with
    | _ => none
abbrev A69 : Tys := (.cons (.slice (.int .i64)) .nil)
def ts69 : List (Nat × TD) := [(3, (.data (.int .i64))), (32, (.data (.int .i64))), (128, (.data (.slice (.int .i64))))]
noncomputable def fs69  : List (Nat × FSem) := []
noncomputable def body69 : Code := match Tryz.f69.body with | some c => c | none => .skip
theorem ty69 : chkTypes Tryz.prog ts69 = true := by kernel_rfl
theorem ev69  (k : Nat) (x : ((.cons (.slice (.int .i64)) .nil) : Tys).den) : evFun (mkEnv ts69 (fs69 )) H69 k body69 15 [.tmp 2] (explodes (.cons (.slice (.int .i64)) .nil) x) [] (dec (.cons (.int .i64) .nil)) = f69  k x.1 := by kernel_rfl
/-! ### jitney/trust.faithFault -/
def f164 (g74 : Int → Int → Int → (Bool)) (k : Nat) (x0 : ZT3) : Option (Int × Unit) :=
  bif (g74 x0.1 (0 : Int) (1000 : Int)) then
    some ((1 : Int), ())
  else
    bif (g74 x0.2.1 (1000 : Int) (5000 : Int)) then
      some ((1 : Int), ())
    else
      bif (g74 x0.2.2.1 (0 : Int) (345686400000 : Int)) then
        some ((1 : Int), ())
      else
        some ((0 : Int), ())
def H164 : Hints where
  loop := fun n => match n with
    | _ => none
  region := fun n => match n with
    | _ => none
  cond := fun n => match n with
    | _ => none
  block := fun n => match n with
    | _ => none
abbrev A164 : Tys := (.cons ZY1 .nil)
def ts164 : List (Nat × TD) := [(3, (.data (.int .i64))), (32, (.data (.int .i64))), (183, (.data ZY1))]
noncomputable def fs164 (g74 : Int → Int → Int → (Bool)) : List (Nat × FSem) := [(74, .fn (.cons (.int .i64) (.cons (.int .i64) (.cons (.int .i64) .nil))) (.cons .bool .nil) fun x => ((g74 x.1 x.2.1 x.2.2.1), ()))]
noncomputable def body164 : Code := match Tryz.f164.body with | some c => c | none => .skip
theorem ty164 : chkTypes Tryz.prog ts164 = true := by kernel_rfl
theorem ev164 (g74 : Int → Int → Int → (Bool)) (k : Nat) (x : ((.cons ZY1 .nil) : Tys).den) : evFun (mkEnv ts164 (fs164 g74)) H164 k body164 16 [.tmp 2] (explodes (.cons ZY1 .nil) x) [] (dec (.cons (.int .i64) .nil)) = f164 g74 k x.1 := by kernel_rfl
/-! ### jitney/trust.counting -/
def f202 (g201 : ZT10 → ZT10 → (Int)) (k : Nat) (x0 : List ZT10) (x1 : Int) : Option ((List ZT10) × Unit) :=
  Option.bind (α := ((List ZT10) × Unit) ⊕ (((List ZT10) × Unit) × (Unit))) (iter (σ := ((List ZT10) × Int × Unit) × (Unit)) (τ := ((List ZT10) × Unit) ⊕ (((List ZT10) × Unit) × (Unit))) k (fun y1 =>
      bif (decide (y1.1.2.1 < ((List.length x0 : Nat) : Int))) then
        bif (inR y1.1.2.1 ((List.length x0 : Nat) : Int)) then
          bif (decide ((rd (α := ZT10) zZT10 x0 y1.1.2.1).2.2.2.2.1 > x1)) then
            some (.inl ((y1.1.1, (IntKind.i64.wrap (y1.1.2.1 + (1 : Int))), ()), ()))
          else
            Option.bind (α := ((((List ZT10) × Int × Unit) × (Unit)) ⊕ (((List ZT10) × Unit) ⊕ (((List ZT10) × Unit) × (Unit)))) ⊕ ((Bool × Unit) × (Unit))) (
                bif (decide ((IntKind.i64.wrap (((List.length y1.1.1 : Nat) : Int) - (1 : Int))) ≥ (0 : Int))) then
                  bif (inR (IntKind.i64.wrap (((List.length y1.1.1 : Nat) : Int) - (1 : Int))) ((List.length y1.1.1 : Nat) : Int)) then
                    bif (inR (IntKind.i64.wrap (((List.length y1.1.1 : Nat) : Int) - (1 : Int))) ((List.length y1.1.1 : Nat) : Int)) then
                      some (.inr ((((g201 (rd (α := ZT10) zZT10 y1.1.1 (IntKind.i64.wrap (((List.length y1.1.1 : Nat) : Int) - (1 : Int)))) (rd (α := ZT10) zZT10 x0 y1.1.2.1)) == (0 : Int)), ()), ()))
                    else
                      none
                  else
                    none
                else
                  some (.inr ((false, ()), ()))) fun r => match r with
            | .inl z => some z
            | .inr y2 =>
              bif y2.1.1 then
                bif (inR (IntKind.i64.wrap (((List.length y1.1.1 : Nat) : Int) - (1 : Int))) ((List.length y1.1.1 : Nat) : Int)) then
                  bif (inR (IntKind.i64.wrap (((List.length y1.1.1 : Nat) : Int) - (1 : Int))) ((List.length y1.1.1 : Nat) : Int)) then
                    some (.inl (((List.set y1.1.1 (Int.toNat (IntKind.i64.wrap (((List.length y1.1.1 : Nat) : Int) - (1 : Int)))) (rd (α := ZT10) zZT10 x0 y1.1.2.1)), (IntKind.i64.wrap (y1.1.2.1 + (1 : Int))), ()), ()))
                  else
                    none
                else
                  none
              else
                bif decide (List.length y1.1.1 + List.length ([(rd (α := ZT10) zZT10 x0 y1.1.2.1)]) ≤ 4294967296) then
                  some (.inl (((y1.1.1 ++ [(rd (α := ZT10) zZT10 x0 y1.1.2.1)]), (IntKind.i64.wrap (y1.1.2.1 + (1 : Int))), ()), ()))
                else
                  none
        else
          none
      else
        some (.inr (.inr ((y1.1.1, ()), ())))) (([], (0 : Int), ()), ())) fun r => match r with
  | .inl z => some z
  | .inr z3 =>
    some (z3.1.1, ())
def H202 : Hints where
  loop := fun n => match n with
    | 0 => some ({ slots := [(5, (.row ZY2)), (11, (.int .i64))], objs := [], gone := [] }, 0, { slots := [(5, (.row ZY2))], objs := [], gone := [] })
    | _ => none
  region := fun n => match n with
    | 8 => some { slots := [(27, .bool)], objs := [], gone := [] }
    | _ => none
  cond := fun n => match n with
    | _ => none
  block := fun n => match n with
    | _ => none
abbrev A202 : Tys := (.cons (.slice ZY2) (.cons (.int .i64) .nil))
def ts202 : List (Nat × TD) := [(3, (.data (.int .i64))), (101, (.data (.slice ZY2))), (107, (.data ZY2))]
noncomputable def fs202 (g201 : ZT10 → ZT10 → (Int)) : List (Nat × FSem) := [(201, .fn (.cons ZY2 (.cons ZY2 .nil)) (.cons (.int .i64) .nil) fun x => ((g201 x.1 x.2.1), ()))]
noncomputable def body202 : Code := match Tryz.f202.body with | some c => c | none => .skip
theorem ty202 : chkTypes Tryz.prog ts202 = true := by kernel_rfl
theorem ev202 (g201 : ZT10 → ZT10 → (Int)) (k : Nat) (x : ((.cons (.slice ZY2) (.cons (.int .i64) .nil)) : Tys).den) : evFun (mkEnv ts202 (fs202 g201)) H202 k body202 45 [.tmp 4] (explodes (.cons (.slice ZY2) (.cons (.int .i64) .nil)) x) [] (dec (.cons (.slice ZY2) .nil)) = f202 g201 k x.1 x.2.1 := by kernel_rfl
/-! ### jitney/base.Gcd -/
def f232  (k : Nat) (x0 : Int) (x1 : Int) : Option (Int × Unit) :=
  Option.bind (α := (Int × Unit) ⊕ ((Int × Unit) × (Unit))) (iter (σ := ZT0 × (Unit)) (τ := (Int × Unit) ⊕ ((Int × Unit) × (Unit))) k (fun y1 =>
      bif (y1.1.2.1 != (0 : Int)) then
        bif decide (y1.1.2.1 = 0) then
          none
        else
          some (.inl ((y1.1.2.1, (Int.tmod y1.1.1 y1.1.2.1), ()), ()))
      else
        some (.inr (.inr ((y1.1.1, ()), ())))) ((x0, x1, ()), ())) fun r => match r with
  | .inl z => some z
  | .inr z2 =>
    some (z2.1.1, ())
def H232 : Hints where
  loop := fun n => match n with
    | 0 => some ({ slots := [(0, (.int .i64)), (1, (.int .i64))], objs := [], gone := [] }, 0, { slots := [(0, (.int .i64))], objs := [], gone := [] })
    | _ => none
  region := fun n => match n with
    | _ => none
  cond := fun n => match n with
    | _ => none
  block := fun n => match n with
    | _ => none
abbrev A232 : Tys := (.cons (.int .i64) (.cons (.int .i64) .nil))
def ts232 : List (Nat × TD) := [(3, (.data (.int .i64)))]
noncomputable def fs232  : List (Nat × FSem) := []
noncomputable def body232 : Code := match Tryz.f232.body with | some c => c | none => .skip
theorem ty232 : chkTypes Tryz.prog ts232 = true := by kernel_rfl
theorem ev232  (k : Nat) (x : ((.cons (.int .i64) (.cons (.int .i64) .nil)) : Tys).den) : evFun (mkEnv ts232 (fs232 )) H232 k body232 12 [.tmp 4] (explodes (.cons (.int .i64) (.cons (.int .i64) .nil)) x) [] (dec (.cons (.int .i64) .nil)) = f232  k x.1 x.2.1 := by kernel_rfl
/-! ### jitney/base.Fraction -/
def f203 (g232 : Int → Int → Option (Int × Unit)) (k : Nat) (x0 : Int) (x1 : Int) : Option ZT6 :=
  Option.bind (g232 (if (decide ((IntKind.i64.wrap (-x0)) > x0)) then (IntKind.i64.wrap (-x0)) else x0) x1) fun v1 =>
  bif decide (v1.1 = 0) then
    none
  else
    bif decide (v1.1 = 0) then
      none
    else
      some (((IntKind.i64.wrap (Int.tdiv x0 v1.1)), (IntKind.i64.wrap (Int.tdiv x1 v1.1)), ()), ())
def H203 : Hints where
  loop := fun n => match n with
    | _ => none
  region := fun n => match n with
    | _ => none
  cond := fun n => match n with
    | _ => none
  block := fun n => match n with
    | _ => none
abbrev A203 : Tys := (.cons (.int .i64) (.cons (.int .i64) .nil))
def ts203 : List (Nat × TD) := [(3, (.data (.int .i64))), (179, (.data ZY0))]
noncomputable def fs203 (g232 : Int → Int → Option (Int × Unit)) : List (Nat × FSem) := [(232, .pfn (.cons (.int .i64) (.cons (.int .i64) .nil)) (.cons (.int .i64) .nil) fun x => (g232 x.1 x.2.1))]
noncomputable def body203 : Code := match Tryz.f203.body with | some c => c | none => .skip
theorem ty203 : chkTypes Tryz.prog ts203 = true := by kernel_rfl
theorem ev203 (g232 : Int → Int → Option (Int × Unit)) (k : Nat) (x : ((.cons (.int .i64) (.cons (.int .i64) .nil)) : Tys).den) : evFun (mkEnv ts203 (fs203 g232)) H203 k body203 19 [.cell 4 179] (explodes (.cons (.int .i64) (.cons (.int .i64) .nil)) x) [] (dec (.cons ZY0 .nil)) = f203 g232 k x.1 x.2.1 := by kernel_rfl
/-! ### jitney/trust.Score -/
def f125 (g69 : (List Int) → (Int)) (g73 : Int → (Bool)) (g75 : ByteArray → (Bool)) (g121 : (List ZT10) → (Int)) (g164 : ZT3 → (Int)) (g202 : (List ZT10) → Int → Option ((List ZT10) × Unit)) (g203 : Int → Int → Option ZT6) (k : Nat) (x0 : ZT3) (x1 : List ZT10) (x2 : ByteArray) (x3 : Int) : Option ZT7 :=
  bif ((g69 ([(g121 x1), (g164 x0)])) != (0 : Int)) then
    some (zZT0, (g69 ([(g121 x1), (g164 x0)])), ())
  else
    bif (!(g75 x2)) then
      some (zZT0, (5 : Int), ())
    else
      bif (!(g73 x3)) then
        some (zZT0, (1 : Int), ())
      else
        Option.bind (α := ZT7 ⊕ (ZT8 × (Unit))) (
            Option.bind (g202 x1 x3) fun v1 =>
            Option.bind (α := (ZT7 ⊕ (ZT8 × (Unit))) ⊕ ((Unit) × ((MapC .str (.int .i64)) × (MapC .str (.int .i64)) × Unit))) (iter (σ := (Int × Unit) × ((MapC .str (.int .i64)) × (MapC .str (.int .i64)) × Unit)) (τ := (ZT7 ⊕ (ZT8 × (Unit))) ⊕ ((Unit) × ((MapC .str (.int .i64)) × (MapC .str (.int .i64)) × Unit))) k (fun y2 =>
                bif (decide (y2.1.1 < ((List.length v1.1 : Nat) : Int))) then
                  bif (inR y2.1.1 ((List.length v1.1 : Nat) : Int)) then
                    Option.bind (α := (((Int × Unit) × ((MapC .str (.int .i64)) × (MapC .str (.int .i64)) × Unit)) ⊕ ((ZT7 ⊕ (ZT8 × (Unit))) ⊕ ((Unit) × ((MapC .str (.int .i64)) × (MapC .str (.int .i64)) × Unit)))) ⊕ ((Int × Unit) × (Unit))) (
                        bif (decide (x0.2.2.1 > (0 : Int))) then
                          bif decide (x0.2.2.1 = 0) then
                            none
                          else
                            bif decide (0 ≤ (if (decide ((IntKind.i64.wrap (Int.tdiv (IntKind.i64.wrap (x3 - (rd (α := ZT10) zZT10 v1.1 y2.1.1).2.2.2.2.1)) x0.2.2.1)) < (10 : Int))) then (IntKind.i64.wrap (Int.tdiv (IntKind.i64.wrap (x3 - (rd (α := ZT10) zZT10 v1.1 y2.1.1).2.2.2.2.1)) x0.2.2.1)) else (10 : Int))) then
                              some (.inr (((Int.fdiv (1024 : Int) ((2 : Int) ^ (min (Int.toNat (if (decide ((IntKind.i64.wrap (Int.tdiv (IntKind.i64.wrap (x3 - (rd (α := ZT10) zZT10 v1.1 y2.1.1).2.2.2.2.1)) x0.2.2.1)) < (10 : Int))) then (IntKind.i64.wrap (Int.tdiv (IntKind.i64.wrap (x3 - (rd (α := ZT10) zZT10 v1.1 y2.1.1).2.2.2.2.1)) x0.2.2.1)) else (10 : Int))) 64))), ()), ()))
                            else
                              none
                        else
                          some (.inr (((1024 : Int), ()), ()))) fun r => match r with
                    | .inl z => some z
                    | .inr y3 =>
                      some (.inl (((IntKind.i64.wrap (y2.1.1 + (1 : Int))), ()), ((mput (keq .str) ((rd (α := ZT10) zZT10 v1.1 y2.1.1).2.1) (IntKind.i64.wrap ((mget (keq .str) (0 : Int) ((rd (α := ZT10) zZT10 v1.1 y2.1.1).2.1) y2.2.1.1) + (IntKind.i64.wrap ((IntKind.i64.wrap ((1000 : Int) * y3.1.1)) * (rd (α := ZT10) zZT10 v1.1 y2.1.1).2.2.2.1)))) y2.2.1), (mput (keq .str) ((rd (α := ZT10) zZT10 v1.1 y2.1.1).2.1) (IntKind.i64.wrap ((mget (keq .str) (0 : Int) ((rd (α := ZT10) zZT10 v1.1 y2.1.1).2.1) y2.2.2.1.1) + (IntKind.i64.wrap ((1000 : Int) * y3.1.1)))) y2.2.2.1), ())))
                  else
                    none
                else
                  some (.inr (.inr ((), (y2.2.1, y2.2.2.1, ()))))) (((0 : Int), ()), ((([], 0) : MapC .str (.int .i64)), (([], 0) : MapC .str (.int .i64)), ()))) fun r => match r with
            | .inl z => some z
            | .inr z4 =>
              bif ((IntKind.i64.wrap ((mget (keq .str) (0 : Int) x2 z4.2.2.1.1) + (IntKind.i64.wrap ((1024000 : Int) * x0.1)))) == (0 : Int)) then
                some (.inr (zZT8, ()))
              else
                Option.bind (g203 (IntKind.i64.wrap ((mget (keq .str) (0 : Int) x2 z4.2.1.1) + (IntKind.i64.wrap ((IntKind.i64.wrap ((1024 : Int) * x0.1)) * x0.2.1)))) (IntKind.i64.wrap ((mget (keq .str) (0 : Int) x2 z4.2.2.1.1) + (IntKind.i64.wrap ((1024000 : Int) * x0.1))))) fun v5 =>
                some (.inr ((v5.1, true, ()), ()))) fun r => match r with
        | .inl z => some z
        | .inr y6 =>
          bif (!y6.1.2.1) then
            some (zZT0, (8 : Int), ())
          else
            some ((y6.1.1.1, y6.1.1.2.1, ()), (0 : Int), ())
def H125 : Hints where
  loop := fun n => match n with
    | _ => none
  region := fun n => match n with
    | 8 => some { slots := [(11, (.box (.data ZY0) (.agg (.cons (.int .i64) (.cons (.int .i64) .nil))))), (12, .bool)], objs := [], gone := [] }
    | _ => none
  cond := fun n => match n with
    | _ => none
  block := fun n => match n with
    | _ => none
def Hi125_165 : Hints where
  loop := fun n => match n with
    | 0 => some ({ slots := [(19, (.int .i64))], objs := [(1, (.map .str (.int .i64))), (2, (.map .str (.int .i64)))], gone := [] }, 0, { slots := [], objs := [(1, (.map .str (.int .i64))), (2, (.map .str (.int .i64)))], gone := [] })
    | _ => none
  region := fun n => match n with
    | _ => none
  cond := fun n => match n with
    | 25 => some { slots := [(10, (.int .i64))], objs := [], gone := [] }
    | _ => none
  block := fun n => match n with
    | _ => none
def tsi125_165 : List (Nat × TD) := [(3, (.data (.int .i64))), (9, (.data .str)), (101, (.data (.slice ZY2))), (107, (.data ZY2)), (136, (.map .str (.int .i64))), (183, (.data ZY1)), (253, (.agg (.cons (.map .str (.int .i64)) (.cons (.map .str (.int .i64)) .nil))))]
noncomputable def bodyi125_165 : Code := match Tryz.f165.body with | some c => c | none => .skip
noncomputable def fsi125_165 (g69 : (List Int) → (Int)) (g73 : Int → (Bool)) (g75 : ByteArray → (Bool)) (g121 : (List ZT10) → (Int)) (g164 : ZT3 → (Int)) (g202 : (List ZT10) → Int → Option ((List ZT10) × Unit)) (g203 : Int → Int → Option ZT6) (k : Nat) : List (Nat × FSem) := [(202, .pfn (.cons (.slice ZY2) (.cons (.int .i64) .nil)) (.cons (.slice ZY2) .nil) fun x => (g202 x.1 x.2.1))]
theorem tyi125_165 : chkTypes Tryz.prog tsi125_165 = true := by kernel_rfl
def Hi125_166 : Hints where
  loop := fun n => match n with
    | _ => none
  region := fun n => match n with
    | _ => none
  cond := fun n => match n with
    | _ => none
  block := fun n => match n with
    | _ => none
def tsi125_166 : List (Nat × TD) := [(3, (.data (.int .i64))), (136, (.map .str (.int .i64))), (179, (.data ZY0)), (183, (.data ZY1)), (253, (.agg (.cons (.map .str (.int .i64)) (.cons (.map .str (.int .i64)) .nil))))]
noncomputable def bodyi125_166 : Code := match Tryz.f166.body with | some c => c | none => .skip
noncomputable def fsi125_166 (g69 : (List Int) → (Int)) (g73 : Int → (Bool)) (g75 : ByteArray → (Bool)) (g121 : (List ZT10) → (Int)) (g164 : ZT3 → (Int)) (g202 : (List ZT10) → Int → Option ((List ZT10) × Unit)) (g203 : Int → Int → Option ZT6) (k : Nat) : List (Nat × FSem) := [(203, .pfn (.cons (.int .i64) (.cons (.int .i64) .nil)) (.cons ZY0 .nil) fun x => (g203 x.1 x.2.1))]
theorem tyi125_166 : chkTypes Tryz.prog tsi125_166 = true := by kernel_rfl
abbrev A125 : Tys := (.cons ZY1 (.cons (.slice ZY2) (.cons .str (.cons (.int .i64) .nil))))
def ts125 : List (Nat × TD) := [(3, (.data (.int .i64))), (9, (.data .str)), (32, (.data (.int .i64))), (101, (.data (.slice ZY2))), (128, (.data (.slice (.int .i64)))), (179, (.data ZY0)), (183, (.data ZY1))]
noncomputable def fs125 (g69 : (List Int) → (Int)) (g73 : Int → (Bool)) (g75 : ByteArray → (Bool)) (g121 : (List ZT10) → (Int)) (g164 : ZT3 → (Int)) (g202 : (List ZT10) → Int → Option ((List ZT10) × Unit)) (g203 : Int → Int → Option ZT6) (k : Nat) : List (Nat × FSem) := [(69, .fn (.cons (.slice (.int .i64)) .nil) (.cons (.int .i64) .nil) fun x => ((g69 x.1), ())), (73, .fn (.cons (.int .i64) .nil) (.cons .bool .nil) fun x => ((g73 x.1), ())), (75, .fn (.cons .str .nil) (.cons .bool .nil) fun x => ((g75 x.1), ())), (121, .fn (.cons (.slice ZY2) .nil) (.cons (.int .i64) .nil) fun x => ((g121 x.1), ())), (164, .fn (.cons ZY1 .nil) (.cons (.int .i64) .nil) fun x => ((g164 x.1), ())), (165, .ev (mkEnv tsi125_165 (fsi125_165 g69 g73 g75 g121 g164 g202 g203 k)) Hi125_165 k bodyi125_165 61 [.tmp 6]), (166, .evr (mkEnv tsi125_166 (fsi125_166 g69 g73 g75 g121 g164 g202 g203 k)) Hi125_166 k bodyi125_166 37 [.cell 6 179, .tmp 7])]
noncomputable def body125 : Code := match Tryz.f125.body with | some c => c | none => .skip
theorem ty125 : chkTypes Tryz.prog ts125 = true := by kernel_rfl
theorem ev125 (g69 : (List Int) → (Int)) (g73 : Int → (Bool)) (g75 : ByteArray → (Bool)) (g121 : (List ZT10) → (Int)) (g164 : ZT3 → (Int)) (g202 : (List ZT10) → Int → Option ((List ZT10) × Unit)) (g203 : Int → Int → Option ZT6) (k : Nat) (x : ((.cons ZY1 (.cons (.slice ZY2) (.cons .str (.cons (.int .i64) .nil)))) : Tys).den) : evFun (mkEnv ts125 (fs125 g69 g73 g75 g121 g164 g202 g203 k)) H125 k body125 47 [.cell 8 179, .tmp 9] (explodes (.cons ZY1 (.cons (.slice ZY2) (.cons .str (.cons (.int .i64) .nil)))) x) [] (dec (.cons ZY0 (.cons (.int .i64) .nil))) = f125 g69 g73 g75 g121 g164 g202 g203 k x.1 x.2.1 x.2.2.1 x.2.2.2.1 := by kernel_rfl
/-! ### jitney/jitlaw2.trusted -/
def f60 (g125 : ZT3 → (List ZT10) → ByteArray → Int → Option ZT7) (k : Nat)  : Option (Bool × Unit) :=
  Option.bind (g125 ((2 : Int), (3000 : Int), (0 : Int), ()) ([((ByteArray.mk #[97]), (ByteArray.mk #[98]), (ByteArray.mk #[114]), (5 : Int), (0 : Int), ())]) (ByteArray.mk #[98]) (0 : Int)) fun v1 =>
  bif (v1.2.1 == (0 : Int)) then
    bif (v1.1.1 == (11 : Int)) then
      some ((v1.1.2.1 == (3 : Int)), ())
    else
      some (false, ())
  else
    some (false, ())
def H60 : Hints where
  loop := fun n => match n with
    | _ => none
  region := fun n => match n with
    | _ => none
  cond := fun n => match n with
    | _ => none
  block := fun n => match n with
    | _ => none
abbrev A60 : Tys := .nil
def ts60 : List (Nat × TD) := [(3, (.data (.int .i64))), (4, (.data .bool)), (32, (.data (.int .i64))), (101, (.data (.slice ZY2))), (107, (.data ZY2)), (179, (.data ZY0)), (183, (.data ZY1))]
noncomputable def fs60 (g125 : ZT3 → (List ZT10) → ByteArray → Int → Option ZT7) : List (Nat × FSem) := [(125, .pfn (.cons ZY1 (.cons (.slice ZY2) (.cons .str (.cons (.int .i64) .nil)))) (.cons ZY0 (.cons (.int .i64) .nil)) fun x => (g125 x.1 x.2.1 x.2.2.1 x.2.2.2.1))]
noncomputable def body60 : Code := match Tryz.f60.body with | some c => c | none => .skip
theorem ty60 : chkTypes Tryz.prog ts60 = true := by kernel_rfl
theorem ev60 (g125 : ZT3 → (List ZT10) → ByteArray → Int → Option ZT7) (k : Nat) (x : (.nil : Tys).den) : evFun (mkEnv ts60 (fs60 g125)) H60 k body60 22 [.tmp 0] (explodes .nil x) [] (dec (.cons .bool .nil)) = f60 g125 k  := by kernel_rfl
/-! ### jitney/jitlaw2.RatingTexts -/
def f6 (g48 : ByteArray → Int → ZT2) (g53 : (List ZT10) → (Int)) (g54 : (List ZT10) → Option (ByteArray × Unit)) (g55 : (List ZT10) → Option ZT2) (g56 : (List ZT10) → Option ((List ZT10) × Unit)) (g57 : ByteArray → Option ((List ZT10) × Int × Int × Unit)) (g58 : ByteArray → Option ((List ZT10) × Int × Int × Unit)) (g59 : (List ZT10) → (List ZT10) → (Bool)) (g60 : Option (Bool × Unit)) (k : Nat) (x0 : List ZT10) (x1 : ByteArray) : Option (Bool × Unit) :=
  Option.bind (α := (Bool × Unit) ⊕ ((ByteArray × Unit) × (Unit))) (
      bif ((g53 x0) == (0 : Int)) then
        Option.bind (g54 x0) fun v1 =>
        some (.inr ((v1.1, ()), ()))
      else
        some (.inr (((ByteArray.mk #[]), ()), ()))) fun r => match r with
  | .inl z => some z
  | .inr y2 =>
    Option.bind (g56 x0) fun v3 =>
    Option.bind (g55 v3.1) fun v4 =>
    Option.bind (g57 x1) fun v5 =>
    Option.bind (g58 x1) fun v6 =>
    bif (v4.2.1 == (g48 y2.1.1 (g53 x0)).2.1) then
      bif (sEq v4.1 ((g48 y2.1.1 (g53 x0)).1)) then
        bif (g59 v5.1 v6.1) then
          bif (v5.2.1 == v6.2.1) then
            bif (v5.2.2.1 == v6.2.2.1) then
              Option.bind g60 fun v7 =>
              some (v7.1, ())
            else
              some (false, ())
          else
            some (false, ())
        else
          some (false, ())
      else
        some (false, ())
    else
      some (false, ())
def H6 : Hints where
  loop := fun n => match n with
    | _ => none
  region := fun n => match n with
    | _ => none
  cond := fun n => match n with
    | 18 => some { slots := [(6, .str)], objs := [], gone := [] }
    | _ => none
  block := fun n => match n with
    | _ => none
abbrev A6 : Tys := (.cons (.slice ZY2) (.cons .str .nil))
def ts6 : List (Nat × TD) := [(3, (.data (.int .i64))), (4, (.data .bool)), (9, (.data .str)), (32, (.data (.int .i64))), (101, (.data (.slice ZY2)))]
noncomputable def fs6 (g48 : ByteArray → Int → ZT2) (g53 : (List ZT10) → (Int)) (g54 : (List ZT10) → Option (ByteArray × Unit)) (g55 : (List ZT10) → Option ZT2) (g56 : (List ZT10) → Option ((List ZT10) × Unit)) (g57 : ByteArray → Option ((List ZT10) × Int × Int × Unit)) (g58 : ByteArray → Option ((List ZT10) × Int × Int × Unit)) (g59 : (List ZT10) → (List ZT10) → (Bool)) (g60 : Option (Bool × Unit)) : List (Nat × FSem) := [(48, .fn (.cons .str (.cons (.int .i64) .nil)) (.cons .str (.cons (.int .i64) .nil)) fun x => (g48 x.1 x.2.1)), (53, .fn (.cons (.slice ZY2) .nil) (.cons (.int .i64) .nil) fun x => ((g53 x.1), ())), (54, .pfn (.cons (.slice ZY2) .nil) (.cons .str .nil) fun x => (g54 x.1)), (55, .pfn (.cons (.slice ZY2) .nil) (.cons .str (.cons (.int .i64) .nil)) fun x => (g55 x.1)), (56, .pfn (.cons (.slice ZY2) .nil) (.cons (.slice ZY2) .nil) fun x => (g56 x.1)), (57, .pfn (.cons .str .nil) (.cons (.slice ZY2) (.cons (.int .i64) (.cons (.int .i64) .nil))) fun x => (g57 x.1)), (58, .pfn (.cons .str .nil) (.cons (.slice ZY2) (.cons (.int .i64) (.cons (.int .i64) .nil))) fun x => (g58 x.1)), (59, .fn (.cons (.slice ZY2) (.cons (.slice ZY2) .nil)) (.cons .bool .nil) fun x => ((g59 x.1 x.2.1), ())), (60, .pfn .nil (.cons .bool .nil) fun x => g60)]
noncomputable def body6 : Code := match Tryz.f6.body with | some c => c | none => .skip
theorem ty6 : chkTypes Tryz.prog ts6 = true := by kernel_rfl
theorem ev6 (g48 : ByteArray → Int → ZT2) (g53 : (List ZT10) → (Int)) (g54 : (List ZT10) → Option (ByteArray × Unit)) (g55 : (List ZT10) → Option ZT2) (g56 : (List ZT10) → Option ((List ZT10) × Unit)) (g57 : ByteArray → Option ((List ZT10) × Int × Int × Unit)) (g58 : ByteArray → Option ((List ZT10) × Int × Int × Unit)) (g59 : (List ZT10) → (List ZT10) → (Bool)) (g60 : Option (Bool × Unit)) (k : Nat) (x : ((.cons (.slice ZY2) (.cons .str .nil)) : Tys).den) : evFun (mkEnv ts6 (fs6 g48 g53 g54 g55 g56 g57 g58 g59 g60)) H6 k body6 71 [.tmp 4] (explodes (.cons (.slice ZY2) (.cons .str .nil)) x) [] (dec (.cons .bool .nil)) = f6 g48 g53 g54 g55 g56 g57 g58 g59 g60 k x.1 x.2.1 := by kernel_rfl
end Go.Vm
