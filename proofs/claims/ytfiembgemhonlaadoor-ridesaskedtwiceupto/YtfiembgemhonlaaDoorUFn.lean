/- The program's functions, as an own tool reads them off its form. -/
import Derived.Test.YtfiembgemhonlaaDoorVmK
import Derived.Test.YtfiembgemhonlaaDoorVmD
import Derived.Test.YtfiembgemhonlaaDoorVmQ
import Derived.Test.YtfiembgemhonlaaDoorProg
set_option maxRecDepth 100000
set_option linter.unusedVariables false
namespace Go.Vm
open Go.Proofs
abbrev UT4 : Type := (ByteArray × ByteArray × Unit)
abbrev zUT4 : UT4 := (ByteArray.empty, ByteArray.empty, ())
abbrev UY0 : Ty := (.struct (.cons .str (.cons .str .nil)))
theorem mixedOK : Tryd.prog.follows .mixedOrders = true := by kernel_rfl
/-! ### cmp.Or[int] -/
def H38 : Hints where
  loop := fun n => match n with
    | 0 => some ({ slots := [(8, (.int .i64))], objs := [], gone := [] }, 0, { slots := [], objs := [], gone := [] })
    | _ => none
  region := fun n => match n with
    | _ => none
  cond := fun n => match n with
    | _ => none
  block := fun n => match n with
    | _ => none
noncomputable def body38 : Code := match Tryd.f38.body with | some c => c | none => .skip
/-! ### strings.Compare -/
/-! ### jitney/trust.sameDrive -/
/-! ### jitney/base.Key -/
def f36  (k : Nat) (x0 : ByteArray) : Option (Bool × Unit) :=
  bif (sEq x0 (ByteArray.mk #[])) then
    some (false, ())
  else
    bif (decide (((ByteArray.size x0 : Nat) : Int) > (40 : Int))) then
      some (false, ())
    else
      bif (inR (0 : Int) ((ByteArray.size x0 : Nat) : Int)) then
        bif (decide ((bt x0 (0 : Int)) < (97 : Int))) then
          some (false, ())
        else
          bif (inR (0 : Int) ((ByteArray.size x0 : Nat) : Int)) then
            bif (decide ((bt x0 (0 : Int)) > (122 : Int))) then
              some (false, ())
            else
              Option.bind (α := (Bool × Unit) ⊕ ((Unit) × (Unit))) (iter (σ := (Int × Unit) × (Unit)) (τ := (Bool × Unit) ⊕ ((Unit) × (Unit))) k (fun y1 =>
                  bif (decide (y1.1.1 < ((ByteArray.size x0 : Nat) : Int))) then
                    bif (inR y1.1.1 ((ByteArray.size x0 : Nat) : Int)) then
                      bif (decide ((bt x0 y1.1.1) ≥ (97 : Int))) then
                        bif (decide ((bt x0 y1.1.1) ≤ (122 : Int))) then
                          some (.inl (((IntKind.i64.wrap (y1.1.1 + (1 : Int))), ()), ()))
                        else
                          bif (decide ((bt x0 y1.1.1) ≥ (48 : Int))) then
                            bif (decide ((bt x0 y1.1.1) ≤ (57 : Int))) then
                              some (.inl (((IntKind.i64.wrap (y1.1.1 + (1 : Int))), ()), ()))
                            else
                              bif ((bt x0 y1.1.1) == (45 : Int)) then
                                some (.inl (((IntKind.i64.wrap (y1.1.1 + (1 : Int))), ()), ()))
                              else
                                bif (!((bt x0 y1.1.1) == (95 : Int))) then
                                  some (.inr (.inl (false, ())))
                                else
                                  some (.inl (((IntKind.i64.wrap (y1.1.1 + (1 : Int))), ()), ()))
                          else
                            bif ((bt x0 y1.1.1) == (45 : Int)) then
                              some (.inl (((IntKind.i64.wrap (y1.1.1 + (1 : Int))), ()), ()))
                            else
                              bif (!((bt x0 y1.1.1) == (95 : Int))) then
                                some (.inr (.inl (false, ())))
                              else
                                some (.inl (((IntKind.i64.wrap (y1.1.1 + (1 : Int))), ()), ()))
                      else
                        bif (decide ((bt x0 y1.1.1) ≥ (48 : Int))) then
                          bif (decide ((bt x0 y1.1.1) ≤ (57 : Int))) then
                            some (.inl (((IntKind.i64.wrap (y1.1.1 + (1 : Int))), ()), ()))
                          else
                            bif ((bt x0 y1.1.1) == (45 : Int)) then
                              some (.inl (((IntKind.i64.wrap (y1.1.1 + (1 : Int))), ()), ()))
                            else
                              bif (!((bt x0 y1.1.1) == (95 : Int))) then
                                some (.inr (.inl (false, ())))
                              else
                                some (.inl (((IntKind.i64.wrap (y1.1.1 + (1 : Int))), ()), ()))
                        else
                          bif ((bt x0 y1.1.1) == (45 : Int)) then
                            some (.inl (((IntKind.i64.wrap (y1.1.1 + (1 : Int))), ()), ()))
                          else
                            bif (!((bt x0 y1.1.1) == (95 : Int))) then
                              some (.inr (.inl (false, ())))
                            else
                              some (.inl (((IntKind.i64.wrap (y1.1.1 + (1 : Int))), ()), ()))
                    else
                      none
                  else
                    some (.inr (.inr ((), ())))) (((0 : Int), ()), ())) fun r => match r with
              | .inl z => some z
              | .inr z2 =>
                some (true, ())
          else
            none
      else
        none
def H36 : Hints where
  loop := fun n => match n with
    | 0 => some ({ slots := [(24, (.int .i64))], objs := [], gone := [] }, 0, { slots := [], objs := [], gone := [] })
    | _ => none
  region := fun n => match n with
    | _ => none
  cond := fun n => match n with
    | _ => none
  block := fun n => match n with
    | _ => none
abbrev A36 : Tys := (.cons .str .nil)
def ts36 : List (Nat × TD) := [(3, (.data (.int .i64))), (4, (.data .bool)), (5, (.data (.int .u8))), (9, (.data .str))]
noncomputable def fs36  : List (Nat × FSem) := []
noncomputable def body36 : Code := match Tryd.f36.body with | some c => c | none => .skip
theorem ty36 : chkTypes Tryd.prog ts36 = true := by kernel_rfl
theorem ev36  (k : Nat) (x : ((.cons .str .nil) : Tys).den) : evFun (mkEnv ts36 (fs36 )) H36 k body36 54 [.tmp 2] (explodes (.cons .str .nil) x) [] (dec (.cons .bool .nil)) = f36  k x.1 := by kernel_rfl
/-! ### jitney/base.Out -/
def f40  (k : Nat) (x0 : Int) (x1 : Int) (x2 : Int) : Option (Bool × Unit) :=
  bif (decide (x0 < x1)) then
    some (true, ())
  else
    some ((decide (x0 > x2)), ())
def H40 : Hints where
  loop := fun n => match n with
    | _ => none
  region := fun n => match n with
    | _ => none
  cond := fun n => match n with
    | _ => none
  block := fun n => match n with
    | _ => none
abbrev A40 : Tys := (.cons (.int .i64) (.cons (.int .i64) (.cons (.int .i64) .nil)))
def ts40 : List (Nat × TD) := [(3, (.data (.int .i64))), (4, (.data .bool))]
noncomputable def fs40  : List (Nat × FSem) := []
noncomputable def body40 : Code := match Tryd.f40.body with | some c => c | none => .skip
theorem ty40 : chkTypes Tryd.prog ts40 = true := by kernel_rfl
theorem ev40  (k : Nat) (x : ((.cons (.int .i64) (.cons (.int .i64) (.cons (.int .i64) .nil))) : Tys).den) : evFun (mkEnv ts40 (fs40 )) H40 k body40 15 [.tmp 6] (explodes (.cons (.int .i64) (.cons (.int .i64) (.cons (.int .i64) .nil))) x) [] (dec (.cons .bool .nil)) = f40  k x.1 x.2.1 x.2.2.1 := by kernel_rfl
/-! ### jitney/base.Moment -/
def f37 (g40 : Int → Int → Int → (Bool)) (k : Nat) (x0 : Int) : Option (Bool × Unit) :=
  some ((!(g40 x0 (0 : Int) (345686399999 : Int))), ())
def H37 : Hints where
  loop := fun n => match n with
    | _ => none
  region := fun n => match n with
    | _ => none
  cond := fun n => match n with
    | _ => none
  block := fun n => match n with
    | _ => none
abbrev A37 : Tys := (.cons (.int .i64) .nil)
def ts37 : List (Nat × TD) := [(3, (.data (.int .i64))), (4, (.data .bool))]
noncomputable def fs37 (g40 : Int → Int → Int → (Bool)) : List (Nat × FSem) := [(40, .fn (.cons (.int .i64) (.cons (.int .i64) (.cons (.int .i64) .nil))) (.cons .bool .nil) fun x => ((g40 x.1 x.2.1 x.2.2.1), ()))]
noncomputable def body37 : Code := match Tryd.f37.body with | some c => c | none => .skip
theorem ty37 : chkTypes Tryd.prog ts37 = true := by kernel_rfl
theorem ev37 (g40 : Int → Int → Int → (Bool)) (k : Nat) (x : ((.cons (.int .i64) .nil) : Tys).den) : evFun (mkEnv ts37 (fs37 g40)) H37 k body37 6 [.tmp 2] (explodes (.cons (.int .i64) .nil) x) [] (dec (.cons .bool .nil)) = f37 g40 k x.1 := by kernel_rfl
/-! ### cmp.isNaN[int] -/
def f52  (k : Nat) (x0 : Int) : Option (Bool × Unit) :=
  some ((x0 != x0), ())
def H52 : Hints where
  loop := fun n => match n with
    | _ => none
  region := fun n => match n with
    | _ => none
  cond := fun n => match n with
    | _ => none
  block := fun n => match n with
    | _ => none
abbrev A52 : Tys := (.cons (.int .i64) .nil)
def ts52 : List (Nat × TD) := [(3, (.data (.int .i64))), (4, (.data .bool))]
noncomputable def fs52  : List (Nat × FSem) := []
noncomputable def body52 : Code := match Tryd.f52.body with | some c => c | none => .skip
theorem ty52 : chkTypes Tryd.prog ts52 = true := by kernel_rfl
theorem ev52  (k : Nat) (x : ((.cons (.int .i64) .nil) : Tys).den) : evFun (mkEnv ts52 (fs52 )) H52 k body52 6 [.tmp 2] (explodes (.cons (.int .i64) .nil) x) [] (dec (.cons .bool .nil)) = f52  k x.1 := by kernel_rfl
/-! ### cmp.Compare[int] -/
def f39 (g52 : Int → (Bool)) (k : Nat) (x0 : Int) (x1 : Int) : Option (Int × Unit) :=
  bif (g52 x0) then
    bif (g52 x1) then
      some ((0 : Int), ())
    else
      some ((-1 : Int), ())
  else
    bif (g52 x1) then
      some ((1 : Int), ())
    else
      bif (decide (x0 < x1)) then
        some ((-1 : Int), ())
      else
        bif (decide (x0 > x1)) then
          some ((1 : Int), ())
        else
          some ((0 : Int), ())
def H39 : Hints where
  loop := fun n => match n with
    | _ => none
  region := fun n => match n with
    | _ => none
  cond := fun n => match n with
    | _ => none
  block := fun n => match n with
    | _ => none
abbrev A39 : Tys := (.cons (.int .i64) (.cons (.int .i64) .nil))
def ts39 : List (Nat × TD) := [(3, (.data (.int .i64)))]
noncomputable def fs39 (g52 : Int → (Bool)) : List (Nat × FSem) := [(52, .fn (.cons (.int .i64) .nil) (.cons .bool .nil) fun x => ((g52 x.1), ()))]
noncomputable def body39 : Code := match Tryd.f39.body with | some c => c | none => .skip
theorem ty39 : chkTypes Tryd.prog ts39 = true := by kernel_rfl
theorem ev39 (g52 : Int → (Bool)) (k : Nat) (x : ((.cons (.int .i64) (.cons (.int .i64) .nil)) : Tys).den) : evFun (mkEnv ts39 (fs39 g52)) H39 k body39 20 [.tmp 4] (explodes (.cons (.int .i64) (.cons (.int .i64) .nil)) x) [] (dec (.cons (.int .i64) .nil)) = f39 g52 k x.1 x.2.1 := by kernel_rfl
/-! ### jitney/trust.CheckDone -/
/-! ### jitney/trust.CheckQuests -/
/-! ### jitney/base.First -/
/-! ### jitney/trust.whoFault -/
/-! ### strconv.Itoa -/
def f30 (g49 : Int → Option (ByteArray × Unit)) (k : Nat) (x0 : Int) : Option (ByteArray × Unit) :=
  Option.bind (g49 x0) fun v1 =>
  some (v1.1, ())
def H30 : Hints where
  loop := fun n => match n with
    | _ => none
  region := fun n => match n with
    | _ => none
  cond := fun n => match n with
    | _ => none
  block := fun n => match n with
    | _ => none
abbrev A30 : Tys := (.cons (.int .i64) .nil)
def ts30 : List (Nat × TD) := [(3, (.data (.int .i64))), (9, (.data .str))]
noncomputable def fs30 (g49 : Int → Option (ByteArray × Unit)) : List (Nat × FSem) := [(49, .pfn (.cons (.int .i64) .nil) (.cons .str .nil) fun x => (g49 x.1))]
noncomputable def body30 : Code := match Tryd.f30.body with | some c => c | none => .skip
theorem ty30 : chkTypes Tryd.prog ts30 = true := by kernel_rfl
theorem ev30 (g49 : Int → Option (ByteArray × Unit)) (k : Nat) (x : ((.cons (.int .i64) .nil) : Tys).den) : evFun (mkEnv ts30 (fs30 g49)) H30 k body30 5 [.tmp 2] (explodes (.cons (.int .i64) .nil) x) [] (dec (.cons .str .nil)) = f30 g49 k x.1 := by kernel_rfl
/-! ### jitney/trust.Bonus -/
/-! ### slices.Clone[[]jitney/api.Quest,jitney/api.Quest] -/
/-! ### slices.Clone[[]jitney/api.Done,jitney/api.Done] -/
/-! ### jitney/jitlaw2.errs -/
/-! ### jitney/jitref2.in -/
def f31  (k : Nat) (x0 : Int) (x1 : Int) (x2 : Int) : Option (Bool × Unit) :=
  bif (decide (x1 ≤ x0)) then
    some ((decide (x0 ≤ x2)), ())
  else
    some (false, ())
def H31 : Hints where
  loop := fun n => match n with
    | _ => none
  region := fun n => match n with
    | _ => none
  cond := fun n => match n with
    | _ => none
  block := fun n => match n with
    | _ => none
abbrev A31 : Tys := (.cons (.int .i64) (.cons (.int .i64) (.cons (.int .i64) .nil)))
def ts31 : List (Nat × TD) := [(3, (.data (.int .i64))), (4, (.data .bool))]
noncomputable def fs31  : List (Nat × FSem) := []
noncomputable def body31 : Code := match Tryd.f31.body with | some c => c | none => .skip
theorem ty31 : chkTypes Tryd.prog ts31 = true := by kernel_rfl
theorem ev31  (k : Nat) (x : ((.cons (.int .i64) (.cons (.int .i64) (.cons (.int .i64) .nil))) : Tys).den) : evFun (mkEnv ts31 (fs31 )) H31 k body31 15 [.tmp 6] (explodes (.cons (.int .i64) (.cons (.int .i64) (.cons (.int .i64) .nil))) x) [] (dec (.cons .bool .nil)) = f31  k x.1 x.2.1 x.2.2.1 := by kernel_rfl
/-! ### strings.IndexByte -/
def f51 (g63 : ByteArray → Int → (Int)) (k : Nat) (x0 : ByteArray) (x1 : Int) : Option (Int × Unit) :=
  some ((g63 x0 x1), ())
def H51 : Hints where
  loop := fun n => match n with
    | _ => none
  region := fun n => match n with
    | _ => none
  cond := fun n => match n with
    | _ => none
  block := fun n => match n with
    | _ => none
abbrev A51 : Tys := (.cons .str (.cons (.int .u8) .nil))
def ts51 : List (Nat × TD) := [(3, (.data (.int .i64))), (5, (.data (.int .u8))), (9, (.data .str))]
noncomputable def fs51 (g63 : ByteArray → Int → (Int)) : List (Nat × FSem) := [(63, .fn (.cons .str (.cons (.int .u8) .nil)) (.cons (.int .i64) .nil) fun x => ((g63 x.1 x.2.1), ()))]
noncomputable def body51 : Code := match Tryd.f51.body with | some c => c | none => .skip
theorem ty51 : chkTypes Tryd.prog ts51 = true := by kernel_rfl
theorem ev51 (g63 : ByteArray → Int → (Int)) (k : Nat) (x : ((.cons .str (.cons (.int .u8) .nil)) : Tys).den) : evFun (mkEnv ts51 (fs51 g63)) H51 k body51 8 [.tmp 4] (explodes (.cons .str (.cons (.int .u8) .nil)) x) [] (dec (.cons (.int .i64) .nil)) = f51 g63 k x.1 x.2.1 := by kernel_rfl
/-! ### jitney/jitref2.only -/
def f34 (g51 : ByteArray → Int → (Int)) (k : Nat) (x0 : ByteArray) (x1 : ByteArray) : Option (Bool × Unit) :=
  Option.bind (α := (Bool × Unit) ⊕ ((Unit) × (Unit))) (iter (σ := (Int × Unit) × (Unit)) (τ := (Bool × Unit) ⊕ ((Unit) × (Unit))) k (fun y1 =>
      bif (decide (y1.1.1 < ((ByteArray.size x0 : Nat) : Int))) then
        bif (inR y1.1.1 ((ByteArray.size x0 : Nat) : Int)) then
          bif (decide ((g51 x1 (bt x0 y1.1.1)) < (0 : Int))) then
            some (.inr (.inl (false, ())))
          else
            some (.inl (((IntKind.i64.wrap (y1.1.1 + (1 : Int))), ()), ()))
        else
          none
      else
        some (.inr (.inr ((), ())))) (((0 : Int), ()), ())) fun r => match r with
  | .inl z => some z
  | .inr z2 =>
    some (true, ())
def H34 : Hints where
  loop := fun n => match n with
    | 0 => some ({ slots := [(8, (.int .i64))], objs := [], gone := [] }, 0, { slots := [], objs := [], gone := [] })
    | _ => none
  region := fun n => match n with
    | _ => none
  cond := fun n => match n with
    | _ => none
  block := fun n => match n with
    | _ => none
abbrev A34 : Tys := (.cons .str (.cons .str .nil))
def ts34 : List (Nat × TD) := [(3, (.data (.int .i64))), (4, (.data .bool)), (9, (.data .str))]
noncomputable def fs34 (g51 : ByteArray → Int → (Int)) : List (Nat × FSem) := [(51, .fn (.cons .str (.cons (.int .u8) .nil)) (.cons (.int .i64) .nil) fun x => ((g51 x.1 x.2.1), ()))]
noncomputable def body34 : Code := match Tryd.f34.body with | some c => c | none => .skip
theorem ty34 : chkTypes Tryd.prog ts34 = true := by kernel_rfl
theorem ev34 (g51 : ByteArray → Int → (Int)) (k : Nat) (x : ((.cons .str (.cons .str .nil)) : Tys).den) : evFun (mkEnv ts34 (fs34 g51)) H34 k body34 18 [.tmp 4] (explodes (.cons .str (.cons .str .nil)) x) [] (dec (.cons .bool .nil)) = f34 g51 k x.1 x.2.1 := by kernel_rfl
/-! ### jitney/jitref2.Key -/
def f12 (g31 : Int → Int → Int → (Bool)) (g34 : ByteArray → ByteArray → (Bool)) (k : Nat) (x0 : ByteArray) : Option (Bool × Unit) :=
  bif (g31 ((ByteArray.size x0 : Nat) : Int) (1 : Int) (40 : Int)) then
    bif (decide (0 ≤ (0 : Int)) && (decide ((0 : Int) ≤ (1 : Int)) && decide ((1 : Int) ≤ ((ByteArray.size x0 : Nat) : Int)))) then
      bif (g34 (ByteArray.extract x0 (Int.toNat (0 : Int)) (Int.toNat (1 : Int))) (ByteArray.mk #[97, 98, 99, 100, 101, 102, 103, 104, 105, 106, 107, 108, 109, 110, 111, 112, 113, 114, 115, 116, 117, 118, 119, 120, 121, 122])) then
        some ((g34 x0 (ByteArray.mk #[97, 98, 99, 100, 101, 102, 103, 104, 105, 106, 107, 108, 109, 110, 111, 112, 113, 114, 115, 116, 117, 118, 119, 120, 121, 122, 48, 49, 50, 51, 52, 53, 54, 55, 56, 57, 45, 95])), ())
      else
        some (false, ())
    else
      none
  else
    some (false, ())
def H12 : Hints where
  loop := fun n => match n with
    | _ => none
  region := fun n => match n with
    | _ => none
  cond := fun n => match n with
    | _ => none
  block := fun n => match n with
    | _ => none
abbrev A12 : Tys := (.cons .str .nil)
def ts12 : List (Nat × TD) := [(4, (.data .bool)), (9, (.data .str))]
noncomputable def fs12 (g31 : Int → Int → Int → (Bool)) (g34 : ByteArray → ByteArray → (Bool)) : List (Nat × FSem) := [(31, .fn (.cons (.int .i64) (.cons (.int .i64) (.cons (.int .i64) .nil))) (.cons .bool .nil) fun x => ((g31 x.1 x.2.1 x.2.2.1), ())), (34, .fn (.cons .str (.cons .str .nil)) (.cons .bool .nil) fun x => ((g34 x.1 x.2.1), ()))]
noncomputable def body12 : Code := match Tryd.f12.body with | some c => c | none => .skip
theorem ty12 : chkTypes Tryd.prog ts12 = true := by kernel_rfl
theorem ev12 (g31 : Int → Int → Int → (Bool)) (g34 : ByteArray → ByteArray → (Bool)) (k : Nat) (x : ((.cons .str .nil) : Tys).den) : evFun (mkEnv ts12 (fs12 g31 g34)) H12 k body12 15 [.tmp 2] (explodes (.cons .str .nil) x) [] (dec (.cons .bool .nil)) = f12 g31 g34 k x.1 := by kernel_rfl
/-! ### jitney/jitref2.QuestsFault -/
/-! ### jitney/jitref2.Moment -/
def f32 (g31 : Int → Int → Int → (Bool)) (k : Nat) (x0 : Int) : Option (Bool × Unit) :=
  some ((g31 x0 (0 : Int) (345686399999 : Int)), ())
def H32 : Hints where
  loop := fun n => match n with
    | _ => none
  region := fun n => match n with
    | _ => none
  cond := fun n => match n with
    | _ => none
  block := fun n => match n with
    | _ => none
abbrev A32 : Tys := (.cons (.int .i64) .nil)
def ts32 : List (Nat × TD) := [(3, (.data (.int .i64))), (4, (.data .bool))]
noncomputable def fs32 (g31 : Int → Int → Int → (Bool)) : List (Nat × FSem) := [(31, .fn (.cons (.int .i64) (.cons (.int .i64) (.cons (.int .i64) .nil))) (.cons .bool .nil) fun x => ((g31 x.1 x.2.1 x.2.2.1), ()))]
noncomputable def body32 : Code := match Tryd.f32.body with | some c => c | none => .skip
theorem ty32 : chkTypes Tryd.prog ts32 = true := by kernel_rfl
theorem ev32 (g31 : Int → Int → Int → (Bool)) (k : Nat) (x : ((.cons (.int .i64) .nil) : Tys).den) : evFun (mkEnv ts32 (fs32 g31)) H32 k body32 5 [.tmp 2] (explodes (.cons (.int .i64) .nil) x) [] (dec (.cons .bool .nil)) = f32 g31 k x.1 := by kernel_rfl
/-! ### cmp.isNaN[string] -/
/-! ### cmp.Compare[string] -/
/-! ### slices.Compare[[]string,string] -/
/-! ### jitney/jitref2.DoneFault -/
/-! ### jitney/jitlaw2.when -/
/-! ### jitney/jitlaw2.momentFault -/
/-! ### jitney/jitref2.inside -/
/-! ### jitney/jitref2.BonusOf -/
/-! ### slices.Equal[[]jitney/api.Pair,jitney/api.Pair] -/
def f17  (k : Nat) (x0 : List UT4) (x1 : List UT4) : Option (Bool × Unit) :=
  bif (((List.length x0 : Nat) : Int) != ((List.length x1 : Nat) : Int)) then
    some (false, ())
  else
    Option.bind (α := (Bool × Unit) ⊕ ((Unit) × (Unit))) (iter (σ := (Int × Unit) × (Unit)) (τ := (Bool × Unit) ⊕ ((Unit) × (Unit))) k (fun y1 =>
        bif (decide (y1.1.1 < ((List.length x0 : Nat) : Int))) then
          bif (inR y1.1.1 ((List.length x0 : Nat) : Int)) then
            bif (inR y1.1.1 ((List.length x1 : Nat) : Int)) then
              bif (!((sEq ((rd (α := UT4) zUT4 x0 y1.1.1).1) ((rd (α := UT4) zUT4 x1 y1.1.1).1)) && ((sEq ((rd (α := UT4) zUT4 x0 y1.1.1).2.1) ((rd (α := UT4) zUT4 x1 y1.1.1).2.1)) && true))) then
                some (.inr (.inl (false, ())))
              else
                some (.inl (((IntKind.i64.wrap (y1.1.1 + (1 : Int))), ()), ()))
            else
              none
          else
            none
        else
          some (.inr (.inr ((), ())))) (((0 : Int), ()), ())) fun r => match r with
    | .inl z => some z
    | .inr z2 =>
      some (true, ())
def H17 : Hints where
  loop := fun n => match n with
    | 0 => some ({ slots := [(13, (.int .i64))], objs := [], gone := [] }, 0, { slots := [], objs := [], gone := [] })
    | _ => none
  region := fun n => match n with
    | _ => none
  cond := fun n => match n with
    | _ => none
  block := fun n => match n with
    | _ => none
abbrev A17 : Tys := (.cons (.slice UY0) (.cons (.slice UY0) .nil))
def ts17 : List (Nat × TD) := [(3, (.data (.int .i64))), (4, (.data .bool)), (24, (.data (.slice UY0))), (45, (.data UY0))]
noncomputable def fs17  : List (Nat × FSem) := []
noncomputable def body17 : Code := match Tryd.f17.body with | some c => c | none => .skip
theorem ty17 : chkTypes Tryd.prog ts17 = true := by kernel_rfl
theorem ev17  (k : Nat) (x : ((.cons (.slice UY0) (.cons (.slice UY0) .nil)) : Tys).den) : evFun (mkEnv ts17 (fs17 )) H17 k body17 26 [.tmp 4] (explodes (.cons (.slice UY0) (.cons (.slice UY0) .nil)) x) [] (dec (.cons .bool .nil)) = f17  k x.1 x.2.1 := by kernel_rfl
/-! ### jitney/trust.sameWords -/
/-! ### jitney/trust.byRating -/
/-! ### jitney/trust.CheckRatings -/
/-! ### jitney/trust.faithFault -/
/-! ### jitney/trust.counting -/
/-! ### jitney/base.Gcd -/
/-! ### jitney/base.Fraction -/
/-! ### jitney/trust.Score -/
/-! ### jitney/jitlaw2.trusted -/
/-! ### jitney/jitlaw2.BonusesPaid -/
end Go.Vm
