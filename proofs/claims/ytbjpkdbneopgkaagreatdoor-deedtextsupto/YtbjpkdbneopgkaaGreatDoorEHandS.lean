/- DeedTexts: the sort of rides. Own work. -/
import Derived.Test.YtbjpkdbneopgkaaGreatDoorESort
import Derived.Test.YtbjpkdbneopgkaaGreatDoorEFn
import Derived.Test.YtbjpkdbneopgkaaGreatDoorVmQ
set_option linter.unusedVariables false
set_option linter.unusedSimpArgs false
namespace Go.Vm
open Go.RowKit Go.Proofs Go.Lib Go.Sort
theorem enters_fn {P : Program} {f : FuncId} {T Rs : Tys} {g : T.den → Rs.den} (h : @SoundF monotYes P f (FSem.fn T Rs g)) : Enters P f :=
  (h (explodes T T.dflt) [] (fun _ _ => some ()) () (by simp only [FSem.fn]; rw [implodes_explodes])).1
noncomputable def body127 : Code := match Tryz.f127.body with | some c => c | none => .skip
theorem SF127 {g : FuncId} {cmp : EY2.den → EY2.den → Int} (hc : @SoundF monotYes Tryz.prog g (FSem.fn (.cons EY2 (.cons EY2 .nil)) (.cons (.int .i64) .nil) fun x => (cmp x.1 x.2.1, ()))) :
    SoundF Tryz.prog 127 (FSem.rfn EY2 .nil g fun xs _ => sortF EY2 cmp xs) :=
  sortK (enters_of (by kernel_rfl : Tryz.prog.funcs[127]? = some Tryz.f127) (by kernel_rfl) (by kernel_rfl : Tryz.f127.body = some body127)) rfl rfl (by decide) hc
    (fun p cap fv w => AnyF.slices_SortFunc_none Tryz.laysF127 p cap fv w)
    (fun Q _ cf hS blk off cap d w hcmp hH hblk hsz => AnyQ.slices_SortFunc_eq Tryz.laysF127 _ Tryz.isAgg31 Tryz.sizeOf31 _ (fun x => encE_len rfl x) (fun x => encE_one rfl x) cf hS g #[] blk off cap d w (enters_fn hc) hcmp hH hblk hsz)
end Go.Vm
