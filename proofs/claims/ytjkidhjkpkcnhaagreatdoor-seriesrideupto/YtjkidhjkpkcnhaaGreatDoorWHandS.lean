/- SeriesRide: the sorts of rides. Own work. -/
import Derived.Test.YtjkidhjkpkcnhaaGreatDoorWSort
import Derived.Test.YtjkidhjkpkcnhaaGreatDoorWFn
import Derived.Test.YtjkidhjkpkcnhaaGreatDoorVmQ
set_option linter.unusedVariables false
set_option linter.unusedSimpArgs false
namespace Go.Vm
open Go.RowKit Go.Proofs Go.Lib Go.Sort
theorem enters_fn {P : Program} {f : FuncId} {T Rs : Tys} {g : T.den → Rs.den} (h : @SoundF monotYes P f (FSem.fn T Rs g)) : Enters P f :=
  (h (explodes T T.dflt) [] (fun _ _ => some ()) () (by simp only [FSem.fn]; rw [implodes_explodes])).1
noncomputable def body64 : Code := match Tryz.f64.body with | some c => c | none => .skip
theorem SF64 {g : FuncId} {cmp : WY3.den → WY3.den → Int} (hc : @SoundF monotYes Tryz.prog g (FSem.fn (.cons WY3 (.cons WY3 .nil)) (.cons (.int .i64) .nil) fun x => (cmp x.1 x.2.1, ()))) :
    SoundF Tryz.prog 64 (FSem.rfn WY3 .nil g fun xs _ => sortF WY3 cmp xs) :=
  sortK (enters_of (by kernel_rfl : Tryz.prog.funcs[64]? = some Tryz.f64) (by kernel_rfl) (by kernel_rfl : Tryz.f64.body = some body64)) rfl rfl (by decide) hc
    (fun p cap fv w => AnyF.slices_SortFunc_none Tryz.laysF64 p cap fv w)
    (fun Q _ cf hS blk off cap d w hcmp hH hblk hsz => AnyQ.slices_SortFunc_eq Tryz.laysF64 _ Tryz.isAgg23 Tryz.sizeOf23 _ (fun x => encE_len rfl x) (fun x => encE_one rfl x) cf hS g #[] blk off cap d w (enters_fn hc) hcmp hH hblk hsz)
end Go.Vm
