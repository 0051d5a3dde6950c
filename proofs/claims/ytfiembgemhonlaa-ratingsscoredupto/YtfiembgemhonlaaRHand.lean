/- slices.SortFunc of names by a comparison that has captured variables: the kit's contract. Own work. -/
import Derived.Test.YtfiembgemhonlaaVmQ
import Derived.Test.YtfiembgemhonlaaRSort
import Derived.Test.YtfiembgemhonlaaRStab
set_option linter.unusedVariables false
namespace Go.Vm
open Go.RowKit Go.Proofs Go.Lib
noncomputable def body198 : Code := match Try.f198.body with | some c => c | none => .skip
theorem SCF198 {E : Env} (hE : EnvOK Try.prog E) {H : Hints} {k : Nat} {g : FuncId} {fn : Func} {code : Code} {nt : Nat} {rs : List ResultVar} (hf : Try.prog.funcs[g]? = some fn) (hb : fn.body = some code) (hnt : fn.ntmps = nt) (hrs : fn.results.toList = rs) (heng : Enters Try.prog g) :
    SoundF Try.prog 198 (FSem.sortc .str g E H k code nt rs) :=
  sortC1 (enters_of (by kernel_rfl : Try.prog.funcs[198]? = some Try.f198) (by kernel_rfl) (by kernel_rfl : Try.f198.body = some body198)) rfl rfl rfl hE mixedOK hf hb hnt hrs
    (fun p cap fv w => AnyF.slices_SortFunc_none { Try.laysF198 with } p cap fv w)
    (fun Q _ cf hS cb blk off cap d w hcmp hH hblk hsz => Any.slices_SortFunc_eq Try.laysF198 (enc1 .str Q) (fun x => enc1_one rfl rfl x) cf hS g cb blk off cap d w heng hcmp hH hblk hsz)
end Go.Vm
