/- strings.Compare and the sorts by a comparison: contracts. Own work. -/
import Derived.Test.YtfiembgemhonlaaVmQ
import Derived.Test.YtfiembgemhonlaaDSort
import Derived.Test.YtfiembgemhonlaaVmD
import Derived.WalkKit
import Derived.Lib.Walk
import Derived.Lib.Bytealg
import Derived.Lib.SliceRun
set_option linter.unusedVariables false
set_option linter.unusedSimpArgs false
namespace Go.Vm
open Go.RowKit Go.Proofs Go.Lib
set_option maxRecDepth 100000 in
set_option maxHeartbeats 1000000 in
theorem walk211 (a b : ByteArray) (w : World) :
    Calls Try.prog 211 #[.string a, .string b] w fun e w' => e = .returned (.int .i64 (Lib.compareBytes a.data.toList b.data.toList)) ∧ w' = w := by
  go_enter Try.func211, Try.ntmps211
  go_wp2
  rw [run_callFunc_extern Try.func264 (by kernel_rfl) (by kernel_rfl) (by kernel_rfl) (e := Extern.BytealgCompare.compare) (by kernel_rfl), Lib.run_compareString]
  simp only [Result.andThen]
  rw [Oper.upon_value]
  go_wp2
  go_ret
  exact ⟨rfl, rfl⟩
def s211 (a b : ByteArray) : Int := Lib.compareBytes a.data.toList b.data.toList
noncomputable def body211 : Code := match Try.f211.body with | some c => c | none => .skip
theorem S211 : SoundF Try.prog 211 (.fn (.cons .str (.cons .str .nil)) (.cons (.int .i64) .nil) fun x => (s211 x.1 x.2.1, ())) := by
  intro ρ args objs K r hr
  refine pfn_fn (leaf_sound (enters_of (by kernel_rfl : Try.prog.funcs[211]? = some Try.f211) (by kernel_rfl) (by kernel_rfl : Try.f211.body = some body211)) (fun x y hwf hy w A μ vals hv => ?_)) args objs K r hr
  cases hy
  simp only [explodes, explode, TRs] at hv
  obtain ⟨v, rest, rfl, hv, v2, rest2, rfl, hv2, rfl⟩ := hv
  have e1 := VR.str (ob := obs []) (μ := μ) hv
  have e2 := VR.str (ob := obs []) (μ := μ) hv2
  subst e1 e2
  refine (walk211 x.1 x.2.1 w).mono ?_
  rintro e w' ⟨rfl, rfl⟩
  exact ⟨_, rfl, Keep.refl _ _, VR.mk_int _ _⟩
theorem enters_fn {P : Program} {f : FuncId} {T Rs : Tys} {g : T.den → Rs.den} (h : SoundF P f (FSem.fn T Rs g)) : Enters P f :=
  (h (explodes T T.dflt) [] (fun _ _ => some ()) () (by simp only [FSem.fn]; rw [implodes_explodes])).1
/-- a deed -/
abbrev TD0 : Ty := .struct (.cons .str (.cons (.int .i64) (.cons (.int .i64) (.cons (.int .i64) (.cons .str (.cons .str (.cons (.struct (.cons .str (.cons (.int .i64) (.cons (.int .i64) .nil)))) (.cons (.struct (.cons .str (.cons .str (.cons .str (.cons .str (.cons (.int .i64) (.cons (.int .i64) (.cons (.int .i64) (.cons (.int .i64) .nil))))))))) .nil))))))))
/-- a ride -/
abbrev TR0 : Ty := .struct (.cons .str (.cons .str (.cons .str (.cons .str (.cons (.int .i64) (.cons (.int .i64) (.cons (.int .i64) (.cons (.int .i64) .nil))))))))
noncomputable def body159 : Code := match Try.f159.body with | some c => c | none => .skip
noncomputable def body231 : Code := match Try.f231.body with | some c => c | none => .skip
theorem SF159 {g : FuncId} {cmp : TD0.den → TD0.den → Int} (hc : SoundF Try.prog g (FSem.fn (.cons TD0 (.cons TD0 .nil)) (.cons (.int .i64) .nil) fun x => (cmp x.1 x.2.1, ()))) :
    SoundF Try.prog 159 (FSem.rfn TD0 .nil g fun xs _ => sortF TD0 cmp xs) :=
  sortK (enters_of (by kernel_rfl : Try.prog.funcs[159]? = some Try.f159) (by kernel_rfl) (by kernel_rfl : Try.f159.body = some body159)) rfl rfl (by decide) hc
    (fun p cap fv w => AnyF.slices_SortFunc_none Try.laysF159 p cap fv w)
    (fun Q _ cf hS blk off cap d w hcmp hH hblk hsz => AnyQ.slices_SortFunc_eq Try.laysF159 _ Try.isAgg100 Try.sizeOf100 _ (fun x => encE_len rfl x) (fun x => encE_one rfl x) cf hS g #[] blk off cap d w (enters_fn hc) hcmp hH hblk hsz)
theorem SFP159 {g : FuncId} {cmpP : TD0.den → TD0.den → Option (Int × Unit)} (hen : Enters Try.prog g) (hc : SoundF Try.prog g (FSem.pfn (.cons TD0 (.cons TD0 .nil)) (.cons (.int .i64) .nil) fun x => cmpP x.1 x.2.1)) :
    SoundF Try.prog 159 (FSem.rfn TD0 .nil g fun xs _ => sortP TD0 cmpP xs) :=
  sortKP (enters_of (by kernel_rfl : Try.prog.funcs[159]? = some Try.f159) (by kernel_rfl) (by kernel_rfl : Try.f159.body = some body159)) rfl rfl (by decide) hc
    (fun p cap fv w => AnyF.slices_SortFunc_none Try.laysF159 p cap fv w)
    (fun Q _ cf hS blk off cap d w hcmp hH hblk hsz => AnyQ.slices_SortFunc_eq Try.laysF159 _ Try.isAgg100 Try.sizeOf100 _ (fun x => encE_len rfl x) (fun x => encE_one rfl x) cf hS g #[] blk off cap d w hen hcmp hH hblk hsz)
theorem SF231 {g : FuncId} {cmp : TR0.den → TR0.den → Int} (hc : SoundF Try.prog g (FSem.fn (.cons TR0 (.cons TR0 .nil)) (.cons (.int .i64) .nil) fun x => (cmp x.1 x.2.1, ()))) :
    SoundF Try.prog 231 (FSem.rfn TR0 .nil g fun xs _ => sortF TR0 cmp xs) :=
  sortK (enters_of (by kernel_rfl : Try.prog.funcs[231]? = some Try.f231) (by kernel_rfl) (by kernel_rfl : Try.f231.body = some body231)) rfl rfl (by decide) hc
    (fun p cap fv w => AnyF.slices_SortFunc_none Try.laysF231 p cap fv w)
    (fun Q _ cf hS blk off cap d w hcmp hH hblk hsz => AnyQ.slices_SortFunc_eq Try.laysF231 _ Try.isAgg98 Try.sizeOf98 _ (fun x => encE_len rfl x) (fun x => encE_one rfl x) cf hS g #[] blk off cap d w (enters_fn hc) hcmp hH hblk hsz)
end Go.Vm
