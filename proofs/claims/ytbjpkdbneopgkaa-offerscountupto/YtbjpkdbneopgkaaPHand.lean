/- OffersCount, RidesPaired: the library's functions, by the kit's contracts. Own work. -/
import Derived.Test.YtbjpkdbneopgkaaPShelf
import Derived.Test.YtbjpkdbneopgkaaVmK
import Derived.Test.YtbjpkdbneopgkaaVmD
set_option linter.unusedVariables false
namespace Go.Vm
open Go.Proofs Go.RowKit
def s83 (a b : ByteArray) : Int := Lib.compareBytes a.data.toList b.data.toList
noncomputable def body83 : Code := match Try.f83.body with | some c => c | none => .skip
theorem S83 [MonotC] : SoundF Try.prog 83 (.fn (.cons .str (.cons .str .nil)) (.cons (.int .i64) .nil) fun x => (s83 x.1 x.2.1, ())) :=
  pfn_fn (leaf_sound (enters_of (by kernel_rfl : Try.prog.funcs[83]? = some Try.f83) (by kernel_rfl) (by kernel_rfl : Try.f83.body = some body83)) (fun x y hwf hy w A μ vals hv => by
    cases hy
    simp only [explodes, explode, TRs] at hv
    obtain ⟨v, rest, rfl, hv, v2, rest2, rfl, hv2, rfl⟩ := hv
    have e1 := VR.str (ob := obs []) (μ := μ) hv
    have e2 := VR.str (ob := obs []) (μ := μ) hv2
    subst e1 e2
    refine (Try.bytealg_CompareString x.1 x.2.1 w).mono ?_
    rintro e w' ⟨rfl, rfl⟩
    exact ⟨_, rfl, Keep.refl _ _, VR.mk_int _ _⟩))
def s89 (s : ByteArray) (c : Int) : Int := Lib.indexByte s.data.toList c.toNat.toUInt8
noncomputable def body89 : Code := match Try.f89.body with | some c => c | none => .skip
theorem S89 : SoundF Try.prog 89 (.fn (.cons .str (.cons (.int .u8) .nil)) (.cons (.int .i64) .nil) fun x => (s89 x.1 x.2.1, ())) :=
  pfn_fn (leaf_sound (enters_of (by kernel_rfl : Try.prog.funcs[89]? = some Try.f89) (by kernel_rfl) (by kernel_rfl : Try.f89.body = some body89)) (fun x y hwf hy w A μ vals hv => by
    cases hy
    simp only [explodes, explode, TRs] at hv
    obtain ⟨v, rest, rfl, hv, v2, rest2, rfl, hv2, rfl⟩ := hv
    have e1 := VR.str (ob := obs []) (μ := μ) hv
    have e2 := VR.int (ob := obs []) (μ := μ) hv2
    subst e1 e2
    refine (Try.stringslite_IndexByte x.1 x.2.1 w).mono ?_
    rintro e w' ⟨rfl, rfl⟩
    exact ⟨_, rfl, Keep.refl _ _, VR.mk_int _ _⟩))
/-- slices.Sort of strings -/
def s27 (xs : List ByteArray) : Option (List ByteArray) := sortStrs? xs
theorem S27 : SoundF Try.prog 27 (.wfn .str .nil fun xs a => s27 xs) :=
  sort_str (by exact enters_of (by kernel_rfl : Try.prog.funcs[27]? = some Try.f27) (by kernel_rfl) (by kernel_rfl : Try.f27.body = some (match Try.f27.body with | some c => c | none => .skip))) (fun p cap w => Try.slices_Sort_string_none p cap w) (fun blk off cap zs w hH hb hl => Try.slices_Sort_string blk off cap zs w hH hb hl)
end Go.Vm
