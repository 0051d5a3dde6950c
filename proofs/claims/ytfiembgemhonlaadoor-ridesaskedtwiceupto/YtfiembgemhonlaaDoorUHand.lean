/- BonusesPaid: what the kit says of the library's functions. Own work. -/
import Derived.Test.YtfiembgemhonlaaDoorUShelf
import Derived.Test.YtfiembgemhonlaaDoorVmD
import Derived.Lib.ItoaLen
import Derived.Lib.LaidTab
set_option linter.unusedVariables false
set_option linter.unusedSimpArgs false
namespace Go.Vm
open Go.RowKit Go.Proofs Go.Lib Go.Sort
theorem gTab : Tryd.prog.globalNamed "internal/strconv.uint64pow10" = some 1 := by kernel_rfl
theorem laid_tab {w : World} (h : ∀ p ∈ theLay, LaidAt w p) : Lib.TabIs Tryd.prog w "internal/strconv.uint64pow10" .u64 Lib.pow10Tab := by
  obtain ⟨t, z, e⟩ := h _ (List.mem_singleton.2 rfl)
  unfold Lib.TabIs World.var?
  rw [gTab]
  simp only [Option.bind_some, e]
theorem tab_laid {w : World} (h : Lib.TabIs Tryd.prog w "internal/strconv.uint64pow10" .u64 Lib.pow10Tab) : ∀ p ∈ theLay, LaidAt w p := by
  intro p hp
  have hp := List.mem_singleton.1 hp
  subst hp
  unfold Lib.TabIs World.var? at h
  rw [gTab] at h
  simp only [Option.bind_some] at h
  split at h
  · rename_i cs t z e
    cases h
    exact ⟨t, z, e⟩
  · cases h
theorem keep_of_grow (w : World) (k : Nat) (os : Array Obj) : Keep None w (grow (w.drewN k) os) := by
  refine ⟨rfl, rfl, rfl, ?_, fun _ => ?_, fun a ha => ?_, fun b hb _ => ?_, fun b cs t z h => ⟨cs, ?_⟩⟩
  · simp [grow, World.drewN]
  · simp [grow, World.drewN]
  · simp only [World.frozen?, grow, World.drewN]
    rw [Array.getElem?_append_left ha]
  · simp only [grow, World.drewN]
    rw [Array.getElem?_append_left hb]
  · have hb := (Array.getElem?_eq_some_iff.1 h).1
    simp only [grow, World.drewN]
    rw [Array.getElem?_append_left hb]
    exact h
def numeral (n : Int) : ByteArray := ⟨(Lib.itoa n).toArray⟩
def s49 (n : Int) : Option (ByteArray × Unit) := if -9223372036854775808 ≤ n ∧ n ≤ 9223372036854775807 then some (numeral n, ()) else none
noncomputable def body49 : Code := match Tryd.f49.body with | some c => c | none => .skip
theorem S49 : SoundF Tryd.prog 49 (.pfn (.cons (.int .i64) .nil) (.cons .str .nil) fun x => s49 x.1) :=
  leaf_soundL (enters_of (by kernel_rfl : Tryd.prog.funcs[49]? = some Tryd.f49) (by kernel_rfl) (by kernel_rfl : Tryd.f49.body = some body49)) (fun x y hwf hy w A μ vals hv hlay => by
    unfold s49 at hy
    split at hy
    rotate_left
    · cases hy
    rename_i hr
    cases hy
    simp only [explodes, explode, TRs] at hv
    obtain ⟨v, rest, rfl, hv, rfl⟩ := hv
    have e1 := VR.int (ob := obs []) (μ := μ) hv
    subst e1
    refine (Tryd.internal_strconv_Itoa x.1 hr.1 hr.2 w (laid_tab hlay)).mono ?_
    rintro e w' ⟨rfl, k, os, rfl⟩
    have hl := Lib.itoa_length_le x.1 hr.1 hr.2
    refine ⟨_, rfl, keep_of_grow w k os, VR.mk_str _ ?_⟩
    show (Lib.itoa x.1).toArray.size ≤ _
    rw [List.size_toArray]
    omega)
def s63 (s : ByteArray) (c : Int) : Int := Lib.indexByte s.data.toList c.toNat.toUInt8
noncomputable def body63 : Code := match Tryd.f63.body with | some c => c | none => .skip
theorem S63 : SoundF Tryd.prog 63 (.fn (.cons .str (.cons (.int .u8) .nil)) (.cons (.int .i64) .nil) fun x => (s63 x.1 x.2.1, ())) :=
  pfn_fn (leaf_sound (enters_of (by kernel_rfl : Tryd.prog.funcs[63]? = some Tryd.f63) (by kernel_rfl) (by kernel_rfl : Tryd.f63.body = some body63)) (fun x y hwf hy w A μ vals hv => by
    cases hy
    simp only [explodes, explode, TRs] at hv
    obtain ⟨v, rest, rfl, hv, v2, rest2, rfl, hv2, rfl⟩ := hv
    have e1 := VR.str (ob := obs []) (μ := μ) hv
    have e2 := VR.int (ob := obs []) (μ := μ) hv2
    subst e1 e2
    refine (Tryd.stringslite_IndexByte x.1 x.2.1 w).mono ?_
    rintro e w' ⟨rfl, rfl⟩
    exact ⟨_, rfl, Keep.refl _ _, VR.mk_int _ _⟩))
end Go.Vm
