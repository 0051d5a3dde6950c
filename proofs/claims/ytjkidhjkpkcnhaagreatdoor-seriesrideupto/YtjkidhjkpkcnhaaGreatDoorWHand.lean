/- SeriesRide: what the kit says of the library's functions. Own work. -/
import Derived.Test.YtjkidhjkpkcnhaaGreatDoorWShelf
import Derived.Test.YtjkidhjkpkcnhaaGreatDoorVmD
import Derived.Lib.ItoaLen
import Derived.Lib.LaidTab
import Derived.Lib.Bytealg
import Derived.Lib.Repeat
set_option linter.unusedVariables false
set_option linter.unusedSimpArgs false
namespace Go.Vm
open Go.RowKit Go.Proofs Go.Lib Go.Sort
theorem gTab : Tryz.prog.globalNamed "internal/strconv.uint64pow10" = some 3 := by kernel_rfl
theorem laid_tab {w : World} (h : ∀ p ∈ theLay, LaidAt w p) : Lib.TabIs Tryz.prog w "internal/strconv.uint64pow10" .u64 Lib.pow10Tab := by
  obtain ⟨cs, t, z, e, hc⟩ := h (3, _) (List.mem_cons_self ..)
  simp only at hc e
  subst hc
  unfold Lib.TabIs World.var?
  rw [gTab]
  simp only [Option.bind_some, e]
theorem keep_of_grow [MonotC] (w : World) (k : Nat) (os : Array Obj) : Keep None w (grow (w.drewN k) os) := by
  refine ⟨rfl, rfl, rfl, ?_, fun _ => ?_, fun a ha => ?_, fun b hb _ => ?_, fun b cs t z h => ⟨cs, ?_⟩⟩
  · simp [grow, World.drewN]
  · simp [grow, World.drewN]
  · simp only [World.frozen?, grow, World.drewN]
    rw [Array.getElem?_append_left ha]
  · simp only [grow, World.drewN]
    rw [Array.getElem?_append_left hb]
  · have hb := (Array.getElem?_eq_some_iff.1 h).1
    simp only [grow, World.drewN]
    rw [Array.getElem?_append_left hb]
    exact h
theorem keep_of_below {w w' : World} (h : Below w.heap.size w w') : Keep None w w' :=
  ⟨h.os, h.tape, h.output, h.size, fun m => False.elim m, fun a ha => by simp only [World.frozen?]; rw [h.block a.block ha], fun b hb _ => h.block b hb, fun b cs t z hb => ⟨cs, by rw [h.block b (heap_lt hb)]; exact hb⟩⟩
def numeral (n : Int) : ByteArray := ⟨(Lib.itoa n).toArray⟩
def s155 (n : Int) : Option (ByteArray × Unit) := if -9223372036854775808 ≤ n ∧ n ≤ 9223372036854775807 then some (numeral n, ()) else none
noncomputable def body155 : Code := match Tryz.f155.body with | some c => c | none => .skip
theorem S155 : SoundF Tryz.prog 155 (.pfn (.cons (.int .i64) .nil) (.cons .str .nil) fun x => s155 x.1) :=
  leaf_soundL (enters_of (by kernel_rfl : Tryz.prog.funcs[155]? = some Tryz.f155) (by kernel_rfl) (by kernel_rfl : Tryz.f155.body = some body155)) (fun x y hwf hy w A μ vals hv hlay => by
    unfold s155 at hy
    split at hy
    rotate_left
    · cases hy
    rename_i hr
    cases hy
    simp only [explodes, explode, TRs] at hv
    obtain ⟨v, rest, rfl, hv, rfl⟩ := hv
    have e1 := VR.int (ob := obs []) (μ := μ) hv
    subst e1
    refine (Tryz.internal_strconv_Itoa x.1 hr.1 hr.2 w (laid_tab hlay)).mono ?_
    rintro e w' ⟨rfl, k, os, rfl⟩
    have hl := Lib.itoa_length_le x.1 hr.1 hr.2
    refine ⟨_, rfl, keep_of_grow w k os, VR.mk_str _ ?_⟩
    show (Lib.itoa x.1).toArray.size ≤ _
    rw [List.size_toArray]
    omega)
def s182 (s : ByteArray) (c : Int) : Int := Lib.indexByte s.data.toList c.toNat.toUInt8
noncomputable def body182 : Code := match Tryz.f182.body with | some c => c | none => .skip
theorem S182 : SoundF Tryz.prog 182 (.fn (.cons .str (.cons (.int .u8) .nil)) (.cons (.int .i64) .nil) fun x => (s182 x.1 x.2.1, ())) :=
  pfn_fn (leaf_sound (enters_of (by kernel_rfl : Tryz.prog.funcs[182]? = some Tryz.f182) (by kernel_rfl) (by kernel_rfl : Tryz.f182.body = some body182)) (fun x y hwf hy w A μ vals hv => by
    cases hy
    simp only [explodes, explode, TRs] at hv
    obtain ⟨v, rest, rfl, hv, v2, rest2, rfl, hv2, rfl⟩ := hv
    have e1 := VR.str (ob := obs []) (μ := μ) hv
    have e2 := VR.int (ob := obs []) (μ := μ) hv2
    subst e1 e2
    refine (Tryz.stringslite_IndexByte x.1 x.2.1 w).mono ?_
    rintro e w' ⟨rfl, rfl⟩
    exact ⟨_, rfl, Keep.refl _ _, VR.mk_int _ _⟩))
def s133 (a b : ByteArray) : Int := Lib.compareBytes a.data.toList b.data.toList
noncomputable def body133 : Code := match Tryz.f133.body with | some c => c | none => .skip
theorem S133 [MonotC] : SoundF Tryz.prog 133 (.fn (.cons .str (.cons .str .nil)) (.cons (.int .i64) .nil) fun x => (s133 x.1 x.2.1, ())) :=
  pfn_fn (leaf_sound (enters_of (by kernel_rfl : Tryz.prog.funcs[133]? = some Tryz.f133) (by kernel_rfl) (by kernel_rfl : Tryz.f133.body = some body133)) (fun x y hwf hy w A μ vals hv => by
    cases hy
    simp only [explodes, explode, TRs] at hv
    obtain ⟨v, rest, rfl, hv, v2, rest2, rfl, hv2, rfl⟩ := hv
    have e1 := VR.str (ob := obs []) (μ := μ) hv
    have e2 := VR.str (ob := obs []) (μ := μ) hv2
    subst e1 e2
    refine (Tryz.bytealg_CompareString x.1 x.2.1 w).mono ?_
    rintro e w' ⟨rfl, rfl⟩
    exact ⟨_, rfl, Keep.refl _ _, VR.mk_int _ _⟩))
def copies (s : ByteArray) (n : Nat) : ByteArray := ⟨(Lib.repeatL s.data.toList n).toArray⟩
theorem copies_size (s : ByteArray) (n : Nat) : (copies s n).size = s.size * n := by
  show (Lib.repeatL s.data.toList n).toArray.size = _
  rw [List.size_toArray, Lib.repeatL_length, Array.length_toList, Nat.mul_comm]
  rfl
def s129 (s : ByteArray) (n : Int) : Option (ByteArray × Unit) := if 0 ≤ n ∧ n ≤ 9223372036854775807 ∧ s.size * n.toNat ≤ 140737488355328 then some (copies s n.toNat, ()) else none
noncomputable def body129 : Code := match Tryz.f129.body with | some c => c | none => .skip
theorem S129 : SoundF Tryz.prog 129 (.pfn (.cons .str (.cons (.int .i64) .nil)) (.cons .str .nil) fun x => s129 x.1 x.2.1) :=
  leaf_sound (enters_of (by kernel_rfl : Tryz.prog.funcs[129]? = some Tryz.f129) (by kernel_rfl) (by kernel_rfl : Tryz.f129.body = some body129)) (fun x y hwf hy w A μ vals hv => by
    unfold s129 at hy
    split at hy
    rotate_left
    · cases hy
    rename_i hr
    cases hy
    simp only [explodes, explode, TRs] at hv
    obtain ⟨v, rest, rfl, hv, v2, rest2, rfl, hv2, rfl⟩ := hv
    have e1 := VR.str (ob := obs []) (μ := μ) hv
    have e2 := VR.int (ob := obs []) (μ := μ) hv2
    subst e1 e2
    have hn : ((x.2.1.toNat : Nat) : Int) = x.2.1 := Int.toNat_of_nonneg hr.1
    have := Tryz.strings_Repeat x.1 x.2.1.toNat w (by have := hr.2.1; omega) hr.2.2
    rw [hn] at this
    refine this.mono ?_
    rintro e w' ⟨rfl, hb⟩
    refine ⟨_, rfl, keep_of_below hb, VR.mk_str _ ?_⟩
    have := copies_size x.1 x.2.1.toNat
    show (copies x.1 x.2.1.toNat).size ≤ 9223372036854775807
    omega)
end Go.Vm
