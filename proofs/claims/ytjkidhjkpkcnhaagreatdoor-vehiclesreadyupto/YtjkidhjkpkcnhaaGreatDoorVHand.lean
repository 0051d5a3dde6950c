/- VehiclesReady: what the kit says of the library's functions. Own work. -/
import Derived.Test.YtjkidhjkpkcnhaaGreatDoorVShelf
import Derived.Test.YtjkidhjkpkcnhaaGreatDoorVmD
import Derived.Lib.ItoaLen
import Derived.Lib.LaidTab
import Derived.Lib.Bytealg
import Derived.Lib.AtoiTie
set_option linter.unusedVariables false
set_option linter.unusedSimpArgs false
namespace Go.Vm
open Go.RowKit Go.Proofs Go.Lib Go.Sort
theorem gTab : Tryz.prog.globalNamed "internal/strconv.uint64pow10" = some 3 := by kernel_rfl
theorem laid_tab {w : World} (h : ∀ p ∈ theLay, LaidAt w p) : Lib.TabIs Tryz.prog w "internal/strconv.uint64pow10" .u64 Lib.pow10Tab := by
  obtain ⟨cs, t, z, e, hc⟩ := h (3, _) (List.mem_cons_self ..)
  simp only at hc e
  subst hc
  unfold Lib.TabIs World.var?
  rw [gTab]
  simp only [Option.bind_some, e]
theorem laid_err {w : World} (h : ∀ p ∈ theLay, LaidAt w p) {b : Nat} (hb : b = 1 ∨ b = 2) : ∃ ev, w.cell? ⟨b, 0, none⟩ = some ev ∧ (ev = .nilIface ∨ ∃ te pe, ev = .iface te pe) := by
  have : LaidAt w (b, isErr) := by
    rcases hb with rfl | rfl
    · exact h _ (List.mem_cons_of_mem _ (List.mem_cons_self ..))
    · exact h _ (List.mem_cons_of_mem _ (List.mem_cons_of_mem _ (List.mem_cons_self ..)))
  obtain ⟨cs, t, z, e, ev, h0, hev⟩ := this
  refine ⟨ev, ?_, hev⟩
  simp only at e
  simp only [World.cell?, e]
  exact h0
theorem keep_of_grow (w : World) (k : Nat) (os : Array Obj) : Keep None w (grow (w.drewN k) os) := by
  refine ⟨rfl, rfl, rfl, ?_, fun _ => ?_, fun a ha => ?_, fun b hb _ => ?_, fun b cs t z h => ⟨cs, ?_⟩⟩
  · simp [grow, World.drewN]
  · simp [grow, World.drewN]
  · simp only [World.frozen?, grow, World.drewN]
    rw [Array.getElem?_append_left ha]
  · simp only [grow, World.drewN]
    rw [Array.getElem?_append_left hb]
  · have hb := (Array.getElem?_eq_some_iff.1 h).1
    simp only [grow, World.drewN]
    rw [Array.getElem?_append_left hb]
    exact h
theorem keep_of_below {w w' : World} (h : Below w.heap.size w w') : Keep None w w' :=
  ⟨h.os, h.tape, h.output, h.size, fun m => False.elim m, fun a ha => by simp only [World.frozen?]; rw [h.block a.block ha], fun b hb _ => h.block b hb, fun b cs t z hb => ⟨cs, by rw [h.block b (heap_lt hb)]; exact hb⟩⟩
def numeral (n : Int) : ByteArray := ⟨(Lib.itoa n).toArray⟩
def s155 (n : Int) : Option (ByteArray × Unit) := if -9223372036854775808 ≤ n ∧ n ≤ 9223372036854775807 then some (numeral n, ()) else none
noncomputable def body155 : Code := match Tryz.f155.body with | some c => c | none => .skip
theorem S155 : SoundF Tryz.prog 155 (.pfn (.cons (.int .i64) .nil) (.cons .str .nil) fun x => s155 x.1) :=
  leaf_soundL (enters_of (by kernel_rfl : Tryz.prog.funcs[155]? = some Tryz.f155) (by kernel_rfl) (by kernel_rfl : Tryz.f155.body = some body155)) (fun x y hwf hy w A μ vals hv hlay => by
    unfold s155 at hy
    split at hy
    rotate_left
    · cases hy
    rename_i hr
    cases hy
    simp only [explodes, explode, TRs] at hv
    obtain ⟨v, rest, rfl, hv, rfl⟩ := hv
    have e1 := VR.int (ob := obs []) (μ := μ) hv
    subst e1
    refine (Tryz.internal_strconv_Itoa x.1 hr.1 hr.2 w (laid_tab hlay)).mono ?_
    rintro e w' ⟨rfl, k, os, rfl⟩
    have hl := Lib.itoa_length_le x.1 hr.1 hr.2
    refine ⟨_, rfl, keep_of_grow w k os, VR.mk_str _ ?_⟩
    show (Lib.itoa x.1).toArray.size ≤ _
    rw [List.size_toArray]
    omega)
def s182 (s : ByteArray) (c : Int) : Int := Lib.indexByte s.data.toList c.toNat.toUInt8
noncomputable def body182 : Code := match Tryz.f182.body with | some c => c | none => .skip
theorem S182 : SoundF Tryz.prog 182 (.fn (.cons .str (.cons (.int .u8) .nil)) (.cons (.int .i64) .nil) fun x => (s182 x.1 x.2.1, ())) :=
  pfn_fn (leaf_sound (enters_of (by kernel_rfl : Tryz.prog.funcs[182]? = some Tryz.f182) (by kernel_rfl) (by kernel_rfl : Tryz.f182.body = some body182)) (fun x y hwf hy w A μ vals hv => by
    cases hy
    simp only [explodes, explode, TRs] at hv
    obtain ⟨v, rest, rfl, hv, v2, rest2, rfl, hv2, rfl⟩ := hv
    have e1 := VR.str (ob := obs []) (μ := μ) hv
    have e2 := VR.int (ob := obs []) (μ := μ) hv2
    subst e1 e2
    refine (Tryz.stringslite_IndexByte x.1 x.2.1 w).mono ?_
    rintro e w' ⟨rfl, rfl⟩
    exact ⟨_, rfl, Keep.refl _ _, VR.mk_int _ _⟩))
noncomputable def body147 : Code := match Tryz.f147.body with | some c => c | none => .skip
theorem S147 : SoundF Tryz.prog 147 FSem.atoi :=
  atoi_sound (enters_of (by kernel_rfl : Tryz.prog.funcs[147]? = some Tryz.f147) (by kernel_rfl) (by kernel_rfl : Tryz.f147.body = some body147)) (fun s hs w hl => by
    have e0 : Lib.atoiAll s.data.toList = Lib.NumEnd.ofOption (none : Option Int) ∨ (∃ v, Lib.atoiAll s.data.toList = .ok v) ∨ Lib.atoiAll s.data.toList = .range := by
      cases Lib.atoiAll s.data.toList
      · exact .inr (.inl ⟨_, rfl⟩)
      · exact .inl rfl
      · exact .inr (.inr rfl)
    unfold aVal aOk
    rcases e0 with ha | ⟨v, ha⟩ | ha
    · obtain ⟨ev, hv, hev⟩ := laid_err hl (.inl rfl)
      rw [ha]
      refine (Tryz.strconv_Atoi_syntax s hs ha ev w hv hev).mono ?_
      rintro e w' ⟨N, rfl, _, _, hb⟩
      exact ⟨_, rfl, fun h => (by cases h), keep_of_below hb⟩
    · rw [ha]
      refine (Tryz.strconv_Atoi_ok s (by omega) v ha w).mono ?_
      rintro e w' ⟨rfl, hw⟩
      refine ⟨_, rfl, fun _ => rfl, ?_⟩
      rcases hw with rfl | ⟨t, rfl⟩
      · exact Keep.refl _ _
      · exact keep_of_below (Lib.bytesWorld_below w 5 t)
    · obtain ⟨ev, hv, hev⟩ := laid_err hl (.inr rfl)
      rw [ha]
      refine (Tryz.strconv_Atoi_range s hs ha ev w hv hev).mono ?_
      rintro e w' ⟨N, rfl, _, _, hb⟩
      exact ⟨_, rfl, fun h => (by cases h), keep_of_below hb⟩)
end Go.Vm
