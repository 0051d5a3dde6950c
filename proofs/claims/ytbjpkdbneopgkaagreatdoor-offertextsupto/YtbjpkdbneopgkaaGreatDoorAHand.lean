/- The text laws (seat r4.ZD): what the kit says of the library's functions. Own work. -/
import Derived.Test.YtbjpkdbneopgkaaGreatDoorAShelf
import Derived.Test.YtbjpkdbneopgkaaGreatDoorABldC
import Derived.Test.YtbjpkdbneopgkaaGreatDoorVmD
import Derived.Lib.ItoaLen
import Derived.Lib.LaidTab
import Derived.Lib.Bytealg
import Derived.Lib.AtoiTie
set_option linter.unusedVariables false
set_option linter.unusedSimpArgs false
namespace Go.Vm
open Go.RowKit Go.Proofs Go.Lib Go.Sort
theorem gTab : Tryz.prog.globalNamed "internal/strconv.uint64pow10" = some 1 := by kernel_rfl
theorem laid_tab {w : World} (h : ∀ p ∈ theLay, LaidAt w p) : Lib.TabIs Tryz.prog w "internal/strconv.uint64pow10" .u64 Lib.pow10Tab := by
  obtain ⟨cs, t, z, e, hc⟩ := h (1, _) (List.mem_cons_self ..)
  simp only at hc e
  subst hc
  unfold Lib.TabIs World.var?
  rw [gTab]
  simp only [Option.bind_some, e]
theorem laid_err {w : World} (h : ∀ p ∈ theLay, LaidAt w p) {b : Nat} (hb : b = 2 ∨ b = 3) : ∃ ev, w.cell? ⟨b, 0, none⟩ = some ev ∧ (ev = .nilIface ∨ ∃ te pe, ev = .iface te pe) := by
  have : LaidAt w (b, isErr) := by
    rcases hb with rfl | rfl
    · exact h _ (List.mem_cons_of_mem _ (List.mem_cons_self ..))
    · exact h _ (List.mem_cons_of_mem _ (List.mem_cons_of_mem _ (List.mem_cons_self ..)))
  obtain ⟨cs, t, z, e, ev, h0, hev⟩ := this
  refine ⟨ev, ?_, hev⟩
  simp only at e
  simp only [World.cell?, e]
  exact h0
theorem keep_of_grow (w : World) (k : Nat) (os : Array Obj) : Keep None w (grow (w.drewN k) os) := by
  refine ⟨rfl, rfl, rfl, ?_, fun _ => ?_, fun a ha _ => ?_, fun b hb _ => ?_, fun b cs t z h => ⟨cs, z, ?_⟩⟩
  · simp [grow, World.drewN]
  · simp [grow, World.drewN]
  · simp only [World.frozen?, grow, World.drewN]
    rw [Array.getElem?_append_left ha]
  · simp only [grow, World.drewN]
    rw [Array.getElem?_append_left hb]
  · have hb := (Array.getElem?_eq_some_iff.1 h).1
    simp only [grow, World.drewN]
    rw [Array.getElem?_append_left hb]
    exact h
theorem keep_of_below {w w' : World} (h : Below w.heap.size w w') : Keep None w w' :=
  ⟨h.os, h.tape, h.output, h.size, fun m => False.elim m, fun a ha _ => by simp only [World.frozen?]; rw [h.block a.block ha], fun b hb _ => h.block b hb, fun b cs t z hb => ⟨cs, z, by rw [h.block b (heap_lt hb)]; exact hb⟩⟩
theorem keep_of_drewN (w : World) (k : Nat) : Keep None w (w.drewN k) := by
  refine ⟨rfl, rfl, rfl, Nat.le_refl _, fun _ => ?_, fun a ha _ => rfl, fun b hb _ => rfl, fun b cs t z h => ⟨cs, z, h⟩⟩
  simp [World.drewN]
def numeral (n : Int) : ByteArray := ⟨(Lib.itoa n).toArray⟩
def s79 (n : Int) : Option (ByteArray × Unit) := if -9223372036854775808 ≤ n ∧ n ≤ 9223372036854775807 then some (numeral n, ()) else none
noncomputable def body79 : Code := match Tryz.f79.body with | some c => c | none => .skip
theorem S79 : SoundF Tryz.prog 79 (.pfn (.cons (.int .i64) .nil) (.cons .str .nil) fun x => s79 x.1) :=
  leaf_soundL (enters_of (by kernel_rfl : Tryz.prog.funcs[79]? = some Tryz.f79) (by kernel_rfl) (by kernel_rfl : Tryz.f79.body = some body79)) (fun x y hwf hy w A μ vals hv hlay => by
    unfold s79 at hy
    split at hy
    rotate_left
    · cases hy
    rename_i hr
    cases hy
    simp only [explodes, explode, TRs] at hv
    obtain ⟨v, rest, rfl, hv, rfl⟩ := hv
    have e1 := VR.int (ob := obs []) (μ := μ) hv
    subst e1
    refine (Tryz.internal_strconv_Itoa x.1 hr.1 hr.2 w (laid_tab hlay)).mono ?_
    rintro e w' ⟨rfl, k, os, rfl⟩
    have hl := Lib.itoa_length_le x.1 hr.1 hr.2
    refine ⟨_, rfl, keep_of_grow w k os, VR.mk_str _ ?_⟩
    show (Lib.itoa x.1).toArray.size ≤ _
    rw [List.size_toArray]
    omega)
def s135 (s : ByteArray) (c : Int) : Int := Lib.indexByte s.data.toList c.toNat.toUInt8
noncomputable def body135 : Code := match Tryz.f135.body with | some c => c | none => .skip
theorem S135 : SoundF Tryz.prog 135 (.fn (.cons .str (.cons (.int .u8) .nil)) (.cons (.int .i64) .nil) fun x => (s135 x.1 x.2.1, ())) :=
  pfn_fn (leaf_sound (enters_of (by kernel_rfl : Tryz.prog.funcs[135]? = some Tryz.f135) (by kernel_rfl) (by kernel_rfl : Tryz.f135.body = some body135)) (fun x y hwf hy w A μ vals hv => by
    cases hy
    simp only [explodes, explode, TRs] at hv
    obtain ⟨v, rest, rfl, hv, v2, rest2, rfl, hv2, rfl⟩ := hv
    have e1 := VR.str (ob := obs []) (μ := μ) hv
    have e2 := VR.int (ob := obs []) (μ := μ) hv2
    subst e1 e2
    refine (Tryz.stringslite_IndexByte x.1 x.2.1 w).mono ?_
    rintro e w' ⟨rfl, rfl⟩
    exact ⟨_, rfl, Keep.refl _ _, VR.mk_int _ _⟩))
noncomputable def body89 : Code := match Tryz.f89.body with | some c => c | none => .skip
theorem S89 : SoundF Tryz.prog 89 FSem.atoi :=
  atoi_sound (enters_of (by kernel_rfl : Tryz.prog.funcs[89]? = some Tryz.f89) (by kernel_rfl) (by kernel_rfl : Tryz.f89.body = some body89)) (fun s hs w hl => by
    have e0 : Lib.atoiAll s.data.toList = Lib.NumEnd.ofOption (none : Option Int) ∨ (∃ v, Lib.atoiAll s.data.toList = .ok v) ∨ Lib.atoiAll s.data.toList = .range := by
      cases Lib.atoiAll s.data.toList
      · exact .inr (.inl ⟨_, rfl⟩)
      · exact .inl rfl
      · exact .inr (.inr rfl)
    unfold aVal aOk
    rcases e0 with ha | ⟨v, ha⟩ | ha
    · obtain ⟨ev, hv, hev⟩ := laid_err hl (.inl rfl)
      rw [ha]
      refine (Tryz.strconv_Atoi_syntax s hs ha ev w hv hev).mono ?_
      rintro e w' ⟨N, rfl, _, _, hb⟩
      exact ⟨_, rfl, fun h => (by cases h), keep_of_below hb⟩
    · rw [ha]
      refine (Tryz.strconv_Atoi_ok s (by omega) v ha w).mono ?_
      rintro e w' ⟨rfl, hw⟩
      refine ⟨_, rfl, fun _ => rfl, ?_⟩
      rcases hw with rfl | ⟨t, rfl⟩
      · exact Keep.refl _ _
      · exact keep_of_below (Lib.bytesWorld_below w 5 t)
    · obtain ⟨ev, hv, hev⟩ := laid_err hl (.inr rfl)
      rw [ha]
      refine (Tryz.strconv_Atoi_range s hs ha ev w hv hev).mono ?_
      rintro e w' ⟨N, rfl, _, _, hb⟩
      exact ⟨_, rfl, fun h => (by cases h), keep_of_below hb⟩)
/-! ### strings.Builder -/
noncomputable def body80 : Code := match Tryz.f80.body with | some c => c | none => .skip
theorem S80 : SoundF Tryz.prog 80 .cck :=
  cck_sound (enters_of (by kernel_rfl : Tryz.prog.funcs[80]? = some Tryz.f80) (by kernel_rfl) (by kernel_rfl : Tryz.f80.body = some body80))
    (fun b v w h => cckFresh b w (by rw [Lib.cell_of_heap h]; rfl) (by simp [World.shape?, h, bldT]) (by simp [World.frozen?, h]))
    (fun b v w h => cckUsed b w (by rw [Lib.cell_of_heap h]; rfl))
noncomputable def body44 : Code := match Tryz.f44.body with | some c => c | none => .skip
theorem S44 : SoundF Tryz.prog 44 .bstr :=
  bstr_sound (enters_of (by kernel_rfl : Tryz.prog.funcs[44]? = some Tryz.f44) (by kernel_rfl) (by kernel_rfl : Tryz.f44.body = some body44))
    (fun b u w h => bldString Tryz.lays169 Tryz.Builder_Extra_169 b u (.slice none 0 0) none 0 ByteArray.empty w w.drew h ⟨none, 0, rfl⟩ rfl (Lib.run_unsafeString_none w.drew _ _ _ none))
    (fun b g c u cs s w h hg h0 h1 h2 h3 hel => bldString Tryz.lays169 Tryz.Builder_Extra_169 b u (.slice (some ⟨g, 0, none⟩) s.size c) (some ⟨g, 0, none⟩) s.size s w (w.drew.freeze ⟨g, 0, none⟩ s.size) h ⟨_, _, rfl⟩
      (Lib.run_unsafeSliceData_row w.drew _ _ _ _ _ (by omega))
      (by
        have hl : s.data.toList.length = s.size := Array.length_toList
        have hg' : w.drew.heap[g]? = some (.cells cs byteT (0, 0)) := hg
        have := Lib.run_unsafeString_row (P := Tryz.prog) w.drew 120 3 9 5 Tryz.underlying120 (by kernel_rfl) g cs.size (by simp [World.shape?, hg', byteT]) s.data.toList (fun e => by rw [e] at hl; simp at hl; omega) (by rw [hl]; omega) (by rw [hl]; omega) (fun j x hx => by
          rw [Array.getElem?_toList] at hx
          simp only [Addr.add_lit, World.cell?, hg', Nat.zero_add]
          exact hel j x hx)
        rw [hl] at this
        have e : (⟨s.data.toList.toArray⟩ : ByteArray) = s := by simp
        rw [e] at this
        exact this))
/-! ### strings.Split, Cut, Join -/
theorem laid_max {w : World} (h : ∀ p ∈ theLay, LaidAt w p) : ∃ m, w.cell? ⟨0, 0, none⟩ = some (.int .i64 m) := by
  obtain ⟨cs, t, z, e, m, hm⟩ := h (0, isMax) (.tail _ (.tail _ (.tail _ (.head _))))
  simp only at e
  refine ⟨m, ?_⟩
  simp only [World.cell?, e]
  exact hm
def splitL (s sep : ByteArray) : List ByteArray := Lib.splitB sep 0 (Lib.countB s sep) s
def s86 (s sep : ByteArray) : Option (List ByteArray × Unit) := if s.size < 4294967281 ∧ 1 ≤ sep.size then some (splitL s sep, ()) else none
noncomputable def body86 : Code := match Tryz.f86.body with | some c => c | none => .skip
theorem extract_size_le (s : ByteArray) (a b : Nat) : (s.extract a b).size ≤ s.size := by
  rw [ByteArray.size_extract]
  omega
theorem splitB_size (sep : ByteArray) : ∀ (k : Nat) (s : ByteArray), ∀ x ∈ Lib.splitB sep 0 k s, x.size ≤ s.size
  | 0, s, x, h => by
    simp only [Lib.splitB, List.mem_singleton] at h
    subst h
    exact Nat.le_refl _
  | k + 1, s, x, h => by
    unfold Lib.splitB at h
    split at h
    · rw [List.mem_singleton] at h
      subst h
      exact Nat.le_refl _
    · rcases List.mem_cons.1 h with rfl | h
      · exact extract_size_le _ _ _
      · exact Nat.le_trans (splitB_size sep k _ x h) (extract_size_le _ _ _)
theorem S86 : SoundF Tryz.prog 86 (.pfn (.cons .str (.cons .str .nil)) (.cons (.slice .str) .nil) fun x => s86 x.1 x.2.1) :=
  leaf_soundA (enters_of (by kernel_rfl : Tryz.prog.funcs[86]? = some Tryz.f86) (by kernel_rfl) (by kernel_rfl : Tryz.f86.body = some body86)) (fun x y hwf hy w A μ vals hv hlay hA => by
    unfold s86 at hy
    split at hy
    rotate_left
    · cases hy
    rename_i hr
    cases hy
    simp only [explodes, explode, TRs] at hv
    obtain ⟨v, rest, rfl, hv, v2, rest2, rfl, hv2, rfl⟩ := hv
    have e1 := VR.str (ob := obs []) (μ := μ) hv
    have e2 := VR.str (ob := obs []) (μ := μ) hv2
    have hsz := VR.str_size (ob := obs []) (μ := μ) hv
    subst e1 e2
    obtain ⟨m, hm⟩ := laid_max hlay
    refine (Tryz.strings_Split x.1 x.2.1 m w hr.1 hm hr.2).mono ?_
    rintro e w' ⟨rfl, rfl⟩
    have hlen : (splitL x.1 x.2.1).length = Lib.countB x.1 x.2.1 + 1 := Lib.splitB_all x.2.1 hr.2 0 _ x.1 rfl
    have hcnt : Lib.countB x.1 x.2.1 + 1 ≤ 9223372036854775807 := by
      have := Lib.countB_le x.2.1 hr.2 x.1.size x.1 (Nat.le_refl _)
      omega
    refine ⟨_, rfl, Keep.alloc _ _ _ _, VR.mk_sl (T := .str) (xs := splitL x.1 x.2.1) ?_⟩
    simp only [DR]
    refine ⟨some ⟨w.heap.size, 0, none⟩, Lib.countB x.1 x.2.1 + 1, congrArg (fun n => [Value.slice (some ⟨w.heap.size, 0, none⟩) n (Lib.countB x.1 x.2.1 + 1)]) hlen.symm, ⟨Nat.le_of_eq hlen, hcnt⟩, .inr ⟨w.heap.size, 0, rfl, fun h => Nat.lt_irrefl _ (hA _ h), by simp, fun i z hz => ⟨[.string z], ?_, fun j v hj => ?_⟩⟩⟩
    · have hz : (splitL x.1 x.2.1)[i]? = some z := hz
      exact ⟨rfl, Nat.le_trans (splitB_size _ _ _ z (List.mem_of_getElem? hz)) hsz⟩
    · obtain rfl : j = 0 := by have := (List.getElem?_eq_some_iff.1 hj).1; simp at this; exact this
      have hz : (splitL x.1 x.2.1)[i]? = some z := hz
      simp only [World.cell?, alloc_at]
      show ((splitL x.1 x.2.1).map Value.string).toArray[0 + i * 1 + 0]? = some v
      rw [Nat.zero_add, Nat.mul_one, Nat.add_zero, List.getElem?_toArray, List.getElem?_map, hz]
      exact hj)
def s85 (s sep : ByteArray) : Option (ByteArray × ByteArray × Bool × Unit) :=
  if s.size < 4294967281 then some (⟨(Lib.cut s.data.toList sep.data.toList).1.toArray⟩, ⟨(Lib.cut s.data.toList sep.data.toList).2.1.toArray⟩, (Lib.cut s.data.toList sep.data.toList).2.2, ()) else none
theorem cut_size (l sep : List UInt8) : (Lib.cut l sep).1.length ≤ l.length ∧ (Lib.cut l sep).2.1.length ≤ l.length := by
  unfold Lib.cut
  split
  · exact ⟨by simp only [List.length_take]; omega, by simp only [List.length_drop]; omega⟩
  · exact ⟨Nat.le_refl _, Nat.zero_le _⟩
noncomputable def body85 : Code := match Tryz.f85.body with | some c => c | none => .skip
theorem S85 : SoundF Tryz.prog 85 (.pfn (.cons .str (.cons .str .nil)) (.cons .str (.cons .str (.cons .bool .nil))) fun x => s85 x.1 x.2.1) :=
  leaf_soundL (enters_of (by kernel_rfl : Tryz.prog.funcs[85]? = some Tryz.f85) (by kernel_rfl) (by kernel_rfl : Tryz.f85.body = some body85)) (fun x y hwf hy w A μ vals hv hlay => by
    unfold s85 at hy
    split at hy
    rotate_left
    · cases hy
    rename_i hr
    cases hy
    simp only [explodes, explode, TRs] at hv
    obtain ⟨v, rest, rfl, hv, v2, rest2, rfl, hv2, rfl⟩ := hv
    have e1 := VR.str (ob := obs []) (μ := μ) hv
    have e2 := VR.str (ob := obs []) (μ := μ) hv2
    have hsz := VR.str_size (ob := obs []) (μ := μ) hv
    subst e1 e2
    obtain ⟨m, hm⟩ := laid_max hlay
    refine (Tryz.strings_Cut x.1 x.2.1 m w hr hm).mono ?_
    rintro e w' ⟨rfl, n, rfl⟩
    have hc := cut_size x.1.data.toList x.2.1.data.toList
    have hl : x.1.data.toList.length = x.1.size := Array.length_toList
    refine ⟨_, rfl, keep_of_drewN w n, .of_one ?_ rfl rfl⟩
    show CR _ _ _ _ (.tup [.str _, .str _, .bool _]) _
    simp only [CR, TRs]
    refine ⟨_, rfl, _, _, rfl, VR.mk_str (w := w.drewN n) (A := A) (ob := obs []) (μ := μ) _ ?_, _, _, rfl, VR.mk_str (w := w.drewN n) (A := A) (ob := obs []) (μ := μ) _ ?_, _, _, rfl, VR.mk_bool (w := w.drewN n) (A := A) (ob := obs []) (μ := μ) _, rfl⟩
    · show (Lib.cut _ _).1.toArray.size ≤ _
      rw [List.size_toArray]; omega
    · show (Lib.cut _ _).2.1.toArray.size ≤ _
      rw [List.size_toArray]; omega)
def joinL (l : List ByteArray) (sep : ByteArray) : ByteArray := ⟨(Lib.join (l.map (·.data.toList)) sep.data.toList).toArray⟩
def s42 (l : List ByteArray) (sep : ByteArray) : Option (ByteArray × Unit) :=
  if l.length ≤ 140737488355328 ∧ (joinL l sep).size ≤ 140737488355328 then some (joinL l sep, ()) else none
noncomputable def body42 : Code := match Tryz.f42.body with | some c => c | none => .skip
theorem S42 : SoundF Tryz.prog 42 (.pfn (.cons (.slice .str) (.cons .str .nil)) (.cons .str .nil) fun x => s42 x.1 x.2.1) :=
  leaf_soundL (enters_of (by kernel_rfl : Tryz.prog.funcs[42]? = some Tryz.f42) (by kernel_rfl) (by kernel_rfl : Tryz.f42.body = some body42)) (fun x y hwf hy w A μ vals hv hlay => by
    unfold s42 at hy
    split at hy
    rotate_left
    · cases hy
    rename_i hr
    cases hy
    simp only [explodes, explode, TRs] at hv
    obtain ⟨v, rest, rfl, hv, v2, rest2, rfl, hv2, rfl⟩ := hv
    have hd := VR.sl (ob := obs []) (μ := μ) hv
    have e2 := VR.str (ob := obs []) (μ := μ) hv2
    subst e2
    simp only [DR] at hd
    obtain ⟨a, c, e, hc, hd⟩ := hd
    simp only [List.cons.injEq, and_true] at e
    subst e
    rcases hd with hd | ⟨b, off, rfl, _, hb, hel⟩
    · have hx0 : x.1 = [] := hd
      rw [hx0]
      refine (Tryz.strings_Join_none a c x.2.1 w).mono ?_
      rintro e w' ⟨rfl, rfl⟩
      exact ⟨_, rfl, Keep.refl _ _, VR.mk_str _ (Nat.zero_le _)⟩
    · refine (Tryz.strings_Join b off c x.1 x.2.1 w (fun j z hz => ?_) hb hr.1 hc.1 (Nat.le_trans (Nat.le_of_eq List.size_toArray.symm) hr.2)).mono ?_
      · obtain ⟨cs, h1, h2⟩ := hel j z hz
        obtain ⟨rfl, _⟩ := h1
        have := h2 0 _ rfl
        rwa [show off + j * Ty.str.cells + 0 = off + j from by show off + j * 1 + 0 = off + j; omega] at this
      · rintro e w' ⟨rfl, hbl⟩
        exact ⟨_, rfl, keep_of_below hbl, VR.mk_str _ (Nat.le_trans hr.2 (by decide))⟩)
def s104 (a b : ByteArray) : Int := Lib.compareBytes a.data.toList b.data.toList
noncomputable def body104 : Code := match Tryz.f104.body with | some c => c | none => .skip
theorem S104 [MonotC] : SoundF Tryz.prog 104 (.fn (.cons .str (.cons .str .nil)) (.cons (.int .i64) .nil) fun x => (s104 x.1 x.2.1, ())) :=
  pfn_fn (leaf_sound (enters_of (by kernel_rfl : Tryz.prog.funcs[104]? = some Tryz.f104) (by kernel_rfl) (by kernel_rfl : Tryz.f104.body = some body104)) (fun x y hwf hy w A μ vals hv => by
    cases hy
    simp only [explodes, explode, TRs] at hv
    obtain ⟨v, rest, rfl, hv, v2, rest2, rfl, hv2, rfl⟩ := hv
    have e1 := VR.str (ob := obs []) (μ := μ) hv
    have e2 := VR.str (ob := obs []) (μ := μ) hv2
    subst e1 e2
    refine (Tryz.bytealg_CompareString x.1 x.2.1 w).mono ?_
    rintro e w' ⟨rfl, rfl⟩
    exact ⟨_, rfl, Keep.refl _ _, VR.mk_int _ _⟩))
/-! ### strings.Count of one byte -/
end Go.Vm
