/- DeedTexts: what the reference writes. Own work. -/
import Derived.Test.YtbjpkdbneopgkaaGreatDoorESpecT
set_option maxRecDepth 100000
set_option linter.unusedVariables false
set_option linter.unusedSimpArgs false
namespace Go.Vm
open Go.RowKit Go.Vm.Num
open Classical in
noncomputable def s16 (l : List Dd) : Option (ByteArray × Unit) := if dOKs l then some (dLines l, ()) else none
theorem glue2 (a b : ByteArray) : joinL [a, b] sp = a ++ (sp ++ b) := by
  rw [join_glue]
  unfold glue glue
  apply bytes_of
  simp only [ByteArray.data_append, Array.toList_append, List.append_nil]
theorem dcat {d : Dd} (b : ByteArray) : b ++ dLine d = ((b ++ (((d.1 ++ sp) ++ (numeral d.2.1 ++ (sp ++ numeral d.2.2.1))) ++ sp)) ++ (dWord d ++ glue (dTail d))) ++ nl := by
  unfold dLine dWords dHead
  rw [List.cons_append, join_glue]
  simp only [List.cons_append, List.nil_append, glue]
  apply bytes_of
  simp only [ByteArray.data_append, Array.toList_append, List.append_assoc]
theorem h16 (l : List Dd) (y : ByteArray × Unit) (hw : WFs A16 (l, ())) (h : s16 l = some y) : ∃ k, f16 s36 s42 k l = some y := by
  unfold s16 at h
  split at h
  rotate_left
  · cases h
  rename_i hn
  cases h
  clear hw
  refine ⟨l.length + 1, ?_⟩
  unfold f16
  have hlen := hn.1
  rw [iter_fold (s0 := (((ByteArray.mk #[]), (0 : Int), ()), ())) l (fun i (b : ByteArray) => ((b, (i : Int), ()), ())) (fun t b => b ++ dLine t) (fun b => .inr ((b, ()), ())) (fun j b => b.size ≤ 501 * j) (ByteArray.mk #[]) (Nat.le_refl _) rfl (by omega) ?hJ ?h1 ?h2]
  · rfl
  case hJ =>
    intro j t b hx hb
    have := dline_size (hn.2 t (List.mem_of_getElem? hx))
    rw [ByteArray.size_append]
    omega
  case h2 => intro b _; simp
  case h1 =>
    intro j t b hx hb
    have hj := (List.getElem?_eq_some_iff.1 hx).1
    have o := hn.2 t (List.mem_of_getElem? hx)
    have q0 := o.n0; have q1 := o.n1; have q2 := o.t0; have q3 := o.t1
    have hk1 := o.k1; have hk4 := o.k4; have hsite := o.site
    have hs : (ByteArray.mk #[32]).size = 1 := rfl
    have hnl : (ByteArray.mk #[10]).size = 1 := rfl
    have m0 := (numeral_size t.2.1 (by omega) (by omega)).2
    have m1 := (numeral_size t.2.2.1 (by omega) (by omega)).2
    have eA := e36 (ns := [t.2.1, t.2.2.1]) (by simp) (by simp only [List.all_cons, List.all_nil, in_of (n := t.2.1) (by omega) (by omega), in_of (n := t.2.2.1) (by omega) (by omega), Bool.and_self]) (by simp only [List.map_cons, List.map_nil, glue2, ByteArray.size_append, show sp.size = 1 from rfl]; omega)
    simp only [List.map_cons, List.map_nil, glue2] at eA
    simp only [lt_at hx, inR_at hx, rd_at hx, wrap_succ hx (by omega), cond_true, eA, Option.bind_some]
    have hk : t.2.2.2.1 = 1 ∨ t.2.2.2.1 = 2 ∨ t.2.2.2.1 = 3 ∨ t.2.2.2.1 = 4 := by omega
    have w1 : (ByteArray.mk #[99, 97, 114, 32]).size = 4 := rfl
    have w2 : (ByteArray.mk #[97, 119, 97, 121, 32]).size = 5 := rfl
    have w4 : (ByteArray.mk #[100, 114, 111, 112, 32]).size = 5 := rfl
    rw [dcat]
    rcases hk with e | e | e | e
    · have b1 : (t.2.2.2.1 == 1) = true := by rw [e]; rfl
      obtain ⟨c1, c2, c3, c4⟩ := o.car e
      have m2 := (numeral_size t.2.2.2.2.2.2.1.2.1 (by omega) (by omega)).2
      have m3 := (numeral_size t.2.2.2.2.2.2.1.2.2.1 (by omega) (by omega)).2
      have eB := e36 (ns := [t.2.2.2.2.2.2.1.2.1, t.2.2.2.2.2.2.1.2.2.1]) (by simp) (by simp only [List.all_cons, List.all_nil, in_of (n := t.2.2.2.2.2.2.1.2.1) (by omega) (by omega), in_of (n := t.2.2.2.2.2.2.1.2.2.1) (by omega) (by omega), Bool.and_self]) (by simp only [List.map_cons, List.map_nil, glue2, ByteArray.size_append, show sp.size = 1 from rfl]; omega)
      simp only [List.map_cons, List.map_nil, glue2] at eB
      have ew : dWord t ++ glue (dTail t) = ((((((ByteArray.mk #[99, 97, 114, 32]) ++ t.2.2.2.2.2.2.1.1) ++ (ByteArray.mk #[32])) ++ (numeral t.2.2.2.2.2.2.1.2.1 ++ (sp ++ numeral t.2.2.2.2.2.2.1.2.2.1))) ++ (ByteArray.mk #[32])) ++ t.2.2.2.2.2.1) := by
        unfold dWord dTail
        rw [b1, e]
        simp only [cond_true, glue]
        apply bytes_of
        simp only [ByteArray.data_append, Array.toList_append, List.append_assoc, List.append_nil]
        rfl
      rw [ew]
      simp only [b1, cond_true, eB, Option.bind_some]
      simp (disch := (simp only [ByteArray.size_append, hs, hnl, w1]; omega)) only [decide_eq_true, cond_true, cond_false, Option.bind_some]
    · have b1 : (t.2.2.2.1 == 1) = false := by rw [e]; rfl
      have b2 : (t.2.2.2.1 == 2) = true := by rw [e]; rfl
      have c1 := o.other (.inl e)
      have ew : dWord t ++ glue (dTail t) = (ByteArray.mk #[97, 119, 97, 121, 32]) ++ t.2.2.2.2.1 := by
        unfold dWord dTail
        rw [b1, show (t.2.2.2.1 == 3) = false from by rw [e]; rfl, e]
        simp only [cond_false, glue]
        apply bytes_of
        simp only [ByteArray.data_append, Array.toList_append, List.append_assoc, List.append_nil]
        rfl
      rw [ew]
      simp only [b1, b2, cond_true, cond_false, Option.bind_some]
      simp (disch := (simp only [ByteArray.size_append, hs, hnl, w2]; omega)) only [decide_eq_true, cond_true, cond_false, Option.bind_some]
    · have b1 : (t.2.2.2.1 == 1) = false := by rw [e]; rfl
      have b2 : (t.2.2.2.1 == 2) = false := by rw [e]; rfl
      have b3 : (t.2.2.2.1 == 3) = true := by rw [e]; rfl
      obtain ⟨g0, g1, g2, g3, a0, a1, b0, b1', c0, c1, d0, d1⟩ := o.ask e
      have m2 := (numeral_size t.2.2.2.2.2.2.2.1.2.2.2.2.1 (by omega) (by omega)).2
      have m3 := (numeral_size t.2.2.2.2.2.2.2.1.2.2.2.2.2.1 (by omega) (by omega)).2
      have m4 := (numeral_size t.2.2.2.2.2.2.2.1.2.2.2.2.2.2.1 (by omega) (by omega)).2
      have m5 := (numeral_size t.2.2.2.2.2.2.2.1.2.2.2.2.2.2.2.1 (by omega) (by omega)).2
      have hj4 : joinL ([t.2.2.2.2.2.2.2.1.2.2.2.2.1, t.2.2.2.2.2.2.2.1.2.2.2.2.2.1, t.2.2.2.2.2.2.2.1.2.2.2.2.2.2.1, t.2.2.2.2.2.2.2.1.2.2.2.2.2.2.2.1].map numeral) sp = numeral t.2.2.2.2.2.2.2.1.2.2.2.2.1 ++ (sp ++ numeral t.2.2.2.2.2.2.2.1.2.2.2.2.2.1) ++ (sp ++ numeral t.2.2.2.2.2.2.2.1.2.2.2.2.2.2.1) ++ (sp ++ numeral t.2.2.2.2.2.2.2.1.2.2.2.2.2.2.2.1) := by
        simp only [List.map_cons, List.map_nil, join4]
      have eB := e36 (ns := [t.2.2.2.2.2.2.2.1.2.2.2.2.1, t.2.2.2.2.2.2.2.1.2.2.2.2.2.1, t.2.2.2.2.2.2.2.1.2.2.2.2.2.2.1, t.2.2.2.2.2.2.2.1.2.2.2.2.2.2.2.1]) (by simp) (by simp only [List.all_cons, List.all_nil, in_of (n := t.2.2.2.2.2.2.2.1.2.2.2.2.1) (by omega) (by omega), in_of (n := t.2.2.2.2.2.2.2.1.2.2.2.2.2.1) (by omega) (by omega), in_of (n := t.2.2.2.2.2.2.2.1.2.2.2.2.2.2.1) (by omega) (by omega), in_of (n := t.2.2.2.2.2.2.2.1.2.2.2.2.2.2.2.1) (by omega) (by omega), Bool.and_self]) (by rw [hj4]; simp only [ByteArray.size_append, show sp.size = 1 from rfl]; omega)
      rw [hj4] at eB
      have ew : dWord t ++ glue (dTail t) = joinL [(ByteArray.mk #[97, 115, 107]), t.2.2.2.2.2.2.2.1.1, t.2.2.2.2.2.2.2.1.2.1, t.2.2.2.2.2.2.2.1.2.2.1, t.2.2.2.2.2.2.2.1.2.2.2.1, numeral t.2.2.2.2.2.2.2.1.2.2.2.2.1 ++ (sp ++ numeral t.2.2.2.2.2.2.2.1.2.2.2.2.2.1) ++ (sp ++ numeral t.2.2.2.2.2.2.2.1.2.2.2.2.2.2.1) ++ (sp ++ numeral t.2.2.2.2.2.2.2.1.2.2.2.2.2.2.2.1)] sp := by
        rw [join_glue]
        unfold dWord dTail
        rw [b1, b3, e]
        simp only [cond_false, cond_true, glue]
        apply bytes_of
        simp only [ByteArray.data_append, Array.toList_append, List.append_assoc, List.append_nil]
        rfl
      have hz : (dWord t ++ glue (dTail t)).size ≤ 400 := by
        have hw := (dword_facts o.k1 o.k4).2.2
        have h40 := dwords_40 o
        have := glue_size (dTail t) (fun w hw => h40 w (by unfold dWords; exact List.mem_append_right _ hw))
        have hl : (dTail t).length = 8 := by unfold dTail; rw [b1, b3]; rfl
        rw [hl] at this
        rw [ByteArray.size_append]
        omega
      rw [ew] at hz
      have eC : s42 [(ByteArray.mk #[97, 115, 107]), t.2.2.2.2.2.2.2.1.1, t.2.2.2.2.2.2.2.1.2.1, t.2.2.2.2.2.2.2.1.2.2.1, t.2.2.2.2.2.2.2.1.2.2.2.1, numeral t.2.2.2.2.2.2.2.1.2.2.2.2.1 ++ (sp ++ numeral t.2.2.2.2.2.2.2.1.2.2.2.2.2.1) ++ (sp ++ numeral t.2.2.2.2.2.2.2.1.2.2.2.2.2.2.1) ++ (sp ++ numeral t.2.2.2.2.2.2.2.1.2.2.2.2.2.2.2.1)] (ByteArray.mk #[32]) = some (joinL [(ByteArray.mk #[97, 115, 107]), t.2.2.2.2.2.2.2.1.1, t.2.2.2.2.2.2.2.1.2.1, t.2.2.2.2.2.2.2.1.2.2.1, t.2.2.2.2.2.2.2.1.2.2.2.1, numeral t.2.2.2.2.2.2.2.1.2.2.2.2.1 ++ (sp ++ numeral t.2.2.2.2.2.2.2.1.2.2.2.2.2.1) ++ (sp ++ numeral t.2.2.2.2.2.2.2.1.2.2.2.2.2.2.1) ++ (sp ++ numeral t.2.2.2.2.2.2.2.1.2.2.2.2.2.2.2.1)] sp, ()) := e42d (by simp) (by omega)
      rw [ew]
      simp only [b1, b2, b3, cond_true, cond_false, eB, eC, Option.bind_some]
      generalize joinL [(ByteArray.mk #[97, 115, 107]), _, _, _, _, _] sp = q at hz ⊢
      simp (disch := (simp only [ByteArray.size_append, hs, hnl]; omega)) only [decide_eq_true, cond_true, cond_false, Option.bind_some]
    · have b1 : (t.2.2.2.1 == 1) = false := by rw [e]; rfl
      have b2 : (t.2.2.2.1 == 2) = false := by rw [e]; rfl
      have b3 : (t.2.2.2.1 == 3) = false := by rw [e]; rfl
      have c1 := o.other (.inr e)
      have ew : dWord t ++ glue (dTail t) = (ByteArray.mk #[100, 114, 111, 112, 32]) ++ t.2.2.2.2.1 := by
        unfold dWord dTail
        rw [b1, b3, e]
        simp only [cond_false, glue]
        apply bytes_of
        simp only [ByteArray.data_append, Array.toList_append, List.append_assoc, List.append_nil]
        rfl
      rw [ew]
      simp only [b1, b2, b3, cond_true, cond_false, Option.bind_some]
      simp (disch := (simp only [ByteArray.size_append, hs, hnl, w4]; omega)) only [decide_eq_true, cond_true, cond_false, Option.bind_some]
end Go.Vm
