/- AskTexts: what the reference writes; the law. Own work. -/
import Derived.Test.YtbjpkdbneopgkaaGreatDoorASpecT
set_option maxRecDepth 100000
set_option linter.unusedVariables false
set_option linter.unusedSimpArgs false
namespace Go.Vm
open Go.RowKit Go.Vm.Num
open Classical in
noncomputable def s7 (l : List Ask) : Option (ByteArray × Unit) := if allOK l then some (linesOf l, ()) else none
theorem e36 {ns : List Int} (h1 : ns.length ≤ 4) (h2 : ns.all inI = true) (h3 : (joinL (ns.map numeral) sp).size ≤ 300) : s36 ns = some (joinL (ns.map numeral) sp, ()) := by
  unfold s36
  rw [if_pos ⟨by omega, h2, by omega⟩]
theorem h7 (l : List Ask) (y : ByteArray × Unit) (hw : WFs A7 (l, ())) (h : s7 l = some y) : ∃ k, f7 s36 s37 k l = some y := by
  unfold s7 at h
  split at h
  rotate_left
  · cases h
  rename_i hn
  cases h
  clear hw
  refine ⟨l.length + 1, ?_⟩
  unfold f7
  have hlen := hn.1
  rw [iter_fold (s0 := (((ByteArray.mk #[]), (0 : Int), ()), ())) l (fun i (b : ByteArray) => ((b, (i : Int), ()), ())) (fun t b => b ++ lineOf t) (fun b => .inr ((b, ()), ())) (fun j b => b.size ≤ 301 * j) (ByteArray.mk #[]) (Nat.le_refl _) rfl (by omega) ?hJ ?h1 ?h2]
  · rfl
  case hJ =>
    intro j t b hx hb
    have := line_size (hn.2 t (List.mem_of_getElem? hx))
    rw [ByteArray.size_append]
    omega
  case h2 => intro b _; simp
  case h1 =>
    intro j t b hx hb
    have hj := (List.getElem?_eq_some_iff.1 hx).1
    have o := hn.2 t (List.mem_of_getElem? hx)
    obtain ⟨n0, n1, n2, n3, n4, w⟩ := sizes_of o
    have hls := line_size o
    obtain ⟨t0, t1, k1, k4, ⟨g0, g1, g2, g3, a0, a1, b0, b1, c0, c1, d0, d1⟩⟩ := o
    obtain ⟨w1, w2, _, _, _⟩ := word_facts k1 k4
    dsimp only [kRide, kAt, kKind] at *
    have hs : (ByteArray.mk #[32]).size = 1 := rfl
    have hnl : (ByteArray.mk #[10]).size = 1 := rfl
    have eA := e36 (ns := [t.1]) (by simp) (by simp only [List.all_cons, List.all_nil, in_of (n := t.1) (by omega) (by omega), Bool.and_self]) (by simp only [List.map_cons, List.map_nil, join1]; omega)
    have hj4 : joinL ([t.2.2.1.2.2.2.2.1, t.2.2.1.2.2.2.2.2.1, t.2.2.1.2.2.2.2.2.2.1, t.2.2.1.2.2.2.2.2.2.2.1].map numeral) sp = numeral t.2.2.1.2.2.2.2.1 ++ (sp ++ numeral t.2.2.1.2.2.2.2.2.1) ++ (sp ++ numeral t.2.2.1.2.2.2.2.2.2.1) ++ (sp ++ numeral t.2.2.1.2.2.2.2.2.2.2.1) := by
      simp only [List.map_cons, List.map_nil, join4]
    have eB := e36 (ns := [t.2.2.1.2.2.2.2.1, t.2.2.1.2.2.2.2.2.1, t.2.2.1.2.2.2.2.2.2.1, t.2.2.1.2.2.2.2.2.2.2.1]) (by simp) (by simp only [List.all_cons, List.all_nil, in_of (n := t.2.2.1.2.2.2.2.1) (by omega) (by omega), in_of (n := t.2.2.1.2.2.2.2.2.1) (by omega) (by omega), in_of (n := t.2.2.1.2.2.2.2.2.2.1) (by omega) (by omega), in_of (n := t.2.2.1.2.2.2.2.2.2.2.1) (by omega) (by omega), Bool.and_self]) (by rw [hj4]; simp only [ByteArray.size_append, show sp.size = 1 from rfl]; omega)
    rw [hj4] at eB
    simp only [List.map_cons, List.map_nil, join1] at eA
    simp only [lt_at hx, inR_at hx, rd_at hx, wrap_succ hx (by omega), cond_true, eA, eB, Option.bind_some, w1, w2]
    have hcat : ∀ q : Bool, decide (t.2.1 ≤ 2) = q → b ++ lineOf t = (bif q then (b ++ (((((numeral (t.1) ++ sp) ++ wordOf t) ++ sp) ++ t.2.2.1.1) ++ sp ++ t.2.2.1.2.1)) ++ (((((sp ++ t.2.2.1.2.2.1) ++ sp) ++ t.2.2.1.2.2.2.1) ++ sp) ++ (numeral t.2.2.1.2.2.2.2.1 ++ (sp ++ numeral t.2.2.1.2.2.2.2.2.1) ++ (sp ++ numeral t.2.2.1.2.2.2.2.2.2.1) ++ (sp ++ numeral t.2.2.1.2.2.2.2.2.2.2.1))) else (b ++ (((((numeral (t.1) ++ sp) ++ wordOf t) ++ sp) ++ t.2.2.1.1) ++ sp ++ t.2.2.1.2.1))) ++ nl := fun q hq => by
      unfold lineOf wordsOf long short
      dsimp only [kRide, kAt, kKind]
      rw [hq]
      apply bytes_of
      cases q
      · simp only [cond_false, join4, ByteArray.data_append, Array.toList_append, List.append_assoc]
      · simp only [cond_true, List.cons_append, List.nil_append, join10, ByteArray.data_append, Array.toList_append, List.append_assoc]
    have e3 : (bif ((t.2.1) == (1 : Int)) then (some (.inr ((true, ()), ())) : Option (((AT1 × (Unit)) ⊕ ((ByteArray × Unit) ⊕ ((ByteArray × Unit) × (Unit)))) ⊕ ((Bool × Unit) × (Unit)))) else some (.inr (((t.2.1 == (2 : Int)), ()), ()))) = some (.inr ((decide (t.2.1 ≤ 2), ()), ())) := by
      rcases kinds_two k1 with ⟨q1, q2⟩ | ⟨q1, q2⟩
      · rw [q1, q2]; rfl
      · rw [q1, q2]; rfl
    simp only [e3, Option.bind_some]
    cases hq : decide (t.2.1 ≤ 2)
    · rw [hcat false hq]
      simp (disch := (simp only [ByteArray.size_append, hs, hnl]; omega)) only [decide_eq_true, cond_true, cond_false, Option.bind_some]
    · rw [hcat true hq]
      simp (disch := (simp only [ByteArray.size_append, hs, hnl]; omega)) only [decide_eq_true, cond_true, cond_false, Option.bind_some]
end Go.Vm
