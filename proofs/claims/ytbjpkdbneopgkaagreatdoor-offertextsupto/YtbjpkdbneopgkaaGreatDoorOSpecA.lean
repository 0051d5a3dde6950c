/- OfferTexts: offers, written and read. Own work. -/
import Derived.Test.YtbjpkdbneopgkaaGreatDoorOFn
import Derived.Test.YtbjpkdbneopgkaaGreatDoorVmQ
set_option linter.unusedVariables false
set_option linter.unusedSimpArgs false
set_option maxRecDepth 100000
namespace Go.Vm.Gain
end Go.Vm.Gain

namespace Go.Vm
open Go.RowKit
end Go.Vm

namespace Go.Vm
open Go.RowKit
end Go.Vm

namespace Go.Vm
open Go.RowKit Go.Vm.Gain
end Go.Vm

namespace Go.Vm
open Go.RowKit Go.Vm.Gain
end Go.Vm

namespace Go.Vm
open Go.RowKit Go.Vm.Gain
end Go.Vm

namespace Go.Vm
open Go.RowKit Go.Vm.Gain
end Go.Vm

namespace Go.Vm
open Go.RowKit Go.Vm.Gain
end Go.Vm

namespace Go.Vm
open Go.RowKit Go.Vm.Gain
section
variable {α : Type}
end
section
variable {α κ : Type} {eq : κ → κ → Bool} (heq : ∀ a b, eq a b = true ↔ a = b) (nm : α → κ)
end
end Go.Vm

namespace Go.Vm
open Go.RowKit Go.Vm.Gain
end Go.Vm

namespace Go.Vm
open Go.RowKit Go.Vm.Gain
def s159 (a : ByteArray) : Bool := false
theorem h159 (a : ByteArray) (hw : WFs A159 (a, ())) : ∃ k, f159 k a = some (s159 a, ()) := ⟨0, by
  unfold f159 s159
  rw [sEq_self]
  rfl⟩
def s129 (a b : ByteArray) : Int := cmpS a b
theorem h129 (a b : ByteArray) (hw : WFs A129 (a, b, ())) : ∃ k, f129 s159 k a b = some (s129 a b, ()) := ⟨0, by
  unfold f129 s129 s159
  simp only [cond_false, sLt_cmp]
  have hs : sEq a b = decide (cmpS a b = 0) := by
    by_cases h : a = b
    · rw [sEq_iff.2 h, decide_eq_true (cmpS_zero.2 h)]
    · rw [decide_eq_false (fun e => h (cmpS_zero.1 e)), ← Bool.not_eq_true]
      exact fun e => h (sEq_iff.1 e)
  rw [hs]
  rcases cmpS_vals a b with h | h | h <;> rw [h] <;> rfl⟩
/-- the comparison of two lists -/
def cmpL : List ByteArray → List ByteArray → Int
  | [], [] => 0
  | [], _ :: _ => -1
  | _ :: _, [] => 1
  | x :: l, y :: m => if cmpS x y = 0 then cmpL l m else cmpS x y
def s97 (a b : List ByteArray) : Int := cmpL a b
def cmpLB (b : List ByteArray) (j : Nat) (x : ByteArray) (_ : Unit) : Unit ⊕ ((Int × Unit) ⊕ (Unit × Unit)) :=
  match b[j]? with
  | none => .inr (.inl (1, ()))
  | some y => bif cmpS x y != 0 then .inr (.inl (cmpS x y, ())) else .inl ()
theorem cmpL_scan (b : List ByteArray) (n : Nat) : ∀ (l : List ByteArray) (j : Nat), j + l.length = n →
    (match scan (cmpLB b) (fun _ => .inr ((), ())) l j () with | .inl z => some z | .inr _ => bif decide ((n : Int) < (b.length : Int)) then some ((-1 : Int), ()) else some ((0 : Int), ())) = some (cmpL l (b.drop j), ())
  | [], j, hj => by
    simp only [scan]
    have hj : j = n := by simpa using hj
    subst hj
    by_cases h : j < b.length
    · rw [decide_eq_true (by omega), List.drop_eq_getElem_cons h]
      rfl
    · rw [decide_eq_false (by omega), List.drop_eq_nil_of_le (by omega)]
      rfl
  | x :: l, j, hj => by
    simp only [scan, cmpLB]
    by_cases h : j < b.length
    · rw [List.getElem?_eq_getElem h, List.drop_eq_getElem_cons h]
      simp only [cmpL]
      by_cases h0 : cmpS x b[j] = 0
      · rw [show (cmpS x b[j] != 0) = false from by simp [h0], if_pos h0]
        exact cmpL_scan b n l (j + 1) (by simp at hj ⊢; omega)
      · rw [show (cmpS x b[j] != 0) = true from by simpa using h0, if_neg h0]
        rfl
    · rw [List.getElem?_eq_none (by omega), List.drop_eq_nil_of_le (by omega)]
      rfl
theorem h97 (a b : List ByteArray) (hw : WFs A97 (a, b, ())) : ∃ k, f97 s129 k a b = some (s97 a b, ()) := by
  simp only [WFs, WF] at hw
  have hl : a.length ≤ 9223372036854775807 := hw.1.1
  clear hw
  refine ⟨a.length + 1, ?_⟩
  unfold f97 s97
  rw [iter_scan0 (s0 := (((0 : Int), ()), ())) a (fun j _ => (((j : Int), ()), ())) (cmpLB b) (fun _ => .inr ((), ())) () rfl (Nat.lt_succ_self _) ?a1 ?a2]
  case a2 => simp
  case a1 =>
    intro j x u hx
    simp only [lt_at hx, inR_at hx, rd_at hx, wrap_succ hx hl, cond_true, cmpLB]
    by_cases h : j < b.length
    · have hy : b[j]? = some b[j] := List.getElem?_eq_getElem h
      rw [decide_eq_false (by omega), cond_false, inR_at hy, cond_true, rd_at hy, hy]
      simp only [s129]
      cases cmpS x b[j] != 0 <;> rfl
    · rw [decide_eq_true (by omega), List.getElem?_eq_none (by omega)]
      rfl
  have := cmpL_scan b a.length a 0 (by simp)
  rw [List.drop_zero] at this
  exact this
end Go.Vm

namespace Go.Vm
open Go.RowKit Go.Vm.Gain
end Go.Vm

namespace Go.Vm
open Go.RowKit Go.Vm.Gain
end Go.Vm

namespace Go.Vm
open Go.RowKit Go.Vm.Gain
end Go.Vm

namespace Go.Vm
open Go.RowKit Go.Vm.Gain
end Go.Vm

namespace Go.Vm
open Go.RowKit Go.Vm.Gain
end Go.Vm


namespace Go.Vm
open Go.RowKit Go.Vm.Num
abbrev Ofr : Type := ByteArray × ByteArray × Int × Unit
def oCmp : Ofr → Ofr → Int := lexC (fun a b => cmpS a.1 b.1) (fun a b => cmpS a.2.1 b.2.1)
theorem oCmp_ok : CmpOK oCmp (fun _ => True) := (cmpS_ok.on fun a : Ofr => a.1).lex (cmpS_ok.on fun a : Ofr => a.2.1)
theorem nz_two (a b : Int) : nz [a, b] = if a = 0 then b else a := by
  simp only [nz]
  by_cases ha : a = 0
  · by_cases hb : b = 0 <;> simp [ha, hb]
  · simp [ha]
def s100 (a b : Ofr) : Int := oCmp a b
theorem h100 (a b : Ofr) (hw : WFs A100 (a, b, ())) : ∃ k, f100 s76 s108 k a b = some (s100 a b, ()) := ⟨0, by
  unfold f100 s100 oCmp lexC s108 s76
  rw [nz_two]⟩
def s67 (a b : Ofr) : Int := oCmp a b
theorem h67 (a b : Ofr) (hw : WFs A67 (a, b, ())) : ∃ k, f67 s97 k a b = some (s67 a b, ()) := ⟨0, by
  unfold f67 s67 s97 oCmp lexC
  simp only [cmpL]
  by_cases h : cmpS a.1 b.1 = 0
  · rw [if_pos h, if_pos h]
    by_cases h2 : cmpS a.2.1 b.2.1 = 0
    · rw [if_pos h2, h2]
    · rw [if_neg h2]
  · rw [if_neg h, if_neg h]⟩
def oBad (o : Ofr) : Int := bif !key o.1 then 5 else bif !key o.2.1 then 5 else bif s99 o.2.2.1 0 1000000000 then 1 else 0
def ofrsFault (l : List Ofr) : Int := if l.length > 2000 then 2 else chkP oBad (fun o x => decide (oCmp x o ≤ 0)) none l
def s68 (l : List Ofr) : Int := ofrsFault l
def s23 (l : List Ofr) : Int := ofrsFault l
theorem h68 (l : List Ofr) (hw : WFs A68 (l, ())) : ∃ k, f68 s98 s99 s100 k l = some (s68 l, ()) := by
  simp only [WFs, WF] at hw
  have hl : l.length ≤ 9223372036854775807 := hw.1.1
  clear hw
  refine ⟨l.length + 1, ?_⟩
  unfold f68 s68 ofrsFault
  rw [show (2000 : Int) = ((2000 : Nat) : Int) from rfl, len_gt]
  by_cases hn : l.length > 2000
  · simp [hn]
  · simp only [hn, decide_false, cond_false, if_false]
    rw [iter_chkP (xs := l) oBad (fun o x => decide (oCmp x o ≤ 0)) ?a1 ?a2]
    case a2 => simp
    case a1 =>
      intro j x p hx hp
      have ek : s98 = key := rfl
      simp only [lt_at hx, inR_at hx, rd_at hx, wrap_succ hx hl, cond_true, chkPB, ordP, ek, oBad]
      cases key x.1
      · rfl
      cases key x.2.1
      · rfl
      cases s99 x.2.2.1 0 1000000000
      rotate_left
      · rfl
      rcases hp with ⟨rfl, rfl⟩ | ⟨o, hj, ho, rfl⟩
      · rfl
      · have e0 : decide (((j : Nat) : Int) > 0) = true := by simp; omega
        simp only [e0, prev_ix hl hj ho, inR_at ho, rd_at ho, cond_true, s100]
        cases decide (oCmp x o ≤ 0) <;> rfl
    exact chk_end _
theorem h23 (l : List Ofr) (hw : WFs A23 (l, ())) : ∃ k, f23 s32 s34 s67 k l = some (s23 l, ()) := by
  simp only [WFs, WF] at hw
  have hl : l.length ≤ 9223372036854775807 := hw.1.1
  clear hw
  refine ⟨l.length + 1, ?_⟩
  unfold f23 s23 ofrsFault
  rw [show (2000 : Int) = ((2000 : Nat) : Int) from rfl, len_gt]
  by_cases hn : l.length > 2000
  · simp [hn]
  · simp only [hn, decide_false, cond_false, if_false]
    rw [iter_chkP (xs := l) oBad (fun o x => decide (oCmp o x ≥ 0)) ?a1 ?a2]
    case a2 => simp
    case a1 =>
      intro j x p hx hp
      have ek : s34 = key := rfl
      simp only [lt_at hx, inR_at hx, rd_at hx, wrap_succ hx hl, cond_true, chkPB, ordP, ek, in_out, Bool.not_not, oBad]
      cases key x.1
      · rfl
      cases key x.2.1
      · rfl
      cases s99 x.2.2.1 0 1000000000
      rotate_left
      · rfl
      rcases hp with ⟨rfl, rfl⟩ | ⟨o, hj, ho, rfl⟩
      · rfl
      · have e0 : decide (((j : Nat) : Int) > 0) = true := by simp; omega
        simp only [e0, prev_ix hl hj ho, inR_at ho, rd_at ho, cond_true, s67]
        cases decide (oCmp o x ≥ 0) <;> rfl
    rw [chkP_congr (o1 := fun o x => decide (oCmp o x ≥ 0)) (o2 := fun o x => decide (oCmp x o ≤ 0)) (fun o x _ _ => by
      congr 1
      apply propext
      exact (oCmp_ok.flip_le trivial trivial).symm) l none (fun o e => by cases e)]
    exact chk_end _
/-- what is known of a right offer -/
structure OfrOK (o : Ofr) : Prop where
  k0 : o.1.size ≤ 40
  k1 : o.2.1.size ≤ 40
  c0 : 0 ≤ o.2.2.1
  c1 : o.2.2.1 ≤ 1000000000
theorem ofrOK_of {o : Ofr} (h : oBad o = 0) : OfrOK o := by
  unfold oBad at h
  obtain ⟨h1, h⟩ := bif_zero h (by decide)
  obtain ⟨h2, h⟩ := bif_zero h (by decide)
  obtain ⟨h3, h⟩ := bif_zero h (by decide)
  simp only [Bool.not_eq_false'] at h1 h2
  have q := out_ok h3
  exact ⟨key_40 h1, key_40 h2, q.1, q.2⟩
def oOKs (l : List Ofr) : Prop := l.length ≤ 2000 ∧ ∀ t ∈ l, OfrOK t
theorem ofrs_OK {l : List Ofr} (h : ofrsFault l = 0) : oOKs l := by
  unfold ofrsFault at h
  split at h
  · cases h
  · exact ⟨by omega, fun t ht => ofrOK_of (chkP_all l none h t ht)⟩
/-! ### a line -/
def oLine (o : Ofr) : ByteArray := ((((o.1 ++ (ByteArray.mk #[32])) ++ o.2.1) ++ (ByteArray.mk #[32])) ++ numeral o.2.2.1) ++ (ByteArray.mk #[10])
def oLines (l : List Ofr) : ByteArray := l.foldl (fun b t => b ++ oLine t) (ByteArray.mk #[])
theorem oline_size {o : Ofr} (h : OfrOK o) : (oLine o).size ≤ 104 := by
  obtain ⟨k0, k1, c0, c1⟩ := h
  have hs : (ByteArray.mk #[32]).size = 1 := rfl
  have hn : (ByteArray.mk #[10]).size = 1 := rfl
  have := (numeral_size o.2.2.1 (by omega) (by omega)).2
  unfold oLine
  simp only [ByteArray.size_append, hs, hn]
  omega
def s25 (l : List Ofr) : Option (ByteArray × Int × Unit) := some (s8 (bif ofrsFault l != 0 then (ByteArray.mk #[]) else oLines l) (ofrsFault l))
theorem h25 (l : List Ofr) (y : ByteArray × Int × Unit) (hw : WFs A25 (l, ())) (h : s25 l = some y) : ∃ k, f25 s39 s68 k l = some y := by
  unfold s25 at h
  cases h
  clear hw
  refine ⟨4000, ?_⟩
  unfold f25 s68
  by_cases hF : ofrsFault l = 0
  rotate_left
  · have e : (ofrsFault l != 0) = true := by simpa using hF
    unfold s8
    rw [e]
    rfl
  have e : (ofrsFault l != 0) = false := by simpa using hF
  obtain ⟨hlen, hok⟩ := ofrs_OK hF
  rw [e]
  simp only [cond_false]
  rw [iter_fold (s0 := (((0 : Int), ()), zOT2)) l (fun i (b : ByteArray) => (((i : Int), ()), ((b, ()), ()))) (fun t b => b ++ oLine t) (fun b => .inr ((), ((b, ()), ()))) (fun j b => b.size ≤ 104 * j) (ByteArray.mk #[]) (Nat.le_refl _) rfl (by omega) ?hJ ?h1 ?h2]
  · simp only [Option.bind_some]
    show (bif decide (((oLines l).size : Int) > 200000) then _ else _) = _
    unfold s8
    rw [hF]
    cases decide (((oLines l).size : Int) > 200000) <;> rfl
  case hJ =>
    intro j t b hx hb
    have := oline_size (hok t (List.mem_of_getElem? hx))
    rw [ByteArray.size_append]
    omega
  case h2 => intro b _; simp
  case h1 =>
    intro j t b hx hb
    have hj := (List.getElem?_eq_some_iff.1 hx).1
    have o := hok t (List.mem_of_getElem? hx)
    obtain ⟨k0, k1, c0, c1⟩ := o
    have hs : (ByteArray.mk #[32]).size = 1 := rfl
    have hn : (ByteArray.mk #[10]).size = 1 := rfl
    have hz := (numeral_size t.2.2.1 (by omega) (by omega)).2
    have i0 := s107_in (in_of (n := t.2.2.1) (by omega) (by omega))
    simp only [lt_at hx, inR_at hx, rd_at hx, wrap_succ hx (by omega), cond_true, i0, Option.bind_some]
    unfold oLine
    simp (disch := (simp only [ByteArray.size_append, hs, hn]; omega)) only [decide_eq_true, cond_true, cond_false, Option.bind_some]
open Classical in
noncomputable def s24 (l : List Ofr) : Option (ByteArray × Unit) := if oOKs l then some (oLines l, ()) else none
theorem h24 (l : List Ofr) (y : ByteArray × Unit) (hw : WFs A24 (l, ())) (h : s24 l = some y) : ∃ k, f24 s36 k l = some y := by
  unfold s24 at h
  split at h
  rotate_left
  · cases h
  rename_i hn
  cases h
  clear hw
  refine ⟨l.length + 1, ?_⟩
  unfold f24
  have hlen := hn.1
  rw [iter_fold (s0 := (((ByteArray.mk #[]), (0 : Int), ()), ())) l (fun i (b : ByteArray) => ((b, (i : Int), ()), ())) (fun t b => b ++ oLine t) (fun b => .inr ((b, ()), ())) (fun j b => b.size ≤ 104 * j) (ByteArray.mk #[]) (Nat.le_refl _) rfl (by omega) ?hJ ?h1 ?h2]
  · rfl
  case hJ =>
    intro j t b hx hb
    have := oline_size (hn.2 t (List.mem_of_getElem? hx))
    rw [ByteArray.size_append]
    omega
  case h2 => intro b _; simp
  case h1 =>
    intro j t b hx hb
    have hj := (List.getElem?_eq_some_iff.1 hx).1
    have o := hn.2 t (List.mem_of_getElem? hx)
    obtain ⟨k0, k1, c0, c1⟩ := o
    have hs : (ByteArray.mk #[32]).size = 1 := rfl
    have hn' : (ByteArray.mk #[10]).size = 1 := rfl
    have hz := (numeral_size t.2.2.1 (by omega) (by omega)).2
    have eA := e36 (ns := [t.2.2.1]) (by simp) (by simp only [List.all_cons, List.all_nil, in_of (n := t.2.2.1) (by omega) (by omega), Bool.and_self]) (by simp only [List.map_cons, List.map_nil, join1]; omega)
    simp only [List.map_cons, List.map_nil, join1] at eA
    simp only [lt_at hx, inR_at hx, rd_at hx, wrap_succ hx (by omega), cond_true, eA, Option.bind_some]
    unfold oLine
    simp (disch := (simp only [ByteArray.size_append, hs, hn']; omega)) only [decide_eq_true, cond_true, cond_false, Option.bind_some]
/-! ### Read -/
def ofrOf : List ByteArray → Option Ofr
  | [a, b, c] => bif numOk 15 c.data.toList then some (a, b, aVal c, ()) else none
  | _ => none
def ofrLine (s : ByteArray) : Option Ofr := bif (splitL s sp).any isE then none else ofrOf (splitL s sp)
theorem ofr_line {s : ByteArray} (hE : (splitL s sp).any isE = false) : ofrLine s = ofrOf (splitL s sp) := by
  unfold ofrLine
  rw [hE]
  rfl
theorem ofr_empty {s : ByteArray} (hE : (splitL s sp).any isE = true) : ofrLine s = none := by
  unfold ofrLine
  rw [hE]
  rfl
theorem three_cases (ws : List ByteArray) : (∃ a b c, ws = [a, b, c]) ∨ (((ws.length : Int) == 3) = false ∧ ofrOf ws = none) := by
  by_cases h : ws.length = 3
  · match ws, h with
    | [a, b, c], _ => exact .inl ⟨a, b, c, rfl⟩
  · refine .inr ⟨by rw [beq_eq_false_iff_ne]; omega, ?_⟩
    unfold ofrOf
    split
    · simp at h
    · rfl
def readOfrs (s : ByteArray) : List Ofr × Int × Int × Unit := readG ofrLine ofrsFault s
def s27 (s : ByteArray) : Option (List Ofr × Int × Int × Unit) := some (readOfrs s)
def s28 (s : ByteArray) : Option (List Ofr × Int × Int × Unit) := some (readOfrs s)
theorem e70 {w : ByteArray} (h : w.size ≤ 200000) : s70 w 3 = some (bif wordsOk (splitL w sp) 3 then (splitL w sp, true, ()) else ([], false, ())) := by
  unfold s70
  rw [if_pos (by omega)]
def oFail (j : Nat) (out : List Ofr) : Option (((Int × Unit) × ((List Ofr) × Unit)) ⊕ TauG Ofr) := some (.inr (.inl (.inr (((j : Int), false, ()), (out, ())))))
/-- a line, as the program's text has it (it stands there twice) -/
def oStep (j : Nat) (out : List Ofr) (w : ByteArray) : Option (((Int × Unit) × ((List Ofr) × Unit)) ⊕ TauG Ofr) :=
  Option.bind (s70 w (3 : Int)) fun v3 =>
  bif (!v3.2.1) then
    some (.inr (.inl (.inr (((j : Int), false, ()), (out, ())))))
  else
    bif (inR (2 : Int) ((List.length v3.1 : Nat) : Int)) then
      Option.bind (s71 (rd (α := ByteArray) ByteArray.empty v3.1 (2 : Int)) (15 : Int)) fun v4 =>
      bif (inR (0 : Int) ((List.length v3.1 : Nat) : Int)) then
        bif (inR (1 : Int) ((List.length v3.1 : Nat) : Int)) then
          bif decide (List.length out + List.length ([((rd (α := ByteArray) ByteArray.empty v3.1 (0 : Int)), (rd (α := ByteArray) ByteArray.empty v3.1 (1 : Int)), v4.1, ())]) ≤ 4294967296) then
            bif (!v4.2.1) then
              some (.inr (.inl (.inr (((j : Int), false, ()), ((out ++ [((rd (α := ByteArray) ByteArray.empty v3.1 (0 : Int)), (rd (α := ByteArray) ByteArray.empty v3.1 (1 : Int)), v4.1, ())]), ())))))
            else
              some (.inl ((((j + 1 : Nat) : Int), ()), ((out ++ [((rd (α := ByteArray) ByteArray.empty v3.1 (0 : Int)), (rd (α := ByteArray) ByteArray.empty v3.1 (1 : Int)), v4.1, ())]), ())))
          else
            none
        else
          none
      else
        none
    else
      none
theorem oStep_eq {j : Nat} {out : List Ofr} {w : ByteArray} (hw : w.size ≤ 200000) (ho : out.length ≤ 200001) : (∃ out', oStep j out w = oFail j out' ∧ ofrLine w = none) ∨ (∃ a, ofrLine w = some a ∧ oStep j out w = some (.inl (stG (j + 1) (out ++ [a])))) := by
  have hsm := split_small hw
  have e5 : ∀ a : Ofr, decide (out.length + [a].length ≤ 4294967296) = true := fun a => decide_eq_true (by rw [List.length_singleton]; omega)
  unfold oStep oFail
  rw [e70 hw]
  simp only [Option.bind_some]
  unfold wordsOk
  cases hE : (splitL w sp).any isE
  rotate_left
  · rw [ofr_empty hE]
    left
    refine ⟨out, ?_, rfl⟩
    cases ((splitL w sp).length : Int) == 3 <;> rfl
  rw [ofr_line hE]
  generalize splitL w sp = ws at hsm ⊢
  rcases three_cases ws with ⟨a, b, c, rfl⟩ | ⟨h3, hn⟩
  · have hc := hsm c (by simp)
    simp only [show ((([a, b, c].length : Nat) : Int) == 3) = true from rfl, Bool.not_false, Bool.true_and, cond_true, Bool.not_true, cond_false, show inR (2 : Int) (([a, b, c].length : Nat) : Int) = true from rfl, show inR (0 : Int) (([a, b, c].length : Nat) : Int) = true from rfl, show inR (1 : Int) (([a, b, c].length : Nat) : Int) = true from rfl, show rd (α := ByteArray) ByteArray.empty [a, b, c] (2 : Int) = c from rfl, show rd (α := ByteArray) ByteArray.empty [a, b, c] (0 : Int) = a from rfl, show rd (α := ByteArray) ByteArray.empty [a, b, c] (1 : Int) = b from rfl, e71 (show c.size ≤ 281474976710656 by omega), Option.bind_some, e5]
    have ho : ofrOf [a, b, c] = bif numOk 15 c.data.toList then some (a, b, aVal c, ()) else none := rfl
    rw [ho]
    cases numOk 15 c.data.toList
    · exact .inl ⟨_, rfl, rfl⟩
    · exact .inr ⟨_, rfl, rfl⟩
  · rw [h3, hn]
    exact .inl ⟨_, rfl, rfl⟩
theorem h27 (s : ByteArray) (y : List Ofr × Int × Int × Unit) (hw : WFs A27 (s, ())) (h : s27 s = some y) : ∃ k, f27 s68 s70 s71 s82 k s = some y := by
  unfold s27 at h
  cases h
  clear hw
  refine ⟨200002, ?_⟩
  unfold f27 readOfrs readG
  by_cases hs : s.size > 200000
  · have : decide ((s.size : Int) > 200000) = true := decide_eq_true (by omega)
    rw [this, if_pos hs]
    rfl
  have : decide ((s.size : Int) > 200000) = false := decide_eq_false (by omega)
  rw [this, if_neg hs]
  obtain ⟨L, ends, h1, h2, h3, h4⟩ := read_linesG ofrLine (s := s) (by omega)
  rw [h1]
  simp only [Option.bind_some, cond_false]
  rw [← h4]
  refine ends2 (read_progG (L := L) (ends := ends) (lineF := ofrLine) ?hbad ?hgood ?hend L 0 [] 200002 rfl (Nat.zero_le _) (Nat.le_refl _) (by omega)) ?hq
  case hq =>
    rintro t (⟨i, out, rfl, e⟩ | ⟨out, rfl, e⟩)
    · rw [e]; rfl
    · rw [e]; exact finG out
  case hend => intro out; simp
  case hbad =>
    intro j w out hx ho hb
    have e2 : IntKind.i64.wrap ((L.length : Int) - 1) = (L.length : Int) - 1 := wrap_ok (by omega) (by omega)
    have hj := (List.getElem?_eq_some_iff.1 hx).1
    have hst := oStep_eq (j := j) (out := out) (h3 w (List.mem_of_getElem? hx)) (by omega)
    have hfail : ofrLine w = none → ∃ out', oStep j out w = oFail j out' := fun hn => by
      rcases hst with ⟨out', q, _⟩ | ⟨a, q, _⟩
      · exact ⟨out', q⟩
      · rw [hn] at q; cases q
    simp only [stG, lt_at hx, inR_at hx, rd_at hx, wrap_succ hx (by omega), cond_true, e2]
    cases hc : (!ends && ((j : Int) == (L.length : Int) - 1))
    · have hf : ofrLine w = none := hb.resolve_left (by rw [hc]; simp)
      cases ends
      · rw [show ((j : Int) == (L.length : Int) - 1) = false from by simpa using hc]
        exact hfail hf
      · exact hfail hf
    · rw [Bool.and_eq_true] at hc
      rw [show ends = false from by simpa using hc.1, hc.2]
      exact ⟨_, rfl⟩
  case hgood =>
    intro j w out a hx ho hb hf
    have e2 : IntKind.i64.wrap ((L.length : Int) - 1) = (L.length : Int) - 1 := wrap_ok (by omega) (by omega)
    have hj := (List.getElem?_eq_some_iff.1 hx).1
    have hst := oStep_eq (j := j) (out := out) (h3 w (List.mem_of_getElem? hx)) (by omega)
    have hok : oStep j out w = some (.inl (stG (j + 1) (out ++ [a]))) := by
      rcases hst with ⟨out', _, q⟩ | ⟨b, q, q2⟩
      · rw [hf] at q; cases q
      · rw [hf] at q; cases q; exact q2
    simp only [stG, lt_at hx, inR_at hx, rd_at hx, wrap_succ hx (by omega), cond_true, e2]
    cases ends
    · rw [show ((j : Int) == (L.length : Int) - 1) = false from by simpa using hb]
      exact hok
    · exact hok
theorem h28 (s : ByteArray) (y : List Ofr × Int × Int × Unit) (hw : WFs A28 (s, ())) (h : s28 s = some y) : ∃ k, f28 s23 s50 s51 s85 k s = some y := by
  unfold s28 at h
  cases h
  clear hw
  refine ⟨200002, ?_⟩
  unfold f28 readOfrs readG
  by_cases hs : s.size > 200000
  · have : decide ((s.size : Int) > 200000) = true := decide_eq_true (by omega)
    rw [this, if_pos hs]
    rfl
  have : decide ((s.size : Int) > 200000) = false := decide_eq_false (by omega)
  rw [this, if_neg hs]
  simp only [cond_false]
  refine ends2 (read_refG (lineF := ofrLine) (s := s) (k := 200002) (by omega) (by omega) ?hend ?hopen ?hbad ?hgood) ?hq
  case hq =>
    rintro t (⟨i, out, rfl, e⟩ | ⟨out, rfl, e⟩)
    · rw [e]; rfl
    · rw [e]; exact finG out
  case hend =>
    intro x i out hE
    have e0 : sEq x (ByteArray.mk #[]) = isE x := sEq_empty x
    simp only [stR, e0, hE]
    rfl
  case hopen =>
    intro x i out p hE hx hp
    have e0 : sEq x (ByteArray.mk #[]) = isE x := sEq_empty x
    simp only [stR, e0, hE, Bool.not_false, cond_true, (cutG hx).1 p hp, Option.bind_some]
    exact ⟨_, rfl⟩
  case hbad =>
    intro x i out p q ps hE hx hol hpl hp hf
    have e0 : sEq x (ByteArray.mk #[]) = isE x := sEq_empty x
    simp only [stR, e0, hE, Bool.not_false, cond_true, (cutG hx).2 p q ps hp, Option.bind_some, Bool.not_true, cond_false, e50 hpl]
    have hsm := split_small hpl
    have e5 : ∀ a : Ofr, decide (out.length + [a].length ≤ 4294967296) = true := fun a => decide_eq_true (by rw [List.length_singleton]; omega)
    generalize (⟨p.toArray⟩ : ByteArray) = w at hf hpl hsm ⊢
    cases hW : (splitL w sp).any isE
    rotate_left
    · exact ⟨_, rfl⟩
    rw [ofr_line hW] at hf
    simp only [Bool.not_false, Bool.not_true, cond_false]
    rcases three_cases (splitL w sp) with ⟨a, b, c, he⟩ | ⟨h3, hn⟩
    · rw [he] at hsm hf ⊢
      have hc := hsm c (by simp)
      have ho : ofrOf [a, b, c] = bif numOk 15 c.data.toList then some (a, b, aVal c, ()) else none := rfl
      rw [ho] at hf
      simp only [show ((([a, b, c].length : Nat) : Int) != 3) = false from rfl, cond_true, Bool.not_true, cond_false, show inR (2 : Int) (([a, b, c].length : Nat) : Int) = true from rfl, show inR (0 : Int) (([a, b, c].length : Nat) : Int) = true from rfl, show inR (1 : Int) (([a, b, c].length : Nat) : Int) = true from rfl, show rd (α := ByteArray) ByteArray.empty [a, b, c] (2 : Int) = c from rfl, show rd (α := ByteArray) ByteArray.empty [a, b, c] (0 : Int) = a from rfl, show rd (α := ByteArray) ByteArray.empty [a, b, c] (1 : Int) = b from rfl, e51 (show c.size ≤ 281474976710656 by omega), Option.bind_some, e5]
      cases hk : numOk 15 c.data.toList
      · rw [hk] at hf
        exact ⟨_, rfl⟩
      · rw [hk] at hf
        cases hf
    · rw [show (((splitL w sp).length : Int) != 3) = true from by rw [bne, h3]; rfl]
      exact ⟨_, rfl⟩
  case hgood =>
    intro x i out p q ps ast hE hx hol hil hpl hp hf
    have e0 : sEq x (ByteArray.mk #[]) = isE x := sEq_empty x
    simp only [stR, e0, hE, Bool.not_false, cond_true, (cutG hx).2 p q ps hp, Option.bind_some, Bool.not_true, cond_false, e50 hpl]
    have hsm := split_small hpl
    have e5 : ∀ a : Ofr, decide (out.length + [a].length ≤ 4294967296) = true := fun a => decide_eq_true (by rw [List.length_singleton]; omega)
    generalize (⟨p.toArray⟩ : ByteArray) = w at hf hpl hsm ⊢
    cases hW : (splitL w sp).any isE
    rotate_left
    · rw [ofr_empty hW] at hf
      cases hf
    rw [ofr_line hW] at hf
    simp only [Bool.not_false, Bool.not_true, cond_false]
    rcases three_cases (splitL w sp) with ⟨a, b, c, he⟩ | ⟨h3, hn⟩
    · rw [he] at hsm hf ⊢
      have hc := hsm c (by simp)
      have ho : ofrOf [a, b, c] = bif numOk 15 c.data.toList then some (a, b, aVal c, ()) else none := rfl
      rw [ho] at hf
      simp only [show ((([a, b, c].length : Nat) : Int) != 3) = false from rfl, cond_true, Bool.not_true, cond_false, show inR (2 : Int) (([a, b, c].length : Nat) : Int) = true from rfl, show inR (0 : Int) (([a, b, c].length : Nat) : Int) = true from rfl, show inR (1 : Int) (([a, b, c].length : Nat) : Int) = true from rfl, show rd (α := ByteArray) ByteArray.empty [a, b, c] (2 : Int) = c from rfl, show rd (α := ByteArray) ByteArray.empty [a, b, c] (0 : Int) = a from rfl, show rd (α := ByteArray) ByteArray.empty [a, b, c] (1 : Int) = b from rfl, e51 (show c.size ≤ 281474976710656 by omega), Option.bind_some, e5]
      cases hk : numOk 15 c.data.toList
      · rw [hk] at hf
        cases hf
      · rw [hk] at hf
        cases hf
        rw [rVal_ok hk, show IntKind.i64.wrap ((i : Int) + 1) = ((i + 1 : Nat) : Int) by rw [wrap_ok (by omega) (by omega)]; omega]
        rfl
    · rw [show (((splitL w sp).length : Int) != 3) = true from by rw [bne, h3]; rfl]
      rw [hn] at hf
      cases hf
end Go.Vm
