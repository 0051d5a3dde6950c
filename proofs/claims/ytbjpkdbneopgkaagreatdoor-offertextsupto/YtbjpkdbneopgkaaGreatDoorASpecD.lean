/- Words, numbers, lines (shown at other seats before; renumbered). Own work. -/
import Derived.Test.YtbjpkdbneopgkaaGreatDoorASpecC
import Derived.Test.YtbjpkdbneopgkaaGreatDoorASplit
import Derived.Lib.Join
import Derived.Lib.ItoaLen
set_option linter.unusedVariables false
set_option linter.unusedSimpArgs false
set_option maxRecDepth 100000
namespace Go.Vm
open Go.RowKit Go.Vm.Num
theorem numeral_size (n : Int) (h0 : -9223372036854775808 ≤ n) (h1 : n ≤ 9223372036854775807) : 1 ≤ (numeral n).size ∧ (numeral n).size ≤ 21 := by
  have h2 := Lib.itoa_length_le n h0 h1
  have e : (numeral n).size = (Lib.itoa n).length := by show (Lib.itoa n).toArray.size = _; rw [List.size_toArray]
  rw [e]
  refine ⟨?_, Nat.le_trans h2 (by omega)⟩
  unfold Lib.itoa
  split
  · simp
  · rw [Lib.decDigits_length]; exact Lib.nDigits_pos _
abbrev sp : ByteArray := ByteArray.mk #[32]
abbrev nl : ByteArray := ByteArray.mk #[10]
def inI (n : Int) : Bool := decide (-9223372036854775808 ≤ n) && decide (n ≤ 9223372036854775807)
def s36 (l : List Int) : Option (ByteArray × Unit) :=
  if l.length ≤ 4294967296 ∧ l.all inI = true ∧ (joinL (l.map numeral) sp).size ≤ 140737488355328 then some (joinL (l.map numeral) sp, ()) else none
theorem foldl_map {α β : Type} (g : α → β) : ∀ (l : List α) (b : List β), l.foldl (fun b x => b ++ [g x]) b = b ++ l.map g
  | [], b => by simp
  | x :: l, b => by rw [List.foldl_cons, foldl_map g l, List.map_cons]; simp
theorem s107_in {n : Int} (h : inI n = true) : s39 n = some (numeral n, ()) := by
  unfold inI at h
  simp only [Bool.and_eq_true, decide_eq_true_eq] at h
  unfold s39 s79
  rw [if_pos h]
theorem h36 (l : List Int) (y : ByteArray × Unit) (hw : WFs A36 (l, ())) (h : s36 l = some y) : ∃ k, f36 s39 s42 k l = some y := by
  unfold s36 at h
  split at h
  rotate_left
  · cases h
  rename_i hn
  cases h
  clear hw
  refine ⟨l.length + 1, ?_⟩
  unfold f36
  rw [iter_fold (s0 := (([], (0 : Int), ()), ())) l (fun i (b : List ByteArray) => ((b, (i : Int), ()), ())) (fun x b => b ++ [numeral x]) (fun b => .inr ((b, ()), ())) (fun j b => b.length ≤ j) [] (Nat.le_refl _) rfl (by omega) ?hJ ?h1 ?h2]
  · simp only [Option.bind_some]
    rw [foldl_map, List.nil_append]
    unfold s42
    rw [if_pos ⟨by rw [List.length_map]; omega, hn.2.2⟩]
    rfl
  case hJ =>
    intro j x b hx hb
    simp only [List.length_append, List.length_singleton]
    omega
  case h2 => intro b _; simp
  case h1 =>
    intro j x b hx hb
    have hj := (List.getElem?_eq_some_iff.1 hx).1
    have e := s107_in (List.all_eq_true.1 hn.2.1 x (List.mem_of_getElem? hx))
    have e5 : decide (b.length + [numeral x].length ≤ 4294967296) = true := decide_eq_true (by rw [List.length_singleton]; omega)
    simp only [lt_at hx, inR_at hx, rd_at hx, wrap_succ hx (by omega), cond_true, e, Option.bind_some, e5]
def s8 (x : ByteArray) (e : Int) : ByteArray × Int × Unit :=
  bif e != 0 then ((ByteArray.mk #[]), e, ()) else bif decide (((x.size : Nat) : Int) > (200000 : Int)) then ((ByteArray.mk #[]), 2, ()) else (x, 0, ())
theorem h8 (x : ByteArray) (e : Int) (hw : WFs A8 (x, e, ())) : ∃ k, f8 k x e = some (s8 x e) := ⟨0, by
  unfold f8 s8
  cases e != 0
  · simp only [cond_false]
    cases decide (((x.size : Nat) : Int) > (200000 : Int)) <;> rfl
  · rfl⟩
theorem h108 (l : List Int) (hw : WFs A108 (l, ())) : ∃ k, f108 k l = some (s108 l, ()) := by
  simp only [WFs, WF] at hw
  refine ⟨l.length + 1, ?_⟩
  unfold f108
  rw [iter_scan0 (β := Unit) l (fun j _ => (((j : Int), ()), ())) (fun _ x _ => nzBody x) (fun _ => .inr ((), ())) () ?hs ?hk ?h1 ?h2]
  · exact nz_scan l 0
  case hs => rfl
  case hk => exact Nat.lt_succ_self _
  · intro j x b hx
    simp only [lt_at hx, inR_at hx, rd_at hx, wrap_succ hx hw.1.1, cond_true, nzBody]
    cases (x != 0) <;> rfl
  · intro b
    simp
/-! ### Words -/
def isE (w : ByteArray) : Bool := w.data.toList.isEmpty
theorem isE_sEq (w : ByteArray) : sEq (ByteArray.mk #[]) w = isE w := by
  unfold sEq isE
  rw [ByteArray.toList_eq, ByteArray.toList_eq]
  cases w.data.toList <;> rfl
theorem pieces_len (c : UInt8) : ∀ l : List UInt8, (pieces c l).length ≤ l.length + 1
  | [] => by simp [pieces]
  | b :: l => by
    have ih := pieces_len c l
    unfold pieces
    split
    · simp only [List.length_cons]; omega
    · split
      · simp
      · rename_i h
        rw [h] at ih
        simp only [List.length_cons] at ih ⊢
        omega
theorem splitL_len (c : UInt8) (s : ByteArray) : (splitL s ⟨#[c]⟩).length ≤ s.size + 1 := by
  rw [splitL_one, piecesB, List.length_map, ← bytes_size]
  exact pieces_len _ _
theorem s116_one {s : ByteArray} {c : UInt8} (h : s.size < 4294967281) : s86 s ⟨#[c]⟩ = some (splitL s ⟨#[c]⟩, ()) := by
  unfold s86
  rw [if_pos ⟨h, Nat.le_refl _⟩]
def wordsOk (ws : List ByteArray) (n : Int) : Bool := ((ws.length : Int) == n) && !ws.any isE
def s70 (s : ByteArray) (n : Int) : Option (List ByteArray × Bool × Unit) := if s.size < 4294967281 then some (bif wordsOk (splitL s sp) n then (splitL s sp, true, ()) else ([], false, ())) else none
theorem h70 (s : ByteArray) (n : Int) (y : List ByteArray × Bool × Unit) (hw : WFs A70 (s, n, ())) (h : s70 s n = some y) : ∃ k, f70 s86 k s n = some y := by
  unfold s70 at h
  split at h
  rotate_left
  · cases h
  rename_i hr
  cases h
  have hl := splitL_len 32 s
  refine ⟨s.size + 2, ?_⟩
  unfold f70
  rw [s116_one hr]
  simp only [Option.bind_some]
  generalize splitL s sp = ws at hl ⊢
  unfold wordsOk
  cases hn : ((ws.length : Int) == n)
  · have : ((ws.length : Int) != n) = true := by rw [bne, hn]; rfl
    rw [this]
    rfl
  have : ((ws.length : Int) != n) = false := by rw [bne, hn]; rfl
  rw [this]
  simp only [cond_false, Bool.true_and]
  rw [iter_any (s0 := (((0 : Int), ()), ())) ws (fun j => (((j : Int), ()), ())) isE (.inl ([], false, ())) (.inr ((), ())) rfl (by omega)
    (fun j w hj => by
      have e : sEq w (ByteArray.mk #[]) = isE w := sEq_empty w
      simp only [lt_at hj, inR_at hj, rd_at hj, wrap_succ hj (by omega), cond_true, e]
      cases isE w <;> rfl)
    (by simp)]
  cases ws.any isE <;> rfl
/-! ### a list whose elements are read, or not -/
def small (l : List ByteArray) : Prop := l.length ≤ 4294967296 ∧ ∀ w ∈ l, w.size ≤ 281474976710656
instance (l : List ByteArray) : Decidable (small l) := by unfold small; infer_instance
/-- what the reference reads: 0 where there is none -/
def rVal (lim : Int) (w : ByteArray) : Int := bif digs lim w.data.toList then aVal w else 0
/-! ### Lines -/
def s172 (s t : ByteArray) : Bool := decide (t.size ≤ s.size) && sEq (s.extract (s.size - t.size) s.size) t
theorem h172 (s t : ByteArray) (hw : WFs A172 (s, t, ())) : ∃ k, f172 k s t = some (s172 s t, ()) := by
  simp only [WFs, WF] at hw
  refine ⟨0, ?_⟩
  unfold f172 s172
  by_cases h : t.size ≤ s.size
  · have e1 : decide ((s.size : Int) ≥ (t.size : Int)) = true := decide_eq_true (by omega)
    have e0 : IntKind.i64.wrap ((s.size : Int) - (t.size : Int)) = ((s.size - t.size : Nat) : Int) := by rw [wrap_ok (by omega) (by omega)]; omega
    have e2 : decide ((0 : Int) ≤ ((s.size - t.size : Nat) : Int)) = true := decide_eq_true (by omega)
    have e3 : decide (((s.size - t.size : Nat) : Int) ≤ (s.size : Int)) = true := decide_eq_true (by omega)
    have e4 : decide ((s.size : Int) ≤ (s.size : Int)) = true := decide_eq_true (by omega)
    simp only [e0, e1, e2, e3, e4, cond_true, Int.toNat_natCast, decide_eq_true h, Bool.true_and]
  · have e1 : decide ((s.size : Int) ≥ (t.size : Int)) = false := decide_eq_false (by omega)
    simp only [e1, cond_false, decide_eq_false h, Bool.false_and]
def s145 (s t : ByteArray) : ByteArray × Bool × Unit := bif s172 s t then (s.extract 0 (s.size - t.size), true, ()) else (s, false, ())
theorem h145 (s t : ByteArray) (hw : WFs A145 (s, t, ())) : ∃ k, f145 s172 k s t = some (s145 s t) := by
  simp only [WFs, WF] at hw
  refine ⟨0, ?_⟩
  unfold f145 s145
  cases h : s172 s t
  · rfl
  · have h1 : t.size ≤ s.size := by
      unfold s172 at h
      rw [Bool.and_eq_true] at h
      exact of_decide_eq_true h.1
    have e0 : IntKind.i64.wrap ((s.size : Int) - (t.size : Int)) = ((s.size - t.size : Nat) : Int) := by rw [wrap_ok (by omega) (by omega)]; omega
    have e1 : decide ((0 : Int) ≤ 0) = true := rfl
    have e2 : decide ((0 : Int) ≤ ((s.size - t.size : Nat) : Int)) = true := decide_eq_true (by omega)
    have e3 : decide (((s.size - t.size : Nat) : Int) ≤ (s.size : Int)) = true := decide_eq_true (by omega)
    simp only [e0, e1, e2, e3, Bool.not_true, cond_false, cond_true, Int.toNat_natCast, Int.toNat_zero, Bool.true_and]
def s113 := s145
theorem h113 (s t : ByteArray) (hw : WFs A113 (s, t, ())) : ∃ k, f113 s145 k s t = some (s113 s t) := ⟨0, rfl⟩
def s82 (s : ByteArray) : Option (List ByteArray × Bool × Unit) :=
  if s.size < 4294967281 then some (bif isE s then ([], true, ()) else (splitL (s113 s nl).1 nl, (s113 s nl).2.1, ())) else none
theorem s194_size (s t : ByteArray) : (s113 s t).1.size ≤ s.size := by
  unfold s113 s145
  cases s172 s t
  · exact Nat.le_refl _
  · exact extract_size_le _ _ _
theorem h82 (s : ByteArray) (y : List ByteArray × Bool × Unit) (hw : WFs A82 (s, ())) (h : s82 s = some y) : ∃ k, f82 s86 s113 k s = some y := ⟨0, by
  unfold s82 at h
  split at h
  rotate_left
  · cases h
  rename_i hr
  cases h
  unfold f82
  have e : sEq s (ByteArray.mk #[]) = isE s := sEq_empty s
  have := s194_size s (ByteArray.mk #[10])
  rw [e]
  cases isE s
  · rw [s116_one (by omega)]; rfl
  · rfl⟩
theorem lines_end {s : ByteArray} {l : List UInt8} (h : s.data.toList = l ++ [10]) : s113 s nl = (⟨l.toArray⟩, true, ()) := by
  have hs : s.size = l.length + 1 := by rw [← bytes_size, h]; simp
  have hn : nl.size = 1 := rfl
  have e1 : (s.extract l.length (l.length + 1)) = nl := bytes_of (by
    rw [ByteArray.data_extract, Array.toList_extract, h, List.extract_eq_take_drop, List.drop_left, Nat.add_sub_cancel_left]; rfl)
  have e2 : s.extract 0 l.length = ⟨l.toArray⟩ := bytes_of (by
    rw [ByteArray.data_extract, Array.toList_extract, h, List.extract_eq_take_drop]
    simp)
  unfold s113 s145 s172
  rw [hn, hs, Nat.add_sub_cancel, e1, e2, sEq_iff.2 rfl, decide_eq_true (by omega)]
  rfl
theorem lines_open {s : ByteArray} {l : List UInt8} {c : UInt8} (h : s.data.toList = l ++ [c]) (hc : c ≠ 10) : s113 s nl = (s, false, ()) := by
  have hs : s.size = l.length + 1 := by rw [← bytes_size, h]; simp
  have hn : nl.size = 1 := rfl
  have e1 : (s.extract l.length (l.length + 1)).data.toList = [c] := by
    rw [ByteArray.data_extract, Array.toList_extract, h, List.extract_eq_take_drop, List.drop_left, Nat.add_sub_cancel_left]; rfl
  have e2 : sEq (s.extract l.length (l.length + 1)) nl = false := by
    rw [← Bool.not_eq_true, sEq_iff]
    intro e
    rw [e] at e1
    simp at e1
    exact hc e1.symm
  unfold s113 s145 s172
  rw [hn, hs, Nat.add_sub_cancel, e2, Bool.and_false]
  rfl
end Go.Vm

namespace Go.Vm.Gain
end Go.Vm.Gain

/- What the functions of BatteriesGain come to. Own work. -/
namespace Go.Vm
open Go.RowKit
end Go.Vm

/- Lists that are checked. Own work. -/
namespace Go.Vm
open Go.RowKit
end Go.Vm

/- Needs by halving; the law. Own work. -/
namespace Go.Vm
open Go.RowKit Go.Vm.Gain
end Go.Vm

/- LevelsReckoned: what is wrong with trips and charges. Own work. -/
namespace Go.Vm
open Go.RowKit Go.Vm.Gain
end Go.Vm

/- LevelsReckoned, the law. Own work. -/
namespace Go.Vm
open Go.RowKit Go.Vm.Gain
end Go.Vm

/- ShiftsCovered: the law. Own work. -/
namespace Go.Vm
open Go.RowKit Go.Vm.Gain
end Go.Vm

/- DeedsMerge: small functions; what is wrong with a deed; their order. Own work. -/
namespace Go.Vm
open Go.RowKit Go.Vm.Gain
theorem sEq_self (a : ByteArray) : sEq a a = true := sEq_iff.2 rfl
def s76 (a b : ByteArray) : Int := cmpS a b
theorem h76 (a b : ByteArray) (hw : WFs A76 (a, b, ())) : ∃ k, f76 s104 k a b = some (s76 a b, ()) := ⟨0, rfl⟩
end Go.Vm

/- DeedsMerge: what is wrong with deeds. Own work. -/
namespace Go.Vm
open Go.RowKit Go.Vm.Gain
section
variable {α : Type}
def ordP (ord : α → α → Bool) (p : Option α) (x : α) : Bool := match p with | none => false | some o => ord o x
/-- each by itself, and with the one before -/
def chkP (bad : α → Int) (ord : α → α → Bool) : Option α → List α → Int
  | _, [] => 0
  | p, x :: l => bif bad x != 0 then bad x else bif ordP ord p x then 7 else chkP bad ord (some x) l
def chkPB (bad : α → Int) (ord : α → α → Bool) (x : α) (p : Option α) : Option α ⊕ ((Int × Unit) ⊕ (Unit × Unit)) :=
  bif bad x != 0 then .inr (.inl (bad x, ())) else bif ordP ord p x then .inr (.inl (7, ())) else .inl (some x)
theorem chkP_scan (bad : α → Int) (ord : α → α → Bool) : ∀ (l : List α) (j : Nat) (p : Option α), scan (fun _ => chkPB bad ord) (fun _ => .inr ((), ())) l j p = bif chkP bad ord p l != 0 then .inl (chkP bad ord p l, ()) else .inr ((), ())
  | [], j, p => rfl
  | x :: l, j, p => by
    simp only [scan, chkPB, chkP]
    cases h : bad x != 0
    · simp only [cond_false]
      cases h2 : ordP ord p x
      · simp only [cond_false]
        exact chkP_scan bad ord l (j + 1) (some x)
      · rfl
    · simp only [cond_true, h]
/-- the one before -/
def PJ (xs : List α) (j : Nat) (p : Option α) : Prop := (j = 0 ∧ p = none) ∨ ∃ o, 0 < j ∧ xs[j - 1]? = some o ∧ p = some o
theorem iter_chkP {xs : List α} {f : (Int × Unit) × Unit → Option (((Int × Unit) × Unit) ⊕ ((Int × Unit) ⊕ (Unit × Unit)))} (bad : α → Int) (ord : α → α → Bool)
    (h1 : ∀ (j : Nat) (x : α) (p : Option α), xs[j]? = some x → PJ xs j p → f (((j : Int), ()), ()) = some (match chkPB bad ord x p with | .inl _ => .inl ((((j + 1 : Nat) : Int), ()), ()) | .inr t => .inr t))
    (h2 : f (((xs.length : Int), ()), ()) = some (.inr (.inr ((), ())))) :
    iter (xs.length + 1) f (((0 : Int), ()), ()) = some (bif chkP bad ord none xs != 0 then .inl (chkP bad ord none xs, ()) else .inr ((), ())) := by
  rw [iter_scanI (s0 := (((0 : Int), ()), ())) (k := xs.length + 1) (β := Option α) xs (fun j _ => (((j : Int), ()), ())) (fun _ => chkPB bad ord) (fun _ => .inr ((), ())) (PJ xs) none (.inl ⟨rfl, rfl⟩) rfl (Nat.lt_succ_self _) ?_ ?_ (fun _ _ => h2), chkP_scan]
  · intro j x b b' hx _ h
    refine .inr ⟨x, Nat.succ_pos _, by simpa using hx, ?_⟩
    unfold chkPB at h
    cases h3 : bad x != 0 <;> rw [h3] at h
    · cases h4 : ordP ord b x <;> rw [h4] at h
      · cases h; rfl
      · cases h
    · cases h
  · intro j x b hx hJ
    rw [h1 j x b hx hJ]
    cases chkPB bad ord x b <;> rfl
theorem chkP_congr {bad : α → Int} {o1 o2 : α → α → Bool} (h : ∀ o x, bad o = 0 → bad x = 0 → o1 o x = o2 o x) : ∀ (l : List α) (p : Option α), (∀ o, p = some o → bad o = 0) → chkP bad o1 p l = chkP bad o2 p l
  | [], p, _ => rfl
  | x :: l, p, hp => by
    simp only [chkP]
    cases hb : bad x != 0
    · have hx : bad x = 0 := by simpa using hb
      have : ordP o1 p x = ordP o2 p x := by
        cases p with
        | none => rfl
        | some o => exact h o x (hp o rfl) hx
      rw [this, chkP_congr h l (some x) (fun o e => by cases e; exact hx)]
    · rfl
theorem chkP_all {bad : α → Int} {ord : α → α → Bool} : ∀ (l : List α) (p : Option α), chkP bad ord p l = 0 → ∀ x ∈ l, bad x = 0
  | [], p, _, x, hx => by cases hx
  | y :: l, p, h, x, hx => by
    simp only [chkP] at h
    cases hb : bad y != 0 <;> rw [hb] at h
    · cases h2 : ordP ord p y <;> rw [h2] at h
      · rcases List.mem_cons.1 hx with rfl | hx
        · simpa using hb
        · exact chkP_all l _ h x hx
      · cases h
    · simp only [cond_true] at h
      simp [h] at hb
end
section
variable {α κ : Type} {eq : κ → κ → Bool} (heq : ∀ a b, eq a b = true ↔ a = b) (nm : α → κ)
end
end Go.Vm

/- DeedsMerge: the reference's merge, and writing. Own work. -/
namespace Go.Vm
open Go.RowKit Go.Vm.Gain
end Go.Vm

/- RatingsScored: small functions; what is wrong with ratings, and with people. Own work. -/
namespace Go.Vm
open Go.RowKit Go.Vm.Gain
theorem less_cmp : ∀ a b : List UInt8, Op.bytesLess a b = decide (Lib.compareBytes a b < 0)
  | [], [] => rfl
  | [], _ :: _ => rfl
  | _ :: _, [] => rfl
  | a :: x, b :: y => by
    simp only [Op.bytesLess, Lib.compareBytes]
    by_cases h : a < b
    · simp [h]
    · by_cases h2 : b < a
      · have : (a == b) = false := by
          rw [beq_eq_false_iff_ne]
          rintro rfl
          exact h h2
        simp [h, h2, this]
      · have : a = b := by
          rw [UInt8.lt_iff_toNat_lt] at h h2
          exact UInt8.toNat_inj.1 (by omega)
        subst this
        simp [h, less_cmp x y]
theorem sLt_cmp (a b : ByteArray) : sLt a b = decide (cmpS a b < 0) := by
  unfold sLt cmpS
  rw [ByteArray.toList_eq, ByteArray.toList_eq, less_cmp]
theorem cmp_vals : ∀ a b : List UInt8, Lib.compareBytes a b = -1 ∨ Lib.compareBytes a b = 0 ∨ Lib.compareBytes a b = 1
  | [], [] => by simp [Lib.compareBytes]
  | [], _ :: _ => by simp [Lib.compareBytes]
  | _ :: _, [] => by simp [Lib.compareBytes]
  | a :: x, b :: y => by
    simp only [Lib.compareBytes]
    have := cmp_vals x y
    split
    · simp
    · split
      · simp
      · exact this
theorem cmpS_vals (a b : ByteArray) : cmpS a b = -1 ∨ cmpS a b = 0 ∨ cmpS a b = 1 := cmp_vals _ _
def hasS (l : List ByteArray) (x : ByteArray) : Bool := l.any (sEq x ·)
theorem hasS_iff {l : List ByteArray} {x : ByteArray} : hasS l x = true ↔ x ∈ l := by
  unfold hasS
  rw [List.any_eq_true]
  constructor
  · rintro ⟨y, hy, h⟩
    rw [sEq_iff.1 h]; exact hy
  · exact fun h => ⟨x, h, sEq_self x⟩
def s52 (l : List ByteArray) (x : ByteArray) : Int := match l.findIdx? (fun y => sEq x y) with | some i => (i : Int) | none => -1
theorem h52 (l : List ByteArray) (x : ByteArray) (hw : WFs A52 (l, x, ())) : ∃ k, f52 k l x = some (s52 l x, ()) := by
  simp only [WFs, WF] at hw
  have hl : l.length ≤ 9223372036854775807 := hw.1.1
  clear hw
  refine ⟨l.length + 1, ?_⟩
  unfold f52 s52
  rw [iter_find (s0 := (((0 : Int), ()), ())) l (fun i => (((i : Int), ()), ())) (fun y => sEq x y) (fun i => .inl ((i : Int), ())) (.inr ((), ())) rfl (Nat.lt_succ_self _) ?a3 ?a4]
  case a4 => simp
  case a3 =>
    intro j y hy
    simp only [lt_at hy, inR_at hy, rd_at hy, wrap_succ hy hl, cond_true]
    cases sEq x y <;> rfl
  cases l.findIdx? (fun y => sEq x y) <;> rfl
def s87 (l : List ByteArray) (x : ByteArray) : Bool := hasS l x
theorem h87 (l : List ByteArray) (x : ByteArray) (hw : WFs A87 (l, x, ())) : ∃ k, f87 s52 k l x = some (s87 l x, ()) := ⟨0, by
  unfold f87 s52 s87
  cases h : l.findIdx? (fun y => sEq x y) with
  | none =>
    rw [decide_eq_false (by decide), show hasS l x = false from by
      rw [← Bool.not_eq_true, hasS_iff]
      intro hm
      have := List.findIdx?_eq_none_iff.1 h x hm
      rw [sEq_self] at this; cases this]
  | some i =>
    rw [decide_eq_true (by simp), show hasS l x = true from by
      rw [hasS_iff]
      obtain ⟨hi, h1, _⟩ := List.findIdx?_eq_some_iff_getElem.1 h
      rw [sEq_iff.1 h1]
      exact List.getElem_mem hi]⟩
end Go.Vm

/- RatingsScored: ratings of two lists. Own work. -/
namespace Go.Vm
open Go.RowKit Go.Vm.Gain
end Go.Vm

/- RatingsScored: fractions. Own work. -/
namespace Go.Vm
open Go.RowKit Go.Vm.Gain
end Go.Vm

/- RatingsScored: the ratings that count, and their sums. Own work. -/
namespace Go.Vm
open Go.RowKit Go.Vm.Gain
end Go.Vm

/- RatingsScored: scores. Own work. -/
namespace Go.Vm
open Go.RowKit Go.Vm.Gain
end Go.Vm

/- RatingsScored: people by their scores. Own work. -/
namespace Go.Vm
open Go.RowKit Go.Vm.Gain
end Go.Vm
