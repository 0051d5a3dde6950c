/- DeedsMerge: small functions; what is wrong with a deed; their order. Own work. -/
import Derived.Test.YtfiembgemhonlaaDFn
import Derived.Test.YtfiembgemhonlaaDHand
import Derived.Test.YtfiembgemhonlaaSSp
import Derived.Test.YtfiembgemhonlaaVmQ
import Derived.Test.YtfiembgemhonlaaVmD
set_option linter.unusedVariables false
set_option linter.unusedSimpArgs false
namespace Go.Vm
open Go.RowKit Go.Vm.Gain
abbrev Rd : Type := ByteArray × ByteArray × ByteArray × ByteArray × Int × Int × Int × Int × Unit
abbrev Cr : Type := ByteArray × Int × Int × Unit
abbrev Dd : Type := ByteArray × Int × Int × Int × ByteArray × ByteArray × Cr × Rd × Unit
abbrev dSite (d : Dd) : ByteArray := d.1
abbrev dNo (d : Dd) : Int := d.2.1
abbrev dAt (d : Dd) : Int := d.2.2.1
theorem sEq_self (a : ByteArray) : sEq a a = true := sEq_iff.2 rfl
/-! ### strings.Compare -/
def s129 (a b : ByteArray) : Int := cmpS a b
theorem h129 (a b : ByteArray) (hw : WFs A129 (a, b, ())) : ∃ k, f129 s211 k a b = some (s129 a b, ()) := ⟨0, rfl⟩
def s227 (n : Int) : Int := if n < 0 then -1 else if n > 0 then 1 else 0
theorem h227 (n : Int) (hw : WFs A227 (n, ())) : ∃ k, f227 k n = some (s227 n, ()) := ⟨0, by
  unfold f227 s227
  by_cases h : n < 0
  · simp [h]
  · by_cases h2 : n > 0 <;> simp [h, h2]⟩
/-! ### rides -/
theorem cond_one {α : Type} (b : Bool) (x y : α) : (bif b then (some (x, ()) : Option (α × Unit)) else some (y, ())) = some (bif b then x else y, ()) := by cases b <;> rfl
/-! ### deeds -/
/-! ### their order -/
theorem nz_lex (a b c : Int) : nz [a, b, c] = if a = 0 then (if b = 0 then c else b) else a := by
  simp only [nz]
  by_cases ha : a = 0
  · by_cases hb : b = 0
    · by_cases hc : c = 0 <;> simp [ha, hb, hc]
    · simp [ha, hb]
  · simp [ha]
/-- a deed whose numbers are moderate -/
def Small (d : Dd) : Prop := 0 ≤ dAt d ∧ dAt d < 345686400000 ∧ 0 ≤ dNo d ∧ dNo d ≤ 1000001
theorem sub_sign {a b : Int} (h1 : 0 ≤ a) (h2 : a < 345686400000) (h3 : 0 ≤ b) (h4 : b < 345686400000) : s227 (IntKind.i64.wrap (a - b)) = cmpI a b := by
  rw [wrap_ok (by omega) (by omega)]
  unfold s227 cmpI
  by_cases h : a < b
  · rw [if_pos (by omega), if_pos h]
  · rw [if_neg (by omega), if_neg h]
    by_cases h' : a > b
    · rw [if_pos (by omega), if_pos h']
    · rw [if_neg (by omega), if_neg h']
theorem cond_zero {b : Bool} {x y : Int} (h : (bif b then x else y) = 0) (hx : x ≠ 0) : b = false ∧ y = 0 := by
  cases b
  · exact ⟨rfl, h⟩
  · exact absurd h hx
theorem outd_false {a b c : Int} (h : s114 a b c = false) : b ≤ a ∧ a ≤ c := by
  unfold s114 at h
  simp only [Bool.or_eq_false_iff, decide_eq_false_iff_not] at h
  omega
end Go.Vm

/- DeedsMerge: what is wrong with deeds. Own work. -/
set_option linter.unusedVariables false
set_option linter.unusedSimpArgs false
namespace Go.Vm
open Go.RowKit Go.Vm.Gain
section
variable {α : Type}
def ordP (ord : α → α → Bool) (p : Option α) (x : α) : Bool := match p with | none => false | some o => ord o x
/-- each by itself, and with the one before -/
def chkP (bad : α → Int) (ord : α → α → Bool) : Option α → List α → Int
  | _, [] => 0
  | p, x :: l => bif bad x != 0 then bad x else bif ordP ord p x then 7 else chkP bad ord (some x) l
def chkPB (bad : α → Int) (ord : α → α → Bool) (x : α) (p : Option α) : Option α ⊕ ((Int × Unit) ⊕ (Unit × Unit)) :=
  bif bad x != 0 then .inr (.inl (bad x, ())) else bif ordP ord p x then .inr (.inl (7, ())) else .inl (some x)
theorem chkP_scan (bad : α → Int) (ord : α → α → Bool) : ∀ (l : List α) (j : Nat) (p : Option α), scan (fun _ => chkPB bad ord) (fun _ => .inr ((), ())) l j p = bif chkP bad ord p l != 0 then .inl (chkP bad ord p l, ()) else .inr ((), ())
  | [], j, p => rfl
  | x :: l, j, p => by
    simp only [scan, chkPB, chkP]
    cases h : bad x != 0
    · simp only [cond_false]
      cases h2 : ordP ord p x
      · simp only [cond_false]
        exact chkP_scan bad ord l (j + 1) (some x)
      · rfl
    · simp only [cond_true, h]
/-- the one before -/
def PJ (xs : List α) (j : Nat) (p : Option α) : Prop := (j = 0 ∧ p = none) ∨ ∃ o, 0 < j ∧ xs[j - 1]? = some o ∧ p = some o
theorem iter_chkP {xs : List α} {f : (Int × Unit) × Unit → Option (((Int × Unit) × Unit) ⊕ ((Int × Unit) ⊕ (Unit × Unit)))} (bad : α → Int) (ord : α → α → Bool)
    (h1 : ∀ (j : Nat) (x : α) (p : Option α), xs[j]? = some x → PJ xs j p → f (((j : Int), ()), ()) = some (match chkPB bad ord x p with | .inl _ => .inl ((((j + 1 : Nat) : Int), ()), ()) | .inr t => .inr t))
    (h2 : f (((xs.length : Int), ()), ()) = some (.inr (.inr ((), ())))) :
    iter (xs.length + 1) f (((0 : Int), ()), ()) = some (bif chkP bad ord none xs != 0 then .inl (chkP bad ord none xs, ()) else .inr ((), ())) := by
  rw [iter_scanI (s0 := (((0 : Int), ()), ())) (k := xs.length + 1) (β := Option α) xs (fun j _ => (((j : Int), ()), ())) (fun _ => chkPB bad ord) (fun _ => .inr ((), ())) (PJ xs) none (.inl ⟨rfl, rfl⟩) rfl (Nat.lt_succ_self _) ?_ ?_ (fun _ _ => h2), chkP_scan]
  · intro j x b b' hx _ h
    refine .inr ⟨x, Nat.succ_pos _, by simpa using hx, ?_⟩
    unfold chkPB at h
    cases h3 : bad x != 0 <;> rw [h3] at h
    · cases h4 : ordP ord b x <;> rw [h4] at h
      · cases h; rfl
      · cases h
    · cases h
  · intro j x b hx hJ
    rw [h1 j x b hx hJ]
    cases chkPB bad ord x b <;> rfl
theorem chkP_congr {bad : α → Int} {o1 o2 : α → α → Bool} (h : ∀ o x, bad o = 0 → bad x = 0 → o1 o x = o2 o x) : ∀ (l : List α) (p : Option α), (∀ o, p = some o → bad o = 0) → chkP bad o1 p l = chkP bad o2 p l
  | [], p, _ => rfl
  | x :: l, p, hp => by
    simp only [chkP]
    cases hb : bad x != 0
    · have hx : bad x = 0 := by simpa using hb
      have : ordP o1 p x = ordP o2 p x := by
        cases p with
        | none => rfl
        | some o => exact h o x (hp o rfl) hx
      rw [this, chkP_congr h l (some x) (fun o e => by cases e; exact hx)]
    · rfl
theorem chkP_all {bad : α → Int} {ord : α → α → Bool} : ∀ (l : List α) (p : Option α), chkP bad ord p l = 0 → ∀ x ∈ l, bad x = 0
  | [], p, _, x, hx => by cases hx
  | y :: l, p, h, x, hx => by
    simp only [chkP] at h
    cases hb : bad y != 0 <;> rw [hb] at h
    · cases h2 : ordP ord p y <;> rw [h2] at h
      · rcases List.mem_cons.1 hx with rfl | hx
        · simpa using hb
        · exact chkP_all l _ h x hx
      · cases h
    · simp only [cond_true] at h
      simp [h] at hb
end
section
variable {α κ : Type} {eq : κ → κ → Bool} (heq : ∀ a b, eq a b = true ↔ a = b) (nm : α → κ)
include heq
omit heq
end
/-! ### names -/
abbrev Nm : Type := ByteArray × Int × Unit
def nm (d : Dd) : Nm := (dSite d, dNo d, ())
theorem any_find {α : Type} (p : α → Bool) (l : List α) : l.any p = (l.findIdx? p).isSome := by
  induction l with
  | nil => rfl
  | cons x l ih =>
    simp only [List.any_cons, List.findIdx?_cons, ih]
    cases p x
    · simp
    · rfl
end Go.Vm

/- DeedsMerge: deeds of two lists. Own work. -/
set_option linter.unusedVariables false
set_option linter.unusedSimpArgs false
namespace Go.Vm
open Go.RowKit Go.Vm.Gain
/-! ### slices.Concat -/
theorem take_flat {α : Type} (ls : List (List α)) (j : Nat) {x : List α} (hx : ls[j]? = some x) : (ls.take (j + 1)).flatten = (ls.take j).flatten ++ x := by
  rw [List.take_add_one, hx]
  simp
theorem flat_le {α : Type} (ls : List (List α)) (j : Nat) : (ls.take j).flatten.length ≤ ls.flatten.length := by
  have h := congrArg List.length (congrArg List.flatten (List.take_append_drop j ls))
  rw [List.flatten_append, List.length_append] at h
  omega
/-! ### equal deeds -/
/-! ### a deed more -/
/-! ### sorts -/
theorem sortF_congr {T : Ty} {c1 c2 : T.den → T.den → Int} {xs : List T.den} (h : ∀ a ∈ xs, ∀ b ∈ xs, c1 a b = c2 a b) : sortF T c1 xs = sortF T c2 xs := by
  have e : (fun x y : Els T (· ∈ xs) => c1 x.1 y.1) = (fun x y : Els T (· ∈ xs) => c2 x.1 y.1) := by
    funext x y
    exact h x.1 x.2.2 y.1 y.2.2
  have eo : Orders T c1 xs ↔ Orders T c2 xs := by unfold Orders; rw [e]
  by_cases h1 : (∀ x ∈ xs, WF T x) ∧ xs.length < 4611686018427387904 ∧ Orders T c1 xs ∧ xs ≠ []
  · have h2 : (∀ x ∈ xs, WF T x) ∧ xs.length < 4611686018427387904 ∧ Orders T c2 xs ∧ xs ≠ [] := ⟨h1.1, h1.2.1, eo.1 h1.2.2.1, h1.2.2.2⟩
    unfold sortF
    rw [dif_pos h1, dif_pos h2]
    unfold pdqE
    rw [e]
  · have h2 : ¬ ((∀ x ∈ xs, WF T x) ∧ xs.length < 4611686018427387904 ∧ Orders T c2 xs ∧ xs ≠ []) := fun h => h1 ⟨h.1, h.2.1, eo.2 h.2.2.1, h.2.2.2⟩
    unfold sortF
    rw [dif_neg h1, dif_neg h2]
end Go.Vm

/- DeedsMerge: the reference's merge, and writing. Own work. -/
set_option linter.unusedVariables false
set_option linter.unusedSimpArgs false
namespace Go.Vm
open Go.RowKit Go.Vm.Gain
/-! ### writing -/
theorem last_at {α : Type} {l : List α} (h : l.length ≤ 9223372036854775807) : (l = [] ∧ l.getLast? = none) ∨ ∃ o, 0 < l.length ∧ l.getLast? = some o ∧ l[l.length - 1]? = some o ∧ IntKind.i64.wrap ((l.length : Int) - 1) = ((l.length - 1 : Nat) : Int) := by
  rcases List.eq_nil_or_concat l with rfl | ⟨m, o, rfl⟩
  · exact .inl ⟨rfl, rfl⟩
  · refine .inr ⟨o, by simp, by simp, by simp, ?_⟩
    rw [List.concat_eq_append, List.length_append] at h ⊢
    simp only [List.length_cons, List.length_nil] at h ⊢
    rw [wrap_ok (by omega) (by omega)]
    omega
end Go.Vm

/- DeedsMerge: cars that are there, rides that are asked for: maps. Own work. -/
set_option linter.unusedVariables false
set_option linter.unusedSimpArgs false
namespace Go.Vm
open Go.RowKit Go.Vm.Gain
/-! ### ranges that collect -/
/-! ### what a map holds, by its values -/
section
variable {κ ν : Type} {eq : κ → κ → Bool}
end
theorem wf_all {T : Ty} {xs : List T.den} (h : WF (.slice T) xs) : ∀ x ∈ xs, WF T x := fun x hx => by
  simp only [WF] at h
  obtain ⟨i, hi, rfl⟩ := List.mem_iff_getElem.1 hx
  exact h.2 i _ (List.getElem?_eq_getElem hi)
/-! ### keys of strings -/
/-! ### of what a deed tells -/
/-! ### the maps -/
end Go.Vm

/- DeedsMerge: cars that are there, rides that are asked for. Own work. -/
set_option linter.unusedVariables false
set_option linter.unusedSimpArgs false
namespace Go.Vm
open Go.RowKit Go.Vm.Gain
end Go.Vm

/- DeedsMerge: both ways come to the same. Own work. -/
set_option linter.unusedVariables false
set_option linter.unusedSimpArgs false
namespace Go.Vm
open Go.RowKit Go.Vm.Gain
/-! ### what counts -/
end Go.Vm

/- DeedsMerge: the law. Own work. -/
set_option linter.unusedVariables false
set_option linter.unusedSimpArgs false
namespace Go.Vm
open Go.RowKit Go.Vm.Gain
/-! ### equal lists -/
/-! ### package net knows who asks -/
/-! ### the law -/
end Go.Vm
