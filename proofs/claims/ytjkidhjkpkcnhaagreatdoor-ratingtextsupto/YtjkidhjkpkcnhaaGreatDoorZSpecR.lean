/- RatingTexts: ratings, scores (RatingsScored, another seat). Own work. -/
import Derived.Test.YtjkidhjkpkcnhaaGreatDoorZSpecC
import Derived.Test.YtjkidhjkpkcnhaaGreatDoorVmK
import Derived.Test.YtjkidhjkpkcnhaaGreatDoorVmQ
set_option linter.unusedVariables false
set_option linter.unusedSimpArgs false
namespace Go.Vm.Gain
end Go.Vm.Gain

/- What the functions of BatteriesGain come to. Own work. -/
set_option linter.unusedVariables false
set_option linter.unusedSimpArgs false
namespace Go.Vm
open Go.RowKit
/-! ### small ones -/
/-! ### the first that is not 0 -/
def s69 (l : List Int) : Int := nz l
/-! ### keys -/
end Go.Vm

/- Lists that are checked. Own work. -/
set_option linter.unusedVariables false
set_option linter.unusedSimpArgs false
namespace Go.Vm
open Go.RowKit
/-! ### vehicles, places -/
end Go.Vm

/- Needs by halving; the law. Own work. -/
set_option linter.unusedVariables false
set_option linter.unusedSimpArgs false
namespace Go.Vm
open Go.RowKit Go.Vm.Gain
/-! ### one vehicle, one place -/
/-! ### drivers, at one input -/
end Go.Vm

/- LevelsReckoned: what is wrong with trips and charges. Own work. -/
set_option linter.unusedVariables false
set_option linter.unusedSimpArgs false
namespace Go.Vm
open Go.RowKit Go.Vm.Gain
/-! ### moments -/
def s37 (a : Int) : Bool := !s74 a 0 345686399999
def s73 (a : Int) : Bool := !s74 a 0 345686399999
theorem h37 (a : Int) (hw : WFs A37 (a, ())) : ∃ k, f37 s71 k a = some (s37 a, ()) := ⟨0, by unfold f37 s37; rw [← in_not_out]; simp⟩
theorem h73 (a : Int) (hw : WFs A73 (a, ())) : ∃ k, f73 s74 k a = some (s73 a, ()) := ⟨0, rfl⟩
/-! ### trips -/
/-! ### charges -/
end Go.Vm

/- LevelsReckoned, the law. Own work. -/
set_option linter.unusedVariables false
set_option linter.unusedSimpArgs false
namespace Go.Vm
open Go.RowKit Go.Vm.Gain
end Go.Vm

/- ShiftsCovered: the law. Own work. -/
set_option linter.unusedVariables false
set_option linter.unusedSimpArgs false
namespace Go.Vm
open Go.RowKit Go.Vm.Gain
theorem zip_none {α : Type} {ne : α → α → Bool} (hne : ∀ a b, ne a b = false ↔ a = b) : ∀ {a b : List α}, a.length = b.length → ((List.zip a b).findIdx? (fun q => ne q.1 q.2) = none ↔ a = b)
  | [], [], _ => by simp
  | [], _ :: _, h => by simp at h
  | _ :: _, [], h => by simp at h
  | x :: a, y :: b, h => by
    have ih := zip_none hne (a := a) (b := b) (by simpa using h)
    simp only [List.zip_cons_cons, List.findIdx?_cons, List.cons.injEq]
    cases hq : ne x y
    · have := (hne x y).1 hq
      simp only [Bool.false_eq_true, if_false, Option.map_eq_none_iff, ih, this, true_and]
    · have : x ≠ y := fun e => by rw [(hne x y).2 e] at hq; cases hq
      simp [this]
end Go.Vm

/- DeedsMerge: small functions; what is wrong with a deed; their order. Own work. -/
set_option linter.unusedVariables false
set_option linter.unusedSimpArgs false
namespace Go.Vm
open Go.RowKit Go.Vm.Gain
abbrev Rd : Type := ByteArray × ByteArray × ByteArray × ByteArray × Int × Int × Int × Int × Unit
abbrev Cr : Type := ByteArray × Int × Int × Unit
abbrev Dd : Type := ByteArray × Int × Int × Int × ByteArray × ByteArray × Cr × Rd × Unit
abbrev dSite (d : Dd) : ByteArray := d.1
abbrev dNo (d : Dd) : Int := d.2.1
abbrev dAt (d : Dd) : Int := d.2.2.1
theorem sEq_self (a : ByteArray) : sEq a a = true := sEq_iff.2 rfl
/-! ### strings.Compare -/
def s68 (a b : ByteArray) : Int := cmpS a b
theorem h68 (a b : ByteArray) (hw : WFs A68 (a, b, ())) : ∃ k, f68 s133 k a b = some (s68 a b, ()) := ⟨0, rfl⟩
def s138 (n : Int) : Int := if n < 0 then -1 else if n > 0 then 1 else 0
theorem h138 (n : Int) (hw : WFs A138 (n, ())) : ∃ k, f138 k n = some (s138 n, ()) := ⟨0, by
  unfold f138 s138
  by_cases h : n < 0
  · simp [h]
  · by_cases h2 : n > 0 <;> simp [h, h2]⟩
/-! ### rides -/
theorem cond_one {α : Type} (b : Bool) (x y : α) : (bif b then (some (x, ()) : Option (α × Unit)) else some (y, ())) = some (bif b then x else y, ()) := by cases b <;> rfl
/-! ### deeds -/
/-! ### their order -/
theorem nz_lex (a b c : Int) : nz [a, b, c] = if a = 0 then (if b = 0 then c else b) else a := by
  simp only [nz]
  by_cases ha : a = 0
  · by_cases hb : b = 0
    · by_cases hc : c = 0 <;> simp [ha, hb, hc]
    · simp [ha, hb]
  · simp [ha]
/-- a deed whose numbers are moderate -/
def Small (d : Dd) : Prop := 0 ≤ dAt d ∧ dAt d < 345686400000 ∧ 0 ≤ dNo d ∧ dNo d ≤ 1000001
theorem sub_sign {a b : Int} (h1 : 0 ≤ a) (h2 : a < 345686400000) (h3 : 0 ≤ b) (h4 : b < 345686400000) : s138 (IntKind.i64.wrap (a - b)) = cmpI a b := by
  rw [wrap_ok (by omega) (by omega)]
  unfold s138 cmpI
  by_cases h : a < b
  · rw [if_pos (by omega), if_pos h]
  · rw [if_neg (by omega), if_neg h]
    by_cases h' : a > b
    · rw [if_pos (by omega), if_pos h']
    · rw [if_neg (by omega), if_neg h']
theorem cond_zero {b : Bool} {x y : Int} (h : (bif b then x else y) = 0) (hx : x ≠ 0) : b = false ∧ y = 0 := by
  cases b
  · exact ⟨rfl, h⟩
  · exact absurd h hx
theorem outd_false {a b c : Int} (h : s74 a b c = false) : b ≤ a ∧ a ≤ c := by
  unfold s74 at h
  simp only [Bool.or_eq_false_iff, decide_eq_false_iff_not] at h
  omega
end Go.Vm

/- DeedsMerge: what is wrong with deeds. Own work. -/
set_option linter.unusedVariables false
set_option linter.unusedSimpArgs false
namespace Go.Vm
open Go.RowKit Go.Vm.Gain
section
variable {α : Type}
def ordP (ord : α → α → Bool) (p : Option α) (x : α) : Bool := match p with | none => false | some o => ord o x
/-- each by itself, and with the one before -/
def chkP (bad : α → Int) (ord : α → α → Bool) : Option α → List α → Int
  | _, [] => 0
  | p, x :: l => bif bad x != 0 then bad x else bif ordP ord p x then 7 else chkP bad ord (some x) l
def chkPB (bad : α → Int) (ord : α → α → Bool) (x : α) (p : Option α) : Option α ⊕ ((Int × Unit) ⊕ (Unit × Unit)) :=
  bif bad x != 0 then .inr (.inl (bad x, ())) else bif ordP ord p x then .inr (.inl (7, ())) else .inl (some x)
theorem chkP_scan (bad : α → Int) (ord : α → α → Bool) : ∀ (l : List α) (j : Nat) (p : Option α), scan (fun _ => chkPB bad ord) (fun _ => .inr ((), ())) l j p = bif chkP bad ord p l != 0 then .inl (chkP bad ord p l, ()) else .inr ((), ())
  | [], j, p => rfl
  | x :: l, j, p => by
    simp only [scan, chkPB, chkP]
    cases h : bad x != 0
    · simp only [cond_false]
      cases h2 : ordP ord p x
      · simp only [cond_false]
        exact chkP_scan bad ord l (j + 1) (some x)
      · rfl
    · simp only [cond_true, h]
/-- the one before -/
def PJ (xs : List α) (j : Nat) (p : Option α) : Prop := (j = 0 ∧ p = none) ∨ ∃ o, 0 < j ∧ xs[j - 1]? = some o ∧ p = some o
theorem iter_chkP {xs : List α} {f : (Int × Unit) × Unit → Option (((Int × Unit) × Unit) ⊕ ((Int × Unit) ⊕ (Unit × Unit)))} (bad : α → Int) (ord : α → α → Bool)
    (h1 : ∀ (j : Nat) (x : α) (p : Option α), xs[j]? = some x → PJ xs j p → f (((j : Int), ()), ()) = some (match chkPB bad ord x p with | .inl _ => .inl ((((j + 1 : Nat) : Int), ()), ()) | .inr t => .inr t))
    (h2 : f (((xs.length : Int), ()), ()) = some (.inr (.inr ((), ())))) :
    iter (xs.length + 1) f (((0 : Int), ()), ()) = some (bif chkP bad ord none xs != 0 then .inl (chkP bad ord none xs, ()) else .inr ((), ())) := by
  rw [iter_scanI (s0 := (((0 : Int), ()), ())) (k := xs.length + 1) (β := Option α) xs (fun j _ => (((j : Int), ()), ())) (fun _ => chkPB bad ord) (fun _ => .inr ((), ())) (PJ xs) none (.inl ⟨rfl, rfl⟩) rfl (Nat.lt_succ_self _) ?_ ?_ (fun _ _ => h2), chkP_scan]
  · intro j x b b' hx _ h
    refine .inr ⟨x, Nat.succ_pos _, by simpa using hx, ?_⟩
    unfold chkPB at h
    cases h3 : bad x != 0 <;> rw [h3] at h
    · cases h4 : ordP ord b x <;> rw [h4] at h
      · cases h; rfl
      · cases h
    · cases h
  · intro j x b hx hJ
    rw [h1 j x b hx hJ]
    cases chkPB bad ord x b <;> rfl
theorem chkP_congr {bad : α → Int} {o1 o2 : α → α → Bool} (h : ∀ o x, bad o = 0 → bad x = 0 → o1 o x = o2 o x) : ∀ (l : List α) (p : Option α), (∀ o, p = some o → bad o = 0) → chkP bad o1 p l = chkP bad o2 p l
  | [], p, _ => rfl
  | x :: l, p, hp => by
    simp only [chkP]
    cases hb : bad x != 0
    · have hx : bad x = 0 := by simpa using hb
      have : ordP o1 p x = ordP o2 p x := by
        cases p with
        | none => rfl
        | some o => exact h o x (hp o rfl) hx
      rw [this, chkP_congr h l (some x) (fun o e => by cases e; exact hx)]
    · rfl
theorem chkP_all {bad : α → Int} {ord : α → α → Bool} : ∀ (l : List α) (p : Option α), chkP bad ord p l = 0 → ∀ x ∈ l, bad x = 0
  | [], p, _, x, hx => by cases hx
  | y :: l, p, h, x, hx => by
    simp only [chkP] at h
    cases hb : bad y != 0 <;> rw [hb] at h
    · cases h2 : ordP ord p y <;> rw [h2] at h
      · rcases List.mem_cons.1 hx with rfl | hx
        · simpa using hb
        · exact chkP_all l _ h x hx
      · cases h
    · simp only [cond_true] at h
      simp [h] at hb
end
section
variable {α κ : Type} {eq : κ → κ → Bool} (heq : ∀ a b, eq a b = true ↔ a = b) (nm : α → κ)
include heq
omit heq
/-- each against all before it -/
def dupB (same : α → α → Bool) (xs : List α) (j : Nat) (x : α) (_ : Unit) : Unit ⊕ ((Int × Unit) ⊕ (Unit × Unit)) := bif (xs.take j).any (same · x) then .inr (.inl (6, ())) else .inl ()
open Classical in
theorem dup_scan {same : α → α → Bool} (hs : ∀ a b, same a b = true ↔ nm a = nm b) (xs : List α) : ∀ (l : List α) (j : Nat), xs.drop j = l → ((xs.take j).map nm).Nodup →
    (match scan (dupB same xs) (fun _ => .inr ((), ())) l j () with | .inl z => some z | .inr _ => some ((0 : Int), ())) = some (if (xs.map nm).Nodup then 0 else 6, ())
  | [], j, hl, hn => by
    have : xs.take j = xs := by
      have := congrArg List.length hl
      simp at this
      exact List.take_of_length_le (by omega)
    rw [this] at hn
    rw [if_pos hn]
    rfl
  | x :: l, j, hl, hn => by
    have hx : xs[j]? = some x := by
      have := congrArg (·[0]?) hl
      simpa using this
    have hl' : xs.drop (j + 1) = l := by
      have := congrArg List.tail hl
      simpa using this
    have ht : xs.take (j + 1) = xs.take j ++ [x] := by
      rw [List.take_add_one, hx]; rfl
    simp only [scan, dupB]
    cases h : (xs.take j).any (same · x)
    · simp only [cond_false]
      refine dup_scan hs xs l (j + 1) hl' ?_
      rw [ht, List.map_append]
      refine List.nodup_append.2 ⟨hn, by simp, fun a ha b hb e => ?_⟩
      obtain ⟨y, hy, rfl⟩ := List.mem_map.1 ha
      simp only [List.map_cons, List.map_nil, List.mem_singleton] at hb
      have := List.any_eq_false.1 h y hy
      exact this ((hs y x).2 (e.trans hb))
    · simp only [cond_true]
      obtain ⟨y, hy, hyx⟩ := List.any_eq_true.1 h
      rw [if_neg]
      intro hnd
      have h2 : ((xs.take (j + 1)).map nm).Nodup := hnd.sublist ((List.take_sublist _ _).map _)
      rw [ht, List.map_append] at h2
      have := (List.nodup_append.1 h2).2.2 (nm y) (List.mem_map.2 ⟨y, hy, rfl⟩) (nm x) (by simp)
      exact this ((hs y x).1 hyx)
end
/-! ### names -/
abbrev Nm : Type := ByteArray × Int × Unit
def nm (d : Dd) : Nm := (dSite d, dNo d, ())
end Go.Vm

/- DeedsMerge: the reference's merge, and writing. Own work. -/
set_option linter.unusedVariables false
set_option linter.unusedSimpArgs false
namespace Go.Vm
open Go.RowKit Go.Vm.Gain
theorem find_idx {α : Type} (p : α → Bool) : ∀ (l : List α), (match l.findIdx? p with | some i => l[i]? | none => none) = l.find? p
  | [] => rfl
  | x :: l => by
    have ih := find_idx p l
    simp only [List.findIdx?_cons, List.find?_cons]
    cases p x
    · simp only [Bool.false_eq_true, if_false]
      rw [← ih]
      cases l.findIdx? p <;> rfl
    · rfl
/-! ### writing -/
theorem last_at {α : Type} {l : List α} (h : l.length ≤ 9223372036854775807) : (l = [] ∧ l.getLast? = none) ∨ ∃ o, 0 < l.length ∧ l.getLast? = some o ∧ l[l.length - 1]? = some o ∧ IntKind.i64.wrap ((l.length : Int) - 1) = ((l.length - 1 : Nat) : Int) := by
  rcases List.eq_nil_or_concat l with rfl | ⟨m, o, rfl⟩
  · exact .inl ⟨rfl, rfl⟩
  · refine .inr ⟨o, by simp, by simp, by simp, ?_⟩
    rw [List.concat_eq_append, List.length_append] at h ⊢
    simp only [List.length_cons, List.length_nil] at h ⊢
    rw [wrap_ok (by omega) (by omega)]
    omega
end Go.Vm

/- RatingsScored: small functions; what is wrong with ratings, and with people. Own work. -/
set_option linter.unusedVariables false
set_option linter.unusedSimpArgs false
namespace Go.Vm
open Go.RowKit Go.Vm.Gain
abbrev Rt : Type := ByteArray × ByteArray × ByteArray × Int × Int × Unit
abbrev rFrom (r : Rt) : ByteArray := r.1
abbrev rTo (r : Rt) : ByteArray := r.2.1
abbrev rRide (r : Rt) : ByteArray := r.2.2.1
abbrev rStars (r : Rt) : Int := r.2.2.2.1
abbrev rAt (r : Rt) : Int := r.2.2.2.2.1
/-! ### strings -/
theorem less_cmp : ∀ a b : List UInt8, Op.bytesLess a b = decide (Lib.compareBytes a b < 0)
  | [], [] => rfl
  | [], _ :: _ => rfl
  | _ :: _, [] => rfl
  | a :: x, b :: y => by
    simp only [Op.bytesLess, Lib.compareBytes]
    by_cases h : a < b
    · simp [h]
    · by_cases h2 : b < a
      · have : (a == b) = false := by
          rw [beq_eq_false_iff_ne]
          rintro rfl
          exact h h2
        simp [h, h2, this]
      · have : a = b := by
          rw [UInt8.lt_iff_toNat_lt] at h h2
          exact UInt8.toNat_inj.1 (by omega)
        subst this
        simp [h, less_cmp x y]
theorem sLt_cmp (a b : ByteArray) : sLt a b = decide (cmpS a b < 0) := by
  unfold sLt cmpS
  rw [ByteArray.toList_eq, ByteArray.toList_eq, less_cmp]
theorem cmp_vals : ∀ a b : List UInt8, Lib.compareBytes a b = -1 ∨ Lib.compareBytes a b = 0 ∨ Lib.compareBytes a b = 1
  | [], [] => by simp [Lib.compareBytes]
  | [], _ :: _ => by simp [Lib.compareBytes]
  | _ :: _, [] => by simp [Lib.compareBytes]
  | a :: x, b :: y => by
    simp only [Lib.compareBytes]
    have := cmp_vals x y
    split
    · simp
    · split
      · simp
      · exact this
theorem cmpS_vals (a b : ByteArray) : cmpS a b = -1 ∨ cmpS a b = 0 ∨ cmpS a b = 1 := cmp_vals _ _
def s230 (a : ByteArray) : Bool := false
theorem h230 (a : ByteArray) (hw : WFs A230 (a, ())) : ∃ k, f230 k a = some (s230 a, ()) := ⟨0, by
  unfold f230 s230
  rw [sEq_self]
  rfl⟩
def s199 (a b : ByteArray) : Int := cmpS a b
theorem h199 (a b : ByteArray) (hw : WFs A199 (a, b, ())) : ∃ k, f199 s230 k a b = some (s199 a b, ()) := ⟨0, by
  unfold f199 s199 s230
  simp only [cond_false, sLt_cmp]
  have hs : sEq a b = decide (cmpS a b = 0) := by
    by_cases h : a = b
    · rw [sEq_iff.2 h, decide_eq_true (cmpS_zero.2 h)]
    · rw [decide_eq_false (fun e => h (cmpS_zero.1 e)), ← Bool.not_eq_true]
      exact fun e => h (sEq_iff.1 e)
  rw [hs]
  rcases cmpS_vals a b with h | h | h <;> rw [h] <;> rfl⟩
/-- the comparison of two lists -/
def cmpL : List ByteArray → List ByteArray → Int
  | [], [] => 0
  | [], _ :: _ => -1
  | _ :: _, [] => 1
  | x :: l, y :: m => if cmpS x y = 0 then cmpL l m else cmpS x y
def s160 (a b : List ByteArray) : Int := cmpL a b
def cmpLB (b : List ByteArray) (j : Nat) (x : ByteArray) (_ : Unit) : Unit ⊕ ((Int × Unit) ⊕ (Unit × Unit)) :=
  match b[j]? with
  | none => .inr (.inl (1, ()))
  | some y => bif cmpS x y != 0 then .inr (.inl (cmpS x y, ())) else .inl ()
theorem cmpL_scan (b : List ByteArray) (n : Nat) : ∀ (l : List ByteArray) (j : Nat), j + l.length = n →
    (match scan (cmpLB b) (fun _ => .inr ((), ())) l j () with | .inl z => some z | .inr _ => bif decide ((n : Int) < (b.length : Int)) then some ((-1 : Int), ()) else some ((0 : Int), ())) = some (cmpL l (b.drop j), ())
  | [], j, hj => by
    simp only [scan]
    have hj : j = n := by simpa using hj
    subst hj
    by_cases h : j < b.length
    · rw [decide_eq_true (by omega), List.drop_eq_getElem_cons h]
      rfl
    · rw [decide_eq_false (by omega), List.drop_eq_nil_of_le (by omega)]
      rfl
  | x :: l, j, hj => by
    simp only [scan, cmpLB]
    by_cases h : j < b.length
    · rw [List.getElem?_eq_getElem h, List.drop_eq_getElem_cons h]
      simp only [cmpL]
      by_cases h0 : cmpS x b[j] = 0
      · rw [show (cmpS x b[j] != 0) = false from by simp [h0], if_pos h0]
        exact cmpL_scan b n l (j + 1) (by simp at hj ⊢; omega)
      · rw [show (cmpS x b[j] != 0) = true from by simpa using h0, if_neg h0]
        rfl
    · rw [List.getElem?_eq_none (by omega), List.drop_eq_nil_of_le (by omega)]
      rfl
theorem h160 (a b : List ByteArray) (hw : WFs A160 (a, b, ())) : ∃ k, f160 s199 k a b = some (s160 a b, ()) := by
  simp only [WFs, WF] at hw
  have hl : a.length ≤ 9223372036854775807 := hw.1.1
  clear hw
  refine ⟨a.length + 1, ?_⟩
  unfold f160 s160
  rw [iter_scan0 (s0 := (((0 : Int), ()), ())) a (fun j _ => (((j : Int), ()), ())) (cmpLB b) (fun _ => .inr ((), ())) () rfl (Nat.lt_succ_self _) ?a1 ?a2]
  case a2 => simp
  case a1 =>
    intro j x u hx
    simp only [lt_at hx, inR_at hx, rd_at hx, wrap_succ hx hl, cond_true, cmpLB]
    by_cases h : j < b.length
    · have hy : b[j]? = some b[j] := List.getElem?_eq_getElem h
      rw [decide_eq_false (by omega), cond_false, inR_at hy, cond_true, rd_at hy, hy]
      simp only [s199]
      cases cmpS x b[j] != 0 <;> rfl
    · rw [decide_eq_true (by omega), List.getElem?_eq_none (by omega)]
      rfl
  have := cmpL_scan b a.length a 0 (by simp)
  rw [List.drop_zero] at this
  exact this
/-! ### the order of ratings -/
def wCmp : Rt → Rt → Int := lexC (fun a b => cmpS (rRide a) (rRide b)) (lexC (fun a b => cmpS (rFrom a) (rFrom b)) (fun a b => cmpS (rTo a) (rTo b)))
theorem wCmp_ok : CmpOK wCmp (fun _ => True) := (cmpS_ok.on rRide).lex ((cmpS_ok.on rFrom).lex (cmpS_ok.on rTo))
def s201 (a b : Rt) : Int := wCmp a b
theorem h201 (a b : Rt) (hw : WFs A201 (a, b, ())) : ∃ k, f201 s66 s68 k a b = some (s201 a b, ()) := ⟨0, by
  unfold f201 s66 s201
  rw [nz_lex]
  rfl⟩
def rCmp : Rt → Rt → Int := lexC wCmp (fun a b => cmpI (rAt a) (rAt b))
theorem rCmp_ok : CmpOK rCmp (fun _ => True) := wCmp_ok.lex (cmpI_ok.on rAt)
def s163 (a b : Rt) : Int := rCmp a b
theorem h163 (a b : Rt) (hw : WFs A163 (a, b, ())) : ∃ k, f163 s66 s67 s201 k a b = some (s163 a b, ()) := ⟨0, by
  unfold f163 s66 s163
  rw [nzp]
  rfl⟩
def s161 (r : Rt) : List ByteArray := [rRide r, rFrom r, rTo r]
theorem h161 (r : Rt) (hw : WFs A161 (r, ())) : ∃ k, f161 k r = some (s161 r, ()) := ⟨0, rfl⟩
theorem key_cmp (a b : Rt) : s160 (s161 a) (s161 b) = wCmp a b := by
  unfold s160 s161 wCmp lexC
  simp only [cmpL]
  by_cases h : cmpS (rTo a) (rTo b) = 0
  · rw [if_pos h]
    split
    · split
      · exact h.symm
      · rfl
    · rfl
  · rw [if_neg h]
def s119 (a b : Rt) : Int := bif wCmp a b != 0 then wCmp a b else s138 (IntKind.i64.wrap (rAt a - rAt b))
theorem h119 (a b : Rt) (hw : WFs A119 (a, b, ())) : ∃ k, f119 s138 s160 s161 k a b = some (s119 a b, ()) := ⟨0, by
  unfold f119 s119
  rw [key_cmp]
  cases wCmp a b != 0 <;> rfl⟩
/-- a rating at a moment that there is -/
def Timed (r : Rt) : Prop := 0 ≤ rAt r ∧ rAt r < 345686400000
instance : DecidablePred Timed := fun r => inferInstanceAs (Decidable (_ ∧ _))
theorem s201_cmp {a b : Rt} (ha : Timed a) (hb : Timed b) : s119 a b = rCmp a b := by
  unfold s119 rCmp lexC
  by_cases h : wCmp a b = 0
  · rw [show (wCmp a b != 0) = false from by simp [h], if_pos h]
    exact sub_sign ha.1 ha.2 hb.1 hb.2
  · rw [show (wCmp a b != 0) = true from by simpa using h, if_neg h]
    rfl
/-! ### what is wrong with a rating -/
def rgFault (r : Rt) : Int :=
  bif !key (rFrom r) then 5 else bif !key (rTo r) then 5 else bif !key (rRide r) then 5 else bif sEq (rFrom r) (rTo r) then 6 else bif s74 (rStars r) 1 5 then 1 else bif !s73 (rAt r) then 1 else 0
structure Fine (r : Rt) : Prop where
  timed : Timed r
  stars : 1 ≤ rStars r ∧ rStars r ≤ 5
theorem fine_of {r : Rt} (h : rgFault r = 0) : Fine r := by
  unfold rgFault at h
  obtain ⟨h1, h⟩ := cond_zero h (by decide)
  obtain ⟨h2, h⟩ := cond_zero h (by decide)
  obtain ⟨h3, h⟩ := cond_zero h (by decide)
  obtain ⟨h4, h⟩ := cond_zero h (by decide)
  obtain ⟨h5, h⟩ := cond_zero h (by decide)
  obtain ⟨h6, h⟩ := cond_zero h (by decide)
  simp only [Bool.not_eq_false'] at h6
  unfold s73 at h6
  simp only [Bool.not_eq_true'] at h6
  have := outd_false h5
  have := outd_false h6
  exact ⟨⟨by omega, by omega⟩, by omega⟩
def rFaults (l : List Rt) : Int := if l.length > 3000 then 2 else chkP rgFault (fun o x => decide (rCmp x o ≤ 0)) none l
def s121 := rFaults
def s53 := rFaults
theorem faults_out (l : List Rt) (q : (Int × Unit) ⊕ (Unit × Unit)) (n : Int) (hq : q = bif n != 0 then .inl (n, ()) else .inr ((), ())) : (Option.bind (some q) fun r => match r with | .inl z => some z | .inr z2 => some ((0 : Int), ())) = some (n, ()) := by
  subst hq
  cases h : n != 0
  · have : n = 0 := by simpa using h
    subst this; rfl
  · rfl
theorem h121 (l : List Rt) (hw : WFs A121 (l, ())) : ∃ k, f121 s73 s74 s75 s163 k l = some (s121 l, ()) := by
  simp only [WFs, WF] at hw
  have hl : l.length ≤ 9223372036854775807 := hw.1.1
  clear hw
  refine ⟨l.length + 1, ?_⟩
  unfold f121 s121 rFaults
  rw [show (3000 : Int) = ((3000 : Nat) : Int) from rfl, len_gt]
  by_cases hn : l.length > 3000
  · simp [hn]
  · simp only [hn, decide_false, cond_false, if_false]
    rw [iter_chkP (xs := l) rgFault (fun o x => decide (rCmp x o ≤ 0)) ?a1 ?a2]
    case a2 => simp
    case a1 =>
      intro j x p hx hp
      simp only [lt_at hx, inR_at hx, rd_at hx, wrap_succ hx hl, cond_true, chkPB, ordP, rgFault, show s75 = key from rfl]
      cases key x.1
      · rfl
      cases key x.2.1
      · rfl
      cases key x.2.2.1
      · rfl
      cases sEq x.1 x.2.1
      rotate_left
      · rfl
      cases s74 x.2.2.2.1 1 5
      rotate_left
      · rfl
      cases s73 x.2.2.2.2.1
      · rfl
      simp only [Bool.not_true, cond_false, bne_self_eq_false]
      rcases hp with ⟨rfl, rfl⟩ | ⟨o, hj, ho, rfl⟩
      · rfl
      · have e0 : decide (((j : Nat) : Int) > 0) = true := by simp; omega
        simp only [e0, prev_ix hl hj ho, inR_at ho, rd_at ho, cond_true, s163]
        cases decide (rCmp x o ≤ 0) <;> rfl
    exact faults_out l _ _ rfl
theorem rord_same (o x : Rt) (ho : rgFault o = 0) (hx : rgFault x = 0) : decide (s119 o x ≥ 0) = decide (rCmp x o ≤ 0) := by
  rw [s201_cmp (fine_of ho).timed (fine_of hx).timed]
  congr 1
  apply propext
  exact (rCmp_ok.flip_le trivial trivial).symm
theorem h53 (l : List Rt) (hw : WFs A53 (l, ())) : ∃ k, f53 s36 s37 s71 s119 k l = some (s53 l, ()) := by
  simp only [WFs, WF] at hw
  have hl : l.length ≤ 9223372036854775807 := hw.1.1
  clear hw
  refine ⟨l.length + 1, ?_⟩
  unfold f53 s53 rFaults
  rw [show (3000 : Int) = ((3000 : Nat) : Int) from rfl, len_gt]
  by_cases hn : l.length > 3000
  · simp [hn]
  · simp only [hn, decide_false, cond_false, if_false]
    rw [iter_chkP (xs := l) rgFault (fun o x => decide (s119 o x ≥ 0)) ?a1 ?a2]
    case a2 => simp
    case a1 =>
      intro j x p hx hp
      simp only [lt_at hx, inR_at hx, rd_at hx, wrap_succ hx hl, cond_true, chkPB, ordP, rgFault, show s36 = key from rfl, in_out, show s37 = s73 from rfl]
      cases key x.1
      · rfl
      cases key x.2.1
      · rfl
      cases key x.2.2.1
      · rfl
      cases sEq x.1 x.2.1
      rotate_left
      · rfl
      cases s74 x.2.2.2.1 1 5
      rotate_left
      · rfl
      cases s73 x.2.2.2.2.1
      · rfl
      simp only [Bool.not_true, Bool.not_false, cond_false, bne_self_eq_false]
      rcases hp with ⟨rfl, rfl⟩ | ⟨o, hj, ho, rfl⟩
      · rfl
      · have e0 : decide (((j : Nat) : Int) > 0) = true := by simp; omega
        simp only [e0, prev_ix hl hj ho, inR_at ho, rd_at ho, cond_true]
        cases decide (s119 o x ≥ 0) <;> rfl
    rw [chkP_congr (o1 := fun o x => decide (s119 o x ≥ 0)) (o2 := fun o x => decide (rCmp x o ≤ 0)) rord_same l none (fun o e => by cases e)]
    exact faults_out l _ _ rfl
/-! ### faiths -/
abbrev Fa : Type := Int × Int × Int × Unit
def fFault (f : Fa) : Int := bif s74 f.1 0 1000 then 1 else bif s74 f.2.1 1000 5000 then 1 else bif s74 f.2.2.1 0 345686400000 then 1 else 0
def s164 := fFault
theorem h164 (f : Fa) (hw : WFs A164 (f, ())) : ∃ k, f164 s74 k f = some (s164 f, ()) := ⟨0, by
  unfold f164 s164 fFault
  simp only [cond_one]⟩
/-! ### people -/
def hasS (l : List ByteArray) (x : ByteArray) : Bool := l.any (sEq x ·)
theorem hasS_iff {l : List ByteArray} {x : ByteArray} : hasS l x = true ↔ x ∈ l := by
  unfold hasS
  rw [List.any_eq_true]
  constructor
  · rintro ⟨y, hy, h⟩
    rw [sEq_iff.1 h]; exact hy
  · exact fun h => ⟨x, h, sEq_self x⟩
def s159 (l : List ByteArray) (x : ByteArray) : Int := match l.findIdx? (fun y => sEq x y) with | some i => (i : Int) | none => -1
theorem h159 (l : List ByteArray) (x : ByteArray) (hw : WFs A159 (l, x, ())) : ∃ k, f159 k l x = some (s159 l x, ()) := by
  simp only [WFs, WF] at hw
  have hl : l.length ≤ 9223372036854775807 := hw.1.1
  clear hw
  refine ⟨l.length + 1, ?_⟩
  unfold f159 s159
  rw [iter_find (s0 := (((0 : Int), ()), ())) l (fun i => (((i : Int), ()), ())) (fun y => sEq x y) (fun i => .inl ((i : Int), ())) (.inr ((), ())) rfl (Nat.lt_succ_self _) ?a3 ?a4]
  case a4 => simp
  case a3 =>
    intro j y hy
    simp only [lt_at hy, inR_at hy, rd_at hy, wrap_succ hy hl, cond_true]
    cases sEq x y <;> rfl
  cases l.findIdx? (fun y => sEq x y) <;> rfl
def s117 (l : List ByteArray) (x : ByteArray) : Bool := hasS l x
theorem h117 (l : List ByteArray) (x : ByteArray) (hw : WFs A117 (l, x, ())) : ∃ k, f117 s159 k l x = some (s117 l x, ()) := ⟨0, by
  unfold f117 s117 s159
  cases h : l.findIdx? (fun y => sEq x y) with
  | none =>
    rw [decide_eq_false (by decide), show hasS l x = false from by
      rw [← Bool.not_eq_true, hasS_iff]
      intro hm
      have := List.findIdx?_eq_none_iff.1 h x hm
      rw [sEq_self] at this; cases this]
  | some i =>
    rw [decide_eq_true (by simp), show hasS l x = true from by
      rw [hasS_iff]
      obtain ⟨hi, h1, _⟩ := List.findIdx?_eq_some_iff_getElem.1 h
      rw [sEq_iff.1 h1]
      exact List.getElem_mem hi]⟩
end Go.Vm

/- RatingsScored: ratings of two lists. Own work. -/
set_option linter.unusedVariables false
set_option linter.unusedSimpArgs false
namespace Go.Vm
open Go.RowKit Go.Vm.Gain
/-! ### slices.Concat -/
/-! ### slices.Compact -/
def rtEq (a b : Rt) : Bool := keq ZY2 a b
theorem rtEq_iff (a b : Rt) : rtEq a b = true ↔ a = b := keq_iff (K := ZY2) rfl a b
/-! ### the stable sorts -/
/-! ### ratings of both -/
theorem faults_len {l : List Rt} (h : rFaults l = 0) : l.length ≤ 3000 := by
  unfold rFaults at h
  split at h
  · cases h
  · omega
theorem faults_each {l : List Rt} (h : rFaults l = 0) : ∀ r ∈ l, rgFault r = 0 := by
  unfold rFaults at h
  split at h
  · cases h
  · exact chkP_all l none h
/-! ### equal lists -/
theorem rt_chain (a b : Rt) : ((sEq a.1 b.1) && ((sEq a.2.1 b.2.1) && ((sEq a.2.2.1 b.2.2.1) && ((a.2.2.2.1 == b.2.2.2.1) && ((a.2.2.2.2.1 == b.2.2.2.2.1) && true))))) = rtEq a b := rfl
open Classical in
noncomputable def s59 (a b : List Rt) : Bool := decide (a = b)
theorem h59 (a b : List Rt) (hw : WFs A59 (a, b, ())) : ∃ k, f59 k a b = some (s59 a b, ()) := by
  simp only [WFs, WF] at hw
  have hl : a.length ≤ 9223372036854775807 := hw.1.1
  clear hw
  refine ⟨a.length + 1, ?_⟩
  unfold f59 s59
  by_cases hlen : a.length = b.length
  · have e : ((a.length : Int) != (b.length : Int)) = false := by simp [hlen]
    simp only [e, cond_false]
    have hzl : (List.zip a b).length = a.length := by rw [List.length_zip]; omega
    rw [iter_find (s0 := (((0 : Int), ()), ())) (List.zip a b) (fun i => (((i : Int), ()), ())) (fun q => !rtEq q.1 q.2) (fun i => .inl (false, ())) (.inr ((), ())) ?a1 ?a2 ?a3 ?a4]
    case a1 => rfl
    case a2 => omega
    case a3 =>
      intro j q hq
      obtain ⟨x, y⟩ := q
      obtain ⟨hx, hy⟩ := List.getElem?_zip_eq_some.1 hq
      simp only [lt_at hx, inR_at hx, inR_at hy, rd_at hx, rd_at hy, wrap_succ hx hl, cond_true, rt_chain]
      cases rtEq x y <;> rfl
    case a4 => rw [hzl]; simp
    have := zip_none (ne := fun x y : Rt => !rtEq x y) (fun x y => by rw [Bool.not_eq_false', rtEq_iff]) hlen
    cases hf : (List.zip a b).findIdx? (fun q => !rtEq q.1 q.2) with
    | none => simp [this.1 hf]
    | some i =>
      have : ¬ a = b := fun e => by rw [this.2 e] at hf; cases hf
      simp [this]
  · have e : ((a.length : Int) != (b.length : Int)) = true := by simp; omega
    have : ¬ a = b := fun e => hlen (by rw [e])
    simp [e, this]
end Go.Vm

/- RatingsScored: fractions. Own work. -/
set_option linter.unusedVariables false
set_option linter.unusedSimpArgs false
namespace Go.Vm
open Go.RowKit Go.Vm.Gain
abbrev Fr : Type := Int × Int × Unit
/-! ### the greatest common divisor -/
theorem gcd_iter {τ : Type} {f : (Int × Int × Unit) × Unit → Option (((Int × Int × Unit) × Unit) ⊕ (τ ⊕ ((Int × Unit) × Unit)))}
    (h1 : ∀ a b : Nat, b ≠ 0 → f (((a : Int), (b : Int), ()), ()) = some (.inl (((b : Int), ((a % b : Nat) : Int), ()), ())))
    (h2 : ∀ a : Nat, f (((a : Int), (0 : Int), ()), ()) = some (.inr (.inr (((a : Int), ()), ())))) : ∀ (k a b : Nat), b < k → iter k f (((a : Int), (b : Int), ()), ()) = some (.inr ((((Nat.gcd a b : Nat) : Int), ()), ()))
  | 0, a, b, h => by omega
  | k + 1, a, b, h => by
    simp only [iter]
    by_cases hb : b = 0
    · subst hb
      rw [show ((0 : Nat) : Int) = 0 from rfl, h2, Nat.gcd_zero_right]
      rfl
    · rw [h1 a b hb, Option.bind_some]
      have hlt := Nat.mod_lt a (Nat.pos_of_ne_zero hb)
      rw [show Nat.gcd a b = Nat.gcd b (a % b) from by rw [Nat.gcd_comm a b, Nat.gcd_rec, Nat.gcd_comm]]
      exact gcd_iter h1 h2 k b (a % b) (by omega)
def s232 (x y : Int) : Option (Int × Unit) := if 0 ≤ x ∧ 0 ≤ y then some (((Nat.gcd x.toNat y.toNat : Nat) : Int), ()) else none
theorem h232 (x y : Int) (z : Int × Unit) (hw : WFs A232 (x, y, ())) (h : s232 x y = some z) : ∃ k, f232 k x y = some z := by
  clear hw
  unfold s232 at h
  split at h
  rotate_left
  · cases h
  rename_i hc
  cases h
  obtain ⟨a, rfl⟩ := Int.eq_ofNat_of_zero_le hc.1
  obtain ⟨b, rfl⟩ := Int.eq_ofNat_of_zero_le hc.2
  refine ⟨b + 1, ?_⟩
  unfold f232
  rw [gcd_iter ?h1 ?h2 (b + 1) a b (Nat.lt_succ_self b)]
  · rfl
  case h1 =>
    intro a b hb
    have e1 : (((b : Int)) != (0 : Int)) = true := by simp; omega
    have e2 : decide ((b : Int) = 0) = false := by simp; omega
    simp only [e1, e2, cond_true, cond_false]
    rfl
  case h2 => intro a; rfl
/-- a fraction in lowest terms -/
def frac (x y : Int) : Fr := (((x.toNat / Nat.gcd x.toNat y.toNat : Nat) : Int), ((y.toNat / Nat.gcd x.toNat y.toNat : Nat) : Int), ())
def Apt (x y : Int) : Prop := 0 ≤ x ∧ 0 < y ∧ x ≤ 9223372036854775807 ∧ y ≤ 9223372036854775807
instance (x y : Int) : Decidable (Apt x y) := inferInstanceAs (Decidable (_ ∧ _))
def s203 (x y : Int) : Option (Fr × Unit) := if Apt x y then some (frac x y, ()) else none
theorem h203 (x y : Int) (z : Fr × Unit) (hw : WFs A203 (x, y, ())) (h : s203 x y = some z) : ∃ k, f203 s232 k x y = some z := by
  clear hw
  unfold s203 at h
  split at h
  rotate_left
  · cases h
  rename_i hc
  cases h
  obtain ⟨h1, h2, h3, h4⟩ := hc
  obtain ⟨a, rfl⟩ := Int.eq_ofNat_of_zero_le h1
  obtain ⟨b, rfl⟩ := Int.eq_ofNat_of_zero_le (by omega : (0 : Int) ≤ y)
  refine ⟨0, ?_⟩
  unfold f203
  have e0 : (if (decide ((IntKind.i64.wrap (-(a : Int))) > (a : Int))) then (IntKind.i64.wrap (-(a : Int))) else (a : Int)) = (a : Int) := by
    rw [wrap_ok (by omega) (by omega), if_neg (by simp only [decide_eq_true_eq]; omega)]
  have hg : 0 < Nat.gcd a b := Nat.gcd_pos_of_pos_right _ (by omega)
  have e1 : s232 (a : Int) (b : Int) = some (((Nat.gcd a b : Nat) : Int), ()) := by
    unfold s232
    rw [if_pos ⟨by omega, by omega⟩]
    rfl
  have e2 : decide ((((Nat.gcd a b : Nat)) : Int) = 0) = false := by simp; omega
  have e3 : ∀ n : Nat, (n : Int) ≤ 9223372036854775807 → IntKind.i64.wrap (Int.tdiv (n : Int) ((Nat.gcd a b : Nat) : Int)) = ((n / Nat.gcd a b : Nat) : Int) := fun n hn => by
    rw [← Int.ofNat_tdiv]
    have := Nat.div_le_self n (Nat.gcd a b)
    generalize n / Nat.gcd a b = m at *
    exact wrap_ok (by omega) (by omega)
  simp only [e0, e1, e2, Option.bind_some, cond_false, e3 a h3, e3 b h4]
  rfl
/-! ### products of 64 bits -/
/-! ### comparisons -/
/-! ### fractions in lowest terms -/
end Go.Vm

/- RatingsScored: the ratings that count, and their sums. Own work. -/
set_option linter.unusedVariables false
set_option linter.unusedSimpArgs false
namespace Go.Vm
open Go.RowKit Go.Vm.Gain
/-! ### the ratings that count -/
def sameW (a b : Rt) : Bool := wCmp a b == 0
def stepC (out : List Rt) (r : Rt) : List Rt :=
  match out.getLast? with
  | some o => bif sameW o r then out.dropLast ++ [r] else out ++ [r]
  | none => out ++ [r]
def countC (l : List Rt) (at_ : Int) : List Rt := (l.filter fun r => decide (rAt r ≤ at_)).foldl stepC []
theorem stepC_len (out : List Rt) (r : Rt) : (stepC out r).length ≤ out.length + 1 := by
  unfold stepC
  cases h : out.getLast? with
  | none => simp
  | some o =>
    simp only
    cases sameW o r <;> simp <;> omega
theorem fold_len : ∀ (l out : List Rt), (l.foldl stepC out).length ≤ out.length + l.length
  | [], out => by simp
  | r :: l, out => by
    have := fold_len l (stepC out r)
    have := stepC_len out r
    simp only [List.foldl_cons, List.length_cons]
    omega
theorem count_len (l : List Rt) (at_ : Int) : (countC l at_).length ≤ l.length := by
  have h := fold_len (l.filter fun r => decide (rAt r ≤ at_)) []
  have := List.length_filter_le (fun r => decide (rAt r ≤ at_)) l
  unfold countC
  simp only [List.length_nil, Nat.zero_add] at h
  omega
theorem fold_mem : ∀ (l out : List Rt) (x : Rt), x ∈ l.foldl stepC out → x ∈ out ∨ x ∈ l
  | [], out, x, h => .inl h
  | r :: l, out, x, h => by
    rw [List.foldl_cons] at h
    rcases fold_mem l (stepC out r) x h with h | h
    · unfold stepC at h
      cases hl : out.getLast? with
      | none =>
        rw [hl] at h
        simp only [List.mem_append, List.mem_singleton] at h
        exact h.elim .inl fun e => .inr (by simp [e])
      | some o =>
        rw [hl] at h
        simp only at h
        cases hs : sameW o r <;> rw [hs] at h
        · simp only [cond_false, List.mem_append, List.mem_singleton] at h
          exact h.elim .inl fun e => .inr (by simp [e])
        · simp only [cond_true, List.mem_append, List.mem_singleton] at h
          exact h.elim (fun h => .inl ((List.dropLast_sublist _).subset h)) fun e => .inr (by simp [e])
    · exact .inr (List.mem_cons_of_mem _ h)
theorem count_mem {l : List Rt} {at_ : Int} {x : Rt} (h : x ∈ countC l at_) : x ∈ l ∧ rAt x ≤ at_ := by
  rcases fold_mem _ [] x h with h | h
  · cases h
  · rw [List.mem_filter] at h
    exact ⟨h.1, by simpa using h.2⟩
def s202 (l : List Rt) (at_ : Int) : Option (List Rt × Unit) := if l.length ≤ 3000 then some (countC l at_, ()) else none
theorem last_set {α : Type} {out : List α} {o : α} (h : out.getLast? = some o) (r : α) : out.set (out.length - 1) r = out.dropLast ++ [r] := by
  obtain ⟨l, rfl⟩ := List.getLast?_eq_some_iff.1 h
  simp
theorem h202 (l : List Rt) (at_ : Int) (y : List Rt × Unit) (hw : WFs A202 (l, at_, ())) (h : s202 l at_ = some y) : ∃ k, f202 s201 k l at_ = some y := by
  clear hw
  unfold s202 at h
  split at h
  rotate_left
  · cases h
  rename_i hn
  cases h
  have hl : l.length ≤ 9223372036854775807 := by omega
  refine ⟨l.length + 1, ?_⟩
  unfold f202
  rw [iter_scanI (s0 := (([], (0 : Int), ()), ())) (β := List Rt) l (fun j o => ((o, (j : Int), ()), ())) (fun _ x o => .inl (if decide (rAt x ≤ at_) then stepC o x else o)) (fun o => .inr ((o, ()), ())) (fun j o => o.length ≤ j) [] (Nat.le_refl _) rfl (Nat.lt_succ_self _) ?a0 ?a1 ?a2]
  case a2 => intro o _; simp
  case a0 =>
    intro j x o o' hx hJ hs
    cases hs
    have := stepC_len o x
    by_cases h : decide (rAt x ≤ at_) = true
    · rw [if_pos h]; omega
    · rw [if_neg h]; omega
  case a1 =>
    intro j x o hx hJ
    have hj := (List.getElem?_eq_some_iff.1 hx).1
    have hol : o.length ≤ 9223372036854775807 := by omega
    simp only [lt_at hx, inR_at hx, rd_at hx, wrap_succ hx hl, cond_true]
    by_cases hat : rAt x ≤ at_
    · rw [decide_eq_false (show ¬ x.2.2.2.2.1 > at_ from Int.not_lt.2 hat), if_pos (decide_eq_true hat)]
      simp only [cond_false]
      have hap : decide (o.length + [x].length ≤ 4294967296) = true := decide_eq_true (by simp; omega)
      rcases last_at hol with ⟨rfl, _⟩ | ⟨p, hp0, hp1, hp2, hp3⟩
      · simp only [List.length_nil, Int.natCast_zero]
        rw [show decide (IntKind.i64.wrap ((0 : Int) - 1) ≥ 0) = false from by decide]
        simp only [cond_false, Option.bind_some]
        rfl
      · have e0 : decide (((o.length - 1 : Nat) : Int) ≥ 0) = true := by simp
        simp only [hp3, e0, cond_true, inR_at hp2, rd_at hp2, Option.bind_some, Int.toNat_natCast, hap]
        unfold stepC
        rw [hp1]
        simp only [s201, sameW]
        cases wCmp p x == 0
        · rfl
        · simp only [cond_true]
          rw [last_set hp1]
    · rw [decide_eq_true (show x.2.2.2.2.1 > at_ from Int.not_le.1 hat), if_neg (by simpa using hat)]
      rfl
  rw [scan_fold0 (fun (x : Rt) (o : List Rt) => if decide (rAt x ≤ at_) then stepC o x else o)]
  unfold countC
  rw [List.foldl_filter]
  rfl
/-! ### weights -/
def wt (half at_ : Int) (r : Rt) : Int := if half > 0 then (((1024 / 2 ^ (min ((at_ - rAt r) / half) 10).toNat : Nat)) : Int) else 1024
theorem wt_range (half at_ : Int) (r : Rt) : 0 ≤ wt half at_ r ∧ wt half at_ r ≤ 1024 := by
  unfold wt
  split
  · have := Nat.div_le_self 1024 (2 ^ (min ((at_ - rAt r) / half) 10).toNat)
    generalize 1024 / 2 ^ (min ((at_ - rAt r) / half) 10).toNat = m at *
    omega
  · omega
/-- moments that are moderate -/
structure Near (half at_ : Int) (r : Rt) : Prop where
  h0 : 0 ≤ half
  a0 : 0 ≤ rAt r
  a1 : rAt r ≤ at_
  a2 : at_ < 345686400000
theorem steps_eq {half at_ : Int} {r : Rt} (h : Near half at_ r) (hp : half > 0) :
    (if (decide ((IntKind.i64.wrap (Int.tdiv (IntKind.i64.wrap (at_ - rAt r)) half)) < (10 : Int))) then (IntKind.i64.wrap (Int.tdiv (IntKind.i64.wrap (at_ - rAt r)) half)) else (10 : Int)) = min ((at_ - rAt r) / half) 10 ∧ 0 ≤ (at_ - rAt r) / half := by
  obtain ⟨h0, a0, a1, a2⟩ := h
  have e1 : IntKind.i64.wrap (at_ - rAt r) = at_ - rAt r := wrap_ok (by omega) (by omega)
  have e2 : Int.tdiv (at_ - rAt r) half = (at_ - rAt r) / half := Int.tdiv_eq_ediv_of_nonneg (by omega)
  have e3 : 0 ≤ (at_ - rAt r) / half := Int.ediv_nonneg (by omega) (by omega)
  have e4 : (at_ - rAt r) / half ≤ at_ - rAt r := Int.ediv_le_self _ (by omega)
  rw [e1, e2, wrap_ok (by omega) (by omega)]
  refine ⟨?_, e3⟩
  by_cases h : (at_ - rAt r) / half < 10
  · rw [if_pos (decide_eq_true h)]; omega
  · rw [if_neg (by simpa using h)]; omega
theorem wt_join {σ : Type} {half at_ : Int} {r : Rt} (h : Near half at_ r) :
    (bif (decide (half > (0 : Int))) then
      bif decide (half = 0) then
        none
      else
        bif decide (0 ≤ (if (decide ((IntKind.i64.wrap (Int.tdiv (IntKind.i64.wrap (at_ - rAt r)) half)) < (10 : Int))) then (IntKind.i64.wrap (Int.tdiv (IntKind.i64.wrap (at_ - rAt r)) half)) else (10 : Int))) then
          some (.inr (((Int.fdiv (1024 : Int) ((2 : Int) ^ (min (Int.toNat (if (decide ((IntKind.i64.wrap (Int.tdiv (IntKind.i64.wrap (at_ - rAt r)) half)) < (10 : Int))) then (IntKind.i64.wrap (Int.tdiv (IntKind.i64.wrap (at_ - rAt r)) half)) else (10 : Int))) 64))), ()), ()))
        else
          none
    else
      some (.inr (((1024 : Int), ()), ()))) = (some (.inr ((wt half at_ r, ()), ())) : Option (σ ⊕ ((Int × Unit) × Unit))) := by
  by_cases hp : half > 0
  · obtain ⟨e, e3⟩ := steps_eq h hp
    rw [decide_eq_true hp, decide_eq_false (show ¬ half = 0 from by omega), e, decide_eq_true (show 0 ≤ min ((at_ - rAt r) / half) 10 from by omega)]
    show (some (Sum.inr ((Int.fdiv 1024 ((2 : Int) ^ (min (Int.toNat (min ((at_ - rAt r) / half) 10)) 64)), ()), ())) : Option (σ ⊕ ((Int × Unit) × Unit))) = _
    unfold wt
    rw [if_pos hp]
    have hm : min (min ((at_ - rAt r) / half) 10).toNat 64 = (min ((at_ - rAt r) / half) 10).toNat := by omega
    rw [hm]
    generalize (min ((at_ - rAt r) / half) 10).toNat = n
    rw [Int.fdiv_eq_ediv_of_nonneg _ (Int.le_of_lt (Int.pow_pos (by decide)))]
    have e : (((1024 / 2 ^ n : Nat)) : Int) = (1024 : Int) / (2 : Int) ^ n := by rw [Int.natCast_ediv, Int.natCast_pow]; rfl
    rw [e]
  · rw [decide_eq_false hp]
    unfold wt
    rw [if_neg hp]
    rfl
/-! ### sums -/
abbrev Mi : Type := MapC .str (.int .i64)
def iGet (x : ByteArray) (m : Mi) : Int := mget (keq .str) (0 : Int) x m.1
def iPut (x : ByteArray) (v : Int) (m : Mi) : Mi := mput (keq .str) x v m
theorem iGet_put (x y : ByteArray) (v : Int) (m : Mi) : iGet y (iPut x v m) = cond (sEq y x) v (iGet y m) := mget_mput (eq := keq .str) (fun a b => sEq_iff) 0 x v m y
def addR2 (half at_ : Int) (r : Rt) (m : Mi × Mi) : Mi × Mi :=
  (iPut (rTo r) (IntKind.i64.wrap (iGet (rTo r) m.1 + IntKind.i64.wrap (IntKind.i64.wrap (1000 * wt half at_ r) * rStars r))) m.1,
   iPut (rTo r) (IntKind.i64.wrap (iGet (rTo r) m.2 + IntKind.i64.wrap (1000 * wt half at_ r))) m.2)
/-- the sum of what counts for somebody -/
def tot (g : Rt → Int) (who : ByteArray) : List Rt → Int
  | [] => 0
  | r :: l => (bif sEq (rTo r) who then g r else 0) + tot g who l
def gS (half at_ : Int) (r : Rt) : Int := 1000 * wt half at_ r * rStars r
def gW (half at_ : Int) (r : Rt) : Int := 1000 * wt half at_ r
theorem gW_range (half at_ : Int) (r : Rt) : 0 ≤ gW half at_ r ∧ gW half at_ r ≤ 1024000 := by
  have := wt_range half at_ r
  unfold gW
  omega
theorem gS_range {half at_ : Int} {r : Rt} (h : 1 ≤ rStars r ∧ rStars r ≤ 5) : 0 ≤ gS half at_ r ∧ gS half at_ r ≤ 5120000 := by
  have hg := gW_range half at_ r
  unfold gS
  rw [show 1000 * wt half at_ r = gW half at_ r from rfl]
  refine ⟨Int.mul_nonneg hg.1 (by omega), ?_⟩
  calc gW half at_ r * rStars r ≤ 1024000 * 5 := Int.mul_le_mul hg.2 h.2 (by omega) (by decide)
    _ = 5120000 := by decide
theorem tot_range {g : Rt → Int} {B : Int} (hB : 0 ≤ B) (who : ByteArray) : ∀ (l : List Rt), (∀ r ∈ l, 0 ≤ g r ∧ g r ≤ B) → 0 ≤ tot g who l ∧ tot g who l ≤ B * (l.length : Int)
  | [], _ => by simp [tot]
  | r :: l, h => by
    have h1 := h r (by simp)
    have h2 := tot_range hB who l (fun x hx => h x (by simp [hx]))
    simp only [tot, List.length_cons]
    have e : B * ((l.length + 1 : Nat) : Int) = B * (l.length : Int) + B := by rw [Int.natCast_add, Int.mul_add]; simp
    rw [e]
    cases sEq (rTo r) who <;> simp only [cond_true, cond_false] <;> omega
theorem sums_get (half at_ : Int) : ∀ (C : List Rt) (m : Mi × Mi) (B : Int), (∀ r ∈ C, 1 ≤ rStars r ∧ rStars r ≤ 5) → (∀ who, 0 ≤ iGet who m.1 ∧ iGet who m.1 ≤ B) → (∀ who, 0 ≤ iGet who m.2 ∧ iGet who m.2 ≤ B) → B + 5120000 * (C.length : Int) ≤ 4611686018427387904 →
    ∀ who, iGet who (C.foldl (fun m r => addR2 half at_ r m) m).1 = iGet who m.1 + tot (gS half at_) who C ∧ iGet who (C.foldl (fun m r => addR2 half at_ r m) m).2 = iGet who m.2 + tot (gW half at_) who C
  | [], m, B, _, _, _, _, who => by simp [tot]
  | r :: C, m, B, hst, hm1, hm2, hB, who => by
    have hs := hst r (by simp)
    have g1 := gS_range (half := half) (at_ := at_) hs
    have g2 := gW_range half at_ r
    have hlen : 5120000 * ((r :: C).length : Int) = 5120000 * (C.length : Int) + 5120000 := by simp; omega
    rw [hlen] at hB
    have e1 : IntKind.i64.wrap (1000 * wt half at_ r) = gW half at_ r := wrap_ok (by unfold gW at g2; omega) (by unfold gW at g2; omega)
    have e2 : IntKind.i64.wrap (gW half at_ r * rStars r) = gS half at_ r := wrap_ok (by unfold gS at g1; unfold gW; omega) (by unfold gS at g1; unfold gW; omega)
    have a1 := hm1 (rTo r)
    have a2 := hm2 (rTo r)
    have e3 : IntKind.i64.wrap (iGet (rTo r) m.1 + gS half at_ r) = iGet (rTo r) m.1 + gS half at_ r := wrap_ok (by omega) (by omega)
    have e4 : IntKind.i64.wrap (iGet (rTo r) m.2 + gW half at_ r) = iGet (rTo r) m.2 + gW half at_ r := wrap_ok (by omega) (by omega)
    have p1 : ∀ who, iGet who (addR2 half at_ r m).1 = iGet who m.1 + (bif sEq (rTo r) who then gS half at_ r else 0) := fun who => by
      unfold addR2
      rw [e1, e2, e3, iGet_put]
      by_cases h : who = rTo r
      · rw [sEq_iff.2 h, sEq_iff.2 h.symm, h]; rfl
      · rw [show sEq who (rTo r) = false from by rw [← Bool.not_eq_true]; exact fun e => h (sEq_iff.1 e), show sEq (rTo r) who = false from by rw [← Bool.not_eq_true]; exact fun e => h (sEq_iff.1 e).symm]
        simp
    have p2 : ∀ who, iGet who (addR2 half at_ r m).2 = iGet who m.2 + (bif sEq (rTo r) who then gW half at_ r else 0) := fun who => by
      unfold addR2
      rw [e1, e4, iGet_put]
      by_cases h : who = rTo r
      · rw [sEq_iff.2 h, sEq_iff.2 h.symm, h]; rfl
      · rw [show sEq who (rTo r) = false from by rw [← Bool.not_eq_true]; exact fun e => h (sEq_iff.1 e), show sEq (rTo r) who = false from by rw [← Bool.not_eq_true]; exact fun e => h (sEq_iff.1 e).symm]
        simp
    have ih := sums_get half at_ C (addR2 half at_ r m) (B + 5120000) (fun x hx => hst x (by simp [hx])) (fun w => by
      have := hm1 w
      rw [p1 w]
      cases sEq (rTo r) w <;> simp only [cond_true, cond_false] <;> omega) (fun w => by
      have := hm2 w
      rw [p2 w]
      cases sEq (rTo r) w <;> simp only [cond_true, cond_false] <;> omega) (by omega) who
    rw [List.foldl_cons, ih.1, ih.2, p1 who, p2 who]
    simp only [tot]
    omega
theorem sums_iter {τ : Type} (half at_ : Int) (C : List Rt) {f : (Int × Unit) × (Mi × Mi × Unit) → Option (((Int × Unit) × (Mi × Mi × Unit)) ⊕ (τ ⊕ (Unit × (Mi × Mi × Unit))))}
    (h1 : ∀ (j : Nat) (x : Rt) (m1 m2 : Mi), C[j]? = some x → f (((j : Int), ()), (m1, m2, ())) = some (.inl ((((j + 1 : Nat) : Int), ()), ((addR2 half at_ x (m1, m2)).1, (addR2 half at_ x (m1, m2)).2, ()))))
    (h2 : ∀ m1 m2, f (((C.length : Int), ()), (m1, m2, ())) = some (.inr (.inr ((), (m1, m2, ()))))) :
    iter (C.length + 1) f (((0 : Int), ()), ((([], 0) : Mi), (([], 0) : Mi), ())) = some (.inr ((), ((C.foldl (fun m r => addR2 half at_ r m) (([], 0), ([], 0))).1, (C.foldl (fun m r => addR2 half at_ r m) (([], 0), ([], 0))).2, ()))) := by
  rw [iter_scan0 (s0 := (((0 : Int), ()), ((([], 0) : Mi), (([], 0) : Mi), ()))) (β := Mi × Mi) C (fun j m => (((j : Int), ()), (m.1, m.2, ()))) (fun _ x m => .inl (addR2 half at_ x m)) (fun m => .inr ((), (m.1, m.2, ()))) (([], 0), ([], 0)) rfl (Nat.lt_succ_self _) (fun j x m hx => h1 j x m.1 m.2 hx) (fun m => h2 m.1 m.2), scan_fold0 (fun x m => addR2 half at_ x m)]
end Go.Vm

/- RatingsScored: scores. Own work. -/
set_option linter.unusedVariables false
set_option linter.unusedSimpArgs false
namespace Go.Vm
open Go.RowKit Go.Vm.Gain
def scoreN (f : Fa) (C : List Rt) (who : ByteArray) (at_ : Int) : Int := 1024 * f.1 * f.2.1 + tot (gS f.2.2.1 at_) who C
def scoreD (f : Fa) (C : List Rt) (who : ByteArray) (at_ : Int) : Int := 1024000 * f.1 + tot (gW f.2.2.1 at_) who C
def scoreQ (f : Fa) (C : List Rt) (who : ByteArray) (at_ : Int) : Option Fr := if scoreD f C who at_ = 0 then none else some (frac (scoreN f C who at_) (scoreD f C who at_))
def outQ : Option Fr → Fr × Bool × Unit
  | none => ((0, 0, ()), false, ())
  | some q => (q, true, ())
structure FaOK (f : Fa) : Prop where
  many : 0 ≤ f.1 ∧ f.1 ≤ 1000
  stars : 1000 ≤ f.2.1 ∧ f.2.1 ≤ 5000
  half : 0 ≤ f.2.2.1 ∧ f.2.2.1 ≤ 345686400000
theorem faith_ok {f : Fa} (h : fFault f = 0) : FaOK f := by
  unfold fFault at h
  obtain ⟨h1, h⟩ := cond_zero h (by decide)
  obtain ⟨h2, h⟩ := cond_zero h (by decide)
  obtain ⟨h3, h⟩ := cond_zero h (by decide)
  exact ⟨outd_false h1, outd_false h2, outd_false h3⟩
theorem base_range {f : Fa} (h : FaOK f) : 0 ≤ 1024 * f.1 * f.2.1 ∧ 1024 * f.1 * f.2.1 ≤ 5120000000 := by
  obtain ⟨⟨h1, h2⟩, ⟨h3, h4⟩, _⟩ := h
  refine ⟨Int.mul_nonneg (by omega) (by omega), ?_⟩
  calc 1024 * f.1 * f.2.1 ≤ 1024000 * 5000 := Int.mul_le_mul (by omega) h4 (by omega) (by decide)
    _ = 5120000000 := by decide
theorem score_range {f : Fa} (h : FaOK f) {C : List Rt} (hC : C.length ≤ 3000) (hs : ∀ r ∈ C, 1 ≤ rStars r ∧ rStars r ≤ 5) (who : ByteArray) (at_ : Int) :
    (0 ≤ scoreN f C who at_ ∧ scoreN f C who at_ ≤ 20480000000) ∧ (0 ≤ scoreD f C who at_ ∧ scoreD f C who at_ ≤ 16384000000) := by
  have h1 := base_range h
  have h2 := tot_range (g := gS f.2.2.1 at_) (B := 5120000) (by decide) who C (fun r hr => gS_range (hs r hr))
  have h3 := tot_range (g := gW f.2.2.1 at_) (B := 5120000) (by decide) who C (fun r _ => by have := gW_range f.2.2.1 at_ r; omega)
  obtain ⟨⟨m1, m2⟩, _, _⟩ := h
  unfold scoreN scoreD
  omega
theorem score_apt {f : Fa} (h : FaOK f) {C : List Rt} (hC : C.length ≤ 3000) (hs : ∀ r ∈ C, 1 ≤ rStars r ∧ rStars r ≤ 5) (who : ByteArray) (at_ : Int) (h0 : scoreD f C who at_ ≠ 0) : Apt (scoreN f C who at_) (scoreD f C who at_) := by
  have := score_range h hC hs who at_
  exact ⟨by omega, by omega, by omega, by omega⟩
/-- what somebody has, read off the sums -/
theorem score_join {σ : Type} {f : Fa} (h : FaOK f) {C : List Rt} (hC : C.length ≤ 3000) (hs : ∀ r ∈ C, 1 ≤ rStars r ∧ rStars r ≤ 5) (who : ByteArray) (at_ : Int) {m : Mi × Mi} (hm : m = C.foldl (fun m r => addR2 f.2.2.1 at_ r m) (([], 0), ([], 0))) :
    (bif ((IntKind.i64.wrap (iGet who m.2 + (IntKind.i64.wrap ((1024000 : Int) * f.1)))) == (0 : Int)) then
      some (.inr (((((0 : Int), (0 : Int), ()), false, ()) : Fr × Bool × Unit), ()))
    else
      Option.bind (s203 (IntKind.i64.wrap (iGet who m.1 + (IntKind.i64.wrap ((IntKind.i64.wrap ((1024 : Int) * f.1)) * f.2.1)))) (IntKind.i64.wrap (iGet who m.2 + (IntKind.i64.wrap ((1024000 : Int) * f.1))))) fun v5 =>
      some (.inr ((v5.1, true, ()), ()))) = (some (.inr (outQ (scoreQ f C who at_), ())) : Option (σ ⊕ ((Fr × Bool × Unit) × Unit))) := by
  have hg := sums_get f.2.2.1 at_ C (([], 0), ([], 0)) 0 hs (fun w => by show 0 ≤ (0 : Int) ∧ (0 : Int) ≤ 0; omega) (fun w => by show 0 ≤ (0 : Int) ∧ (0 : Int) ≤ 0; omega) (by omega) who
  rw [← hm] at hg
  have g1 : iGet who m.1 = tot (gS f.2.2.1 at_) who C := by rw [hg.1]; exact Int.zero_add _
  have g2 : iGet who m.2 = tot (gW f.2.2.1 at_) who C := by rw [hg.2]; exact Int.zero_add _
  have hr := score_range h hC hs who at_
  have hb := base_range h
  have h1 := tot_range (g := gS f.2.2.1 at_) (B := 5120000) (by decide) who C (fun r hr => gS_range (hs r hr))
  have h2 := tot_range (g := gW f.2.2.1 at_) (B := 5120000) (by decide) who C (fun r _ => by have := gW_range f.2.2.1 at_ r; omega)
  have hmany := h.many
  have e1 : IntKind.i64.wrap ((1024000 : Int) * f.1) = 1024000 * f.1 := wrap_ok (by omega) (by omega)
  have e2 : IntKind.i64.wrap ((1024 : Int) * f.1) = 1024 * f.1 := wrap_ok (by omega) (by omega)
  have e3 : IntKind.i64.wrap (1024 * f.1 * f.2.1) = 1024 * f.1 * f.2.1 := wrap_ok (by omega) (by omega)
  have e4 : IntKind.i64.wrap (iGet who m.2 + 1024000 * f.1) = scoreD f C who at_ := by
    rw [g2, wrap_ok (by omega) (by omega)]; unfold scoreD; omega
  have e5 : IntKind.i64.wrap (iGet who m.1 + 1024 * f.1 * f.2.1) = scoreN f C who at_ := by
    rw [g1, wrap_ok (by omega) (by omega)]; unfold scoreN; omega
  rw [e1, e2, e3, e4, e5]
  unfold scoreQ
  by_cases h0 : scoreD f C who at_ = 0
  · rw [h0, if_pos rfl]
    rfl
  · rw [if_neg h0, show (scoreD f C who at_ == 0) = false from by simpa using h0]
    unfold s203
    rw [if_pos (score_apt h hC hs who at_ h0)]
    rfl
def s125 (f : Fa) (l : List Rt) (who : ByteArray) (at_ : Int) : Option (Fr × Int × Unit) :=
  if nz [rFaults l, fFault f] = 0 then
    if key who = true then
      if s73 at_ = true then
        match scoreQ f (countC l at_) who at_ with
        | none => some ((0, 0, ()), 8, ())
        | some q => some (q, 0, ())
      else some ((0, 0, ()), 1, ())
    else some ((0, 0, ()), 5, ())
  else some ((0, 0, ()), nz [rFaults l, fFault f], ())
theorem moment_in {a : Int} (h : s73 a = true) : 0 ≤ a ∧ a < 345686400000 := by
  unfold s73 at h
  simp only [Bool.not_eq_true'] at h
  have := outd_false h
  omega
theorem fine_all {l : List Rt} (h : rFaults l = 0) : ∀ r ∈ l, Fine r := fun r hr => fine_of (faults_each h r hr)
theorem near_of {f : Fa} {l : List Rt} {at_ : Int} (hf : FaOK f) (hl : ∀ r ∈ l, Fine r) (ha : s73 at_ = true) {r : Rt} (hr : r ∈ countC l at_) : Near f.2.2.1 at_ r := by
  have h1 := count_mem hr
  have h2 := (hl r h1.1).timed
  exact ⟨hf.half.1, h2.1, h1.2, (moment_in ha).2⟩
theorem h125 (f : Fa) (l : List Rt) (who : ByteArray) (at_ : Int) (y : Fr × Int × Unit) (hw : WFs A125 (f, l, who, at_, ())) (h : s125 f l who at_ = some y) : ∃ k, f125 s69 s73 s75 s121 s164 s202 s203 k f l who at_ = some y := by
  clear hw
  unfold s125 at h
  by_cases hz : nz [rFaults l, fFault f] = 0
  rotate_left
  · rw [if_neg hz] at h
    cases h
    refine ⟨0, ?_⟩
    unfold f125
    rw [show (s69 [s121 l, s164 f] != 0) = true from bne_iff_ne.2 hz]
    rfl
  rw [if_pos hz] at h
  obtain ⟨z1, z2⟩ := nz2 hz
  by_cases hk : key who = true
  rotate_left
  · rw [if_neg hk] at h
    cases h
    refine ⟨0, ?_⟩
    unfold f125
    rw [show (s69 [s121 l, s164 f] != 0) = false from by rw [show s69 [s121 l, s164 f] = 0 from hz]; rfl, show s75 who = false from by rw [← Bool.not_eq_true]; exact hk]
    rfl
  rw [if_pos hk] at h
  by_cases ha : s73 at_ = true
  rotate_left
  · rw [if_neg ha] at h
    cases h
    refine ⟨0, ?_⟩
    unfold f125
    rw [show (s69 [s121 l, s164 f] != 0) = false from by rw [show s69 [s121 l, s164 f] = 0 from hz]; rfl, show s75 who = true from hk, show s73 at_ = false from by simpa using ha]
    rfl
  rw [if_pos ha] at h
  have hlen := faults_len z1
  have hC := count_len l at_
  have hf := faith_ok z2
  have hfine := fine_all z1
  have hst : ∀ r ∈ countC l at_, 1 ≤ rStars r ∧ rStars r ≤ 5 := fun r hr => (hfine r (count_mem hr).1).stars
  have hnear : ∀ r ∈ countC l at_, Near f.2.2.1 at_ r := fun r hr => near_of hf hfine ha hr
  have e257 : s202 l at_ = some (countC l at_, ()) := by unfold s202; rw [if_pos hlen]
  refine ⟨(countC l at_).length + 1, ?_⟩
  unfold f125
  rw [show (s69 [s121 l, s164 f] != 0) = false from by rw [show s69 [s121 l, s164 f] = 0 from hz]; rfl, show s75 who = true from hk, ha, e257]
  simp only [Bool.not_true, cond_false, Option.bind_some]
  have hl : (countC l at_).length ≤ 9223372036854775807 := by omega
  rw [sums_iter f.2.2.1 at_ (countC l at_) ?h1 ?h2]
  case h2 => intro m1 m2; simp
  case h1 =>
    intro j x m1 m2 hx
    simp only [lt_at hx, inR_at hx, rd_at hx, wrap_succ hx hl, cond_true]
    rw [wt_join (hnear x (List.mem_of_getElem? hx))]
    rfl
  simp only [Option.bind_some]
  refine (congrArg (fun q : Option ((Fr × Int × Unit) ⊕ ((Fr × Bool × Unit) × Unit)) => Option.bind q _) (score_join hf (by omega) hst who at_ rfl)).trans ?_
  rw [Option.bind_some]
  cases hq : scoreQ f (countC l at_) who at_ with
  | none => rw [hq] at h; cases h; rfl
  | some q => rw [hq] at h; cases h; rfl
end Go.Vm

/- RatingsScored: people by their scores. Own work. -/
set_option linter.unusedVariables false
set_option linter.unusedSimpArgs false
namespace Go.Vm
open Go.RowKit Go.Vm.Gain
/-! ### the ratings that count, twice -/
/-! ### package trust knows a score -/
def s60 : Option (Bool × Unit) := f60 s125 0
theorem h60 (y : Bool × Unit) (hw : WFs A60 ()) (h : s60 = some y) : ∃ k, f60 s125 k = some y := ⟨0, h⟩
theorem s36_true : s60 = some (true, ()) := by decide +kernel
/-! ### the order of people -/
end Go.Vm
