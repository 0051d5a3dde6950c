/- DeedsMerge: the reference's merge, and writing. Own work. -/
import Derived.Test.YtfiembgemhonlaaDSpecC
set_option linter.unusedVariables false
set_option linter.unusedSimpArgs false
namespace Go.Vm
open Go.RowKit Go.Vm.Gain
noncomputable def s65 (a b : List Dd) : Option (List Dd × Int × Unit) :=
  if a.length ≤ 1000 ∧ b.length ≤ 1000 then
    match addAll a b with
    | none => some ([], 13, ())
    | some out => (sortF TD0 s154 out).bind fun v => if v.length > 1000 then some ([], 2, ()) else some (v, 0, ())
  else none
def addR (d : Dd) (out : List Dd) : List Dd ⊕ ((List Dd × Int × Unit) ⊕ ((List Dd × Unit) × Unit)) :=
  match addD out d with
  | some o => .inl o
  | none => .inr (.inl ([], 13, ()))
theorem addR_scan : ∀ (l : List Dd) (j : Nat) (out : List Dd), scan (fun _ => addR) (fun o => .inr ((o, ()), ())) l j out = match addAll out l with | some o => .inr ((o, ()), ()) | none => .inl ([], 13, ())
  | [], j, out => rfl
  | d :: l, j, out => by
    simp only [scan, addR, addAll]
    cases addD out d with
    | none => rfl
    | some o => exact addR_scan l (j + 1) o
theorem find_idx {α : Type} (p : α → Bool) : ∀ (l : List α), (match l.findIdx? p with | some i => l[i]? | none => none) = l.find? p
  | [] => rfl
  | x :: l => by
    have ih := find_idx p l
    simp only [List.findIdx?_cons, List.find?_cons]
    cases p x
    · simp only [Bool.false_eq_true, if_false]
      rw [← ih]
      cases l.findIdx? p <;> rfl
    · rfl
theorem h65 (a b : List Dd) (y : List Dd × Int × Unit) (hw : WFs A65 (a, b, ())) (h : s65 a b = some y) : ∃ k, f65 m62 s157 s159_154 k a b = some y := by
  clear hw
  unfold s65 at h
  split at h
  rotate_left
  · cases h
  rename_i hab
  obtain ⟨hla, hlb⟩ := hab
  refine ⟨a.length + b.length + 1, ?_⟩
  unfold f65
  have e1 : m62 a = some a := by unfold m62; rw [if_pos (by omega)]
  rw [e1, Option.bind_some]
  have hl : b.length ≤ 9223372036854775807 := by omega
  rw [iter_scanI (s0 := ((a, (0 : Int), ()), ())) b (fun j o => ((o, (j : Int), ()), ())) (fun _ => addR) (fun o => .inr ((o, ()), ())) (fun j o => o.length ≤ a.length + j) a (by omega) rfl (by omega) ?a0 ?a1 ?a2]
  case a2 => intro o _; simp
  case a0 =>
    intro j x o o' hx hJ hs
    unfold addR at hs
    split at hs
    · rename_i q hq
      cases hs
      have := addD_len hq
      omega
    · cases hs
  case a1 =>
    intro j x o hx hJ
    have hj := (List.getElem?_eq_some_iff.1 hx).1
    have hlo : o.length ≤ 9223372036854775807 := by omega
    simp only [lt_at hx, inR_at hx, rd_at hx, wrap_succ hx hl, cond_true]
    rw [iter_find (s0 := (((0 : Int), ()), (x, ()))) o (fun i => (((i : Int), ()), (x, ()))) (fun q => s157 q x) (fun i => .inl (.inr (((i : Int), ()), (o, x, ())))) (.inr ((), (x, ()))) rfl (by omega) ?c1 ?c2]
    case c2 => simp
    case c1 =>
      intro i q hq
      simp only [lt_at hq, inR_at hq, rd_at hq, wrap_succ hq hlo, cond_true]
      cases s157 q x <;> rfl
    have hf := find_idx (fun q => s157 q x) o
    unfold addR addD
    rw [← hf]
    cases hi : o.findIdx? (fun q => s157 q x) with
    | none =>
      simp only [Option.bind_some]
      rw [show decide ((-1 : Int) < 0) = true from by decide, cond_true, show decide (o.length + [x].length ≤ 4294967296) = true from decide_eq_true (by simp; omega), cond_true]
    | some i =>
      obtain ⟨hlt, _⟩ := List.findIdx?_eq_some_iff_getElem.1 hi
      have hq : o[i]? = some (o[i]'hlt) := List.getElem?_eq_getElem hlt
      simp only [Option.bind_some, hq]
      rw [show decide ((i : Int) < 0) = false from by simp, cond_false]
      simp only [inR_at hq, rd_at hq, cond_true, dd_chain]
      cases ddEq (o[i]'hlt) x <;> rfl
  rw [Option.bind_some, addR_scan]
  cases ha : addAll a b with
  | none =>
    rw [ha] at h
    exact h
  | some out =>
    rw [ha] at h
    simp only at h ⊢
    rw [← h]
    unfold s159_154
    cases sortF TD0 s154 out with
    | none => rfl
    | some v =>
      show (bif decide ((v.length : Int) > ((1000 : Nat) : Int)) then some (([] : List Dd), (2 : Int), ()) else some (v, (0 : Int), ())) = if v.length > 1000 then some ([], 2, ()) else some (v, 0, ())
      rw [len_gt]
      by_cases hn : v.length > 1000
      · rw [if_pos hn, decide_eq_true hn, cond_true]; rfl
      · rw [if_neg hn, decide_eq_false hn, cond_false]; rfl
/-! ### writing -/
def wNo (l : List Dd) (x : Dd) : Int := l.foldl (fun n d => bif sEq (dSite d) (dSite x) then (if dNo d > n then dNo d else n) else n) (dNo x)
def wDeed (l : List Dd) (x : Dd) : Dd := (dSite x, IntKind.i64.wrap (wNo l x + 1), x.2.2)
def withNo (x : Dd) (n : Int) : Dd := (dSite x, n, x.2.2)
/-- deeds with one more; ord: a deed is not behind the last one -/
def wAll (fault : Dd → Int) (ord : Dd → Dd → Bool) (l : List Dd) (x : Dd) : List Dd × Int × Unit :=
  bif dNo x != 0 then ([], 3, ()) else bif fault (wDeed l x) != 0 then ([], fault (wDeed l x), ()) else
  bif (match l.getLast? with | none => false | some o => ord o (wDeed l x)) then ([], 7, ()) else if l.length ≥ 1000 then ([], 2, ()) else (l ++ [wDeed l x], 0, ())
noncomputable def s71 (l : List Dd) (x : Dd) : Option (List Dd × Int × Unit) :=
  if dFaults l = 0 then some (wAll dFault (fun o x => decide (dCmp x o ≤ 0)) l x) else some ([], dFaults l, ())
def s72 (l : List Dd) (x : Dd) : Option (List Dd × Int × Unit) := if l.length ≤ 1000 then some (wAll dFault (fun o x => decide (s154 o x ≥ 0)) l x) else none
theorem last_at {α : Type} {l : List α} (h : l.length ≤ 9223372036854775807) : (l = [] ∧ l.getLast? = none) ∨ ∃ o, 0 < l.length ∧ l.getLast? = some o ∧ l[l.length - 1]? = some o ∧ IntKind.i64.wrap ((l.length : Int) - 1) = ((l.length - 1 : Nat) : Int) := by
  rcases List.eq_nil_or_concat l with rfl | ⟨m, o, rfl⟩
  · exact .inl ⟨rfl, rfl⟩
  · refine .inr ⟨o, by simp, by simp, by simp, ?_⟩
    rw [List.concat_eq_append, List.length_append] at h ⊢
    simp only [List.length_cons, List.length_nil] at h ⊢
    rw [wrap_ok (by omega) (by omega)]
    omega
theorem h71 (l : List Dd) (x : Dd) (y : List Dd × Int × Unit) (hw : WFs A71 (l, x, ())) (h : s71 l x = some y) : ∃ k, f71 m62 s68 s160 s167 k l x = some y := by
  clear hw
  unfold s71 at h
  refine ⟨l.length + 1, ?_⟩
  unfold f71
  by_cases hz : dFaults l = 0
  · rw [if_pos hz] at h
    have hd := deeds_of hz
    have hlen := hd.len
    have hl : l.length ≤ 9223372036854775807 := by omega
    cases h
    simp only [show s68 = dFaults from rfl, hz, bne_self_eq_false, cond_false]
    unfold wAll
    cases h0 : dNo x != 0
    rotate_left
    · rfl
    simp only [cond_false]
    rw [iter_fold (s0 := (((0 : Int), ()), (x, ()))) (β := Int) l (fun j n => (((j : Int), ()), (withNo x n, ()))) (fun d n => bif sEq (dSite d) (dSite x) then (if dNo d > n then dNo d else n) else n) (fun n => .inr ((), (withNo x n, ()))) (fun _ _ => True) (dNo x) trivial rfl (Nat.lt_succ_self _) (fun _ _ _ _ _ => trivial) ?a1 ?a2]
    case a2 => intro n _; simp
    case a1 =>
      intro j d n hx _
      simp only [lt_at hx, inR_at hx, rd_at hx, wrap_succ hx hl, cond_true, withNo]
      cases hs : sEq (dSite d) (dSite x)
      · simp only [hs, cond_false]
      · simp only [hs, cond_true, decide_eq_true_eq]
    rw [Option.bind_some]
    have e2 : m62 l = some l := by unfold m62; rw [if_pos (by omega)]
    have e3 : decide (l.length + [wDeed l x].length ≤ 4294967296) = true := decide_eq_true (by simp; omega)
    show (bif dFault (wDeed l x) != 0 then some ([], dFault (wDeed l x), ()) else _) = _
    cases hf : dFault (wDeed l x) != 0
    rotate_left
    · rfl
    simp only [cond_false]
    have e4 : decide (((l.length : Nat) : Int) ≥ 1000) = decide (l.length ≥ 1000) := by congr 1; apply propext; omega
    rcases last_at hl with ⟨rfl, hla⟩ | ⟨o, hpos, hla, ho, hwr⟩
    · rw [hla]
      rfl
    · rw [hla]
      have e0 : decide (((l.length : Nat) : Int) > 0) = true := by simp; omega
      simp only [e0, hwr, inR_at ho, rd_at ho, cond_true, Option.bind_some]
      show (bif decide (dCmp (wDeed l x) o ≤ 0) then _ else _) = _
      cases decide (dCmp (wDeed l x) o ≤ 0)
      rotate_left
      · rfl
      simp only [cond_false, e4]
      by_cases hn : l.length ≥ 1000
      · rw [decide_eq_true hn, if_pos hn]; rfl
      · rw [decide_eq_false hn, if_neg hn, cond_false, e2, Option.bind_some]
        show (bif decide (l.length + [wDeed l x].length ≤ 4294967296) then _ else _) = _
        rw [e3]
        rfl
  · rw [if_neg hz] at h
    have : (dFaults l != 0) = true := by simpa using hz
    rw [show s68 = dFaults from rfl, this]
    exact h
theorem h72 (l : List Dd) (x : Dd) (y : List Dd × Int × Unit) (hw : WFs A72 (l, x, ())) (h : s72 l x = some y) : ∃ k, f72 m62 s153 s154 k l x = some y := by
  clear hw
  unfold s72 at h
  split at h
  rotate_left
  · cases h
  rename_i hlen
  cases h
  refine ⟨l.length + 1, ?_⟩
  unfold f72
  have hl : l.length ≤ 9223372036854775807 := by omega
  unfold wAll
  cases h0 : dNo x != 0
  rotate_left
  · rfl
  simp only [cond_false]
  rw [iter_fold (s0 := (((0 : Int), ()), (x, ()))) (β := Int) l (fun j n => (((j : Int), ()), (withNo x n, ()))) (fun d n => bif sEq (dSite d) (dSite x) then (if dNo d > n then dNo d else n) else n) (fun n => .inr ((), (withNo x n, ()))) (fun _ _ => True) (dNo x) trivial rfl (Nat.lt_succ_self _) (fun _ _ _ _ _ => trivial) ?a1 ?a2]
  case a2 => intro n _; simp
  case a1 =>
    intro j d n hx _
    simp only [lt_at hx, inR_at hx, rd_at hx, wrap_succ hx hl, cond_true, withNo]
    cases hs : sEq (dSite d) (dSite x)
    · simp only [hs, cond_false]
    · simp only [hs, cond_true, decide_eq_true_eq]
  rw [Option.bind_some]
  have e2 : m62 l = some l := by unfold m62; rw [if_pos (by omega)]
  have e3 : decide (l.length + [wDeed l x].length ≤ 4294967296) = true := decide_eq_true (by simp; omega)
  show (bif dFault (wDeed l x) != 0 then some ([], dFault (wDeed l x), ()) else _) = _
  cases hf : dFault (wDeed l x) != 0
  rotate_left
  · rfl
  simp only [cond_false]
  rw [e2, Option.bind_some]
  show (bif decide (l.length + [wDeed l x].length ≤ 4294967296) then _ else _) = _
  rw [e3, cond_true]
  have e4 : decide ((((l ++ [wDeed l x]).length : Nat) : Int) > 1000) = decide (l.length ≥ 1000) := by
    rw [List.length_append]; congr 1; apply propext; simp only [List.length_cons, List.length_nil]; omega
  have e5 : (bif decide ((((l ++ [wDeed l x]).length : Nat) : Int) > 1000) then some (([] : List Dd), (2 : Int), ()) else some (l ++ [wDeed l x], (0 : Int), ())) = some (if l.length ≥ 1000 then ([], 2, ()) else (l ++ [wDeed l x], 0, ())) := by
    rw [e4]
    by_cases hn : l.length ≥ 1000
    · rw [decide_eq_true hn, if_pos hn]; rfl
    · rw [decide_eq_false hn, if_neg hn]; rfl
  rcases last_at hl with ⟨rfl, hla⟩ | ⟨o, hpos, hla, ho, hwr⟩
  · rw [hla]
    rfl
  · rw [hla]
    have e0 : decide (((l.length : Nat) : Int) > 0) = true := by simp; omega
    simp only [e0, hwr, inR_at ho, rd_at ho, cond_true, Option.bind_some]
    show (bif decide (s154 o (wDeed l x) ≥ 0) then _ else _) = _
    cases decide (s154 o (wDeed l x) ≥ 0)
    rotate_left
    · rfl
    exact e5
theorem last_mem {α : Type} {l : List α} {o : α} (h : l.getLast? = some o) : o ∈ l := List.mem_of_getLast? h
theorem write_same {l : List Dd} (h : dFaults l = 0) (x : Dd) : wAll dFault (fun o x => decide (s154 o x ≥ 0)) l x = wAll dFault (fun o x => decide (dCmp x o ≤ 0)) l x := by
  unfold wAll
  cases dNo x != 0
  rotate_left
  · rfl
  simp only [cond_false]
  cases hf : dFault (wDeed l x) != 0
  rotate_left
  · rfl
  have hf0 : dFault (wDeed l x) = 0 := by simpa using hf
  simp only [cond_false]
  cases hl : l.getLast? with
  | none => rfl
  | some o =>
    simp only
    rw [ord_same o (wDeed l x) ((deeds_of h).each o (last_mem hl)) hf0]
end Go.Vm
