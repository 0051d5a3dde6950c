/- DeedsMerge: what is wrong with deeds. Own work. -/
import Derived.Test.YtfiembgemhonlaaDSpecA
set_option linter.unusedVariables false
set_option linter.unusedSimpArgs false
namespace Go.Vm
open Go.RowKit Go.Vm.Gain
section
variable {α : Type}
def ordP (ord : α → α → Bool) (p : Option α) (x : α) : Bool := match p with | none => false | some o => ord o x
/-- each by itself, and with the one before -/
def chkP (bad : α → Int) (ord : α → α → Bool) : Option α → List α → Int
  | _, [] => 0
  | p, x :: l => bif bad x != 0 then bad x else bif ordP ord p x then 7 else chkP bad ord (some x) l
def chkPB (bad : α → Int) (ord : α → α → Bool) (x : α) (p : Option α) : Option α ⊕ ((Int × Unit) ⊕ (Unit × Unit)) :=
  bif bad x != 0 then .inr (.inl (bad x, ())) else bif ordP ord p x then .inr (.inl (7, ())) else .inl (some x)
theorem chkP_scan (bad : α → Int) (ord : α → α → Bool) : ∀ (l : List α) (j : Nat) (p : Option α), scan (fun _ => chkPB bad ord) (fun _ => .inr ((), ())) l j p = bif chkP bad ord p l != 0 then .inl (chkP bad ord p l, ()) else .inr ((), ())
  | [], j, p => rfl
  | x :: l, j, p => by
    simp only [scan, chkPB, chkP]
    cases h : bad x != 0
    · simp only [cond_false]
      cases h2 : ordP ord p x
      · simp only [cond_false]
        exact chkP_scan bad ord l (j + 1) (some x)
      · rfl
    · simp only [cond_true, h]
/-- the one before -/
def PJ (xs : List α) (j : Nat) (p : Option α) : Prop := (j = 0 ∧ p = none) ∨ ∃ o, 0 < j ∧ xs[j - 1]? = some o ∧ p = some o
theorem iter_chkP {xs : List α} {f : (Int × Unit) × Unit → Option (((Int × Unit) × Unit) ⊕ ((Int × Unit) ⊕ (Unit × Unit)))} (bad : α → Int) (ord : α → α → Bool)
    (h1 : ∀ (j : Nat) (x : α) (p : Option α), xs[j]? = some x → PJ xs j p → f (((j : Int), ()), ()) = some (match chkPB bad ord x p with | .inl _ => .inl ((((j + 1 : Nat) : Int), ()), ()) | .inr t => .inr t))
    (h2 : f (((xs.length : Int), ()), ()) = some (.inr (.inr ((), ())))) :
    iter (xs.length + 1) f (((0 : Int), ()), ()) = some (bif chkP bad ord none xs != 0 then .inl (chkP bad ord none xs, ()) else .inr ((), ())) := by
  rw [iter_scanI (s0 := (((0 : Int), ()), ())) (k := xs.length + 1) (β := Option α) xs (fun j _ => (((j : Int), ()), ())) (fun _ => chkPB bad ord) (fun _ => .inr ((), ())) (PJ xs) none (.inl ⟨rfl, rfl⟩) rfl (Nat.lt_succ_self _) ?_ ?_ (fun _ _ => h2), chkP_scan]
  · intro j x b b' hx _ h
    refine .inr ⟨x, Nat.succ_pos _, by simpa using hx, ?_⟩
    unfold chkPB at h
    cases h3 : bad x != 0 <;> rw [h3] at h
    · cases h4 : ordP ord b x <;> rw [h4] at h
      · cases h; rfl
      · cases h
    · cases h
  · intro j x b hx hJ
    rw [h1 j x b hx hJ]
    cases chkPB bad ord x b <;> rfl
theorem chkP_congr {bad : α → Int} {o1 o2 : α → α → Bool} (h : ∀ o x, bad o = 0 → bad x = 0 → o1 o x = o2 o x) : ∀ (l : List α) (p : Option α), (∀ o, p = some o → bad o = 0) → chkP bad o1 p l = chkP bad o2 p l
  | [], p, _ => rfl
  | x :: l, p, hp => by
    simp only [chkP]
    cases hb : bad x != 0
    · have hx : bad x = 0 := by simpa using hb
      have : ordP o1 p x = ordP o2 p x := by
        cases p with
        | none => rfl
        | some o => exact h o x (hp o rfl) hx
      rw [this, chkP_congr h l (some x) (fun o e => by cases e; exact hx)]
    · rfl
theorem chkP_all {bad : α → Int} {ord : α → α → Bool} : ∀ (l : List α) (p : Option α), chkP bad ord p l = 0 → ∀ x ∈ l, bad x = 0
  | [], p, _, x, hx => by cases hx
  | y :: l, p, h, x, hx => by
    simp only [chkP] at h
    cases hb : bad y != 0 <;> rw [hb] at h
    · cases h2 : ordP ord p y <;> rw [h2] at h
      · rcases List.mem_cons.1 hx with rfl | hx
        · simpa using hb
        · exact chkP_all l _ h x hx
      · cases h
    · simp only [cond_true] at h
      simp [h] at hb
end
section
variable {α κ : Type} {eq : κ → κ → Bool} (heq : ∀ a b, eq a b = true ↔ a = b) (nm : α → κ)
def seenB (eq : κ → κ → Bool) (nm : α → κ) (x : α) (c : List (κ × Bool × Nat) × Nat) : (List (κ × Bool × Nat) × Nat) ⊕ ((Int × Unit) ⊕ (Unit × ((List (κ × Bool × Nat) × Nat) × Unit))) :=
  bif mget eq false (nm x) c.1 then .inr (.inl (6, ())) else .inl (mput eq (nm x) true c)
include heq
open Classical in
theorem seen_scan : ∀ (l : List α) (j : Nat) (c : List (κ × Bool × Nat) × Nat) (seen : List κ), (∀ n, mget eq false n c.1 = true ↔ n ∈ seen) →
    (match scan (fun _ => seenB eq nm) (fun c => .inr ((), (c, ()))) l j c with | .inl z => some z | .inr _ => some ((0 : Int), ())) = some (if (∀ x ∈ l, nm x ∉ seen) ∧ (l.map nm).Nodup then 0 else 6, ())
  | [], j, c, seen, _ => by simp [scan]
  | x :: l, j, c, seen, hc => by
    simp only [scan, seenB]
    cases h : mget eq false (nm x) c.1
    · simp only [cond_false]
      have hx : nm x ∉ seen := fun e => by rw [(hc _).2 e] at h; cases h
      have hc2 : ∀ n, mget eq false n (mput eq (nm x) true c).1 = true ↔ n ∈ nm x :: seen := fun n => by
        rw [mget_mput heq, List.mem_cons]
        cases h2 : eq n (nm x)
        · rw [cond_false, hc]
          have : n ≠ nm x := fun e => by rw [(heq _ _).2 e] at h2; cases h2
          simp [this]
        · simp [(heq _ _).1 h2]
      have hs := seen_scan l (j + 1) (mput eq (nm x) true c) (nm x :: seen) hc2
      refine Eq.trans hs ?_
      have hiff : ((∀ y ∈ l, nm y ∉ nm x :: seen) ∧ (l.map nm).Nodup) ↔ ((∀ y ∈ x :: l, nm y ∉ seen) ∧ ((x :: l).map nm).Nodup) := by
        simp only [List.mem_cons, not_or, List.map_cons, List.nodup_cons, forall_eq_or_imp, List.mem_map, not_exists, not_and]
        constructor
        · rintro ⟨h1, h2⟩
          exact ⟨⟨hx, fun y hy => (h1 y hy).2⟩, fun y hy => (h1 y hy).1, h2⟩
        · rintro ⟨⟨_, h1⟩, h2, h3⟩
          exact ⟨fun y hy => ⟨h2 y hy, h1 y hy⟩, h3⟩
      by_cases hq : (∀ y ∈ l, nm y ∉ nm x :: seen) ∧ (l.map nm).Nodup
      · rw [if_pos hq, if_pos (hiff.1 hq)]
      · rw [if_neg hq, if_neg (fun h => hq (hiff.2 h))]
    · simp only [cond_true]
      have := (hc _).1 h
      rw [if_neg (fun h => h.1 x (by simp) this)]
omit heq
/-- each against all before it -/
def dupB (same : α → α → Bool) (xs : List α) (j : Nat) (x : α) (_ : Unit) : Unit ⊕ ((Int × Unit) ⊕ (Unit × Unit)) := bif (xs.take j).any (same · x) then .inr (.inl (6, ())) else .inl ()
open Classical in
theorem dup_scan {same : α → α → Bool} (hs : ∀ a b, same a b = true ↔ nm a = nm b) (xs : List α) : ∀ (l : List α) (j : Nat), xs.drop j = l → ((xs.take j).map nm).Nodup →
    (match scan (dupB same xs) (fun _ => .inr ((), ())) l j () with | .inl z => some z | .inr _ => some ((0 : Int), ())) = some (if (xs.map nm).Nodup then 0 else 6, ())
  | [], j, hl, hn => by
    have : xs.take j = xs := by
      have := congrArg List.length hl
      simp at this
      exact List.take_of_length_le (by omega)
    rw [this] at hn
    rw [if_pos hn]
    rfl
  | x :: l, j, hl, hn => by
    have hx : xs[j]? = some x := by
      have := congrArg (·[0]?) hl
      simpa using this
    have hl' : xs.drop (j + 1) = l := by
      have := congrArg List.tail hl
      simpa using this
    have ht : xs.take (j + 1) = xs.take j ++ [x] := by
      rw [List.take_add_one, hx]; rfl
    simp only [scan, dupB]
    cases h : (xs.take j).any (same · x)
    · simp only [cond_false]
      refine dup_scan hs xs l (j + 1) hl' ?_
      rw [ht, List.map_append]
      refine List.nodup_append.2 ⟨hn, by simp, fun a ha b hb e => ?_⟩
      obtain ⟨y, hy, rfl⟩ := List.mem_map.1 ha
      simp only [List.map_cons, List.map_nil, List.mem_singleton] at hb
      have := List.any_eq_false.1 h y hy
      exact this ((hs y x).2 (e.trans hb))
    · simp only [cond_true]
      obtain ⟨y, hy, hyx⟩ := List.any_eq_true.1 h
      rw [if_neg]
      intro hnd
      have h2 : ((xs.take (j + 1)).map nm).Nodup := hnd.sublist ((List.take_sublist _ _).map _)
      rw [ht, List.map_append] at h2
      have := (List.nodup_append.1 h2).2.2 (nm y) (List.mem_map.2 ⟨y, hy, rfl⟩) (nm x) (by simp)
      exact this ((hs y x).1 hyx)
end
/-! ### names -/
abbrev Nm : Type := ByteArray × Int × Unit
def nm (d : Dd) : Nm := (dSite d, dNo d, ())
abbrev TN : Ty := .struct (.cons .str (.cons (.int .i64) .nil))
def nmEq (a b : Nm) : Bool := keq TN a b
theorem nm_iff (a b : Nm) : nmEq a b = true ↔ a = b := keq_iff (K := TN) rfl a b
theorem s157_iff (a b : Dd) : s157 a b = true ↔ nm a = nm b := by
  unfold s157 nm
  rw [Bool.and_eq_true, sEq_iff, beq_iff_eq, Prod.mk.injEq, Prod.mk.injEq]
  simp
open Classical in
noncomputable def dFaults (l : List Dd) : Int :=
  if l.length > 1000 then 2 else if chkP dFault (fun o x => decide (dCmp x o ≤ 0)) none l = 0 then (if (l.map nm).Nodup then 0 else 6) else chkP dFault (fun o x => decide (dCmp x o ≤ 0)) none l
noncomputable def s68 (l : List Dd) : Int := dFaults l
noncomputable def s60 (l : List Dd) : Int := dFaults l
theorem h68 (l : List Dd) (hw : WFs A68 (l, ())) : ∃ k, f68 s160 s167 k l = some (s68 l, ()) := by
  simp only [WFs, WF] at hw
  have hl : l.length ≤ 9223372036854775807 := hw.1.1
  clear hw
  refine ⟨l.length + 1, ?_⟩
  unfold f68 s68 dFaults
  rw [show (1000 : Int) = ((1000 : Nat) : Int) from rfl, len_gt]
  by_cases hn : l.length > 1000
  · simp [hn]
  · simp only [hn, decide_false, cond_false, if_false]
    rw [iter_chkP (xs := l) dFault (fun o x => decide (dCmp x o ≤ 0)) ?a1 ?a2]
    case a2 => simp
    case a1 =>
      intro j x p hx hp
      simp only [lt_at hx, inR_at hx, rd_at hx, wrap_succ hx hl, cond_true, chkPB, ordP, show s167 = dFault from rfl]
      cases hb : dFault x != 0
      · simp only [cond_false]
        rcases hp with ⟨rfl, rfl⟩ | ⟨o, hj, ho, rfl⟩
        · rfl
        · have e0 : decide (((j : Nat) : Int) > 0) = true := by simp; omega
          simp only [e0, prev_ix hl hj ho, inR_at ho, rd_at ho, cond_true, s160]
          cases decide (dCmp x o ≤ 0) <;> rfl
      · rfl
    cases hc : chkP dFault (fun o x => decide (dCmp x o ≤ 0)) none l != 0
    · have hc0 : chkP dFault (fun o x => decide (dCmp x o ≤ 0)) none l = 0 := by simpa using hc
      simp only [cond_false, Option.bind_some, hc0, if_true]
      have hs := seen_scan (α := Dd) nm_iff nm l 0 ([], 0) [] (fun n => by simp [mget, mfind])
      have hi := iter_scan0 (f := fun y3 : (Int × Unit) × ((List (Nm × Bool × Nat) × Nat) × Unit) =>
          bif decide (y3.1.1 < (l.length : Int)) then
            bif inR y3.1.1 (l.length : Int) then
              bif mget nmEq false (nm (rd (ByteArray.empty, (0 : Int), (0 : Int), (0 : Int), ByteArray.empty, ByteArray.empty, (ByteArray.empty, (0 : Int), (0 : Int), ()), (ByteArray.empty, ByteArray.empty, ByteArray.empty, ByteArray.empty, (0 : Int), (0 : Int), (0 : Int), (0 : Int), ()), ()) l y3.1.1)) y3.2.1.1 then some (.inr (.inl (6, ())))
              else some (.inl ((IntKind.i64.wrap (y3.1.1 + 1), ()), (mput nmEq (nm (rd (ByteArray.empty, (0 : Int), (0 : Int), (0 : Int), ByteArray.empty, ByteArray.empty, (ByteArray.empty, (0 : Int), (0 : Int), ()), (ByteArray.empty, ByteArray.empty, ByteArray.empty, ByteArray.empty, (0 : Int), (0 : Int), (0 : Int), (0 : Int), ()), ()) l y3.1.1)) true y3.2.1, ())))
            else none
          else some (.inr (.inr ((), (y3.2.1, ()))))) (s0 := (((0 : Int), ()), (([], 0), ()))) (k := l.length + 1) l (fun j c => (((j : Int), ()), (c, ()))) (fun _ => seenB nmEq nm) (fun c => .inr ((), (c, ()))) ([], 0) rfl (Nat.lt_succ_self _)
        (fun j x c hx => by
          simp only [lt_at hx, inR_at hx, rd_at hx, wrap_succ hx hl, cond_true, seenB]
          cases mget nmEq false (nm x) c.1 <;> rfl) (fun c => by simp)
      refine (congrArg (fun q => Option.bind q (fun r : (Int × Unit) ⊕ (Unit × ((List (Nm × Bool × Nat) × Nat) × Unit)) => match r with | .inl z => some z | .inr z4 => some ((0 : Int), ()))) hi).trans ?_
      rw [Option.bind_some]
      revert hs
      generalize scan (fun _ => seenB nmEq nm) (fun c => .inr ((), (c, ()))) l 0 ([], 0) = q
      intro hs
      cases q <;> simpa using hs
    · have hc0 : ¬ chkP dFault (fun o x => decide (dCmp x o ≤ 0)) none l = 0 := by simpa using hc
      simp only [cond_true, Option.bind_some, hc0, if_false]
theorem ord_same (o x : Dd) (ho : dFault o = 0) (hx : dFault x = 0) : decide (s154 o x ≥ 0) = decide (dCmp x o ≤ 0) := by
  rw [s154_cmp (small_of ho).1 (small_of hx).1]
  congr 1
  apply propext
  exact (dCmp_ok.flip_le trivial trivial).symm
theorem any_find {α : Type} (p : α → Bool) (l : List α) : l.any p = (l.findIdx? p).isSome := by
  induction l with
  | nil => rfl
  | cons x l ih =>
    simp only [List.any_cons, List.findIdx?_cons, ih]
    cases p x
    · simp
    · rfl
theorem h60 (l : List Dd) (hw : WFs A60 (l, ())) : ∃ k, f60 s153 s154 s157 k l = some (s60 l, ()) := by
  simp only [WFs, WF] at hw
  have hl : l.length ≤ 9223372036854775807 := hw.1.1
  clear hw
  refine ⟨l.length + 1, ?_⟩
  unfold f60 s60 dFaults
  rw [show (1000 : Int) = ((1000 : Nat) : Int) from rfl, len_gt]
  by_cases hn : l.length > 1000
  · simp [hn]
  · simp only [hn, decide_false, cond_false, if_false]
    rw [iter_chkP (xs := l) dFault (fun o x => decide (s154 o x ≥ 0)) ?a1 ?a2]
    case a2 => simp
    case a1 =>
      intro j x p hx hp
      simp only [lt_at hx, inR_at hx, rd_at hx, wrap_succ hx hl, cond_true, chkPB, ordP, show s153 = dFault from rfl]
      cases hb : dFault x != 0
      · simp only [cond_false]
        rcases hp with ⟨rfl, rfl⟩ | ⟨o, hj, ho, rfl⟩
        · rfl
        · have e0 : decide (((j : Nat) : Int) > 0) = true := by simp; omega
          simp only [e0, prev_ix hl hj ho, inR_at ho, rd_at ho, cond_true]
          cases decide (s154 o x ≥ 0) <;> rfl
      · rfl
    rw [chkP_congr (o1 := fun o x => decide (s154 o x ≥ 0)) (o2 := fun o x => decide (dCmp x o ≤ 0)) ord_same l none (fun o e => by cases e)]
    cases hc : chkP dFault (fun o x => decide (dCmp x o ≤ 0)) none l != 0
    · have hc0 : chkP dFault (fun o x => decide (dCmp x o ≤ 0)) none l = 0 := by simpa using hc
      simp only [cond_false, Option.bind_some, hc0, if_true]
      have hs := dup_scan (α := Dd) nm (same := s157) s157_iff l l 0 rfl (by simp)
      rw [iter_scan0 (s0 := (((0 : Int), ()), ())) l (fun j _ => (((j : Int), ()), ())) (dupB s157 l) (fun _ => .inr ((), ())) () rfl (Nat.lt_succ_self _) ?b1 ?b2]
      · by_cases hq : (l.map nm).Nodup
        · rw [if_pos hq] at hs ⊢
          revert hs
          generalize scan (dupB s157 l) (fun _ => .inr ((), ())) l 0 () = q
          intro hs
          cases q with
          | inl z => exact hs
          | inr z => rfl
        · rw [if_neg hq] at hs ⊢
          revert hs
          generalize scan (dupB s157 l) (fun _ => .inr ((), ())) l 0 () = q
          intro hs
          cases q with
          | inl z => exact hs
          | inr z => cases hs
      case b2 => simp
      case b1 =>
        intro j x b hx
        have hj := (List.getElem?_eq_some_iff.1 hx).1
        have e0 : (decide ((0 : Int) ≤ 0) && (decide ((0 : Int) ≤ (j : Int)) && decide ((j : Int) ≤ (l.length : Int)))) = true := by simp; omega
        simp only [lt_at hx, inR_at hx, rd_at hx, wrap_succ hx hl, cond_true, e0, Int.toNat_natCast, show Int.toNat 0 = 0 from rfl, List.drop_zero]
        have htl : (l.take j).length ≤ 9223372036854775807 := by rw [List.length_take]; omega
        rw [iter_find (s0 := (((0 : Int), ()), (x, ()))) (l.take j) (fun i => (((i : Int), ()), (x, ()))) (fun o => s157 o x) (fun i => .inl (.inr (.inl (6, ())))) (.inr ((), (x, ()))) rfl (by rw [List.length_take]; omega) ?c1 ?c2]
        · unfold dupB
          rw [any_find]
          cases (l.take j).findIdx? (s157 · x) <;> rfl
        case c2 => simp
        case c1 =>
          intro i y hy
          simp only [lt_at hy, inR_at hy, rd_at hy, wrap_succ hy htl, cond_true]
          have e1 : decide ((i : Int) ≥ 0) = true := by simp
          rw [e1]
          cases s157 y x <;> rfl
    · have hc0 : ¬ chkP dFault (fun o x => decide (dCmp x o ≤ 0)) none l = 0 := by simpa using hc
      simp only [cond_true, Option.bind_some, hc0, if_false]
/-- deeds that are right -/
structure Deeds (l : List Dd) : Prop where
  len : l.length ≤ 1000
  each : ∀ d ∈ l, dFault d = 0
  names : (l.map nm).Nodup
theorem deeds_of {l : List Dd} (h : dFaults l = 0) : Deeds l := by
  unfold dFaults at h
  split at h
  · cases h
  · rename_i hn
    split at h
    · rename_i hc
      split at h
      · rename_i hnd
        exact ⟨by omega, chkP_all l none hc, hnd⟩
      · cases h
    · rename_i hc
      exact absurd h hc
end Go.Vm
