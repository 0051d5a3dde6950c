/- DeedTexts: what is wrong with deeds (DeedsMerge, another seat; renumbered). Own work. -/
import Derived.Test.YtbjpkdbneopgkaaGreatDoorEFn
import Derived.Test.YtbjpkdbneopgkaaGreatDoorVmQ
set_option linter.unusedVariables false
set_option linter.unusedSimpArgs false
set_option maxRecDepth 100000
namespace Go.Vm
open Go.RowKit Go.Vm.Gain
abbrev Cr : Type := ByteArray × Int × Int × Unit
abbrev Dd : Type := ByteArray × Int × Int × Int × ByteArray × ByteArray × Cr × Rd × Unit
abbrev dSite (d : Dd) : ByteArray := d.1
abbrev dNo (d : Dd) : Int := d.2.1
abbrev dAt (d : Dd) : Int := d.2.2.1
abbrev dKind (d : Dd) : Int := d.2.2.2.1
abbrev dKey (d : Dd) : ByteArray := d.2.2.2.2.1
abbrev dNode (d : Dd) : ByteArray := d.2.2.2.2.2.1
abbrev dCar (d : Dd) : Cr := d.2.2.2.2.2.2.1
abbrev dRide (d : Dd) : Rd := d.2.2.2.2.2.2.2.1
/-! ### strings.Compare -/
/-! ### rides -/
/-! ### deeds -/
def zC (c : Cr) : Bool := sEq c.1 ByteArray.empty && (c.2.1 == 0 && (c.2.2.1 == 0 && true))
def zR (r : Rd) : Bool := sEq r.1 ByteArray.empty && (sEq r.2.1 ByteArray.empty && (sEq r.2.2.1 ByteArray.empty && (sEq r.2.2.2.1 ByteArray.empty && (r.2.2.2.2.1 == 0 && (r.2.2.2.2.2.1 == 0 && (r.2.2.2.2.2.2.1 == 0 && (r.2.2.2.2.2.2.2.1 == 0 && true)))))))
/-- what is wrong with a deed -/
def dFault (d : Dd) : Int :=
  bif !key (dSite d) then 5 else bif s99 (dNo d) 1 1000000 then 1 else bif !s105 (dAt d) then 1 else bif s99 (dKind d) 1 4 then 4 else
  bif dKind d == 1 then (bif !key (dCar d).1 then 5 else bif !key (dNode d) then 5 else bif s99 (dCar d).2.1 0 60 then 1 else bif s99 (dCar d).2.2.1 0 60 then 1 else bif !(sEq (dKey d) ByteArray.empty && zR (dRide d)) then 3 else 0)
  else bif dKind d == 3 then (bif rideBad (dRide d) != 0 then rideBad (dRide d) else bif !(sEq (dKey d) ByteArray.empty && (sEq (dNode d) ByteArray.empty && zC (dCar d))) then 3 else 0)
  else (bif !key (dKey d) then 5 else bif !(sEq (dNode d) ByteArray.empty && (zC (dCar d) && zR (dRide d))) then 3 else 0)
def s93 := dFault
def s56 := dFault
theorem h93 (d : Dd) (hw : WFs A93 (d, ())) : ∃ k, f93 s98 s99 s105 s106 k d = some (s93 d, ()) := ⟨0, by
  unfold f93 s93 dFault
  simp only [show s98 = key from rfl, show s106 = rideBad from rfl]
  cases key (dSite d)
  · rfl
  cases s99 (dNo d) 1 1000000
  rotate_left
  · rfl
  cases s105 (dAt d)
  · rfl
  cases s99 (dKind d) 1 4
  rotate_left
  · rfl
  cases h1 : dKind d == 1
  · cases h3 : dKind d == 3
    · cases key (dKey d)
      · rfl
      simp only [Bool.not_true, cond_false, cond_true, Option.bind_some, sEq_self, beq_self_eq_true, Bool.true_and, h1, h3]
      simp only [zC, zR, Bool.and_true, cond_one, Bool.and_assoc]
    · cases he : rideBad (dRide d) != 0
      · simp only [Bool.not_true, cond_false, cond_true, Option.bind_some, sEq_self, beq_self_eq_true, Bool.true_and, Bool.and_true, h1, h3, he]
        simp only [zC, zR, Bool.and_true, cond_one, Bool.and_assoc]
      · simp only [Bool.not_true, cond_false, cond_true, Option.bind_some, h1, h3, he]
  · cases key (dCar d).1
    · simp only [Bool.not_true, Bool.not_false, cond_false, cond_true, Option.bind_some, h1]
    cases key (dNode d)
    · simp only [Bool.not_true, Bool.not_false, cond_false, cond_true, Option.bind_some, h1]
    cases s99 (dCar d).2.1 0 60
    rotate_left
    · simp only [Bool.not_true, Bool.not_false, cond_false, cond_true, Option.bind_some, h1]
    cases s99 (dCar d).2.2.1 0 60
    rotate_left
    · simp only [Bool.not_true, Bool.not_false, cond_false, cond_true, Option.bind_some, h1]
    simp only [Bool.not_true, cond_false, cond_true, Option.bind_some, sEq_self, beq_self_eq_true, Bool.true_and, Bool.and_true, h1]
    simp only [zC, zR, Bool.and_true, cond_one, Bool.and_assoc]⟩
theorem h56 (d : Dd) (hw : WFs A56 (d, ())) : ∃ k, f56 s31 s32 s33 s34 k d = some (s56 d, ()) := ⟨0, by
  unfold f56 s56 dFault
  simp only [show s34 = key from rfl, show s33 = rideBad from rfl, show s31 = s105 from rfl, in_not_out]
  have ez : sEq (ByteArray.mk #[]) ByteArray.empty = true := by decide +kernel
  have ez2 : sEq ByteArray.empty ByteArray.empty = true := by decide +kernel
  cases key (dSite d)
  · rfl
  cases s99 (dNo d) 1 1000000
  rotate_left
  · rfl
  cases s105 (dAt d)
  · rfl
  cases s99 (dKind d) 1 4
  rotate_left
  · rfl
  cases h1 : dKind d == 1
  · cases h3 : dKind d == 3
    · cases key (dKey d)
      · rfl
      simp only [Bool.not_true, cond_false, cond_true, Option.bind_some, ez, ez2, beq_self_eq_true, Bool.true_and, Bool.and_true, h1, h3]
      simp only [zC, zR, Bool.and_true, cond_one, Bool.and_assoc]
    · cases he : rideBad (dRide d) != 0
      · simp only [Bool.not_true, cond_false, cond_true, Option.bind_some, ez, ez2, beq_self_eq_true, Bool.true_and, Bool.and_true, h1, h3, he]
        simp only [zC, zR, Bool.and_true, cond_one, Bool.and_assoc]
      · simp only [Bool.not_true, cond_false, cond_true, Option.bind_some, h1, h3, he]
  · cases key (dCar d).1
    · simp only [Bool.not_true, Bool.not_false, cond_false, cond_true, Option.bind_some, h1]
    cases key (dNode d)
    · simp only [Bool.not_true, Bool.not_false, cond_false, cond_true, Option.bind_some, h1]
    cases s99 (dCar d).2.1 0 60
    rotate_left
    · simp only [Bool.not_true, Bool.not_false, cond_false, cond_true, Option.bind_some, h1]
    cases s99 (dCar d).2.2.1 0 60
    rotate_left
    · simp only [Bool.not_true, Bool.not_false, cond_false, cond_true, Option.bind_some, h1]
    simp only [Bool.not_true, cond_false, cond_true, Option.bind_some, ez, ez2, beq_self_eq_true, Bool.true_and, Bool.and_true, h1]
    simp only [zC, zR, Bool.and_true, cond_one, Bool.and_assoc]⟩
/-! ### their order -/
def dCmp : Dd → Dd → Int := lexC (fun a b => cmpI (dAt a) (dAt b)) (lexC (fun a b => cmpS (dSite a) (dSite b)) (fun a b => cmpI (dNo a) (dNo b)))
theorem dCmp_ok : CmpOK dCmp (fun _ => True) := (cmpI_ok.on dAt).lex ((cmpS_ok.on dSite).lex (cmpI_ok.on dNo))
def s94 (a b : Dd) : Int := dCmp a b
theorem h94 (a b : Dd) (hw : WFs A94 (a, b, ())) : ∃ k, f94 s76 s108 s109 k a b = some (s94 a b, ()) := ⟨0, by
  unfold f94 s94 s108
  rw [nz_lex]
  rfl⟩
def s57 (a b : Dd) : Int := bif dAt a != dAt b then s75 (IntKind.i64.wrap (dAt a - dAt b)) else bif !sEq (dSite a) (dSite b) then cmpS (dSite a) (dSite b) else s75 (IntKind.i64.wrap (dNo a - dNo b))
theorem h57 (a b : Dd) (hw : WFs A57 (a, b, ())) : ∃ k, f57 s75 s76 k a b = some (s57 a b, ()) := ⟨0, by
  unfold f57 s57
  simp only [cond_one]; rfl⟩
/-- a deed whose numbers are moderate -/
def Small (d : Dd) : Prop := 0 ≤ dAt d ∧ dAt d < 345686400000 ∧ 0 ≤ dNo d ∧ dNo d ≤ 1000001
theorem s154_cmp {a b : Dd} (ha : Small a) (hb : Small b) : s57 a b = dCmp a b := by
  obtain ⟨a1, a2, a3, a4⟩ := ha
  obtain ⟨b1, b2, b3, b4⟩ := hb
  unfold s57 dCmp lexC
  by_cases h : dAt a = dAt b
  · have e1 : (dAt a != dAt b) = false := by simp [h]
    rw [e1, cond_false, if_pos (cmpI_zero.2 h)]
    by_cases h2 : dSite a = dSite b
    · rw [show sEq (dSite a) (dSite b) = true from sEq_iff.2 h2, if_pos (cmpS_zero.2 h2)]
      exact sub_sign a3 (by omega) b3 (by omega)
    · have e2 : sEq (dSite a) (dSite b) = false := by rw [← Bool.not_eq_true]; exact fun e => h2 (sEq_iff.1 e)
      rw [e2, if_neg (fun e => h2 (cmpS_zero.1 e))]
      rfl
  · have e1 : (dAt a != dAt b) = true := by simp [h]
    rw [e1, cond_true, if_neg (fun e => h (cmpI_zero.1 e))]
    exact sub_sign a1 a2 b1 b2
theorem cond_zero {b : Bool} {x y : Int} (h : (bif b then x else y) = 0) (hx : x ≠ 0) : b = false ∧ y = 0 := by
  cases b
  · exact ⟨rfl, h⟩
  · exact absurd h hx
theorem outd_false {a b c : Int} (h : s99 a b c = false) : b ≤ a ∧ a ≤ c := by
  unfold s99 at h
  simp only [Bool.or_eq_false_iff, decide_eq_false_iff_not] at h
  omega
theorem small_of {d : Dd} (h : dFault d = 0) : Small d ∧ (1 ≤ dKind d ∧ dKind d ≤ 4) := by
  unfold dFault at h
  obtain ⟨h1, h⟩ := cond_zero h (by decide)
  obtain ⟨h2, h⟩ := cond_zero h (by decide)
  obtain ⟨h3, h⟩ := cond_zero h (by decide)
  obtain ⟨h4, h⟩ := cond_zero h (by decide)
  simp only [Bool.not_eq_false'] at h1 h3
  unfold s105 at h3
  simp only [Bool.not_eq_true'] at h3
  have := outd_false h2
  have := outd_false h3
  have := outd_false h4
  exact ⟨⟨by omega, by omega, by omega, by omega⟩, by omega⟩
def s60 (a b : Dd) : Bool := sEq (dSite a) (dSite b) && (dNo a == dNo b)
theorem h60 (a b : Dd) (hw : WFs A60 (a, b, ())) : ∃ k, f60 k a b = some (s60 a b, ()) := ⟨0, by
  unfold f60 s60
  show (bif sEq (dSite a) (dSite b) then _ else _) = _
  cases sEq (dSite a) (dSite b) <;> rfl⟩
end Go.Vm

namespace Go.Vm
open Go.RowKit Go.Vm.Gain
section
variable {α : Type}
end
section
variable {α κ : Type} {eq : κ → κ → Bool} (heq : ∀ a b, eq a b = true ↔ a = b) (nm : α → κ)
def seenB (eq : κ → κ → Bool) (nm : α → κ) (x : α) (c : List (κ × Bool × Nat) × Nat) : (List (κ × Bool × Nat) × Nat) ⊕ ((Int × Unit) ⊕ (Unit × ((List (κ × Bool × Nat) × Nat) × Unit))) :=
  bif mget eq false (nm x) c.1 then .inr (.inl (6, ())) else .inl (mput eq (nm x) true c)
include heq
open Classical in
theorem seen_scan : ∀ (l : List α) (j : Nat) (c : List (κ × Bool × Nat) × Nat) (seen : List κ), (∀ n, mget eq false n c.1 = true ↔ n ∈ seen) →
    (match scan (fun _ => seenB eq nm) (fun c => .inr ((), (c, ()))) l j c with | .inl z => some z | .inr _ => some ((0 : Int), ())) = some (if (∀ x ∈ l, nm x ∉ seen) ∧ (l.map nm).Nodup then 0 else 6, ())
  | [], j, c, seen, _ => by simp [scan]
  | x :: l, j, c, seen, hc => by
    simp only [scan, seenB]
    cases h : mget eq false (nm x) c.1
    · simp only [cond_false]
      have hx : nm x ∉ seen := fun e => by rw [(hc _).2 e] at h; cases h
      have hc2 : ∀ n, mget eq false n (mput eq (nm x) true c).1 = true ↔ n ∈ nm x :: seen := fun n => by
        rw [mget_mput heq, List.mem_cons]
        cases h2 : eq n (nm x)
        · rw [cond_false, hc]
          have : n ≠ nm x := fun e => by rw [(heq _ _).2 e] at h2; cases h2
          simp [this]
        · simp [(heq _ _).1 h2]
      have hs := seen_scan l (j + 1) (mput eq (nm x) true c) (nm x :: seen) hc2
      refine Eq.trans hs ?_
      have hiff : ((∀ y ∈ l, nm y ∉ nm x :: seen) ∧ (l.map nm).Nodup) ↔ ((∀ y ∈ x :: l, nm y ∉ seen) ∧ ((x :: l).map nm).Nodup) := by
        simp only [List.mem_cons, not_or, List.map_cons, List.nodup_cons, forall_eq_or_imp, List.mem_map, not_exists, not_and]
        constructor
        · rintro ⟨h1, h2⟩
          exact ⟨⟨hx, fun y hy => (h1 y hy).2⟩, fun y hy => (h1 y hy).1, h2⟩
        · rintro ⟨⟨_, h1⟩, h2, h3⟩
          exact ⟨fun y hy => ⟨h2 y hy, h1 y hy⟩, h3⟩
      by_cases hq : (∀ y ∈ l, nm y ∉ nm x :: seen) ∧ (l.map nm).Nodup
      · rw [if_pos hq, if_pos (hiff.1 hq)]
      · rw [if_neg hq, if_neg (fun h => hq (hiff.2 h))]
    · simp only [cond_true]
      have := (hc _).1 h
      rw [if_neg (fun h => h.1 x (by simp) this)]
omit heq
/-- each against all before it -/
def dupB (same : α → α → Bool) (xs : List α) (j : Nat) (x : α) (_ : Unit) : Unit ⊕ ((Int × Unit) ⊕ (Unit × Unit)) := bif (xs.take j).any (same · x) then .inr (.inl (6, ())) else .inl ()
open Classical in
theorem dup_scan {same : α → α → Bool} (hs : ∀ a b, same a b = true ↔ nm a = nm b) (xs : List α) : ∀ (l : List α) (j : Nat), xs.drop j = l → ((xs.take j).map nm).Nodup →
    (match scan (dupB same xs) (fun _ => .inr ((), ())) l j () with | .inl z => some z | .inr _ => some ((0 : Int), ())) = some (if (xs.map nm).Nodup then 0 else 6, ())
  | [], j, hl, hn => by
    have : xs.take j = xs := by
      have := congrArg List.length hl
      simp at this
      exact List.take_of_length_le (by omega)
    rw [this] at hn
    rw [if_pos hn]
    rfl
  | x :: l, j, hl, hn => by
    have hx : xs[j]? = some x := by
      have := congrArg (·[0]?) hl
      simpa using this
    have hl' : xs.drop (j + 1) = l := by
      have := congrArg List.tail hl
      simpa using this
    have ht : xs.take (j + 1) = xs.take j ++ [x] := by
      rw [List.take_add_one, hx]; rfl
    simp only [scan, dupB]
    cases h : (xs.take j).any (same · x)
    · simp only [cond_false]
      refine dup_scan hs xs l (j + 1) hl' ?_
      rw [ht, List.map_append]
      refine List.nodup_append.2 ⟨hn, by simp, fun a ha b hb e => ?_⟩
      obtain ⟨y, hy, rfl⟩ := List.mem_map.1 ha
      simp only [List.map_cons, List.map_nil, List.mem_singleton] at hb
      have := List.any_eq_false.1 h y hy
      exact this ((hs y x).2 (e.trans hb))
    · simp only [cond_true]
      obtain ⟨y, hy, hyx⟩ := List.any_eq_true.1 h
      rw [if_neg]
      intro hnd
      have h2 : ((xs.take (j + 1)).map nm).Nodup := hnd.sublist ((List.take_sublist _ _).map _)
      rw [ht, List.map_append] at h2
      have := (List.nodup_append.1 h2).2.2 (nm y) (List.mem_map.2 ⟨y, hy, rfl⟩) (nm x) (by simp)
      exact this ((hs y x).1 hyx)
end
/-! ### names -/
abbrev Nm : Type := ByteArray × Int × Unit
def nm (d : Dd) : Nm := (dSite d, dNo d, ())
abbrev TN : Ty := .struct (.cons .str (.cons (.int .i64) .nil))
def nmEq (a b : Nm) : Bool := keq TN a b
theorem nm_iff (a b : Nm) : nmEq a b = true ↔ a = b := keq_iff (K := TN) rfl a b
theorem s157_iff (a b : Dd) : s60 a b = true ↔ nm a = nm b := by
  unfold s60 nm
  rw [Bool.and_eq_true, sEq_iff, beq_iff_eq, Prod.mk.injEq, Prod.mk.injEq]
  simp
open Classical in
noncomputable def dFaults (l : List Dd) : Int :=
  if l.length > 1000 then 2 else if chkP dFault (fun o x => decide (dCmp x o ≤ 0)) none l = 0 then (if (l.map nm).Nodup then 0 else 6) else chkP dFault (fun o x => decide (dCmp x o ≤ 0)) none l
noncomputable def s61 (l : List Dd) : Int := dFaults l
noncomputable def s15 (l : List Dd) : Int := dFaults l
theorem h61 (l : List Dd) (hw : WFs A61 (l, ())) : ∃ k, f61 s93 s94 k l = some (s61 l, ()) := by
  simp only [WFs, WF] at hw
  have hl : l.length ≤ 9223372036854775807 := hw.1.1
  clear hw
  refine ⟨l.length + 1, ?_⟩
  unfold f61 s61 dFaults
  rw [show (1000 : Int) = ((1000 : Nat) : Int) from rfl, len_gt]
  by_cases hn : l.length > 1000
  · simp [hn]
  · simp only [hn, decide_false, cond_false, if_false]
    rw [iter_chkP (xs := l) dFault (fun o x => decide (dCmp x o ≤ 0)) ?a1 ?a2]
    case a2 => simp
    case a1 =>
      intro j x p hx hp
      simp only [lt_at hx, inR_at hx, rd_at hx, wrap_succ hx hl, cond_true, chkPB, ordP, show s93 = dFault from rfl]
      cases hb : dFault x != 0
      · simp only [cond_false]
        rcases hp with ⟨rfl, rfl⟩ | ⟨o, hj, ho, rfl⟩
        · rfl
        · have e0 : decide (((j : Nat) : Int) > 0) = true := by simp; omega
          simp only [e0, prev_ix hl hj ho, inR_at ho, rd_at ho, cond_true, s94]
          cases decide (dCmp x o ≤ 0) <;> rfl
      · rfl
    cases hc : chkP dFault (fun o x => decide (dCmp x o ≤ 0)) none l != 0
    · have hc0 : chkP dFault (fun o x => decide (dCmp x o ≤ 0)) none l = 0 := by simpa using hc
      simp only [cond_false, Option.bind_some, hc0, if_true]
      have hs := seen_scan (α := Dd) nm_iff nm l 0 ([], 0) [] (fun n => by simp [mget, mfind])
      have hi := iter_scan0 (f := fun y3 : (Int × Unit) × ((List (Nm × Bool × Nat) × Nat) × Unit) =>
          bif decide (y3.1.1 < (l.length : Int)) then
            bif inR y3.1.1 (l.length : Int) then
              bif mget nmEq false (nm (rd (ByteArray.empty, (0 : Int), (0 : Int), (0 : Int), ByteArray.empty, ByteArray.empty, (ByteArray.empty, (0 : Int), (0 : Int), ()), (ByteArray.empty, ByteArray.empty, ByteArray.empty, ByteArray.empty, (0 : Int), (0 : Int), (0 : Int), (0 : Int), ()), ()) l y3.1.1)) y3.2.1.1 then some (.inr (.inl (6, ())))
              else some (.inl ((IntKind.i64.wrap (y3.1.1 + 1), ()), (mput nmEq (nm (rd (ByteArray.empty, (0 : Int), (0 : Int), (0 : Int), ByteArray.empty, ByteArray.empty, (ByteArray.empty, (0 : Int), (0 : Int), ()), (ByteArray.empty, ByteArray.empty, ByteArray.empty, ByteArray.empty, (0 : Int), (0 : Int), (0 : Int), (0 : Int), ()), ()) l y3.1.1)) true y3.2.1, ())))
            else none
          else some (.inr (.inr ((), (y3.2.1, ()))))) (s0 := (((0 : Int), ()), (([], 0), ()))) (k := l.length + 1) l (fun j c => (((j : Int), ()), (c, ()))) (fun _ => seenB nmEq nm) (fun c => .inr ((), (c, ()))) ([], 0) rfl (Nat.lt_succ_self _)
        (fun j x c hx => by
          simp only [lt_at hx, inR_at hx, rd_at hx, wrap_succ hx hl, cond_true, seenB]
          cases mget nmEq false (nm x) c.1 <;> rfl) (fun c => by simp)
      refine (congrArg (fun q => Option.bind q (fun r : (Int × Unit) ⊕ (Unit × ((List (Nm × Bool × Nat) × Nat) × Unit)) => match r with | .inl z => some z | .inr z4 => some ((0 : Int), ()))) hi).trans ?_
      rw [Option.bind_some]
      revert hs
      generalize scan (fun _ => seenB nmEq nm) (fun c => .inr ((), (c, ()))) l 0 ([], 0) = q
      intro hs
      cases q <;> simpa using hs
    · have hc0 : ¬ chkP dFault (fun o x => decide (dCmp x o ≤ 0)) none l = 0 := by simpa using hc
      simp only [cond_true, Option.bind_some, hc0, if_false]
theorem ord_same (o x : Dd) (ho : dFault o = 0) (hx : dFault x = 0) : decide (s57 o x ≥ 0) = decide (dCmp x o ≤ 0) := by
  rw [s154_cmp (small_of ho).1 (small_of hx).1]
  congr 1
  apply propext
  exact (dCmp_ok.flip_le trivial trivial).symm
theorem h15 (l : List Dd) (hw : WFs A15 (l, ())) : ∃ k, f15 s56 s57 s60 k l = some (s15 l, ()) := by
  simp only [WFs, WF] at hw
  have hl : l.length ≤ 9223372036854775807 := hw.1.1
  clear hw
  refine ⟨l.length + 1, ?_⟩
  unfold f15 s15 dFaults
  rw [show (1000 : Int) = ((1000 : Nat) : Int) from rfl, len_gt]
  by_cases hn : l.length > 1000
  · simp [hn]
  · simp only [hn, decide_false, cond_false, if_false]
    rw [iter_chkP (xs := l) dFault (fun o x => decide (s57 o x ≥ 0)) ?a1 ?a2]
    case a2 => simp
    case a1 =>
      intro j x p hx hp
      simp only [lt_at hx, inR_at hx, rd_at hx, wrap_succ hx hl, cond_true, chkPB, ordP, show s56 = dFault from rfl]
      cases hb : dFault x != 0
      · simp only [cond_false]
        rcases hp with ⟨rfl, rfl⟩ | ⟨o, hj, ho, rfl⟩
        · rfl
        · have e0 : decide (((j : Nat) : Int) > 0) = true := by simp; omega
          simp only [e0, prev_ix hl hj ho, inR_at ho, rd_at ho, cond_true]
          cases decide (s57 o x ≥ 0) <;> rfl
      · rfl
    rw [chkP_congr (o1 := fun o x => decide (s57 o x ≥ 0)) (o2 := fun o x => decide (dCmp x o ≤ 0)) ord_same l none (fun o e => by cases e)]
    cases hc : chkP dFault (fun o x => decide (dCmp x o ≤ 0)) none l != 0
    · have hc0 : chkP dFault (fun o x => decide (dCmp x o ≤ 0)) none l = 0 := by simpa using hc
      simp only [cond_false, Option.bind_some, hc0, if_true]
      have hs := dup_scan (α := Dd) nm (same := s60) s157_iff l l 0 rfl (by simp)
      rw [iter_scan0 (s0 := (((0 : Int), ()), ())) l (fun j _ => (((j : Int), ()), ())) (dupB s60 l) (fun _ => .inr ((), ())) () rfl (Nat.lt_succ_self _) ?b1 ?b2]
      · by_cases hq : (l.map nm).Nodup
        · rw [if_pos hq] at hs ⊢
          revert hs
          generalize scan (dupB s60 l) (fun _ => .inr ((), ())) l 0 () = q
          intro hs
          cases q with
          | inl z => exact hs
          | inr z => rfl
        · rw [if_neg hq] at hs ⊢
          revert hs
          generalize scan (dupB s60 l) (fun _ => .inr ((), ())) l 0 () = q
          intro hs
          cases q with
          | inl z => exact hs
          | inr z => cases hs
      case b2 => simp
      case b1 =>
        intro j x b hx
        have hj := (List.getElem?_eq_some_iff.1 hx).1
        have e0 : (decide ((0 : Int) ≤ 0) && (decide ((0 : Int) ≤ (j : Int)) && decide ((j : Int) ≤ (l.length : Int)))) = true := by simp; omega
        simp only [lt_at hx, inR_at hx, rd_at hx, wrap_succ hx hl, cond_true, e0, Int.toNat_natCast, show Int.toNat 0 = 0 from rfl, List.drop_zero]
        have htl : (l.take j).length ≤ 9223372036854775807 := by rw [List.length_take]; omega
        rw [iter_find (s0 := (((0 : Int), ()), (x, ()))) (l.take j) (fun i => (((i : Int), ()), (x, ()))) (fun o => s60 o x) (fun i => .inl (.inr (.inl (6, ())))) (.inr ((), (x, ()))) rfl (by rw [List.length_take]; omega) ?c1 ?c2]
        · unfold dupB
          rw [any_find]
          cases (l.take j).findIdx? (s60 · x) <;> rfl
        case c2 => simp
        case c1 =>
          intro i y hy
          simp only [lt_at hy, inR_at hy, rd_at hy, wrap_succ hy htl, cond_true]
          have e1 : decide ((i : Int) ≥ 0) = true := by simp
          rw [e1]
          cases s60 y x <;> rfl
    · have hc0 : ¬ chkP dFault (fun o x => decide (dCmp x o ≤ 0)) none l = 0 := by simpa using hc
      simp only [cond_true, Option.bind_some, hc0, if_false]
/-- deeds that are right -/
structure Deeds (l : List Dd) : Prop where
  len : l.length ≤ 1000
  each : ∀ d ∈ l, dFault d = 0
  names : (l.map nm).Nodup
theorem deeds_of {l : List Dd} (h : dFaults l = 0) : Deeds l := by
  unfold dFaults at h
  split at h
  · cases h
  · rename_i hn
    split at h
    · rename_i hc
      split at h
      · rename_i hnd
        exact ⟨by omega, chkP_all l none hc, hnd⟩
      · cases h
    · rename_i hc
      exact absurd h hc
end Go.Vm

namespace Go.Vm
open Go.RowKit Go.Vm.Gain
def ddEq (a b : Dd) : Bool := keq EY3 a b
theorem ddEq_iff (a b : Dd) : ddEq a b = true ↔ a = b := keq_iff (K := EY3) rfl a b
theorem dd_chain (a b : Dd) : ((sEq a.1 b.1) && ((a.2.1 == b.2.1) && ((a.2.2.1 == b.2.2.1) && ((a.2.2.2.1 == b.2.2.2.1) && ((sEq a.2.2.2.2.1 b.2.2.2.2.1) && ((sEq a.2.2.2.2.2.1 b.2.2.2.2.2.1) && (((sEq a.2.2.2.2.2.2.1.1 b.2.2.2.2.2.2.1.1) && ((a.2.2.2.2.2.2.1.2.1 == b.2.2.2.2.2.2.1.2.1) && ((a.2.2.2.2.2.2.1.2.2.1 == b.2.2.2.2.2.2.1.2.2.1) && true))) && (((sEq a.2.2.2.2.2.2.2.1.1 b.2.2.2.2.2.2.2.1.1) && ((sEq a.2.2.2.2.2.2.2.1.2.1 b.2.2.2.2.2.2.2.1.2.1) && ((sEq a.2.2.2.2.2.2.2.1.2.2.1 b.2.2.2.2.2.2.2.1.2.2.1) && ((sEq a.2.2.2.2.2.2.2.1.2.2.2.1 b.2.2.2.2.2.2.2.1.2.2.2.1) && ((a.2.2.2.2.2.2.2.1.2.2.2.2.1 == b.2.2.2.2.2.2.2.1.2.2.2.2.1) && ((a.2.2.2.2.2.2.2.1.2.2.2.2.2.1 == b.2.2.2.2.2.2.2.1.2.2.2.2.2.1) && ((a.2.2.2.2.2.2.2.1.2.2.2.2.2.2.1 == b.2.2.2.2.2.2.2.1.2.2.2.2.2.2.1) && ((a.2.2.2.2.2.2.2.1.2.2.2.2.2.2.2.1 == b.2.2.2.2.2.2.2.1.2.2.2.2.2.2.2.1) && true)))))))) && true)))))))) = ddEq a b := rfl
end Go.Vm
