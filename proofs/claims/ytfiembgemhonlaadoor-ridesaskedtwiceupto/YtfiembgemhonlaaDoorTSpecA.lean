/- RidesAskedTwice: rides, rooms. Own work. -/
import Derived.Test.YtfiembgemhonlaaDoorTFn
import Derived.Test.YtfiembgemhonlaaDoorTHand
import Derived.Test.YtfiembgemhonlaaDoorUSpec
set_option linter.unusedVariables false
set_option linter.unusedSimpArgs false
namespace Go.Vm
open Go.RowKit Go.Vm.Gain
abbrev Rr : Type := ByteArray × ByteArray × ByteArray × ByteArray × Int × Int × Int × Int × Unit
abbrev Rm : Type := (Int × Int × Unit) × Int × Unit
def s68 (w : ByteArray) : Bool := !key w
theorem h68 (w : ByteArray) (hw : WFs A68 (w, ())) : ∃ k, f68 s36 k w = some (s68 w, ()) := ⟨0, rfl⟩
def s57 (l : List ByteArray) : Bool := l.all key
theorem find_all {α : Type} (p : α → Bool) : ∀ (l : List α), l.findIdx? (fun x => !p x) = none ↔ l.all p = true
  | l => by rw [List.findIdx?_eq_none_iff]; simp
theorem h57 (l : List ByteArray) (hw : WFs A57 (l, ())) : ∃ k, f57 s68 k l = some (s57 l, ()) := by
  simp only [WFs, WF] at hw
  have hl : l.length ≤ 9223372036854775807 := hw.1.1
  refine ⟨l.length + 1, ?_⟩
  unfold f57 s57
  rw [iter_find (s0 := (((0 : Int), ()), ())) l (fun i => (((i : Int), ()), ())) (fun w => !key w) (fun i => .inl (false, ())) (.inr ((), ())) rfl (Nat.lt_succ_self _) ?a1 ?a2]
  case a2 => simp
  case a1 =>
    intro j x hx
    simp only [lt_at hx, inR_at hx, rd_at hx, wrap_succ hx hl, cond_true, s68]
    rw [decide_eq_true (show (j : Int) ≥ 0 from by omega)]
    cases key x <;> rfl
  cases hf : l.findIdx? (fun w => !key w) with
  | none => rw [(find_all key l).1 hf]; rfl
  | some i =>
    have : l.all key = false := by
      rw [← Bool.not_eq_true]
      intro e
      rw [(find_all key l).2 e] at hf
      cases hf
    rw [this]; rfl
/-- what is wrong with a ride -/
def rideBad (r : Rr) : Int :=
  bif !key r.1 then 5 else bif !key r.2.1 then 5 else bif !key r.2.2.1 then 5 else bif !key r.2.2.2.1 then 5 else bif sEq r.2.2.1 r.2.2.2.1 then 6 else
  bif !s37 r.2.2.2.2.1 then 1 else bif s40 r.2.2.2.2.2.1 (IntKind.i64.wrap (r.2.2.2.2.1 + 1)) 345686400000 then 1 else bif s40 r.2.2.2.2.2.2.1 0 60 then 1 else bif s40 r.2.2.2.2.2.2.2.1 0 60 then 1 else
  bif (IntKind.i64.wrap (r.2.2.2.2.2.2.1 + r.2.2.2.2.2.2.2.1)) == 0 then 3 else 0
def s42 := rideBad
def s44 := rideBad
theorem h42 (r : Rr) (hw : WFs A42 (r, ())) : ∃ k, f42 s37 s40 s57 k r = some (s42 r, ()) := by
  refine ⟨0, ?_⟩
  unfold f42 s42 rideBad s57
  simp only [List.all_cons, List.all_nil, Bool.and_true]
  cases key r.1
  · rfl
  cases key r.2.1
  · rfl
  cases key r.2.2.1
  · rfl
  cases key r.2.2.2.1
  · rfl
  simp only [Bool.not_true, Bool.and_true, Bool.true_and, cond_false, Bool.and_self]
  cases sEq r.2.2.1 r.2.2.2.1
  rotate_left
  · rfl
  cases s37 r.2.2.2.2.1
  · rfl
  cases s40 r.2.2.2.2.2.1 (IntKind.i64.wrap (r.2.2.2.2.1 + 1)) 345686400000
  rotate_left
  · rfl
  cases s40 r.2.2.2.2.2.2.1 0 60
  rotate_left
  · rfl
  cases s40 r.2.2.2.2.2.2.2.1 0 60
  rotate_left
  · rfl
  cases (IntKind.i64.wrap (r.2.2.2.2.2.2.1 + r.2.2.2.2.2.2.2.1)) == 0 <;> rfl
theorem h44 (r : Rr) (hw : WFs A44 (r, ())) : ∃ k, f44 s12 s31 s32 k r = some (s44 r, ()) := by
  refine ⟨0, ?_⟩
  unfold f44 s44 rideBad
  simp only [in_out, Bool.not_not, show s12 = key from rfl, show s32 = s37 from rfl]
  cases key r.1
  · rfl
  cases key r.2.1
  · rfl
  cases key r.2.2.1
  · rfl
  cases key r.2.2.2.1
  · rfl
  cases sEq r.2.2.1 r.2.2.2.1
  rotate_left
  · rfl
  cases s37 r.2.2.2.2.1
  · rfl
  cases s40 r.2.2.2.2.2.1 (IntKind.i64.wrap (r.2.2.2.2.1 + 1)) 345686400000
  rotate_left
  · rfl
  cases s40 r.2.2.2.2.2.2.1 0 60
  rotate_left
  · rfl
  cases s40 r.2.2.2.2.2.2.2.1 0 60
  rotate_left
  · rfl
  cases (IntKind.i64.wrap (r.2.2.2.2.2.2.1 + r.2.2.2.2.2.2.2.1)) == 0 <;> rfl
def s43 (a b : Rr) : Bool := decide ((if (decide (b.2.2.2.2.1 > a.2.2.2.2.1)) then b.2.2.2.2.1 else a.2.2.2.2.1) < (if (decide (b.2.2.2.2.2.1 < a.2.2.2.2.2.1)) then b.2.2.2.2.2.1 else a.2.2.2.2.2.1))
def s45 := s43
theorem h43 (a b : Rr) (hw : WFs A43 (a, b, ())) : ∃ k, f43 k a b = some (s43 a b, ()) := ⟨0, rfl⟩
theorem h45 (a b : Rr) (hw : WFs A45 (a, b, ())) : ∃ k, f45 k a b = some (s45 a b, ()) := ⟨0, rfl⟩
/-- what comes of a step -/
def chkOut {α τ : Type} (out : Int → τ) (j : Nat) : Option α ⊕ ((Int × Unit) ⊕ (Unit × Unit)) → ((Int × Unit) × Unit) ⊕ (τ ⊕ (Unit × Unit))
  | .inl _ => .inl ((((j + 1 : Nat) : Int), ()), ())
  | .inr (.inl z) => .inr (.inl (out z.1))
  | .inr (.inr z) => .inr (.inr z)
/-- a check of each, and of each with the one before, whatever comes of it -/
theorem iter_chkG {α τ : Type} {xs : List α} {f : (Int × Unit) × Unit → Option (((Int × Unit) × Unit) ⊕ (τ ⊕ (Unit × Unit)))} (bad : α → Int) (ord : α → α → Bool) (out : Int → τ)
    (h1 : ∀ (j : Nat) (x : α) (p : Option α), xs[j]? = some x → PJ xs j p → f (((j : Int), ()), ()) = some (chkOut out j (chkPB bad ord x p)))
    (h2 : f (((xs.length : Int), ()), ()) = some (.inr (.inr ((), ())))) :
    iter (xs.length + 1) f (((0 : Int), ()), ()) = some (bif chkP bad ord none xs != 0 then .inl (out (chkP bad ord none xs)) else .inr ((), ())) := by
  have key : ∀ (l : List α) (j : Nat) (p : Option α) (k : Nat), xs.drop j = l → j ≤ xs.length → l.length < k → PJ xs j p →
      iter k f (((j : Int), ()), ()) = some (bif chkP bad ord p l != 0 then .inl (out (chkP bad ord p l)) else .inr ((), ())) := by
    intro l
    induction l with
    | nil =>
      intro j p k hl hj hk _
      have : j = xs.length := by
        have := List.drop_eq_nil_iff.1 hl
        omega
      subst this
      cases k with
      | zero => omega
      | succ k => simp only [iter, h2, Option.bind_some]; rfl
    | cons x l ih =>
      intro j p k hl hj hk hp
      have hx : xs[j]? = some x := by rw [← List.head?_drop, hl]; rfl
      have hlt : j < xs.length := (List.getElem?_eq_some_iff.1 hx).1
      have hl' : xs.drop (j + 1) = l := by rw [← List.drop_drop, hl]; rfl
      cases k with
      | zero => omega
      | succ k =>
        simp only [iter, h1 j x p hx hp, Option.bind_some, chkPB, chkP]
        cases hb : bad x != 0
        · simp only [cond_false]
          cases ho : ordP ord p x
          · simp only [cond_false]
            exact ih (j + 1) (some x) k hl' (by omega) (by simp at hk; omega) (.inr ⟨x, Nat.succ_pos _, by simpa using hx, rfl⟩)
          · rfl
        · simp only [cond_true, hb]
          rfl
  exact key xs 0 none _ rfl (Nat.zero_le _) (Nat.lt_succ_self _) (.inl ⟨rfl, rfl⟩)
/-- rides by their names -/
def idLe (o x : Rr) : Bool := leS x.1 o.1
def ridesFault (l : List Rr) : Int := if l.length > 1000 then 2 else chkP rideBad idLe none l
def s21 := ridesFault
theorem ride_step {τ : Type} {l : List Rr} {j : Nat} {x : Rr} {p : Option Rr} (out : Int → τ) (hl : l.length ≤ 9223372036854775807) (hx : l[j]? = some x) (hp : PJ l j p) :
    (bif (rideBad x != 0) then (some (.inr (.inl (out (rideBad x)))) : Option (((Int × Unit) × Unit) ⊕ (τ ⊕ (Unit × Unit))))
      else bif decide ((j : Int) > 0) then
        bif inR (IntKind.i64.wrap ((j : Int) - 1)) (l.length : Int) then
          bif (sLt x.1 (rd (α := Rr) zTT5 l (IntKind.i64.wrap ((j : Int) - 1))).1 || sEq x.1 (rd (α := Rr) zTT5 l (IntKind.i64.wrap ((j : Int) - 1))).1) then some (.inr (.inl (out 7)))
          else some (.inl ((((j + 1 : Nat) : Int), ()), ()))
        else none
      else some (.inl ((((j + 1 : Nat) : Int), ()), ()))) =
    some (chkOut out j (chkPB rideBad idLe x p)) := by
  unfold chkPB
  cases rideBad x != 0
  rotate_left
  · rfl
  simp only [cond_false]
  rcases hp with ⟨rfl, rfl⟩ | ⟨o, hj, ho, rfl⟩
  · rfl
  · have e0 : decide (((j : Nat) : Int) > 0) = true := by simp; omega
    simp only [e0, prev_ix hl hj ho, inR_at ho, rd_at ho, cond_true, ordP]
    show (bif leS x.1 o.1 then _ else _) = _
    unfold idLe
    cases leS x.1 o.1 <;> rfl
theorem h21 (l : List Rr) (hw : WFs A21 (l, ())) : ∃ k, f21 s44 k l = some (s21 l, ()) := by
  simp only [WFs, WF] at hw
  have hl : l.length ≤ 9223372036854775807 := hw.1.1
  clear hw
  refine ⟨l.length + 1, ?_⟩
  unfold f21 s21 ridesFault
  rw [show (1000 : Int) = ((1000 : Nat) : Int) from rfl, len_gt]
  by_cases hn : l.length > 1000
  · simp [hn]
  · simp only [hn, decide_false, cond_false, if_false]
    rw [iter_chkG (xs := l) rideBad idLe (fun z => (z, ())) ?a1 ?a2]
    case a2 => simp
    case a1 =>
      intro j x p hx hp
      simp only [lt_at hx, inR_at hx, rd_at hx, wrap_succ hx hl, cond_true, show s44 = rideBad from rfl]
      exact ride_step (fun z => (z, ())) hl hx hp
    cases hc : chkP rideBad idLe none l != 0
    · rw [show chkP rideBad idLe none l = 0 from by simpa using hc]; rfl
    · rfl
/-! ### rooms -/
def roomBad (r : Rm) : Int := bif s40 r.1.1 0 345686400000 then 1 else bif decide (r.1.1 ≥ r.1.2.1) then 1 else bif decide (r.1.2.1 > 345686400000) then 1 else bif s40 r.2.1 0 1000000 then 1 else 0
def roomOrd (o x : Rm) : Bool := decide (x.1.1 < o.1.2.1)
def roomsFault (l : List Rm) : Int := if l.length > 200 then 2 else chkP roomBad roomOrd none l
def s23 := roomsFault
def s25 := roomsFault
theorem h23 (l : List Rm) (hw : WFs A23 (l, ())) : ∃ k, f23 s40 k l = some (s23 l, ()) := by
  simp only [WFs, WF] at hw
  have hl : l.length ≤ 9223372036854775807 := hw.1.1
  clear hw
  refine ⟨l.length + 1, ?_⟩
  unfold f23 s23 roomsFault
  rw [show (200 : Int) = ((200 : Nat) : Int) from rfl, len_gt]
  by_cases hn : l.length > 200
  · simp [hn]
  · simp only [hn, decide_false, cond_false, if_false]
    rw [iter_chkG (xs := l) roomBad roomOrd (fun z => (z, ())) ?a1 ?a2]
    case a2 => simp
    case a1 =>
      intro j x p hx hp
      simp only [lt_at hx, inR_at hx, rd_at hx, wrap_succ hx hl, cond_true, chkPB, roomBad]
      cases s40 x.1.1 0 345686400000
      rotate_left
      · rfl
      cases decide (x.1.1 ≥ x.1.2.1)
      rotate_left
      · rfl
      cases decide (x.1.2.1 > 345686400000)
      rotate_left
      · rfl
      cases s40 x.2.1 0 1000000
      rotate_left
      · rfl
      rcases hp with ⟨rfl, rfl⟩ | ⟨o, hj, ho, rfl⟩
      · rfl
      · have e0 : decide (((j : Nat) : Int) > 0) = true := by simp; omega
        simp only [e0, prev_ix hl hj ho, inR_at ho, rd_at ho, cond_true, cond_false, ordP, roomOrd]
        cases decide (x.1.1 < o.1.2.1) <;> rfl
    cases hc : chkP roomBad roomOrd none l != 0
    · rw [show chkP roomBad roomOrd none l = 0 from by simpa using hc]; rfl
    · rfl
theorem h25 (l : List Rm) (hw : WFs A25 (l, ())) : ∃ k, f25 s31 k l = some (s25 l, ()) := by
  simp only [WFs, WF] at hw
  have hl : l.length ≤ 9223372036854775807 := hw.1.1
  clear hw
  refine ⟨l.length + 1, ?_⟩
  unfold f25 s25 roomsFault
  rw [show (200 : Int) = ((200 : Nat) : Int) from rfl, len_gt]
  by_cases hn : l.length > 200
  · simp [hn]
  · simp only [hn, decide_false, cond_false, if_false]
    rw [iter_chkG (xs := l) roomBad roomOrd (fun z => (z, ())) ?a1 ?a2]
    case a2 => simp
    case a1 =>
      intro j x p hx hp
      simp only [lt_at hx, inR_at hx, rd_at hx, wrap_succ hx hl, cond_true, chkPB, in_out, Bool.not_not]
      have hb : roomBad x = bif decide (x.1.1 < 0) then 1 else bif decide (x.1.1 ≥ x.1.2.1) then 1 else bif decide (x.1.2.1 > 345686400000) then 1 else bif s40 x.2.1 0 1000000 then 1 else 0 := by
        unfold roomBad
        have e : s40 x.1.1 0 345686400000 = (decide (x.1.1 < 0) || decide (x.1.1 > 345686400000)) := rfl
        rw [e]
        by_cases h1 : x.1.1 < 0
        · simp [h1]
        · by_cases h2 : x.1.1 > 345686400000
          · by_cases h3 : x.1.1 ≥ x.1.2.1
            · simp [h2, h3]
            · have h4 : x.1.2.1 > 345686400000 := by omega
              simp [h2, h4]
          · simp [h1, h2]
      rw [hb]
      cases decide (x.1.1 < 0)
      rotate_left
      · rfl
      cases decide (x.1.1 ≥ x.1.2.1)
      rotate_left
      · rfl
      cases decide (x.1.2.1 > 345686400000)
      rotate_left
      · rfl
      cases s40 x.2.1 0 1000000
      rotate_left
      · rfl
      rcases hp with ⟨rfl, rfl⟩ | ⟨o, hj, ho, rfl⟩
      · rfl
      · have e0 : decide (((j : Nat) : Int) > 0) = true := by simp; omega
        simp only [e0, prev_ix hl hj ho, inR_at ho, rd_at ho, cond_true, cond_false, ordP, roomOrd]
        cases decide (x.1.1 < o.1.2.1) <;> rfl
    cases hc : chkP roomBad roomOrd none l != 0
    · rw [show chkP roomBad roomOrd none l = 0 from by simpa using hc]; rfl
    · rfl
end Go.Vm
