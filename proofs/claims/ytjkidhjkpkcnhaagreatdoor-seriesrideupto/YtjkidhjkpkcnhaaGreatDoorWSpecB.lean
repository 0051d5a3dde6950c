/- SeriesRide: windows, changes, series. Own work. -/
import Derived.Test.YtjkidhjkpkcnhaaGreatDoorWSpecA
set_option maxRecDepth 100000
set_option linter.unusedVariables false
set_option linter.unusedSimpArgs false
namespace Go.Vm
open Go.RowKit
abbrev Win := Int × Int × Unit
abbrev Ch := Int × Bool × Int × Unit
abbrev Sr2 := ByteArray × ByteArray × ByteArray × ByteArray × Int × Int × Int × Int × Int × Int × Int × Int × Int × List Ch × Unit
def wBad (w : Win) : Bool := s74 w.1 0 w.2.1 || decide (w.2.1 > 345686400000)
def s63 (w : Win) : Bool := !wBad w
def s19 (w : Win) : Int := bif wBad w then 1 else 0
theorem h63 (w : Win) (hw : WFs A63 (w, ())) : ∃ k, f63 s74 k w = some (s63 w, ()) := ⟨0, by
  unfold f63 s63 wBad
  have : decide (w.2.1 ≤ 345686400000) = !decide (w.2.1 > 345686400000) := by
    by_cases h : w.2.1 ≤ 345686400000
    · rw [decide_eq_true h, decide_eq_false (by omega)]; rfl
    · rw [decide_eq_false h, decide_eq_true (by omega)]; rfl
  rw [this]
  cases s74 w.1 0 w.2.1 <;> rfl⟩
theorem h19 (w : Win) (hw : WFs A19 (w, ())) : ∃ k, f19 s71 k w = some (s19 w, ()) := ⟨0, by
  unfold f19 s19 wBad
  rw [in_out, Bool.not_not]
  cases s74 w.1 0 w.2.1
  · cases decide (w.2.1 > 345686400000) <;> rfl
  · rfl⟩
/-! ### a list whose elements are right, and in order -/
section
variable {α : Type} (bad : α → Int) (ord : α → α → Bool)
def ordG (p : Option α) (x : α) : Bool := match p with
  | none => false
  | some q => ord q x
def oneG (p : Option α) (x : α) : Int := bif bad x != 0 then bad x else bif ordG ord p x then 7 else 0
def lstG : Option α → List α → Int
  | _, [] => 0
  | p, x :: l => if oneG bad ord p x = 0 then lstG (some x) l else oneG bad ord p x
def preG (xs : List α) (j : Nat) : Option α := if j = 0 then none else xs[j - 1]?
variable {τ : Type}
def bodyG (xs : List α) (out : Int → τ) (j : Nat) (x : α) (_ : Unit) : Unit ⊕ (τ ⊕ (Unit × Unit)) := if oneG bad ord (preG xs j) x = 0 then .inl () else .inr (.inl (out (oneG bad ord (preG xs j) x)))
theorem scanG (xs : List α) (out : Int → τ) : ∀ (l : List α) (j : Nat), xs.drop j = l → scan (bodyG bad ord xs out) (fun _ => .inr ((), ())) l j () = if lstG bad ord (preG xs j) l = 0 then .inr ((), ()) else .inl (out (lstG bad ord (preG xs j) l))
  | [], j, _ => rfl
  | c :: l, j, hl => by
    have hx : xs[j]? = some c := by rw [← List.head?_drop, hl]; rfl
    have hl' : xs.drop (j + 1) = l := by rw [← List.drop_drop, hl]; rfl
    simp only [scan, bodyG, lstG]
    by_cases h : oneG bad ord (preG xs j) c = 0
    · simp only [h, if_true]
      have := scanG xs out l (j + 1) hl'
      rw [show preG xs (j + 1) = some c from by simp [preG, hx]] at this
      exact this
    · simp only [h, if_false]
theorem iterG (xs : List α) (out : Int → τ) {k : Nat} {f : (Int × Unit) × Unit → Option (((Int × Unit) × Unit) ⊕ (τ ⊕ (Unit × Unit)))} (hk : xs.length < k)
    (h1 : ∀ (j : Nat) (c : α), xs[j]? = some c → f (((j : Int), ()), ()) = some (if oneG bad ord (preG xs j) c = 0 then .inl ((((j + 1 : Nat) : Int), ()), ()) else .inr (.inl (out (oneG bad ord (preG xs j) c)))))
    (h2 : f (((xs.length : Int), ()), ()) = some (.inr (.inr ((), ())))) :
    iter k f (((0 : Int), ()), ()) = some (if lstG bad ord none xs = 0 then .inr ((), ()) else .inl (out (lstG bad ord none xs))) := by
  rw [iter_scan0 (s0 := (((0 : Int), ()), ())) (β := Unit) xs (fun j _ => (((j : Int), ()), ())) (bodyG bad ord xs out) (fun _ => .inr ((), ())) () rfl hk
    (fun j c b hx => by
      rw [h1 j c hx]
      unfold bodyG
      by_cases h : oneG bad ord (preG xs j) c = 0
      · simp only [h, if_true]
      · simp only [h, if_false])
    (fun b => h2)]
  rw [scanG bad ord xs out xs 0 rfl]
  rfl
/-- a step of such a loop, where what is before is looked up -/
theorem oneG_at {xs : List α} {j : Nat} {x : α} (hx : xs[j]? = some x) (hl : xs.length ≤ 9223372036854775807) (d : α) {A B : Option (((Int × Unit) × Unit) ⊕ (τ ⊕ (Unit × Unit)))} :
    (bif decide ((j : Int) > 0) then (bif inR (IntKind.i64.wrap ((j : Int) - 1)) (xs.length : Int) then (bif ord (rd d xs (IntKind.i64.wrap ((j : Int) - 1))) x then A else B) else none) else B) = bif ordG ord (preG xs j) x then A else B := by
  by_cases hj : j = 0
  · subst hj; rfl
  · obtain ⟨q, hq, hwr⟩ := prev_at hx hl hj
    have : decide ((j : Int) > 0) = true := by simp; omega
    simp only [this, cond_true, hwr, inR_at hq, rd_at hq, preG, hj, if_false, hq, ordG]
end
/-! ### changes -/
def chBad (c : Ch) : Int := bif s74 c.1 0 4000 then 1 else bif s74 c.2.2.1 (-1440) 1440 then 1 else bif !(c.2.1 == (c.2.2.1 == (0 : Int))) then 3 else 0
def chOrd (q c : Ch) : Bool := decide (c.1 ≤ q.1)
def changesFault (l : List Ch) : Int := if l.length > 200 then 2 else lstG chBad chOrd none l
def s136 := changesFault
theorem h136 (l : List Ch) (hw : WFs A136 (l, ())) : ∃ k, f136 s74 k l = some (s136 l, ()) := by
  simp only [WFs, WF] at hw
  have hl := hw.1.1
  clear hw
  refine ⟨l.length + 1, ?_⟩
  unfold f136 s136 changesFault
  rw [show (200 : Int) = ((200 : Nat) : Int) from rfl, len_gt]
  by_cases hn : l.length > 200
  · simp [hn]
  · simp only [hn, decide_false, cond_false, if_false]
    rw [iterG chBad chOrd (τ := Int × Unit) l (fun e => (e, ())) (Nat.lt_succ_self _) ?h1 ?h2]
    · by_cases h : lstG chBad chOrd none l = 0
      · rw [if_pos h, h]; rfl
      · rw [if_neg h]; rfl
    case h1 =>
      intro j c hx
      have hstep := oneG_at (τ := Int × Unit) chOrd hx hl zWT3 (A := some (.inr (.inl (7, ())))) (B := some (.inl ((((j + 1 : Nat) : Int), ()), ())))
      simp only [lt_at hx, inR_at hx, rd_at hx, wrap_succ hx hl, cond_true]
      unfold oneG chBad
      cases s74 c.1 0 4000
      rotate_left
      · rfl
      cases s74 c.2.2.1 (-1440) 1440
      rotate_left
      · rfl
      cases !(c.2.1 == (c.2.2.1 == (0 : Int)))
      rotate_left
      · rfl
      refine hstep.trans ?_
      cases ordG chOrd (preG l j) c <;> rfl
    case h2 => simp
/-! ### series -/
def srBad (x : Sr2) : Int :=
  bif !key x.1 then 5 else bif !key x.2.1 then 5 else bif !key x.2.2.1 then 5 else bif !key x.2.2.2.1 then 5 else
  bif decide ((x.1.size : Int) > 30) then 2 else bif sEq x.2.2.1 x.2.2.2.1 then 6 else
  bif s74 x.2.2.2.2.1 0 x.2.2.2.2.2.1 then 1 else bif decide (x.2.2.2.2.2.1 > 4000) then 1 else bif s74 x.2.2.2.2.2.2.1 1 52 then 1 else bif s74 x.2.2.2.2.2.2.2.1 1 127 then 1 else
  bif s74 x.2.2.2.2.2.2.2.2.1 0 1439 then 1 else bif s74 x.2.2.2.2.2.2.2.2.2.1 (IntKind.i64.wrap (x.2.2.2.2.2.2.2.2.1 + 1)) 2880 then 1 else bif s74 x.2.2.2.2.2.2.2.2.2.2.1 (-1440) 1440 then 1 else
  bif s74 x.2.2.2.2.2.2.2.2.2.2.2.1 0 60 then 1 else bif s74 x.2.2.2.2.2.2.2.2.2.2.2.2.1 0 60 then 1 else
  bif (IntKind.i64.wrap (x.2.2.2.2.2.2.2.2.2.2.2.1 + x.2.2.2.2.2.2.2.2.2.2.2.2.1)) == (0 : Int) then 3 else changesFault x.2.2.2.2.2.2.2.2.2.2.2.2.2.1
def srOrd (q x : Sr2) : Bool := leS x.1 q.1
def seriesFault (l : List Sr2) : Int := if l.length > 100 then 2 else lstG srBad srOrd none l
def s76 := srBad
def s17 := seriesFault
def s11 := seriesFault
theorem h76 (x : Sr2) (hw : WFs A76 (x, ())) : ∃ k, f76 s72 s74 s136 k x = some (s76 x, ()) := by
  refine ⟨0, ?_⟩
  unfold f76 s76 srBad s72 s136
  simp only [List.all_cons, List.all_nil, Bool.and_true]
  cases key x.1
  · rfl
  cases key x.2.1
  · rfl
  cases key x.2.2.1
  · rfl
  cases key x.2.2.2.1
  · rfl
  simp only [Bool.not_true, Bool.and_true, Bool.true_and, cond_false, Bool.and_self]
  cases decide ((x.1.size : Int) > 30)
  rotate_left
  · rfl
  cases sEq x.2.2.1 x.2.2.2.1
  rotate_left
  · rfl
  cases s74 x.2.2.2.2.1 0 x.2.2.2.2.2.1
  rotate_left
  · rfl
  cases decide (x.2.2.2.2.2.1 > 4000)
  rotate_left
  · rfl
  cases s74 x.2.2.2.2.2.2.1 1 52
  rotate_left
  · rfl
  cases s74 x.2.2.2.2.2.2.2.1 1 127
  rotate_left
  · rfl
  cases s74 x.2.2.2.2.2.2.2.2.1 0 1439
  rotate_left
  · rfl
  cases s74 x.2.2.2.2.2.2.2.2.2.1 (IntKind.i64.wrap (x.2.2.2.2.2.2.2.2.1 + 1)) 2880
  rotate_left
  · rfl
  cases s74 x.2.2.2.2.2.2.2.2.2.2.1 (-1440) 1440
  rotate_left
  · rfl
  cases s74 x.2.2.2.2.2.2.2.2.2.2.2.1 0 60
  rotate_left
  · rfl
  cases s74 x.2.2.2.2.2.2.2.2.2.2.2.2.1 0 60
  rotate_left
  · rfl
  cases (IntKind.i64.wrap (x.2.2.2.2.2.2.2.2.2.2.2.1 + x.2.2.2.2.2.2.2.2.2.2.2.2.1)) == (0 : Int) <;> rfl
theorem h17 (l : List Sr2) (hw : WFs A17 (l, ())) : ∃ k, f17 s76 k l = some (s17 l, ()) := by
  simp only [WFs, WF] at hw
  have hl := hw.1.1
  clear hw
  refine ⟨l.length + 1, ?_⟩
  unfold f17 s17 seriesFault
  rw [show (100 : Int) = ((100 : Nat) : Int) from rfl, len_gt]
  by_cases hn : l.length > 100
  · simp [hn]
  · simp only [hn, decide_false, cond_false, if_false]
    rw [iterG srBad srOrd (τ := Int × Unit) l (fun e => (e, ())) (Nat.lt_succ_self _) ?h1 ?h2]
    · by_cases h : lstG srBad srOrd none l = 0
      · rw [if_pos h, h]; rfl
      · rw [if_neg h]; rfl
    case h1 =>
      intro j c hx
      have hstep := oneG_at (τ := Int × Unit) srOrd hx hl (ByteArray.empty, ByteArray.empty, ByteArray.empty, ByteArray.empty, (0 : Int), (0 : Int), (0 : Int), (0 : Int), (0 : Int), (0 : Int), (0 : Int), (0 : Int), (0 : Int), ([] : List WT3), ()) (A := some (.inr (.inl (7, ())))) (B := some (.inl ((((j + 1 : Nat) : Int), ()), ())))
      simp only [lt_at hx, inR_at hx, rd_at hx, wrap_succ hx hl, cond_true, s76]
      unfold oneG
      by_cases hb : srBad c = 0
      · have e : (srBad c != 0) = false := by simpa using hb
        rw [e]
        simp only [cond_false]
        refine hstep.trans ?_
        cases ordG srOrd (preG l j) c <;> rfl
      · have e : (srBad c != 0) = true := by simpa using hb
        rw [e]
        simp only [cond_true, hb, if_false]
    case h2 => simp
end Go.Vm
